/- Plain: fits, the program's against the reference's. -/
import Derived.Test.YtofagdjijpjlgaaDoorSaq
set_option linter.unusedVariables false
set_option linter.unusedSimpArgs false
namespace Go.Proofs.YtofagdjijpjlgaaDoor.X
open Go.RowKit Go.Proofs.YtofagdjijpjlgaaDoorW.PrintWords Go.Proofs.YtofagdjijpjlgaaDoorW.PrintLast Go.Proofs.YtofagdjijpjlgaaDoor.PBase Go.Proofs.YtofagdjijpjlgaaDoor.PDays Go.Proofs.YtofagdjijpjlgaaDoor.PElem

theorem df_all (s : ByteArray) (h : ∀ j : Nat, j < s.size → isD (bt s j) = true) : ∀ (f pos : Nat), Lib.idxFuncFrom notDigit true s f pos = -1
  | 0, pos => rfl
  | f + 1, pos => by
    unfold Lib.idxFuncFrom
    by_cases hp : pos < s.size
    · rw [if_pos hp]
      have hb : bt s pos = ((s[pos]'hp).toNat : Int) := by have := bt_at s pos (by simpa using hp); simpa using this.symm
      have hd := (isD_iff _).1 (h pos hp)
      rw [decode_ascii s pos hp (by omega)]
      have hn : notDigit (s[pos]'hp).toNat = false := by unfold notDigit; simp; omega
      rw [if_neg (by simp [hn])]
      exact df_all s h f (pos + 1)
    · rw [if_neg hp]
/-- sound, of a code of 13, 14 or 18 digits. -/
theorem sound_is (v : ByteArray) (hs : v.size = 13 ∨ v.size = 14 ∨ v.size = 18) (h : ∀ j : Nat, j < v.size → isD (bt v j) = true) (k : Nat) (hk : 30 ≤ k) : gtin_sound.f k v = some (decide (Int.tmod (sumOf v) 10 = 0)) := by
  obtain ⟨k, rfl⟩ : ∃ m, k = m + 1 := ⟨k - 1, by omega⟩
  unfold gtin_sound.f gtin_Check.f
  rw [if_neg (by omega)]
  have hd : gtin_digitFault.f v = some (-1) := by unfold gtin_digitFault.f Lib.idxFunc; rw [df_all v h]
  rw [hd]
  simp only [Option.bind_some]
  rw [if_neg (by omega), if_neg (by omega), if_neg (by omega)]
  have key : gtin_Check.j0 (k + 1) v true = if Int.tmod (sumOf v) 10 = 0 then some (0, 0) else some (22, wrap64 ((v.size : Int) - 1)) := by
    simp only [gtin_Check.j0]
    rw [if_pos trivial, gsum v (by omega) k (by omega)]
    rfl
  rcases hs with h | h | h
  · rw [if_pos (by omega), show ((v.size : Int) == 13) = true from beq_iff_eq.2 (by omega), key]
    by_cases e : Int.tmod (sumOf v) 10 = 0
    · rw [if_pos e, decide_eq_true e]; rfl
    · rw [if_neg e, decide_eq_false e]; rfl
  · rw [if_neg (by omega), if_pos (by omega), show ((v.size : Int) == 14) = true from beq_iff_eq.2 (by omega), key]
    by_cases e : Int.tmod (sumOf v) 10 = 0
    · rw [if_pos e, decide_eq_true e]; rfl
    · rw [if_neg e, decide_eq_false e]; rfl
  · rw [if_neg (by omega), if_neg (by omega), show ((v.size : Int) == 18) = true from beq_iff_eq.2 (by omega), key]
    by_cases e : Int.tmod (sumOf v) 10 = 0
    · rw [if_pos e, decide_eq_true e]; rfl
    · rw [if_neg e, decide_eq_false e]; rfl
theorem code_rows : ∀ r ∈ rws, r.kind = 0 → r.least = r.most ∧ (r.least = 13 ∨ r.least = 14 ∨ r.least = 18) := by decide +kernel
theorem rows_most : ∀ r ∈ rws, 1 ≤ r.least ∧ r.most ≤ 90 ∧ r.ai ≠ [] ∧ r.ai.length ≤ 4 ∧ (r.kind = 0 ∨ r.kind = 1 ∨ r.kind = 2 ∨ r.kind = 3) := by decide +kernel
theorem isC_of_isD {c : Int} (h : isD c = true) : isC c = true := by unfold isC; rw [h]; rfl
theorem bt_byte (v : ByteArray) (i : Nat) : 0 ≤ bt v (i : Int) ∧ bt v (i : Int) < 256 := by
  rw [bs_rd, Int.toNat_natCast, List.getD_eq_getElem?_getD]
  by_cases h : i < (bytesOf v).length
  · rw [List.getElem?_eq_getElem h]; exact bs_range v _ (List.getElem_mem h)
  · rw [List.getElem?_eq_none (by omega)]; decide
/-- The value's own tests. -/
def tailR (v : ByteArray) (cd dy : Bool) : Int := if cd = true ∧ Int.tmod (sumOf v) 10 ≠ 0 then 22 else if dy = true then (if isDayB (tw v 0) (tw v 2) (tw v 4) = true then 0 else 28) else 0
theorem tailR_bad (v : ByteArray) {cd : Bool} (dy : Bool) (h1 : cd = true) (h2 : ¬ Int.tmod (sumOf v) 10 = 0) : tailR v cd dy = 22 := by unfold tailR; rw [if_pos ⟨h1, h2⟩]
theorem tailR_ok (v : ByteArray) {cd : Bool} (dy : Bool) (h : cd = true → Int.tmod (sumOf v) 10 = 0) : tailR v cd dy = if dy = true then (if isDayB (tw v 0) (tw v 2) (tw v 4) = true then 0 else 28) else 0 := by unfold tailR; rw [if_neg (fun z => z.2 (h z.1))]
theorem allFrom_step (p : Int → Bool) (v : ByteArray) (e i : Nat) (hi : i < v.size) : allFrom p v (e + 1) i = (p (bt v i) && allFrom p v e (i + 1)) := by
  simp only [allFrom]
  rw [if_pos hi]
  cases p (bt v i) <;> simp
theorem rfits_end (a v : ByteArray) (pl dg : Bool) (le mo : Int) (cd dy am : Bool) (h6 : dy = true → v.size = 6) (hv : v.size ≤ 100) (k : Nat) (hk : 200 ≤ k) :
    larderref02_fits.l0 k (v.size : Int) a v pl dg le mo cd dy am = some (tailR v cd dy) := by
  obtain ⟨k, rfl⟩ : ∃ m, k = m + 2 := ⟨k - 2, by omega⟩
  have hj : ∀ b : Bool, larderref02_fits.j2 (k + 1) b a v pl dg le mo cd dy am = if b = true then some 22 else some (if dy = true then (if isDayB (tw v 0) (tw v 2) (tw v 4) = true then 0 else 28) else 0) := by
    intro b
    simp only [larderref02_fits.j2]
    by_cases hb : b = true
    · rw [if_pos hb, if_pos hb]
    · rw [if_neg hb, if_neg hb]
      by_cases hd : dy = true
      · rw [if_pos hd, if_pos hd, risDay v (h6 hd) k (by omega)]
        simp only [Option.bind_some]
        split <;> rfl
      · rw [if_neg hd, if_neg hd]
  simp only [larderref02_fits.l0]
  rw [if_neg (by omega)]
  by_cases hc : cd = true
  · rw [if_pos hc, rsum v (by omega) (k + 1) (by omega)]
    simp only [Option.bind_some]
    rw [hj]
    by_cases hs : Int.tmod (sumOf v) 10 = 0
    · rw [tailR_ok v dy (fun _ => hs), show (Int.tmod (sumOf v) 10 != 0) = false from by simp [hs], if_neg Bool.false_ne_true]
    · rw [tailR_bad v dy hc hs, show (Int.tmod (sumOf v) 10 != 0) = true from by simp [hs], if_pos rfl]
  · rw [if_neg hc, hj, if_neg Bool.false_ne_true, tailR_ok v dy (fun z => absurd z hc)]
theorem rfits_loop (a v : ByteArray) (pl dg : Bool) (le mo : Int) (cd dy am : Bool) (h6 : dy = true → v.size = 6) (hv : v.size ≤ 100) (e : Nat) : ∀ (k i : Nat), i + e = v.size → 2 * e + 200 ≤ k →
    larderref02_fits.l0 k (i : Int) a v pl dg le mo cd dy am = some (if allFrom (if dg = true then isD else isC) v e i = true then tailR v cd dy else if dg = true then 20 else 27) := by
  induction e with
  | zero =>
    intro k i h hk
    obtain rfl : i = v.size := by omega
    rw [rfits_end a v pl dg le mo cd dy am h6 hv k (by omega)]
    rfl
  | succ e ih =>
    intro k i h hk
    obtain ⟨k, rfl⟩ : ∃ m, k = m + 2 := ⟨k - 2, by omega⟩
    have hi : i < v.size := by omega
    have w3 : wrap64 ((i : Int) + 1) = ((i + 1 : Nat) : Int) := by rw [wrap_id (by omega) (by omega)]; omega
    obtain ⟨b0, b1⟩ := bt_byte v i
    have hj : ∀ b : Bool, larderref02_fits.j1 (k + 1) (i : Int) b a v pl dg le mo cd dy am = if b = true then some 20 else if isC (bt v i) = true then some (if allFrom (if dg = true then isD else isC) v e (i + 1) = true then tailR v cd dy else if dg = true then 20 else 27) else some 27 := by
      intro b
      simp only [larderref02_fits.j1]
      by_cases hb : b = true
      · rw [if_pos hb, if_pos hb]
      · rw [if_neg hb, if_neg hb, if_pos (by omega), if_pos (by omega), rchar _ b0 b1 k (by omega)]
        simp only [Option.bind_some]
        rw [w3, ih k (i + 1) (by omega) (by omega)]
    simp only [larderref02_fits.l0]
    rw [if_pos (by omega), allFrom_step _ v e i hi]
    cases dg with
    | true =>
      simp only [if_true]
      rw [if_pos (by omega), rIsDigit]
      simp only [Option.bind_some]
      rw [hj]
      by_cases hd : isD (bt v i) = true
      · rw [hd, if_neg (by simp), if_pos (isC_of_isD hd)]; simp
      · have hd : isD (bt v i) = false := by simpa using hd
        rw [hd, if_pos (by simp)]; simp
    | false =>
      rw [if_neg (by simp), hj, if_neg (by simp)]
      simp only [Bool.false_eq_true, if_false]
      by_cases hd : isC (bt v i) = true
      · rw [if_pos hd, hd]; simp
      · rw [if_neg hd]
        have hd : isC (bt v i) = false := by simpa using hd
        rw [hd]; simp
/-- fits: both. -/
theorem fits_both (r : Row5) (hr : r ∈ rws) (a v : ByteArray) (ha : a.toList = r.ai) (hv : v.size ≤ 140737488351232) :
    ∃ e, gtin_fits.f 200 (S r) r.least r.most r.kind r.plain v = some e ∧ (e = 0 → (v.size : Int) ≤ r.most) ∧ ∀ (l : List S23) (k : Nat), l.length ≤ 1000000 → l.length + 1000 ≤ k → larderref02_fits.f k l a v = some (if besE l a.toList = 0 then e else besE l a.toList) := by
  obtain ⟨m1, m2, m3, m4, m5⟩ := rows_most r hr
  obtain ⟨e, he⟩ : ∃ e, e = (if (v.size : Int) < r.least then 3 else if (v.size : Int) > r.most then 26 else if allFrom (if decide (r.kind ≠ 3) = true then isD else isC) v v.size 0 = true then tailR v (decide (r.kind = 0)) (decide (r.kind = 1)) else if decide (r.kind ≠ 3) = true then 20 else 27 : Int) := ⟨_, rfl⟩
  refine ⟨e, ?_, ?_, ?_⟩
  · rw [he]
    unfold gtin_fits.f
    rw [if_pos hv]
    by_cases h1 : (v.size : Int) < r.least
    · rw [if_pos h1, if_pos h1]
    rw [if_neg h1, if_neg h1]
    by_cases h2 : (v.size : Int) > r.most
    · rw [if_pos (by omega), if_pos h2]
    rw [if_neg (by omega), if_neg h2]
    rcases m5 with hk | hk | hk | hk
    · obtain ⟨c1, c2⟩ := code_rows r hr hk
      rw [if_pos hk, hk]
      simp only [show decide ((0 : Int) ≠ 3) = true from rfl, if_true]
      by_cases ha : allFrom isD v v.size 0 = true
      · rw [if_pos ha, if_pos ha]
        have hd : ∀ j : Nat, j < v.size → isD (bt v j) = true := fun j hj => (allFrom_iff isD v v.size 0 (by omega)).1 ha j (by omega) hj
        rw [sound_is v (by omega) hd 200 (by omega)]
        simp only [Option.bind_some]
        by_cases hs : Int.tmod (sumOf v) 10 = 0
        · rw [tailR_ok v _ (fun _ => hs), decide_eq_true hs]; rfl
        · rw [tailR_bad v _ (by decide) hs, decide_eq_false hs]; rfl
      · rw [if_neg ha, if_neg ha]
    · obtain ⟨hl, hm⟩ := day_rows r hr hk
      rw [if_neg (by omega), if_pos hk, hk]
      simp only [show decide ((1 : Int) ≠ 3) = true from rfl, if_true]
      by_cases ha : allFrom isD v v.size 0 = true
      · rw [if_pos ha, if_pos ha]
        have hday : gtin_isDay.f v = some (isDayB (tw v 0) (tw v 2) (tw v 4)) := by unfold gtin_isDay.f; rw [if_pos (by omega)]
        rw [hday]
        simp only [Option.bind_some]
        rw [tailR_ok v _ (fun z => absurd z (by decide))]; rfl
      · rw [if_neg ha, if_neg ha]
    · rw [if_neg (by omega), if_neg (by omega), if_pos hk, hk]
      simp only [show decide ((2 : Int) ≠ 3) = true from rfl, if_true]
      rw [tailR_ok v _ (fun z => absurd z (by decide))]; rfl
    · rw [if_neg (by omega), if_neg (by omega), if_neg (by omega), hk]
      rw [tailR_ok v _ (fun z => absurd z (by decide))]; rfl
  · intro h0
    rw [h0] at he
    by_cases h1 : (v.size : Int) < r.least
    · rw [if_pos h1] at he; omega
    rw [if_neg h1] at he
    by_cases h2 : (v.size : Int) > r.most
    · rw [if_pos h2] at he; omega
    omega
  · intro l k hl hk
    unfold larderref02_fits.f
    obtain ⟨k, rfl⟩ : ∃ m, k = m + 9 := ⟨k - 9, by omega⟩
    rw [kind_some r hr a ha k, rbeside l a (by omega) (k + 9) (by omega)]
    simp only [Option.bind_some, if_true]
    by_cases hb : besE l a.toList = 0
    · rw [if_pos hb, if_pos hb, he]
      by_cases h1 : (v.size : Int) < r.least
      · rw [if_pos h1, if_pos h1]
      rw [if_neg h1, if_neg h1]
      by_cases h2 : (v.size : Int) > r.most
      · rw [if_pos h2, if_pos h2]
      rw [if_neg h2, if_neg h2]
      have h6 : decide (r.kind = 1) = true → v.size = 6 := by
        intro z
        obtain ⟨hl, hm⟩ := day_rows r hr (of_decide_eq_true z)
        omega
      exact rfits_loop a v r.plain (decide (r.kind ≠ 3)) r.least r.most (decide (r.kind = 0)) (decide (r.kind = 1)) (amountAi r.ai) h6 (by omega) v.size (k + 9) 0 (by omega) (by omega)
    · rw [if_neg hb, if_neg hb]
end Go.Proofs.YtofagdjijpjlgaaDoor.X
