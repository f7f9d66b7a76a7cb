/- Plain: Print, the program's against the reference's. -/
import Derived.Test.YtofagdjijpjlgaaDoorSbq
import Derived.Test.YtofagdjijpjlgaaDoorBdq
set_option linter.unusedVariables false
set_option linter.unusedSimpArgs false
namespace Go.Proofs.YtofagdjijpjlgaaDoor.X
open Go.RowKit Go.Proofs.YtofagdjijpjlgaaDoorW.PrintWords Go.Proofs.YtofagdjijpjlgaaDoorW.PrintLast Go.Proofs.YtofagdjijpjlgaaDoor.PBase Go.Proofs.YtofagdjijpjlgaaDoor.PDays Go.Proofs.YtofagdjijpjlgaaDoor.PElem

theorem ba_app (acc : List UInt8) (b : ByteArray) : (⟨acc.toArray⟩ : ByteArray) ++ b = ⟨(acc ++ b.data.toList).toArray⟩ := by
  apply ByteArray.ext
  simp [ByteArray.data_append]
theorem put_bes (L : List S23) (hne : ∀ x ∈ L, x.f0.data.toList ≠ []) (a : List UInt8) : putE (snL L 0) a = besE L a := by
  unfold putE besE
  rw [snL_has, snL_has]
  by_cases h : heldL L a = true
  · rw [if_pos h, if_pos h]
  · rw [if_neg h, if_neg h]
    unfold otherOf
    by_cases h1 : a = [48, 49]
    · rw [if_pos h1, if_pos h1]
    · rw [if_neg h1, if_neg h1]
      by_cases h2 : a = [48, 50]
      · rw [if_pos h2, if_pos h2]
      · rw [if_neg h2, if_neg h2, if_neg]
        unfold heldL
        intro z
        obtain ⟨x, hx, he⟩ := List.any_eq_true.1 z
        rw [beq_iff_eq, ByteArray.toList_eq] at he
        exact hne x hx he
theorem told_some (a : ByteArray) {r : Row5} (h : gtin_find.f a = some (S r, r.least, r.most, r.kind, r.plain, true)) : told (findFrom a.toList 40 0) = (S r, r.least, r.most, r.kind, r.plain, true) := Option.some.inj h
theorem told_none (a : ByteArray) (h : gtin_find.f a = some ((⟨#[]⟩ : ByteArray), 0, 0, 0, false, false)) : told (findFrom a.toList 40 0) = ((⟨#[]⟩ : ByteArray), 0, 0, 0, false, false) := Option.some.inj h
theorem rfits_none (l : List S23) (a v : ByteArray) (hn : ∀ r ∈ rws, r.ai ≠ a.toList) (k : Nat) (hk : 9 ≤ k) : larderref02_fits.f k l a v = some 23 := by
  obtain ⟨k, rfl⟩ : ∃ m, k = m + 9 := ⟨k - 9, by omega⟩
  unfold larderref02_fits.f
  rw [kind_none a hn k]
  simp only [Option.bind_some]
  rw [if_neg Bool.false_ne_true]
theorem size_toList (a : ByteArray) : a.toList.length = a.size := by rw [ByteArray.toList_eq, Array.length_toList]; rfl
theorem rd_get (l : List S23) (i : Nat) (h : i < l.length) : rd_T23 l (i : Int) = l[i] := by
  unfold rd_T23; rw [Int.toNat_natCast, List.getD_eq_getElem?_getD, List.getElem?_eq_getElem h]; rfl
theorem print_loop (l : List S23) (hl : l.length ≤ 1000000) (hsz : ∀ x ∈ l, x.f0.size ≤ 140737488351232 ∧ x.f1.size ≤ 140737488351232) (e : Nat) :
    ∀ (f i : Nat) (acc : List UInt8), i + e = l.length → e < f → acc.length ≤ 100 * i → (∀ x ∈ l.take i, x.f0.data.toList ≠ []) →
    ∃ r, prL l f i (snL (l.take i) 0) acc = some r ∧ ∀ k, e + l.length + 1010 ≤ k → larderref02_Print.l0 k l ⟨acc.toArray⟩ (i : Int) = some r := by
  induction e with
  | zero =>
    intro f i acc h hf ha hne
    obtain ⟨f, rfl⟩ : ∃ m, f = m + 1 := ⟨f - 1, by omega⟩
    simp only [prL]
    rw [if_neg (by omega), List.take_of_length_le (by omega), snL_lone]
    obtain ⟨lo, hlo⟩ : ∃ lo, lonL (heldL l [48, 50]) (heldL l [51, 55]) l 0 = lo := ⟨_, rfl⟩
    rw [hlo]
    have href : ∀ k, l.length + 1010 ≤ k → larderref02_Print.l0 k l ⟨acc.toArray⟩ (i : Int) = if lo ≥ 0 then some ((⟨#[]⟩ : ByteArray), 25, lo) else if acc.length > 512 then some (⟨#[]⟩, 1, (l.length : Int)) else some (⟨acc.toArray⟩, 0, 0) := by
      intro k hk
      obtain ⟨k, rfl⟩ : ∃ m, k = m + 1 := ⟨k - 1, by omega⟩
      simp only [larderref02_Print.l0]
      rw [if_neg (by omega), rlonely_f l (by omega) k (by omega), hlo]
      simp only [Option.bind_some]
      have e1 : (((⟨acc.toArray⟩ : ByteArray).size : Nat) : Int) = (acc.length : Int) := by rw [show (⟨acc.toArray⟩ : ByteArray).size = acc.length from by simp [ByteArray.size]]
      rw [e1]
      by_cases h1 : lo ≥ 0
      · rw [if_pos h1, if_pos h1]
      · rw [if_neg h1, if_neg h1]
        by_cases h2 : acc.length > 512
        · rw [if_pos (by omega), if_pos h2]
        · rw [if_neg (by omega), if_neg h2]
    by_cases h1 : lo ≥ 0
    · rw [if_pos h1]; exact ⟨_, rfl, fun k hk => by rw [href k (by omega), if_pos h1]⟩
    · rw [if_neg h1]
      by_cases h2 : acc.length > 512
      · rw [if_pos h2]; exact ⟨_, rfl, fun k hk => by rw [href k (by omega), if_neg h1, if_pos h2]⟩
      · rw [if_neg h2]; exact ⟨_, rfl, fun k hk => by rw [href k (by omega), if_neg h1, if_neg h2]⟩
  | succ e ih =>
    intro f i acc h hf ha hne
    obtain ⟨f, rfl⟩ : ∃ m, f = m + 1 := ⟨f - 1, by omega⟩
    have hi : i < l.length := by omega
    have hg := rd_get l i hi
    obtain ⟨x, hx⟩ : ∃ x, l[i] = x := ⟨_, rfl⟩
    rw [hx] at hg
    have hxs := hsz x (by rw [← hx]; exact List.getElem_mem hi)
    have htk : l.take (i + 1) = l.take i ++ [x] := by rw [List.take_succ_eq_append_getElem hi, hx]
    have hlt : (l.take i).length = i := by rw [List.length_take]; omega
    have w3 : wrap64 ((i : Int) + 1) = ((i + 1 : Nat) : Int) := by rw [wrap_id (by omega) (by omega)]; omega
    have hstep : ∀ k, larderref02_Print.l0 (k + 1) l ⟨acc.toArray⟩ (i : Int) = (larderref02_fits.f k (l.take i) x.f0 x.f1).bind fun t133 => (if t133 = 0 then ((larderref02_kindOf.f k x.f0).bind fun bt135 => (if acc.length + x.f0.size ≤ 9223372036854775807 then (if acc.length + x.f0.size + x.f1.size ≤ 9223372036854775807 then (if bt135.1 = true then (larderref02_Print.l0 k l ⟨(acc ++ (x.f0 ++ x.f1).data.toList).toArray⟩ ((i + 1 : Nat) : Int)) else (if i + 1 < l.length then (if acc.length + x.f0.size + x.f1.size + 1 ≤ 9223372036854775807 then (larderref02_Print.l0 k l ⟨(acc ++ (x.f0 ++ x.f1).data.toList ++ [29]).toArray⟩ ((i + 1 : Nat) : Int)) else none) else (larderref02_Print.l0 k l ⟨(acc ++ (x.f0 ++ x.f1).data.toList).toArray⟩ ((i + 1 : Nat) : Int)))) else none) else none)) else (some ((⟨#[]⟩ : ByteArray), t133, (i : Int)))) := by
      intro k
      simp only [larderref02_Print.l0]
      rw [if_pos (by omega), if_pos (by omega), if_pos (by omega), hg, w3, Int.toNat_natCast]
      have s0 : (⟨acc.toArray⟩ : ByteArray).size = acc.length := by simp [ByteArray.size]
      have s1 : ((⟨acc.toArray⟩ : ByteArray) ++ x.f0).size = acc.length + x.f0.size := by rw [ByteArray.size_append, s0]
      have s2 : ((⟨acc.toArray⟩ : ByteArray) ++ x.f0 ++ x.f1).size = acc.length + x.f0.size + x.f1.size := by rw [ByteArray.size_append, s1]
      have a2 : (⟨acc.toArray⟩ : ByteArray) ++ x.f0 ++ x.f1 = ⟨(acc ++ (x.f0 ++ x.f1).data.toList).toArray⟩ := by
        apply ByteArray.ext; simp [ByteArray.data_append]
      have s3 : (strOfNums [29]).size = 1 := by decide
      have a3 : (⟨(acc ++ (x.f0 ++ x.f1).data.toList).toArray⟩ : ByteArray) ++ strOfNums [29] = ⟨(acc ++ (x.f0 ++ x.f1).data.toList ++ [29]).toArray⟩ := ba_app _ _
      simp only [Option.bind_some]
      rw [s0, s1, s2, a2, s3, a3]
      have e1 : (((i + 1 : Nat) : Int) < (l.length : Int)) ↔ i + 1 < l.length := by omega
      simp only [e1]
    simp only [prL]
    rw [if_pos hi, hg]
    rcases find_spec x.f0 with ⟨r, hr, hai, hf'⟩ | ⟨hn, hf'⟩
    · obtain ⟨m1, m2, m3, m4, m5⟩ := rows_most r hr
      rw [told_some x.f0 hf']
      simp only [if_true]
      obtain ⟨fe, hfe, hfs, hfr⟩ := fits_both r hr x.f0 x.f1 hai.symm hxs.2
      rw [put_bes _ hne, ← ByteArray.toList_eq]
      by_cases hb : besE (l.take i) x.f0.toList = 0
      · rw [if_pos hb, hfe]
        simp only [Option.bind_some]
        by_cases he : fe = 0
        · rw [if_pos he]
          have q0 : x.f0.size ≤ 4 := by rw [← size_toList, ← hai]; exact m4
          have q1 : (x.f1.size : Int) ≤ r.most := hfs he
          have q3 : (x.f0 ++ x.f1).data.toList.length = x.f0.size + x.f1.size := by rw [Array.length_toList]; exact ByteArray.size_append
          rw [if_pos (by omega)]
          have hsn : putS (snL (l.take i) 0) x.f0.toList (i : Int) = snL (l.take (i + 1)) 0 := by
            unfold putS
            rw [put_bes _ hne, if_pos hb, htk, snL_snoc, hlt, ByteArray.toList_eq, Int.zero_add]
          rw [hsn]
          have hne' : ∀ y ∈ l.take (i + 1), y.f0.data.toList ≠ [] := by
            intro y hy
            rw [htk] at hy
            rcases List.mem_append.1 hy with h' | h'
            · exact hne y h'
            · rw [List.mem_singleton] at h'
              rw [h', ← ByteArray.toList_eq, ← hai]; exact m3
          obtain ⟨tl, htl⟩ : ∃ tl : List UInt8, tl = (if r.plain = false ∧ i + 1 < l.length then [29] else []) := ⟨_, rfl⟩
          have htl1 : tl.length ≤ 1 := by rw [htl]; split <;> simp
          rw [← htl]
          obtain ⟨res, h1, h2⟩ := ih f (i + 1) (acc ++ (x.f0 ++ x.f1).data.toList ++ tl) (by omega) (by omega) (by rw [List.length_append, List.length_append, q3]; omega) hne'
          refine ⟨res, h1, fun k hk => ?_⟩
          obtain ⟨k, rfl⟩ : ∃ m, k = m + 10 := ⟨k - 10, by omega⟩
          rw [show k + 10 = (k + 9) + 1 from rfl, hstep, hfr (l.take i) (k + 9) (by omega) (by omega), if_pos hb]
          simp only [Option.bind_some]
          rw [if_pos he, kind_some r hr x.f0 hai.symm k]
          simp only [Option.bind_some]
          rw [if_pos (by omega), if_pos (by omega)]
          have h2' := h2 (k + 9) (by omega)
          by_cases hp : r.plain = true
          · rw [if_pos hp]
            rw [htl, if_neg (by simp [hp]), List.append_nil] at h2'
            exact h2'
          · rw [if_neg hp]
            have hp : r.plain = false := by simpa using hp
            by_cases hq : i + 1 < l.length
            · rw [if_pos hq, if_pos (by omega)]
              rw [htl, if_pos ⟨hp, hq⟩] at h2'
              exact h2'
            · rw [if_neg hq]
              rw [htl, if_neg (by simp [hq]), List.append_nil] at h2'
              exact h2'
        · rw [if_neg he]
          refine ⟨_, rfl, fun k hk => ?_⟩
          obtain ⟨k, rfl⟩ : ∃ m, k = m + 1 := ⟨k - 1, by omega⟩
          rw [hstep, hfr (l.take i) k (by omega) (by omega), if_pos hb]
          simp only [Option.bind_some]
          rw [if_neg he]
      · rw [if_neg hb]
        refine ⟨_, rfl, fun k hk => ?_⟩
        obtain ⟨k, rfl⟩ : ∃ m, k = m + 1 := ⟨k - 1, by omega⟩
        rw [hstep, hfr (l.take i) k (by omega) (by omega), if_neg hb]
        simp only [Option.bind_some]
        rw [if_neg hb]
    · rw [told_none x.f0 hf']
      simp only
      rw [if_neg Bool.false_ne_true]
      refine ⟨_, rfl, fun k hk => ?_⟩
      obtain ⟨k, rfl⟩ : ∃ m, k = m + 1 := ⟨k - 1, by omega⟩
      rw [hstep, rfits_none _ _ _ hn k (by omega)]
      rfl
/-- Print: both. -/
theorem print_both (l : List S23) (hl : l.length ≤ 1000000) (hsz : ∀ x ∈ l, x.f0.size ≤ 140737488351232 ∧ x.f1.size ≤ 140737488351232) :
    ∃ r, gtin_Print.f l = some r ∧ ∀ k, 2 * l.length + 1010 ≤ k → larderref02_Print.f k l = some r := by
  obtain ⟨r, h1, h2⟩ := print_loop l hl hsz l.length (l.length + 1) 0 [] (by omega) (by omega) (by simp) (by simp)
  refine ⟨r, ?_, fun k hk => h2 k (by omega)⟩
  unfold gtin_Print.f
  rw [if_pos hsz]
  exact h1
end Go.Proofs.YtofagdjijpjlgaaDoor.X
