/- Plain facts: the program's and the reference's Digit, Check, Normal, Short and Pack come to the same; what normal and short forms are. -/
import Derived.Test.YtofagdjijpjlgaaXm
import Derived.Test.YtofagdjijpjlgaaXc
import Derived.Test.YtofagdjijpjlgaaPUnitsx1
set_option linter.unusedVariables false
namespace Go.Proofs.Ytofagdjijpjlgaa.X
open Go.RowKit Go.Proofs.YtofagdjijpjlgaaW.PrintWords Go.Proofs.YtofagdjijpjlgaaW.PrintLast Go.Proofs.Ytofagdjijpjlgaa.PCodes Go.Proofs.Ytofagdjijpjlgaa.PNorm

theorem rsum_loop (s : ByteArray) (hs : s.size ≤ 1000000) (d : Nat) : ∀ (k i : Nat), i ≤ s.size → s.size - i = d → d < k →
    larderref02_sum.l0 k s (sm (bytesOf s) i) i = some (sm (bytesOf s) s.size) := by
  induction d with
  | zero =>
    intro k i h1 hd hk
    obtain ⟨k, rfl⟩ : ∃ m, k = m + 1 := ⟨k - 1, by omega⟩
    have : i = s.size := by omega
    subst this
    simp only [larderref02_sum.l0]
    rw [if_neg (by omega)]
  | succ d ih =>
    intro k i h1 hd hk
    obtain ⟨k, rfl⟩ : ∃ m, k = m + 1 := ⟨k - 1, by omega⟩
    have hr := sm_range (bytesOf s) i
    have hl := bytesOf_length s
    have e1 : wrap64 ((s.size : Int) - 1) = s.size - 1 := wrap_id (by omega) (by omega)
    have e2 : wrap64 ((s.size : Int) - 1 - i) = s.size - 1 - i := wrap_id (by omega) (by omega)
    have e3 : wrap64 ((i : Int) + 1) = (i + 1 : Nat) := by rw [wrap_id (by omega) (by omega)]; omega
    have eb : bt s ((s.size : Int) - 1 - i) = (bytesOf s).getD ((bytesOf s).length - 1 - i) 0 := by
      rw [bs_rd, hl]; congr 1; omega
    have es : sm (bytesOf s) (i + 1) = sm (bytesOf s) i + wt i * (((bytesOf s).getD ((bytesOf s).length - 1 - i) 0 - 48) % 256) := rfl
    have et : Int.tmod (i : Int) 2 = ((i % 2 : Nat) : Int) := by rw [Int.tmod_eq_emod_of_nonneg (by omega)]; omega
    simp only [larderref02_sum.l0]
    rw [if_pos (by omega), e1, e2, if_pos (by omega), if_pos (by omega), eb, et]
    have h2 := ih k (i + 1) (by omega) (by omega) (by omega)
    by_cases h : i % 2 = 1
    · have hw : wt i = 3 := by simp [wt, h]
      rw [if_pos (by omega), e3]
      rw [wrap_id (by omega) (by omega)]
      rw [es, hw] at h2
      exact h2
    · have hw : wt i = 1 := by simp [wt, h]
      rw [if_neg (by omega), e3]
      rw [wrap_id (by omega) (by omega)]
      rw [es, hw, Int.one_mul] at h2
      exact h2
theorem rsum_f (s : ByteArray) (hs : s.size ≤ 1000000) (k : Nat) (hk : s.size < k) : larderref02_sum.f k s = some (sm (bytesOf s) s.size) := by
  have := rsum_loop s hs s.size k 0 (by omega) (by omega) hk
  simpa [larderref02_sum.f, sm] using this
theorem isDigit_f (c : Int) : larderref02_isDigit.f c = some (decide (dig c)) := by
  unfold larderref02_isDigit.f
  have hd : dig c ↔ (48 ≤ c ∧ c ≤ 57) := Iff.rfl
  by_cases h : c ≥ 48
  · rw [if_pos h]
    by_cases h2 : c ≤ 57
    · rw [decide_eq_true h2, decide_eq_true (hd.2 ⟨h, h2⟩)]
    · rw [decide_eq_false h2, decide_eq_false (fun z => h2 (hd.1 z).2)]
  · rw [if_neg h, decide_eq_false (fun z => h (hd.1 z).1)]
/-- The reference's search for a digit. -/
theorem rdig_l1 (s : ByteArray) (hs : s.size ≤ 17) (d : Int) (hd0 : 0 ≤ d) (hd1 : d < 10) (hm : sm (bytesOf s ++ [48 + d]) (s.size + 1) % 10 = 0) (e : Nat) :
    ∀ (k i : Nat), (i : Int) + e = d → e + 30 < k → larderref02_Digit.l1 k s i = some (48 + d, 0) := by
  have key : ∀ (i : Nat), i < 10 → ∀ k, 30 ≤ k → ∃ r, larderref02_sum.f k (s ++ strOfNums [(wrap64 (48 + (i : Int))) % 256]) = some r ∧ 0 ≤ r ∧ r % 10 = ((i : Int) - d) % 10 := by
    intro i hi k hk
    have e1 : (wrap64 (48 + (i : Int))) % 256 = 48 + i := by rw [wrap_id (by omega) (by omega)]; omega
    have hz : (s ++ strOfNums [48 + (i : Int)]).size = s.size + 1 := by rw [ByteArray.size_append, strOfNums_size]; rfl
    have hb : bytesOf (s ++ strOfNums [48 + (i : Int)]) = bytesOf s ++ [48 + (i : Int)] := by rw [bs_append, bs_nums _ (by simp; omega)]
    have hf := rsum_f (s ++ strOfNums [48 + (i : Int)]) (by omega) k (by omega)
    have hr := sm_range (bytesOf s ++ [48 + (i : Int)]) (s.size + 1)
    rw [e1, hf, hb, hz]
    refine ⟨_, rfl, hr.1, ?_⟩
    rw [sm_last (bytesOf s) (48 + i) (48 + d) s.size (by rw [bs_size]; omega)]
    omega
  have hz2 : ∀ x : Int, s.size + (strOfNums [x]).size ≤ 9223372036854775807 := fun x => by rw [strOfNums_size, List.length_singleton]; omega
  induction e with
  | zero =>
    intro k i h hk
    obtain ⟨k, rfl⟩ : ∃ m, k = m + 1 := ⟨k - 1, by omega⟩
    obtain ⟨r, hr, r0, r1⟩ := key i (by omega) k (by omega)
    simp only [larderref02_Digit.l1]
    rw [if_pos (by omega)]
    simp only [Option.bind_some]
    rw [if_pos (hz2 _), hr]
    simp only [Option.bind_some]
    rw [mod10 _ r0, if_pos (by omega), wrap_id (by omega) (by omega)]
    congr 2; omega
  | succ e ih =>
    intro k i h hk
    obtain ⟨k, rfl⟩ : ∃ m, k = m + 1 := ⟨k - 1, by omega⟩
    obtain ⟨r, hr, r0, r1⟩ := key i (by omega) k (by omega)
    simp only [larderref02_Digit.l1]
    rw [if_pos (by omega)]
    simp only [Option.bind_some]
    rw [if_pos (hz2 _), hr]
    simp only [Option.bind_some]
    rw [mod10 _ r0, if_neg (by omega), show wrap64 ((i : Int) + 1) = (i + 1 : Nat) from by rw [wrap_id (by omega) (by omega)]; omega]
    exact ih k (i + 1) (by omega) (by omega)
/-- The reference's look at each byte: all are digits. -/
theorem rdig_l0 (s : ByteArray) (hs : s.size ≤ 17) (hd : ∀ j : Nat, j < s.size → dig (bt s j)) (r : Int × Int) (hr : ∀ k, 50 ≤ k → larderref02_Digit.l1 k s 0 = some r) (e : Nat) :
    ∀ (k i : Nat), i + e = s.size → e + 60 < k → larderref02_Digit.l0 k s i = some r := by
  induction e with
  | zero =>
    intro k i h hk
    obtain ⟨k, rfl⟩ : ∃ m, k = m + 1 := ⟨k - 1, by omega⟩
    simp only [larderref02_Digit.l0]
    rw [if_neg (by omega)]
    exact hr k (by omega)
  | succ e ih =>
    intro k i h hk
    obtain ⟨k, rfl⟩ : ∃ m, k = m + 1 := ⟨k - 1, by omega⟩
    simp only [larderref02_Digit.l0]
    rw [if_pos (by omega), if_pos (by omega), isDigit_f]
    simp only [Option.bind_some]
    rw [if_pos (by simpa using hd i (by omega)), show wrap64 ((i : Int) + 1) = (i + 1 : Nat) from by rw [wrap_id (by omega) (by omega)]; omega]
    exact ih k (i + 1) (by omega) (by omega)
/-- .. one is none. -/
theorem rdig_bad (s : ByteArray) (hs : s.size ≤ 17) (r : Nat) (hr : r < s.size) (hb : ¬ dig (bt s r)) (hd : ∀ j : Nat, j < r → dig (bt s j)) (e : Nat) :
    ∀ (k i : Nat), i + e = r → e + 60 < k → larderref02_Digit.l0 k s i = some (0, 20) := by
  induction e with
  | zero =>
    intro k i h hk
    obtain ⟨k, rfl⟩ : ∃ m, k = m + 1 := ⟨k - 1, by omega⟩
    obtain rfl : i = r := by omega
    simp only [larderref02_Digit.l0]
    rw [if_pos (by omega), if_pos (by omega), isDigit_f]
    simp only [Option.bind_some]
    rw [if_neg (by simpa using hb)]
  | succ e ih =>
    intro k i h hk
    obtain ⟨k, rfl⟩ : ∃ m, k = m + 1 := ⟨k - 1, by omega⟩
    simp only [larderref02_Digit.l0]
    rw [if_pos (by omega), if_pos (by omega), isDigit_f]
    simp only [Option.bind_some]
    rw [if_pos (by simpa using hd i (by omega)), show wrap64 ((i : Int) + 1) = (i + 1 : Nat) from by rw [wrap_id (by omega) (by omega)]; omega]
    exact ih k (i + 1) (by omega) (by omega)

theorem digit_both (s : ByteArray) : ∃ r, ∀ k, 200 ≤ k → gtin_Digit.f k s = some r ∧ larderref02_Digit.f k s = some r := by
  suffices h : ∃ r, gtin_Digit.f 200 s = some r ∧ larderref02_Digit.f 200 s = some r by
    obtain ⟨r, h1, h2⟩ := h
    exact ⟨r, fun k hk => ⟨at_rounds (gtin_Digit.mono s) hk h1, at_rounds (larderref02_Digit.mono s) hk h2⟩⟩
  by_cases h17 : s.size ≤ 17
  · by_cases h0 : s.size = 0
    · have hn : s.toList = [] := by rw [bs_nil]; exact List.eq_nil_of_length_eq_zero (by rw [← bs_size]; exact h0)
      refine ⟨(0, 3), ?_, ?_⟩
      · unfold gtin_Digit.f; rw [if_neg (by omega), if_pos hn]
      · unfold larderref02_Digit.f; rw [if_neg (by omega), if_pos hn]
    · have hn : ¬ s.toList = [] := by rw [bs_nil]; intro h; exact h0 (by rw [bs_size, h]; rfl)
      rcases df_spec s with ⟨_, hd⟩ | ⟨r, hf, hr, hb, hd⟩
      · obtain ⟨d, d0, d1, hg, hm⟩ := gDigit s h0 h17 (digs_bt.1 hd) 200 (by omega)
        refine ⟨_, hg, ?_⟩
        unfold larderref02_Digit.f
        rw [if_neg (by omega), if_neg hn]
        exact rdig_l0 s h17 hd _ (fun k hk => rdig_l1 s h17 d d0 d1 hm d.toNat k 0 (by omega) (by omega)) s.size 200 0 (by omega) (by omega)
      · refine ⟨(0, 20), ?_, ?_⟩
        · unfold gtin_Digit.f
          rw [if_neg (by omega), if_neg hn, hf]
          simp only [Option.bind_some]
          rw [if_pos (by omega)]
        · unfold larderref02_Digit.f
          rw [if_neg (by omega), if_neg hn]
          exact rdig_bad s h17 r hr hb hd r 200 0 (by omega) (by omega)
  · refine ⟨(0, 1), ?_, ?_⟩
    · unfold gtin_Digit.f; rw [if_pos (by omega)]
    · unfold larderref02_Digit.f; rw [if_pos (by omega)]

/-- The reference's Check, its loop. -/
theorem rchk_ok (s : ByteArray) (hs : s.size ≤ 18) (hd : ∀ j : Nat, j < s.size → dig (bt s j)) (e : Nat) :
    ∀ (k i : Nat), i + e = s.size → e + 60 < k → larderref02_Check.l0 k s s.size i =
      some (if s.size = 8 ∨ s.size = 12 ∨ s.size = 13 ∨ s.size = 14 ∨ s.size = 18 then (if sm (bytesOf s) s.size % 10 = 0 then (0, 0) else (22, (s.size : Int) - 1)) else (21, (s.size : Int))) := by
  induction e with
  | zero =>
    intro k i h hk
    obtain ⟨k, rfl⟩ : ∃ m, k = m + 1 := ⟨k - 1, by omega⟩
    simp only [larderref02_Check.l0]
    rw [if_neg (by omega)]
    obtain ⟨k, rfl⟩ : ∃ m, k = m + 1 := ⟨k - 1, by omega⟩
    have hf := rsum_f s (by omega) k (by omega)
    have hr := sm_range (bytesOf s) s.size
    have ht : larderref02_Check.j1 (k + 1) s s.size false = some (if sm (bytesOf s) s.size % 10 = 0 then (0, 0) else (22, (s.size : Int) - 1)) := by
      simp only [larderref02_Check.j1]
      rw [if_neg (by simp), hf]
      simp only [Option.bind_some]
      rw [mod10 _ hr.1]
      by_cases h0 : sm (bytesOf s) s.size % 10 = 0
      · rw [if_pos h0, if_pos h0]
      · rw [if_neg h0, if_neg h0, wrap_id (by omega) (by omega)]
    have hj : ∀ b : Bool, b = true → larderref02_Check.j1 (k + 1) s s.size b = some (21, (s.size : Int)) := by
      intro b hb
      simp only [larderref02_Check.j1]
      rw [if_pos hb]
    by_cases h8 : s.size = 8
    · rw [if_pos (by omega), if_pos (by omega)]; exact ht
    · rw [if_neg (by omega)]
      by_cases h12 : s.size = 12
      · rw [if_pos (by omega), if_pos (by omega)]; exact ht
      · rw [if_neg (by omega)]
        by_cases h13 : s.size = 13
        · rw [if_pos (by omega), if_pos (by omega)]; exact ht
        · rw [if_neg (by omega)]
          by_cases h14 : s.size = 14
          · rw [if_pos (by omega), if_pos (by omega)]; exact ht
          · rw [if_neg (by omega)]
            by_cases h18 : s.size = 18
            · have : ((s.size : Int) != 18) = false := by simp; omega
              rw [if_pos (by omega), this]; exact ht
            · have : ((s.size : Int) != 18) = true := by simp; omega
              rw [if_neg (by omega)]; exact hj _ this
  | succ e ih =>
    intro k i h hk
    obtain ⟨k, rfl⟩ : ∃ m, k = m + 1 := ⟨k - 1, by omega⟩
    simp only [larderref02_Check.l0]
    rw [if_pos (by omega), if_pos (by omega), if_pos (by omega), isDigit_f]
    simp only [Option.bind_some]
    rw [if_pos (by simpa using hd i (by omega)), show wrap64 ((i : Int) + 1) = (i + 1 : Nat) from by rw [wrap_id (by omega) (by omega)]; omega]
    exact ih k (i + 1) (by omega) (by omega)
theorem rchk_bad (s : ByteArray) (hs : s.size ≤ 18) (r : Nat) (hr : r < s.size) (hb : ¬ dig (bt s r)) (hd : ∀ j : Nat, j < r → dig (bt s j)) (e : Nat) :
    ∀ (k i : Nat), i + e = r → e + 60 < k → larderref02_Check.l0 k s s.size i = some (20, (r : Int)) := by
  induction e with
  | zero =>
    intro k i h hk
    obtain ⟨k, rfl⟩ : ∃ m, k = m + 1 := ⟨k - 1, by omega⟩
    obtain rfl : i = r := by omega
    simp only [larderref02_Check.l0]
    rw [if_pos (by omega), if_pos (by omega), if_pos (by omega), isDigit_f]
    simp only [Option.bind_some]
    rw [if_neg (by simpa using hb)]
  | succ e ih =>
    intro k i h hk
    obtain ⟨k, rfl⟩ : ∃ m, k = m + 1 := ⟨k - 1, by omega⟩
    simp only [larderref02_Check.l0]
    rw [if_pos (by omega), if_pos (by omega), if_pos (by omega), isDigit_f]
    simp only [Option.bind_some]
    rw [if_pos (by simpa using hd i (by omega)), show wrap64 ((i : Int) + 1) = (i + 1 : Nat) from by rw [wrap_id (by omega) (by omega)]; omega]
    exact ih k (i + 1) (by omega) (by omega)

/-- gtin.Check at digits of no code's length. -/
theorem gCheck_no (s : ByteArray) (hn : ¬ (s.size = 8 ∨ s.size = 12 ∨ s.size = 13 ∨ s.size = 14 ∨ s.size = 18)) (h18 : s.size ≤ 18) (hd : Digs (bytesOf s)) (k : Nat) (hk : 30 < k) :
    gtin_Check.f k s = some (21, (s.size : Int)) := by
  obtain ⟨k, rfl⟩ : ∃ m, k = m + 1 := ⟨k - 1, by omega⟩
  unfold gtin_Check.f
  rw [if_neg (by omega), df_digs hd]
  simp only [Option.bind_some]
  rw [if_neg (by omega), if_neg (by omega), if_neg (by omega), if_neg (by omega), if_neg (by omega)]
  have : ((s.size : Int) == 18) = false := by simp; omega
  rw [this]
  simp only [gtin_Check.j0]
  rw [if_neg (by simp)]

theorem check_both (s : ByteArray) : ∃ r : Int × Int, (∀ k, 200 ≤ k → gtin_Check.f k s = some r ∧ larderref02_Check.f k s = some r) ∧ (r.1 = 0 → r = (0, 0) ∧ IsCode s) ∧ (IsCode s → r = (0, 0)) := by
  by_cases h18 : s.size ≤ 18
  · rcases df_spec s with ⟨_, hd⟩ | ⟨r, hf, hr, hb, hd⟩
    · have hd' := digs_bt.1 hd
      have href := fun k (hk : 200 ≤ k) => rchk_ok s h18 hd s.size k 0 (by omega) (by omega)
      have hrf : ∀ k, larderref02_Check.f k s = larderref02_Check.l0 k s s.size ((0 : Nat) : Int) := fun k => by unfold larderref02_Check.f; rw [if_neg (by omega)]; rfl
      by_cases hn : s.size = 8 ∨ s.size = 12 ∨ s.size = 13 ∨ s.size = 14 ∨ s.size = 18
      · refine ⟨if sm (bytesOf s) s.size % 10 = 0 then (0, 0) else (22, (s.size : Int) - 1), fun k hk => ⟨gCheck s hn hd' k (by omega), ?_⟩, ?_, ?_⟩
        · rw [hrf, href k hk, if_pos hn]
        · intro h
          by_cases h0 : sm (bytesOf s) s.size % 10 = 0
          · rw [if_pos h0]; exact ⟨rfl, hn, hd', h0⟩
          · rw [if_neg h0] at h; cases h
        · intro h; rw [if_pos h.sum]
      · refine ⟨(21, (s.size : Int)), fun k hk => ⟨gCheck_no s hn h18 hd' k (by omega), ?_⟩, ?_, ?_⟩
        · rw [hrf, href k hk, if_neg hn]
        · intro h; cases h
        · intro h; exact absurd h.len hn
    · refine ⟨(20, (r : Int)), fun k hk => ⟨?_, ?_⟩, ?_, ?_⟩
      · unfold gtin_Check.f
        rw [if_neg (by omega), hf]
        simp only [Option.bind_some]
        rw [if_pos (by omega)]
      · unfold larderref02_Check.f
        rw [if_neg (by omega)]
        exact rchk_bad s h18 r hr hb hd r k 0 (by omega) (by omega)
      · intro h; cases h
      · intro h; exact absurd (digs_bt.2 h.digs r hr) hb
  · refine ⟨(1, 0), fun k hk => ⟨?_, ?_⟩, ?_, ?_⟩
    · unfold gtin_Check.f; rw [if_pos (by omega)]
    · unfold larderref02_Check.f; rw [if_pos (by omega)]
    · intro h; cases h
    · intro h; have := h.len; omega

/-- So many zeros. -/
def zs (n : Nat) : ByteArray := strOfNums (List.replicate n 48)
theorem zs_bytes (n : Nat) : bytesOf (zs n) = List.replicate n 48 := bs_nums _ (by intro x hx; rw [List.eq_of_mem_replicate hx]; omega)
theorem zs_size (n : Nat) : (zs n).size = n := by unfold zs; rw [strOfNums_size, List.length_replicate]
theorem repeat_zs (n : Nat) (hn : n ≤ 14) : strings_Repeat.f (⟨#[48]⟩ : ByteArray) (n : Int) = some (zs n) := by
  unfold strings_Repeat.f
  have h1 : (⟨#[48]⟩ : ByteArray).size = 1 := rfl
  rw [if_pos (by omega), if_pos (by omega), Int.toNat_natCast, h1, if_pos (by omega)]
  congr 1
  apply bs_inj
  rw [zs_bytes]
  unfold bytesOf
  clear hn
  induction n with
  | zero => rfl
  | succ n ih =>
    simp only [Lib.repeatL, List.replicate_succ] at ih ⊢
    rw [← ih]
    rfl
theorem rnormal_loop (e : Nat) : ∀ (k : Nat) (s : ByteArray), s.size + e = 14 → e + 2 < k → larderref02_Normal.l0 k s = some (zs e ++ s, 0) := by
  induction e with
  | zero =>
    intro k s h hk
    obtain ⟨k, rfl⟩ : ∃ m, k = m + 1 := ⟨k - 1, by omega⟩
    simp only [larderref02_Normal.l0]
    rw [if_neg (by omega)]
    congr 2
  | succ e ih =>
    intro k s h hk
    obtain ⟨k, rfl⟩ : ∃ m, k = m + 1 := ⟨k - 1, by omega⟩
    simp only [larderref02_Normal.l0]
    have h1 : ((⟨#[48]⟩ : ByteArray) ++ s).size = s.size + 1 := by rw [ByteArray.size_append, Nat.add_comm]; rfl
    rw [if_pos (by omega), if_pos (by omega), ih k _ (by omega) (by omega)]
    congr 2
    apply bs_inj
    rw [bs_append, bs_append, bs_append, zs_bytes, zs_bytes, List.replicate_succ', List.append_assoc]
    rfl

/-- Normal: both alike; what it is. -/
theorem normal_both (s : ByteArray) : ∃ r : ByteArray × Int, (∀ k, 300 ≤ k → gtin_Normal.f k s = some r ∧ larderref02_Normal.f k s = some r) ∧
    (r.2 = 0 → IsCode s ∧ s.size ≤ 14 ∧ r.1 = zs (14 - s.size) ++ s) ∧ (IsCode s → s.size ≤ 14 → r = (zs (14 - s.size) ++ s, 0)) := by
  obtain ⟨c, hc, h0, h1⟩ := check_both s
  by_cases hz : c.1 = 0
  · obtain ⟨rfl, hcode⟩ := h0 hz
    have hl := hcode.len
    by_cases h14 : s.size ≤ 14
    · refine ⟨(zs (14 - s.size) ++ s, 0), fun k hk => ⟨?_, ?_⟩, fun _ => ⟨hcode, h14, rfl⟩, fun _ _ => rfl⟩
      · unfold gtin_Normal.f
        rw [(hc k (by omega)).1]
        simp only [Option.bind_some, if_true]
        rw [if_neg (by omega), show wrap64 (14 - (s.size : Int)) = (14 - s.size : Nat) from by rw [wrap_id (by omega) (by omega)]; omega, repeat_zs _ (by omega)]
        simp only [Option.bind_some]
        rw [zs_size, if_pos (by omega)]
      · unfold larderref02_Normal.f
        rw [(hc k (by omega)).2]
        simp only [Option.bind_some, if_true]
        rw [if_neg (by omega)]
        exact rnormal_loop (14 - s.size) k s (by omega) (by omega)
    · refine ⟨((⟨#[]⟩ : ByteArray), 21), fun k hk => ⟨?_, ?_⟩, fun h => (by cases h), fun _ h => absurd h h14⟩
      · unfold gtin_Normal.f
        rw [(hc k (by omega)).1]
        simp only [Option.bind_some, if_true]
        rw [if_pos (by omega)]
      · unfold larderref02_Normal.f
        rw [(hc k (by omega)).2]
        simp only [Option.bind_some, if_true]
        rw [if_pos (by omega)]
  · refine ⟨((⟨#[]⟩ : ByteArray), c.1), fun k hk => ⟨?_, ?_⟩, fun h => absurd h hz, fun h _ => absurd (by rw [h1 h]) hz⟩
    · unfold gtin_Normal.f
      rw [(hc k (by omega)).1]
      simp only [Option.bind_some]
      rw [if_neg hz]
    · unfold larderref02_Normal.f
      rw [(hc k (by omega)).2]
      simp only [Option.bind_some]
      rw [if_neg hz]

theorem zeros_raw (n : ByteArray) (m : Nat) (hm : m ≤ n.size) : zeros n m = m ↔ (n.extract 0 m).toList = List.replicate m (48 : UInt8) := by
  rw [ByteArray.toList_eq]
  have hl : (n.extract 0 m).data.toList.length = m := by rw [data_length, ByteArray.size_extract]; omega
  unfold zeros Lib.countByte
  rw [show ((List.count (48 : UInt8) (n.extract 0 m).data.toList : Nat) : Int) = (m : Int) ↔ List.count (48 : UInt8) (n.extract 0 m).data.toList = (n.extract 0 m).data.toList.length from by rw [hl]; omega]
  rw [List.count_eq_length, List.eq_replicate_iff]
  constructor
  · intro h; exact ⟨hl, fun b hb => (h b hb).symm⟩
  · intro h b hb; exact (h.2 b hb).symm
theorem zeros_iff (n : ByteArray) (m : Nat) (hm : m ≤ n.size) : zeros n m = m ↔ bytesOf (n.extract 0 m) = List.replicate m 48 := by
  rw [zeros_raw n m hm, ByteArray.toList_eq]
  unfold bytesOf
  constructor
  · intro h; rw [h, List.map_replicate]; rfl
  · intro h
    have hl : (n.extract 0 m).data.toList.length = m := by rw [data_length, ByteArray.size_extract]; omega
    rw [List.eq_replicate_iff]
    refine ⟨hl, fun b hb => ?_⟩
    have : (b.toNat : Int) ∈ List.replicate m 48 := by rw [← h]; exact List.mem_map_of_mem hb
    have h2 := List.eq_of_mem_replicate this
    apply UInt8.toNat_inj.1
    simp; omega
theorem cut_zeros (n : ByteArray) (m : Nat) (hm : m ≤ n.size) (h : zeros n m = m) : bytesOf n = List.replicate m 48 ++ bytesOf (n.extract m n.size) := by
  rw [← (zeros_iff n m hm).1 h, bs_extract, bs_extract, List.drop_zero, bs_size n, List.take_length, List.take_append_drop]
theorem zeros_of (n : ByteArray) (m : Nat) (t : List Int) (h : bytesOf n = List.replicate m 48 ++ t) : zeros n m = m := by
  have hm : m ≤ n.size := by rw [bs_size, h]; simp
  rw [zeros_iff n m hm, bs_extract, List.drop_zero, h, List.take_left' (by simp)]
/-- What the short form is. -/
theorem shortOf_spec (n : ByteArray) (hn : n.size = 14) : ∃ m : Nat, (m = 6 ∨ m = 2 ∨ m = 1 ∨ m = 0) ∧ bytesOf n = List.replicate m 48 ++ bytesOf (shortOf n) ∧ (shortOf n).size = 14 - m ∧
    (∀ j t, (j = 6 ∨ j = 2 ∨ j = 1) → bytesOf n = List.replicate j 48 ++ t → j ≤ m) := by
  unfold shortOf
  by_cases h6 : zeros n 6 = 6
  · rw [if_pos h6]
    exact ⟨6, by omega, cut_zeros n 6 (by omega) h6, by rw [ByteArray.size_extract]; omega, fun j t hj _ => by omega⟩
  · rw [if_neg h6]
    have g6 : ∀ t, bytesOf n = List.replicate 6 48 ++ t → False := fun t ht => h6 (zeros_of n 6 t ht)
    by_cases h2 : zeros n 2 = 2
    · rw [if_pos h2]
      refine ⟨2, by omega, cut_zeros n 2 (by omega) h2, by rw [ByteArray.size_extract]; omega, fun j t hj ht => ?_⟩
      rcases hj with rfl | rfl | rfl
      · exact (g6 t ht).elim
      · omega
      · omega
    · rw [if_neg h2]
      have g2 : ∀ t, bytesOf n = List.replicate 2 48 ++ t → False := fun t ht => h2 (zeros_of n 2 t ht)
      by_cases h1 : zeros n 1 = 1
      · rw [if_pos h1]
        refine ⟨1, by omega, cut_zeros n 1 (by omega) h1, by rw [ByteArray.size_extract]; omega, fun j t hj ht => ?_⟩
        rcases hj with rfl | rfl | rfl
        · exact (g6 t ht).elim
        · exact (g2 t ht).elim
        · omega
      · rw [if_neg h1]
        refine ⟨0, by omega, by simp, by omega, fun j t hj ht => ?_⟩
        rcases hj with rfl | rfl | rfl
        · exact (g6 t ht).elim
        · exact (g2 t ht).elim
        · exact (h1 (zeros_of n 1 t ht)).elim
theorem rshort_f (k : Nat) (s n : ByteArray) (h : larderref02_Normal.f k s = some (n, 0)) (hn : n.size = 14) : larderref02_Short.f k s = some (shortOf n, 0) := by
  unfold larderref02_Short.f shortOf
  rw [h]
  simp only [Option.bind_some, if_true]
  rw [if_pos (by omega), if_pos (by omega)]
  have z6 : zeros n 6 = 6 ↔ (n.extract 0 6).toList = ([48, 48, 48, 48, 48, 48] : List UInt8) := zeros_raw n 6 (by omega)
  have z2 : zeros n 2 = 2 ↔ (n.extract 0 2).toList = ([48, 48] : List UInt8) := zeros_raw n 2 (by omega)
  have z1 : zeros n 1 = 1 ↔ (n.extract 0 1).toList = ([48] : List UInt8) := zeros_raw n 1 (by omega)
  by_cases h6 : zeros n 6 = 6
  · rw [if_pos (z6.1 h6), if_pos h6]
  · rw [if_neg (fun z => h6 (z6.2 z)), if_neg h6, if_pos (by omega), if_pos (by omega)]
    by_cases h2 : zeros n 2 = 2
    · rw [if_pos (z2.1 h2), if_pos h2]
    · rw [if_neg (fun z => h2 (z2.2 z)), if_neg h2, if_pos (by omega), if_pos (by omega)]
      by_cases h1 : zeros n 1 = 1
      · rw [if_pos (z1.1 h1), if_pos h1]
      · rw [if_neg (fun z => h1 (z1.2 z)), if_neg h1]

/-- Zeros ahead change no sum. -/
theorem sm_zeros (l : List Int) (m : Nat) : ∀ i, i ≤ l.length → sm (List.replicate m 48 ++ l) i = sm l i
  | 0, _ => rfl
  | i + 1, h => by
    have ih := sm_zeros l m i (by omega)
    have e1 : ∀ q : List Int, sm q (i + 1) = sm q i + wt i * ((q.getD (q.length - 1 - i) 0 - 48) % 256) := fun _ => rfl
    rw [e1, e1, ih]
    congr 4
    rw [List.getD_eq_getElem?_getD, List.getD_eq_getElem?_getD, List.getElem?_append_right (by simp; omega)]
    congr 2
    simp; omega
theorem sm_zeros' (l : List Int) (m : Nat) : ∀ j, j ≤ m → sm (List.replicate m 48 ++ l) (l.length + j) = sm l l.length
  | 0, _ => sm_zeros l m _ (Nat.le_refl _)
  | j + 1, h => by
    have ih := sm_zeros' l m j (by omega)
    have e1 : ∀ q : List Int, sm q (l.length + j + 1) = sm q (l.length + j) + wt (l.length + j) * ((q.getD (q.length - 1 - (l.length + j)) 0 - 48) % 256) := fun _ => rfl
    rw [← Nat.add_assoc, e1, ih]
    have : (List.replicate m (48 : Int) ++ l).getD ((List.replicate m (48 : Int) ++ l).length - 1 - (l.length + j)) 0 = 48 := by
      rw [List.getD_eq_getElem?_getD, List.getElem?_append_left (by simp; omega), List.getElem?_replicate, if_pos (by simp; omega)]; rfl
    rw [this]; simp
theorem digs_zeros (l : List Int) (m : Nat) : Digs (List.replicate m 48 ++ l) ↔ Digs l := by
  constructor
  · intro h x hx; exact h x (List.mem_append_right _ hx)
  · intro h x hx
    rcases List.mem_append.1 hx with h1 | h1
    · rw [List.eq_of_mem_replicate h1]; exact ⟨by omega, by omega⟩
    · exact h x h1
theorem code_zeros {c n : ByteArray} {m : Nat} (h : bytesOf n = List.replicate m 48 ++ bytesOf c) (hc : c.size = 8 ∨ c.size = 12 ∨ c.size = 13 ∨ c.size = 14 ∨ c.size = 18) (hn : n.size = 8 ∨ n.size = 12 ∨ n.size = 13 ∨ n.size = 14 ∨ n.size = 18) : IsCode n ↔ IsCode c := by
  have hs : n.size = c.size + m := by rw [bs_size, h, bs_size c]; simp; omega
  have hsm : sm (bytesOf n) n.size = sm (bytesOf c) c.size := by
    rw [h, hs, bs_size c]; exact sm_zeros' _ _ _ (Nat.le_refl _)
  constructor
  · intro ⟨_, h2, h3⟩
    exact ⟨hc, (digs_zeros _ m).1 (by rw [← h]; exact h2), by rw [← hsm]; exact h3⟩
  · intro ⟨_, h2, h3⟩
    exact ⟨hn, by rw [h]; exact (digs_zeros _ m).2 h2, by rw [hsm]; exact h3⟩
theorem norm_bytes (s : ByteArray) : bytesOf (zs (14 - s.size) ++ s) = List.replicate (14 - s.size) 48 ++ bytesOf s := by rw [bs_append, zs_bytes]
theorem norm_size (s : ByteArray) (h : s.size ≤ 14) : (zs (14 - s.size) ++ s).size = 14 := by rw [ByteArray.size_append, zs_size]; omega
theorem norm_code {s : ByteArray} (h : IsCode s) (h14 : s.size ≤ 14) : IsCode (zs (14 - s.size) ++ s) :=
  (code_zeros (norm_bytes s) h.len (by have := norm_size s h14; omega)).2 h
theorem norm_self {n : ByteArray} (hn : n.size = 14) : zs (14 - n.size) ++ n = n := by
  apply bs_inj; rw [norm_bytes, hn]; simp
/-- Short: both alike. -/
theorem short_both (s : ByteArray) : ∃ r : ByteArray × Int, (∀ k, 300 ≤ k → gtin_Short.f k s = some r ∧ larderref02_Short.f k s = some r) ∧
    (IsCode s → s.size ≤ 14 → r = (shortOf (zs (14 - s.size) ++ s), 0)) := by
  obtain ⟨⟨n, e⟩, hn, h0, h1⟩ := normal_both s
  by_cases he : e = 0
  · obtain ⟨hc, h14, hnn⟩ := h0 he
    subst he
    simp only at hnn
    have hz : n.size = 14 := by rw [hnn, norm_size s h14]
    refine ⟨(shortOf n, 0), fun k hk => ⟨?_, rshort_f k s n (hn k hk).2 hz⟩, fun _ _ => by rw [hnn]⟩
    unfold gtin_Short.f
    rw [(hn k hk).1]
    simp only [Option.bind_some, if_true]
    rw [if_pos hz]
  · refine ⟨((⟨#[]⟩ : ByteArray), e), fun k hk => ⟨?_, ?_⟩, fun a b => absurd (by have := h1 a b; simp only [Prod.mk.injEq] at this; exact this.2) he⟩
    · unfold gtin_Short.f
      rw [(hn k hk).1]
      simp only [Option.bind_some]
      rw [if_neg he]
    · unfold larderref02_Short.f
      rw [(hn k hk).2]
      simp only [Option.bind_some]
      rw [if_neg he]
/-- A normal code with another first digit: both alike; what it is. -/
theorem headed_both (n : ByteArray) (hn : n.size = 14) (hd : Digs (bytesOf n)) (a : Int) (ha : dig a) : ∃ q : ByteArray, (∀ k, 300 ≤ k → gtin_headed.f k n a = some q ∧ larderref02_leveled.f k n a = some q) ∧
    ∃ d : Int, bytesOf q = [a] ++ ((bytesOf n).take 13).drop 1 ++ [48 + d] ∧ 0 ≤ d ∧ d < 10 ∧ IsCode q ∧ q.size = 14 := by
  have ha' : 48 ≤ a ∧ a ≤ 57 := ha
  obtain ⟨b, hb⟩ : ∃ b, strOfNums [a] ++ n.extract 1 13 = b := ⟨_, rfl⟩
  have hbb : bytesOf b = [a] ++ ((bytesOf n).take 13).drop 1 := by rw [← hb, bs_append, bs_extract, bs_nums _ (by simp; omega)]
  have hbs : b.size = 13 := by rw [← hb, ByteArray.size_append, ByteArray.size_extract, strOfNums_one]; omega
  have hbd : Digs (bytesOf b) := by
    rw [hbb]
    intro x hx
    rcases List.mem_append.1 hx with h | h
    · obtain rfl : x = a := by simpa using h
      exact ha
    · exact hd x (List.mem_of_mem_take (List.mem_of_mem_drop h))
  obtain ⟨r, hr⟩ := digit_both b
  obtain ⟨d, d0, d1, hg, hm⟩ := gDigit b (by omega) (by omega) hbd 300 (by omega)
  obtain rfl : r = (48 + d, 0) := Option.some.inj ((hr 300 (by omega)).1.symm.trans hg)
  have hq : bytesOf (b ++ strOfNums [48 + d]) = bytesOf b ++ [48 + d] := by rw [bs_append, bs_nums _ (by simp; omega)]
  have hqs : (b ++ strOfNums [48 + d]).size = 14 := by rw [ByteArray.size_append, strOfNums_one]; omega
  have hqq : bytesOf (b ++ strOfNums [48 + d]) = [a] ++ ((bytesOf n).take 13).drop 1 ++ [48 + d] := by rw [hq, hbb]
  refine ⟨b ++ strOfNums [48 + d], fun k hk => ⟨?_, ?_⟩, d, hqq, d0, d1, ⟨by omega, ?_, ?_⟩, hqs⟩
  · unfold gtin_headed.f
    rw [if_pos (by omega), if_pos (by omega), if_pos (by omega), if_pos (by omega), hb, (hr k (by omega)).1]
    simp only [Option.bind_some]
    rw [if_pos (by omega), if_pos (by omega)]
  · unfold larderref02_leveled.f
    simp only [Option.bind_some]
    have z1 : (n.extract 1 13).size = 12 := by rw [ByteArray.size_extract]; omega
    rw [if_pos (by omega), if_pos (by omega), strOfNums_one, z1, if_pos (by omega), hb, (hr k (by omega)).2]
    simp only [Option.bind_some]
    rw [strOfNums_one, if_pos (by omega)]
  · rw [hq]; exact digs_snoc hbd (by unfold dig; omega)
  · rw [hqs, hq]
    rw [hbs] at hm
    exact hm
end Go.Proofs.Ytofagdjijpjlgaa.X
