/- GtinDigits: Digit answers as the document says, of every text. No condition. -/
import Derived.Test.YtofagdjijpjlgaaXm
namespace Go.Proofs.Ytofagdjijpjlgaa.Pure
open Go.RowKit Go.Proofs.Ytofagdjijpjlgaa.PCodes Go.Proofs.YtofagdjijpjlgaaW.PrintWords Go.Proofs.YtofagdjijpjlgaaW.PrintLast Go.Proofs.Ytofagdjijpjlgaa.X

theorem rsum_loop (s : ByteArray) (hs : s.size ≤ 1000000) (d : Nat) : ∀ (k i : Nat), i ≤ s.size → s.size - i = d → d < k →
    larderref02_sum.l0 k s (sm (bytesOf s) i) i = some (sm (bytesOf s) s.size) := by
  induction d with
  | zero =>
    intro k i h1 hd hk
    obtain ⟨k, rfl⟩ : ∃ m, k = m + 1 := ⟨k - 1, by omega⟩
    have : i = s.size := by omega
    subst this
    simp only [larderref02_sum.l0]
    rw [if_neg (by omega)]
  | succ d ih =>
    intro k i h1 hd hk
    obtain ⟨k, rfl⟩ : ∃ m, k = m + 1 := ⟨k - 1, by omega⟩
    have hr := sm_range (bytesOf s) i
    have hl := bytesOf_length s
    have e1 : wrap64 ((s.size : Int) - 1) = s.size - 1 := wrap_id (by omega) (by omega)
    have e2 : wrap64 ((s.size : Int) - 1 - i) = s.size - 1 - i := wrap_id (by omega) (by omega)
    have e3 : wrap64 ((i : Int) + 1) = (i + 1 : Nat) := by rw [wrap_id (by omega) (by omega)]; omega
    have eb : bt s ((s.size : Int) - 1 - i) = (bytesOf s).getD ((bytesOf s).length - 1 - i) 0 := by
      rw [bs_rd, hl]; congr 1; omega
    have es : sm (bytesOf s) (i + 1) = sm (bytesOf s) i + wt i * (((bytesOf s).getD ((bytesOf s).length - 1 - i) 0 - 48) % 256) := rfl
    have et : Int.tmod (i : Int) 2 = ((i % 2 : Nat) : Int) := by rw [Int.tmod_eq_emod_of_nonneg (by omega)]; omega
    simp only [larderref02_sum.l0]
    rw [if_pos (by omega), e1, e2, if_pos (by omega), if_pos (by omega), eb, et]
    have h2 := ih k (i + 1) (by omega) (by omega) (by omega)
    by_cases h : i % 2 = 1
    · have hw : wt i = 3 := by simp [wt, h]
      rw [if_pos (by omega), e3]
      rw [wrap_id (by omega) (by omega)]
      rw [es, hw] at h2
      exact h2
    · have hw : wt i = 1 := by simp [wt, h]
      rw [if_neg (by omega), e3]
      rw [wrap_id (by omega) (by omega)]
      rw [es, hw, Int.one_mul] at h2
      exact h2
theorem rsum_f (s : ByteArray) (hs : s.size ≤ 1000000) (k : Nat) (hk : s.size < k) : larderref02_sum.f k s = some (sm (bytesOf s) s.size) := by
  have := rsum_loop s hs s.size k 0 (by omega) (by omega) hk
  simpa [larderref02_sum.f, sm] using this
theorem isDigit_f (c : Int) : larderref02_isDigit.f c = some (decide (dig c)) := by
  unfold larderref02_isDigit.f
  have hd : dig c ↔ (48 ≤ c ∧ c ≤ 57) := Iff.rfl
  by_cases h : c ≥ 48
  · rw [if_pos h]
    by_cases h2 : c ≤ 57
    · rw [decide_eq_true h2, decide_eq_true (hd.2 ⟨h, h2⟩)]
    · rw [decide_eq_false h2, decide_eq_false (fun z => h2 (hd.1 z).2)]
  · rw [if_neg h, decide_eq_false (fun z => h (hd.1 z).1)]
/-- The reference's search for a digit. -/
theorem rdig_l1 (s : ByteArray) (hs : s.size ≤ 17) (d : Int) (hd0 : 0 ≤ d) (hd1 : d < 10) (hm : sm (bytesOf s ++ [48 + d]) (s.size + 1) % 10 = 0) (e : Nat) :
    ∀ (k i : Nat), (i : Int) + e = d → e + 30 < k → larderref02_Digit.l1 k s i = some (48 + d, 0) := by
  have key : ∀ (i : Nat), i < 10 → ∀ k, 30 ≤ k → ∃ r, larderref02_sum.f k (s ++ strOfNums [(wrap64 (48 + (i : Int))) % 256]) = some r ∧ 0 ≤ r ∧ r % 10 = ((i : Int) - d) % 10 := by
    intro i hi k hk
    have e1 : (wrap64 (48 + (i : Int))) % 256 = 48 + i := by rw [wrap_id (by omega) (by omega)]; omega
    have hz : (s ++ strOfNums [48 + (i : Int)]).size = s.size + 1 := by rw [ByteArray.size_append, strOfNums_size]; rfl
    have hb : bytesOf (s ++ strOfNums [48 + (i : Int)]) = bytesOf s ++ [48 + (i : Int)] := by rw [bs_append, bs_nums _ (by simp; omega)]
    have hf := rsum_f (s ++ strOfNums [48 + (i : Int)]) (by omega) k (by omega)
    have hr := sm_range (bytesOf s ++ [48 + (i : Int)]) (s.size + 1)
    rw [e1, hf, hb, hz]
    refine ⟨_, rfl, hr.1, ?_⟩
    rw [sm_last (bytesOf s) (48 + i) (48 + d) s.size (by rw [bs_size]; omega)]
    omega
  have hz2 : ∀ x : Int, s.size + (strOfNums [x]).size ≤ 9223372036854775807 := fun x => by rw [strOfNums_size, List.length_singleton]; omega
  induction e with
  | zero =>
    intro k i h hk
    obtain ⟨k, rfl⟩ : ∃ m, k = m + 1 := ⟨k - 1, by omega⟩
    obtain ⟨r, hr, r0, r1⟩ := key i (by omega) k (by omega)
    simp only [larderref02_Digit.l1]
    rw [if_pos (by omega)]
    simp only [Option.bind_some]
    rw [if_pos (hz2 _), hr]
    simp only [Option.bind_some]
    rw [mod10 _ r0, if_pos (by omega), wrap_id (by omega) (by omega)]
    congr 2; omega
  | succ e ih =>
    intro k i h hk
    obtain ⟨k, rfl⟩ : ∃ m, k = m + 1 := ⟨k - 1, by omega⟩
    obtain ⟨r, hr, r0, r1⟩ := key i (by omega) k (by omega)
    simp only [larderref02_Digit.l1]
    rw [if_pos (by omega)]
    simp only [Option.bind_some]
    rw [if_pos (hz2 _), hr]
    simp only [Option.bind_some]
    rw [mod10 _ r0, if_neg (by omega), show wrap64 ((i : Int) + 1) = (i + 1 : Nat) from by rw [wrap_id (by omega) (by omega)]; omega]
    exact ih k (i + 1) (by omega) (by omega)
/-- The reference's look at each byte: all are digits. -/
theorem rdig_l0 (s : ByteArray) (hs : s.size ≤ 17) (hd : ∀ j : Nat, j < s.size → dig (bt s j)) (r : Int × Int) (hr : ∀ k, 50 ≤ k → larderref02_Digit.l1 k s 0 = some r) (e : Nat) :
    ∀ (k i : Nat), i + e = s.size → e + 60 < k → larderref02_Digit.l0 k s i = some r := by
  induction e with
  | zero =>
    intro k i h hk
    obtain ⟨k, rfl⟩ : ∃ m, k = m + 1 := ⟨k - 1, by omega⟩
    simp only [larderref02_Digit.l0]
    rw [if_neg (by omega)]
    exact hr k (by omega)
  | succ e ih =>
    intro k i h hk
    obtain ⟨k, rfl⟩ : ∃ m, k = m + 1 := ⟨k - 1, by omega⟩
    simp only [larderref02_Digit.l0]
    rw [if_pos (by omega), if_pos (by omega), isDigit_f]
    simp only [Option.bind_some]
    rw [if_pos (by simpa using hd i (by omega)), show wrap64 ((i : Int) + 1) = (i + 1 : Nat) from by rw [wrap_id (by omega) (by omega)]; omega]
    exact ih k (i + 1) (by omega) (by omega)
/-- .. one is none. -/
theorem rdig_bad (s : ByteArray) (hs : s.size ≤ 17) (r : Nat) (hr : r < s.size) (hb : ¬ dig (bt s r)) (hd : ∀ j : Nat, j < r → dig (bt s j)) (e : Nat) :
    ∀ (k i : Nat), i + e = r → e + 60 < k → larderref02_Digit.l0 k s i = some (0, 20) := by
  induction e with
  | zero =>
    intro k i h hk
    obtain ⟨k, rfl⟩ : ∃ m, k = m + 1 := ⟨k - 1, by omega⟩
    obtain rfl : i = r := by omega
    simp only [larderref02_Digit.l0]
    rw [if_pos (by omega), if_pos (by omega), isDigit_f]
    simp only [Option.bind_some]
    rw [if_neg (by simpa using hb)]
  | succ e ih =>
    intro k i h hk
    obtain ⟨k, rfl⟩ : ∃ m, k = m + 1 := ⟨k - 1, by omega⟩
    simp only [larderref02_Digit.l0]
    rw [if_pos (by omega), if_pos (by omega), isDigit_f]
    simp only [Option.bind_some]
    rw [if_pos (by simpa using hd i (by omega)), show wrap64 ((i : Int) + 1) = (i + 1 : Nat) from by rw [wrap_id (by omega) (by omega)]; omega]
    exact ih k (i + 1) (by omega) (by omega)
theorem GtinDigits : larderlaw02_GtinDigits.Pure := by
  intro s _
  refine ⟨200, ?_⟩
  suffices h : ∃ r, gtin_Digit.f 200 s = some r ∧ larderref02_Digit.f 200 s = some r by
    obtain ⟨r, h1, h2⟩ := h
    unfold larderlaw02_GtinDigits.f
    rw [h1, h2]
    simp
  by_cases h17 : s.size ≤ 17
  · by_cases h0 : s.size = 0
    · have hn : s.toList = [] := by rw [bs_nil]; exact List.eq_nil_of_length_eq_zero (by rw [← bs_size]; exact h0)
      refine ⟨(0, 3), ?_, ?_⟩
      · unfold gtin_Digit.f; rw [if_neg (by omega), if_pos hn]
      · unfold larderref02_Digit.f; rw [if_neg (by omega), if_pos hn]
    · have hn : ¬ s.toList = [] := by rw [bs_nil]; intro h; exact h0 (by rw [bs_size, h]; rfl)
      rcases df_spec s with ⟨_, hd⟩ | ⟨r, hf, hr, hb, hd⟩
      · obtain ⟨d, d0, d1, hg, hm⟩ := gDigit s h0 h17 (digs_bt.1 hd) 200 (by omega)
        refine ⟨_, hg, ?_⟩
        unfold larderref02_Digit.f
        rw [if_neg (by omega), if_neg hn]
        exact rdig_l0 s h17 hd _ (fun k hk => rdig_l1 s h17 d d0 d1 hm d.toNat k 0 (by omega) (by omega)) s.size 200 0 (by omega) (by omega)
      · refine ⟨(0, 20), ?_, ?_⟩
        · unfold gtin_Digit.f
          rw [if_neg (by omega), if_neg hn, hf]
          simp only [Option.bind_some]
          rw [if_pos (by omega)]
        · unfold larderref02_Digit.f
          rw [if_neg (by omega), if_neg hn]
          exact rdig_bad s h17 r hr hb hd r 200 0 (by omega) (by omega)
  · refine ⟨(0, 1), ?_, ?_⟩
    · unfold gtin_Digit.f; rw [if_pos (by omega)]
    · unfold larderref02_Digit.f; rw [if_pos (by omega)]

end Go.Proofs.Ytofagdjijpjlgaa.Pure
