/- The law SchedThere over the printed functions: Nth and Rank, there and back; each handler as often as its steps; the next mix is greater. -/
import Derived.Test.YtfcjfjmjcmanaaaPTherex5
import Derived.Test.YtfcjfjmjcmanaaaMe
set_option linter.unusedVariables false
namespace Go.Proofs.Ytfcjfjmjcmanaaa.Pure
open Go.RowKit Go.Proofs.Ytfcjfjmjcmanaaa.X Go.Proofs.Ytfcjfjmjcmanaaa.PThere Go.Proofs.YtfcjfjmjcmanaaaW.PrintWords Go.Proofs.YtfcjfjmjcmanaaaW.PrintLast Go.Proofs.YtfcjfjmjcmanaaaW.PrintMore Go.Proofs.Ytfcjfjmjcmanaaa.Mu

theorem same_self_l0 (L : List Int) (hL : L.length ≤ 1000) : ∀ (d i k : Nat), i + d = L.length → d < k → larderlaw07_same.l0 k L L (i : Int) = some true := by
  intro d
  induction d with
  | zero =>
    intro i k hi hk
    obtain ⟨k, rfl⟩ : ∃ m, k = m + 1 := ⟨k - 1, by omega⟩
    simp only [larderlaw07_same.l0]
    rw [if_neg (by omega)]
  | succ d ih =>
    intro i k hi hk
    obtain ⟨k, rfl⟩ : ∃ m, k = m + 1 := ⟨k - 1, by omega⟩
    simp only [larderlaw07_same.l0]
    rw [if_pos (by omega), if_pos (by omega), if_pos (by omega), if_pos trivial, wn _ (by omega)]
    exact ih (i + 1) k (by omega) (by omega)
theorem lives_at : At [2, 1] 1 [0, 1, 0] :=
  .cons _ _ _ _ (by decide) (by decide) (by decide) (by decide) (.cons _ _ _ _ (by decide) (by decide) (by decide) (by decide) (.cons _ _ _ _ (by decide) (by decide) (by decide) (by decide) (.nil _ (by decide))))
theorem lives_ok (k : Nat) (hk : 1000 ≤ k) : larderlaw07_lives.f k = some true := by
  obtain ⟨l, hA, hE⟩ := Nth_spec [2, 1] ⟨by decide, by decide, by decide⟩ (by decide) 1 (by decide) k hk
  obtain rfl := hA.unique lives_at
  unfold larderlaw07_lives.f
  have hE' : sched_Nth.f k [2, 1] 1 = some ([0, 1, 0], 0) := hE
  rw [hE']
  simp only [Option.bind_some, if_true]
  unfold larderlaw07_same.f
  rw [if_pos rfl]
  have := same_self_l0 [0, 1, 0] (by decide) 3 0 k rfl (by omega)
  have this : larderlaw07_same.l0 k [0, 1, 0] [0, 1, 0] 0 = some true := this
  rw [this]; rfl
theorem below_lt {l m : List Nat} (h : Lt l m) : ∀ (pre : List Nat) (k : Nat), pre.length + l.length ≤ 1000 → 2 * l.length + 2 ≤ k → larderlaw07_below.l0 k (lift (pre ++ l)) (lift (pre ++ m)) (pre.length : Int) = some true := by
  induction h with
  | here a b l m hab =>
    intro pre k hl hk
    simp only [List.length_cons] at hl hk
    obtain ⟨k, rfl⟩ : ∃ m, k = m + 1 + 1 := ⟨k - 2, by omega⟩
    simp only [larderlaw07_below.l0]
    rw [if_pos (by rw [lift_length]; simp; omega), decide_eq_true (by rw [lift_length]; simp; omega)]
    simp only [larderlaw07_below.j1]
    rw [if_pos trivial, if_pos (by omega), if_pos (by rw [lift_length]; simp; omega), if_pos (by rw [lift_length]; simp; omega), rd_lift, rd_lift, getD_mid, getD_mid, if_neg (by omega), decide_eq_true (by omega)]
  | there a l m _ ih =>
    intro pre k hl hk
    simp only [List.length_cons] at hl hk
    obtain ⟨k, rfl⟩ : ∃ m, k = m + 1 + 1 := ⟨k - 2, by omega⟩
    simp only [larderlaw07_below.l0]
    rw [if_pos (by rw [lift_length]; simp; omega), decide_eq_true (by rw [lift_length]; simp; omega)]
    simp only [larderlaw07_below.j1]
    rw [if_pos trivial, if_pos (by omega), if_pos (by rw [lift_length]; simp; omega), if_pos (by rw [lift_length]; simp; omega), rd_lift, rd_lift, getD_mid, getD_mid, if_pos rfl, wn _ (by omega)]
    have := ih (pre ++ [a]) k (by simp; omega) (by omega)
    rw [List.append_assoc, List.singleton_append, List.append_assoc, List.singleton_append, show (pre ++ [a]).length = pre.length + 1 by simp] at this
    exact this
theorem counts_l1 (s : List Nat) (x1 x5 : Int) (h : Nat) (hh : h < s.length) (hl16 : s.length ≤ 16) : ∀ (rest taken : List Nat) (k : Nat), (taken ++ rest).count h = s.getD h 0 → taken.length + rest.length ≤ 24 →
    larderlaw07_SchedThere.l1 (k + rest.length + 1) (lift s) x1 x5 (lift (taken ++ rest)) (h : Int) (taken.count h : Nat) (taken.length : Int) =
      larderlaw07_SchedThere.l0 k (lift s) x1 x5 (lift (taken ++ rest)) ((h + 1 : Nat) : Int) := by
  intro rest
  induction rest with
  | nil =>
    intro taken k hc hl
    rw [List.append_nil] at hc
    simp only [List.length_nil, Nat.add_zero, List.append_nil]
    simp only [larderlaw07_SchedThere.l1]
    rw [if_neg (by rw [lift_length]; omega), if_pos (by omega), if_pos (by rw [lift_length]; omega), rd_lift, hc, if_pos rfl, wn _ (by omega)]
  | cons x rest ih =>
    intro taken k hc hl
    simp only [List.length_cons] at hl
    have ih' := ih (taken ++ [x]) k (by rw [List.append_assoc]; exact hc) (by simp; omega)
    rw [List.append_assoc, List.singleton_append, show (taken ++ [x]).length = taken.length + 1 by simp] at ih'
    have hcb := count_bound taken h
    rw [List.length_cons, show k + (rest.length + 1) + 1 = (k + rest.length + 1) + 1 by omega]
    generalize k + rest.length + 1 = kk at ih' ⊢
    simp only [larderlaw07_SchedThere.l1]
    rw [if_pos (by rw [lift_length]; simp; omega), if_pos (by omega), rd_lift, getD_mid]
    by_cases e : x = h
    · subst e
      rw [if_pos rfl, wn _ (by omega), wn _ (by omega)]
      rw [List.count_append, show List.count x [x] = 1 by simp] at ih'
      exact ih'
    · have e' : (x == h) = false := by simpa using e
      rw [if_neg (by omega), wn _ (by omega)]
      rw [List.count_append, show List.count h [x] = 0 by simp [List.count_cons, e'], Nat.add_zero] at ih'
      exact ih'
theorem counts_l0 (s l : List Nat) (x1 x5 : Int) (hl16 : s.length ≤ 16) (hl : l.length ≤ 24) (hc : ∀ h, l.count h = s.getD h 0) : ∀ (d h k : Nat), h + d = s.length →
    ∃ k', k ≤ k' ∧ larderlaw07_SchedThere.l0 (k + 30 * d + 1) (lift s) x1 x5 (lift l) (h : Int) = (if (wrap64 (x1 + 1)) = x5 then (some true) else ((sched_Nth.f k' (lift s) (wrap64 (x1 + 1))).bind fun bt175 => (if bt175.2 = 0 then ((larderlaw07_below.f k' (lift l) bt175.1).bind fun t179 => (some t179)) else (some false)))) := by
  intro d
  induction d with
  | zero =>
    intro h k hh
    refine ⟨k, Nat.le_refl _, ?_⟩
    simp only [Nat.mul_zero, Nat.add_zero]
    simp only [larderlaw07_SchedThere.l0]
    rw [if_neg (by rw [lift_length]; omega)]
  | succ d ih =>
    intro h k hh
    obtain ⟨k', hk', hE⟩ := ih (h + 1) (k + (28 - l.length)) (by omega)
    refine ⟨k', by omega, ?_⟩
    have h1 := counts_l1 s x1 x5 h (by omega) hl16 l [] (k + (28 - l.length) + 30 * d + 1) (by rw [List.nil_append]; exact hc h) (by simp; omega)
    rw [List.nil_append] at h1
    rw [show k + 30 * (d + 1) + 1 = (k + (28 - l.length) + 30 * d + 1 + l.length + 1) + 1 by omega]
    generalize k + (28 - l.length) + 30 * d + 1 + l.length + 1 = kk at h1 ⊢
    simp only [larderlaw07_SchedThere.l0]
    rw [if_pos (by rw [lift_length]; omega)]
    have h1 : larderlaw07_SchedThere.l1 kk (lift s) x1 x5 (lift l) (h : Int) 0 0 = _ := h1
    rw [h1]
    exact hE
theorem SchedThere : larderlaw07_SchedThere.Pure := by
  intro l0 a1 hl0 _ _ hw
  have hw1 : -9223372036854775808 ≤ a1 ∧ a1 ≤ 9223372036854775807 := by
    simp [Lit.wf, IntKind.min, IntKind.max, IntKind.signed, IntKind.bits] at hw
    omega
  refine ⟨6002, ?_⟩
  unfold larderlaw07_SchedThere.f
  rcases Count_any l0 6002 (by omega) with ⟨s, rfl, hR, hM, hC⟩ | ⟨e, he, hC⟩
  · rw [hC]
    simp only [Option.bind_some, if_true]
    have hpos := M_pos s
    by_cases hout : a1 < 0 ∨ ((M s : Nat) : Int) ≤ a1
    · rw [Nth_out s hR hM a1 hout 6002 (by omega)]
      simp only [Option.bind_some]
      rw [if_neg (by omega)]
      have hj : larderlaw07_SchedThere.j0 6002 (lift s) a1 ((M s : Nat) : Int) [] 2 true = some true := by
        simp only [larderlaw07_SchedThere.j0]
        rw [if_pos trivial, if_pos (by omega), if_pos trivial]
        rfl
      by_cases h0 : a1 < 0
      · rw [if_pos h0]; exact hj
      · rw [if_neg h0, decide_eq_true (by omega)]; exact hj
    · obtain ⟨n, rfl⟩ := Int.eq_ofNat_of_zero_le (show 0 ≤ a1 by omega)
      obtain ⟨l, hA, hN⟩ := Nth_spec s hR hM n (by omega) 6002 (by omega)
      rw [hN]
      simp only [Option.bind_some]
      rw [if_neg (by omega), if_neg (by omega), decide_eq_false (by omega)]
      have hlen := hA.length
      have h24 := hR.2.2
      have h16 := hR.2.1
      simp only [larderlaw07_SchedThere.j0]
      rw [if_neg (by simp), Rank_spec s hR hM n l hA 6001 (by omega)]
      simp only [Option.bind_some, if_true]
      rw [show ((n : Int) != (n : Int)) = false by simp]
      simp only [larderlaw07_SchedThere.j1]
      rw [if_neg (by simp)]
      obtain ⟨k', hk', hE⟩ := counts_l0 s l (n : Int) ((M s : Nat) : Int) h16 (by omega) (fun h => hA.count h) s.length 0 (6000 - 30 * s.length - 1) (by omega)
      rw [show 6000 - 30 * s.length - 1 + 30 * s.length + 1 = 6000 by omega] at hE
      have hE : larderlaw07_SchedThere.l0 6000 (lift s) (n : Int) ((M s : Nat) : Int) (lift l) 0 = _ := hE
      rw [hE]
      have hw2 : wrap64 ((n : Int) + 1) = ((n + 1 : Nat) : Int) := by rw [wr (by omega) (by omega)]; omega
      rw [hw2]
      by_cases hlast : ((n + 1 : Nat) : Int) = ((M s : Nat) : Int)
      · rw [if_pos hlast]
      · rw [if_neg hlast]
        obtain ⟨m, hA2, hN2⟩ := Nth_spec s hR hM (n + 1) (by omega) k' (by omega)
        rw [hN2]
        simp only [Option.bind_some, if_true]
        have hb := below_lt (hA.lt hA2 (by omega)) [] k' (by simp; omega) (by omega)
        rw [List.nil_append, List.nil_append] at hb
        have hb : larderlaw07_below.f k' (lift l) (lift m) = some true := hb
        rw [hb]; rfl
  · rw [hC, Nth_wrong l0 a1 e he 6002 hC]
    simp only [Option.bind_some]
    rw [if_neg he, if_pos trivial, if_pos (by simp), lives_ok 6002 (by omega)]
    rfl
end Go.Proofs.Ytfcjfjmjcmanaaa.Pure
