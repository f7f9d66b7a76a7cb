/- Rank: the program's and the document's answer alike, at every list. Plain. -/
import Derived.Test.YtfcjfjmjcmanaaaMf
set_option linter.unusedVariables false
namespace Go.Proofs.Ytfcjfjmjcmanaaa.X
open Go.RowKit Go.Proofs.Ytfcjfjmjcmanaaa.PThere Go.Proofs.Ytfcjfjmjcmanaaa.PRanks Go.Proofs.YtfcjfjmjcmanaaaW.PrintWords Go.Proofs.YtfcjfjmjcmanaaaW.PrintLast Go.Proofs.YtfcjfjmjcmanaaaW.PrintMore Go.Proofs.Ytfcjfjmjcmanaaa.Mu

/-- A handler's number. -/
abbrev Num (x : Int) : Prop := 0 ≤ x ∧ x < 16
theorem Rank_bad (x0 : List Int) : ∀ (rest : List Int) (pre : List Int) (left : List Nat) (k : Nat), (∃ x ∈ rest, ¬ Num x) → left.length ≤ 16 → (∀ i, left.getD i 0 ≤ pre.length) → pre.length + rest.length ≤ 24 → 20 * rest.length + 100 ≤ k →
    sched_Rank.l0 k x0 (lift left) (pre ++ rest) ((pre ++ rest).length : Int) (pre.length : Int) = some (0, 2) := by
  intro rest
  induction rest with
  | nil => rintro pre left k ⟨x, hx, _⟩; simp at hx
  | cons x rest ih =>
    intro pre left k hbad hl hc hlen hk
    simp only [List.length_cons] at hlen hk
    obtain ⟨d, hd⟩ : ∃ d, x.toNat + 1 - left.length = d := ⟨_, rfl⟩
    obtain ⟨k, rfl⟩ : ∃ m, k = m + 1 + 1 := ⟨k - 2, by omega⟩
    simp only [sched_Rank.l0]
    rw [if_pos (by simp; omega), if_pos (by omega), if_pos (by simp; omega), rd_mid]
    by_cases h0 : x < 0
    · rw [if_pos h0]
      simp only [sched_Rank.j1]
      rw [if_pos trivial]
    · rw [if_neg h0]
      simp only [sched_Rank.j1]
      by_cases h1 : x ≥ 16
      · rw [decide_eq_true h1, if_pos rfl]
      · rw [decide_eq_false h1, if_neg (by simp)]
        obtain ⟨h, rfl⟩ := Int.eq_ofNat_of_zero_le (show 0 ≤ x by omega)
        rw [Int.toNat_natCast] at hd
        obtain ⟨k, rfl⟩ : ∃ m, k = m + d + 1 := ⟨k - d - 1, by omega⟩
        have hb := hc h
        rw [Rank_l1 x0 _ _ _ h (by omega) d left k hd hl (by omega), wn _ (by omega)]
        have hbad' : ∃ y ∈ rest, ¬ Num y := by
          obtain ⟨y, hy, hn⟩ := hbad
          rcases List.mem_cons.1 hy with rfl | hy
          · exact absurd ⟨by omega, by omega⟩ hn
          · exact ⟨y, hy, hn⟩
        have := ih (pre ++ [(h : Int)]) ((left ++ List.replicate d 0).set h (left.getD h 0 + 1)) k hbad' (by simp; omega) (fun i => by
          rw [List.getD_eq_getElem?_getD, List.getElem?_set]
          by_cases e : h = i
          · rw [if_pos e]
            split
            · simp only [Option.getD_some, List.length_append, List.length_singleton]; omega
            · simp
          · rw [if_neg e, ← List.getD_eq_getElem?_getD, getD_zeros]
            have := hc i
            simp only [List.length_append, List.length_singleton]; omega) (by simp; omega) (by omega)
        rw [List.append_assoc, List.singleton_append, show (pre ++ [(h : Int)]).length = pre.length + 1 by simp] at this
        exact this
theorem numbers_l0 : ∀ (rest pre : List Int) (k : Nat), pre.length + rest.length ≤ 1000000000000000000 → rest.length + 1 ≤ k →
    larderref07_numbers.l0 k (pre ++ rest) (pre.length : Int) = some (decide (∀ x ∈ rest, Num x)) := by
  intro rest
  induction rest with
  | nil =>
    intro pre k h hk
    obtain ⟨k, rfl⟩ : ∃ m, k = m + 1 := ⟨k - 1, by omega⟩
    simp only [larderref07_numbers.l0]
    rw [if_neg (by simp)]
    simp
  | cons x rest ih =>
    intro pre k h hk
    simp only [List.length_cons] at h hk
    obtain ⟨k, rfl⟩ : ∃ m, k = m + 1 := ⟨k - 1, by omega⟩
    simp only [larderref07_numbers.l0]
    rw [if_pos (by simp; omega), if_pos (by omega), rd_mid]
    by_cases h0 : x < 0
    · rw [if_pos h0, decide_eq_false (fun z => by have := (z x (by simp)).1; omega)]
    · rw [if_neg h0]
      by_cases h1 : x ≥ 16
      · rw [if_pos h1, decide_eq_false (fun z => by have := (z x (by simp)).2; omega)]
      · rw [if_neg h1]
        have := ih (pre ++ [x]) k (by simp; omega) (by omega)
        rw [List.append_assoc, List.singleton_append, show (pre ++ [x]).length = pre.length + 1 by simp] at this
        rw [show wrap64 ((pre.length : Int) + 1) = ((pre.length + 1 : Nat) : Int) by rw [wr (by omega) (by omega)]; omega, this]
        refine congrArg some (decide_eq_decide.2 ?_)
        constructor
        · intro z y hy
          rcases List.mem_cons.1 hy with rfl | hy
          · exact ⟨by omega, by omega⟩
          · exact z y hy
        · intro z y hy
          exact z y (List.mem_cons_of_mem _ hy)
theorem numbers_spec (l : List Int) (k : Nat) (hl : l.length ≤ 1000000000000000000) (hk : l.length + 1 ≤ k) : larderref07_numbers.f k l = some (decide (∀ x ∈ l, Num x)) := by
  have := numbers_l0 l [] k (by simpa using hl) hk
  rw [List.nil_append] at this
  exact this
theorem StepsOf_l1 (P : List Int) (i : Nat) (h : Nat) (hP : rd P (i : Int) = (h : Int)) (hi : (i : Int) < (P.length : Int)) (hh : h < 16) : ∀ (d : Nat) (left : List Nat) (k : Nat), h + 1 - left.length = d → left.length ≤ 16 → left.getD h 0 ≤ 100 →
    larderref07_StepsOf.l1 (k + d + 1) P (lift left) (i : Int) = larderref07_StepsOf.l0 k P (lift ((left ++ List.replicate d 0).set h (left.getD h 0 + 1))) (wrap64 ((i : Int) + 1)) := by
  intro d
  induction d with
  | zero =>
    intro left k hd hl hb
    have hw := wn (left.getD h 0) (by omega)
    simp only [larderref07_StepsOf.l1]
    rw [if_pos (by omega), if_pos hi, hP, if_neg (by rw [lift_length]; omega), if_pos (by omega), if_pos (by rw [lift_length]; omega), rd_lift, hw, Int.toNat_natCast, lift_set]
    simp
  | succ d ih =>
    intro left k hd hl hb
    have e0 : (left ++ [0]).getD h 0 = left.getD h 0 := getD_zeros left 1 h
    have h1 := ih (left ++ [0]) k (by simp; omega) (by simp; omega) (by rw [e0]; exact hb)
    rw [show k + (d + 1) + 1 = (k + d + 1) + 1 by omega]
    generalize k + d + 1 = kk at h1 ⊢
    simp only [larderref07_StepsOf.l1]
    rw [if_pos (by omega), if_pos hi, hP, if_pos (by rw [lift_length]; omega), if_pos (by rw [lift_length]; omega)]
    have e1 : lift left ++ [0] = lift (left ++ [0]) := by simp [lift]
    rw [e1, h1, e0, List.append_assoc]
    rfl
theorem StepsOf_l0 : ∀ (rest taken left : List Nat) (k : Nat), (∀ h ∈ rest, h < 16) → (∀ i, left.getD i 0 = taken.count i) → left.length ≤ 16 → (taken ≠ [] → 1 ≤ left.length) → taken.length + rest.length ≤ 24 → 20 * rest.length + 100 ≤ k →
    ∃ (left' : List Nat), left'.length ≤ 16 ∧ (taken ++ rest ≠ [] → 1 ≤ left'.length) ∧ (∀ i, left'.getD i 0 = (taken ++ rest).count i) ∧
      larderref07_StepsOf.l0 k (lift (taken ++ rest)) (lift left) (taken.length : Int) = some (lift left') := by
  intro rest
  induction rest with
  | nil =>
    intro taken left k h1 h2 h3 h5 h4 hk
    obtain ⟨k, rfl⟩ : ∃ m, k = m + 1 := ⟨k - 1, by omega⟩
    refine ⟨left, h3, by simpa using h5, by simpa using h2, ?_⟩
    simp only [larderref07_StepsOf.l0]
    rw [if_neg (by rw [lift_length]; simp)]
  | cons h rest ih =>
    intro taken left k h1 h2 h3 h5 h4 hk
    simp only [List.length_cons] at h4 hk
    have hh := h1 h (by simp)
    obtain ⟨d, hd⟩ : ∃ d, h + 1 - left.length = d := ⟨_, rfl⟩
    obtain ⟨k, rfl⟩ : ∃ m, k = (m + d + 1) + 1 := ⟨k - d - 2, by omega⟩
    have hb : left.getD h 0 ≤ 100 := by rw [h2]; have := count_bound taken h; omega
    simp only [larderref07_StepsOf.l0]
    rw [if_pos (by rw [lift_length]; simp; omega), StepsOf_l1 _ taken.length h (by rw [rd_lift, getD_mid]) (by rw [lift_length]; simp; omega) hh d left k hd (by omega) hb, wn _ (by omega)]
    obtain ⟨left', hl', hn', hc', hE⟩ := ih (taken ++ [h]) ((left ++ List.replicate d 0).set h (left.getD h 0 + 1)) k (fun x hx => h1 x (by simp [hx])) (fun i => by
      rw [List.count_append, ← h2 i]
      by_cases e : h = i
      · subst e
        have : h < (left ++ List.replicate d 0).length := by simp; omega
        rw [List.getD_eq_getElem?_getD, List.getElem?_set, if_pos rfl, if_pos this]
        simp
      · have e' : (h == i) = false := by simpa using e
        rw [List.getD_eq_getElem?_getD, List.getElem?_set, if_neg e, ← List.getD_eq_getElem?_getD, getD_zeros]
        simp [List.count_cons, e']) (by simp; omega) (fun _ => by simp; omega) (by simp; omega) (by omega)
    rw [List.append_assoc, List.singleton_append, show (taken ++ [h]).length = taken.length + 1 by simp] at hE
    refine ⟨left', hl', by rw [List.append_assoc, List.singleton_append] at hn'; exact hn', by rw [List.append_assoc, List.singleton_append] at hc'; exact hc', hE⟩
/-- Each list of picks is some mix of its own counts. -/
theorem at_exists : ∀ (t s : List Nat), (∀ i, t.count i = s.getD i 0) → ∃ n, At s n t
  | [], s, h => by
    refine ⟨0, .nil s ?_⟩
    have z : ∀ (s : List Nat), (∀ i, s.getD i 0 = 0) → s.sum = 0 := by
      intro s
      induction s with
      | nil => intro _; rfl
      | cons n s ih =>
        intro h
        have h0 := h 0
        simp only [List.getD_cons_zero] at h0
        rw [List.sum_cons, ih (fun i => by simpa using h (i + 1)), h0]
    exact z s (fun i => by rw [← h i]; simp)
  | x :: t, s, h => by
    have hx := h x
    simp only [List.count_cons_self] at hx
    have hp : 0 < s.getD x 0 := by omega
    have hl : x < s.length := by
      rcases Nat.lt_or_ge x s.length with y | y
      · exact y
      · rw [List.getD_eq_getElem?_getD, List.getElem?_eq_none y] at hp; simp at hp
    obtain ⟨n, hA⟩ := at_exists t (dec s x) (fun i => by
      rw [dec_getD]
      have hi := h i
      rw [List.count_cons] at hi
      by_cases e : i = x
      · subst e
        have z : (i == i) = true := by simp
        rw [if_pos z] at hi
        rw [if_pos rfl]; omega
      · have e' : (x == i) = false := by simpa using fun z => e z.symm
        rw [e'] at hi
        rw [if_neg e]
        simpa using hi)
    have hb := hA.bound
    exact ⟨pre s x + n, .cons s _ x t hl hp (by omega) (by omega) (by rw [Nat.add_sub_cancel_left]; exact hA)⟩
/-- The document's Rank: the inner loop. -/
theorem rRank_l1 (s : List Nat) (hs : s.sum ≤ 24) (hl : s.length ≤ 16) (hM : M s ≤ 4611686018427387904) (h : Nat) (hh : h < s.length) (hp : 0 < s.getD h 0) (x7 : Nat) (hx : x7 + pre s h ≤ 4611686018427387904) (P : List Int) (i : Nat) (hP : rd P (i : Int) = (h : Int)) (hi : (i : Int) < (P.length : Int)) :
    ∀ (d g k : Nat), g + d = h → 80 ≤ k →
      larderref07_Rank.l1 (k + d + 1) P (lift s) ((x7 + pre s g : Nat) : Int) (i : Int) (g : Int) = larderref07_Rank.l0 k P (lift (dec s h)) ((x7 + pre s h : Nat) : Int) (wrap64 ((i : Int) + 1)) := by
  intro d
  induction d with
  | zero =>
    intro g k hd hk
    obtain rfl : g = h := by omega
    simp only [larderref07_Rank.l1]
    rw [if_pos (by omega), if_pos hi, hP, if_neg (by omega), less_spec s g hh hp hs hl]
    rfl
  | succ d ih =>
    intro g k hd hk
    have ih' := ih (g + 1) k (by omega) hk
    have hpm := pre_mono s (g + 1) (h - (g + 1))
    rw [show g + 1 + (h - (g + 1)) = h by omega] at hpm
    have hpre : pre s (g + 1) = pre s g + w s g := rfl
    have hwg := Lib.hid (wn g (by omega))
    rw [show k + (d + 1) + 1 = (k + d + 1) + 1 by omega]
    obtain ⟨kk, hkk⟩ : ∃ kk, k + d + 1 = kk := ⟨_, rfl⟩
    have hk80 : 80 ≤ kk := by omega
    rw [hkk] at ih' ⊢
    clear hkk ih
    simp only [larderref07_Rank.l1]
    rw [if_pos (by omega), if_pos hi, hP, if_pos (by omega), if_pos (by omega), if_pos (by rw [lift_length]; omega), rd_lift]
    by_cases hz : 0 < s.getD g 0
    · have hw : w s g = M (dec s g) := by unfold w; rw [if_pos hz]
      have hsd := sum_dec s g hz
      have hMd := w_le s g (by omega) hz
      have hcnt := rcount_of (dec s g) (by omega) (by rw [dec_length]; omega) (by rw [dec_length]; exact hl) (by omega) kk hk80
      have e6 := Lib.hid (show wrap64 (((x7 + pre s g : Nat) : Int) + ((M (dec s g) : Nat) : Int)) = ((x7 + pre s (g + 1) : Nat) : Int) by rw [wr (by omega) (by omega)]; omega)
      rw [if_pos (by omega), less_spec s g (by omega) hz hs hl]
      simp only [Option.bind_some]
      rw [hcnt]
      simp only [Option.bind_some]
      rw [e6.out, hwg.out]
      exact ih'
    · have hw : w s g = 0 := by unfold w; rw [if_neg hz]
      rw [if_neg (by omega), hwg.out]
      rw [hpre, hw, Nat.add_zero] at ih'
      exact ih'
theorem rRank_l0 : ∀ (l : List Nat) (s : List Nat) (n x7 : Nat) (taken : List Nat) (k : Nat), At s n l → s.sum ≤ 24 → s.length ≤ 16 → M s ≤ 4611686018427387904 → x7 + n ≤ 4611686018427387904 → taken.length + l.length ≤ 100 → 20 * l.length + 100 ≤ k →
    larderref07_Rank.l0 k (lift (taken ++ l)) (lift s) (x7 : Int) (taken.length : Int) = some (((x7 + n : Nat) : Int), 0) := by
  intro l
  induction l with
  | nil =>
    intro s n x7 taken k hA hs hl hM hx ht hk
    obtain ⟨k, rfl⟩ : ∃ m, k = m + 1 := ⟨k - 1, by omega⟩
    cases hA with
    | nil _ _ =>
      simp only [larderref07_Rank.l0]
      rw [if_neg (by rw [lift_length]; simp)]; rfl
  | cons h l ih =>
    intro s n x7 taken k hA hs hl hM hx ht hk
    simp only [List.length_cons] at ht hk
    cases hA with
    | cons _ _ _ _ hh hp h1 h2 hA' =>
      obtain ⟨k, rfl⟩ : ∃ m, k = (m + h + 1) + 1 := ⟨k - h - 2, by omega⟩
      simp only [larderref07_Rank.l0]
      rw [if_pos (by rw [lift_length]; simp; omega)]
      have h3 := rRank_l1 s hs hl hM h hh hp x7 (by omega) (lift (taken ++ h :: l)) taken.length (by rw [rd_lift, getD_mid]) (by rw [lift_length]; simp; omega) h 0 k (by omega) (by omega)
      rw [show x7 + pre s 0 = x7 from rfl] at h3
      have h3 : larderref07_Rank.l1 (k + h + 1) (lift (taken ++ h :: l)) (lift s) (x7 : Int) (taken.length : Int) 0 = _ := h3
      rw [h3, wn _ (by omega)]
      have hsd := sum_dec s h hp
      have hMd := w_le s h hh hp
      have h4 := ih (dec s h) (n - pre s h) (x7 + pre s h) (taken ++ [h]) k hA' (by omega) (by rw [dec_length]; exact hl) (by omega) (by omega) (by simp; omega) (by omega)
      rw [List.append_assoc, List.singleton_append, show (taken ++ [h]).length = taken.length + 1 by simp, show x7 + pre s h + (n - pre s h) = x7 + n by omega] at h4
      exact h4
theorem nums_lift : ∀ l : List Int, (∀ x ∈ l, Num x) → ∃ t : List Nat, l = lift t ∧ ∀ h ∈ t, h < 16
  | [], _ => ⟨[], rfl, by simp⟩
  | x :: l, h => by
    obtain ⟨t, rfl, ht⟩ := nums_lift l (fun y hy => h y (List.mem_cons_of_mem _ hy))
    have hx := h x (by simp)
    unfold Num at hx
    exact ⟨x.toNat :: t, by show x :: lift t = (x.toNat : Int) :: lift t; rw [Int.toNat_of_nonneg hx.1], fun y hy => by
      rcases List.mem_cons.1 hy with rfl | hy
      · omega
      · exact ht y hy⟩
/-- Both ranks answer alike. -/
theorem ranks_both (l : List Int) (k : Nat) (hk : 3000 ≤ k) : ∃ r : Int × Int, sched_Rank.f k l = some r ∧ larderref07_Rank.f k l = some r := by
  obtain ⟨k, rfl⟩ : ∃ m, k = m + 1 := ⟨k - 1, by omega⟩
  unfold sched_Rank.f larderref07_Rank.f
  by_cases h24 : (l.length : Int) > 24
  · refine ⟨(0, 2), by rw [if_pos h24], ?_⟩
    rw [if_pos h24]
    simp only [larderref07_Rank.j0]
    rw [if_pos trivial]
  · rw [if_neg h24, if_neg h24, numbers_spec l (k + 1) (by omega) (by omega)]
    simp only [Option.bind_some, larderref07_Rank.j0]
    by_cases hn : ∀ x ∈ l, Num x
    · rw [decide_eq_true hn, if_neg (by simp)]
      obtain ⟨t, rfl, ht⟩ := nums_lift l hn
      rw [lift_length] at h24
      obtain ⟨left, k', hk', hl', hc', hE⟩ := Rank_l0 (lift t) 16 (Nat.le_refl _) t [] [] (k + 1) ht (fun i => by simp) (by simp) (by simp; omega) (by omega)
      rw [List.nil_append] at hE hc'
      have hE' : sched_Rank.l0 (k + 1) (lift t) [] (lift t) (t.length : Int) 0 = _ := hE
      rw [show ((lift t).length : Int) = (t.length : Int) by rw [lift_length], hE']
      obtain ⟨left2, hl2, hn2, hc2, hE2⟩ := StepsOf_l0 t [] [] k ht (fun i => by simp) (by simp) (by simp) (by simp; omega) (by omega)
      rw [List.nil_append] at hE2 hc2 hn2
      have hE2 : larderref07_StepsOf.f k (lift t) = some (lift left2) := hE2
      -- one list of sixteen counts stands behind both
      obtain ⟨s16, hs16⟩ : ∃ s16, s16 = left ++ List.replicate (16 - left.length) 0 := ⟨_, rfl⟩
      have hg : ∀ i, s16.getD i 0 = t.count i := fun i => by rw [hs16, getD_zeros, hc']
      have hlen16 : s16.length = 16 := by rw [hs16]; simp; omega
      have hs2 := eq_zeros left2 s16 (by omega) (fun i => by rw [hg, hc2])
      obtain ⟨z, hz⟩ : ∃ z, s16.length - left2.length = z := ⟨_, rfl⟩
      rw [hz] at hs2
      obtain ⟨n, hA⟩ := at_exists t s16 (fun i => (hg i).symm)
      have hA1 : At left n t := by rw [hs16] at hA; exact hA.zeros
      have hA2 : At left2 n t := by rw [hs2] at hA; exact hA.zeros
      have hM1 : M left = M s16 := by rw [hs16, M_zeros]
      have hM2 : M left2 = M s16 := by rw [hs2, M_zeros]
      have hsum1 := hA1.length
      have hsum2 := hA2.length
      rw [count_spec left (by omega) hl' k' (by omega)]
      simp only [Option.bind_some]
      by_cases hbig : M s16 ≤ 4611686018427387904
      · refine ⟨((n : Int), 0), ?_, ?_⟩
        · rw [told_yes (by omega), if_pos rfl]
          have hb := hA1.bound
          have := Rank_l2 t left n 0 [] k' hA1 (by omega) hl' (by omega) (by omega) (by simp; omega) (by omega)
          rw [List.nil_append, Nat.zero_add] at this
          rw [lift_length]
          exact this
        · by_cases he : t = []
          · subst he
            have hn0 : n = 0 := by cases hA1; rfl
            subst hn0
            rw [if_pos (by rfl)]; rfl
          · rw [if_neg (by have := List.length_pos_iff.2 he; omega), hE2]
            simp only [Option.bind_some]
            rw [rcount_of left2 (by omega) (hn2 he) hl2 (by omega) k (by omega)]
            simp only [Option.bind_some, if_true]
            have hb := hA2.bound
            have := rRank_l0 t left2 n 0 [] k hA2 (by omega) hl2 (by omega) (by omega) (by simp; omega) (by omega)
            rw [List.nil_append, Nat.zero_add] at this
            exact this
      · refine ⟨(0, 26), ?_, ?_⟩
        · rw [told_no (by omega), if_neg (by simp)]
        · by_cases he : t = []
          · subst he
            rw [← hM1, M_zero left (by rw [← hsum1]; rfl)] at hbig
            omega
          · rw [if_neg (by have := List.length_pos_iff.2 he; omega), hE2]
            simp only [Option.bind_some]
            rw [rCount_spec left2 ⟨hn2 he, hl2, by omega⟩ k (by omega)]
            unfold told2
            rw [if_neg (by omega)]
            rfl
    · rw [decide_eq_false hn, if_pos (by rfl)]
      refine ⟨(0, 2), ?_, rfl⟩
      have hbad : ∃ x ∈ l, ¬ Num x := by
        apply Classical.byContradiction
        intro z
        exact hn fun x hx => Classical.byContradiction fun y => z ⟨x, hx, y⟩
      have := Rank_bad l l [] [] (k + 1) hbad (by simp) (fun i => by simp) (by simp; omega) (by omega)
      rw [List.nil_append] at this
      exact this
end Go.Proofs.Ytfcjfjmjcmanaaa.X
