/- The document's Steps, choose, Count, Nth, Rank: the printed functions tell what the program's do. Plain. -/
import Derived.Test.YtfcjfjmjcmanaaaMe
import Derived.Test.YtfcjfjmjcmanaaaPRanksx2
set_option linter.unusedVariables false
namespace Go.Proofs.Ytfcjfjmjcmanaaa.X
open Go.RowKit Go.Proofs.Ytfcjfjmjcmanaaa.PThere Go.Proofs.Ytfcjfjmjcmanaaa.PRanks Go.Proofs.YtfcjfjmjcmanaaaW.PrintWords Go.Proofs.YtfcjfjmjcmanaaaW.PrintLast Go.Proofs.YtfcjfjmjcmanaaaW.PrintMore Go.Proofs.Ytfcjfjmjcmanaaa.Mu

theorem rd_mid (pre : List Int) (x : Int) (rest : List Int) : rd (pre ++ x :: rest) (pre.length : Int) = x := by
  unfold rd
  rw [Int.toNat_natCast, List.getD_eq_getElem?_getD, List.getElem?_append_right (Nat.le_refl _)]; simp
theorem rSteps_l0 : ∀ (rest pre : List Int) (p : Int) (k : Nat), 0 ≤ p → p + 24 * rest.length ≤ 1000 → pre.length + rest.length ≤ 1000 → rest.length + 1 ≤ k →
    ∃ x, larderref07_Steps.l0 k (pre ++ rest) p (pre.length : Int) = some (x, decide ((∀ x ∈ rest, 0 ≤ x ∧ x ≤ 24) ∧ p + rest.sum ≤ 24)) ∧ ((∀ x ∈ rest, 0 ≤ x ∧ x ≤ 24) → x = p + rest.sum) := by
  intro rest
  induction rest with
  | nil =>
    intro pre p k h0 h1 h2 hk
    obtain ⟨k, rfl⟩ : ∃ m, k = m + 1 := ⟨k - 1, by omega⟩
    refine ⟨p, ?_, fun _ => by simp⟩
    simp only [larderref07_Steps.l0]
    rw [if_neg (by simp)]
    simp
  | cons x rest ih =>
    intro pre p k h0 h1 h2 hk
    simp only [List.length_cons] at h1 h2 hk
    obtain ⟨k, rfl⟩ : ∃ m, k = m + 1 := ⟨k - 1, by omega⟩
    simp only [larderref07_Steps.l0]
    rw [if_pos (by simp; omega), if_pos (by omega), rd_mid]
    by_cases x0 : x < 0
    · refine ⟨0, ?_, fun h => by have := h x (by simp); omega⟩
      rw [if_pos x0, decide_eq_false]
      intro h; have := h.1 x (by simp); omega
    · rw [if_neg x0]
      by_cases x1 : x > 24
      · refine ⟨0, ?_, fun h => by have := h x (by simp); omega⟩
        rw [if_pos x1, decide_eq_false]
        intro h; have := h.1 x (by simp); omega
      · rw [if_neg x1, wr (by omega) (by omega), wn _ (by omega)]
        obtain ⟨y, hy, hy2⟩ := ih (pre ++ [x]) (p + x) k (by omega) (by omega) (by simp; omega) (by omega)
        rw [List.append_assoc, List.singleton_append, show (pre ++ [x]).length = pre.length + 1 by simp] at hy
        refine ⟨y, ?_, fun h => by rw [hy2 (fun z hz => h z (List.mem_cons_of_mem _ hz)), List.sum_cons]; omega⟩
        rw [hy]
        have : decide ((∀ x ∈ rest, 0 ≤ x ∧ x ≤ 24) ∧ p + x + rest.sum ≤ 24) = decide ((∀ y ∈ x :: rest, 0 ≤ y ∧ y ≤ 24) ∧ p + (x :: rest).sum ≤ 24) := by
          refine decide_eq_decide.2 ?_
          rw [List.sum_cons, ← Int.add_assoc]
          constructor
          · rintro ⟨ha, hb⟩
            exact ⟨fun y hy => by rcases List.mem_cons.1 hy with rfl | hy; exact ⟨by omega, by omega⟩; exact ha y hy, hb⟩
          · rintro ⟨ha, hb⟩
            exact ⟨fun y hy => ha y (List.mem_cons_of_mem _ hy), hb⟩
        rw [this]
/-- Both ask the same of steps. -/
theorem steps_both (l : List Int) (k : Nat) (hk : 80 ≤ k) :
    (∃ s, l = lift s ∧ Right s ∧ sched_stepsRight.f k l = some true ∧ larderref07_Steps.f k l = some (((s.sum : Nat) : Int), true)) ∨ (sched_stepsRight.f k l = some false ∧ ∃ x, larderref07_Steps.f k l = some (x, false)) := by
  obtain ⟨k, rfl⟩ : ∃ m, k = m + 1 := ⟨k - 1, by omega⟩
  unfold sched_stepsRight.f sched_handlersRight.f larderref07_Steps.f
  simp only [larderref07_Steps.j0]
  by_cases h1 : (l.length : Int) ≥ 1
  · rw [if_pos h1, if_neg (by omega)]
    simp only [Option.bind_some]
    by_cases h2 : (l.length : Int) ≤ 16
    · rw [if_pos (by simpa using h2), if_neg (by simp; omega)]
      have h := right_l0 l [] 0 (k + 1) (by omega) (by omega) (by simp; omega) (by omega)
      rw [List.nil_append] at h
      have h : sched_stepsRight.l0 (k + 1) 0 l (l.length : Int) 0 = some (decide ((∀ x ∈ l, 0 ≤ x ∧ x ≤ 24) ∧ 0 + l.sum ≤ 24)) := h
      obtain ⟨x, hx, hx2⟩ := rSteps_l0 l [] 0 k (by omega) (by omega) (by simp; omega) (by omega)
      rw [List.nil_append] at hx
      have hx : larderref07_Steps.l0 k l 0 0 = _ := hx
      rw [h, hx]
      by_cases hp : (∀ x ∈ l, 0 ≤ x ∧ x ≤ 24) ∧ 0 + l.sum ≤ 24
      · left
        obtain ⟨s, rfl⟩ := lift_of l (fun x hx => (hp.1 x hx).1)
        rw [lift_length] at h1 h2
        have h3 := hp.2
        have h4 := hx2 hp.1
        rw [lift_sum] at h3 h4
        exact ⟨s, rfl, ⟨by omega, by omega, by omega⟩, by rw [decide_eq_true hp], by rw [decide_eq_true hp, h4, Int.zero_add]⟩
      · right; rw [decide_eq_false hp]; exact ⟨rfl, x, rfl⟩
    · right; rw [if_neg (by simpa using h2), if_pos (by simpa using h2)]; exact ⟨rfl, 0, rfl⟩
  · right; rw [if_neg h1, if_pos (by omega)]; exact ⟨rfl, 0, rfl⟩
theorem rSteps_yes (s : List Nat) (h : Right s) (k : Nat) (hk : 80 ≤ k) : larderref07_Steps.f k (lift s) = some (((s.sum : Nat) : Int), true) := by
  rcases steps_both (lift s) k hk with ⟨s', he, _, _, h2⟩ | ⟨h1, _⟩
  · have : (lift s).sum = (lift s').sum := by rw [he]
    rw [lift_sum, lift_sum] at this
    rw [h2, this]
  · rw [stepsRight_yes s h k hk] at h1; cases h1
theorem ch_next (n i : Nat) (h : i < n) : (i + 1) * ch n (i + 1) = ch n i * (n - i) := by
  obtain ⟨d, rfl⟩ : ∃ d, n = (d + 1) + i := ⟨n - i - 1, by omega⟩
  have h1 := ch_fac (d + 1) i
  have h2 := ch_fac d (i + 1)
  rw [show d + (i + 1) = d + 1 + i by omega] at h2
  have f1 : fac (i + 1) = (i + 1) * fac i := rfl
  have f2 : fac (d + 1) = (d + 1) * fac d := rfl
  rw [f1] at h2
  rw [f2] at h1
  have hp : 0 < fac i * fac d := Nat.mul_pos (fac_pos _) (fac_pos _)
  apply Nat.eq_of_mul_eq_mul_right hp
  rw [show d + 1 + i - i = d + 1 by omega]
  have : ch (d + 1 + i) (i + 1) * ((i + 1) * fac i * fac d) = ch (d + 1 + i) i * (fac i * ((d + 1) * fac d)) := by rw [h1, h2]
  grind
theorem ch_le_pow : ∀ n k, ch n k ≤ 2 ^ n
  | 0, 0 => by decide
  | 0, k + 1 => by simp [ch]
  | n + 1, 0 => by rw [ch_zero]; exact Nat.one_le_two_pow
  | n + 1, k + 1 => by
    show ch n k + ch n (k + 1) ≤ 2 ^ (n + 1)
    have h1 := ch_le_pow n k
    have h2 := ch_le_pow n (k + 1)
    rw [Nat.pow_succ]; omega
theorem ch_small (n k : Nat) (h : n ≤ 24) : ch n k ≤ 16777216 := Nat.le_trans (ch_le_pow n k) (Nat.pow_le_pow_right (n := 2) (by decide) h)
theorem choose_l0 (n m : Nat) (hn : n ≤ 24) (hm : m ≤ n) : ∀ (d i k : Nat), i + d = m → d + 1 ≤ k → larderref07_choose.l0 k (n : Int) (m : Int) ((ch n i : Nat) : Int) (i : Int) = some ((ch n m : Nat) : Int) := by
  intro d
  induction d with
  | zero =>
    intro i k hi hk
    obtain ⟨k, rfl⟩ : ∃ j, k = j + 1 := ⟨k - 1, by omega⟩
    obtain rfl : i = m := by omega
    simp only [larderref07_choose.l0]
    rw [if_neg (by omega)]
  | succ d ih =>
    intro i k hi hk
    obtain ⟨k, rfl⟩ : ∃ j, k = j + 1 := ⟨k - 1, by omega⟩
    have ih' := ih (i + 1) k (by omega) (by omega)
    have hin : i < n := by omega
    have him : (i : Int) < (m : Int) := by omega
    have hni := Lib.hid (show wrap64 ((n : Int) - (i : Int)) = ((n - i : Nat) : Int) by rw [wr (by omega) (by omega)]; omega)
    have hz : ¬ (((i + 1 : Nat) : Int) = 0) := by omega
    have hi1 : (0 : Int) < ((i + 1 : Nat) : Int) := by omega
    have hn24 : n - i ≤ 24 := by omega
    have hi1000 : i ≤ 1000 := by omega
    have hw := Lib.hid (wn i hi1000)
    have hs := ch_next n i hin
    have hb := ch_small n i hn
    have hb2 := ch_small n (i + 1) hn
    clear ih
    generalize ch n (i + 1) = c' at *
    generalize ch n i = c at *
    generalize ch n m = R at *
    generalize n - i = j at *
    have hcj : c * j ≤ 402653184 := Nat.mul_le_mul hb hn24
    have hnn : 0 ≤ ((i + 1 : Nat) : Int) * (c' : Int) := Int.mul_nonneg (by omega) (by omega)
    have hne : ((i + 1 : Nat) : Int) ≠ 0 := hz
    have e3 := Lib.hid (show wrap64 (c' : Int) = (c' : Int) from wr (by omega) (by omega))
    have e1 := Lib.hid (show wrap64 ((c : Int) * (j : Int)) = ((c * j : Nat) : Int) by rw [← Int.natCast_mul]; exact wr (by omega) (by omega))
    have e2 : Int.tdiv ((c * j : Nat) : Int) ((i + 1 : Nat) : Int) = (c' : Int) := by
      rw [← hs, Int.natCast_mul, Int.tdiv_eq_ediv_of_nonneg hnn]
      exact Int.mul_ediv_cancel_left _ hne
    simp only [larderref07_choose.l0]
    rw [if_pos him, hw.out, if_neg hz, hni.out, e1.out, e2, e3.out]
    exact ih'
theorem choose_spec (n m : Nat) (hn : n ≤ 24) (hm : m ≤ n) (k : Nat) (hk : 30 ≤ k) : larderref07_choose.f k (n : Int) (m : Int) = some ((ch n m : Nat) : Int) := by
  have h := choose_l0 n m hn hm m 0 k (by omega) (by omega)
  rw [ch_zero] at h
  exact h
def mulr : List Nat → Nat
  | [] => 1
  | n :: s => ch (s.sum + n) n * mulr s
theorem mulr_pos : ∀ s, 0 < mulr s
  | [] => Nat.one_pos
  | n :: s => Nat.mul_pos (ch_pos _ _) (mulr_pos s)
theorem mulr_fac : ∀ s, mulr s * facs s = fac s.sum
  | [] => rfl
  | n :: s => by
    have h := mulr_fac s
    have h2 := ch_fac s.sum n
    rw [List.sum_cons, Nat.add_comm n s.sum, ← h2, ← h]
    show ch (s.sum + n) n * mulr s * (fac n * facs s) = _
    grind
theorem mulr_eq (s : List Nat) : mulr s = M s := Nat.eq_of_mul_eq_mul_right (facs_pos s) (by rw [mulr_fac, M_fac])
/-- What the document's Count tells. -/
def told2 (m : Nat) : Int × Int := if m ≤ 4611686018427387904 then ((m : Int), 0) else (0, 26)
theorem rCount_l0 : ∀ (rest pre : List Nat) (a k : Nat), rest.sum ≤ 24 → pre.length + rest.length ≤ 1000 → 0 < a → a ≤ 4611686018427387904 → rest.length + 40 ≤ k →
    larderref07_Count.l0 k (lift (pre ++ rest)) ((rest.sum : Nat) : Int) (a : Int) (pre.length : Int) = some (told2 (a * mulr rest)) := by
  intro rest
  induction rest with
  | nil =>
    intro pre a k h1 h2 ha ha2 hk
    obtain ⟨k, rfl⟩ : ∃ j, k = j + 1 := ⟨k - 1, by omega⟩
    simp only [larderref07_Count.l0]
    rw [if_neg (by rw [lift_length]; simp)]
    show _ = some (told2 (a * 1))
    rw [Nat.mul_one]
    unfold told2
    rw [if_pos ha2]
  | cons n rest ih =>
    intro pre a k h1 h2 ha ha2 hk
    simp only [List.length_cons, List.sum_cons] at h1 h2 hk
    obtain ⟨k, rfl⟩ : ∃ j, k = j + 1 := ⟨k - 1, by omega⟩
    have hch := choose_spec (n + rest.sum) n (by omega) (by omega) k (by omega)
    have hpos := ch_pos rest.sum n
    rw [Nat.add_comm rest.sum n] at hpos
    have hsm := ch_small (n + rest.sum) n (by omega)
    have hR : mulr (n :: rest) = ch (n + rest.sum) n * mulr rest := by show ch (rest.sum + n) n * mulr rest = _; rw [Nat.add_comm]
    have hmp := mulr_pos rest
    rw [hR]
    simp only [larderref07_Count.l0]
    rw [if_pos (by rw [lift_length]; simp; omega), if_pos (by omega), rd_lift, getD_mid, List.sum_cons, hch]
    simp only [Option.bind_some]
    have ih' := ih (pre ++ [n]) (a * ch (n + rest.sum) n) k (by omega) (by simp; omega) (Nat.mul_pos ha hpos)
    have e0 := Lib.hid (show wrap64 (((n + rest.sum : Nat) : Int) - (n : Int)) = ((rest.sum : Nat) : Int) by rw [wr (by omega) (by omega)]; omega)
    have e1 := Lib.hid (wn pre.length (by omega))
    generalize ch (n + rest.sum) n = c at *
    generalize hm : mulr rest = m at *
    have hcd : 0 ≤ (4611686018427387904 : Int) / (c : Int) := Int.ediv_nonneg (by omega) (by omega)
    have hcd2 : (4611686018427387904 : Int) / (c : Int) ≤ 4611686018427387904 := Int.ediv_le_self _ (by omega)
    rw [if_neg (by omega), wr (by omega) (by omega)]
    have hiff : (a : Int) > 4611686018427387904 / (c : Int) ↔ 4611686018427387904 < a * c := by
      constructor
      · intro h
        have := Int.ediv_lt_iff_lt_mul (a := 4611686018427387904) (b := (a : Int)) (c := (c : Int)) (by omega)
        have h2 := this.1 h
        rw [← Int.natCast_mul] at h2
        omega
      · intro h
        refine (Int.ediv_lt_iff_lt_mul (by omega)).2 ?_
        rw [← Int.natCast_mul]; omega
    by_cases hc : 4611686018427387904 < a * c
    · rw [if_pos (hiff.2 hc)]
      have h3 : a * c ≤ a * (c * m) := by rw [← Nat.mul_assoc]; exact Nat.le_mul_of_pos_right _ hmp
      unfold told2
      rw [if_neg (by omega)]
    · rw [if_neg (fun z => hc (hiff.1 z)), e0.out, e1.out]
      have e2 := Lib.hid (show wrap64 ((a : Int) * (c : Int)) = ((a * c : Nat) : Int) by rw [← Int.natCast_mul]; exact wr (by omega) (by omega))
      rw [e2.out]
      have ih2 := ih' (by omega) (by omega)
      rw [List.append_assoc, List.singleton_append, show (pre ++ [n]).length = pre.length + 1 by simp] at ih2
      rw [ih2, Nat.mul_assoc]
theorem rCount_spec (s : List Nat) (h : Right s) (k : Nat) (hk : 80 ≤ k) : larderref07_Count.f k (lift s) = some (told2 (M s)) := by
  unfold larderref07_Count.f
  rw [rSteps_yes s h k hk]
  simp only [Option.bind_some, if_true]
  have := rCount_l0 s [] 1 k h.2.2 (by have := h.2.1; simp; omega) (by omega) (by omega) (by have := h.2.1; omega)
  rw [List.nil_append, Nat.one_mul, mulr_eq] at this
  exact this
/-- Both counts tell the same. -/
theorem counts_both (l : List Int) (k : Nat) (hk : 80 ≤ k) :
    (∃ s, l = lift s ∧ Right s ∧ M s ≤ 4611686018427387904 ∧ sched_Count.f k l = some (((M s : Nat) : Int), 0) ∧ larderref07_Count.f k l = some (((M s : Nat) : Int), 0)) ∨ (∃ e, e ≠ 0 ∧ sched_Count.f k l = some (0, e) ∧ larderref07_Count.f k l = some (0, e)) := by
  rcases steps_both l k hk with ⟨s, rfl, hr, h1, h2⟩ | ⟨h1, x, h2⟩
  · have hc := Count_spec s hr k hk
    have hd := rCount_spec s hr k hk
    unfold told2 at hd
    by_cases hm : M s ≤ 4611686018427387904
    · rw [if_pos hm] at hc hd; exact .inl ⟨s, rfl, hr, hm, hc, hd⟩
    · rw [if_neg hm] at hc hd; exact .inr ⟨26, by decide, hc, hd⟩
  · right
    refine ⟨2, by decide, ?_, ?_⟩
    · unfold sched_Count.f; rw [h1]; rfl
    · unfold larderref07_Count.f; rw [h2]; rfl
theorem less_spec (s : List Nat) (h : Nat) (hh : h < s.length) (hp : 0 < s.getD h 0) (hs : s.sum ≤ 24) (hl : s.length ≤ 16) : larderref07_less.f (lift s) (h : Int) = some (lift (dec s h)) := by
  have hle := getD_le s h
  unfold larderref07_less.f
  rw [if_pos (by rw [lift_length]; simp; omega)]
  simp only [Option.bind_some, List.nil_append]
  rw [if_pos (by omega), if_pos (by rw [lift_length]; omega), rd_lift, Int.toNat_natCast]
  have e1 : wrap64 (((s.getD h 0 : Nat) : Int) - 1) = ((s.getD h 0 - 1 : Nat) : Int) := by rw [wr (by omega) (by omega)]; omega
  rw [e1, lift_set]; rfl
theorem rcount_of (s : List Nat) (hs : s.sum ≤ 24) (h1 : 1 ≤ s.length) (hl : s.length ≤ 16) (hm : M s ≤ 4611686018427387904) (k : Nat) (hk : 80 ≤ k) : larderref07_Count.f k (lift s) = some (((M s : Nat) : Int), 0) := by
  rw [rCount_spec s ⟨h1, hl, hs⟩ k hk]
  unfold told2
  rw [if_pos hm]
/-- The document's Nth: the inner loop. -/
theorem rNth_l1 (m : Nat) (s : List Nat) (hs : s.sum = m + 1) (hm : m + 1 ≤ 24) (hl : s.length ≤ 16) (hM : M s ≤ 4611686018427387904) (n : Nat) (hn : n < M s) (acc : List Int) (ha : acc.length ≤ 100) (tot : Int)
    (ih : ∀ h k, h < s.length → 0 < s.getD h 0 → pre s h ≤ n → n < pre s h + M (dec s h) → 100 + 20 * m ≤ k →
      ∃ l, At (dec s h) (n - pre s h) l ∧ larderref07_Nth.l0 k ((n - pre s h : Nat) : Int) tot (acc ++ [(h : Int)]) (lift (dec s h)) = some ((acc ++ [(h : Int)]) ++ lift l, 0)) :
    ∀ (d j k : Nat), j + d = s.length → pre s j ≤ n → 100 + 20 * m + d + 2 ≤ k →
      ∃ l, At s n l ∧ larderref07_Nth.l1 k ((n - pre s j : Nat) : Int) tot acc (lift s) (j : Int) false = some (acc ++ lift l, 0) := by
  intro d
  induction d with
  | zero =>
    intro j k hj hp hk
    have := pre_all s (by omega)
    rw [show j = s.length by omega] at hp
    omega
  | succ d ihd =>
    intro j k hj hp hk
    obtain ⟨k, rfl⟩ : ∃ m, k = m + 1 + 1 := ⟨k - 2, by omega⟩
    have hle := getD_le s j
    have hwj := Lib.hid (wn j (by omega))
    have hpre : pre s (j + 1) = pre s j + w s j := rfl
    have hjl : (j : Int) < ((lift s).length : Int) := by rw [lift_length]; omega
    have hk1 : 80 ≤ k + 1 := by omega
    generalize hkk : k + 1 = kk at *
    simp only [larderref07_Nth.l1]
    rw [if_neg (by simp), if_pos (by omega), if_pos hjl, rd_lift]
    by_cases hz : s.getD j 0 = 0
    · have hw : w s j = 0 := by unfold w; rw [if_neg (by omega)]
      have e0 : wrap64 (((n - pre s j : Nat) : Int) - 0) = ((n - pre s j : Nat) : Int) := by rw [Int.sub_zero]; exact wr (by omega) (by omega)
      have := ihd (j + 1) kk (by omega) (by omega) (by omega)
      rw [hpre, hw, Nat.add_zero] at this
      rw [if_neg (by omega), if_neg (by omega), hwj.out, e0, decide_eq_false (by omega)]
      exact this
    · have hp0 : 0 < s.getD j 0 := by omega
      have hw : w s j = M (dec s j) := by unfold w; rw [if_pos hp0]
      have hsd := sum_dec s j hp0
      have hMd := w_le s j (by omega) hp0
      have hless := less_spec s j (by omega) hp0 (by omega) hl
      have hcnt := rcount_of (dec s j) (by omega) (by rw [dec_length]; omega) (by rw [dec_length]; exact hl) (by omega) kk hk1
      rw [if_pos (by omega), hless]
      simp only [Option.bind_some]
      rw [hcnt]
      simp only [Option.bind_some]
      by_cases hlt : n < pre s j + M (dec s j)
      · rw [if_pos (by omega), decide_eq_true (by omega)]
        obtain ⟨l, hA, hE⟩ := ih j k (by omega) hp0 hp hlt (by omega)
        refine ⟨j :: l, .cons s n j l (by omega) hp0 hp hlt hA, ?_⟩
        rw [← hkk]
        simp only [larderref07_Nth.l1]
        rw [if_pos trivial, if_pos (by omega), hless]
        simp only [Option.bind_some]
        rw [hE, List.append_assoc]; rfl
      · have e6 : wrap64 (((n - pre s j : Nat) : Int) - ((M (dec s j) : Nat) : Int)) = ((n - pre s (j + 1) : Nat) : Int) := by rw [wr (by omega) (by omega)]; omega
        rw [if_neg (by omega), decide_eq_false (by omega), hwj.out, e6]
        exact ihd (j + 1) kk (by omega) (by omega) (by omega)
theorem rNth_l0 : ∀ (m : Nat) (s : List Nat), s.sum = m → m ≤ 24 → s.length ≤ 16 → M s ≤ 4611686018427387904 → ∀ (n : Nat), n < M s → ∀ (acc : List Int) (tot : Int), (acc.length : Int) + m = tot → tot ≤ 100 → ∀ k, 100 + 20 * m ≤ k →
      ∃ l, At s n l ∧ larderref07_Nth.l0 k (n : Int) tot acc (lift s) = some (acc ++ lift l, 0) := by
  intro m
  induction m with
  | zero =>
    intro s hs h24 hl hM n hn acc tot ht ht2 k hk
    obtain ⟨k, rfl⟩ : ∃ m, k = m + 1 := ⟨k - 1, by omega⟩
    have hz := M_zero s hs
    obtain rfl : n = 0 := by omega
    refine ⟨[], .nil s hs, ?_⟩
    simp only [larderref07_Nth.l0]
    rw [if_neg (by omega)]
    simp [lift]
  | succ m ih =>
    intro s hs h24 hl hM n hn acc tot ht ht2 k hk
    obtain ⟨k, rfl⟩ : ∃ m, k = m + 1 := ⟨k - 1, by omega⟩
    simp only [larderref07_Nth.l0]
    rw [if_pos (by omega)]
    have h := rNth_l1 m s hs h24 hl hM n hn acc (by omega) tot (fun h k' hh hp h1 h2 hk' => by
      have hsd := sum_dec s h hp
      have hMd := w_le s h hh hp
      exact ih (dec s h) (by omega) (by omega) (by rw [dec_length]; exact hl) (by omega) (n - pre s h) (by omega) (acc ++ [(h : Int)]) tot (by simp; omega) ht2 k' hk') s.length 0 k (by omega) (by show 0 ≤ n; omega) (by omega)
    exact h
/-- Both Nths answer alike. -/
theorem nths_both (l : List Int) (n : Int) (k : Nat) (hk : 1000 ≤ k) : ∃ r : List Int × Int, r.1.length ≤ 24 ∧ sched_Nth.f k l n = some r ∧ larderref07_Nth.f k l n = some r := by
  rcases counts_both l k (by omega) with ⟨s, rfl, hR, hM, hC, hD⟩ | ⟨e, he, hC, hD⟩
  · by_cases hout : n < 0 ∨ ((M s : Nat) : Int) ≤ n
    · refine ⟨([], 2), by simp, Nth_out s hR hM n hout k hk, ?_⟩
      unfold larderref07_Nth.f
      rw [hD]
      obtain ⟨k, rfl⟩ : ∃ m, k = m + 1 := ⟨k - 1, by omega⟩
      simp only [Option.bind_some, larderref07_Nth.j0]
      rw [if_pos trivial]
      by_cases h0 : n < 0
      · rw [if_pos h0, if_pos trivial]
      · rw [if_neg h0, decide_eq_true (by omega), if_pos rfl]
    · obtain ⟨n, rfl⟩ := Int.eq_ofNat_of_zero_le (show 0 ≤ n by omega)
      obtain ⟨l, hA, hN⟩ := Nth_spec s hR hM n (by omega) k hk
      have h16 := hR.2.1
      have h24 := hR.2.2
      refine ⟨_, ?_, hN, ?_⟩
      · show (lift l).length ≤ 24
        rw [lift_length, hA.length]; omega
      · unfold larderref07_Nth.f
        rw [hD]
        obtain ⟨k, rfl⟩ : ∃ m, k = m + 1 := ⟨k - 1, by omega⟩
        simp only [Option.bind_some, larderref07_Nth.j0]
        rw [if_pos trivial, if_neg (by omega), decide_eq_false (by omega), if_neg (by simp), rSteps_yes s hR k (by omega)]
        simp only [Option.bind_some]
        obtain ⟨l', hA', hE'⟩ := rNth_l0 s.sum s rfl h24 h16 hM n (by omega) [] ((s.sum : Nat) : Int) (by simp) (by omega) k (by omega)
        obtain rfl := hA.unique hA'
        exact hE'
  · refine ⟨([], e), by simp, Nth_wrong l n e he k hC, ?_⟩
    unfold larderref07_Nth.f
    rw [hD]
    simp only [Option.bind_some]
    rw [if_neg he]
end Go.Proofs.Ytfcjfjmjcmanaaa.X
