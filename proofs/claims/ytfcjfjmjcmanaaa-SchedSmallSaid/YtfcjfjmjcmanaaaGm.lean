/- count: the printed function tells the multinomial number, or that it is above 2^62. Plain. Count, Nth: the printed functions tell the mixes. Plain. -/
import Derived.Test.YtfcjfjmjcmanaaaMa
import Derived.Test.YtfcjfjmjcmanaaaMb
import Derived.Test.YtfcjfjmjcmanaaaPTherex2
import Derived.Lib.Hide
set_option linter.unusedVariables false
namespace Go.Proofs.Ytfcjfjmjcmanaaa.X
open Go.RowKit Go.Proofs.Ytfcjfjmjcmanaaa.PThere Go.Proofs.YtfcjfjmjcmanaaaW.PrintWords Go.Proofs.YtfcjfjmjcmanaaaW.PrintLast Go.Proofs.YtfcjfjmjcmanaaaW.PrintMore Go.Proofs.Ytfcjfjmjcmanaaa.Mu

def lift (s : List Nat) : List Int := s.map (fun n : Nat => (n : Int))
theorem lift_length (s : List Nat) : (lift s).length = s.length := by simp [lift]
theorem rd_lift (s : List Nat) (i : Nat) : rd (lift s) (i : Int) = (s.getD i 0 : Nat) := by
  unfold rd lift
  rw [Int.toNat_natCast, List.getD_eq_getElem?_getD, List.getElem?_map, List.getD_eq_getElem?_getD]
  cases s[i]? <;> rfl
theorem lift_set (s : List Nat) (i n : Nat) : (lift s).set i (n : Int) = lift (s.set i n) := by
  unfold lift; rw [List.map_set]
theorem wr {x : Int} (h0 : -9223372036854775808 ≤ x) (h1 : x < 9223372036854775808) : wrap64 x = x := by unfold wrap64; omega
theorem wn (m : Nat) (h : m ≤ 1000) : wrap64 ((m : Int) + 1) = ((m + 1 : Nat) : Int) := by rw [wr (by omega) (by omega)]; omega
theorem un (m : Nat) (h : m ≤ 1000) : IntKind.u64.wrap (m : Int) = (m : Int) := wraps64 _ (by omega) (by omega)
/-- What count tells. -/
def told (m : Nat) : Int × Bool := if m ≤ 4611686018427387904 then ((m : Int), true) else (0, false)
theorem told_no {m : Nat} (h : 4611686018427387904 < m) : told m = (0, false) := by unfold told; rw [if_neg (by omega)]
theorem told_yes {m : Nat} (h : m ≤ 4611686018427387904) : told m = ((m : Int), true) := by unfold told; rw [if_pos h]
theorem getD_mid (pre : List Nat) (n : Nat) (rest : List Nat) : (pre ++ n :: rest).getD pre.length 0 = n := by
  rw [List.getD_eq_getElem?_getD, List.getElem?_append_right (Nat.le_refl _)]; simp
theorem count_l1 (rest : List Nat) (p a n i len : Nat) (L : List Int) (ha : 0 < a) (hn : p + n ≤ 24)
    (ih : ∀ k, 2 * rest.length + rest.sum + 10 ≤ k → a * ch (p + n) n ≤ 4611686018427387904 →
      sched_count.l0 k ((a * ch (p + n) n : Nat) : Int) ((p + n : Nat) : Int) L (len : Int) (wrap64 ((i : Int) + 1)) = some (told (a * ch (p + n) n * mul (p + n) rest))) :
    ∀ (d j k : Nat), j + d = n → d + 2 * rest.length + rest.sum + 11 ≤ k → a * ch (p + j) j ≤ 9223372036854775808 →
      sched_count.l1 k ((a * ch (p + j) j : Nat) : Int) ((p + j : Nat) : Int) (n : Int) ((j + 1 : Nat) : Int) L (len : Int) (i : Int) = some (told (a * ch (p + n) n * mul (p + n) rest)) := by
  have hbig : ∀ j, j ≤ n → a * ch (p + j) j ≤ a * ch (p + n) n * mul (p + n) rest := fun j hj => by
    have h1 := ch_mono p j (n - j)
    rw [show j + (n - j) = n by omega] at h1
    have h2 : a * ch (p + j) j ≤ a * ch (p + n) n := Nat.mul_le_mul_left a h1
    exact Nat.le_trans h2 (Nat.le_mul_of_pos_right _ (mul_pos rest _))
  intro d
  induction d with
  | zero =>
    intro j k hj hk hc
    obtain rfl : j = n := by omega
    obtain ⟨k, rfl⟩ : ∃ m, k = m + 1 := ⟨k - 1, by omega⟩
    simp only [sched_count.l1]
    rw [if_neg (by omega)]
    by_cases h : a * ch (p + j) j ≤ 4611686018427387904
    · rw [if_neg (by omega)]
      exact ih k (by omega) h
    · rw [if_pos (by omega), told_no (by have := hbig j (Nat.le_refl _); omega)]
  | succ d ihd =>
    intro j k hj hk hc
    obtain ⟨k, rfl⟩ : ∃ m, k = m + 5 + 1 := ⟨k - 6, by omega⟩
    have ihd' := ihd (j + 1) (k + 5) (by omega) (by omega)
    have hjn : ((j + 1 : Nat) : Int) ≤ (n : Int) := by omega
    have hj24 : j + 1 ≤ 24 := by omega
    have hp24 : p + j + 1 ≤ 24 := by omega
    have b1 : p + j ≤ 1000 := by omega
    have b2 : j + 1 ≤ 1000 := by omega
    have b3 : p + j + 1 ≤ 1000 := by omega
    have b4 : j + 1 ≤ n := by omega
    have hw5 := Lib.hid (wn (p + j) b1)
    have hw8 := Lib.hid (wn (j + 1) b2)
    have hw := Lib.hid (un (p + j + 1) b3)
    have hw9 := Lib.hid (un (j + 1) b2)
    clear b1 b2 b3
    have hb1 := hbig (j + 1) b4
    have hstep := ch_step p j
    clear hbig ihd ih
    rw [show p + (j + 1) = p + j + 1 from rfl] at ihd' hb1 hstep
    generalize ch (p + j + 1) (j + 1) = x' at *
    generalize ch (p + j) j = x at *
    generalize ch (p + n) n = y at *
    obtain ⟨F, hF⟩ : ∃ F, a * y * mul (p + n) rest = F := ⟨_, rfl⟩
    rw [hF] at ihd' hb1 ⊢
    clear hF
    obtain ⟨c, hcc⟩ : ∃ c, a * x = c := ⟨_, rfl⟩
    obtain ⟨c', hcc'⟩ : ∃ c', a * x' = c' := ⟨_, rfl⟩
    have hZ : c * (p + j + 1) = (j + 1) * c' := by rw [← hcc, ← hcc', Nat.mul_assoc, ← hstep]; grind
    rw [hcc'] at ihd' hb1
    rw [hcc] at hc ⊢
    clear hstep hcc hcc' y x x'
    have hm : bits_Mul64.f (c : Int) ((p + j + 1 : Nat) : Int) = some ((((j + 1) * c' : Nat) : Int) / 18446744073709551616, (((j + 1) * c' : Nat) : Int) % 18446744073709551616) := by
      unfold bits_Mul64.f
      rw [if_pos ⟨by omega, by omega, by omega, by omega⟩]
      have : (c : Int) * ((p + j + 1 : Nat) : Int) = (((j + 1) * c' : Nat) : Int) := by rw [← hZ, Int.natCast_mul]
      rw [this]
    simp only [sched_count.l1]
    rw [if_pos hjn, hw5.out, hw.out, hm]
    simp only [Option.bind_some]
    rw [hw9.out]
    have hZc : ((j : Int) + 1) * (c' : Int) = (((j + 1) * c' : Nat) : Int) := by rw [Int.natCast_mul]; rfl
    obtain ⟨Z, hZZ⟩ : ∃ Z : Nat, (j + 1) * c' = Z := ⟨_, rfl⟩
    rw [hZZ] at hZc ⊢
    by_cases hi : ((Z : Int) / 18446744073709551616) ≥ ((j + 1 : Nat) : Int)
    · rw [if_pos hi]
      have h1 : (j + 1) * 18446744073709551616 ≤ Z := by omega
      have h2 : 18446744073709551616 ≤ c' := by rw [← hZZ] at h1; exact Nat.le_of_mul_le_mul_left h1 (Nat.succ_pos j)
      rw [told_no (by omega)]
    · rw [if_neg hi]
      obtain ⟨r, hq⟩ := Div64_q k ((j + 1 : Nat) : Int) ((Z : Int) / 18446744073709551616) ((Z : Int) % 18446744073709551616) (by omega) (by omega) (by omega) (by omega) (by omega) (by omega)
      have e : (Z : Int) / 18446744073709551616 * 18446744073709551616 + (Z : Int) % 18446744073709551616 = Z := by omega
      have e2 : (Z : Int) / ((j + 1 : Nat) : Int) = (c' : Int) := by
        rw [← hZZ, Int.natCast_mul]
        exact Int.mul_ediv_cancel_left _ (by omega)
      rw [e, e2] at hq
      rw [hq]
      simp only [Option.bind_some]
      by_cases hc2 : (c' : Int) > 9223372036854775808
      · rw [if_pos hc2, told_no (by omega)]
      · rw [if_neg hc2, hw8.out]
        exact ihd' (by omega)
theorem count_l0 : ∀ (rest pre : List Nat) (p a k : Nat), p = pre.sum → p + rest.sum ≤ 24 → pre.length + rest.length ≤ 1000 → 0 < a → a ≤ 4611686018427387904 → 2 * rest.length + rest.sum + 10 ≤ k →
    sched_count.l0 k (a : Int) (p : Int) (lift (pre ++ rest)) ((pre ++ rest).length : Int) (pre.length : Int) = some (told (a * mul p rest)) := by
  intro rest
  induction rest with
  | nil =>
    intro pre p a k hp hs hl ha ha2 hk
    obtain ⟨k, rfl⟩ : ∃ m, k = m + 1 := ⟨k - 1, by omega⟩
    simp only [sched_count.l0]
    rw [if_neg (by simp), wr (by omega) (by omega)]
    show some ((a : Int), true) = some (told (a * 1))
    rw [Nat.mul_one, told_yes ha2]
  | cons n rest ih =>
    intro pre p a k hp hs hl ha ha2 hk
    obtain ⟨k, rfl⟩ : ∃ m, k = m + 1 := ⟨k - 1, by simp at hk; omega⟩
    simp only [List.sum_cons, List.length_cons] at hs hl hk
    simp only [sched_count.l0]
    rw [if_pos (by simp; omega), if_pos (by omega), if_pos (by rw [lift_length]; simp; omega), rd_lift, getD_mid]
    have h1 := count_l1 rest p a n pre.length (pre ++ n :: rest).length (lift (pre ++ n :: rest)) ha (by omega) (fun k' hk' hle => by
      have := ih (pre ++ [n]) (p + n) (a * ch (p + n) n) k' (by simp [hp]) (by omega) (by simp; omega) (Nat.mul_pos ha (ch_pos _ _)) hle hk'
      rw [List.append_assoc, List.singleton_append, show (pre ++ [n]).length = pre.length + 1 by simp] at this
      rw [wn _ (by omega)]
      exact this) n 0 k (by omega) (by omega) (by rw [ch_zero]; omega)
    rw [ch_zero, Nat.mul_one] at h1
    have e : a * mul p (n :: rest) = a * ch (p + n) n * mul (p + n) rest := by
      show a * (ch (p + n) n * mul (p + n) rest) = _
      rw [Nat.mul_assoc]
    rw [e]
    exact h1
/-- count at small steps. -/
theorem count_spec (s : List Nat) (hs : s.sum ≤ 24) (hl : s.length ≤ 16) (k : Nat) (hk : 80 ≤ k) : sched_count.f k (lift s) = some (told (M s)) := by
  unfold sched_count.f
  have h := count_l0 s [] 0 1 k rfl (by omega) (by simp; omega) (by omega) (by omega) (by omega)
  rw [List.nil_append, Nat.one_mul] at h
  rw [lift_length]
  exact h
theorem ways_spec (s : List Nat) (hs : s.sum ≤ 24) (hl : s.length ≤ 16) (hm : M s ≤ 4611686018427387904) (k : Nat) (hk : 80 ≤ k) : sched_ways.f k (lift s) = some ((M s : Nat) : Int) := by
  unfold sched_ways.f
  rw [count_spec s hs hl k hk, told_yes hm]; rfl
end Go.Proofs.Ytfcjfjmjcmanaaa.X
set_option linter.unusedVariables false
namespace Go.Proofs.Ytfcjfjmjcmanaaa.X
open Go.RowKit Go.Proofs.Ytfcjfjmjcmanaaa.PThere Go.Proofs.YtfcjfjmjcmanaaaW.PrintWords Go.Proofs.YtfcjfjmjcmanaaaW.PrintLast Go.Proofs.YtfcjfjmjcmanaaaW.PrintMore Go.Proofs.Ytfcjfjmjcmanaaa.Mu

/-- Steps that Count takes. -/
def Right (s : List Nat) : Prop := 1 ≤ s.length ∧ s.length ≤ 16 ∧ s.sum ≤ 24
theorem sum_nonneg : ∀ l : List Int, (∀ x ∈ l, 0 ≤ x) → 0 ≤ l.sum
  | [], _ => by simp
  | x :: l, h => by
    have h1 := h x (by simp)
    have h2 := sum_nonneg l (fun y hy => h y (by simp [hy]))
    rw [List.sum_cons]; omega
theorem right_l0 : ∀ (rest pre : List Int) (p : Int) (k : Nat), 0 ≤ p → p + 24 * rest.length ≤ 1000 → pre.length + rest.length ≤ 1000 → rest.length + 1 ≤ k →
    sched_stepsRight.l0 k p (pre ++ rest) ((pre ++ rest).length : Int) (pre.length : Int) = some (decide ((∀ x ∈ rest, 0 ≤ x ∧ x ≤ 24) ∧ p + rest.sum ≤ 24)) := by
  intro rest
  induction rest with
  | nil =>
    intro pre p k h0 h1 h2 hk
    obtain ⟨k, rfl⟩ : ∃ m, k = m + 1 := ⟨k - 1, by omega⟩
    simp only [sched_stepsRight.l0]
    rw [if_neg (by simp)]
    simp
  | cons x rest ih =>
    intro pre p k h0 h1 h2 hk
    simp only [List.length_cons] at h1 h2 hk
    obtain ⟨k, rfl⟩ : ∃ m, k = m + 1 := ⟨k - 1, by omega⟩
    have hr : rd (pre ++ x :: rest) (pre.length : Int) = x := by
      unfold rd
      rw [Int.toNat_natCast, List.getD_eq_getElem?_getD, List.getElem?_append_right (Nat.le_refl _)]; simp
    simp only [sched_stepsRight.l0]
    rw [if_pos (by simp; omega), if_pos (by omega), if_pos (by simp; omega), hr]
    by_cases x0 : x < 0
    · rw [if_pos x0]
      refine congrArg some (decide_eq_false ?_).symm
      intro h; have := h.1 x (by simp); omega
    · rw [if_neg x0]
      by_cases x1 : x > 24
      · rw [if_pos x1]
        refine congrArg some (decide_eq_false ?_).symm
        intro h; have := h.1 x (by simp); omega
      · rw [if_neg x1, wr (by omega) (by omega), wn _ (by omega)]
        have := ih (pre ++ [x]) (p + x) k (by omega) (by omega) (by simp; omega) (by omega)
        rw [List.append_assoc, List.singleton_append, show (pre ++ [x]).length = pre.length + 1 by simp] at this
        rw [this]
        refine congrArg some (decide_eq_decide.2 ?_)
        rw [List.sum_cons, ← Int.add_assoc]
        constructor
        · rintro ⟨ha, hb⟩
          exact ⟨fun y hy => by rcases List.mem_cons.1 hy with rfl | hy; exact ⟨by omega, by omega⟩; exact ha y hy, hb⟩
        · rintro ⟨ha, hb⟩
          exact ⟨fun y hy => ha y (List.mem_cons_of_mem _ hy), hb⟩
theorem lift_of : ∀ l : List Int, (∀ x ∈ l, 0 ≤ x) → ∃ s, l = lift s
  | [], _ => ⟨[], rfl⟩
  | x :: l, h => by
    obtain ⟨s, rfl⟩ := lift_of l (fun y hy => h y (by simp [hy]))
    exact ⟨x.toNat :: s, by have := h x (by simp); show x :: lift s = (x.toNat : Int) :: lift s; rw [Int.toNat_of_nonneg this]⟩
theorem lift_sum : ∀ s : List Nat, (lift s).sum = (s.sum : Nat)
  | [] => rfl
  | n :: s => by show (n : Int) + (lift s).sum = _; rw [lift_sum s, List.sum_cons]; omega
theorem le_sum : ∀ (s : List Nat) (x : Nat), x ∈ s → x ≤ s.sum
  | n :: s, x, h => by
    rw [List.sum_cons]
    rcases List.mem_cons.1 h with rfl | h
    · omega
    · have := le_sum s x h; omega
/-- stepsRight: yes just at right steps. -/
theorem stepsRight_spec (l : List Int) (k : Nat) (hk : 80 ≤ k) : (∃ s, l = lift s ∧ Right s ∧ sched_stepsRight.f k l = some true) ∨ sched_stepsRight.f k l = some false := by
  unfold sched_stepsRight.f sched_handlersRight.f
  by_cases h1 : (l.length : Int) ≥ 1
  · rw [if_pos h1]
    simp only [Option.bind_some]
    by_cases h2 : (l.length : Int) ≤ 16
    · rw [if_pos (by simpa using h2)]
      have h := right_l0 l [] 0 k (by omega) (by omega) (by simp; omega) (by omega)
      rw [List.nil_append] at h
      have h : sched_stepsRight.l0 k 0 l (l.length : Int) 0 = some (decide ((∀ x ∈ l, 0 ≤ x ∧ x ≤ 24) ∧ 0 + l.sum ≤ 24)) := h
      rw [h]
      by_cases hp : (∀ x ∈ l, 0 ≤ x ∧ x ≤ 24) ∧ 0 + l.sum ≤ 24
      · left
        obtain ⟨s, rfl⟩ := lift_of l (fun x hx => (hp.1 x hx).1)
        rw [lift_length] at h1 h2
        have h3 := hp.2
        rw [lift_sum] at h3
        exact ⟨s, rfl, ⟨by omega, by omega, by omega⟩, by rw [decide_eq_true hp]⟩
      · right; rw [decide_eq_false hp]
    · right; rw [if_neg (by simpa using h2)]
  · right; rw [if_neg h1]; rfl
theorem stepsRight_yes (s : List Nat) (h : Right s) (k : Nat) (hk : 80 ≤ k) : sched_stepsRight.f k (lift s) = some true := by
  obtain ⟨h1, h2, h3⟩ := h
  unfold sched_stepsRight.f sched_handlersRight.f
  rw [if_pos (by rw [lift_length]; omega)]
  simp only [Option.bind_some]
  rw [if_pos (by rw [lift_length]; simp; omega)]
  have h := right_l0 (lift s) [] 0 k (by omega) (by rw [lift_length]; omega) (by rw [lift_length]; simp; omega) (by rw [lift_length]; omega)
  rw [List.nil_append] at h
  refine h.trans (congrArg some (decide_eq_true ⟨fun x hx => ?_, by rw [lift_sum]; omega⟩))
  obtain ⟨n, hn, rfl⟩ := List.mem_map.1 hx
  have := le_sum s n hn
  omega
theorem Count_spec (s : List Nat) (h : Right s) (k : Nat) (hk : 80 ≤ k) : sched_Count.f k (lift s) = some (if M s ≤ 4611686018427387904 then (((M s : Nat) : Int), 0) else (0, 26)) := by
  unfold sched_Count.f
  rw [stepsRight_yes s h k hk]
  simp only [Option.bind_some, if_true]
  rw [count_spec s h.2.2 h.2.1 k hk]
  simp only [Option.bind_some]
  unfold told
  by_cases hm : M s ≤ 4611686018427387904
  · rw [if_pos hm, if_pos hm]; rfl
  · rw [if_neg hm, if_neg hm]; rfl
/-- Count at every list: it tells the number, or an error (2 or 26). -/
theorem Count_any (l : List Int) (k : Nat) (hk : 80 ≤ k) : (∃ s, l = lift s ∧ Right s ∧ M s ≤ 4611686018427387904 ∧ sched_Count.f k l = some (((M s : Nat) : Int), 0)) ∨ (∃ e, e ≠ 0 ∧ sched_Count.f k l = some (0, e)) := by
  rcases stepsRight_spec l k hk with ⟨s, rfl, hr, h⟩ | h
  · have hc := Count_spec s hr k hk
    by_cases hm : M s ≤ 4611686018427387904
    · rw [if_pos hm] at hc; exact .inl ⟨s, rfl, hr, hm, hc⟩
    · rw [if_neg hm] at hc; exact .inr ⟨26, by decide, hc⟩
  · right
    refine ⟨2, by decide, ?_⟩
    unfold sched_Count.f
    rw [h]; rfl
theorem sum_l0 : ∀ (rest pre : List Nat) (k : Nat), (pre ++ rest).sum ≤ 1000 → pre.length + rest.length ≤ 1000 → rest.length + 1 ≤ k →
    sched_sum.l0 k (pre.sum : Nat) (lift (pre ++ rest)) ((pre ++ rest).length : Int) (pre.length : Int) = some (((pre ++ rest).sum : Nat) : Int) := by
  intro rest
  induction rest with
  | nil =>
    intro pre k h1 h2 hk
    obtain ⟨k, rfl⟩ : ∃ m, k = m + 1 := ⟨k - 1, by omega⟩
    simp only [sched_sum.l0]
    rw [if_neg (by simp), List.append_nil]
  | cons n rest ih =>
    intro pre k h1 h2 hk
    simp only [List.length_cons] at h2 hk
    obtain ⟨k, rfl⟩ : ∃ m, k = m + 1 := ⟨k - 1, by omega⟩
    have h3 : pre.sum + n ≤ 1000 := by rw [List.sum_append, List.sum_cons] at h1; omega
    simp only [sched_sum.l0]
    rw [if_pos (by simp; omega), if_pos (by omega), if_pos (by rw [lift_length]; simp; omega), rd_lift, getD_mid, wr (by omega) (by omega), wn _ (by omega)]
    have := ih (pre ++ [n]) k (by rw [List.append_assoc]; exact h1) (by simp; omega) (by omega)
    rw [List.append_assoc, List.singleton_append, show (pre ++ [n]).length = pre.length + 1 by simp, show (pre ++ [n]).sum = pre.sum + n by simp] at this
    exact this
theorem sum_spec (s : List Nat) (h : Right s) (k : Nat) (hk : 80 ≤ k) : sched_sum.f k (lift s) = some ((s.sum : Nat) : Int) := by
  obtain ⟨h1, h2, h3⟩ := h
  have h := sum_l0 s [] k (by simp; omega) (by simp; omega) (by omega)
  rw [List.nil_append] at h
  unfold sched_sum.f
  rw [lift_length]
  exact h
theorem dec_back (s : List Nat) (h : Nat) (hp : 0 < s.getD h 0) : (dec s h).set h ((dec s h).getD h 0 + 1) = s := by
  rw [dec_getD, if_pos rfl]
  unfold dec
  rw [List.set_set, show s.getD h 0 - 1 + 1 = s.getD h 0 by omega]
  rw [List.getD_eq_getElem?_getD]
  by_cases hl : h < s.length
  · rw [List.getElem?_eq_getElem hl]; simp
  · rw [List.getElem?_eq_none (by omega), List.set_eq_of_length_le (by omega)]
theorem getD_le (s : List Nat) (i : Nat) : s.getD i 0 ≤ s.sum := by
  rw [List.getD_eq_getElem?_getD]
  by_cases hl : i < s.length
  · rw [List.getElem?_eq_getElem hl]; exact le_sum s _ (List.getElem_mem hl)
  · rw [List.getElem?_eq_none (by omega)]; exact Nat.zero_le _
/-- Nth's inner loop: the first pick of the mix that has n ahead of it. -/
theorem Nth_l1 (m : Nat) (s : List Nat) (hs : s.sum = m + 1) (hm : m + 1 ≤ 24) (hl : s.length ≤ 16) (hM : M s ≤ 4611686018427387904) (n : Nat) (hn : n < M s) (acc : List Int) (ha : acc.length + m + 1 ≤ 100) (i tot : Int)
    (ih : ∀ h k, h < s.length → 0 < s.getD h 0 → pre s h ≤ n → n < pre s h + M (dec s h) → 100 + 20 * m ≤ k →
      ∃ l, At (dec s h) (n - pre s h) l ∧ sched_Nth.l0 k ((n - pre s h : Nat) : Int) (lift (dec s h)) (acc ++ [(h : Int)]) tot (wrap64 (i + 1)) = some ((acc ++ [(h : Int)]) ++ lift l, 0)) :
    ∀ (d j k : Nat), j + d = s.length → pre s j ≤ n → 100 + 20 * m + d + 1 ≤ k →
      ∃ l, At s n l ∧ sched_Nth.l1 k ((n - pre s j : Nat) : Int) (lift s) acc tot i (s.length : Int) (j : Int) = some (acc ++ lift l, 0) := by
  intro d
  induction d with
  | zero =>
    intro j k hj hp hk
    have := pre_all s (by omega)
    rw [show j = s.length by omega] at hp
    omega
  | succ d ihd =>
    intro j k hj hp hk
    obtain ⟨k, rfl⟩ : ∃ m, k = m + 1 := ⟨k - 1, by omega⟩
    have hle := getD_le s j
    have hwj := Lib.hid (wn j (by omega))
    simp only [sched_Nth.l1]
    rw [if_pos (by omega), if_pos (by omega), if_pos (by rw [lift_length]; omega), rd_lift]
    have hpre : pre s (j + 1) = pre s j + w s j := rfl
    by_cases hz : s.getD j 0 = 0
    · rw [if_pos (by omega), hwj.out]
      have hw : w s j = 0 := by unfold w; rw [if_neg (by omega)]
      have := ihd (j + 1) k (by omega) (by omega) (by omega)
      rw [hpre, hw, Nat.add_zero] at this
      exact this
    · have hp0 : 0 < s.getD j 0 := by omega
      have hw : w s j = M (dec s j) := by unfold w; rw [if_pos hp0]
      rw [if_neg (by omega)]
      have e1 : Hid (wrap64 (((s.getD j 0 : Nat) : Int) - 1) = ((s.getD j 0 - 1 : Nat) : Int)) := Lib.hid (by rw [wr (by omega) (by omega)]; omega)
      have e2 : (lift s).set ((j : Int)).toNat ((s.getD j 0 - 1 : Nat) : Int) = lift (dec s j) := by rw [Int.toNat_natCast, lift_set]; rfl
      have hsd := sum_dec s j hp0
      have hMd := w_le s j (by omega) hp0
      have hways := ways_spec (dec s j) (by omega) (by rw [dec_length]; exact hl) (by omega) k (by omega)
      rw [e1.out, e2]
      simp only [Option.bind_some]
      rw [hways]
      simp only [Option.bind_some]
      by_cases hlt : n < pre s j + M (dec s j)
      · rw [if_pos (by omega), if_pos (by omega)]
        obtain ⟨l, hA, hE⟩ := ih j k (by omega) hp0 hp hlt (by omega)
        refine ⟨j :: l, .cons s n j l (by omega) hp0 hp hlt hA, ?_⟩
        rw [hE, List.append_assoc]; rfl
      · rw [if_neg (by omega)]
        have e3 : rd (lift (dec s j)) (j : Int) = ((dec s j).getD j 0 : Nat) := rd_lift _ _
        have e4 : (dec s j).getD j 0 ≤ 24 := by have := getD_le (dec s j) j; omega
        have e5 : (lift (dec s j)).set ((j : Int)).toNat (((dec s j).getD j 0 + 1 : Nat) : Int) = lift s := by rw [Int.toNat_natCast, lift_set, dec_back s j hp0]
        have e6 : Hid (wrap64 (((n - pre s j : Nat) : Int) - ((M (dec s j) : Nat) : Int)) = ((n - pre s (j + 1) : Nat) : Int)) := Lib.hid (by rw [wr (by omega) (by omega)]; omega)
        rw [e3, wn _ (by omega), e5, e6.out, hwj.out]
        exact ihd (j + 1) k (by omega) (by omega) (by omega)
theorem Nth_l0 : ∀ (m : Nat) (s : List Nat), s.sum = m → m ≤ 24 → s.length ≤ 16 → M s ≤ 4611686018427387904 → ∀ (n : Nat), n < M s → ∀ (acc : List Int), acc.length + m ≤ 100 → ∀ (i tot : Int), 0 ≤ i → i + m = tot → tot ≤ 1000 → ∀ k, 100 + 20 * m ≤ k →
      ∃ l, At s n l ∧ sched_Nth.l0 k (n : Int) (lift s) acc tot i = some (acc ++ lift l, 0) := by
  intro m
  induction m with
  | zero =>
    intro s hs h24 hl hM n hn acc ha i tot hi ht ht2 k hk
    obtain ⟨k, rfl⟩ : ∃ m, k = m + 1 := ⟨k - 1, by omega⟩
    have hz := M_zero s hs
    obtain rfl : n = 0 := by omega
    refine ⟨[], .nil s hs, ?_⟩
    simp only [sched_Nth.l0]
    rw [if_neg (by omega)]
    simp [lift]
  | succ m ih =>
    intro s hs h24 hl hM n hn acc ha i tot hi ht ht2 k hk
    obtain ⟨k, rfl⟩ : ∃ m, k = m + 1 := ⟨k - 1, by omega⟩
    simp only [sched_Nth.l0]
    rw [if_pos (by omega), lift_length]
    have h := Nth_l1 m s hs h24 hl hM n hn acc (by omega) i tot (fun h k' hh hp h1 h2 hk' => by
      have hsd := sum_dec s h hp
      have hMd := w_le s h hh hp
      have := ih (dec s h) (by omega) (by omega) (by rw [dec_length]; exact hl) (by omega) (n - pre s h) (by omega) (acc ++ [(h : Int)]) (by simp; omega) (wrap64 (i + 1)) tot (by rw [wr (by omega) (by omega)]; omega) (by rw [wr (by omega) (by omega)]; omega) ht2 k' hk'
      exact this) s.length 0 k (by omega) (by show 0 ≤ n; omega) (by omega)
    exact h
/-- Nth: the mix that has n ahead of it. -/
theorem Nth_spec (s : List Nat) (h : Right s) (hM : M s ≤ 4611686018427387904) (n : Nat) (hn : n < M s) (k : Nat) (hk : 1000 ≤ k) : ∃ l, At s n l ∧ sched_Nth.f k (lift s) (n : Int) = some (lift l, 0) := by
  unfold sched_Nth.f
  rw [Count_spec s h k (by omega), if_pos hM]
  simp only [Option.bind_some, if_true]
  rw [if_neg (by omega), decide_eq_false (by omega)]
  obtain ⟨k, rfl⟩ : ∃ m, k = m + 1 := ⟨k - 1, by omega⟩
  simp only [sched_Nth.j0]
  rw [if_neg (by simp), show slices_Clone.f (lift s) = some (lift s) by unfold slices_Clone.f; rw [if_pos (by rw [lift_length]; have := h.2.1; omega)]]
  simp only [Option.bind_some]
  rw [sum_spec s h k (by omega)]
  simp only [Option.bind_some]
  obtain ⟨l, hA, hE⟩ := Nth_l0 s.sum s rfl h.2.2 h.2.1 hM n hn [] (by have := h.2.2; simp; omega) 0 (s.sum : Int) (by omega) (by omega) (by have := h.2.2; omega) k (by have := h.2.2; omega)
  exact ⟨l, hA, hE⟩
/-- Nth, where there is no such mix. -/
theorem Nth_out (s : List Nat) (h : Right s) (hM : M s ≤ 4611686018427387904) (n : Int) (hn : n < 0 ∨ ((M s : Nat) : Int) ≤ n) (k : Nat) (hk : 1000 ≤ k) : sched_Nth.f k (lift s) n = some ([], 2) := by
  unfold sched_Nth.f
  rw [Count_spec s h k (by omega), if_pos hM]
  simp only [Option.bind_some, if_true]
  obtain ⟨k, rfl⟩ : ∃ m, k = m + 1 := ⟨k - 1, by omega⟩
  by_cases h0 : n < 0
  · rw [if_pos h0]
    simp only [sched_Nth.j0]
    rw [if_pos trivial]
  · rw [if_neg h0, decide_eq_true (by omega)]
    simp only [sched_Nth.j0]
    rw [if_pos trivial]
theorem Nth_wrong (l : List Int) (n e : Int) (he : e ≠ 0) (k : Nat) (h : sched_Count.f k l = some (0, e)) : sched_Nth.f k l n = some ([], e) := by
  unfold sched_Nth.f
  rw [h]
  simp only [Option.bind_some]
  rw [if_neg he]
end Go.Proofs.Ytfcjfjmjcmanaaa.X
