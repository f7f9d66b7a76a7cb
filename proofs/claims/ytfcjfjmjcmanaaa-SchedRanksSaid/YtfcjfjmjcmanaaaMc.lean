/- count: the printed function tells the multinomial number, or that it is above 2^62. Plain. -/
import Derived.Test.YtfcjfjmjcmanaaaMa
import Derived.Test.YtfcjfjmjcmanaaaMb
import Derived.Test.YtfcjfjmjcmanaaaPTherex2
import Derived.Lib.Hide
set_option linter.unusedVariables false
namespace Go.Proofs.Ytfcjfjmjcmanaaa.X
open Go.RowKit Go.Proofs.Ytfcjfjmjcmanaaa.PThere Go.Proofs.YtfcjfjmjcmanaaaW.PrintWords Go.Proofs.YtfcjfjmjcmanaaaW.PrintLast Go.Proofs.YtfcjfjmjcmanaaaW.PrintMore Go.Proofs.Ytfcjfjmjcmanaaa.Mu

def lift (s : List Nat) : List Int := s.map (fun n : Nat => (n : Int))
theorem lift_length (s : List Nat) : (lift s).length = s.length := by simp [lift]
theorem rd_lift (s : List Nat) (i : Nat) : rd (lift s) (i : Int) = (s.getD i 0 : Nat) := by
  unfold rd lift
  rw [Int.toNat_natCast, List.getD_eq_getElem?_getD, List.getElem?_map, List.getD_eq_getElem?_getD]
  cases s[i]? <;> rfl
theorem lift_set (s : List Nat) (i n : Nat) : (lift s).set i (n : Int) = lift (s.set i n) := by
  unfold lift; rw [List.map_set]
theorem wr {x : Int} (h0 : -9223372036854775808 ≤ x) (h1 : x < 9223372036854775808) : wrap64 x = x := by unfold wrap64; omega
theorem wn (m : Nat) (h : m ≤ 1000) : wrap64 ((m : Int) + 1) = ((m + 1 : Nat) : Int) := by rw [wr (by omega) (by omega)]; omega
theorem un (m : Nat) (h : m ≤ 1000) : IntKind.u64.wrap (m : Int) = (m : Int) := wraps64 _ (by omega) (by omega)
/-- What count tells. -/
def told (m : Nat) : Int × Bool := if m ≤ 4611686018427387904 then ((m : Int), true) else (0, false)
theorem told_no {m : Nat} (h : 4611686018427387904 < m) : told m = (0, false) := by unfold told; rw [if_neg (by omega)]
theorem told_yes {m : Nat} (h : m ≤ 4611686018427387904) : told m = ((m : Int), true) := by unfold told; rw [if_pos h]
theorem getD_mid (pre : List Nat) (n : Nat) (rest : List Nat) : (pre ++ n :: rest).getD pre.length 0 = n := by
  rw [List.getD_eq_getElem?_getD, List.getElem?_append_right (Nat.le_refl _)]; simp
theorem count_l1 (rest : List Nat) (p a n i len : Nat) (L : List Int) (ha : 0 < a) (hn : p + n ≤ 24)
    (ih : ∀ k, 2 * rest.length + rest.sum + 10 ≤ k → a * ch (p + n) n ≤ 4611686018427387904 →
      sched_count.l0 k ((a * ch (p + n) n : Nat) : Int) ((p + n : Nat) : Int) L (len : Int) (wrap64 ((i : Int) + 1)) = some (told (a * ch (p + n) n * mul (p + n) rest))) :
    ∀ (d j k : Nat), j + d = n → d + 2 * rest.length + rest.sum + 11 ≤ k → a * ch (p + j) j ≤ 9223372036854775808 →
      sched_count.l1 k ((a * ch (p + j) j : Nat) : Int) ((p + j : Nat) : Int) (n : Int) ((j + 1 : Nat) : Int) L (len : Int) (i : Int) = some (told (a * ch (p + n) n * mul (p + n) rest)) := by
  have hbig : ∀ j, j ≤ n → a * ch (p + j) j ≤ a * ch (p + n) n * mul (p + n) rest := fun j hj => by
    have h1 := ch_mono p j (n - j)
    rw [show j + (n - j) = n by omega] at h1
    have h2 : a * ch (p + j) j ≤ a * ch (p + n) n := Nat.mul_le_mul_left a h1
    exact Nat.le_trans h2 (Nat.le_mul_of_pos_right _ (mul_pos rest _))
  intro d
  induction d with
  | zero =>
    intro j k hj hk hc
    obtain rfl : j = n := by omega
    obtain ⟨k, rfl⟩ : ∃ m, k = m + 1 := ⟨k - 1, by omega⟩
    simp only [sched_count.l1]
    rw [if_neg (by omega)]
    by_cases h : a * ch (p + j) j ≤ 4611686018427387904
    · rw [if_neg (by omega)]
      exact ih k (by omega) h
    · rw [if_pos (by omega), told_no (by have := hbig j (Nat.le_refl _); omega)]
  | succ d ihd =>
    intro j k hj hk hc
    obtain ⟨k, rfl⟩ : ∃ m, k = m + 5 + 1 := ⟨k - 6, by omega⟩
    have ihd' := ihd (j + 1) (k + 5) (by omega) (by omega)
    have hjn : ((j + 1 : Nat) : Int) ≤ (n : Int) := by omega
    have hj24 : j + 1 ≤ 24 := by omega
    have hp24 : p + j + 1 ≤ 24 := by omega
    have b1 : p + j ≤ 1000 := by omega
    have b2 : j + 1 ≤ 1000 := by omega
    have b3 : p + j + 1 ≤ 1000 := by omega
    have b4 : j + 1 ≤ n := by omega
    have hw5 := Lib.hid (wn (p + j) b1)
    have hw8 := Lib.hid (wn (j + 1) b2)
    have hw := Lib.hid (un (p + j + 1) b3)
    have hw9 := Lib.hid (un (j + 1) b2)
    clear b1 b2 b3
    have hb1 := hbig (j + 1) b4
    have hstep := ch_step p j
    clear hbig ihd ih
    rw [show p + (j + 1) = p + j + 1 from rfl] at ihd' hb1 hstep
    generalize ch (p + j + 1) (j + 1) = x' at *
    generalize ch (p + j) j = x at *
    generalize ch (p + n) n = y at *
    obtain ⟨F, hF⟩ : ∃ F, a * y * mul (p + n) rest = F := ⟨_, rfl⟩
    rw [hF] at ihd' hb1 ⊢
    clear hF
    obtain ⟨c, hcc⟩ : ∃ c, a * x = c := ⟨_, rfl⟩
    obtain ⟨c', hcc'⟩ : ∃ c', a * x' = c' := ⟨_, rfl⟩
    have hZ : c * (p + j + 1) = (j + 1) * c' := by rw [← hcc, ← hcc', Nat.mul_assoc, ← hstep]; grind
    rw [hcc'] at ihd' hb1
    rw [hcc] at hc ⊢
    clear hstep hcc hcc' y x x'
    have hm : bits_Mul64.f (c : Int) ((p + j + 1 : Nat) : Int) = some ((((j + 1) * c' : Nat) : Int) / 18446744073709551616, (((j + 1) * c' : Nat) : Int) % 18446744073709551616) := by
      unfold bits_Mul64.f
      rw [if_pos ⟨by omega, by omega, by omega, by omega⟩]
      have : (c : Int) * ((p + j + 1 : Nat) : Int) = (((j + 1) * c' : Nat) : Int) := by rw [← hZ, Int.natCast_mul]
      rw [this]
    simp only [sched_count.l1]
    rw [if_pos hjn, hw5.out, hw.out, hm]
    simp only [Option.bind_some]
    rw [hw9.out]
    have hZc : ((j : Int) + 1) * (c' : Int) = (((j + 1) * c' : Nat) : Int) := by rw [Int.natCast_mul]; rfl
    obtain ⟨Z, hZZ⟩ : ∃ Z : Nat, (j + 1) * c' = Z := ⟨_, rfl⟩
    rw [hZZ] at hZc ⊢
    by_cases hi : ((Z : Int) / 18446744073709551616) ≥ ((j + 1 : Nat) : Int)
    · rw [if_pos hi]
      have h1 : (j + 1) * 18446744073709551616 ≤ Z := by omega
      have h2 : 18446744073709551616 ≤ c' := by rw [← hZZ] at h1; exact Nat.le_of_mul_le_mul_left h1 (Nat.succ_pos j)
      rw [told_no (by omega)]
    · rw [if_neg hi]
      obtain ⟨r, hq⟩ := Div64_q k ((j + 1 : Nat) : Int) ((Z : Int) / 18446744073709551616) ((Z : Int) % 18446744073709551616) (by omega) (by omega) (by omega) (by omega) (by omega) (by omega)
      have e : (Z : Int) / 18446744073709551616 * 18446744073709551616 + (Z : Int) % 18446744073709551616 = Z := by omega
      have e2 : (Z : Int) / ((j + 1 : Nat) : Int) = (c' : Int) := by
        rw [← hZZ, Int.natCast_mul]
        exact Int.mul_ediv_cancel_left _ (by omega)
      rw [e, e2] at hq
      rw [hq]
      simp only [Option.bind_some]
      by_cases hc2 : (c' : Int) > 9223372036854775808
      · rw [if_pos hc2, told_no (by omega)]
      · rw [if_neg hc2, hw8.out]
        exact ihd' (by omega)
theorem count_l0 : ∀ (rest pre : List Nat) (p a k : Nat), p = pre.sum → p + rest.sum ≤ 24 → pre.length + rest.length ≤ 1000 → 0 < a → a ≤ 4611686018427387904 → 2 * rest.length + rest.sum + 10 ≤ k →
    sched_count.l0 k (a : Int) (p : Int) (lift (pre ++ rest)) ((pre ++ rest).length : Int) (pre.length : Int) = some (told (a * mul p rest)) := by
  intro rest
  induction rest with
  | nil =>
    intro pre p a k hp hs hl ha ha2 hk
    obtain ⟨k, rfl⟩ : ∃ m, k = m + 1 := ⟨k - 1, by omega⟩
    simp only [sched_count.l0]
    rw [if_neg (by simp), wr (by omega) (by omega)]
    show some ((a : Int), true) = some (told (a * 1))
    rw [Nat.mul_one, told_yes ha2]
  | cons n rest ih =>
    intro pre p a k hp hs hl ha ha2 hk
    obtain ⟨k, rfl⟩ : ∃ m, k = m + 1 := ⟨k - 1, by simp at hk; omega⟩
    simp only [List.sum_cons, List.length_cons] at hs hl hk
    simp only [sched_count.l0]
    rw [if_pos (by simp; omega), if_pos (by omega), if_pos (by rw [lift_length]; simp; omega), rd_lift, getD_mid]
    have h1 := count_l1 rest p a n pre.length (pre ++ n :: rest).length (lift (pre ++ n :: rest)) ha (by omega) (fun k' hk' hle => by
      have := ih (pre ++ [n]) (p + n) (a * ch (p + n) n) k' (by simp [hp]) (by omega) (by simp; omega) (Nat.mul_pos ha (ch_pos _ _)) hle hk'
      rw [List.append_assoc, List.singleton_append, show (pre ++ [n]).length = pre.length + 1 by simp] at this
      rw [wn _ (by omega)]
      exact this) n 0 k (by omega) (by omega) (by rw [ch_zero]; omega)
    rw [ch_zero, Nat.mul_one] at h1
    have e : a * mul p (n :: rest) = a * ch (p + n) n * mul (p + n) rest := by
      show a * (ch (p + n) n * mul (p + n) rest) = _
      rw [Nat.mul_assoc]
    rw [e]
    exact h1
/-- count at small steps. -/
theorem count_spec (s : List Nat) (hs : s.sum ≤ 24) (hl : s.length ≤ 16) (k : Nat) (hk : 80 ≤ k) : sched_count.f k (lift s) = some (told (M s)) := by
  unfold sched_count.f
  have h := count_l0 s [] 0 1 k rfl (by omega) (by simp; omega) (by omega) (by omega) (by omega)
  rw [List.nil_append, Nat.one_mul] at h
  rw [lift_length]
  exact h
theorem ways_spec (s : List Nat) (hs : s.sum ≤ 24) (hl : s.length ≤ 16) (hm : M s ≤ 4611686018427387904) (k : Nat) (hk : 80 ≤ k) : sched_ways.f k (lift s) = some ((M s : Nat) : Int) := by
  unfold sched_ways.f
  rw [count_spec s hs hl k hk, told_yes hm]; rfl
end Go.Proofs.Ytfcjfjmjcmanaaa.X
