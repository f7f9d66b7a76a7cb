/- bits.Div64 at divisors from 1 to 24: the quotient. Plain. -/
import Derived.Test.YtfcjfjmjcmanaaaPTherex1
import Derived.Laws.BitsLemmas
set_option linter.unusedVariables false
namespace Go.Proofs.Ytfcjfjmjcmanaaa.X
open Go.RowKit Go.Proofs.Ytfcjfjmjcmanaaa.PThere Go.Proofs.YtfcjfjmjcmanaaaW.PrintWords Go.Proofs.YtfcjfjmjcmanaaaW.PrintLast Go.Proofs.YtfcjfjmjcmanaaaW.PrintMore

theorem w64 (n : Int) : IntKind.u64.wrap n = n % 18446744073709551616 := by simp [IntKind.wrap, IntKind.bits, IntKind.signed]
theorem wraps64 (n : Int) (h0 : 0 ≤ n) (h1 : n < 2 ^ 64) : IntKind.u64.wrap n = n := by rw [w64]; omega
theorem ediv_tdiv {a b : Int} (h : 0 ≤ a) : Int.tdiv a b = a / b := Int.tdiv_eq_ediv_of_nonneg h
theorem div_l0 (k : Nat) (Y1 s A u1 u0 x16 : Int) (hY : 2147483648 ≤ Y1) (hY2 : Y1 < 4294967296) (hs : 0 ≤ s) (hA0 : 0 ≤ A) (hA : A < Y1 * 4294967296) (h1 : 0 ≤ u1) (h1' : u1 < 4294967296) :
    ∃ r, bits_Div64.l0 (k + 5) (Y1 * 4294967296) s Y1 0 A u1 u0 (A / Y1) x16 = some ((A * 4294967296 + u1) / Y1, r) := by
  have hp : 0 < Y1 := by omega
  obtain ⟨q1, hq1⟩ : ∃ q1, A / Y1 = q1 := ⟨_, rfl⟩
  obtain ⟨rh, hrh⟩ : ∃ rh, A % Y1 = rh := ⟨_, rfl⟩
  have eA : A = Y1 * q1 + rh := by rw [← hq1, ← hrh]; exact (Int.mul_ediv_add_emod A Y1).symm
  have r0 : 0 ≤ rh := by rw [← hrh]; exact Int.emod_nonneg _ (by omega)
  have r1 : rh < Y1 := by rw [← hrh]; exact Int.emod_lt_of_pos _ hp
  have q10 : 0 ≤ q1 := by rw [← hq1]; exact Int.ediv_nonneg hA0 (by omega)
  have q11 : q1 < 4294967296 := by rw [← hq1]; exact Int.ediv_lt_of_lt_mul hp (by rw [Int.mul_comm]; exact hA)
  obtain ⟨B, hB⟩ : ∃ B, rh * 4294967296 + u1 = B := ⟨_, rfl⟩
  obtain ⟨q0, hq0⟩ : ∃ q0, B / Y1 = q0 := ⟨_, rfl⟩
  have q00 : 0 ≤ q0 := by rw [← hq0]; exact Int.ediv_nonneg (by omega) (by omega)
  have q01 : q0 < 4294967296 := by rw [← hq0]; exact Int.ediv_lt_of_lt_mul hp (by omega)
  have hres : (A * 4294967296 + u1) / Y1 = q1 * 4294967296 + q0 := by
    have e : A * 4294967296 + u1 = B + Y1 * (q1 * 4294967296) := by rw [eA, ← hB]; grind
    rw [e, Int.add_mul_ediv_left _ _ (by omega), hq0]; omega
  have hB' : IntKind.u64.wrap ((IntKind.u64.wrap ((IntKind.u64.wrap (A * 4294967296)) + u1)) - (IntKind.u64.wrap (q1 * (Y1 * 4294967296)))) = B := by
    have e : q1 * (Y1 * 4294967296) = Y1 * q1 * 4294967296 := by grind
    rw [w64, w64, w64, w64, e]
    have : A * 4294967296 = Y1 * q1 * 4294967296 + rh * 4294967296 := by rw [eA]; grind
    obtain ⟨Z, hZ⟩ : ∃ Z, Y1 * q1 = Z := ⟨_, rfl⟩
    rw [hZ] at this ⊢
    omega
  have hw0 : ∀ x : Int, IntKind.u64.wrap (x * 0) = 0 := fun x => by rw [Int.mul_zero]; rfl
  have hn : ∀ x : Int, ¬ (0 > IntKind.u64.wrap x) := fun x => by rw [w64]; omega
  have hd : ∀ x y : Int, decide ((IntKind.u64.wrap (x * 0)) > IntKind.u64.wrap y) = false := fun x y => by rw [hw0]; exact decide_eq_false (hn y)
  refine ⟨shr .u64 (IntKind.u64.wrap ((IntKind.u64.wrap ((IntKind.u64.wrap (B * 4294967296)) + u0)) - (IntKind.u64.wrap (q0 * (Y1 * 4294967296))))) s, ?_⟩
  rw [hres]
  have hq0' : IntKind.u64.wrap (Int.tdiv B Y1) = q0 := by rw [ediv_tdiv (by omega), hq0]; exact wraps64 _ q00 (by omega)
  have hr : IntKind.u64.wrap ((IntKind.u64.wrap (q1 * 4294967296)) + q0) = q1 * 4294967296 + q0 := by rw [w64, w64]; omega
  have hz : ¬ (Y1 = 0) := by omega
  have hs1 : ¬ (q1 ≥ 4294967296) := by omega
  have hs0 : ¬ (q0 ≥ 4294967296) := by omega
  simp only [bits_Div64.l0]
  rw [hq1, if_neg hs1, hd]
  simp only [bits_Div64.j1]
  rw [if_neg (by simp)]
  simp only [bits_Div64.j2]
  rw [if_neg hz, hB', hq0']
  simp only [bits_Div64.l1]
  rw [if_neg hs0, hd]
  simp only [bits_Div64.j4]
  rw [if_neg (by simp), if_pos hs, hr]
theorem mask32 (x : Int) (h0 : 0 ≤ x) (h1 : x < 18446744073709551616) : Go.bits .and .u64 x 4294967295 = x % 4294967296 := by
  have := bits_mask .u64 64 (by decide) wraps64 32 (by decide) x h0 (by omega)
  exact this
theorem div_c59 (k : Nat) (y hi lo : Int) (hl : bits_LeadingZeros64.f y = some 59) (y0 : 16 ≤ y) (y1 : y ≤ 24) (h0 : 0 < hi) (h1 : hi < y) (l0 : 0 ≤ lo) (l1 : lo < 18446744073709551616) :
    ∃ r, bits_Div64.f (k + 5) hi lo y = some ((hi * 18446744073709551616 + lo) / y, r) := by
  have e1 : IntKind.u64.wrap (59) = 59 := rfl
  have e2 : IntKind.u64.wrap (64 - 59) = 5 := rfl
  have f1 : shl .u64 y 59 = y * 134217728 * 4294967296 := by
    show IntKind.u64.wrap (y * 576460752303423488) = _
    rw [w64]; omega
  have f2 : shl .u64 hi 59 = hi * 576460752303423488 := by
    show IntKind.u64.wrap (hi * 576460752303423488) = _
    rw [w64]; omega
  have f3 : shr .u64 lo 5 = lo / 32 := rfl
  have f4 : Go.bits .or .u64 (hi * 576460752303423488) (lo / 32) = hi * 576460752303423488 + lo / 32 :=
    bits_join .u64 64 (by decide) wraps64 59 _ _ (by omega) (by show hi * 576460752303423488 % 576460752303423488 = 0; omega) (by show hi * 576460752303423488 < 18446744073709551616; omega) (by omega) (by show lo / 32 < 576460752303423488; omega) (by show lo / 32 < 18446744073709551616; omega)
  have f5 : shl .u64 lo 59 = lo * 576460752303423488 % 18446744073709551616 := by
    show IntKind.u64.wrap (lo * 576460752303423488) = _
    rw [w64]
  have f6 : Go.bits .and .u64 (y * 134217728 * 4294967296) 4294967295 = 0 := by rw [mask32 _ (by omega) (by omega)]; omega
  have f7 : y * 134217728 * 4294967296 / 4294967296 = y * 134217728 := by omega
  have f8 : IntKind.u64.wrap (Int.tdiv (hi * 576460752303423488 + lo / 32) (y * 134217728)) = (hi * 576460752303423488 + lo / 32) / (y * 134217728) := by
    rw [ediv_tdiv (by omega)]
    refine wraps64 _ (Int.ediv_nonneg (by omega) (by omega)) ?_
    exact Int.ediv_lt_of_lt_mul (by omega) (by show hi * 576460752303423488 + lo / 32 < 18446744073709551616 * (y * 134217728); omega)
  obtain ⟨r, hr⟩ := div_l0 k (y * 134217728) 59 (hi * 576460752303423488 + lo / 32) ((lo * 576460752303423488 % 18446744073709551616) / 4294967296) (Go.bits .and .u64 (lo * 576460752303423488 % 18446744073709551616) 4294967295) (IntKind.u64.wrap ((hi * 576460752303423488 + lo / 32) - (IntKind.u64.wrap ((hi * 576460752303423488 + lo / 32) / (y * 134217728) * (y * 134217728))))) (by omega) (by omega) (by omega) (by omega) (by omega) (by omega) (by omega)
  have hx : (hi * 576460752303423488 + lo / 32) * 4294967296 + (lo * 576460752303423488 % 18446744073709551616) / 4294967296 = (hi * 18446744073709551616 + lo) * 134217728 := by omega
  rw [hx, Int.mul_ediv_mul_of_pos_left _ _ (by decide : (0 : Int) < 134217728)] at hr
  refine ⟨r, ?_⟩
  unfold bits_Div64.f
  rw [if_neg (by omega), if_neg (by omega), if_neg (by omega), hl]
  simp only [Option.bind_some]
  rw [e1, e2, if_pos (by decide), if_pos (by decide), f1, f2, f3, f4, f5, f6, f7, f8, if_neg (by omega)]
  exact hr
theorem div_c60 (k : Nat) (y hi lo : Int) (hl : bits_LeadingZeros64.f y = some 60) (y0 : 8 ≤ y) (y1 : y ≤ 15) (h0 : 0 < hi) (h1 : hi < y) (l0 : 0 ≤ lo) (l1 : lo < 18446744073709551616) :
    ∃ r, bits_Div64.f (k + 5) hi lo y = some ((hi * 18446744073709551616 + lo) / y, r) := by
  have e1 : IntKind.u64.wrap (60) = 60 := rfl
  have e2 : IntKind.u64.wrap (64 - 60) = 4 := rfl
  have f1 : shl .u64 y 60 = y * 268435456 * 4294967296 := by
    show IntKind.u64.wrap (y * 1152921504606846976) = _
    rw [w64]; omega
  have f2 : shl .u64 hi 60 = hi * 1152921504606846976 := by
    show IntKind.u64.wrap (hi * 1152921504606846976) = _
    rw [w64]; omega
  have f3 : shr .u64 lo 4 = lo / 16 := rfl
  have f4 : Go.bits .or .u64 (hi * 1152921504606846976) (lo / 16) = hi * 1152921504606846976 + lo / 16 :=
    bits_join .u64 64 (by decide) wraps64 60 _ _ (by omega) (by show hi * 1152921504606846976 % 1152921504606846976 = 0; omega) (by show hi * 1152921504606846976 < 18446744073709551616; omega) (by omega) (by show lo / 16 < 1152921504606846976; omega) (by show lo / 16 < 18446744073709551616; omega)
  have f5 : shl .u64 lo 60 = lo * 1152921504606846976 % 18446744073709551616 := by
    show IntKind.u64.wrap (lo * 1152921504606846976) = _
    rw [w64]
  have f6 : Go.bits .and .u64 (y * 268435456 * 4294967296) 4294967295 = 0 := by rw [mask32 _ (by omega) (by omega)]; omega
  have f7 : y * 268435456 * 4294967296 / 4294967296 = y * 268435456 := by omega
  have f8 : IntKind.u64.wrap (Int.tdiv (hi * 1152921504606846976 + lo / 16) (y * 268435456)) = (hi * 1152921504606846976 + lo / 16) / (y * 268435456) := by
    rw [ediv_tdiv (by omega)]
    refine wraps64 _ (Int.ediv_nonneg (by omega) (by omega)) ?_
    exact Int.ediv_lt_of_lt_mul (by omega) (by show hi * 1152921504606846976 + lo / 16 < 18446744073709551616 * (y * 268435456); omega)
  obtain ⟨r, hr⟩ := div_l0 k (y * 268435456) 60 (hi * 1152921504606846976 + lo / 16) ((lo * 1152921504606846976 % 18446744073709551616) / 4294967296) (Go.bits .and .u64 (lo * 1152921504606846976 % 18446744073709551616) 4294967295) (IntKind.u64.wrap ((hi * 1152921504606846976 + lo / 16) - (IntKind.u64.wrap ((hi * 1152921504606846976 + lo / 16) / (y * 268435456) * (y * 268435456))))) (by omega) (by omega) (by omega) (by omega) (by omega) (by omega) (by omega)
  have hx : (hi * 1152921504606846976 + lo / 16) * 4294967296 + (lo * 1152921504606846976 % 18446744073709551616) / 4294967296 = (hi * 18446744073709551616 + lo) * 268435456 := by omega
  rw [hx, Int.mul_ediv_mul_of_pos_left _ _ (by decide : (0 : Int) < 268435456)] at hr
  refine ⟨r, ?_⟩
  unfold bits_Div64.f
  rw [if_neg (by omega), if_neg (by omega), if_neg (by omega), hl]
  simp only [Option.bind_some]
  rw [e1, e2, if_pos (by decide), if_pos (by decide), f1, f2, f3, f4, f5, f6, f7, f8, if_neg (by omega)]
  exact hr
theorem div_c61 (k : Nat) (y hi lo : Int) (hl : bits_LeadingZeros64.f y = some 61) (y0 : 4 ≤ y) (y1 : y ≤ 7) (h0 : 0 < hi) (h1 : hi < y) (l0 : 0 ≤ lo) (l1 : lo < 18446744073709551616) :
    ∃ r, bits_Div64.f (k + 5) hi lo y = some ((hi * 18446744073709551616 + lo) / y, r) := by
  have e1 : IntKind.u64.wrap (61) = 61 := rfl
  have e2 : IntKind.u64.wrap (64 - 61) = 3 := rfl
  have f1 : shl .u64 y 61 = y * 536870912 * 4294967296 := by
    show IntKind.u64.wrap (y * 2305843009213693952) = _
    rw [w64]; omega
  have f2 : shl .u64 hi 61 = hi * 2305843009213693952 := by
    show IntKind.u64.wrap (hi * 2305843009213693952) = _
    rw [w64]; omega
  have f3 : shr .u64 lo 3 = lo / 8 := rfl
  have f4 : Go.bits .or .u64 (hi * 2305843009213693952) (lo / 8) = hi * 2305843009213693952 + lo / 8 :=
    bits_join .u64 64 (by decide) wraps64 61 _ _ (by omega) (by show hi * 2305843009213693952 % 2305843009213693952 = 0; omega) (by show hi * 2305843009213693952 < 18446744073709551616; omega) (by omega) (by show lo / 8 < 2305843009213693952; omega) (by show lo / 8 < 18446744073709551616; omega)
  have f5 : shl .u64 lo 61 = lo * 2305843009213693952 % 18446744073709551616 := by
    show IntKind.u64.wrap (lo * 2305843009213693952) = _
    rw [w64]
  have f6 : Go.bits .and .u64 (y * 536870912 * 4294967296) 4294967295 = 0 := by rw [mask32 _ (by omega) (by omega)]; omega
  have f7 : y * 536870912 * 4294967296 / 4294967296 = y * 536870912 := by omega
  have f8 : IntKind.u64.wrap (Int.tdiv (hi * 2305843009213693952 + lo / 8) (y * 536870912)) = (hi * 2305843009213693952 + lo / 8) / (y * 536870912) := by
    rw [ediv_tdiv (by omega)]
    refine wraps64 _ (Int.ediv_nonneg (by omega) (by omega)) ?_
    exact Int.ediv_lt_of_lt_mul (by omega) (by show hi * 2305843009213693952 + lo / 8 < 18446744073709551616 * (y * 536870912); omega)
  obtain ⟨r, hr⟩ := div_l0 k (y * 536870912) 61 (hi * 2305843009213693952 + lo / 8) ((lo * 2305843009213693952 % 18446744073709551616) / 4294967296) (Go.bits .and .u64 (lo * 2305843009213693952 % 18446744073709551616) 4294967295) (IntKind.u64.wrap ((hi * 2305843009213693952 + lo / 8) - (IntKind.u64.wrap ((hi * 2305843009213693952 + lo / 8) / (y * 536870912) * (y * 536870912))))) (by omega) (by omega) (by omega) (by omega) (by omega) (by omega) (by omega)
  have hx : (hi * 2305843009213693952 + lo / 8) * 4294967296 + (lo * 2305843009213693952 % 18446744073709551616) / 4294967296 = (hi * 18446744073709551616 + lo) * 536870912 := by omega
  rw [hx, Int.mul_ediv_mul_of_pos_left _ _ (by decide : (0 : Int) < 536870912)] at hr
  refine ⟨r, ?_⟩
  unfold bits_Div64.f
  rw [if_neg (by omega), if_neg (by omega), if_neg (by omega), hl]
  simp only [Option.bind_some]
  rw [e1, e2, if_pos (by decide), if_pos (by decide), f1, f2, f3, f4, f5, f6, f7, f8, if_neg (by omega)]
  exact hr
theorem div_c62 (k : Nat) (y hi lo : Int) (hl : bits_LeadingZeros64.f y = some 62) (y0 : 2 ≤ y) (y1 : y ≤ 3) (h0 : 0 < hi) (h1 : hi < y) (l0 : 0 ≤ lo) (l1 : lo < 18446744073709551616) :
    ∃ r, bits_Div64.f (k + 5) hi lo y = some ((hi * 18446744073709551616 + lo) / y, r) := by
  have e1 : IntKind.u64.wrap (62) = 62 := rfl
  have e2 : IntKind.u64.wrap (64 - 62) = 2 := rfl
  have f1 : shl .u64 y 62 = y * 1073741824 * 4294967296 := by
    show IntKind.u64.wrap (y * 4611686018427387904) = _
    rw [w64]; omega
  have f2 : shl .u64 hi 62 = hi * 4611686018427387904 := by
    show IntKind.u64.wrap (hi * 4611686018427387904) = _
    rw [w64]; omega
  have f3 : shr .u64 lo 2 = lo / 4 := rfl
  have f4 : Go.bits .or .u64 (hi * 4611686018427387904) (lo / 4) = hi * 4611686018427387904 + lo / 4 :=
    bits_join .u64 64 (by decide) wraps64 62 _ _ (by omega) (by show hi * 4611686018427387904 % 4611686018427387904 = 0; omega) (by show hi * 4611686018427387904 < 18446744073709551616; omega) (by omega) (by show lo / 4 < 4611686018427387904; omega) (by show lo / 4 < 18446744073709551616; omega)
  have f5 : shl .u64 lo 62 = lo * 4611686018427387904 % 18446744073709551616 := by
    show IntKind.u64.wrap (lo * 4611686018427387904) = _
    rw [w64]
  have f6 : Go.bits .and .u64 (y * 1073741824 * 4294967296) 4294967295 = 0 := by rw [mask32 _ (by omega) (by omega)]; omega
  have f7 : y * 1073741824 * 4294967296 / 4294967296 = y * 1073741824 := by omega
  have f8 : IntKind.u64.wrap (Int.tdiv (hi * 4611686018427387904 + lo / 4) (y * 1073741824)) = (hi * 4611686018427387904 + lo / 4) / (y * 1073741824) := by
    rw [ediv_tdiv (by omega)]
    refine wraps64 _ (Int.ediv_nonneg (by omega) (by omega)) ?_
    exact Int.ediv_lt_of_lt_mul (by omega) (by show hi * 4611686018427387904 + lo / 4 < 18446744073709551616 * (y * 1073741824); omega)
  obtain ⟨r, hr⟩ := div_l0 k (y * 1073741824) 62 (hi * 4611686018427387904 + lo / 4) ((lo * 4611686018427387904 % 18446744073709551616) / 4294967296) (Go.bits .and .u64 (lo * 4611686018427387904 % 18446744073709551616) 4294967295) (IntKind.u64.wrap ((hi * 4611686018427387904 + lo / 4) - (IntKind.u64.wrap ((hi * 4611686018427387904 + lo / 4) / (y * 1073741824) * (y * 1073741824))))) (by omega) (by omega) (by omega) (by omega) (by omega) (by omega) (by omega)
  have hx : (hi * 4611686018427387904 + lo / 4) * 4294967296 + (lo * 4611686018427387904 % 18446744073709551616) / 4294967296 = (hi * 18446744073709551616 + lo) * 1073741824 := by omega
  rw [hx, Int.mul_ediv_mul_of_pos_left _ _ (by decide : (0 : Int) < 1073741824)] at hr
  refine ⟨r, ?_⟩
  unfold bits_Div64.f
  rw [if_neg (by omega), if_neg (by omega), if_neg (by omega), hl]
  simp only [Option.bind_some]
  rw [e1, e2, if_pos (by decide), if_pos (by decide), f1, f2, f3, f4, f5, f6, f7, f8, if_neg (by omega)]
  exact hr
theorem div_c63 (k : Nat) (y hi lo : Int) (hl : bits_LeadingZeros64.f y = some 63) (y0 : 1 ≤ y) (y1 : y ≤ 1) (h0 : 0 < hi) (h1 : hi < y) (l0 : 0 ≤ lo) (l1 : lo < 18446744073709551616) :
    ∃ r, bits_Div64.f (k + 5) hi lo y = some ((hi * 18446744073709551616 + lo) / y, r) := by
  have e1 : IntKind.u64.wrap (63) = 63 := rfl
  have e2 : IntKind.u64.wrap (64 - 63) = 1 := rfl
  have f1 : shl .u64 y 63 = y * 2147483648 * 4294967296 := by
    show IntKind.u64.wrap (y * 9223372036854775808) = _
    rw [w64]; omega
  have f2 : shl .u64 hi 63 = hi * 9223372036854775808 := by
    show IntKind.u64.wrap (hi * 9223372036854775808) = _
    rw [w64]; omega
  have f3 : shr .u64 lo 1 = lo / 2 := rfl
  have f4 : Go.bits .or .u64 (hi * 9223372036854775808) (lo / 2) = hi * 9223372036854775808 + lo / 2 :=
    bits_join .u64 64 (by decide) wraps64 63 _ _ (by omega) (by show hi * 9223372036854775808 % 9223372036854775808 = 0; omega) (by show hi * 9223372036854775808 < 18446744073709551616; omega) (by omega) (by show lo / 2 < 9223372036854775808; omega) (by show lo / 2 < 18446744073709551616; omega)
  have f5 : shl .u64 lo 63 = lo * 9223372036854775808 % 18446744073709551616 := by
    show IntKind.u64.wrap (lo * 9223372036854775808) = _
    rw [w64]
  have f6 : Go.bits .and .u64 (y * 2147483648 * 4294967296) 4294967295 = 0 := by rw [mask32 _ (by omega) (by omega)]; omega
  have f7 : y * 2147483648 * 4294967296 / 4294967296 = y * 2147483648 := by omega
  have f8 : IntKind.u64.wrap (Int.tdiv (hi * 9223372036854775808 + lo / 2) (y * 2147483648)) = (hi * 9223372036854775808 + lo / 2) / (y * 2147483648) := by
    rw [ediv_tdiv (by omega)]
    refine wraps64 _ (Int.ediv_nonneg (by omega) (by omega)) ?_
    exact Int.ediv_lt_of_lt_mul (by omega) (by show hi * 9223372036854775808 + lo / 2 < 18446744073709551616 * (y * 2147483648); omega)
  obtain ⟨r, hr⟩ := div_l0 k (y * 2147483648) 63 (hi * 9223372036854775808 + lo / 2) ((lo * 9223372036854775808 % 18446744073709551616) / 4294967296) (Go.bits .and .u64 (lo * 9223372036854775808 % 18446744073709551616) 4294967295) (IntKind.u64.wrap ((hi * 9223372036854775808 + lo / 2) - (IntKind.u64.wrap ((hi * 9223372036854775808 + lo / 2) / (y * 2147483648) * (y * 2147483648))))) (by omega) (by omega) (by omega) (by omega) (by omega) (by omega) (by omega)
  have hx : (hi * 9223372036854775808 + lo / 2) * 4294967296 + (lo * 9223372036854775808 % 18446744073709551616) / 4294967296 = (hi * 18446744073709551616 + lo) * 2147483648 := by omega
  rw [hx, Int.mul_ediv_mul_of_pos_left _ _ (by decide : (0 : Int) < 2147483648)] at hr
  refine ⟨r, ?_⟩
  unfold bits_Div64.f
  rw [if_neg (by omega), if_neg (by omega), if_neg (by omega), hl]
  simp only [Option.bind_some]
  rw [e1, e2, if_pos (by decide), if_pos (by decide), f1, f2, f3, f4, f5, f6, f7, f8, if_neg (by omega)]
  exact hr
theorem bitLens : ∀ y : Fin 25, 1 ≤ y.1 → (y.1 = 1 ∧ Lib.bitLen y.1 = 1) ∨ (2 ≤ y.1 ∧ y.1 ≤ 3 ∧ Lib.bitLen y.1 = 2) ∨ (4 ≤ y.1 ∧ y.1 ≤ 7 ∧ Lib.bitLen y.1 = 3) ∨ (8 ≤ y.1 ∧ y.1 ≤ 15 ∧ Lib.bitLen y.1 = 4) ∨ (16 ≤ y.1 ∧ Lib.bitLen y.1 = 5) := by decide
theorem Div64_q (k : Nat) (y hi lo : Int) (y0 : 1 ≤ y) (y1 : y ≤ 24) (h0 : 0 ≤ hi) (h1 : hi < y) (l0 : 0 ≤ lo) (l1 : lo < 18446744073709551616) :
    ∃ r, bits_Div64.f (k + 5) hi lo y = some ((hi * 18446744073709551616 + lo) / y, r) := by
  by_cases hz : hi = 0
  · subst hz
    refine ⟨Int.tmod lo y, ?_⟩
    unfold bits_Div64.f
    rw [if_neg (by omega), if_neg (by omega), if_pos rfl, ediv_tdiv l0, wraps64 _ (Int.ediv_nonneg l0 (by omega)) (Int.lt_of_le_of_lt (Int.ediv_le_self _ l0) (by omega))]
    rw [Int.zero_mul, Int.zero_add]
  · have hb := bitLens ⟨y.toNat, by omega⟩ (by show 1 ≤ y.toNat; omega)
    have hl : ∀ b : Nat, Lib.bitLen y.toNat = b → bits_LeadingZeros64.f y = some (64 - (b : Int)) := fun b e => by
      unfold bits_LeadingZeros64.f
      rw [if_pos ⟨by omega, by omega⟩, e]
    rcases hb with ⟨b1, b2⟩ | ⟨b1, b2, b3⟩ | ⟨b1, b2, b3⟩ | ⟨b1, b2, b3⟩ | ⟨b1, b2⟩
    · simp only at b1
      exact div_c63 k y hi lo (hl 1 b2) (by omega) (by omega) (by omega) h1 l0 l1
    · simp only at b1 b2
      exact div_c62 k y hi lo (hl 2 b3) (by omega) (by omega) (by omega) h1 l0 l1
    · simp only at b1 b2
      exact div_c61 k y hi lo (hl 3 b3) (by omega) (by omega) (by omega) h1 l0 l1
    · simp only at b1 b2
      exact div_c60 k y hi lo (hl 4 b3) (by omega) (by omega) (by omega) h1 l0 l1
    · simp only at b1
      exact div_c59 k y hi lo (hl 5 b2) (by omega) (by omega) (by omega) h1 l0 l1
end Go.Proofs.Ytfcjfjmjcmanaaa.X
