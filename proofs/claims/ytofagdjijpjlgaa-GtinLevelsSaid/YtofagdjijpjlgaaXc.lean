/- The contracts of gtin.headed and gtin.Short, walked by hand. -/
import Derived.Test.YtofagdjijpjlgaaPNormx
import Derived.Outline
import Derived.Test.YtofagdjijpjlgaaXsh
set_option linter.unusedVariables false
namespace Go.Proofs.Ytofagdjijpjlgaa.X
open Go.RowKit Go.Proofs.YtofagdjijpjlgaaW.PrintWords Go.Proofs.YtofagdjijpjlgaaW.PrintLast Go.Proofs.YtofagdjijpjlgaaW.PrintMore Go.Proofs.Ytofagdjijpjlgaa.PCodes Go.Proofs.Ytofagdjijpjlgaa.PNorm

theorem encode_small (n : Int) (h0 : 0 ≤ n) (h1 : n < 128) : Utf8.encode n = strOfNums [n] := by
  unfold Utf8.encode
  have hv : Utf8.valid n = true := by unfold Utf8.valid; simp; omega
  simp only [hv, if_true]
  rw [if_pos (by omega)]
  rfl
def gtin_headed.f (k : Nat) (a0 : ByteArray) (a1 : Int) : Option ByteArray :=
  if 0 ≤ a1 then if a1 < 128 then if 13 ≤ a0.size then if a0.size ≤ 1000 then
    (gtin_Digit.f k (strOfNums [a1] ++ a0.extract 1 13)).bind fun p => if 0 ≤ p.1 then if p.1 < 128 then some ((strOfNums [a1] ++ a0.extract 1 13) ++ strOfNums [p.1]) else none else none
  else none else none else none else none
theorem gtin_headed.mono : ∀ a0 a1 k, LeO (gtin_headed.f k a0 a1) (gtin_headed.f (k + 1) a0 a1) := by
  intro a0 a1 k
  unfold gtin_headed.f
  repeat' first
      | (with_reducible exact gtin_Digit.mono _ _)
      | (with_reducible exact LeO.refl _)
      | (with_reducible exact LeO.none _)
      | (with_reducible refine LeO.ite ?_ ?_)
      | (with_reducible refine LeO.bind ?_ (fun _ => ?_))
      | exact gtin_Digit.mono _ _
theorem strOfNums_one (x : Int) : (strOfNums [x]).size = 1 := by rw [strOfNums_size]; rfl
set_option maxHeartbeats 1000000 in
theorem gtin_headed.calls (k : Nat) (a0 : ByteArray) (a1 : Int) (r : ByteArray) (w : World) (h : gtin_headed.f k a0 a1 = some r) :
    Calls Try.prog 37 #[.string a0, .int .u8 a1] w fun e w' => e = .returned (.string r) ∧ Below w.heap.size w w' := by
  unfold gtin_headed.f at h
  by_cases h0 : 0 ≤ a1
  · by_cases h1 : a1 < 128
    · by_cases h2 : 13 ≤ a0.size
      · by_cases h3 : a0.size ≤ 1000
        · rw [if_pos h0, if_pos h1, if_pos h2, if_pos h3] at h
          obtain ⟨⟨d, e⟩, hd, h⟩ := Option.bind_eq_some_iff.1 h
          by_cases h4 : 0 ≤ d
          · by_cases h5 : d < 128
            · replace h : some ((strOfNums [a1] ++ a0.extract 1 13) ++ strOfNums [d]) = some r := by
                rw [if_pos h4, if_pos h5] at h; exact h
              obtain rfl := Option.some.inj h
              clear h
              obtain ⟨z, hz⟩ : ∃ z, strOfNums [a1] ++ a0.extract 1 13 = z := ⟨_, rfl⟩
              have hzs : z.size = 13 := by rw [← hz, ByteArray.size_append, ByteArray.size_extract, strOfNums_one]; omega
              have f1 := encode_small a1 h0 h1
              have f2 := encode_small d h4 h5
              obtain ⟨s1, hs1⟩ : ∃ s, Utf8.encode a1 = s := ⟨_, rfl⟩
              obtain ⟨s2, hs2⟩ : ∃ s, Utf8.encode d = s := ⟨_, rfl⟩
              have k1 : s1.size = 1 := by rw [← hs1, f1, strOfNums_one]
              have k2 : s2.size = 1 := by rw [← hs2, f2, strOfNums_one]
              have hq1 : (9223372036854775807 < s1.size + (min 13 a0.size - 1)) = False := eq_false (by omega)
              have hq3 : (9223372036854775807 < s1.size + 12) = False := eq_false (by omega)
              have hq2 : (9223372036854775807 < z.size + s2.size) = False := eq_false (by omega)
              have F1 := Aside0.mk (hs1.symm.trans f1)
              have F2 := Aside0.mk (hs2.symm.trans f2)
              have hzz : s1 ++ a0.extract 1 13 = z := by rw [F1.out]; exact hz
              have g1 : (13 : Int) ≤ (a0.size : Int) := by omega
              rw [← F2.out]
              rw [hz] at hd
              have HD := Aside0.mk hd
              have HZ := Aside0.mk hz
              clear f1 f2 hd hz F1 F2
              clear k1 k2 hzs h0 h1 h4 h5
              go_enter Try.func37, Try.ntmps37
              go_wp2_with (go_at_call 16; (with_reducible refine (gtin_Digit.calls k z d e _ HD.out).mono ?_); rintro e w' ⟨rfl, hb⟩)
              go_ret
              exact ⟨by rw [HZ.out]; rfl, hb⟩
            · rw [if_pos h4, if_neg h5] at h; cases h
          · rw [if_neg h4] at h; cases h
        · rw [if_pos h0, if_pos h1, if_pos h2, if_neg h3] at h; cases h
      · rw [if_pos h0, if_pos h1, if_neg h2] at h; cases h
    · rw [if_pos h0, if_neg h1] at h; cases h
  · rw [if_neg h0] at h; cases h

def zeros (n : ByteArray) (m : Nat) : Int := (Lib.countByte (n.extract 0 m).data.toList 48 : Nat)
def shortOf (n : ByteArray) : ByteArray := if zeros n 6 = 6 then n.extract 6 n.size else if zeros n 2 = 2 then n.extract 2 n.size else if zeros n 1 = 1 then n.extract 1 n.size else n
def gtin_Short.f (k : Nat) (a0 : ByteArray) : Option (ByteArray × Int) :=
  (gtin_Normal.f k a0).bind fun p => if p.2 = 0 then if p.1.size = 14 then some (shortOf p.1, 0) else none else some ((⟨#[]⟩ : ByteArray), p.2)
theorem gtin_Short.mono : ∀ a0 k, LeO (gtin_Short.f k a0) (gtin_Short.f (k + 1) a0) := by
  intro a0 k
  unfold gtin_Short.f
  repeat' first
      | (with_reducible exact gtin_Normal.mono _ _)
      | (with_reducible exact LeO.refl _)
      | (with_reducible exact LeO.none _)
      | (with_reducible refine LeO.ite ?_ ?_)
      | (with_reducible refine LeO.bind ?_ (fun _ => ?_))
      | exact gtin_Normal.mono _ _
set_option maxHeartbeats 1000000 in
theorem short_err (k : Nat) (a0 n : ByteArray) (e : Int) (w : World) (h : gtin_Normal.f k a0 = some (n, e)) (he : (e != 0) = true) :
    Calls Try.prog 25 #[.string a0] w fun x w' => x = .returned (.tuple #[.string (⟨#[]⟩ : ByteArray), .int .i64 e]) ∧ Below w.heap.size w w' := by
  have HD := Aside0.mk h
  clear h
  go_enter Try.func25, Try.ntmps25
  go_wp2_with (go_at_call 24; (with_reducible refine (gtin_Normal.calls k a0 n e _ HD.out).mono ?_); rintro e w' ⟨rfl, hb⟩)
  go_ret2
  exact ⟨rfl, hb⟩
theorem count_at (n : ByteArray) (m : Nat) (W : World) : Calls Try.prog 40 #[.string (n.extract 0 m), .string ⟨#[48]⟩] W fun e w' => e = .returned (.int .i64 (zeros n m)) ∧ w' = W :=
  Try.strings_Count_one (n.extract 0 m) 48 W
theorem arr0 (w : World) : (Instr.index 52 (.agg #[.int .i64 6, .int .i64 2, .int .i64 1]) (.int .i64 0)).run Try.prog w = .ok (.int .i64 6) w := by kernel_rfl
theorem arr1 (w : World) : (Instr.index 52 (.agg #[.int .i64 6, .int .i64 2, .int .i64 1]) (.int .i64 1)).run Try.prog w = .ok (.int .i64 2) w := by kernel_rfl
theorem arr2 (w : World) : (Instr.index 52 (.agg #[.int .i64 6, .int .i64 2, .int .i64 1]) (.int .i64 2)).run Try.prog w = .ok (.int .i64 1) w := by kernel_rfl
set_option maxHeartbeats 2000000 in
theorem short_6 (k : Nat) (a0 n : ByteArray) (c6 c2 c1 : Int) (w : World) (h : gtin_Normal.f k a0 = some (n, 0)) (hs : 14 ≤ n.size)
    (C6 : ∀ W, Calls Try.prog 40 #[.string (n.extract 0 6), .string ⟨#[48]⟩] W fun e w' => e = .returned (.int .i64 c6) ∧ w' = W)
    (C2 : ∀ W, Calls Try.prog 40 #[.string (n.extract 0 2), .string ⟨#[48]⟩] W fun e w' => e = .returned (.int .i64 c2) ∧ w' = W)
    (C1 : ∀ W, Calls Try.prog 40 #[.string (n.extract 0 1), .string ⟨#[48]⟩] W fun e w' => e = .returned (.int .i64 c1) ∧ w' = W)
    (hc6 : (c6 == 6) = true) :
    Calls Try.prog 25 #[.string a0] w fun x w' => x = .returned (.tuple #[.string (n.extract 6 n.size), .int .i64 0]) ∧ Below w.heap.size w w' := by
  have HD := Aside0.mk h
  have HC6 := Aside0.mk C6
  have HC2 := Aside0.mk C2
  have HC1 := Aside0.mk C1
  clear h C6 C2 C1
  have i0 := arr0
  have i1 := arr1
  have i2 := arr2
  go_enter Try.func25, Try.ntmps25
  go_wp2_with (go_at_call 24; (with_reducible refine (gtin_Normal.calls k a0 n 0 _ HD.out).mono ?_); rintro e w' ⟨rfl, hb⟩)
  refine wp_loop_rounds 1 ?_
  rw [rounds_succ]
  go_wp2_with (go_at_call 40; (first | (with_reducible refine (HC6.out _).mono ?_) | (with_reducible refine (HC2.out _).mono ?_) | (with_reducible refine (HC1.out _).mono ?_)); rintro e w' ⟨rfl, rfl⟩)
  go_ret2
  exact ⟨rfl, hb⟩
set_option maxHeartbeats 2000000 in
theorem short_2 (k : Nat) (a0 n : ByteArray) (c6 c2 c1 : Int) (w : World) (h : gtin_Normal.f k a0 = some (n, 0)) (hs : 14 ≤ n.size)
    (C6 : ∀ W, Calls Try.prog 40 #[.string (n.extract 0 6), .string ⟨#[48]⟩] W fun e w' => e = .returned (.int .i64 c6) ∧ w' = W)
    (C2 : ∀ W, Calls Try.prog 40 #[.string (n.extract 0 2), .string ⟨#[48]⟩] W fun e w' => e = .returned (.int .i64 c2) ∧ w' = W)
    (C1 : ∀ W, Calls Try.prog 40 #[.string (n.extract 0 1), .string ⟨#[48]⟩] W fun e w' => e = .returned (.int .i64 c1) ∧ w' = W)
    (hc6 : (c6 == 6) = false) (hc2 : (c2 == 2) = true) :
    Calls Try.prog 25 #[.string a0] w fun x w' => x = .returned (.tuple #[.string (n.extract 2 n.size), .int .i64 0]) ∧ Below w.heap.size w w' := by
  have HD := Aside0.mk h
  have HC6 := Aside0.mk C6
  have HC2 := Aside0.mk C2
  have HC1 := Aside0.mk C1
  clear h C6 C2 C1
  have i0 := arr0
  have i1 := arr1
  have i2 := arr2
  go_enter Try.func25, Try.ntmps25
  go_wp2_with (go_at_call 24; (with_reducible refine (gtin_Normal.calls k a0 n 0 _ HD.out).mono ?_); rintro e w' ⟨rfl, hb⟩)
  refine wp_loop_rounds 2 ?_
  rw [rounds_succ]
  go_wp2_with (go_at_call 40; (first | (with_reducible refine (HC6.out _).mono ?_) | (with_reducible refine (HC2.out _).mono ?_) | (with_reducible refine (HC1.out _).mono ?_)); rintro e w' ⟨rfl, rfl⟩)
  rw [rounds_succ]
  go_wp2_with (go_at_call 40; (first | (with_reducible refine (HC6.out _).mono ?_) | (with_reducible refine (HC2.out _).mono ?_) | (with_reducible refine (HC1.out _).mono ?_)); rintro e w' ⟨rfl, rfl⟩)
  go_ret2
  exact ⟨rfl, hb⟩
set_option maxHeartbeats 2000000 in
theorem short_1 (k : Nat) (a0 n : ByteArray) (c6 c2 c1 : Int) (w : World) (h : gtin_Normal.f k a0 = some (n, 0)) (hs : 14 ≤ n.size)
    (C6 : ∀ W, Calls Try.prog 40 #[.string (n.extract 0 6), .string ⟨#[48]⟩] W fun e w' => e = .returned (.int .i64 c6) ∧ w' = W)
    (C2 : ∀ W, Calls Try.prog 40 #[.string (n.extract 0 2), .string ⟨#[48]⟩] W fun e w' => e = .returned (.int .i64 c2) ∧ w' = W)
    (C1 : ∀ W, Calls Try.prog 40 #[.string (n.extract 0 1), .string ⟨#[48]⟩] W fun e w' => e = .returned (.int .i64 c1) ∧ w' = W)
    (hc6 : (c6 == 6) = false) (hc2 : (c2 == 2) = false) (hc1 : (c1 == 1) = true) :
    Calls Try.prog 25 #[.string a0] w fun x w' => x = .returned (.tuple #[.string (n.extract 1 n.size), .int .i64 0]) ∧ Below w.heap.size w w' := by
  have HD := Aside0.mk h
  have HC6 := Aside0.mk C6
  have HC2 := Aside0.mk C2
  have HC1 := Aside0.mk C1
  clear h C6 C2 C1
  have i0 := arr0
  have i1 := arr1
  have i2 := arr2
  go_enter Try.func25, Try.ntmps25
  go_wp2_with (go_at_call 24; (with_reducible refine (gtin_Normal.calls k a0 n 0 _ HD.out).mono ?_); rintro e w' ⟨rfl, hb⟩)
  refine wp_loop_rounds 3 ?_
  rw [rounds_succ]
  go_wp2_with (go_at_call 40; (first | (with_reducible refine (HC6.out _).mono ?_) | (with_reducible refine (HC2.out _).mono ?_) | (with_reducible refine (HC1.out _).mono ?_)); rintro e w' ⟨rfl, rfl⟩)
  rw [rounds_succ]
  go_wp2_with (go_at_call 40; (first | (with_reducible refine (HC6.out _).mono ?_) | (with_reducible refine (HC2.out _).mono ?_) | (with_reducible refine (HC1.out _).mono ?_)); rintro e w' ⟨rfl, rfl⟩)
  rw [rounds_succ]
  go_wp2_with (go_at_call 40; (first | (with_reducible refine (HC6.out _).mono ?_) | (with_reducible refine (HC2.out _).mono ?_) | (with_reducible refine (HC1.out _).mono ?_)); rintro e w' ⟨rfl, rfl⟩)
  go_ret2
  exact ⟨rfl, hb⟩
set_option maxHeartbeats 2000000 in
theorem short_0 (k : Nat) (a0 n : ByteArray) (c6 c2 c1 : Int) (w : World) (h : gtin_Normal.f k a0 = some (n, 0)) (hs : 14 ≤ n.size)
    (C6 : ∀ W, Calls Try.prog 40 #[.string (n.extract 0 6), .string ⟨#[48]⟩] W fun e w' => e = .returned (.int .i64 c6) ∧ w' = W)
    (C2 : ∀ W, Calls Try.prog 40 #[.string (n.extract 0 2), .string ⟨#[48]⟩] W fun e w' => e = .returned (.int .i64 c2) ∧ w' = W)
    (C1 : ∀ W, Calls Try.prog 40 #[.string (n.extract 0 1), .string ⟨#[48]⟩] W fun e w' => e = .returned (.int .i64 c1) ∧ w' = W)
    (hc6 : (c6 == 6) = false) (hc2 : (c2 == 2) = false) (hc1 : (c1 == 1) = false) :
    Calls Try.prog 25 #[.string a0] w fun x w' => x = .returned (.tuple #[.string (n), .int .i64 0]) ∧ Below w.heap.size w w' := by
  have HD := Aside0.mk h
  have HC6 := Aside0.mk C6
  have HC2 := Aside0.mk C2
  have HC1 := Aside0.mk C1
  clear h C6 C2 C1
  have i0 := arr0
  have i1 := arr1
  have i2 := arr2
  go_enter Try.func25, Try.ntmps25
  go_wp2_with (go_at_call 24; (with_reducible refine (gtin_Normal.calls k a0 n 0 _ HD.out).mono ?_); rintro e w' ⟨rfl, hb⟩)
  refine wp_loop_rounds 4 ?_
  rw [rounds_succ]
  go_wp2_with (go_at_call 40; (first | (with_reducible refine (HC6.out _).mono ?_) | (with_reducible refine (HC2.out _).mono ?_) | (with_reducible refine (HC1.out _).mono ?_)); rintro e w' ⟨rfl, rfl⟩)
  rw [rounds_succ]
  go_wp2_with (go_at_call 40; (first | (with_reducible refine (HC6.out _).mono ?_) | (with_reducible refine (HC2.out _).mono ?_) | (with_reducible refine (HC1.out _).mono ?_)); rintro e w' ⟨rfl, rfl⟩)
  rw [rounds_succ]
  go_wp2_with (go_at_call 40; (first | (with_reducible refine (HC6.out _).mono ?_) | (with_reducible refine (HC2.out _).mono ?_) | (with_reducible refine (HC1.out _).mono ?_)); rintro e w' ⟨rfl, rfl⟩)
  rw [rounds_succ]
  go_wp2_with (go_at_call 40; (first | (with_reducible refine (HC6.out _).mono ?_) | (with_reducible refine (HC2.out _).mono ?_) | (with_reducible refine (HC1.out _).mono ?_)); rintro e w' ⟨rfl, rfl⟩)
  go_ret2
  exact ⟨rfl, hb⟩
theorem gtin_Short.calls (k : Nat) (a0 : ByteArray) (r1 : ByteArray) (r2 : Int) (w : World) (h : gtin_Short.f k a0 = some (r1, r2)) :
    Calls Try.prog 25 #[.string a0] w fun e w' => e = .returned (.tuple #[.string r1, .int .i64 r2]) ∧ Below w.heap.size w w' := by
  unfold gtin_Short.f at h
  obtain ⟨⟨n, e⟩, hn, h⟩ := Option.bind_eq_some_iff.1 h
  by_cases he : e = 0
  · subst he
    by_cases hs : n.size = 14
    · simp only [if_true, if_pos hs, Option.some.injEq, Prod.mk.injEq] at h
      obtain ⟨rfl, rfl⟩ := h
      unfold shortOf
      have C6 := count_at n 6
      have C2 := count_at n 2
      have C1 := count_at n 1
      by_cases c6 : zeros n 6 = 6
      · rw [if_pos c6]; exact short_6 k a0 n _ _ _ w hn (by omega) C6 C2 C1 (beq_iff_eq.2 c6)
      · rw [if_neg c6]
        by_cases c2 : zeros n 2 = 2
        · rw [if_pos c2]; exact short_2 k a0 n _ _ _ w hn (by omega) C6 C2 C1 (beq_eq_false_iff_ne.2 c6) (beq_iff_eq.2 c2)
        · rw [if_neg c2]
          by_cases c1 : zeros n 1 = 1
          · rw [if_pos c1]; exact short_1 k a0 n _ _ _ w hn (by omega) C6 C2 C1 (beq_eq_false_iff_ne.2 c6) (beq_eq_false_iff_ne.2 c2) (beq_iff_eq.2 c1)
          · rw [if_neg c1]; exact short_0 k a0 n _ _ _ w hn (by omega) C6 C2 C1 (beq_eq_false_iff_ne.2 c6) (beq_eq_false_iff_ne.2 c2) (beq_eq_false_iff_ne.2 c1)
    · simp only [if_true, if_neg hs] at h; cases h
  · simp only [if_neg he, Option.some.injEq, Prod.mk.injEq] at h
    obtain ⟨rfl, rfl⟩ := h
    exact short_err k a0 n e w hn (bne_iff_ne.2 he)
end Go.Proofs.Ytofagdjijpjlgaa.X
