-- written by xprint.py (a program of this work's own, over the kit's printer) out of the translation
import Derived.Test.YtofagdjijpjlgaaDoorPBasex0
namespace Go.Proofs.YtofagdjijpjlgaaDoor.PBase
open Go.RowKit Go.Proofs.YtofagdjijpjlgaaDoorW.PrintWords Go.Proofs.YtofagdjijpjlgaaDoorW.PrintLast Go.Proofs.YtofagdjijpjlgaaDoorW.PrintMore Go.Proofs.YtofagdjijpjlgaaDoor.X
attribute [local go_sem] max2_int min2_int max_two min_two max_three min_three max_four min_four   -- for this text's walks alone
set_option linter.unusedVariables false
set_option linter.unusedSimpArgs false

/-! ### larderref02_isDigit: function 28 -/
def larderref02_isDigit.f (a0 : Int) : Option (Bool) := if a0 ≥ 48 then (some (decide (a0 ≤ 57))) else (some false)
set_option maxHeartbeats 8000000 in
set_option maxRecDepth 100000 in
theorem larderref02_isDigit.calls (a0 : Int) (r : Bool) (w : World) (h : larderref02_isDigit.f a0 = some r) :
    Calls Tryd.prog 28 #[.int .u8 a0] w fun e w' => e = .returned (.bool r) ∧ Drawn0 w w' := by
  have H : (if a0 ≥ 48 then (some (decide (a0 ≤ 57))) else (some false)) = some r := h
  clear h
  by_cases c2 : a0 ≥ 48
  · rw [if_pos c2] at H
    have c2b0 : decide (48 ≤ a0) = true := decide_eq_true c2
    clear c2
    obtain rfl := Option.some.inj H
    go_enter Tryd.func28, Tryd.ntmps28
    go_wp2
    go_ret
    exact ⟨by first | rfl | (simp; done) | (simp [*]; done), by repeat (first | exact Drawn0.refl _ | apply Drawn0.step)⟩
  · rw [if_neg c2] at H
    have c2b0 : decide (48 ≤ a0) = false := decide_eq_false c2
    clear c2
    obtain rfl := Option.some.inj H
    go_enter Tryd.func28, Tryd.ntmps28
    go_wp2
    go_ret
    exact ⟨by first | rfl | (simp; done) | (simp [*]; done), by repeat (first | exact Drawn0.refl _ | apply Drawn0.step)⟩

/-! ### larderref02_two: function 30 -/
def larderref02_two.f (a0 : ByteArray) : Option (Int) := if 0 < (a0.size : Int) then (if 1 < (a0.size : Int) then (some ((10 * (((bt a0 0) - 48) % 256)) + (((bt a0 1) - 48) % 256))) else (none)) else (none)
set_option maxHeartbeats 8000000 in
set_option maxRecDepth 100000 in
theorem larderref02_two.calls (a0 : ByteArray) (r : Int) (w : World) (h : larderref02_two.f a0 = some r) :
    Calls Tryd.prog 30 #[.string a0] w fun e w' => e = .returned (.int .i64 r) ∧ Drawn0 w w' := by
  have H : (if 0 < (a0.size : Int) then (if 1 < (a0.size : Int) then (some ((10 * (((bt a0 0) - 48) % 256)) + (((bt a0 1) - 48) % 256))) else (none)) else (none)) = some r := h
  clear h
  by_cases c2 : 0 < (a0.size : Int)
  · rw [if_pos c2] at H
    have c2b0 : decide (0 < (a0.size : Int)) = true := decide_eq_true c2
    have c2b1 : decide (0 < a0.size) = true := decide_eq_true (by omega)
    clear c2
    by_cases c4 : 1 < (a0.size : Int)
    · rw [if_pos c4] at H
      have c4b0 : decide (1 < (a0.size : Int)) = true := decide_eq_true c4
      have c4b1 : decide (1 < a0.size) = true := decide_eq_true (by omega)
      clear c4
      obtain rfl := Option.some.inj H
      have p3 : 0 ≤ (0 : Int) := (by omega)
      have q3 : 0 < a0.size := (by have : (0 : Int) < (a0.size : Int) := of_decide_eq_true (by first | (with_reducible assumption) | assumption); omega)
      have hx3 : ∀ h : 0 < a0.size, ((a0[0]'h).toNat : Int) = bt a0 0 := bt_at a0 0
      clear p3
      have qi3 : (0 < (a0.size : Int)) = True := eq_true (of_decide_eq_true (by first | (with_reducible assumption) | assumption))
      replace q3 := eq_true q3
      have p5 : 0 ≤ (1 : Int) := (by omega)
      have q5 : 1 < a0.size := (by have : (1 : Int) < (a0.size : Int) := of_decide_eq_true (by first | (with_reducible assumption) | assumption); omega)
      have hx5 : ∀ h : 1 < a0.size, ((a0[1]'h).toNat : Int) = bt a0 1 := bt_at a0 1
      clear p5
      have qi5 : (1 < (a0.size : Int)) = True := eq_true (of_decide_eq_true (by first | (with_reducible assumption) | assumption))
      replace q5 := eq_true q5
      go_enter Tryd.func30, Tryd.ntmps30
      go_wp2
      repeat (go_quiet (fail); try go_wp2)
      go_ret
      exact ⟨by first | rfl | (simp; done) | (simp [*]; done), by repeat (first | exact Drawn0.refl _ | apply Drawn0.step)⟩
    · rw [if_neg c4] at H
      exact absurd H (by simp)
  · rw [if_neg c2] at H
    exact absurd H (by simp)

/-! ### larderref02_isDay: function 29 -/
def larderref02_isDay.j0 : Nat → ByteArray → Int → Int → Int → Bool → Option (Bool)
  | 0, _, _, _, _, _ => none
  | k + 1, x0, x3, x4, x8, x9 => if x9 = true then (if x3 ≥ 1 then (if x3 ≤ 12 then (if 4 ≤ (x0.size : Int) then ((larderref02_two.f (x0.extract 4 x0.size)).bind fun t110 => (some (decide (t110 ≤ 30)))) else (none)) else (some false)) else (some false)) else (if x8 = 2 then (if 0 ≤ 2 then (if 2 ≤ (x0.size : Int) then ((larderref02_two.f (x0.extract 0 2)).bind fun t111 => (if (Int.tmod t111 4) = 0 then (if x3 ≥ 1 then (if x3 ≤ 12 then (if 4 ≤ (x0.size : Int) then ((larderref02_two.f (x0.extract 4 x0.size)).bind fun t112 => (some (decide (t112 ≤ 29)))) else (none)) else (some false)) else (some false)) else (if x3 ≥ 1 then (if x3 ≤ 12 then (if 4 ≤ (x0.size : Int) then ((larderref02_two.f (x0.extract 4 x0.size)).bind fun t113 => (some (decide (t113 ≤ 28)))) else (none)) else (some false)) else (some false)))) else (none)) else (none)) else (if x3 ≥ 1 then (if x3 ≤ 12 then (if 4 ≤ (x0.size : Int) then ((larderref02_two.f (x0.extract 4 x0.size)).bind fun t114 => (some (decide (t114 ≤ x4)))) else (none)) else (some false)) else (some false)))
def larderref02_isDay.f (k : Nat) (a0 : ByteArray) : Option (Bool) := if 2 ≤ 4 then (if 4 ≤ (a0.size : Int) then ((larderref02_two.f (a0.extract 2 4)).bind fun t109 => (if t109 = 4 then (larderref02_isDay.j0 k a0 t109 31 t109 (t109 == 4)) else (if t109 = 6 then (larderref02_isDay.j0 k a0 t109 31 t109 (t109 == 6)) else (if t109 = 9 then (larderref02_isDay.j0 k a0 t109 31 t109 (t109 == 9)) else (larderref02_isDay.j0 k a0 t109 31 t109 (t109 == 11)))))) else (none)) else (none)
theorem larderref02_isDay.mono_l : ∀ k, (∀ y0 y1 y2 y3 y4, LeO (larderref02_isDay.j0 k y0 y1 y2 y3 y4) (larderref02_isDay.j0 (k + 1) y0 y1 y2 y3 y4))
  | 0 => fun _ _ _ _ _ r h => by simp [larderref02_isDay.j0] at h
  | k + 1 => by
    have ih0 := larderref02_isDay.mono_l k
    · intro y0 y1 y2 y3 y4
      unfold larderref02_isDay.j0
      repeat' first
      | (with_reducible exact ih0 _ _ _ _ _)
      | (with_reducible exact LeO.refl _)
      | (with_reducible exact LeO.none _)
      | (with_reducible refine LeO.ite ?_ ?_)
      | (with_reducible refine LeO.bind ?_ (fun _ => ?_))
      | exact ih0 _ _ _ _ _
      | exact LeO.none _
      | refine LeO.ite ?_ ?_
      | refine LeO.bind ?_ (fun _ => ?_)
theorem larderref02_isDay.mono : ∀ a0 k, LeO (larderref02_isDay.f k a0) (larderref02_isDay.f (k + 1) a0) := by
  intro a0 k
  have ih0 := larderref02_isDay.mono_l k
  unfold larderref02_isDay.f
  repeat' first
      | (with_reducible exact ih0 _ _ _ _ _)
      | (with_reducible exact LeO.refl _)
      | (with_reducible exact LeO.none _)
      | (with_reducible refine LeO.ite ?_ ?_)
      | (with_reducible refine LeO.bind ?_ (fun _ => ?_))
      | exact ih0 _ _ _ _ _
      | exact LeO.none _
      | refine LeO.ite ?_ ?_
      | refine LeO.bind ?_ (fun _ => ?_)
set_option maxHeartbeats 8000000 in
set_option maxRecDepth 100000 in
theorem larderref02_isDay.calls (k : Nat) (a0 : ByteArray) (r : Bool) (w : World) (h : larderref02_isDay.f k a0 = some r) :
    Calls Tryd.prog 29 #[.string a0] w fun e w' => e = .returned (.bool r) ∧ Drawn0 w w' := by
  have H : (if 2 ≤ 4 then (if 4 ≤ (a0.size : Int) then ((larderref02_two.f (a0.extract 2 4)).bind fun t109 => (if t109 = 4 then (larderref02_isDay.j0 k a0 t109 31 t109 (t109 == 4)) else (if t109 = 6 then (larderref02_isDay.j0 k a0 t109 31 t109 (t109 == 6)) else (if t109 = 9 then (larderref02_isDay.j0 k a0 t109 31 t109 (t109 == 9)) else (larderref02_isDay.j0 k a0 t109 31 t109 (t109 == 11)))))) else (none)) else (none)) = some r := h
  clear h
  by_cases c2 : 2 ≤ 4
  · rw [if_pos c2] at H
    have c2b0 := eq_true c2
    have c2b1 : decide (2 ≤ 4) = true := decide_eq_true c2
    clear c2
    by_cases c3 : 4 ≤ (a0.size : Int)
    · rw [if_pos c3] at H
      have c3b0 := eq_true c3
      have c3b1 : decide (4 ≤ (a0.size : Int)) = true := decide_eq_true c3
      clear c3
      replace H := Option.bind_eq_some_iff.mp H
      obtain ⟨t109, A40, H⟩ := H
      replace H : (if t109 = 4 then (larderref02_isDay.j0 k a0 t109 31 t109 (t109 == 4)) else (if t109 = 6 then (larderref02_isDay.j0 k a0 t109 31 t109 (t109 == 6)) else (if t109 = 9 then (larderref02_isDay.j0 k a0 t109 31 t109 (t109 == 9)) else (larderref02_isDay.j0 k a0 t109 31 t109 (t109 == 11))))) = some r := H
      have A4 := Aside0.mk A40
      clear A40
      have HC5 := Aside0.mk H
      clear H
      go_enter Tryd.func29, Tryd.ntmps29
      go_upto_if 9 with (first | ((with_reducible refine gate_callee (f := 30) rfl ?_); refine goesL_ (some 7) rfl rfl Tryd.func30 (by kernel_rfl) rfl #[.string (a0.extract 2 4)] rfl (by (try simp only [List.map_toArray, List.map_cons, List.map_nil]); first | done | rfl | (simp only [List.length_drop, List.length_take]; rfl)) ?_; (with_reducible refine (larderref02_two.calls (a0.extract 2 4) t109 _ A4.out).mono ?_); rintro e w' ⟨rfl, ⟨nd, rfl⟩⟩; refine ⟨_, rfl, ?_⟩))
      (try simp only [Act.put, List.setIfInBounds_toArray, List.set_cons_zero, List.set_cons_succ])
      go_cut [9] (fun v9 wc => ∃ (kq : Nat) (x9_4 : Bool), v9 = .bool x9_4 ∧ Aside0 (larderref02_isDay.j0 kq a0 t109 31 t109 x9_4 = some r) ∧ Aside0 (kq ≤ k) ∧ Drawn0 w wc)
      case first =>
        have H := HC5.out
        clear HC5
        by_cases c6 : t109 = 4
        · rw [if_pos c6] at H
          have c6b0 : (t109 == 4) = true := beq_iff_eq.mpr c6
          have c6b1 : (t109 != 4) = false := bne_eq_false_iff_eq.mpr c6
          clear c6
          (first | rw [c6b0] | (simp only [i64_w, i32_w]; rw [c6b0]) | skip)
          have H' := Aside0.mk H
          clear H
          go_wp2
          go_meet
          case rel => exact ⟨_, ((t109 == 4)), (by first | rfl | (simp; done) | (simp [*]; done)), H', ⟨by first | omega | exact Nat.le_refl _⟩, by repeat (first | exact Drawn0.refl _ | apply Drawn0.step)⟩
        · rw [if_neg c6] at H
          have c6b0 : (t109 == 4) = false := beq_eq_false_iff_ne.mpr c6
          have c6b1 : (t109 != 4) = true := bne_iff_ne.mpr c6
          (first | rw [c6b0] | (simp only [i64_w, i32_w]; rw [c6b0]) | skip)
          by_cases c7 : t109 = 6
          · rw [if_pos c7] at H
            have c7b0 : (t109 == 6) = true := beq_iff_eq.mpr c7
            have c7b1 : (t109 != 6) = false := bne_eq_false_iff_eq.mpr c7
            clear c7
            have H' := Aside0.mk H
            clear H
            go_wp2
            go_meet
            case rel => exact ⟨_, ((t109 == 6)), (by first | rfl | (simp; done) | (simp [*]; done)), H', ⟨by first | omega | exact Nat.le_refl _⟩, by repeat (first | exact Drawn0.refl _ | apply Drawn0.step)⟩
          · rw [if_neg c7] at H
            have c7b0 : (t109 == 6) = false := beq_eq_false_iff_ne.mpr c7
            have c7b1 : (t109 != 6) = true := bne_iff_ne.mpr c7
            by_cases c8 : t109 = 9
            · rw [if_pos c8] at H
              have c8b0 : (t109 == 9) = true := beq_iff_eq.mpr c8
              have c8b1 : (t109 != 9) = false := bne_eq_false_iff_eq.mpr c8
              clear c8
              have H' := Aside0.mk H
              clear H
              go_wp2
              go_meet
              case rel => exact ⟨_, ((t109 == 9)), (by first | rfl | (simp; done) | (simp [*]; done)), H', ⟨by first | omega | exact Nat.le_refl _⟩, by repeat (first | exact Drawn0.refl _ | apply Drawn0.step)⟩
            · rw [if_neg c8] at H
              have c8b0 : (t109 == 9) = false := beq_eq_false_iff_ne.mpr c8
              have c8b1 : (t109 != 9) = true := bne_iff_ne.mpr c8
              have H' := Aside0.mk H
              clear H
              go_wp2
              go_meet
              case rel => exact ⟨_, ((t109 == 11)), (by first | rfl | (simp; done) | (simp [*]; done)), H', ⟨by first | omega | exact Nat.le_refl _⟩, by repeat (first | exact Drawn0.refl _ | apply Drawn0.step)⟩
      case rest =>
        clear HC5
        try clear c2
        try clear c2b0
        try clear c2b1
        try clear p2
        try clear c3
        try clear c3b0
        try clear c3b1
        try clear c6
        try clear c6b0
        try clear c6b1
        try clear c7
        try clear c7b0
        try clear c7b1
        try clear c8
        try clear c8b0
        try clear c8b1
        obtain ⟨kq, x9_4, rfl, HA, HJ4, ⟨mc4, rfl⟩⟩ := hcut
        cases kq with
        | zero => exact absurd HA.out (by simp [larderref02_isDay.j0])
        | succ kj4 =>
          have H := HA.out
          clear HA
          simp only [larderref02_isDay.j0] at H
          by_cases c9 : x9_4 = true
          · subst c9
            have H1 : (if t109 ≥ 1 then (if t109 ≤ 12 then (if 4 ≤ (a0.size : Int) then ((larderref02_two.f (a0.extract 4 a0.size)).bind fun t110 => (some (decide (t110 ≤ 30)))) else (none)) else (some false)) else (some false)) = some r := by rw [if_pos rfl] at H; exact H
            clear H
            have H := H1
            clear H1
            by_cases c10 : t109 ≥ 1
            · rw [if_pos c10] at H
              have c10b0 : decide (1 ≤ t109) = true := decide_eq_true c10
              clear c10
              by_cases c11 : t109 ≤ 12
              · rw [if_pos c11] at H
                have c11b0 : decide (t109 ≤ 12) = true := decide_eq_true c11
                clear c11
                by_cases c12 : 4 ≤ (a0.size : Int)
                · rw [if_pos c12] at H
                  have c12b0 := eq_true c12
                  have c12b1 : decide (4 ≤ (a0.size : Int)) = true := decide_eq_true c12
                  clear c12
                  replace H := Option.bind_eq_some_iff.mp H
                  obtain ⟨t110, A130, H⟩ := H
                  replace H : (some (decide (t110 ≤ 30))) = some r := H
                  have A13 := Aside0.mk A130
                  clear A130
                  obtain rfl := Option.some.inj H
                  go_wp2_with (first | (go_at_call 30; (with_reducible refine (larderref02_two.calls (a0.extract 4 a0.size) t110 _ A13.out).mono ?_); rintro e w' ⟨rfl, ⟨nd, rfl⟩⟩))
                  go_ret
                  exact ⟨by first | rfl | (simp; done) | (simp [*]; done), by repeat (first | exact Drawn0.refl _ | apply Drawn0.step)⟩
                · rw [if_neg c12] at H
                  exact absurd H (by simp)
              · rw [if_neg c11] at H
                have c11b0 : decide (t109 ≤ 12) = false := decide_eq_false c11
                clear c11
                obtain rfl := Option.some.inj H
                go_wp2
                go_ret
                exact ⟨by first | rfl | (simp; done) | (simp [*]; done), by repeat (first | exact Drawn0.refl _ | apply Drawn0.step)⟩
            · rw [if_neg c10] at H
              have c10b0 : decide (1 ≤ t109) = false := decide_eq_false c10
              clear c10
              obtain rfl := Option.some.inj H
              go_wp2
              go_ret
              exact ⟨by first | rfl | (simp; done) | (simp [*]; done), by repeat (first | exact Drawn0.refl _ | apply Drawn0.step)⟩
          · replace c9 := Bool.eq_false_iff.mpr c9
            subst c9
            have H1 : (if t109 = 2 then (if 0 ≤ 2 then (if 2 ≤ (a0.size : Int) then ((larderref02_two.f (a0.extract 0 2)).bind fun t111 => (if (Int.tmod t111 4) = 0 then (if t109 ≥ 1 then (if t109 ≤ 12 then (if 4 ≤ (a0.size : Int) then ((larderref02_two.f (a0.extract 4 a0.size)).bind fun t112 => (some (decide (t112 ≤ 29)))) else (none)) else (some false)) else (some false)) else (if t109 ≥ 1 then (if t109 ≤ 12 then (if 4 ≤ (a0.size : Int) then ((larderref02_two.f (a0.extract 4 a0.size)).bind fun t113 => (some (decide (t113 ≤ 28)))) else (none)) else (some false)) else (some false)))) else (none)) else (none)) else (if t109 ≥ 1 then (if t109 ≤ 12 then (if 4 ≤ (a0.size : Int) then ((larderref02_two.f (a0.extract 4 a0.size)).bind fun t114 => (some (decide (t114 ≤ 31)))) else (none)) else (some false)) else (some false))) = some r := by rw [if_neg (show ¬ (false = true) by decide)] at H; exact H
            clear H
            have H := H1
            clear H1
            by_cases c14 : t109 = 2
            · rw [if_pos c14] at H
              have c14b0 : (t109 == 2) = true := beq_iff_eq.mpr c14
              have c14b1 : (t109 != 2) = false := bne_eq_false_iff_eq.mpr c14
              clear c14
              by_cases c15 : 0 ≤ 2
              · rw [if_pos c15] at H
                have c15b0 := eq_true c15
                have c15b1 : decide (0 ≤ 2) = true := decide_eq_true c15
                clear c15
                by_cases c16 : 2 ≤ (a0.size : Int)
                · rw [if_pos c16] at H
                  have c16b0 := eq_true c16
                  have c16b1 : decide (2 ≤ (a0.size : Int)) = true := decide_eq_true c16
                  clear c16
                  replace H := Option.bind_eq_some_iff.mp H
                  obtain ⟨t111, A170, H⟩ := H
                  replace H : (if (Int.tmod t111 4) = 0 then (if t109 ≥ 1 then (if t109 ≤ 12 then (if 4 ≤ (a0.size : Int) then ((larderref02_two.f (a0.extract 4 a0.size)).bind fun t112 => (some (decide (t112 ≤ 29)))) else (none)) else (some false)) else (some false)) else (if t109 ≥ 1 then (if t109 ≤ 12 then (if 4 ≤ (a0.size : Int) then ((larderref02_two.f (a0.extract 4 a0.size)).bind fun t113 => (some (decide (t113 ≤ 28)))) else (none)) else (some false)) else (some false))) = some r := H
                  have A17 := Aside0.mk A170
                  clear A170
                  by_cases c18 : (Int.tmod t111 4) = 0
                  · rw [if_pos c18] at H
                    have c18b0 : ((Int.tmod t111 4) == 0) = true := beq_iff_eq.mpr c18
                    have c18b1 : ((Int.tmod t111 4) != 0) = false := bne_eq_false_iff_eq.mpr c18
                    clear c18
                    by_cases c19 : t109 ≥ 1
                    · rw [if_pos c19] at H
                      have c19b0 : decide (1 ≤ t109) = true := decide_eq_true c19
                      clear c19
                      by_cases c20 : t109 ≤ 12
                      · rw [if_pos c20] at H
                        have c20b0 : decide (t109 ≤ 12) = true := decide_eq_true c20
                        clear c20
                        by_cases c21 : 4 ≤ (a0.size : Int)
                        · rw [if_pos c21] at H
                          have c21b0 := eq_true c21
                          have c21b1 : decide (4 ≤ (a0.size : Int)) = true := decide_eq_true c21
                          clear c21
                          replace H := Option.bind_eq_some_iff.mp H
                          obtain ⟨t112, A220, H⟩ := H
                          replace H : (some (decide (t112 ≤ 29))) = some r := H
                          have A22 := Aside0.mk A220
                          clear A220
                          obtain rfl := Option.some.inj H
                          go_wp2_with (first | ((with_reducible refine gate_callee (f := 30) rfl ?_); refine goesL_ (some 18) rfl rfl Tryd.func30 (by kernel_rfl) rfl #[.string (a0.extract 0 2)] rfl (by (try simp only [List.map_toArray, List.map_cons, List.map_nil]); first | done | rfl | (simp only [List.length_drop, List.length_take]; rfl)) ?_; (with_reducible refine (larderref02_two.calls (a0.extract 0 2) t111 _ A17.out).mono ?_); rintro e w' ⟨rfl, ⟨nd, rfl⟩⟩; refine ⟨_, rfl, ?_⟩) | (go_at_call 30; (with_reducible refine (larderref02_two.calls (a0.extract 4 a0.size) t112 _ A22.out).mono ?_); rintro e w' ⟨rfl, ⟨nd, rfl⟩⟩))
                          go_ret
                          exact ⟨by first | rfl | (simp; done) | (simp [*]; done), by repeat (first | exact Drawn0.refl _ | apply Drawn0.step)⟩
                        · rw [if_neg c21] at H
                          exact absurd H (by simp)
                      · rw [if_neg c20] at H
                        have c20b0 : decide (t109 ≤ 12) = false := decide_eq_false c20
                        clear c20
                        obtain rfl := Option.some.inj H
                        go_wp2_with (first | ((with_reducible refine gate_callee (f := 30) rfl ?_); refine goesL_ (some 18) rfl rfl Tryd.func30 (by kernel_rfl) rfl #[.string (a0.extract 0 2)] rfl (by (try simp only [List.map_toArray, List.map_cons, List.map_nil]); first | done | rfl | (simp only [List.length_drop, List.length_take]; rfl)) ?_; (with_reducible refine (larderref02_two.calls (a0.extract 0 2) t111 _ A17.out).mono ?_); rintro e w' ⟨rfl, ⟨nd, rfl⟩⟩; refine ⟨_, rfl, ?_⟩))
                        go_ret
                        exact ⟨by first | rfl | (simp; done) | (simp [*]; done), by repeat (first | exact Drawn0.refl _ | apply Drawn0.step)⟩
                    · rw [if_neg c19] at H
                      have c19b0 : decide (1 ≤ t109) = false := decide_eq_false c19
                      clear c19
                      obtain rfl := Option.some.inj H
                      go_wp2_with (first | ((with_reducible refine gate_callee (f := 30) rfl ?_); refine goesL_ (some 18) rfl rfl Tryd.func30 (by kernel_rfl) rfl #[.string (a0.extract 0 2)] rfl (by (try simp only [List.map_toArray, List.map_cons, List.map_nil]); first | done | rfl | (simp only [List.length_drop, List.length_take]; rfl)) ?_; (with_reducible refine (larderref02_two.calls (a0.extract 0 2) t111 _ A17.out).mono ?_); rintro e w' ⟨rfl, ⟨nd, rfl⟩⟩; refine ⟨_, rfl, ?_⟩))
                      go_ret
                      exact ⟨by first | rfl | (simp; done) | (simp [*]; done), by repeat (first | exact Drawn0.refl _ | apply Drawn0.step)⟩
                  · rw [if_neg c18] at H
                    have c18b0 : ((Int.tmod t111 4) == 0) = false := beq_eq_false_iff_ne.mpr c18
                    have c18b1 : ((Int.tmod t111 4) != 0) = true := bne_iff_ne.mpr c18
                    by_cases c23 : t109 ≥ 1
                    · rw [if_pos c23] at H
                      have c23b0 : decide (1 ≤ t109) = true := decide_eq_true c23
                      clear c23
                      by_cases c24 : t109 ≤ 12
                      · rw [if_pos c24] at H
                        have c24b0 : decide (t109 ≤ 12) = true := decide_eq_true c24
                        clear c24
                        by_cases c25 : 4 ≤ (a0.size : Int)
                        · rw [if_pos c25] at H
                          have c25b0 := eq_true c25
                          have c25b1 : decide (4 ≤ (a0.size : Int)) = true := decide_eq_true c25
                          clear c25
                          replace H := Option.bind_eq_some_iff.mp H
                          obtain ⟨t113, A260, H⟩ := H
                          replace H : (some (decide (t113 ≤ 28))) = some r := H
                          have A26 := Aside0.mk A260
                          clear A260
                          obtain rfl := Option.some.inj H
                          go_wp2_with (first | ((with_reducible refine gate_callee (f := 30) rfl ?_); refine goesL_ (some 18) rfl rfl Tryd.func30 (by kernel_rfl) rfl #[.string (a0.extract 0 2)] rfl (by (try simp only [List.map_toArray, List.map_cons, List.map_nil]); first | done | rfl | (simp only [List.length_drop, List.length_take]; rfl)) ?_; (with_reducible refine (larderref02_two.calls (a0.extract 0 2) t111 _ A17.out).mono ?_); rintro e w' ⟨rfl, ⟨nd, rfl⟩⟩; refine ⟨_, rfl, ?_⟩) | (go_at_call 30; (with_reducible refine (larderref02_two.calls (a0.extract 4 a0.size) t113 _ A26.out).mono ?_); rintro e w' ⟨rfl, ⟨nd, rfl⟩⟩))
                          go_ret
                          exact ⟨by first | rfl | (simp; done) | (simp [*]; done), by repeat (first | exact Drawn0.refl _ | apply Drawn0.step)⟩
                        · rw [if_neg c25] at H
                          exact absurd H (by simp)
                      · rw [if_neg c24] at H
                        have c24b0 : decide (t109 ≤ 12) = false := decide_eq_false c24
                        clear c24
                        obtain rfl := Option.some.inj H
                        go_wp2_with (first | ((with_reducible refine gate_callee (f := 30) rfl ?_); refine goesL_ (some 18) rfl rfl Tryd.func30 (by kernel_rfl) rfl #[.string (a0.extract 0 2)] rfl (by (try simp only [List.map_toArray, List.map_cons, List.map_nil]); first | done | rfl | (simp only [List.length_drop, List.length_take]; rfl)) ?_; (with_reducible refine (larderref02_two.calls (a0.extract 0 2) t111 _ A17.out).mono ?_); rintro e w' ⟨rfl, ⟨nd, rfl⟩⟩; refine ⟨_, rfl, ?_⟩))
                        go_ret
                        exact ⟨by first | rfl | (simp; done) | (simp [*]; done), by repeat (first | exact Drawn0.refl _ | apply Drawn0.step)⟩
                    · rw [if_neg c23] at H
                      have c23b0 : decide (1 ≤ t109) = false := decide_eq_false c23
                      clear c23
                      obtain rfl := Option.some.inj H
                      go_wp2_with (first | ((with_reducible refine gate_callee (f := 30) rfl ?_); refine goesL_ (some 18) rfl rfl Tryd.func30 (by kernel_rfl) rfl #[.string (a0.extract 0 2)] rfl (by (try simp only [List.map_toArray, List.map_cons, List.map_nil]); first | done | rfl | (simp only [List.length_drop, List.length_take]; rfl)) ?_; (with_reducible refine (larderref02_two.calls (a0.extract 0 2) t111 _ A17.out).mono ?_); rintro e w' ⟨rfl, ⟨nd, rfl⟩⟩; refine ⟨_, rfl, ?_⟩))
                      go_ret
                      exact ⟨by first | rfl | (simp; done) | (simp [*]; done), by repeat (first | exact Drawn0.refl _ | apply Drawn0.step)⟩
                · rw [if_neg c16] at H
                  exact absurd H (by simp)
              · rw [if_neg c15] at H
                exact absurd H (by simp)
            · rw [if_neg c14] at H
              have c14b0 : (t109 == 2) = false := beq_eq_false_iff_ne.mpr c14
              have c14b1 : (t109 != 2) = true := bne_iff_ne.mpr c14
              by_cases c27 : t109 ≥ 1
              · rw [if_pos c27] at H
                have c27b0 : decide (1 ≤ t109) = true := decide_eq_true c27
                clear c27
                by_cases c28 : t109 ≤ 12
                · rw [if_pos c28] at H
                  have c28b0 : decide (t109 ≤ 12) = true := decide_eq_true c28
                  clear c28
                  by_cases c29 : 4 ≤ (a0.size : Int)
                  · rw [if_pos c29] at H
                    have c29b0 := eq_true c29
                    have c29b1 : decide (4 ≤ (a0.size : Int)) = true := decide_eq_true c29
                    clear c29
                    replace H := Option.bind_eq_some_iff.mp H
                    obtain ⟨t114, A300, H⟩ := H
                    replace H : (some (decide (t114 ≤ 31))) = some r := H
                    have A30 := Aside0.mk A300
                    clear A300
                    obtain rfl := Option.some.inj H
                    go_wp2_with (first | (go_at_call 30; (with_reducible refine (larderref02_two.calls (a0.extract 4 a0.size) t114 _ A30.out).mono ?_); rintro e w' ⟨rfl, ⟨nd, rfl⟩⟩))
                    go_ret
                    exact ⟨by first | rfl | (simp; done) | (simp [*]; done), by repeat (first | exact Drawn0.refl _ | apply Drawn0.step)⟩
                  · rw [if_neg c29] at H
                    exact absurd H (by simp)
                · rw [if_neg c28] at H
                  have c28b0 : decide (t109 ≤ 12) = false := decide_eq_false c28
                  clear c28
                  obtain rfl := Option.some.inj H
                  go_wp2
                  go_ret
                  exact ⟨by first | rfl | (simp; done) | (simp [*]; done), by repeat (first | exact Drawn0.refl _ | apply Drawn0.step)⟩
              · rw [if_neg c27] at H
                have c27b0 : decide (1 ≤ t109) = false := decide_eq_false c27
                clear c27
                obtain rfl := Option.some.inj H
                go_wp2
                go_ret
                exact ⟨by first | rfl | (simp; done) | (simp [*]; done), by repeat (first | exact Drawn0.refl _ | apply Drawn0.step)⟩
    · rw [if_neg c3] at H
      exact absurd H (by simp)
  · rw [if_neg c2] at H
    exact absurd H (by simp)

end Go.Proofs.YtofagdjijpjlgaaDoor.PBase
