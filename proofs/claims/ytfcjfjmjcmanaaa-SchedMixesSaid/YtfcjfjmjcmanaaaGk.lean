/- The document's Steps, choose, Count: the printed functions tell what the program's do. Plain. (On the light base.) -/
import Derived.Test.YtfcjfjmjcmanaaaProg
import Derived.Below
import Derived.Deep.Draws
import Derived.Deep.AppendLies
import Derived.Maps.AppendAt
import Derived.OwnWalk
import Derived.Laws.BytesArg
import Derived.Laws.MakeOwn
import Derived.Laws.OwnMore
import Derived.Deep.OwnRows
import Derived.Tactics
import Derived.Lib.ConvBytes
import Derived.Laws.Slices
import Derived.WalkKit
import Derived.KernelRfl
import Derived.RowKit3
import Derived.Deep.LoopGhost
import Derived.Deep.QuietTactic
import Derived.BigQuiet
import Derived.WideLaws
import Derived.Deep.DeepCutAuto
import Derived.Deep.CutBlock
import Derived.Deep.RegionHeld3
import Derived.Laws.Rows
import Derived.Lib.AppendStr
import Derived.ArgAppend
import Derived.Laws.IdiomCopy
import Derived.OrdersHeld
import Derived.Laws.BitsLemmas
import Derived.RowKit
import Derived.Test.YtfcjfjmjcmanaaaWWords
import Derived.Test.YtfcjfjmjcmanaaaWLast
import Derived.Test.YtfcjfjmjcmanaaaWTab
import Derived.Test.YtfcjfjmjcmanaaaWFour
import Derived.Test.YtfcjfjmjcmanaaaWQPut
import Derived.Test.YtfcjfjmjcmanaaaWApart
import Derived.Test.YtfcjfjmjcmanaaaWArr
import Derived.Test.YtfcjfjmjcmanaaaWZeros
import Derived.Test.YtfcjfjmjcmanaaaWFoot
import Derived.Test.YtfcjfjmjcmanaaaWKept
import Derived.Test.YtfcjfjmjcmanaaaWShare
import Derived.Test.YtfcjfjmjcmanaaaWN
import Derived.Test.YtfcjfjmjcmanaaaWFootNe
import Derived.Test.YtfcjfjmjcmanaaaWAt
import Derived.Test.YtfcjfjmjcmanaaaWEqStruct
import Derived.Test.YtfcjfjmjcmanaaaWRepsOne
import Derived.Test.YtfcjfjmjcmanaaaWInv
import Derived.Test.YtfcjfjmjcmanaaaWInvWords
import Derived.Test.YtfcjfjmjcmanaaaWGuard
import Derived.Test.YtfcjfjmjcmanaaaWNEv
import Derived.Test.YtfcjfjmjcmanaaaWMore
import Derived.Test.YtfcjfjmjcmanaaaGm
-- written by xprint.py (a program of this work's own, over the kit's printer) out of the translation
namespace Go.Proofs.Ytfcjfjmjcmanaaa.PCnts
open Go.RowKit Go.Proofs.YtfcjfjmjcmanaaaW.PrintWords Go.Proofs.YtfcjfjmjcmanaaaW.PrintLast Go.Proofs.YtfcjfjmjcmanaaaW.PrintMore
attribute [local go_sem] max2_int min2_int max_two min_two max_three min_three max_four min_four   -- for this text's walks alone
set_option linter.unusedVariables false
set_option linter.unusedSimpArgs false



def errW : Option Int → Value
  | none => .nilIface
  | some c => .iface 0 (.int .i64 c)
theorem errW_none : errW none = .nilIface := rfl
theorem errW_some (c : Int) : errW (some c) = .iface 0 (.int .i64 c) := rfl

-- the values' own types

end Go.Proofs.Ytfcjfjmjcmanaaa.PCnts
-- written by xprint.py (a program of this work's own, over the kit's printer) out of the translation
namespace Go.Proofs.Ytfcjfjmjcmanaaa.PCnts
open Go.RowKit Go.Proofs.YtfcjfjmjcmanaaaW.PrintWords Go.Proofs.YtfcjfjmjcmanaaaW.PrintLast Go.Proofs.YtfcjfjmjcmanaaaW.PrintMore
attribute [local go_sem] max2_int min2_int max_two min_two max_three min_three max_four min_four   -- for this text's walks alone
set_option linter.unusedVariables false
set_option linter.unusedSimpArgs false

/-! ### larderref07_Steps: function 112 -/
mutual
def larderref07_Steps.j0 : Nat → List Int → Bool → Option (Int × Bool)
  | 0, _, _ => none
  | k + 1, x0, x13 => if x13 = true then (some (0, false)) else (larderref07_Steps.l0 k x0 0 0)
def larderref07_Steps.l0 : Nat → List Int → Int → Int → Option (Int × Bool)
  | 0, _, _, _ => none
  | k + 1, x0, x4, x5 => if x5 < (x0.length : Int) then (if 0 ≤ x5 then (if (rd x0 x5) < 0 then (some (0, false)) else (if (rd x0 x5) > 24 then (some (0, false)) else (larderref07_Steps.l0 k x0 (wrap64 (x4 + (rd x0 x5))) (wrap64 (x5 + 1))))) else (none)) else (some (x4, decide (x4 ≤ 24)))
end
def larderref07_Steps.f (k : Nat) (l0 : List Int) : Option (Int × Bool) := if (l0.length : Int) < 1 then (larderref07_Steps.j0 k l0 true) else (larderref07_Steps.j0 k l0 (decide ((l0.length : Int) > 16)))
theorem larderref07_Steps.mono_l : ∀ k, (∀ y0 y1, LeO (larderref07_Steps.j0 k y0 y1) (larderref07_Steps.j0 (k + 1) y0 y1)) ∧ (∀ y0 y1 y2, LeO (larderref07_Steps.l0 k y0 y1 y2) (larderref07_Steps.l0 (k + 1) y0 y1 y2))
  | 0 => ⟨fun _ _ r h => by simp [larderref07_Steps.j0] at h, fun _ _ _ r h => by simp [larderref07_Steps.l0] at h⟩
  | k + 1 => by
    obtain ⟨ih0, ih1⟩ := larderref07_Steps.mono_l k
    refine ⟨?_, ?_⟩
    · intro y0 y1
      unfold larderref07_Steps.j0
      repeat' first
      | (with_reducible exact ih0 _ _)
      | (with_reducible exact ih1 _ _ _)
      | (with_reducible exact LeO.refl _)
      | (with_reducible exact LeO.none _)
      | (with_reducible refine LeO.ite ?_ ?_)
      | (with_reducible refine LeO.bind ?_ (fun _ => ?_))
      | exact ih0 _ _
      | exact ih1 _ _ _
      | exact LeO.none _
      | refine LeO.ite ?_ ?_
      | refine LeO.bind ?_ (fun _ => ?_)
    · intro y0 y1 y2
      unfold larderref07_Steps.l0
      repeat' first
      | (with_reducible exact ih0 _ _)
      | (with_reducible exact ih1 _ _ _)
      | (with_reducible exact LeO.refl _)
      | (with_reducible exact LeO.none _)
      | (with_reducible refine LeO.ite ?_ ?_)
      | (with_reducible refine LeO.bind ?_ (fun _ => ?_))
      | exact ih0 _ _
      | exact ih1 _ _ _
      | exact LeO.none _
      | refine LeO.ite ?_ ?_
      | refine LeO.bind ?_ (fun _ => ?_)
theorem larderref07_Steps.mono : ∀ a0 k, LeO (larderref07_Steps.f k a0) (larderref07_Steps.f (k + 1) a0) := by
  intro a0 k
  obtain ⟨ih0, ih1⟩ := larderref07_Steps.mono_l k
  unfold larderref07_Steps.f
  repeat' first
      | (with_reducible exact ih0 _ _)
      | (with_reducible exact ih1 _ _ _)
      | (with_reducible exact LeO.refl _)
      | (with_reducible exact LeO.none _)
      | (with_reducible refine LeO.ite ?_ ?_)
      | (with_reducible refine LeO.bind ?_ (fun _ => ?_))
      | exact ih0 _ _
      | exact ih1 _ _ _
      | exact LeO.none _
      | refine LeO.ite ?_ ?_
      | refine LeO.bind ?_ (fun _ => ?_)
set_option maxHeartbeats 8000000 in
set_option maxRecDepth 100000 in
theorem larderref07_Steps.calls (k : Nat) (A0 : Option Addr) (c0 : Nat) (l0 : List Int) (r1 : Int) (r2 : Bool) (w : World) (hr0 : Kd.C (Kd.int .i64) w A0 l0.length l0) (hc0 : l0.length ≤ c0) (h : larderref07_Steps.f k l0 = some (r1, r2)) :
    Calls Try.prog 112 #[.slice A0 l0.length c0] w fun e w' => e = .returned (.tuple #[.int .i64 r1, .bool r2]) ∧ Drawn0 w w' := by
  have HR0 := Aside0.mk hr0
  have HC0 := Aside0.mk hc0
  clear hr0 hc0
  have H : (if (l0.length : Int) < 1 then (larderref07_Steps.j0 k l0 true) else (larderref07_Steps.j0 k l0 (decide ((l0.length : Int) > 16)))) = some (r1, r2) := h
  clear h
  have HC2 := Aside0.mk H
  clear H
  go_enter Try.func112, Try.ntmps112
  go_upto_region 1 with (fail)
  go_cut [13] (fun v13 wc => ∃ (kq : Nat) (x13_1 : Bool), v13 = .bool x13_1 ∧ Aside0 (larderref07_Steps.j0 kq l0 x13_1 = some (r1, r2)) ∧ Aside0 (kq ≤ k) ∧ Drawn0 w wc)
  case first =>
    have H := HC2.out
    clear HC2
    by_cases c3 : (l0.length : Int) < 1
    · rw [if_pos c3] at H
      have c3b0 : decide ((l0.length : Int) < 1) = true := decide_eq_true c3
      have c3b1 : decide (l0.length < 1) = true := decide_eq_true (by omega)
      clear c3
      (first | rw [c3b0] | (simp only [i64_w, i32_w]; rw [c3b0]) | skip)
      have H' := Aside0.mk H
      clear H
      go_wp2
      go_meet
      case rel => exact ⟨_, (true), (by first | rfl | (simp; done) | (simp [*]; done)), H', ⟨by first | omega | exact Nat.le_refl _⟩, by repeat (first | exact Drawn0.refl _ | apply Drawn0.step)⟩
    · rw [if_neg c3] at H
      have c3b0 : decide ((l0.length : Int) < 1) = false := decide_eq_false c3
      have c3b1 : decide (l0.length < 1) = false := decide_eq_false (by omega)
      clear c3
      (first | rw [c3b0] | (simp only [i64_w, i32_w]; rw [c3b0]) | skip)
      have H' := Aside0.mk H
      clear H
      go_wp2
      go_meet
      case rel => exact ⟨_, (decide ((l0.length : Int) > 16)), (by first | rfl | (simp; done) | (simp [*]; done)), H', ⟨by first | omega | exact Nat.le_refl _⟩, by repeat (first | exact Drawn0.refl _ | apply Drawn0.step)⟩
  case rest =>
    clear HC2
    try clear c1
    try clear p2
    try clear c3
    try clear c3b0
    try clear c3b1
    obtain ⟨kq, x13_1, rfl, HA, HJ1, ⟨mc1, rfl⟩⟩ := hcut
    cases kq with
    | zero => exact absurd HA.out (by simp [larderref07_Steps.j0])
    | succ kj1 =>
      have H := HA.out
      clear HA
      simp only [larderref07_Steps.j0] at H
      by_cases c4 : x13_1 = true
      · subst c4
        have H1 : (some (0, false)) = some (r1, r2) := by rw [if_pos rfl] at H; exact H
        clear H
        have H := H1
        clear H1
        simp only [Option.some.injEq, Prod.mk.injEq] at H
        obtain ⟨rfl, rfl⟩ := H
        go_wp2
        go_ret2
        exact ⟨by first | rfl | (simp; done) | (simp [*]; done), by repeat (first | exact Drawn0.refl _ | apply Drawn0.step)⟩
      · replace c4 := Bool.eq_false_iff.mpr c4
        subst c4
        have H1 : (larderref07_Steps.l0 kj1 l0 0 0) = some (r1, r2) := by rw [if_neg (show ¬ (false = true) by decide)] at H; exact H
        clear H
        have H := H1
        clear H1
        have H' := Aside0.mk H
        clear H
        go_wp2
        go_loopg [4, 5] kj1 (fun kq v4 v5 w' => ∃ (x4_2 : Int) (x5_2 : Int), v4 = .int .i64 x4_2 ∧ v5 = .int .i64 x5_2 ∧ Aside0 (larderref07_Steps.l0 kq l0 x4_2 x5_2 = some (r1, r2)) ∧ Aside0 (kq ≤ kj1) ∧ Drawn0 w w')
        case atStart => exact ⟨(0), (0), (by first | rfl | (simp; done) | (simp [*]; done)), (by first | rfl | (simp; done) | (simp [*]; done)), H', ⟨Nat.le_refl _⟩, by repeat (first | exact Drawn0.refl _ | apply Drawn0.step)⟩
        case round =>
          clear H'
          try clear c1
          try clear p2
          try clear c3
          try clear c3b0
          try clear c3b1
          try clear c4
          try clear p2
          obtain ⟨x4_2, x5_2, rfl, rfl, HA, HK2, ⟨m2, rfl⟩⟩ := hrel
          cases gk with
          | zero => exact absurd HA.out (by simp [larderref07_Steps.l0])
          | succ k2 =>
            have H := HA.out
            clear HA
            simp only [larderref07_Steps.l0] at H
            by_cases c5 : x5_2 < (l0.length : Int)
            · rw [if_pos c5] at H
              have c5b0 : decide (x5_2 < (l0.length : Int)) = true := decide_eq_true c5
              clear c5
              by_cases c6 : 0 ≤ x5_2
              · rw [if_pos c6] at H
                have c6b0 : decide (0 ≤ x5_2) = true := decide_eq_true c6
                clear c6
                by_cases c7 : (rd l0 x5_2) < 0
                · rw [if_pos c7] at H
                  have c7b0 : decide ((rd l0 x5_2) < 0) = true := decide_eq_true c7
                  clear c7
                  simp only [Option.some.injEq, Prod.mk.injEq] at H
                  obtain ⟨rfl, rfl⟩ := H
                  have p101 : 0 ≤ (x5_2 : Int) := of_decide_eq_true (by first | (with_reducible assumption) | assumption)
                  have q101 : x5_2 < (l0.length : Int) := of_decide_eq_true (by first | (with_reducible assumption) | assumption)
                  obtain ⟨ad101, e101, hx101_0⟩ := Kd.at_int HR0.out x5_2 p101 q101
                  cases e101
                  replace p101 := eq_true p101
                  replace q101 := eq_true q101
                  go_wp2
                  go_ret2
                  exact ⟨by first | rfl | (simp; done) | (simp [*]; done), by repeat (first | exact Drawn0.refl _ | apply Drawn0.step)⟩
                · rw [if_neg c7] at H
                  have c7b0 : decide ((rd l0 x5_2) < 0) = false := decide_eq_false c7
                  clear c7
                  by_cases c8 : (rd l0 x5_2) > 24
                  · rw [if_pos c8] at H
                    have c8b0 : decide (24 < (rd l0 x5_2)) = true := decide_eq_true c8
                    clear c8
                    simp only [Option.some.injEq, Prod.mk.injEq] at H
                    obtain ⟨rfl, rfl⟩ := H
                    have p101 : 0 ≤ (x5_2 : Int) := of_decide_eq_true (by first | (with_reducible assumption) | assumption)
                    have q101 : x5_2 < (l0.length : Int) := of_decide_eq_true (by first | (with_reducible assumption) | assumption)
                    obtain ⟨ad101, e101, hx101_0⟩ := Kd.at_int HR0.out x5_2 p101 q101
                    cases e101
                    replace p101 := eq_true p101
                    replace q101 := eq_true q101
                    have p102 : 0 ≤ (x5_2 : Int) := of_decide_eq_true (by first | (with_reducible assumption) | assumption)
                    have q102 : x5_2 < (l0.length : Int) := of_decide_eq_true (by first | (with_reducible assumption) | assumption)
                    obtain ⟨ad102, e102, hx102_0⟩ := Kd.at_int HR0.out x5_2 p102 q102
                    obtain rfl : ad101 = ad102 := (by injection e102)
                    replace p102 := eq_true p102
                    replace q102 := eq_true q102
                    go_wp2
                    go_ret2
                    exact ⟨by first | rfl | (simp; done) | (simp [*]; done), by repeat (first | exact Drawn0.refl _ | apply Drawn0.step)⟩
                  · rw [if_neg c8] at H
                    have c8b0 : decide (24 < (rd l0 x5_2)) = false := decide_eq_false c8
                    clear c8
                    have H' := Aside0.mk H
                    clear H
                    have p101 : 0 ≤ (x5_2 : Int) := of_decide_eq_true (by first | (with_reducible assumption) | assumption)
                    have q101 : x5_2 < (l0.length : Int) := of_decide_eq_true (by first | (with_reducible assumption) | assumption)
                    obtain ⟨ad101, e101, hx101_0⟩ := Kd.at_int HR0.out x5_2 p101 q101
                    cases e101
                    replace p101 := eq_true p101
                    replace q101 := eq_true q101
                    have p102 : 0 ≤ (x5_2 : Int) := of_decide_eq_true (by first | (with_reducible assumption) | assumption)
                    have q102 : x5_2 < (l0.length : Int) := of_decide_eq_true (by first | (with_reducible assumption) | assumption)
                    obtain ⟨ad102, e102, hx102_0⟩ := Kd.at_int HR0.out x5_2 p102 q102
                    obtain rfl : ad101 = ad102 := (by injection e102)
                    replace p102 := eq_true p102
                    replace q102 := eq_true q102
                    have p103 : 0 ≤ (x5_2 : Int) := of_decide_eq_true (by first | (with_reducible assumption) | assumption)
                    have q103 : x5_2 < (l0.length : Int) := of_decide_eq_true (by first | (with_reducible assumption) | assumption)
                    obtain ⟨ad103, e103, hx103_0⟩ := Kd.at_int HR0.out x5_2 p103 q103
                    obtain rfl : ad101 = ad103 := (by injection e103)
                    replace p103 := eq_true p103
                    replace q103 := eq_true q103
                    go_wp2
                    go_roundg k2
                    case measure => have := HJ1.out; have := HK2.out; omega
                    case rel => exact ⟨(wrap64 (x4_2 + (rd l0 x5_2))), (wrap64 (x5_2 + 1)), (by first | rfl | (simp; done) | (simp [*]; done)), (by first | rfl | (simp; done) | (simp [*]; done)), H', ⟨by have := HJ1.out; have := HK2.out; omega⟩, by repeat (first | exact Drawn0.refl _ | apply Drawn0.step)⟩
              · rw [if_neg c6] at H
                exact absurd H (by simp)
            · rw [if_neg c5] at H
              have c5b0 : decide (x5_2 < (l0.length : Int)) = false := decide_eq_false c5
              clear c5
              simp only [Option.some.injEq, Prod.mk.injEq] at H
              obtain ⟨rfl, rfl⟩ := H
              go_wp2
              go_ret2
              exact ⟨by first | rfl | (simp; done) | (simp [*]; done), by repeat (first | exact Drawn0.refl _ | apply Drawn0.step)⟩

/-! ### larderref07_choose: function 113 -/
def larderref07_choose.l0 : Nat → Int → Int → Int → Int → Option (Int)
  | 0, _, _, _, _ => none
  | k + 1, x0, x1, x5, x6 => if x6 < x1 then (if (wrap64 (x6 + 1)) = 0 then (none) else (larderref07_choose.l0 k x0 x1 (wrap64 (Int.tdiv (wrap64 (x5 * (wrap64 (x0 - x6)))) (wrap64 (x6 + 1)))) (wrap64 (x6 + 1)))) else (some x5)
def larderref07_choose.f (k : Nat) (a0 : Int) (a1 : Int) : Option (Int) := larderref07_choose.l0 k a0 a1 1 0
theorem larderref07_choose.mono_l : ∀ k, (∀ y0 y1 y2 y3, LeO (larderref07_choose.l0 k y0 y1 y2 y3) (larderref07_choose.l0 (k + 1) y0 y1 y2 y3))
  | 0 => fun _ _ _ _ r h => by simp [larderref07_choose.l0] at h
  | k + 1 => by
    have ih0 := larderref07_choose.mono_l k
    · intro y0 y1 y2 y3
      unfold larderref07_choose.l0
      repeat' first
      | (with_reducible exact ih0 _ _ _ _)
      | (with_reducible exact LeO.refl _)
      | (with_reducible exact LeO.none _)
      | (with_reducible refine LeO.ite ?_ ?_)
      | (with_reducible refine LeO.bind ?_ (fun _ => ?_))
      | exact ih0 _ _ _ _
      | exact LeO.none _
      | refine LeO.ite ?_ ?_
      | refine LeO.bind ?_ (fun _ => ?_)
theorem larderref07_choose.mono : ∀ a0 a1 k, LeO (larderref07_choose.f k a0 a1) (larderref07_choose.f (k + 1) a0 a1) := by
  intro a0 a1 k
  have ih0 := larderref07_choose.mono_l k
  unfold larderref07_choose.f
  repeat' first
      | (with_reducible exact ih0 _ _ _ _)
      | (with_reducible exact LeO.refl _)
      | (with_reducible exact LeO.none _)
      | (with_reducible refine LeO.ite ?_ ?_)
      | (with_reducible refine LeO.bind ?_ (fun _ => ?_))
      | exact ih0 _ _ _ _
      | exact LeO.none _
      | refine LeO.ite ?_ ?_
      | refine LeO.bind ?_ (fun _ => ?_)
set_option maxHeartbeats 8000000 in
set_option maxRecDepth 100000 in
theorem larderref07_choose.calls (k : Nat) (a0 : Int) (a1 : Int) (r : Int) (w : World) (h : larderref07_choose.f k a0 a1 = some r) :
    Calls Try.prog 113 #[.int .i64 a0, .int .i64 a1] w fun e w' => e = .returned (.int .i64 r) ∧ Drawn0 w w' := by
  have H : (larderref07_choose.l0 k a0 a1 1 0) = some r := h
  clear h
  have H' := Aside0.mk H
  clear H
  go_enter Try.func113, Try.ntmps113
  go_wp2
  go_loopg [5, 6] k (fun kq v5 v6 w' => ∃ (x5_1 : Int) (x6_1 : Int), v5 = .int .i64 x5_1 ∧ v6 = .int .i64 x6_1 ∧ Aside0 (larderref07_choose.l0 kq a0 a1 x5_1 x6_1 = some r) ∧ Aside0 (kq ≤ k) ∧ Drawn0 w w')
  case atStart => exact ⟨(1), (0), (by first | rfl | (simp; done) | (simp [*]; done)), (by first | rfl | (simp; done) | (simp [*]; done)), H', ⟨Nat.le_refl _⟩, by repeat (first | exact Drawn0.refl _ | apply Drawn0.step)⟩
  case round =>
    clear H'
    try clear c1
    try clear p2
    obtain ⟨x5_1, x6_1, rfl, rfl, HA, HK1, ⟨m1, rfl⟩⟩ := hrel
    cases gk with
    | zero => exact absurd HA.out (by simp [larderref07_choose.l0])
    | succ k1 =>
      have H := HA.out
      clear HA
      simp only [larderref07_choose.l0] at H
      by_cases c3 : x6_1 < a1
      · rw [if_pos c3] at H
        have c3b0 : decide (x6_1 < a1) = true := decide_eq_true c3
        clear c3
        by_cases c4 : (wrap64 (x6_1 + 1)) = 0
        · rw [if_pos c4] at H
          exact absurd H (by simp)
        · rw [if_neg c4] at H
          have c4b0 : ((wrap64 (x6_1 + 1)) == 0) = false := beq_eq_false_iff_ne.mpr c4
          have c4b1 : ((wrap64 (x6_1 + 1)) != 0) = true := bne_iff_ne.mpr c4
          have H' := Aside0.mk H
          clear H
          go_wp2
          go_roundg k1
          case measure => have := HK1.out; omega
          case rel => exact ⟨(wrap64 (Int.tdiv (wrap64 (x5_1 * (wrap64 (a0 - x6_1)))) (wrap64 (x6_1 + 1)))), (wrap64 (x6_1 + 1)), (by first | rfl | (simp; done) | (simp [*]; done)), (by first | rfl | (simp; done) | (simp [*]; done)), H', ⟨by have := HK1.out; omega⟩, by repeat (first | exact Drawn0.refl _ | apply Drawn0.step)⟩
      · rw [if_neg c3] at H
        have c3b0 : decide (x6_1 < a1) = false := decide_eq_false c3
        clear c3
        obtain rfl := Option.some.inj H
        go_wp2
        go_ret
        exact ⟨by first | rfl | (simp; done) | (simp [*]; done), by repeat (first | exact Drawn0.refl _ | apply Drawn0.step)⟩

/-! ### larderref07_Count: function 58 -/
def larderref07_Count.l0 : Nat → List Int → Int → Int → Int → Option (Int × Int)
  | 0, _, _, _, _ => none
  | k + 1, x0, x4, x6, x7 => if x7 < (x0.length : Int) then (if 0 ≤ x7 then ((larderref07_choose.f k x4 (rd x0 x7)).bind fun t107 => (if t107 = 0 then (none) else (if x6 > (wrap64 ((4611686018427387904 : Int) / t107)) then (some (0, 26)) else (larderref07_Count.l0 k x0 (wrap64 (x4 - (rd x0 x7))) (wrap64 (x6 * t107)) (wrap64 (x7 + 1)))))) else (none)) else (some (x6, 0))
def larderref07_Count.f (k : Nat) (l0 : List Int) : Option (Int × Int) := (larderref07_Steps.f k l0).bind fun bt104 => (if bt104.2 = true then (larderref07_Count.l0 k l0 bt104.1 1 0) else (some (0, 2)))
theorem larderref07_Count.mono_l : ∀ k, (∀ y0 y1 y2 y3, LeO (larderref07_Count.l0 k y0 y1 y2 y3) (larderref07_Count.l0 (k + 1) y0 y1 y2 y3))
  | 0 => fun _ _ _ _ r h => by simp [larderref07_Count.l0] at h
  | k + 1 => by
    have ih0 := larderref07_Count.mono_l k
    · intro y0 y1 y2 y3
      unfold larderref07_Count.l0
      repeat' first
      | (with_reducible exact ih0 _ _ _ _)
      | (with_reducible exact larderref07_Steps.mono _ _)
      | (with_reducible exact larderref07_choose.mono _ _ _)
      | (with_reducible exact LeO.refl _)
      | (with_reducible exact LeO.none _)
      | (with_reducible refine LeO.ite ?_ ?_)
      | (with_reducible refine LeO.bind ?_ (fun _ => ?_))
      | exact ih0 _ _ _ _
      | exact larderref07_Steps.mono _ _
      | exact larderref07_choose.mono _ _ _
      | exact LeO.none _
      | refine LeO.ite ?_ ?_
      | refine LeO.bind ?_ (fun _ => ?_)
theorem larderref07_Count.mono : ∀ a0 k, LeO (larderref07_Count.f k a0) (larderref07_Count.f (k + 1) a0) := by
  intro a0 k
  have ih0 := larderref07_Count.mono_l k
  unfold larderref07_Count.f
  repeat' first
      | (with_reducible exact ih0 _ _ _ _)
      | (with_reducible exact larderref07_Steps.mono _ _)
      | (with_reducible exact larderref07_choose.mono _ _ _)
      | (with_reducible exact LeO.refl _)
      | (with_reducible exact LeO.none _)
      | (with_reducible refine LeO.ite ?_ ?_)
      | (with_reducible refine LeO.bind ?_ (fun _ => ?_))
      | exact ih0 _ _ _ _
      | exact larderref07_Steps.mono _ _
      | exact larderref07_choose.mono _ _ _
      | exact LeO.none _
      | refine LeO.ite ?_ ?_
      | refine LeO.bind ?_ (fun _ => ?_)
set_option maxHeartbeats 8000000 in
set_option maxRecDepth 100000 in
theorem larderref07_Count.calls (k : Nat) (A0 : Option Addr) (c0 : Nat) (l0 : List Int) (r1 : Int) (r2 : Int) (w : World) (hr0 : Kd.C (Kd.int .i64) w A0 l0.length l0) (hc0 : l0.length ≤ c0) (h : larderref07_Count.f k l0 = some (r1, r2)) :
    Calls Try.prog 58 #[.slice A0 l0.length c0] w fun e w' => e = .returned (.tuple #[.int .i64 r1, .int .i64 r2]) ∧ Drawn0 w w' := by
  have HR0 := Aside0.mk hr0
  have HC0 := Aside0.mk hc0
  clear hr0 hc0
  have H : ((larderref07_Steps.f k l0).bind fun bt104 => (if bt104.2 = true then (larderref07_Count.l0 k l0 bt104.1 1 0) else (some (0, 2)))) = some (r1, r2) := h
  clear h
  replace H := Option.bind_eq_some_iff.mp H
  obtain ⟨⟨t104, t105⟩, A20, H⟩ := H
  replace H : (if t105 = true then (larderref07_Count.l0 k l0 t104 1 0) else (some (0, 2))) = some (r1, r2) := H
  have A2 := Aside0.mk A20
  clear A20
  by_cases c3 : t105 = true
  · subst c3
    have H1 : (larderref07_Count.l0 k l0 t104 1 0) = some (r1, r2) := by rw [if_pos rfl] at H; exact H
    clear H
    have H := H1
    clear H1
    have H' := Aside0.mk H
    clear H
    go_enter Try.func58, Try.ntmps58
    go_wp2_with (first | ((with_reducible refine gate_callee (f := 112) rfl ?_); refine goesL_ (some 11) rfl rfl Try.func112 (by kernel_rfl) rfl #[.slice A0 l0.length c0] rfl (by (try simp only [List.map_toArray, List.map_cons, List.map_nil]); first | done | rfl | (simp only [List.length_drop, List.length_take]; rfl)) ?_; (with_reducible refine (larderref07_Steps.calls k _ _ l0 t104 true _ ?side1 ?side2 A2.out).mono ?_); (case side1 => repeat (first | exact HR0.out | (with_reducible refine Kd.C_alloc ?_ _) | (with_reducible refine Kd.C_drewN ?_ _) | (with_reducible refine Kd.C_drew ?_))); (case side2 => exact HC0.out); rintro e w' ⟨rfl, ⟨nd, rfl⟩⟩; refine ⟨_, rfl, ?_⟩))
    go_loopg [4, 6, 7] k (fun kq v4 v6 v7 w' => ∃ (x4_1 : Int) (x6_1 : Int) (x7_1 : Int), v4 = .int .i64 x4_1 ∧ v6 = .int .i64 x6_1 ∧ v7 = .int .i64 x7_1 ∧ Aside0 (larderref07_Count.l0 kq l0 x4_1 x6_1 x7_1 = some (r1, r2)) ∧ Aside0 (kq ≤ k) ∧ Drawn0 w w')
    case atStart => exact ⟨(t104), (1), (0), (by first | rfl | (simp; done) | (simp [*]; done)), (by first | rfl | (simp; done) | (simp [*]; done)), (by first | rfl | (simp; done) | (simp [*]; done)), H', ⟨Nat.le_refl _⟩, by repeat (first | exact Drawn0.refl _ | apply Drawn0.step)⟩
    case round =>
      clear H'
      try clear c1
      try clear p2
      try clear c3
      obtain ⟨x4_1, x6_1, x7_1, rfl, rfl, rfl, HA, HK1, ⟨m1, rfl⟩⟩ := hrel
      cases gk with
      | zero => exact absurd HA.out (by simp [larderref07_Count.l0])
      | succ k1 =>
        have H := HA.out
        clear HA
        simp only [larderref07_Count.l0] at H
        by_cases c4 : x7_1 < (l0.length : Int)
        · rw [if_pos c4] at H
          have c4b0 : decide (x7_1 < (l0.length : Int)) = true := decide_eq_true c4
          clear c4
          by_cases c5 : 0 ≤ x7_1
          · rw [if_pos c5] at H
            have c5b0 : decide (0 ≤ x7_1) = true := decide_eq_true c5
            clear c5
            replace H := Option.bind_eq_some_iff.mp H
            obtain ⟨t107, A60, H⟩ := H
            replace H : (if t107 = 0 then (none) else (if x6_1 > (wrap64 ((4611686018427387904 : Int) / t107)) then (some (0, 26)) else (larderref07_Count.l0 k1 l0 (wrap64 (x4_1 - (rd l0 x7_1))) (wrap64 (x6_1 * t107)) (wrap64 (x7_1 + 1))))) = some (r1, r2) := H
            have A6 := Aside0.mk A60
            clear A60
            by_cases c7 : t107 = 0
            · rw [if_pos c7] at H
              exact absurd H (by simp)
            · rw [if_neg c7] at H
              have c7b0 : (t107 == 0) = false := beq_eq_false_iff_ne.mpr c7
              have c7b1 : (t107 != 0) = true := bne_iff_ne.mpr c7
              by_cases c8 : x6_1 > (wrap64 ((4611686018427387904 : Int) / t107))
              · rw [if_pos c8] at H
                have c8b0 : decide ((wrap64 ((4611686018427387904 : Int) / t107)) < x6_1) = true := decide_eq_true c8; rw [← Int.tdiv_eq_ediv_of_nonneg (show (0 : Int) ≤ 4611686018427387904 by decide)] at c8b0
                clear c8
                simp only [Option.some.injEq, Prod.mk.injEq] at H
                obtain ⟨rfl, rfl⟩ := H
                have p106 : 0 ≤ (x7_1 : Int) := of_decide_eq_true (by first | (with_reducible assumption) | assumption)
                have q106 : x7_1 < (l0.length : Int) := of_decide_eq_true (by first | (with_reducible assumption) | assumption)
                obtain ⟨ad106, e106, hx106_0⟩ := Kd.at_int HR0.out x7_1 p106 q106
                cases e106
                replace p106 := eq_true p106
                replace q106 := eq_true q106
                go_wp2_with (first | ((with_reducible refine gate_callee (f := 113) rfl ?_); refine goesL_ (some 27) rfl rfl Try.func113 (by kernel_rfl) rfl #[.int .i64 x4_1, .int .i64 (rd l0 x7_1)] rfl (by (try simp only [List.map_toArray, List.map_cons, List.map_nil]); first | done | rfl | (simp only [List.length_drop, List.length_take]; rfl)) ?_; (with_reducible refine (larderref07_choose.calls k1 x4_1 (rd l0 x7_1) t107 _ A6.out).mono ?_); rintro e w' ⟨rfl, ⟨nd, rfl⟩⟩; refine ⟨_, rfl, ?_⟩))
                go_ret2
                exact ⟨by first | rfl | (simp; done) | (simp [*]; done), by repeat (first | exact Drawn0.refl _ | apply Drawn0.step)⟩
              · rw [if_neg c8] at H
                have c8b0 : decide ((wrap64 ((4611686018427387904 : Int) / t107)) < x6_1) = false := decide_eq_false c8; rw [← Int.tdiv_eq_ediv_of_nonneg (show (0 : Int) ≤ 4611686018427387904 by decide)] at c8b0
                clear c8
                have H' := Aside0.mk H
                clear H
                have p106 : 0 ≤ (x7_1 : Int) := of_decide_eq_true (by first | (with_reducible assumption) | assumption)
                have q106 : x7_1 < (l0.length : Int) := of_decide_eq_true (by first | (with_reducible assumption) | assumption)
                obtain ⟨ad106, e106, hx106_0⟩ := Kd.at_int HR0.out x7_1 p106 q106
                cases e106
                replace p106 := eq_true p106
                replace q106 := eq_true q106
                go_wp2_with (first | ((with_reducible refine gate_callee (f := 113) rfl ?_); refine goesL_ (some 27) rfl rfl Try.func113 (by kernel_rfl) rfl #[.int .i64 x4_1, .int .i64 (rd l0 x7_1)] rfl (by (try simp only [List.map_toArray, List.map_cons, List.map_nil]); first | done | rfl | (simp only [List.length_drop, List.length_take]; rfl)) ?_; (with_reducible refine (larderref07_choose.calls k1 x4_1 (rd l0 x7_1) t107 _ A6.out).mono ?_); rintro e w' ⟨rfl, ⟨nd, rfl⟩⟩; refine ⟨_, rfl, ?_⟩; have p108 : 0 ≤ (x7_1 : Int) := of_decide_eq_true (by first | (with_reducible assumption) | assumption); have q108 : x7_1 < (l0.length : Int) := of_decide_eq_true (by first | (with_reducible assumption) | assumption); obtain ⟨ad108, e108, hx108_0⟩ := Kd.at_int HR0.out x7_1 p108 q108; obtain rfl : ad106 = ad108 := (by injection e108); replace p108 := eq_true p108; replace q108 := eq_true q108))
                go_roundg k1
                case measure => have := HK1.out; omega
                case rel => exact ⟨(wrap64 (x4_1 - (rd l0 x7_1))), (wrap64 (x6_1 * t107)), (wrap64 (x7_1 + 1)), (by first | rfl | (simp; done) | (simp [*]; done)), (by first | rfl | (simp; done) | (simp [*]; done)), (by first | rfl | (simp; done) | (simp [*]; done)), H', ⟨by have := HK1.out; omega⟩, by repeat (first | exact Drawn0.refl _ | apply Drawn0.step)⟩
          · rw [if_neg c5] at H
            exact absurd H (by simp)
        · rw [if_neg c4] at H
          have c4b0 : decide (x7_1 < (l0.length : Int)) = false := decide_eq_false c4
          clear c4
          simp only [Option.some.injEq, Prod.mk.injEq] at H
          obtain ⟨rfl, rfl⟩ := H
          go_wp2
          go_ret2
          exact ⟨by first | rfl | (simp; done) | (simp [*]; done), by repeat (first | exact Drawn0.refl _ | apply Drawn0.step)⟩
  · replace c3 := Bool.eq_false_iff.mpr c3
    subst c3
    have H1 : (some (0, 2)) = some (r1, r2) := by rw [if_neg (show ¬ (false = true) by decide)] at H; exact H
    clear H
    have H := H1
    clear H1
    simp only [Option.some.injEq, Prod.mk.injEq] at H
    obtain ⟨rfl, rfl⟩ := H
    go_enter Try.func58, Try.ntmps58
    go_wp2_with (first | ((with_reducible refine gate_callee (f := 112) rfl ?_); refine goesL_ (some 11) rfl rfl Try.func112 (by kernel_rfl) rfl #[.slice A0 l0.length c0] rfl (by (try simp only [List.map_toArray, List.map_cons, List.map_nil]); first | done | rfl | (simp only [List.length_drop, List.length_take]; rfl)) ?_; (with_reducible refine (larderref07_Steps.calls k _ _ l0 t104 false _ ?side1 ?side2 A2.out).mono ?_); (case side1 => repeat (first | exact HR0.out | (with_reducible refine Kd.C_alloc ?_ _) | (with_reducible refine Kd.C_drewN ?_ _) | (with_reducible refine Kd.C_drew ?_))); (case side2 => exact HC0.out); rintro e w' ⟨rfl, ⟨nd, rfl⟩⟩; refine ⟨_, rfl, ?_⟩))
    go_ret2
    exact ⟨by first | rfl | (simp; done) | (simp [*]; done), by repeat (first | exact Drawn0.refl _ | apply Drawn0.step)⟩

/-! ### larderref07_CanMixes: function 114 -/
def larderref07_CanMixes.f (k : Nat) (l0 : List Int) : Option (Bool) := (larderref07_Count.f k l0).bind fun bt109 => (if bt109.2 = 0 then (some (decide (bt109.1 ≤ 1048576))) else (some false))
theorem larderref07_CanMixes.mono : ∀ a0 k, LeO (larderref07_CanMixes.f k a0) (larderref07_CanMixes.f (k + 1) a0) := by
  intro a0 k
  unfold larderref07_CanMixes.f
  repeat' first
      | (with_reducible exact larderref07_Count.mono _ _)
      | (with_reducible exact LeO.refl _)
      | (with_reducible exact LeO.none _)
      | (with_reducible refine LeO.ite ?_ ?_)
      | (with_reducible refine LeO.bind ?_ (fun _ => ?_))
      | exact larderref07_Count.mono _ _
      | exact LeO.none _
      | refine LeO.ite ?_ ?_
      | refine LeO.bind ?_ (fun _ => ?_)
set_option maxHeartbeats 8000000 in
set_option maxRecDepth 100000 in
theorem larderref07_CanMixes.calls (k : Nat) (A0 : Option Addr) (c0 : Nat) (l0 : List Int) (r : Bool) (w : World) (hr0 : Kd.C (Kd.int .i64) w A0 l0.length l0) (hc0 : l0.length ≤ c0) (h : larderref07_CanMixes.f k l0 = some r) :
    Calls Try.prog 114 #[.slice A0 l0.length c0] w fun e w' => e = .returned (.bool r) ∧ Drawn0 w w' := by
  have HR0 := Aside0.mk hr0
  have HC0 := Aside0.mk hc0
  clear hr0 hc0
  have H : ((larderref07_Count.f k l0).bind fun bt109 => (if bt109.2 = 0 then (some (decide (bt109.1 ≤ 1048576))) else (some false))) = some r := h
  clear h
  replace H := Option.bind_eq_some_iff.mp H
  obtain ⟨⟨t109, t110⟩, A20, H⟩ := H
  replace H : (if t110 = 0 then (some (decide (t109 ≤ 1048576))) else (some false)) = some r := H
  have A2 := Aside0.mk A20
  clear A20
  by_cases c3 : t110 = 0
  · rw [if_pos c3] at H
    have c3b0 : (t110 == 0) = true := beq_iff_eq.mpr c3
    have c3b1 : (t110 != 0) = false := bne_eq_false_iff_eq.mpr c3
    clear c3
    obtain rfl := Option.some.inj H
    go_enter Try.func114, Try.ntmps114
    go_wp2_with (first | ((with_reducible refine gate_callee (f := 58) rfl ?_); refine goesL_ (some 7) rfl rfl Try.func58 (by kernel_rfl) rfl #[.slice A0 l0.length c0] rfl (by (try simp only [List.map_toArray, List.map_cons, List.map_nil]); first | done | rfl | (simp only [List.length_drop, List.length_take]; rfl)) ?_; (with_reducible refine (larderref07_Count.calls k _ _ l0 t109 t110 _ ?side1 ?side2 A2.out).mono ?_); (case side1 => repeat (first | exact HR0.out | (with_reducible refine Kd.C_alloc ?_ _) | (with_reducible refine Kd.C_drewN ?_ _) | (with_reducible refine Kd.C_drew ?_))); (case side2 => exact HC0.out); rintro e w' ⟨rfl, ⟨nd, rfl⟩⟩; refine ⟨_, rfl, ?_⟩))
    go_ret
    exact ⟨by first | rfl | (simp; done) | (simp [*]; done), by repeat (first | exact Drawn0.refl _ | apply Drawn0.step)⟩
  · rw [if_neg c3] at H
    have c3b0 : (t110 == 0) = false := beq_eq_false_iff_ne.mpr c3
    have c3b1 : (t110 != 0) = true := bne_iff_ne.mpr c3
    obtain rfl := Option.some.inj H
    go_enter Try.func114, Try.ntmps114
    go_wp2_with (first | ((with_reducible refine gate_callee (f := 58) rfl ?_); refine goesL_ (some 7) rfl rfl Try.func58 (by kernel_rfl) rfl #[.slice A0 l0.length c0] rfl (by (try simp only [List.map_toArray, List.map_cons, List.map_nil]); first | done | rfl | (simp only [List.length_drop, List.length_take]; rfl)) ?_; (with_reducible refine (larderref07_Count.calls k _ _ l0 t109 t110 _ ?side1 ?side2 A2.out).mono ?_); (case side1 => repeat (first | exact HR0.out | (with_reducible refine Kd.C_alloc ?_ _) | (with_reducible refine Kd.C_drewN ?_ _) | (with_reducible refine Kd.C_drew ?_))); (case side2 => exact HC0.out); rintro e w' ⟨rfl, ⟨nd, rfl⟩⟩; refine ⟨_, rfl, ?_⟩))
    go_ret
    exact ⟨by first | rfl | (simp; done) | (simp [*]; done), by repeat (first | exact Drawn0.refl _ | apply Drawn0.step)⟩

end Go.Proofs.Ytfcjfjmjcmanaaa.PCnts
-- written by xprint.py (a program of this work's own, over the kit's printer) out of the translation
namespace Go.Proofs.Ytfcjfjmjcmanaaa.PCnts
open Go.RowKit Go.Proofs.YtfcjfjmjcmanaaaW.PrintWords Go.Proofs.YtfcjfjmjcmanaaaW.PrintLast Go.Proofs.YtfcjfjmjcmanaaaW.PrintMore
attribute [local go_sem] max2_int min2_int max_two min_two max_three min_three max_four min_four   -- for this text's walks alone
set_option linter.unusedVariables false
set_option linter.unusedSimpArgs false

end Go.Proofs.Ytfcjfjmjcmanaaa.PCnts
set_option linter.unusedVariables false
namespace Go.Proofs.Ytfcjfjmjcmanaaa.K
open Go.RowKit Go.Proofs.Ytfcjfjmjcmanaaa.X Go.Proofs.Ytfcjfjmjcmanaaa.PThere Go.Proofs.Ytfcjfjmjcmanaaa.PCnts Go.Proofs.YtfcjfjmjcmanaaaW.PrintWords Go.Proofs.YtfcjfjmjcmanaaaW.PrintLast Go.Proofs.YtfcjfjmjcmanaaaW.PrintMore Go.Proofs.Ytfcjfjmjcmanaaa.Mu

theorem rd_mid (pre : List Int) (x : Int) (rest : List Int) : rd (pre ++ x :: rest) (pre.length : Int) = x := by
  unfold rd
  rw [Int.toNat_natCast, List.getD_eq_getElem?_getD, List.getElem?_append_right (Nat.le_refl _)]; simp
theorem rSteps_l0 : ∀ (rest pre : List Int) (p : Int) (k : Nat), 0 ≤ p → p + 24 * rest.length ≤ 1000 → pre.length + rest.length ≤ 1000 → rest.length + 1 ≤ k →
    ∃ x, larderref07_Steps.l0 k (pre ++ rest) p (pre.length : Int) = some (x, decide ((∀ x ∈ rest, 0 ≤ x ∧ x ≤ 24) ∧ p + rest.sum ≤ 24)) ∧ ((∀ x ∈ rest, 0 ≤ x ∧ x ≤ 24) → x = p + rest.sum) := by
  intro rest
  induction rest with
  | nil =>
    intro pre p k h0 h1 h2 hk
    obtain ⟨k, rfl⟩ : ∃ m, k = m + 1 := ⟨k - 1, by omega⟩
    refine ⟨p, ?_, fun _ => by simp⟩
    simp only [larderref07_Steps.l0]
    rw [if_neg (by simp)]
    simp
  | cons x rest ih =>
    intro pre p k h0 h1 h2 hk
    simp only [List.length_cons] at h1 h2 hk
    obtain ⟨k, rfl⟩ : ∃ m, k = m + 1 := ⟨k - 1, by omega⟩
    simp only [larderref07_Steps.l0]
    rw [if_pos (by simp; omega), if_pos (by omega), rd_mid]
    by_cases x0 : x < 0
    · refine ⟨0, ?_, fun h => by have := h x (by simp); omega⟩
      rw [if_pos x0, decide_eq_false]
      intro h; have := h.1 x (by simp); omega
    · rw [if_neg x0]
      by_cases x1 : x > 24
      · refine ⟨0, ?_, fun h => by have := h x (by simp); omega⟩
        rw [if_pos x1, decide_eq_false]
        intro h; have := h.1 x (by simp); omega
      · rw [if_neg x1, wr (by omega) (by omega), wn _ (by omega)]
        obtain ⟨y, hy, hy2⟩ := ih (pre ++ [x]) (p + x) k (by omega) (by omega) (by simp; omega) (by omega)
        rw [List.append_assoc, List.singleton_append, show (pre ++ [x]).length = pre.length + 1 by simp] at hy
        refine ⟨y, ?_, fun h => by rw [hy2 (fun z hz => h z (List.mem_cons_of_mem _ hz)), List.sum_cons]; omega⟩
        rw [hy]
        have : decide ((∀ x ∈ rest, 0 ≤ x ∧ x ≤ 24) ∧ p + x + rest.sum ≤ 24) = decide ((∀ y ∈ x :: rest, 0 ≤ y ∧ y ≤ 24) ∧ p + (x :: rest).sum ≤ 24) := by
          refine decide_eq_decide.2 ?_
          rw [List.sum_cons, ← Int.add_assoc]
          constructor
          · rintro ⟨ha, hb⟩
            exact ⟨fun y hy => by rcases List.mem_cons.1 hy with rfl | hy; exact ⟨by omega, by omega⟩; exact ha y hy, hb⟩
          · rintro ⟨ha, hb⟩
            exact ⟨fun y hy => ha y (List.mem_cons_of_mem _ hy), hb⟩
        rw [this]
/-- Both ask the same of steps. -/
theorem steps_both (l : List Int) (k : Nat) (hk : 80 ≤ k) :
    (∃ s, l = lift s ∧ Right s ∧ sched_stepsRight.f k l = some true ∧ larderref07_Steps.f k l = some (((s.sum : Nat) : Int), true)) ∨ (sched_stepsRight.f k l = some false ∧ ∃ x, larderref07_Steps.f k l = some (x, false)) := by
  obtain ⟨k, rfl⟩ : ∃ m, k = m + 1 := ⟨k - 1, by omega⟩
  unfold sched_stepsRight.f sched_handlersRight.f larderref07_Steps.f
  simp only [larderref07_Steps.j0]
  by_cases h1 : (l.length : Int) ≥ 1
  · rw [if_pos h1, if_neg (by omega)]
    simp only [Option.bind_some]
    by_cases h2 : (l.length : Int) ≤ 16
    · rw [if_pos (by simpa using h2), if_neg (by simp; omega)]
      have h := right_l0 l [] 0 (k + 1) (by omega) (by omega) (by simp; omega) (by omega)
      rw [List.nil_append] at h
      have h : sched_stepsRight.l0 (k + 1) 0 l (l.length : Int) 0 = some (decide ((∀ x ∈ l, 0 ≤ x ∧ x ≤ 24) ∧ 0 + l.sum ≤ 24)) := h
      obtain ⟨x, hx, hx2⟩ := rSteps_l0 l [] 0 k (by omega) (by omega) (by simp; omega) (by omega)
      rw [List.nil_append] at hx
      have hx : larderref07_Steps.l0 k l 0 0 = _ := hx
      rw [h, hx]
      by_cases hp : (∀ x ∈ l, 0 ≤ x ∧ x ≤ 24) ∧ 0 + l.sum ≤ 24
      · left
        obtain ⟨s, rfl⟩ := lift_of l (fun x hx => (hp.1 x hx).1)
        rw [lift_length] at h1 h2
        have h3 := hp.2
        have h4 := hx2 hp.1
        rw [lift_sum] at h3 h4
        exact ⟨s, rfl, ⟨by omega, by omega, by omega⟩, by rw [decide_eq_true hp], by rw [decide_eq_true hp, h4, Int.zero_add]⟩
      · right; rw [decide_eq_false hp]; exact ⟨rfl, x, rfl⟩
    · right; rw [if_neg (by simpa using h2), if_pos (by simpa using h2)]; exact ⟨rfl, 0, rfl⟩
  · right; rw [if_neg h1, if_pos (by omega)]; exact ⟨rfl, 0, rfl⟩
theorem rSteps_yes (s : List Nat) (h : Right s) (k : Nat) (hk : 80 ≤ k) : larderref07_Steps.f k (lift s) = some (((s.sum : Nat) : Int), true) := by
  rcases steps_both (lift s) k hk with ⟨s', he, _, _, h2⟩ | ⟨h1, _⟩
  · have : (lift s).sum = (lift s').sum := by rw [he]
    rw [lift_sum, lift_sum] at this
    rw [h2, this]
  · rw [stepsRight_yes s h k hk] at h1; cases h1
theorem ch_next (n i : Nat) (h : i < n) : (i + 1) * ch n (i + 1) = ch n i * (n - i) := by
  obtain ⟨d, rfl⟩ : ∃ d, n = (d + 1) + i := ⟨n - i - 1, by omega⟩
  have h1 := ch_fac (d + 1) i
  have h2 := ch_fac d (i + 1)
  rw [show d + (i + 1) = d + 1 + i by omega] at h2
  have f1 : fac (i + 1) = (i + 1) * fac i := rfl
  have f2 : fac (d + 1) = (d + 1) * fac d := rfl
  rw [f1] at h2
  rw [f2] at h1
  have hp : 0 < fac i * fac d := Nat.mul_pos (fac_pos _) (fac_pos _)
  apply Nat.eq_of_mul_eq_mul_right hp
  rw [show d + 1 + i - i = d + 1 by omega]
  have : ch (d + 1 + i) (i + 1) * ((i + 1) * fac i * fac d) = ch (d + 1 + i) i * (fac i * ((d + 1) * fac d)) := by rw [h1, h2]
  grind
theorem ch_le_pow : ∀ n k, ch n k ≤ 2 ^ n
  | 0, 0 => by decide
  | 0, k + 1 => by simp [ch]
  | n + 1, 0 => by rw [ch_zero]; exact Nat.one_le_two_pow
  | n + 1, k + 1 => by
    show ch n k + ch n (k + 1) ≤ 2 ^ (n + 1)
    have h1 := ch_le_pow n k
    have h2 := ch_le_pow n (k + 1)
    rw [Nat.pow_succ]; omega
theorem ch_small (n k : Nat) (h : n ≤ 24) : ch n k ≤ 16777216 := Nat.le_trans (ch_le_pow n k) (Nat.pow_le_pow_right (n := 2) (by decide) h)
theorem choose_l0 (n m : Nat) (hn : n ≤ 24) (hm : m ≤ n) : ∀ (d i k : Nat), i + d = m → d + 1 ≤ k → larderref07_choose.l0 k (n : Int) (m : Int) ((ch n i : Nat) : Int) (i : Int) = some ((ch n m : Nat) : Int) := by
  intro d
  induction d with
  | zero =>
    intro i k hi hk
    obtain ⟨k, rfl⟩ : ∃ j, k = j + 1 := ⟨k - 1, by omega⟩
    obtain rfl : i = m := by omega
    simp only [larderref07_choose.l0]
    rw [if_neg (by omega)]
  | succ d ih =>
    intro i k hi hk
    obtain ⟨k, rfl⟩ : ∃ j, k = j + 1 := ⟨k - 1, by omega⟩
    have ih' := ih (i + 1) k (by omega) (by omega)
    have hin : i < n := by omega
    have him : (i : Int) < (m : Int) := by omega
    have hni := Lib.hid (show wrap64 ((n : Int) - (i : Int)) = ((n - i : Nat) : Int) by rw [wr (by omega) (by omega)]; omega)
    have hz : ¬ (((i + 1 : Nat) : Int) = 0) := by omega
    have hi1 : (0 : Int) < ((i + 1 : Nat) : Int) := by omega
    have hn24 : n - i ≤ 24 := by omega
    have hi1000 : i ≤ 1000 := by omega
    have hw := Lib.hid (wn i hi1000)
    have hs := ch_next n i hin
    have hb := ch_small n i hn
    have hb2 := ch_small n (i + 1) hn
    clear ih
    generalize ch n (i + 1) = c' at *
    generalize ch n i = c at *
    generalize ch n m = R at *
    generalize n - i = j at *
    have hcj : c * j ≤ 402653184 := Nat.mul_le_mul hb hn24
    have hnn : 0 ≤ ((i + 1 : Nat) : Int) * (c' : Int) := Int.mul_nonneg (by omega) (by omega)
    have hne : ((i + 1 : Nat) : Int) ≠ 0 := hz
    have e3 := Lib.hid (show wrap64 (c' : Int) = (c' : Int) from wr (by omega) (by omega))
    have e1 := Lib.hid (show wrap64 ((c : Int) * (j : Int)) = ((c * j : Nat) : Int) by rw [← Int.natCast_mul]; exact wr (by omega) (by omega))
    have e2 : Int.tdiv ((c * j : Nat) : Int) ((i + 1 : Nat) : Int) = (c' : Int) := by
      rw [← hs, Int.natCast_mul, Int.tdiv_eq_ediv_of_nonneg hnn]
      exact Int.mul_ediv_cancel_left _ hne
    simp only [larderref07_choose.l0]
    rw [if_pos him, hw.out, if_neg hz, hni.out, e1.out, e2, e3.out]
    exact ih'
theorem choose_spec (n m : Nat) (hn : n ≤ 24) (hm : m ≤ n) (k : Nat) (hk : 30 ≤ k) : larderref07_choose.f k (n : Int) (m : Int) = some ((ch n m : Nat) : Int) := by
  have h := choose_l0 n m hn hm m 0 k (by omega) (by omega)
  rw [ch_zero] at h
  exact h
def mulr : List Nat → Nat
  | [] => 1
  | n :: s => ch (s.sum + n) n * mulr s
theorem mulr_pos : ∀ s, 0 < mulr s
  | [] => Nat.one_pos
  | n :: s => Nat.mul_pos (ch_pos _ _) (mulr_pos s)
theorem mulr_fac : ∀ s, mulr s * facs s = fac s.sum
  | [] => rfl
  | n :: s => by
    have h := mulr_fac s
    have h2 := ch_fac s.sum n
    rw [List.sum_cons, Nat.add_comm n s.sum, ← h2, ← h]
    show ch (s.sum + n) n * mulr s * (fac n * facs s) = _
    grind
theorem mulr_eq (s : List Nat) : mulr s = M s := Nat.eq_of_mul_eq_mul_right (facs_pos s) (by rw [mulr_fac, M_fac])
/-- What the document's Count tells. -/
def told2 (m : Nat) : Int × Int := if m ≤ 4611686018427387904 then ((m : Int), 0) else (0, 26)
theorem rCount_l0 : ∀ (rest pre : List Nat) (a k : Nat), rest.sum ≤ 24 → pre.length + rest.length ≤ 1000 → 0 < a → a ≤ 4611686018427387904 → rest.length + 40 ≤ k →
    larderref07_Count.l0 k (lift (pre ++ rest)) ((rest.sum : Nat) : Int) (a : Int) (pre.length : Int) = some (told2 (a * mulr rest)) := by
  intro rest
  induction rest with
  | nil =>
    intro pre a k h1 h2 ha ha2 hk
    obtain ⟨k, rfl⟩ : ∃ j, k = j + 1 := ⟨k - 1, by omega⟩
    simp only [larderref07_Count.l0]
    rw [if_neg (by rw [lift_length]; simp)]
    show _ = some (told2 (a * 1))
    rw [Nat.mul_one]
    unfold told2
    rw [if_pos ha2]
  | cons n rest ih =>
    intro pre a k h1 h2 ha ha2 hk
    simp only [List.length_cons, List.sum_cons] at h1 h2 hk
    obtain ⟨k, rfl⟩ : ∃ j, k = j + 1 := ⟨k - 1, by omega⟩
    have hch := choose_spec (n + rest.sum) n (by omega) (by omega) k (by omega)
    have hpos := ch_pos rest.sum n
    rw [Nat.add_comm rest.sum n] at hpos
    have hsm := ch_small (n + rest.sum) n (by omega)
    have hR : mulr (n :: rest) = ch (n + rest.sum) n * mulr rest := by show ch (rest.sum + n) n * mulr rest = _; rw [Nat.add_comm]
    have hmp := mulr_pos rest
    rw [hR]
    simp only [larderref07_Count.l0]
    rw [if_pos (by rw [lift_length]; simp; omega), if_pos (by omega), rd_lift, getD_mid, List.sum_cons, hch]
    simp only [Option.bind_some]
    have ih' := ih (pre ++ [n]) (a * ch (n + rest.sum) n) k (by omega) (by simp; omega) (Nat.mul_pos ha hpos)
    have e0 := Lib.hid (show wrap64 (((n + rest.sum : Nat) : Int) - (n : Int)) = ((rest.sum : Nat) : Int) by rw [wr (by omega) (by omega)]; omega)
    have e1 := Lib.hid (wn pre.length (by omega))
    generalize ch (n + rest.sum) n = c at *
    generalize hm : mulr rest = m at *
    have hcd : 0 ≤ (4611686018427387904 : Int) / (c : Int) := Int.ediv_nonneg (by omega) (by omega)
    have hcd2 : (4611686018427387904 : Int) / (c : Int) ≤ 4611686018427387904 := Int.ediv_le_self _ (by omega)
    rw [if_neg (by omega), wr (by omega) (by omega)]
    have hiff : (a : Int) > 4611686018427387904 / (c : Int) ↔ 4611686018427387904 < a * c := by
      constructor
      · intro h
        have := Int.ediv_lt_iff_lt_mul (a := 4611686018427387904) (b := (a : Int)) (c := (c : Int)) (by omega)
        have h2 := this.1 h
        rw [← Int.natCast_mul] at h2
        omega
      · intro h
        refine (Int.ediv_lt_iff_lt_mul (by omega)).2 ?_
        rw [← Int.natCast_mul]; omega
    by_cases hc : 4611686018427387904 < a * c
    · rw [if_pos (hiff.2 hc)]
      have h3 : a * c ≤ a * (c * m) := by rw [← Nat.mul_assoc]; exact Nat.le_mul_of_pos_right _ hmp
      unfold told2
      rw [if_neg (by omega)]
    · rw [if_neg (fun z => hc (hiff.1 z)), e0.out, e1.out]
      have e2 := Lib.hid (show wrap64 ((a : Int) * (c : Int)) = ((a * c : Nat) : Int) by rw [← Int.natCast_mul]; exact wr (by omega) (by omega))
      rw [e2.out]
      have ih2 := ih' (by omega) (by omega)
      rw [List.append_assoc, List.singleton_append, show (pre ++ [n]).length = pre.length + 1 by simp] at ih2
      rw [ih2, Nat.mul_assoc]
theorem rCount_spec (s : List Nat) (h : Right s) (k : Nat) (hk : 80 ≤ k) : larderref07_Count.f k (lift s) = some (told2 (M s)) := by
  unfold larderref07_Count.f
  rw [rSteps_yes s h k hk]
  simp only [Option.bind_some, if_true]
  have := rCount_l0 s [] 1 k h.2.2 (by have := h.2.1; simp; omega) (by omega) (by omega) (by have := h.2.1; omega)
  rw [List.nil_append, Nat.one_mul, mulr_eq] at this
  exact this
/-- Both counts tell the same. -/
theorem counts_both (l : List Int) (k : Nat) (hk : 80 ≤ k) :
    (∃ s, l = lift s ∧ Right s ∧ M s ≤ 4611686018427387904 ∧ sched_Count.f k l = some (((M s : Nat) : Int), 0) ∧ larderref07_Count.f k l = some (((M s : Nat) : Int), 0)) ∨ (∃ e, e ≠ 0 ∧ sched_Count.f k l = some (0, e) ∧ larderref07_Count.f k l = some (0, e)) := by
  rcases steps_both l k hk with ⟨s, rfl, hr, h1, h2⟩ | ⟨h1, x, h2⟩
  · have hc := Count_spec s hr k hk
    have hd := rCount_spec s hr k hk
    unfold told2 at hd
    by_cases hm : M s ≤ 4611686018427387904
    · rw [if_pos hm] at hc hd; exact .inl ⟨s, rfl, hr, hm, hc, hd⟩
    · rw [if_neg hm] at hc hd; exact .inr ⟨26, by decide, hc, hd⟩
  · right
    refine ⟨2, by decide, ?_, ?_⟩
    · unfold sched_Count.f; rw [h1]; rfl
    · unfold larderref07_Count.f; rw [h2]; rfl
end Go.Proofs.Ytfcjfjmjcmanaaa.K
