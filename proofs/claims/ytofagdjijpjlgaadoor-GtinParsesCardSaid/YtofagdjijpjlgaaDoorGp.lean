/-  -/
import Derived.Test.YtofagdjijpjlgaaDoorProg
import Derived.Below
import Derived.Deep.Draws
import Derived.Deep.AppendLies
import Derived.Maps.AppendAt
import Derived.OwnWalk
import Derived.Laws.BytesArg
import Derived.Laws.MakeOwn
import Derived.Laws.OwnMore
import Derived.Deep.OwnRows
import Derived.Tactics
import Derived.Lib.ConvBytes
import Derived.Laws.Slices
import Derived.WalkKit
import Derived.KernelRfl
import Derived.RowKit3
import Derived.Deep.LoopGhost
import Derived.Deep.QuietTactic
import Derived.BigQuiet
import Derived.WideLaws
import Derived.Deep.DeepCutAuto
import Derived.Deep.CutBlock
import Derived.Deep.RegionHeld3
import Derived.Laws.Rows
import Derived.Lib.AppendStr
import Derived.ArgAppend
import Derived.Laws.IdiomCopy
import Derived.OrdersHeld
import Derived.Laws.BitsLemmas
import Derived.RowKit
import Derived.Test.YtofagdjijpjlgaaDoorGs
import Derived.Test.YtofagdjijpjlgaaDoorGb
import Derived.Test.YtofagdjijpjlgaaDoorGd
import Derived.Test.YtofagdjijpjlgaaDoorGe
import Derived.Test.YtofagdjijpjlgaaDoorWWords
import Derived.Test.YtofagdjijpjlgaaDoorWLast
import Derived.Test.YtofagdjijpjlgaaDoorWTab
import Derived.Test.YtofagdjijpjlgaaDoorWFour
import Derived.Test.YtofagdjijpjlgaaDoorWQPut
import Derived.Test.YtofagdjijpjlgaaDoorWApart
import Derived.Test.YtofagdjijpjlgaaDoorWArr
import Derived.Test.YtofagdjijpjlgaaDoorWZeros
import Derived.Test.YtofagdjijpjlgaaDoorWFoot
import Derived.Test.YtofagdjijpjlgaaDoorWKept
import Derived.Test.YtofagdjijpjlgaaDoorWShare
import Derived.Test.YtofagdjijpjlgaaDoorWN
import Derived.Test.YtofagdjijpjlgaaDoorWFootNe
import Derived.Test.YtofagdjijpjlgaaDoorWAt
import Derived.Test.YtofagdjijpjlgaaDoorWEqStruct
import Derived.Test.YtofagdjijpjlgaaDoorWRepsOne
import Derived.Test.YtofagdjijpjlgaaDoorWInv
import Derived.Test.YtofagdjijpjlgaaDoorWInvWords
import Derived.Test.YtofagdjijpjlgaaDoorWGuard
import Derived.Test.YtofagdjijpjlgaaDoorWNEv
import Derived.Test.YtofagdjijpjlgaaDoorWMore
-- written by xprint.py (a program of this work's own, over the kit's printer) out of the translation
namespace Go.Proofs.YtofagdjijpjlgaaDoor.PParses
open Go.RowKit Go.Proofs.YtofagdjijpjlgaaDoorW.PrintWords Go.Proofs.YtofagdjijpjlgaaDoorW.PrintLast Go.Proofs.YtofagdjijpjlgaaDoorW.PrintMore Go.Proofs.YtofagdjijpjlgaaDoor.X Go.Proofs.YtofagdjijpjlgaaDoor.PBase Go.Proofs.YtofagdjijpjlgaaDoor.PDays Go.Proofs.YtofagdjijpjlgaaDoor.PElem
attribute [local go_sem] max2_int min2_int max_two min_two max_three min_three max_four min_four   -- for this text's walks alone
set_option linter.unusedVariables false
set_option linter.unusedSimpArgs false



def errW : Option Int → Value
  | none => .nilIface
  | some c => .iface 0 (.int .i64 c)
theorem errW_none : errW none = .nilIface := rfl
theorem errW_some (c : Int) : errW (some c) = .iface 0 (.int .i64 c) := rfl

theorem info3 : (Tryd.prog.info? 3).map (fun i => (i.zero, i.size, i.bytes)) = some (some (.int .i64 0), 1, 8) := by kernel_rfl
theorem info23 : (Tryd.prog.info? 23).map (fun i => (i.zero, i.size, i.bytes)) = some (some (.agg #[(.string ⟨#[]⟩), (.string ⟨#[]⟩)]), 2, 32) := by kernel_rfl
-- the values' own types

end Go.Proofs.YtofagdjijpjlgaaDoor.PParses
-- written by xprint.py (a program of this work's own, over the kit's printer) out of the translation
namespace Go.Proofs.YtofagdjijpjlgaaDoor.PParses
open Go.RowKit Go.Proofs.YtofagdjijpjlgaaDoorW.PrintWords Go.Proofs.YtofagdjijpjlgaaDoorW.PrintLast Go.Proofs.YtofagdjijpjlgaaDoorW.PrintMore Go.Proofs.YtofagdjijpjlgaaDoor.X Go.Proofs.YtofagdjijpjlgaaDoor.PBase Go.Proofs.YtofagdjijpjlgaaDoor.PDays Go.Proofs.YtofagdjijpjlgaaDoor.PElem
attribute [local go_sem] max2_int min2_int max_two min_two max_three min_three max_four min_four   -- for this text's walks alone
set_option linter.unusedVariables false
set_option linter.unusedSimpArgs false

/-! ### larderref02_Parse: function 17 -/
mutual
def larderref02_Parse.l0 : Nat → ByteArray → List (S23) → List Int → Int → Option ((List (S23)) × Int × Int)
  | 0, _, _, _, _ => none
  | k + 1, x0, x5, x6, x7 => if x7 < (x0.size : Int) then (if 0 ≤ x7 then (if x7 ≤ (x0.size : Int) then ((larderref02_all.f).bind fun t103 => (larderref02_Parse.l1 k x0 x5 x6 x7 (x0.extract (x7 : Int).toNat x0.size) (⟨#[]⟩ : ByteArray) false t103 0)) else (none)) else (none)) else ((larderref02_lonely.f k x5).bind fun t101 => (if t101 ≥ 0 then (if 0 ≤ t101 then (if t101 < (x6.length : Int) then (some (([] : List (S23)), 25, rd x6 t101)) else (none)) else (none)) else (some (x5, 0, 0))))
def larderref02_Parse.l1 : Nat → ByteArray → List (S23) → List Int → Int → ByteArray → ByteArray → Bool → List ByteArray → Int → Option ((List (S23)) × Int × Int)
  | 0, _, _, _, _, _, _, _, _, _ => none
  | k + 1, x0, x5, x6, x7, x8, x9, x10, x11, x12 => if x12 < (x11.length : Int) then (if 0 ≤ x12 then ((larderref02_begins.f x8 (rdOf ByteArray.empty x11 x12)).bind fun t107 => (if t107 = true then (if x10 = true then (larderref02_Parse.l1 k x0 x5 x6 x7 x8 (rdOf ByteArray.empty x11 x12) true x11 (wrap64 (x12 + 1))) else (if (x8.size : Int) < ((rdOf ByteArray.empty x11 x12).size : Int) then ((larderref02_begins.f (rdOf ByteArray.empty x11 x12) x8).bind fun t111 => (larderref02_Parse.l1 k x0 x5 x6 x7 x8 (rdOf ByteArray.empty x11 x12) t111 x11 (wrap64 (x12 + 1)))) else (larderref02_Parse.l1 k x0 x5 x6 x7 x8 (rdOf ByteArray.empty x11 x12) false x11 (wrap64 (x12 + 1))))) else (if x10 = true then (larderref02_Parse.l1 k x0 x5 x6 x7 x8 x9 true x11 (wrap64 (x12 + 1))) else (if (x8.size : Int) < ((rdOf ByteArray.empty x11 x12).size : Int) then ((larderref02_begins.f (rdOf ByteArray.empty x11 x12) x8).bind fun t114 => (larderref02_Parse.l1 k x0 x5 x6 x7 x8 x9 t114 x11 (wrap64 (x12 + 1)))) else (larderref02_Parse.l1 k x0 x5 x6 x7 x8 x9 false x11 (wrap64 (x12 + 1))))))) else (none)) else (if x9.toList = ([] : List UInt8) then (if x10 = true then (some (([] : List (S23)), 3, (x0.size : Int))) else (some (([] : List (S23)), 23, x7))) else ((larderref02_beside.f k x5 x9).bind fun t115 => (if t115 = 0 then ((larderref02_kindOf.f k x9).bind fun bt116 => (if bt116.1 = true then (larderref02_Parse.l2 k x0 x5 x6 x7 x9 (wrap64 (x7 + (x9.size : Int))) (wrap64 (x7 + (x9.size : Int))) bt116.1 bt116.2.1 bt116.2.2.1 bt116.2.2.2.1 bt116.2.2.2.2.1 bt116.2.2.2.2.2.1 bt116.2.2.2.2.2.2.1) else (larderref02_Parse.l3 k x0 x5 x6 x7 x9 (wrap64 (x7 + (x9.size : Int))) (wrap64 (x7 + (x9.size : Int))) bt116.1 bt116.2.1 bt116.2.2.1 bt116.2.2.2.1 bt116.2.2.2.2.1 bt116.2.2.2.2.2.1 bt116.2.2.2.2.2.2.1))) else (some (([] : List (S23)), t115, x7)))))
def larderref02_Parse.j6 : Nat → ByteArray → List (S23) → List Int → Int → ByteArray → Int → Int → Bool → Bool → Int → Int → Bool → Bool → Bool → Option ((List (S23)) × Int × Int)
  | 0, _, _, _, _, _, _, _, _, _, _, _, _, _, _ => none
  | k + 1, x0, x5, x6, x7, x9, x16, x17, x125000, x125001, x125002, x125003, x125004, x125005, x125006 => if 0 ≤ x16 then (if x16 ≤ x17 then (if x17 ≤ (x0.size : Int) then (if x125004 = true then ((larderref02_sum.f k (x0.extract (x16 : Int).toNat (x17 : Int).toNat)).bind fun t128 => (larderref02_Parse.j7 k x0 x5 x6 x7 x9 x16 x17 (x0.extract (x16 : Int).toNat (x17 : Int).toNat) ((Int.tmod t128 10) != 0) x125000 x125001 x125002 x125003 x125004 x125005 x125006)) else (larderref02_Parse.j7 k x0 x5 x6 x7 x9 x16 x17 (x0.extract (x16 : Int).toNat (x17 : Int).toNat) false x125000 x125001 x125002 x125003 x125004 x125005 x125006)) else (none)) else (none)) else (none)
def larderref02_Parse.j7 : Nat → ByteArray → List (S23) → List Int → Int → ByteArray → Int → Int → ByteArray → Bool → Bool → Bool → Int → Int → Bool → Bool → Bool → Option ((List (S23)) × Int × Int)
  | 0, _, _, _, _, _, _, _, _, _, _, _, _, _, _, _, _ => none
  | k + 1, x0, x5, x6, x7, x9, x16, x17, x19, x171, x125000, x125001, x125002, x125003, x125004, x125005, x125006 => if x171 = true then (some (([] : List (S23)), 22, wrap64 (x17 - 1))) else (if x125005 = true then ((larderref02_isDay.f k x19).bind fun t129 => (if t129 = true then (larderref02_Parse.j8 k x0 x5 x6 x7 x9 x17 x19 x125000 x125001 x125002 x125003 x125004 x125005 x125006) else (some (([] : List (S23)), 28, x16)))) else (larderref02_Parse.j8 k x0 x5 x6 x7 x9 x17 x19 x125000 x125001 x125002 x125003 x125004 x125005 x125006))
def larderref02_Parse.j8 : Nat → ByteArray → List (S23) → List Int → Int → ByteArray → Int → ByteArray → Bool → Bool → Int → Int → Bool → Bool → Bool → Option ((List (S23)) × Int × Int)
  | 0, _, _, _, _, _, _, _, _, _, _, _, _, _, _ => none
  | k + 1, x0, x5, x6, x7, x9, x17, x19, x125000, x125001, x125002, x125003, x125004, x125005, x125006 => if x5.length < 4398046511104 then ((some (x5 ++ [(⟨x9, x19⟩ : S23)] : List (S23))).bind fun y130 => (if x6.length < 17592186044416 then ((some (x6 ++ [x7] : List Int)).bind fun y133 => (if x125000 = true then (larderref02_Parse.j9 k x0 y130 y133 x17 false) else (larderref02_Parse.j9 k x0 y130 y133 x17 (decide (x17 < (x0.size : Int)))))) else (none))) else (none)
def larderref02_Parse.j9 : Nat → ByteArray → List (S23) → List Int → Int → Bool → Option ((List (S23)) × Int × Int)
  | 0, _, _, _, _, _ => none
  | k + 1, x0, x5, x6, x7, x200 => if x200 = true then (if x7 = (wrap64 ((x0.size : Int) - 1)) then (some (([] : List (S23)), 4, x7)) else (larderref02_Parse.l0 k x0 x5 x6 (wrap64 (x7 + 1)))) else (larderref02_Parse.l0 k x0 x5 x6 x7)
def larderref02_Parse.l2 : Nat → ByteArray → List (S23) → List Int → Int → ByteArray → Int → Int → Bool → Bool → Int → Int → Bool → Bool → Bool → Option ((List (S23)) × Int × Int)
  | 0, _, _, _, _, _, _, _, _, _, _, _, _, _, _ => none
  | k + 1, x0, x5, x6, x7, x9, x16, x17, x125000, x125001, x125002, x125003, x125004, x125005, x125006 => if x17 < (wrap64 (x16 + x125002)) then (if x17 ≥ (x0.size : Int) then (some (([] : List (S23)), 3, (x0.size : Int))) else (if 0 ≤ x17 then (if x17 < (x0.size : Int) then ((larderref02_isDigit.f (bt x0 x17)).bind fun t125 => (if t125 = true then (larderref02_Parse.l2 k x0 x5 x6 x7 x9 x16 (wrap64 (x17 + 1)) x125000 x125001 x125002 x125003 x125004 x125005 x125006) else (some (([] : List (S23)), 20, x17)))) else (none)) else (none))) else (larderref02_Parse.j6 k x0 x5 x6 x7 x9 x16 x17 x125000 x125001 x125002 x125003 x125004 x125005 x125006)
def larderref02_Parse.l3 : Nat → ByteArray → List (S23) → List Int → Int → ByteArray → Int → Int → Bool → Bool → Int → Int → Bool → Bool → Bool → Option ((List (S23)) × Int × Int)
  | 0, _, _, _, _, _, _, _, _, _, _, _, _, _, _ => none
  | k + 1, x0, x5, x6, x7, x9, x16, x17, x125000, x125001, x125002, x125003, x125004, x125005, x125006 => if x17 < (x0.size : Int) then (if 0 ≤ x17 then (larderref02_Parse.j4 k x0 x5 x6 x7 x9 x16 x17 ((bt x0 x17) != 29) x125000 x125001 x125002 x125003 x125004 x125005 x125006) else (none)) else (larderref02_Parse.j4 k x0 x5 x6 x7 x9 x16 x17 false x125000 x125001 x125002 x125003 x125004 x125005 x125006)
def larderref02_Parse.j4 : Nat → ByteArray → List (S23) → List Int → Int → ByteArray → Int → Int → Bool → Bool → Bool → Int → Int → Bool → Bool → Bool → Option ((List (S23)) × Int × Int)
  | 0, _, _, _, _, _, _, _, _, _, _, _, _, _, _, _ => none
  | k + 1, x0, x5, x6, x7, x9, x16, x17, x122, x125000, x125001, x125002, x125003, x125004, x125005, x125006 => if x122 = true then (if (wrap64 (x17 - x16)) ≥ x125003 then (some (([] : List (S23)), 26, x17)) else (if x125001 = true then (if 0 ≤ x17 then (if x17 < (x0.size : Int) then ((larderref02_isDigit.f (bt x0 x17)).bind fun t126 => (larderref02_Parse.j5 k x0 x5 x6 x7 x9 x16 x17 (!t126) x125000 x125001 x125002 x125003 x125004 x125005 x125006)) else (none)) else (none)) else (larderref02_Parse.j5 k x0 x5 x6 x7 x9 x16 x17 false x125000 x125001 x125002 x125003 x125004 x125005 x125006))) else (if x17 = x16 then (some (([] : List (S23)), 3, x16)) else (if (wrap64 (x17 - x16)) < x125002 then (some (([] : List (S23)), 3, x17)) else (larderref02_Parse.j6 k x0 x5 x6 x7 x9 x16 x17 x125000 x125001 x125002 x125003 x125004 x125005 x125006)))
def larderref02_Parse.j5 : Nat → ByteArray → List (S23) → List Int → Int → ByteArray → Int → Int → Bool → Bool → Bool → Int → Int → Bool → Bool → Bool → Option ((List (S23)) × Int × Int)
  | 0, _, _, _, _, _, _, _, _, _, _, _, _, _, _, _ => none
  | k + 1, x0, x5, x6, x7, x9, x16, x17, x138, x125000, x125001, x125002, x125003, x125004, x125005, x125006 => if x138 = true then (some (([] : List (S23)), 20, x17)) else (if 0 ≤ x17 then (if x17 < (x0.size : Int) then ((larderref02_char.f k (bt x0 x17)).bind fun t127 => (if t127 = true then (larderref02_Parse.l3 k x0 x5 x6 x7 x9 x16 (wrap64 (x17 + 1)) x125000 x125001 x125002 x125003 x125004 x125005 x125006) else (some (([] : List (S23)), 27, x17)))) else (none)) else (none))
end
def larderref02_Parse.f (k : Nat) (a0 : ByteArray) : Option ((List (S23)) × Int × Int) := if (a0.size : Int) > 512 then (some (([] : List (S23)), 1, 0)) else (larderref02_Parse.l0 k a0 ([] : List (S23)) ([] : List Int) 0)
set_option maxHeartbeats 8000000 in
set_option maxRecDepth 100000 in
theorem larderref02_Parse.calls (k : Nat) (a0 : ByteArray) (r1 : List (S23)) (r2 : Int) (r3 : Int) (w : World) (h : larderref02_Parse.f k a0 = some (r1, r2, r3)) :
    Calls Tryd.prog 17 #[.string a0] w fun e w' => ∃ v0_ : Value, e = .returned (.tuple #[v0_, .int .i64 r2, .int .i64 r3]) ∧ Kd.R k23 23 w' w.heap.size (fun _ => True) v0_ r1 ∧ Below w.heap.size w w' := by
  have hu57 := Tryd.underlying57
  have hu23 := Tryd.underlying23
  have HB := Aside0.mk (Below.refl w.heap.size w)
  have H : (if (a0.size : Int) > 512 then (some (([] : List (S23)), 1, 0)) else (larderref02_Parse.l0 k a0 ([] : List (S23)) ([] : List Int) 0)) = some (r1, r2, r3) := h
  clear h
  by_cases c2 : (a0.size : Int) > 512
  · rw [if_pos c2] at H
    have c2b0 : decide (512 < (a0.size : Int)) = true := decide_eq_true c2
    have c2b1 : decide (512 < a0.size) = true := decide_eq_true (by omega)
    clear c2
    simp only [Option.some.injEq, Prod.mk.injEq] at H
    obtain ⟨rfl, rfl, rfl⟩ := H
    go_enter Tryd.func17, Tryd.ntmps17
    go_wp2
    repeat (go_quiet (fail); try go_wp2)
    go_ret3
    exact ⟨_, by first | rfl | (simp [errW_none, errW_some] <;> rfl) | (simp [*, errW_none, errW_some] <;> rfl), by first | exact Kd.R_nil _ _ _ _ _ | exact Kd.N_nil _ _ _ _ _ | exact Kd.V_nil _ _ _ _ _ | exact Kd.Q_nil _ _ _ _ _ | exact Kd.S_nil _ _ _ _ _, by repeat (first | (with_reducible first | exact HB.out | apply below_alloc | apply pw_below_drewN | apply below_drew1) | exact HB.out)⟩
  · rw [if_neg c2] at H
    have c2b0 : decide (512 < (a0.size : Int)) = false := decide_eq_false c2
    have c2b1 : decide (512 < a0.size) = false := decide_eq_false (by omega)
    clear c2
    have H' := Aside0.mk H
    clear H
    go_enter Tryd.func17, Tryd.ntmps17
    go_wp2
    repeat (go_quiet (fail); try go_wp2)
    go_loopg [5, 6, 7] k (fun kq v5 v6 v7 w' => ∃ (x5_1 : List (S23)) (x6_1 : List Int) (x7_1 : Int), v7 = .int .i64 x7_1 ∧ Aside0 (larderref02_Parse.l0 kq a0 x5_1 x6_1 x7_1 = some (r1, r2, r3)) ∧ Aside0 (kq ≤ k) ∧ Aside0 (Kd.R k23 23 w' w.heap.size (fun _ => True) v5 x5_1) ∧ Aside0 (Kd.R (Kd.int .i64) 3 w' w.heap.size (fun _ => True) v6 x6_1) ∧ Aside0 (Below w.heap.size w w'))
    case atStart => exact ⟨(([] : List (S23))), (([] : List Int)), (0), (by first | rfl | (simp; done) | (simp [*]; done)), H', ⟨Nat.le_refl _⟩, ⟨by first | exact Kd.R_nil _ _ _ _ _ | exact Kd.N_nil _ _ _ _ _ | exact Kd.V_nil _ _ _ _ _ | exact Kd.Q_nil _ _ _ _ _ | exact Kd.S_nil _ _ _ _ _⟩, ⟨by first | exact Kd.R_nil _ _ _ _ _ | exact Kd.N_nil _ _ _ _ _ | exact Kd.V_nil _ _ _ _ _ | exact Kd.Q_nil _ _ _ _ _ | exact Kd.S_nil _ _ _ _ _⟩, ⟨by repeat (first | (with_reducible first | exact HB.out | apply below_alloc | apply pw_below_drewN | apply below_drew1) | exact HB.out)⟩⟩
    case round =>
      clear H'
      (try clear c1); (try clear c2); (try clear c2b0); (try clear c2b1); (try clear p2)
      obtain ⟨x5_1, x6_1, x7_1, rfl, HA, HK1, HO_5, HO_6, HB⟩ := hrel
      cases gk with
      | zero => exact absurd HA.out (by simp [larderref02_Parse.l0])
      | succ k1 =>
        have H := HA.out
        clear HA
        simp only [larderref02_Parse.l0] at H
        by_cases c3 : x7_1 < (a0.size : Int)
        · rw [if_pos c3] at H
          have c3b0 : decide (x7_1 < (a0.size : Int)) = true := decide_eq_true c3
          clear c3
          by_cases c4 : 0 ≤ x7_1
          · rw [if_pos c4] at H
            have c4b0 := eq_true c4
            have c4b1 : decide (0 ≤ x7_1) = true := decide_eq_true c4
            clear c4
            by_cases c5 : x7_1 ≤ (a0.size : Int)
            · rw [if_pos c5] at H
              have c5b0 := eq_true c5
              have c5b1 : decide (x7_1 ≤ (a0.size : Int)) = true := decide_eq_true c5
              clear c5
              replace H := Option.bind_eq_some_iff.mp H
              obtain ⟨t103, A60, H⟩ := H
              replace H : (larderref02_Parse.l1 k1 a0 x5_1 x6_1 x7_1 (a0.extract (x7_1 : Int).toNat a0.size) (⟨#[]⟩ : ByteArray) false t103 0) = some (r1, r2, r3) := H
              have A6 := Aside0.mk A60
              clear A60
              have H' := Aside0.mk H
              clear H
              go_wp2_with (first | (go_at_call 39; (with_reducible refine (larderref02_all.calls  t103 _ A6.out).mono ?_); rintro e w7 ⟨v104, rfl, ho0, hb⟩; have n0_ := Aside0.mk (Kd.R_below (by (with_reducible repeat (first | apply Kd.R_alloc | apply Kd.R_drewN | apply Kd.R_drew)); exact HO_5.out) hb); have n1_ := Aside0.mk (Kd.R_below (by (with_reducible repeat (first | apply Kd.R_alloc | apply Kd.R_drewN | apply Kd.R_drew)); exact HO_6.out) hb); have n2_ := Aside0.mk (Kd.R_lower ho0 (below_size (by repeat (first | (with_reducible first | exact HB.out | apply below_alloc | apply pw_below_drewN | apply below_drew1) | exact HB.out)))); have n3_ := Aside0.mk (below_step (by repeat (first | (with_reducible first | exact HB.out | apply below_alloc | apply pw_below_drewN | apply below_drew1) | exact HB.out)) hb); clear HO_5; clear HO_6; clear HB; have HO_5 := n0_; have HO_6 := n1_; have HO105 := n2_; have HB := n3_; clear n0_ n1_ n2_ n3_; (try clear hb); (try clear hb2); (try clear hk); (try clear hi); (try clear ho0)))
              repeat (go_quiet (first | (go_at_call 39; (with_reducible refine (larderref02_all.calls  t103 _ A6.out).mono ?_); rintro e w7 ⟨v104, rfl, ho0, hb⟩; have n0_ := Aside0.mk (Kd.R_below (by (with_reducible repeat (first | apply Kd.R_alloc | apply Kd.R_drewN | apply Kd.R_drew)); exact HO_5.out) hb); have n1_ := Aside0.mk (Kd.R_below (by (with_reducible repeat (first | apply Kd.R_alloc | apply Kd.R_drewN | apply Kd.R_drew)); exact HO_6.out) hb); have n2_ := Aside0.mk (Kd.R_lower ho0 (below_size (by repeat (first | (with_reducible first | exact HB.out | apply below_alloc | apply pw_below_drewN | apply below_drew1) | exact HB.out)))); have n3_ := Aside0.mk (below_step (by repeat (first | (with_reducible first | exact HB.out | apply below_alloc | apply pw_below_drewN | apply below_drew1) | exact HB.out)) hb); clear HO_5; clear HO_6; clear HB; have HO_5 := n0_; have HO_6 := n1_; have HO105 := n2_; have HB := n3_; clear n0_ n1_ n2_ n3_; (try clear hb); (try clear hb2); (try clear hk); (try clear hi); (try clear ho0))); try go_wp2_with (first | (go_at_call 39; (with_reducible refine (larderref02_all.calls  t103 _ A6.out).mono ?_); rintro e w7 ⟨v104, rfl, ho0, hb⟩; have n0_ := Aside0.mk (Kd.R_below (by (with_reducible repeat (first | apply Kd.R_alloc | apply Kd.R_drewN | apply Kd.R_drew)); exact HO_5.out) hb); have n1_ := Aside0.mk (Kd.R_below (by (with_reducible repeat (first | apply Kd.R_alloc | apply Kd.R_drewN | apply Kd.R_drew)); exact HO_6.out) hb); have n2_ := Aside0.mk (Kd.R_lower ho0 (below_size (by repeat (first | (with_reducible first | exact HB.out | apply below_alloc | apply pw_below_drewN | apply below_drew1) | exact HB.out)))); have n3_ := Aside0.mk (below_step (by repeat (first | (with_reducible first | exact HB.out | apply below_alloc | apply pw_below_drewN | apply below_drew1) | exact HB.out)) hb); clear HO_5; clear HO_6; clear HB; have HO_5 := n0_; have HO_6 := n1_; have HO105 := n2_; have HB := n3_; clear n0_ n1_ n2_ n3_; (try clear hb); (try clear hb2); (try clear hk); (try clear hi); (try clear ho0))))
              go_loopg [9, 10, 12] k1 (fun kq v9 v10 v12 w' => ∃ (x9_2 : ByteArray) (x10_2 : Bool) (x12_2 : Int), v9 = .string x9_2 ∧ v10 = .bool x10_2 ∧ v12 = .int .i64 x12_2 ∧ Aside0 (larderref02_Parse.l1 kq a0 x5_1 x6_1 x7_1 (a0.extract (x7_1 : Int).toNat a0.size) x9_2 x10_2 t103 x12_2 = some (r1, r2, r3)) ∧ Aside0 (kq ≤ k1) ∧ Aside0 (Kd.R k23 23 w' w.heap.size (fun _ => True) u5 x5_1) ∧ Aside0 (Kd.R (Kd.int .i64) 3 w' w.heap.size (fun _ => True) u6 x6_1) ∧ Aside0 (Kd.R Kd.string 9 w' w.heap.size (fun _ => True) v104 t103) ∧ Aside0 (Below w.heap.size w w'))
              case atStart => exact ⟨((⟨#[]⟩ : ByteArray)), (false), (0), (by first | rfl | (simp; done) | (simp [*]; done)), (by first | rfl | (simp; done) | (simp [*]; done)), (by first | rfl | (simp; done) | (simp [*]; done)), H', ⟨Nat.le_refl _⟩, ⟨by (with_reducible repeat (first | apply Kd.R_alloc | apply Kd.R_drewN | apply Kd.R_drew)); exact HO_5.out⟩, ⟨by (with_reducible repeat (first | apply Kd.R_alloc | apply Kd.R_drewN | apply Kd.R_drew)); exact HO_6.out⟩, ⟨by (with_reducible repeat (first | apply Kd.R_alloc | apply Kd.R_drewN | apply Kd.R_drew)); exact HO105.out⟩, ⟨by repeat (first | (with_reducible first | exact HB.out | apply below_alloc | apply pw_below_drewN | apply below_drew1) | exact HB.out)⟩⟩
              case round =>
                clear H'
                (try clear c1); (try clear c2); (try clear c2b0); (try clear c2b1); (try clear p2); (try clear c3); (try clear c3b0); (try clear c4); (try clear c4b0); (try clear c4b1); (try clear c5); (try clear c5b0); (try clear c5b1); (try clear p2)
                obtain ⟨x9_2, x10_2, x12_2, rfl, rfl, rfl, HA, HK2, HO_5, HO_6, HO_11, HB⟩ := hrel
                cases gk with
                | zero => exact absurd HA.out (by simp [larderref02_Parse.l1])
                | succ k2 =>
                  have H := HA.out
                  clear HA
                  simp only [larderref02_Parse.l1] at H
                  by_cases c8 : x12_2 < (t103.length : Int)
                  · rw [if_pos c8] at H
                    have c8b0 : decide (x12_2 < (t103.length : Int)) = true := decide_eq_true c8
                    clear c8
                    by_cases c9 : 0 ≤ x12_2
                    · rw [if_pos c9] at H
                      have c9b0 : decide (0 ≤ x12_2) = true := decide_eq_true c9
                      clear c9
                      replace H := Option.bind_eq_some_iff.mp H
                      obtain ⟨t107, A100, H⟩ := H
                      replace H : (if t107 = true then (if x10_2 = true then (larderref02_Parse.l1 k2 a0 x5_1 x6_1 x7_1 (a0.extract (x7_1 : Int).toNat a0.size) (rdOf ByteArray.empty t103 x12_2) true t103 (wrap64 (x12_2 + 1))) else (if ((a0.extract (x7_1 : Int).toNat a0.size).size : Int) < ((rdOf ByteArray.empty t103 x12_2).size : Int) then ((larderref02_begins.f (rdOf ByteArray.empty t103 x12_2) (a0.extract (x7_1 : Int).toNat a0.size)).bind fun t111 => (larderref02_Parse.l1 k2 a0 x5_1 x6_1 x7_1 (a0.extract (x7_1 : Int).toNat a0.size) (rdOf ByteArray.empty t103 x12_2) t111 t103 (wrap64 (x12_2 + 1)))) else (larderref02_Parse.l1 k2 a0 x5_1 x6_1 x7_1 (a0.extract (x7_1 : Int).toNat a0.size) (rdOf ByteArray.empty t103 x12_2) false t103 (wrap64 (x12_2 + 1))))) else (if x10_2 = true then (larderref02_Parse.l1 k2 a0 x5_1 x6_1 x7_1 (a0.extract (x7_1 : Int).toNat a0.size) x9_2 true t103 (wrap64 (x12_2 + 1))) else (if ((a0.extract (x7_1 : Int).toNat a0.size).size : Int) < ((rdOf ByteArray.empty t103 x12_2).size : Int) then ((larderref02_begins.f (rdOf ByteArray.empty t103 x12_2) (a0.extract (x7_1 : Int).toNat a0.size)).bind fun t114 => (larderref02_Parse.l1 k2 a0 x5_1 x6_1 x7_1 (a0.extract (x7_1 : Int).toNat a0.size) x9_2 t114 t103 (wrap64 (x12_2 + 1)))) else (larderref02_Parse.l1 k2 a0 x5_1 x6_1 x7_1 (a0.extract (x7_1 : Int).toNat a0.size) x9_2 false t103 (wrap64 (x12_2 + 1)))))) = some (r1, r2, r3) := H
                      have A10 := Aside0.mk A100
                      clear A100
                      by_cases c11 : t107 = true
                      · subst c11
                        have H1 : (if x10_2 = true then (larderref02_Parse.l1 k2 a0 x5_1 x6_1 x7_1 (a0.extract (x7_1 : Int).toNat a0.size) (rdOf ByteArray.empty t103 x12_2) true t103 (wrap64 (x12_2 + 1))) else (if ((a0.extract (x7_1 : Int).toNat a0.size).size : Int) < ((rdOf ByteArray.empty t103 x12_2).size : Int) then ((larderref02_begins.f (rdOf ByteArray.empty t103 x12_2) (a0.extract (x7_1 : Int).toNat a0.size)).bind fun t111 => (larderref02_Parse.l1 k2 a0 x5_1 x6_1 x7_1 (a0.extract (x7_1 : Int).toNat a0.size) (rdOf ByteArray.empty t103 x12_2) t111 t103 (wrap64 (x12_2 + 1)))) else (larderref02_Parse.l1 k2 a0 x5_1 x6_1 x7_1 (a0.extract (x7_1 : Int).toNat a0.size) (rdOf ByteArray.empty t103 x12_2) false t103 (wrap64 (x12_2 + 1))))) = some (r1, r2, r3) := by rw [if_pos rfl] at H; exact H
                        clear H
                        have H := H1
                        clear H1
                        by_cases c12 : x10_2 = true
                        · subst c12
                          have H1 : (larderref02_Parse.l1 k2 a0 x5_1 x6_1 x7_1 (a0.extract (x7_1 : Int).toNat a0.size) (rdOf ByteArray.empty t103 x12_2) true t103 (wrap64 (x12_2 + 1))) = some (r1, r2, r3) := by rw [if_pos rfl] at H; exact H
                          clear H
                          have H := H1
                          clear H1
                          have H' := Aside0.mk H
                          clear H
                          obtain ⟨Ao13, co13, eo13⟩ := Kd.R_slice HO_11.out
                          subst eo13
                          have p106 : 0 ≤ (x12_2 : Int) := of_decide_eq_true (by first | (with_reducible assumption) | assumption)
                          have q106 : x12_2 < (t103.length : Int) := of_decide_eq_true (by first | (with_reducible assumption) | assumption)
                          obtain ⟨ad106, e106, hx106_0⟩ := Kd.at_string (Kd.R_reads' HO_11.out).2.2 x12_2 p106 q106
                          cases e106
                          replace p106 := eq_true p106
                          replace q106 := eq_true q106
                          go_wp2_with (first | (go_at_call 40; (with_reducible refine (larderref02_begins.calls (a0.extract (x7_1 : Int).toNat a0.size) (rdOf ByteArray.empty t103 x12_2) true _ A10.out).mono ?_); rintro e w' ⟨rfl, ⟨nd, rfl⟩⟩; (try first | exact ⟨rfl, _, World.drewN_drewN _ _ _⟩ | exact ⟨rfl, _, Eq.trans (World.drewN_drewN _ _ _) (congrArg (World.drewN _) (Nat.add_assoc _ _ _))⟩); have p108 : 0 ≤ (x12_2 : Int) := of_decide_eq_true (by first | (with_reducible assumption) | assumption); have q108 : x12_2 < (t103.length : Int) := of_decide_eq_true (by first | (with_reducible assumption) | assumption); obtain ⟨ad108, e108, hx108_0⟩ := Kd.at_string (Kd.R_reads' HO_11.out).2.2 x12_2 p108 q108; obtain rfl : ad106 = ad108 := (by injection e108); replace p108 := eq_true p108; replace q108 := eq_true q108))
                          repeat (go_quiet (first | (go_at_call 40; (with_reducible refine (larderref02_begins.calls (a0.extract (x7_1 : Int).toNat a0.size) (rdOf ByteArray.empty t103 x12_2) true _ A10.out).mono ?_); rintro e w' ⟨rfl, ⟨nd, rfl⟩⟩; (try first | exact ⟨rfl, _, World.drewN_drewN _ _ _⟩ | exact ⟨rfl, _, Eq.trans (World.drewN_drewN _ _ _) (congrArg (World.drewN _) (Nat.add_assoc _ _ _))⟩); have p108 : 0 ≤ (x12_2 : Int) := of_decide_eq_true (by first | (with_reducible assumption) | assumption); have q108 : x12_2 < (t103.length : Int) := of_decide_eq_true (by first | (with_reducible assumption) | assumption); obtain ⟨ad108, e108, hx108_0⟩ := Kd.at_string (Kd.R_reads' HO_11.out).2.2 x12_2 p108 q108; obtain rfl : ad106 = ad108 := (by injection e108); replace p108 := eq_true p108; replace q108 := eq_true q108)); try go_wp2_with (first | (go_at_call 40; (with_reducible refine (larderref02_begins.calls (a0.extract (x7_1 : Int).toNat a0.size) (rdOf ByteArray.empty t103 x12_2) true _ A10.out).mono ?_); rintro e w' ⟨rfl, ⟨nd, rfl⟩⟩; (try first | exact ⟨rfl, _, World.drewN_drewN _ _ _⟩ | exact ⟨rfl, _, Eq.trans (World.drewN_drewN _ _ _) (congrArg (World.drewN _) (Nat.add_assoc _ _ _))⟩); have p108 : 0 ≤ (x12_2 : Int) := of_decide_eq_true (by first | (with_reducible assumption) | assumption); have q108 : x12_2 < (t103.length : Int) := of_decide_eq_true (by first | (with_reducible assumption) | assumption); obtain ⟨ad108, e108, hx108_0⟩ := Kd.at_string (Kd.R_reads' HO_11.out).2.2 x12_2 p108 q108; obtain rfl : ad106 = ad108 := (by injection e108); replace p108 := eq_true p108; replace q108 := eq_true q108)))
                          go_roundg k2
                          case measure => have := HK1.out; have := HK2.out; omega
                          case rel => exact ⟨(rdOf ByteArray.empty t103 x12_2), (true), (wrap64 (x12_2 + 1)), (by first | rfl | (simp; done) | (simp [*]; done)), (by first | rfl | (simp; done) | (simp [*]; done)), (by first | rfl | (simp; done) | (simp [*]; done)), H', ⟨by have := HK1.out; have := HK2.out; omega⟩, ⟨by (with_reducible repeat (first | apply Kd.R_alloc | apply Kd.R_drewN | apply Kd.R_drew)); exact HO_5.out⟩, ⟨by (with_reducible repeat (first | apply Kd.R_alloc | apply Kd.R_drewN | apply Kd.R_drew)); exact HO_6.out⟩, ⟨by (with_reducible repeat (first | apply Kd.R_alloc | apply Kd.R_drewN | apply Kd.R_drew)); exact HO_11.out⟩, ⟨by repeat (first | (with_reducible first | exact HB.out | apply below_alloc | apply pw_below_drewN | apply below_drew1) | exact HB.out)⟩⟩
                        · replace c12 := Bool.eq_false_iff.mpr c12
                          subst c12
                          have H1 : (if ((a0.extract (x7_1 : Int).toNat a0.size).size : Int) < ((rdOf ByteArray.empty t103 x12_2).size : Int) then ((larderref02_begins.f (rdOf ByteArray.empty t103 x12_2) (a0.extract (x7_1 : Int).toNat a0.size)).bind fun t111 => (larderref02_Parse.l1 k2 a0 x5_1 x6_1 x7_1 (a0.extract (x7_1 : Int).toNat a0.size) (rdOf ByteArray.empty t103 x12_2) t111 t103 (wrap64 (x12_2 + 1)))) else (larderref02_Parse.l1 k2 a0 x5_1 x6_1 x7_1 (a0.extract (x7_1 : Int).toNat a0.size) (rdOf ByteArray.empty t103 x12_2) false t103 (wrap64 (x12_2 + 1)))) = some (r1, r2, r3) := by rw [if_neg (show ¬ (false = true) by decide)] at H; exact H
                          clear H
                          have H := H1
                          clear H1
                          by_cases c14 : ((a0.extract (x7_1 : Int).toNat a0.size).size : Int) < ((rdOf ByteArray.empty t103 x12_2).size : Int)
                          · rw [if_pos c14] at H
                            have c14b0 : decide (((a0.extract (x7_1 : Int).toNat a0.size).size : Int) < ((rdOf ByteArray.empty t103 x12_2).size : Int)) = true := decide_eq_true c14
                            have c14b1 : decide ((a0.extract (x7_1 : Int).toNat a0.size).size < (rdOf ByteArray.empty t103 x12_2).size) = true := decide_eq_true (Int.ofNat_lt.mp c14)
                            try have c14b3 := c14b1; try simp only [ByteArray.size_extract, Nat.min_self, Nat.sub_zero] at c14b3
                            clear c14
                            replace H := Option.bind_eq_some_iff.mp H
                            obtain ⟨t111, A150, H⟩ := H
                            replace H : (larderref02_Parse.l1 k2 a0 x5_1 x6_1 x7_1 (a0.extract (x7_1 : Int).toNat a0.size) (rdOf ByteArray.empty t103 x12_2) t111 t103 (wrap64 (x12_2 + 1))) = some (r1, r2, r3) := H
                            have A15 := Aside0.mk A150
                            clear A150
                            have H' := Aside0.mk H
                            clear H
                            obtain ⟨Ao16, co16, eo16⟩ := Kd.R_slice HO_11.out
                            subst eo16
                            have p106 : 0 ≤ (x12_2 : Int) := of_decide_eq_true (by first | (with_reducible assumption) | assumption)
                            have q106 : x12_2 < (t103.length : Int) := of_decide_eq_true (by first | (with_reducible assumption) | assumption)
                            obtain ⟨ad106, e106, hx106_0⟩ := Kd.at_string (Kd.R_reads' HO_11.out).2.2 x12_2 p106 q106
                            cases e106
                            replace p106 := eq_true p106
                            replace q106 := eq_true q106
                            go_wp2_with (first | (go_at_call 40; (with_reducible refine (larderref02_begins.calls (a0.extract (x7_1 : Int).toNat a0.size) (rdOf ByteArray.empty t103 x12_2) true _ A10.out).mono ?_); rintro e w' ⟨rfl, ⟨nd, rfl⟩⟩; (try first | exact ⟨rfl, _, World.drewN_drewN _ _ _⟩ | exact ⟨rfl, _, Eq.trans (World.drewN_drewN _ _ _) (congrArg (World.drewN _) (Nat.add_assoc _ _ _))⟩); have p108 : 0 ≤ (x12_2 : Int) := of_decide_eq_true (by first | (with_reducible assumption) | assumption); have q108 : x12_2 < (t103.length : Int) := of_decide_eq_true (by first | (with_reducible assumption) | assumption); obtain ⟨ad108, e108, hx108_0⟩ := Kd.at_string (Kd.R_reads' HO_11.out).2.2 x12_2 p108 q108; obtain rfl : ad106 = ad108 := (by injection e108); replace p108 := eq_true p108; replace q108 := eq_true q108; have p109 : 0 ≤ (x12_2 : Int) := of_decide_eq_true (by first | (with_reducible assumption) | assumption); have q109 : x12_2 < (t103.length : Int) := of_decide_eq_true (by first | (with_reducible assumption) | assumption); obtain ⟨ad109, e109, hx109_0⟩ := Kd.at_string (Kd.R_reads' HO_11.out).2.2 x12_2 p109 q109; obtain rfl : ad106 = ad109 := (by injection e109); replace p109 := eq_true p109; replace q109 := eq_true q109; have p110 : 0 ≤ (x12_2 : Int) := of_decide_eq_true (by first | (with_reducible assumption) | assumption); have q110 : x12_2 < (t103.length : Int) := of_decide_eq_true (by first | (with_reducible assumption) | assumption); obtain ⟨ad110, e110, hx110_0⟩ := Kd.at_string (Kd.R_reads' HO_11.out).2.2 x12_2 p110 q110; obtain rfl : ad106 = ad110 := (by injection e110); replace p110 := eq_true p110; replace q110 := eq_true q110) | (go_at_call 40; (with_reducible refine (larderref02_begins.calls (rdOf ByteArray.empty t103 x12_2) (a0.extract (x7_1 : Int).toNat a0.size) t111 _ A15.out).mono ?_); rintro e w' ⟨rfl, ⟨nd, rfl⟩⟩; (try first | exact ⟨rfl, _, World.drewN_drewN _ _ _⟩ | exact ⟨rfl, _, Eq.trans (World.drewN_drewN _ _ _) (congrArg (World.drewN _) (Nat.add_assoc _ _ _))⟩)))
                            repeat (go_quiet (first | (go_at_call 40; (with_reducible refine (larderref02_begins.calls (a0.extract (x7_1 : Int).toNat a0.size) (rdOf ByteArray.empty t103 x12_2) true _ A10.out).mono ?_); rintro e w' ⟨rfl, ⟨nd, rfl⟩⟩; (try first | exact ⟨rfl, _, World.drewN_drewN _ _ _⟩ | exact ⟨rfl, _, Eq.trans (World.drewN_drewN _ _ _) (congrArg (World.drewN _) (Nat.add_assoc _ _ _))⟩); have p108 : 0 ≤ (x12_2 : Int) := of_decide_eq_true (by first | (with_reducible assumption) | assumption); have q108 : x12_2 < (t103.length : Int) := of_decide_eq_true (by first | (with_reducible assumption) | assumption); obtain ⟨ad108, e108, hx108_0⟩ := Kd.at_string (Kd.R_reads' HO_11.out).2.2 x12_2 p108 q108; obtain rfl : ad106 = ad108 := (by injection e108); replace p108 := eq_true p108; replace q108 := eq_true q108; have p109 : 0 ≤ (x12_2 : Int) := of_decide_eq_true (by first | (with_reducible assumption) | assumption); have q109 : x12_2 < (t103.length : Int) := of_decide_eq_true (by first | (with_reducible assumption) | assumption); obtain ⟨ad109, e109, hx109_0⟩ := Kd.at_string (Kd.R_reads' HO_11.out).2.2 x12_2 p109 q109; obtain rfl : ad106 = ad109 := (by injection e109); replace p109 := eq_true p109; replace q109 := eq_true q109; have p110 : 0 ≤ (x12_2 : Int) := of_decide_eq_true (by first | (with_reducible assumption) | assumption); have q110 : x12_2 < (t103.length : Int) := of_decide_eq_true (by first | (with_reducible assumption) | assumption); obtain ⟨ad110, e110, hx110_0⟩ := Kd.at_string (Kd.R_reads' HO_11.out).2.2 x12_2 p110 q110; obtain rfl : ad106 = ad110 := (by injection e110); replace p110 := eq_true p110; replace q110 := eq_true q110) | (go_at_call 40; (with_reducible refine (larderref02_begins.calls (rdOf ByteArray.empty t103 x12_2) (a0.extract (x7_1 : Int).toNat a0.size) t111 _ A15.out).mono ?_); rintro e w' ⟨rfl, ⟨nd, rfl⟩⟩; (try first | exact ⟨rfl, _, World.drewN_drewN _ _ _⟩ | exact ⟨rfl, _, Eq.trans (World.drewN_drewN _ _ _) (congrArg (World.drewN _) (Nat.add_assoc _ _ _))⟩))); try go_wp2_with (first | (go_at_call 40; (with_reducible refine (larderref02_begins.calls (a0.extract (x7_1 : Int).toNat a0.size) (rdOf ByteArray.empty t103 x12_2) true _ A10.out).mono ?_); rintro e w' ⟨rfl, ⟨nd, rfl⟩⟩; (try first | exact ⟨rfl, _, World.drewN_drewN _ _ _⟩ | exact ⟨rfl, _, Eq.trans (World.drewN_drewN _ _ _) (congrArg (World.drewN _) (Nat.add_assoc _ _ _))⟩); have p108 : 0 ≤ (x12_2 : Int) := of_decide_eq_true (by first | (with_reducible assumption) | assumption); have q108 : x12_2 < (t103.length : Int) := of_decide_eq_true (by first | (with_reducible assumption) | assumption); obtain ⟨ad108, e108, hx108_0⟩ := Kd.at_string (Kd.R_reads' HO_11.out).2.2 x12_2 p108 q108; obtain rfl : ad106 = ad108 := (by injection e108); replace p108 := eq_true p108; replace q108 := eq_true q108; have p109 : 0 ≤ (x12_2 : Int) := of_decide_eq_true (by first | (with_reducible assumption) | assumption); have q109 : x12_2 < (t103.length : Int) := of_decide_eq_true (by first | (with_reducible assumption) | assumption); obtain ⟨ad109, e109, hx109_0⟩ := Kd.at_string (Kd.R_reads' HO_11.out).2.2 x12_2 p109 q109; obtain rfl : ad106 = ad109 := (by injection e109); replace p109 := eq_true p109; replace q109 := eq_true q109; have p110 : 0 ≤ (x12_2 : Int) := of_decide_eq_true (by first | (with_reducible assumption) | assumption); have q110 : x12_2 < (t103.length : Int) := of_decide_eq_true (by first | (with_reducible assumption) | assumption); obtain ⟨ad110, e110, hx110_0⟩ := Kd.at_string (Kd.R_reads' HO_11.out).2.2 x12_2 p110 q110; obtain rfl : ad106 = ad110 := (by injection e110); replace p110 := eq_true p110; replace q110 := eq_true q110) | (go_at_call 40; (with_reducible refine (larderref02_begins.calls (rdOf ByteArray.empty t103 x12_2) (a0.extract (x7_1 : Int).toNat a0.size) t111 _ A15.out).mono ?_); rintro e w' ⟨rfl, ⟨nd, rfl⟩⟩; (try first | exact ⟨rfl, _, World.drewN_drewN _ _ _⟩ | exact ⟨rfl, _, Eq.trans (World.drewN_drewN _ _ _) (congrArg (World.drewN _) (Nat.add_assoc _ _ _))⟩))))
                            go_roundg k2
                            case measure => have := HK1.out; have := HK2.out; omega
                            case rel => exact ⟨(rdOf ByteArray.empty t103 x12_2), (t111), (wrap64 (x12_2 + 1)), (by first | rfl | (simp; done) | (simp [*]; done)), (by first | rfl | (simp; done) | (simp [*]; done)), (by first | rfl | (simp; done) | (simp [*]; done)), H', ⟨by have := HK1.out; have := HK2.out; omega⟩, ⟨by (with_reducible repeat (first | apply Kd.R_alloc | apply Kd.R_drewN | apply Kd.R_drew)); exact HO_5.out⟩, ⟨by (with_reducible repeat (first | apply Kd.R_alloc | apply Kd.R_drewN | apply Kd.R_drew)); exact HO_6.out⟩, ⟨by (with_reducible repeat (first | apply Kd.R_alloc | apply Kd.R_drewN | apply Kd.R_drew)); exact HO_11.out⟩, ⟨by repeat (first | (with_reducible first | exact HB.out | apply below_alloc | apply pw_below_drewN | apply below_drew1) | exact HB.out)⟩⟩
                          · rw [if_neg c14] at H
                            have c14b0 : decide (((a0.extract (x7_1 : Int).toNat a0.size).size : Int) < ((rdOf ByteArray.empty t103 x12_2).size : Int)) = false := decide_eq_false c14
                            have c14b1 : decide ((a0.extract (x7_1 : Int).toNat a0.size).size < (rdOf ByteArray.empty t103 x12_2).size) = false := decide_eq_false (fun h => c14 (Int.ofNat_lt.mpr h))
                            try have c14b3 := c14b1; try simp only [ByteArray.size_extract, Nat.min_self, Nat.sub_zero] at c14b3
                            clear c14
                            have H' := Aside0.mk H
                            clear H
                            obtain ⟨Ao17, co17, eo17⟩ := Kd.R_slice HO_11.out
                            subst eo17
                            have p106 : 0 ≤ (x12_2 : Int) := of_decide_eq_true (by first | (with_reducible assumption) | assumption)
                            have q106 : x12_2 < (t103.length : Int) := of_decide_eq_true (by first | (with_reducible assumption) | assumption)
                            obtain ⟨ad106, e106, hx106_0⟩ := Kd.at_string (Kd.R_reads' HO_11.out).2.2 x12_2 p106 q106
                            cases e106
                            replace p106 := eq_true p106
                            replace q106 := eq_true q106
                            go_wp2_with (first | (go_at_call 40; (with_reducible refine (larderref02_begins.calls (a0.extract (x7_1 : Int).toNat a0.size) (rdOf ByteArray.empty t103 x12_2) true _ A10.out).mono ?_); rintro e w' ⟨rfl, ⟨nd, rfl⟩⟩; (try first | exact ⟨rfl, _, World.drewN_drewN _ _ _⟩ | exact ⟨rfl, _, Eq.trans (World.drewN_drewN _ _ _) (congrArg (World.drewN _) (Nat.add_assoc _ _ _))⟩); have p108 : 0 ≤ (x12_2 : Int) := of_decide_eq_true (by first | (with_reducible assumption) | assumption); have q108 : x12_2 < (t103.length : Int) := of_decide_eq_true (by first | (with_reducible assumption) | assumption); obtain ⟨ad108, e108, hx108_0⟩ := Kd.at_string (Kd.R_reads' HO_11.out).2.2 x12_2 p108 q108; obtain rfl : ad106 = ad108 := (by injection e108); replace p108 := eq_true p108; replace q108 := eq_true q108; have p109 : 0 ≤ (x12_2 : Int) := of_decide_eq_true (by first | (with_reducible assumption) | assumption); have q109 : x12_2 < (t103.length : Int) := of_decide_eq_true (by first | (with_reducible assumption) | assumption); obtain ⟨ad109, e109, hx109_0⟩ := Kd.at_string (Kd.R_reads' HO_11.out).2.2 x12_2 p109 q109; obtain rfl : ad106 = ad109 := (by injection e109); replace p109 := eq_true p109; replace q109 := eq_true q109))
                            repeat (go_quiet (first | (go_at_call 40; (with_reducible refine (larderref02_begins.calls (a0.extract (x7_1 : Int).toNat a0.size) (rdOf ByteArray.empty t103 x12_2) true _ A10.out).mono ?_); rintro e w' ⟨rfl, ⟨nd, rfl⟩⟩; (try first | exact ⟨rfl, _, World.drewN_drewN _ _ _⟩ | exact ⟨rfl, _, Eq.trans (World.drewN_drewN _ _ _) (congrArg (World.drewN _) (Nat.add_assoc _ _ _))⟩); have p108 : 0 ≤ (x12_2 : Int) := of_decide_eq_true (by first | (with_reducible assumption) | assumption); have q108 : x12_2 < (t103.length : Int) := of_decide_eq_true (by first | (with_reducible assumption) | assumption); obtain ⟨ad108, e108, hx108_0⟩ := Kd.at_string (Kd.R_reads' HO_11.out).2.2 x12_2 p108 q108; obtain rfl : ad106 = ad108 := (by injection e108); replace p108 := eq_true p108; replace q108 := eq_true q108; have p109 : 0 ≤ (x12_2 : Int) := of_decide_eq_true (by first | (with_reducible assumption) | assumption); have q109 : x12_2 < (t103.length : Int) := of_decide_eq_true (by first | (with_reducible assumption) | assumption); obtain ⟨ad109, e109, hx109_0⟩ := Kd.at_string (Kd.R_reads' HO_11.out).2.2 x12_2 p109 q109; obtain rfl : ad106 = ad109 := (by injection e109); replace p109 := eq_true p109; replace q109 := eq_true q109)); try go_wp2_with (first | (go_at_call 40; (with_reducible refine (larderref02_begins.calls (a0.extract (x7_1 : Int).toNat a0.size) (rdOf ByteArray.empty t103 x12_2) true _ A10.out).mono ?_); rintro e w' ⟨rfl, ⟨nd, rfl⟩⟩; (try first | exact ⟨rfl, _, World.drewN_drewN _ _ _⟩ | exact ⟨rfl, _, Eq.trans (World.drewN_drewN _ _ _) (congrArg (World.drewN _) (Nat.add_assoc _ _ _))⟩); have p108 : 0 ≤ (x12_2 : Int) := of_decide_eq_true (by first | (with_reducible assumption) | assumption); have q108 : x12_2 < (t103.length : Int) := of_decide_eq_true (by first | (with_reducible assumption) | assumption); obtain ⟨ad108, e108, hx108_0⟩ := Kd.at_string (Kd.R_reads' HO_11.out).2.2 x12_2 p108 q108; obtain rfl : ad106 = ad108 := (by injection e108); replace p108 := eq_true p108; replace q108 := eq_true q108; have p109 : 0 ≤ (x12_2 : Int) := of_decide_eq_true (by first | (with_reducible assumption) | assumption); have q109 : x12_2 < (t103.length : Int) := of_decide_eq_true (by first | (with_reducible assumption) | assumption); obtain ⟨ad109, e109, hx109_0⟩ := Kd.at_string (Kd.R_reads' HO_11.out).2.2 x12_2 p109 q109; obtain rfl : ad106 = ad109 := (by injection e109); replace p109 := eq_true p109; replace q109 := eq_true q109)))
                            go_roundg k2
                            case measure => have := HK1.out; have := HK2.out; omega
                            case rel => exact ⟨(rdOf ByteArray.empty t103 x12_2), (false), (wrap64 (x12_2 + 1)), (by first | rfl | (simp; done) | (simp [*]; done)), (by first | rfl | (simp; done) | (simp [*]; done)), (by first | rfl | (simp; done) | (simp [*]; done)), H', ⟨by have := HK1.out; have := HK2.out; omega⟩, ⟨by (with_reducible repeat (first | apply Kd.R_alloc | apply Kd.R_drewN | apply Kd.R_drew)); exact HO_5.out⟩, ⟨by (with_reducible repeat (first | apply Kd.R_alloc | apply Kd.R_drewN | apply Kd.R_drew)); exact HO_6.out⟩, ⟨by (with_reducible repeat (first | apply Kd.R_alloc | apply Kd.R_drewN | apply Kd.R_drew)); exact HO_11.out⟩, ⟨by repeat (first | (with_reducible first | exact HB.out | apply below_alloc | apply pw_below_drewN | apply below_drew1) | exact HB.out)⟩⟩
                      · replace c11 := Bool.eq_false_iff.mpr c11
                        subst c11
                        have H1 : (if x10_2 = true then (larderref02_Parse.l1 k2 a0 x5_1 x6_1 x7_1 (a0.extract (x7_1 : Int).toNat a0.size) x9_2 true t103 (wrap64 (x12_2 + 1))) else (if ((a0.extract (x7_1 : Int).toNat a0.size).size : Int) < ((rdOf ByteArray.empty t103 x12_2).size : Int) then ((larderref02_begins.f (rdOf ByteArray.empty t103 x12_2) (a0.extract (x7_1 : Int).toNat a0.size)).bind fun t114 => (larderref02_Parse.l1 k2 a0 x5_1 x6_1 x7_1 (a0.extract (x7_1 : Int).toNat a0.size) x9_2 t114 t103 (wrap64 (x12_2 + 1)))) else (larderref02_Parse.l1 k2 a0 x5_1 x6_1 x7_1 (a0.extract (x7_1 : Int).toNat a0.size) x9_2 false t103 (wrap64 (x12_2 + 1))))) = some (r1, r2, r3) := by rw [if_neg (show ¬ (false = true) by decide)] at H; exact H
                        clear H
                        have H := H1
                        clear H1
                        by_cases c18 : x10_2 = true
                        · subst c18
                          have H1 : (larderref02_Parse.l1 k2 a0 x5_1 x6_1 x7_1 (a0.extract (x7_1 : Int).toNat a0.size) x9_2 true t103 (wrap64 (x12_2 + 1))) = some (r1, r2, r3) := by rw [if_pos rfl] at H; exact H
                          clear H
                          have H := H1
                          clear H1
                          have H' := Aside0.mk H
                          clear H
                          obtain ⟨Ao19, co19, eo19⟩ := Kd.R_slice HO_11.out
                          subst eo19
                          have p106 : 0 ≤ (x12_2 : Int) := of_decide_eq_true (by first | (with_reducible assumption) | assumption)
                          have q106 : x12_2 < (t103.length : Int) := of_decide_eq_true (by first | (with_reducible assumption) | assumption)
                          obtain ⟨ad106, e106, hx106_0⟩ := Kd.at_string (Kd.R_reads' HO_11.out).2.2 x12_2 p106 q106
                          cases e106
                          replace p106 := eq_true p106
                          replace q106 := eq_true q106
                          go_wp2_with (first | (go_at_call 40; (with_reducible refine (larderref02_begins.calls (a0.extract (x7_1 : Int).toNat a0.size) (rdOf ByteArray.empty t103 x12_2) false _ A10.out).mono ?_); rintro e w' ⟨rfl, ⟨nd, rfl⟩⟩; (try first | exact ⟨rfl, _, World.drewN_drewN _ _ _⟩ | exact ⟨rfl, _, Eq.trans (World.drewN_drewN _ _ _) (congrArg (World.drewN _) (Nat.add_assoc _ _ _))⟩)))
                          repeat (go_quiet (first | (go_at_call 40; (with_reducible refine (larderref02_begins.calls (a0.extract (x7_1 : Int).toNat a0.size) (rdOf ByteArray.empty t103 x12_2) false _ A10.out).mono ?_); rintro e w' ⟨rfl, ⟨nd, rfl⟩⟩; (try first | exact ⟨rfl, _, World.drewN_drewN _ _ _⟩ | exact ⟨rfl, _, Eq.trans (World.drewN_drewN _ _ _) (congrArg (World.drewN _) (Nat.add_assoc _ _ _))⟩))); try go_wp2_with (first | (go_at_call 40; (with_reducible refine (larderref02_begins.calls (a0.extract (x7_1 : Int).toNat a0.size) (rdOf ByteArray.empty t103 x12_2) false _ A10.out).mono ?_); rintro e w' ⟨rfl, ⟨nd, rfl⟩⟩; (try first | exact ⟨rfl, _, World.drewN_drewN _ _ _⟩ | exact ⟨rfl, _, Eq.trans (World.drewN_drewN _ _ _) (congrArg (World.drewN _) (Nat.add_assoc _ _ _))⟩))))
                          go_roundg k2
                          case measure => have := HK1.out; have := HK2.out; omega
                          case rel => exact ⟨(x9_2), (true), (wrap64 (x12_2 + 1)), (by first | rfl | (simp; done) | (simp [*]; done)), (by first | rfl | (simp; done) | (simp [*]; done)), (by first | rfl | (simp; done) | (simp [*]; done)), H', ⟨by have := HK1.out; have := HK2.out; omega⟩, ⟨by (with_reducible repeat (first | apply Kd.R_alloc | apply Kd.R_drewN | apply Kd.R_drew)); exact HO_5.out⟩, ⟨by (with_reducible repeat (first | apply Kd.R_alloc | apply Kd.R_drewN | apply Kd.R_drew)); exact HO_6.out⟩, ⟨by (with_reducible repeat (first | apply Kd.R_alloc | apply Kd.R_drewN | apply Kd.R_drew)); exact HO_11.out⟩, ⟨by repeat (first | (with_reducible first | exact HB.out | apply below_alloc | apply pw_below_drewN | apply below_drew1) | exact HB.out)⟩⟩
                        · replace c18 := Bool.eq_false_iff.mpr c18
                          subst c18
                          have H1 : (if ((a0.extract (x7_1 : Int).toNat a0.size).size : Int) < ((rdOf ByteArray.empty t103 x12_2).size : Int) then ((larderref02_begins.f (rdOf ByteArray.empty t103 x12_2) (a0.extract (x7_1 : Int).toNat a0.size)).bind fun t114 => (larderref02_Parse.l1 k2 a0 x5_1 x6_1 x7_1 (a0.extract (x7_1 : Int).toNat a0.size) x9_2 t114 t103 (wrap64 (x12_2 + 1)))) else (larderref02_Parse.l1 k2 a0 x5_1 x6_1 x7_1 (a0.extract (x7_1 : Int).toNat a0.size) x9_2 false t103 (wrap64 (x12_2 + 1)))) = some (r1, r2, r3) := by rw [if_neg (show ¬ (false = true) by decide)] at H; exact H
                          clear H
                          have H := H1
                          clear H1
                          by_cases c20 : ((a0.extract (x7_1 : Int).toNat a0.size).size : Int) < ((rdOf ByteArray.empty t103 x12_2).size : Int)
                          · rw [if_pos c20] at H
                            have c20b0 : decide (((a0.extract (x7_1 : Int).toNat a0.size).size : Int) < ((rdOf ByteArray.empty t103 x12_2).size : Int)) = true := decide_eq_true c20
                            have c20b1 : decide ((a0.extract (x7_1 : Int).toNat a0.size).size < (rdOf ByteArray.empty t103 x12_2).size) = true := decide_eq_true (Int.ofNat_lt.mp c20)
                            try have c20b3 := c20b1; try simp only [ByteArray.size_extract, Nat.min_self, Nat.sub_zero] at c20b3
                            clear c20
                            replace H := Option.bind_eq_some_iff.mp H
                            obtain ⟨t114, A210, H⟩ := H
                            replace H : (larderref02_Parse.l1 k2 a0 x5_1 x6_1 x7_1 (a0.extract (x7_1 : Int).toNat a0.size) x9_2 t114 t103 (wrap64 (x12_2 + 1))) = some (r1, r2, r3) := H
                            have A21 := Aside0.mk A210
                            clear A210
                            have H' := Aside0.mk H
                            clear H
                            obtain ⟨Ao22, co22, eo22⟩ := Kd.R_slice HO_11.out
                            subst eo22
                            have p106 : 0 ≤ (x12_2 : Int) := of_decide_eq_true (by first | (with_reducible assumption) | assumption)
                            have q106 : x12_2 < (t103.length : Int) := of_decide_eq_true (by first | (with_reducible assumption) | assumption)
                            obtain ⟨ad106, e106, hx106_0⟩ := Kd.at_string (Kd.R_reads' HO_11.out).2.2 x12_2 p106 q106
                            cases e106
                            replace p106 := eq_true p106
                            replace q106 := eq_true q106
                            go_wp2_with (first | (go_at_call 40; (with_reducible refine (larderref02_begins.calls (a0.extract (x7_1 : Int).toNat a0.size) (rdOf ByteArray.empty t103 x12_2) false _ A10.out).mono ?_); rintro e w' ⟨rfl, ⟨nd, rfl⟩⟩; (try first | exact ⟨rfl, _, World.drewN_drewN _ _ _⟩ | exact ⟨rfl, _, Eq.trans (World.drewN_drewN _ _ _) (congrArg (World.drewN _) (Nat.add_assoc _ _ _))⟩); have p112 : 0 ≤ (x12_2 : Int) := of_decide_eq_true (by first | (with_reducible assumption) | assumption); have q112 : x12_2 < (t103.length : Int) := of_decide_eq_true (by first | (with_reducible assumption) | assumption); obtain ⟨ad112, e112, hx112_0⟩ := Kd.at_string (Kd.R_reads' HO_11.out).2.2 x12_2 p112 q112; obtain rfl : ad106 = ad112 := (by injection e112); replace p112 := eq_true p112; replace q112 := eq_true q112; have p113 : 0 ≤ (x12_2 : Int) := of_decide_eq_true (by first | (with_reducible assumption) | assumption); have q113 : x12_2 < (t103.length : Int) := of_decide_eq_true (by first | (with_reducible assumption) | assumption); obtain ⟨ad113, e113, hx113_0⟩ := Kd.at_string (Kd.R_reads' HO_11.out).2.2 x12_2 p113 q113; obtain rfl : ad106 = ad113 := (by injection e113); replace p113 := eq_true p113; replace q113 := eq_true q113) | (go_at_call 40; (with_reducible refine (larderref02_begins.calls (rdOf ByteArray.empty t103 x12_2) (a0.extract (x7_1 : Int).toNat a0.size) t114 _ A21.out).mono ?_); rintro e w' ⟨rfl, ⟨nd, rfl⟩⟩; (try first | exact ⟨rfl, _, World.drewN_drewN _ _ _⟩ | exact ⟨rfl, _, Eq.trans (World.drewN_drewN _ _ _) (congrArg (World.drewN _) (Nat.add_assoc _ _ _))⟩)))
                            repeat (go_quiet (first | (go_at_call 40; (with_reducible refine (larderref02_begins.calls (a0.extract (x7_1 : Int).toNat a0.size) (rdOf ByteArray.empty t103 x12_2) false _ A10.out).mono ?_); rintro e w' ⟨rfl, ⟨nd, rfl⟩⟩; (try first | exact ⟨rfl, _, World.drewN_drewN _ _ _⟩ | exact ⟨rfl, _, Eq.trans (World.drewN_drewN _ _ _) (congrArg (World.drewN _) (Nat.add_assoc _ _ _))⟩); have p112 : 0 ≤ (x12_2 : Int) := of_decide_eq_true (by first | (with_reducible assumption) | assumption); have q112 : x12_2 < (t103.length : Int) := of_decide_eq_true (by first | (with_reducible assumption) | assumption); obtain ⟨ad112, e112, hx112_0⟩ := Kd.at_string (Kd.R_reads' HO_11.out).2.2 x12_2 p112 q112; obtain rfl : ad106 = ad112 := (by injection e112); replace p112 := eq_true p112; replace q112 := eq_true q112; have p113 : 0 ≤ (x12_2 : Int) := of_decide_eq_true (by first | (with_reducible assumption) | assumption); have q113 : x12_2 < (t103.length : Int) := of_decide_eq_true (by first | (with_reducible assumption) | assumption); obtain ⟨ad113, e113, hx113_0⟩ := Kd.at_string (Kd.R_reads' HO_11.out).2.2 x12_2 p113 q113; obtain rfl : ad106 = ad113 := (by injection e113); replace p113 := eq_true p113; replace q113 := eq_true q113) | (go_at_call 40; (with_reducible refine (larderref02_begins.calls (rdOf ByteArray.empty t103 x12_2) (a0.extract (x7_1 : Int).toNat a0.size) t114 _ A21.out).mono ?_); rintro e w' ⟨rfl, ⟨nd, rfl⟩⟩; (try first | exact ⟨rfl, _, World.drewN_drewN _ _ _⟩ | exact ⟨rfl, _, Eq.trans (World.drewN_drewN _ _ _) (congrArg (World.drewN _) (Nat.add_assoc _ _ _))⟩))); try go_wp2_with (first | (go_at_call 40; (with_reducible refine (larderref02_begins.calls (a0.extract (x7_1 : Int).toNat a0.size) (rdOf ByteArray.empty t103 x12_2) false _ A10.out).mono ?_); rintro e w' ⟨rfl, ⟨nd, rfl⟩⟩; (try first | exact ⟨rfl, _, World.drewN_drewN _ _ _⟩ | exact ⟨rfl, _, Eq.trans (World.drewN_drewN _ _ _) (congrArg (World.drewN _) (Nat.add_assoc _ _ _))⟩); have p112 : 0 ≤ (x12_2 : Int) := of_decide_eq_true (by first | (with_reducible assumption) | assumption); have q112 : x12_2 < (t103.length : Int) := of_decide_eq_true (by first | (with_reducible assumption) | assumption); obtain ⟨ad112, e112, hx112_0⟩ := Kd.at_string (Kd.R_reads' HO_11.out).2.2 x12_2 p112 q112; obtain rfl : ad106 = ad112 := (by injection e112); replace p112 := eq_true p112; replace q112 := eq_true q112; have p113 : 0 ≤ (x12_2 : Int) := of_decide_eq_true (by first | (with_reducible assumption) | assumption); have q113 : x12_2 < (t103.length : Int) := of_decide_eq_true (by first | (with_reducible assumption) | assumption); obtain ⟨ad113, e113, hx113_0⟩ := Kd.at_string (Kd.R_reads' HO_11.out).2.2 x12_2 p113 q113; obtain rfl : ad106 = ad113 := (by injection e113); replace p113 := eq_true p113; replace q113 := eq_true q113) | (go_at_call 40; (with_reducible refine (larderref02_begins.calls (rdOf ByteArray.empty t103 x12_2) (a0.extract (x7_1 : Int).toNat a0.size) t114 _ A21.out).mono ?_); rintro e w' ⟨rfl, ⟨nd, rfl⟩⟩; (try first | exact ⟨rfl, _, World.drewN_drewN _ _ _⟩ | exact ⟨rfl, _, Eq.trans (World.drewN_drewN _ _ _) (congrArg (World.drewN _) (Nat.add_assoc _ _ _))⟩))))
                            go_roundg k2
                            case measure => have := HK1.out; have := HK2.out; omega
                            case rel => exact ⟨(x9_2), (t114), (wrap64 (x12_2 + 1)), (by first | rfl | (simp; done) | (simp [*]; done)), (by first | rfl | (simp; done) | (simp [*]; done)), (by first | rfl | (simp; done) | (simp [*]; done)), H', ⟨by have := HK1.out; have := HK2.out; omega⟩, ⟨by (with_reducible repeat (first | apply Kd.R_alloc | apply Kd.R_drewN | apply Kd.R_drew)); exact HO_5.out⟩, ⟨by (with_reducible repeat (first | apply Kd.R_alloc | apply Kd.R_drewN | apply Kd.R_drew)); exact HO_6.out⟩, ⟨by (with_reducible repeat (first | apply Kd.R_alloc | apply Kd.R_drewN | apply Kd.R_drew)); exact HO_11.out⟩, ⟨by repeat (first | (with_reducible first | exact HB.out | apply below_alloc | apply pw_below_drewN | apply below_drew1) | exact HB.out)⟩⟩
                          · rw [if_neg c20] at H
                            have c20b0 : decide (((a0.extract (x7_1 : Int).toNat a0.size).size : Int) < ((rdOf ByteArray.empty t103 x12_2).size : Int)) = false := decide_eq_false c20
                            have c20b1 : decide ((a0.extract (x7_1 : Int).toNat a0.size).size < (rdOf ByteArray.empty t103 x12_2).size) = false := decide_eq_false (fun h => c20 (Int.ofNat_lt.mpr h))
                            try have c20b3 := c20b1; try simp only [ByteArray.size_extract, Nat.min_self, Nat.sub_zero] at c20b3
                            clear c20
                            have H' := Aside0.mk H
                            clear H
                            obtain ⟨Ao23, co23, eo23⟩ := Kd.R_slice HO_11.out
                            subst eo23
                            have p106 : 0 ≤ (x12_2 : Int) := of_decide_eq_true (by first | (with_reducible assumption) | assumption)
                            have q106 : x12_2 < (t103.length : Int) := of_decide_eq_true (by first | (with_reducible assumption) | assumption)
                            obtain ⟨ad106, e106, hx106_0⟩ := Kd.at_string (Kd.R_reads' HO_11.out).2.2 x12_2 p106 q106
                            cases e106
                            replace p106 := eq_true p106
                            replace q106 := eq_true q106
                            go_wp2_with (first | (go_at_call 40; (with_reducible refine (larderref02_begins.calls (a0.extract (x7_1 : Int).toNat a0.size) (rdOf ByteArray.empty t103 x12_2) false _ A10.out).mono ?_); rintro e w' ⟨rfl, ⟨nd, rfl⟩⟩; (try first | exact ⟨rfl, _, World.drewN_drewN _ _ _⟩ | exact ⟨rfl, _, Eq.trans (World.drewN_drewN _ _ _) (congrArg (World.drewN _) (Nat.add_assoc _ _ _))⟩); have p112 : 0 ≤ (x12_2 : Int) := of_decide_eq_true (by first | (with_reducible assumption) | assumption); have q112 : x12_2 < (t103.length : Int) := of_decide_eq_true (by first | (with_reducible assumption) | assumption); obtain ⟨ad112, e112, hx112_0⟩ := Kd.at_string (Kd.R_reads' HO_11.out).2.2 x12_2 p112 q112; obtain rfl : ad106 = ad112 := (by injection e112); replace p112 := eq_true p112; replace q112 := eq_true q112))
                            repeat (go_quiet (first | (go_at_call 40; (with_reducible refine (larderref02_begins.calls (a0.extract (x7_1 : Int).toNat a0.size) (rdOf ByteArray.empty t103 x12_2) false _ A10.out).mono ?_); rintro e w' ⟨rfl, ⟨nd, rfl⟩⟩; (try first | exact ⟨rfl, _, World.drewN_drewN _ _ _⟩ | exact ⟨rfl, _, Eq.trans (World.drewN_drewN _ _ _) (congrArg (World.drewN _) (Nat.add_assoc _ _ _))⟩); have p112 : 0 ≤ (x12_2 : Int) := of_decide_eq_true (by first | (with_reducible assumption) | assumption); have q112 : x12_2 < (t103.length : Int) := of_decide_eq_true (by first | (with_reducible assumption) | assumption); obtain ⟨ad112, e112, hx112_0⟩ := Kd.at_string (Kd.R_reads' HO_11.out).2.2 x12_2 p112 q112; obtain rfl : ad106 = ad112 := (by injection e112); replace p112 := eq_true p112; replace q112 := eq_true q112)); try go_wp2_with (first | (go_at_call 40; (with_reducible refine (larderref02_begins.calls (a0.extract (x7_1 : Int).toNat a0.size) (rdOf ByteArray.empty t103 x12_2) false _ A10.out).mono ?_); rintro e w' ⟨rfl, ⟨nd, rfl⟩⟩; (try first | exact ⟨rfl, _, World.drewN_drewN _ _ _⟩ | exact ⟨rfl, _, Eq.trans (World.drewN_drewN _ _ _) (congrArg (World.drewN _) (Nat.add_assoc _ _ _))⟩); have p112 : 0 ≤ (x12_2 : Int) := of_decide_eq_true (by first | (with_reducible assumption) | assumption); have q112 : x12_2 < (t103.length : Int) := of_decide_eq_true (by first | (with_reducible assumption) | assumption); obtain ⟨ad112, e112, hx112_0⟩ := Kd.at_string (Kd.R_reads' HO_11.out).2.2 x12_2 p112 q112; obtain rfl : ad106 = ad112 := (by injection e112); replace p112 := eq_true p112; replace q112 := eq_true q112)))
                            go_roundg k2
                            case measure => have := HK1.out; have := HK2.out; omega
                            case rel => exact ⟨(x9_2), (false), (wrap64 (x12_2 + 1)), (by first | rfl | (simp; done) | (simp [*]; done)), (by first | rfl | (simp; done) | (simp [*]; done)), (by first | rfl | (simp; done) | (simp [*]; done)), H', ⟨by have := HK1.out; have := HK2.out; omega⟩, ⟨by (with_reducible repeat (first | apply Kd.R_alloc | apply Kd.R_drewN | apply Kd.R_drew)); exact HO_5.out⟩, ⟨by (with_reducible repeat (first | apply Kd.R_alloc | apply Kd.R_drewN | apply Kd.R_drew)); exact HO_6.out⟩, ⟨by (with_reducible repeat (first | apply Kd.R_alloc | apply Kd.R_drewN | apply Kd.R_drew)); exact HO_11.out⟩, ⟨by repeat (first | (with_reducible first | exact HB.out | apply below_alloc | apply pw_below_drewN | apply below_drew1) | exact HB.out)⟩⟩
                    · rw [if_neg c9] at H
                      exact absurd H (by simp)
                  · rw [if_neg c8] at H
                    have c8b0 : decide (x12_2 < (t103.length : Int)) = false := decide_eq_false c8
                    clear c8
                    by_cases c24 : x9_2.toList = ([] : List UInt8)
                    · rw [if_pos c24] at H
                      have c24b0 : (x9_2.toList == ([] : List UInt8)) = true := beq_iff_eq.mpr c24
                      have c24b1 : (x9_2.toList != ([] : List UInt8)) = false := bne_eq_false_iff_eq.mpr c24
                      clear c24
                      by_cases c25 : x10_2 = true
                      · subst c25
                        have H1 : (some (([] : List (S23)), 3, (a0.size : Int))) = some (r1, r2, r3) := by rw [if_pos rfl] at H; exact H
                        clear H
                        have H := H1
                        clear H1
                        simp only [Option.some.injEq, Prod.mk.injEq] at H
                        obtain ⟨rfl, rfl, rfl⟩ := H
                        obtain ⟨Ao26, co26, eo26⟩ := Kd.R_slice HO_11.out
                        subst eo26
                        go_wp2
                        repeat (go_quiet (fail); try go_wp2)
                        go_ret3
                        exact ⟨_, by first | rfl | (simp [errW_none, errW_some] <;> rfl) | (simp [*, errW_none, errW_some] <;> rfl), by first | exact Kd.R_nil _ _ _ _ _ | exact Kd.N_nil _ _ _ _ _ | exact Kd.V_nil _ _ _ _ _ | exact Kd.Q_nil _ _ _ _ _ | exact Kd.S_nil _ _ _ _ _, by repeat (first | (with_reducible first | exact HB.out | apply below_alloc | apply pw_below_drewN | apply below_drew1) | exact HB.out)⟩
                      · replace c25 := Bool.eq_false_iff.mpr c25
                        subst c25
                        have H1 : (some (([] : List (S23)), 23, x7_1)) = some (r1, r2, r3) := by rw [if_neg (show ¬ (false = true) by decide)] at H; exact H
                        clear H
                        have H := H1
                        clear H1
                        simp only [Option.some.injEq, Prod.mk.injEq] at H
                        obtain ⟨rfl, rfl, rfl⟩ := H
                        obtain ⟨Ao27, co27, eo27⟩ := Kd.R_slice HO_11.out
                        subst eo27
                        go_wp2
                        repeat (go_quiet (fail); try go_wp2)
                        go_ret3
                        exact ⟨_, by first | rfl | (simp [errW_none, errW_some] <;> rfl) | (simp [*, errW_none, errW_some] <;> rfl), by first | exact Kd.R_nil _ _ _ _ _ | exact Kd.N_nil _ _ _ _ _ | exact Kd.V_nil _ _ _ _ _ | exact Kd.Q_nil _ _ _ _ _ | exact Kd.S_nil _ _ _ _ _, by repeat (first | (with_reducible first | exact HB.out | apply below_alloc | apply pw_below_drewN | apply below_drew1) | exact HB.out)⟩
                    · rw [if_neg c24] at H
                      have c24b0 : (x9_2.toList == ([] : List UInt8)) = false := beq_eq_false_iff_ne.mpr c24
                      have c24b1 : (x9_2.toList != ([] : List UInt8)) = true := bne_iff_ne.mpr c24
                      replace H := Option.bind_eq_some_iff.mp H
                      obtain ⟨t115, A280, H⟩ := H
                      replace H : (if t115 = 0 then ((larderref02_kindOf.f k2 x9_2).bind fun bt116 => (if bt116.1 = true then (larderref02_Parse.l2 k2 a0 x5_1 x6_1 x7_1 x9_2 (wrap64 (x7_1 + (x9_2.size : Int))) (wrap64 (x7_1 + (x9_2.size : Int))) bt116.1 bt116.2.1 bt116.2.2.1 bt116.2.2.2.1 bt116.2.2.2.2.1 bt116.2.2.2.2.2.1 bt116.2.2.2.2.2.2.1) else (larderref02_Parse.l3 k2 a0 x5_1 x6_1 x7_1 x9_2 (wrap64 (x7_1 + (x9_2.size : Int))) (wrap64 (x7_1 + (x9_2.size : Int))) bt116.1 bt116.2.1 bt116.2.2.1 bt116.2.2.2.1 bt116.2.2.2.2.1 bt116.2.2.2.2.2.1 bt116.2.2.2.2.2.2.1))) else (some (([] : List (S23)), t115, x7_1))) = some (r1, r2, r3) := H
                      have A28 := Aside0.mk A280
                      clear A280
                      by_cases c29 : t115 = 0
                      · rw [if_pos c29] at H
                        have c29b0 : (t115 == 0) = true := beq_iff_eq.mpr c29
                        have c29b1 : (t115 != 0) = false := bne_eq_false_iff_eq.mpr c29
                        clear c29
                        replace H := Option.bind_eq_some_iff.mp H
                        obtain ⟨⟨t116, t117, t118, t119, t120, t121, t122, t123⟩, A300, H⟩ := H
                        replace H : (if t116 = true then (larderref02_Parse.l2 k2 a0 x5_1 x6_1 x7_1 x9_2 (wrap64 (x7_1 + (x9_2.size : Int))) (wrap64 (x7_1 + (x9_2.size : Int))) t116 t117 t118 t119 t120 t121 t122) else (larderref02_Parse.l3 k2 a0 x5_1 x6_1 x7_1 x9_2 (wrap64 (x7_1 + (x9_2.size : Int))) (wrap64 (x7_1 + (x9_2.size : Int))) t116 t117 t118 t119 t120 t121 t122)) = some (r1, r2, r3) := H
                        have A30 := Aside0.mk A300
                        clear A300
                        have HC31 := Aside0.mk H
                        clear H
                        obtain ⟨Ao32, co32, eo32⟩ := Kd.R_slice HO_11.out
                        subst eo32
                        obtain ⟨Ao33, co33, eo33⟩ := Kd.R_slice HO_5.out
                        subst eo33
                        go_upto_if 92 with (first | (go_at_call 41; (with_reducible refine (larderref02_beside.calls k2 _ _ x5_1 x9_2 t115 _ ?side1 ?side2 A28.out).mono ?_); (case side1 => repeat (first | exact (Kd.R_reads' HO_5.out).2.2 | (with_reducible refine Kd.C_alloc ?_ _) | (with_reducible refine Kd.C_drewN ?_ _) | (with_reducible refine Kd.C_drew ?_))); (case side2 => exact (Kd.R_reads' HO_5.out).2.1); rintro e w' ⟨rfl, ⟨nd, rfl⟩⟩; (try first | exact ⟨rfl, _, World.drewN_drewN _ _ _⟩ | exact ⟨rfl, _, Eq.trans (World.drewN_drewN _ _ _) (congrArg (World.drewN _) (Nat.add_assoc _ _ _))⟩)) | (go_at_call 27; (with_reducible refine (larderref02_kindOf.calls k2 x9_2 t116 t117 t118 t119 t120 t121 t122 t123 _ A30.out).mono ?_); rintro e w34 ⟨rfl, hb⟩; have n0_ := Aside0.mk (Kd.R_below (by (with_reducible repeat (first | apply Kd.R_alloc | apply Kd.R_drewN | apply Kd.R_drew)); exact HO_5.out) hb); have n1_ := Aside0.mk (Kd.R_below (by (with_reducible repeat (first | apply Kd.R_alloc | apply Kd.R_drewN | apply Kd.R_drew)); exact HO_6.out) hb); have n2_ := Aside0.mk (Kd.R_below (by (with_reducible repeat (first | apply Kd.R_alloc | apply Kd.R_drewN | apply Kd.R_drew)); exact HO_11.out) hb); have n3_ := Aside0.mk (below_step (by repeat (first | (with_reducible first | exact HB.out | apply below_alloc | apply pw_below_drewN | apply below_drew1) | exact HB.out)) hb); clear HO_5; clear HO_6; clear HO_11; clear HB; have HO_5 := n0_; have HO_6 := n1_; have HO_11 := n2_; have HB := n3_; clear n0_ n1_ n2_ n3_; (try clear hb); (try clear hb2); (try clear hk); (try clear hi)) | ((with_reducible refine gate_dst (N := 14) rfl ?_); (try (refine gate_guard (by rfl) ?_; dsimp only)); refine box_event ?hg (N := 14) ?hd (cs := #[.bool false, .bool false, .int .i64 0, .int .i64 0, .bool false, .bool false, .bool false]) (t := 57) ?hr ?_; (case hd => rfl); (case hg => rfl); (case hr => first | (go_simp; done) | (go_simp; rfl)); intro gb124 hg w35 hbox hb; have n0_ := Aside0.mk (Kd.R_below (by (with_reducible repeat (first | apply Kd.R_alloc | apply Kd.R_drewN | apply Kd.R_drew)); exact HO_5.out) hb); have n1_ := Aside0.mk (Kd.R_below (by (with_reducible repeat (first | apply Kd.R_alloc | apply Kd.R_drewN | apply Kd.R_drew)); exact HO_6.out) hb); have n2_ := Aside0.mk (Kd.R_below (by (with_reducible repeat (first | apply Kd.R_alloc | apply Kd.R_drewN | apply Kd.R_drew)); exact HO_11.out) hb); have n3_ := Aside0.mk (below_step (by repeat (first | (with_reducible first | exact HB.out | apply below_alloc | apply pw_below_drewN | apply below_drew1) | exact HB.out)) hb); have n4_ := Aside0.mk (hbox); have n5_ := Aside0.mk ((by rw [hg]; exact (below_size (by repeat (first | (with_reducible first | exact HB.out | apply below_alloc | apply pw_below_drewN | apply below_drew1) | exact HB.out))) : w.heap.size ≤ gb124)); have n6_ := Aside0.mk ((by rw [hg]; exact (below_size (by repeat (first | (with_reducible first | exact HB.out | apply below_alloc | apply pw_below_drewN | apply below_drew1) | exact HB.out))) : w.heap.size ≤ gb124)); clear HO_5; clear HO_6; clear HO_11; clear HB; have HO_5 := n0_; have HO_6 := n1_; have HO_11 := n2_; have HB := n3_; have BK124 := n4_; have GW124 := n5_; have GE124 := n6_; clear n0_ n1_ n2_ n3_ n4_ n5_ n6_; clear hb hbox hg; have hcz36_0 : w35.cell? ⟨gb124, 0, none⟩ = some (.bool false) := (blk_cell BK124.out 0).trans rfl; have hcz36_1 : w35.cell? ⟨gb124, 1, none⟩ = some (.bool false) := (blk_cell BK124.out 1).trans rfl; have hcz36_2 : w35.cell? ⟨gb124, 2, none⟩ = some (.int .i64 0) := (blk_cell BK124.out 2).trans rfl; have hcz36_3 : w35.cell? ⟨gb124, 3, none⟩ = some (.int .i64 0) := (blk_cell BK124.out 3).trans rfl; have hcz36_4 : w35.cell? ⟨gb124, 4, none⟩ = some (.bool false) := (blk_cell BK124.out 4).trans rfl; have hcz36_5 : w35.cell? ⟨gb124, 5, none⟩ = some (.bool false) := (blk_cell BK124.out 5).trans rfl; have hcz36_6 : w35.cell? ⟨gb124, 6, none⟩ = some (.bool false) := (blk_cell BK124.out 6).trans rfl; have hfz36_0 := blk_frozen BK124.out 0; have hfz36_1 := blk_frozen BK124.out 1; have hfz36_2 := blk_frozen BK124.out 2; have hfz36_3 := blk_frozen BK124.out 3; have hfz36_4 := blk_frozen BK124.out 4; have hfz36_5 := blk_frozen BK124.out 5; have hfz36_6 := blk_frozen BK124.out 6))
                        repeat (go_quiet (first | (go_at_call 41; (with_reducible refine (larderref02_beside.calls k2 _ _ x5_1 x9_2 t115 _ ?side1 ?side2 A28.out).mono ?_); (case side1 => repeat (first | exact (Kd.R_reads' HO_5.out).2.2 | (with_reducible refine Kd.C_alloc ?_ _) | (with_reducible refine Kd.C_drewN ?_ _) | (with_reducible refine Kd.C_drew ?_))); (case side2 => exact (Kd.R_reads' HO_5.out).2.1); rintro e w' ⟨rfl, ⟨nd, rfl⟩⟩; (try first | exact ⟨rfl, _, World.drewN_drewN _ _ _⟩ | exact ⟨rfl, _, Eq.trans (World.drewN_drewN _ _ _) (congrArg (World.drewN _) (Nat.add_assoc _ _ _))⟩)) | (go_at_call 27; (with_reducible refine (larderref02_kindOf.calls k2 x9_2 t116 t117 t118 t119 t120 t121 t122 t123 _ A30.out).mono ?_); rintro e w34 ⟨rfl, hb⟩; have n0_ := Aside0.mk (Kd.R_below (by (with_reducible repeat (first | apply Kd.R_alloc | apply Kd.R_drewN | apply Kd.R_drew)); exact HO_5.out) hb); have n1_ := Aside0.mk (Kd.R_below (by (with_reducible repeat (first | apply Kd.R_alloc | apply Kd.R_drewN | apply Kd.R_drew)); exact HO_6.out) hb); have n2_ := Aside0.mk (Kd.R_below (by (with_reducible repeat (first | apply Kd.R_alloc | apply Kd.R_drewN | apply Kd.R_drew)); exact HO_11.out) hb); have n3_ := Aside0.mk (below_step (by repeat (first | (with_reducible first | exact HB.out | apply below_alloc | apply pw_below_drewN | apply below_drew1) | exact HB.out)) hb); clear HO_5; clear HO_6; clear HO_11; clear HB; have HO_5 := n0_; have HO_6 := n1_; have HO_11 := n2_; have HB := n3_; clear n0_ n1_ n2_ n3_; (try clear hb); (try clear hb2); (try clear hk); (try clear hi)) | ((with_reducible refine gate_dst (N := 14) rfl ?_); (try (refine gate_guard (by rfl) ?_; dsimp only)); refine box_event ?hg (N := 14) ?hd (cs := #[.bool false, .bool false, .int .i64 0, .int .i64 0, .bool false, .bool false, .bool false]) (t := 57) ?hr ?_; (case hd => rfl); (case hg => rfl); (case hr => first | (go_simp; done) | (go_simp; rfl)); intro gb124 hg w35 hbox hb; have n0_ := Aside0.mk (Kd.R_below (by (with_reducible repeat (first | apply Kd.R_alloc | apply Kd.R_drewN | apply Kd.R_drew)); exact HO_5.out) hb); have n1_ := Aside0.mk (Kd.R_below (by (with_reducible repeat (first | apply Kd.R_alloc | apply Kd.R_drewN | apply Kd.R_drew)); exact HO_6.out) hb); have n2_ := Aside0.mk (Kd.R_below (by (with_reducible repeat (first | apply Kd.R_alloc | apply Kd.R_drewN | apply Kd.R_drew)); exact HO_11.out) hb); have n3_ := Aside0.mk (below_step (by repeat (first | (with_reducible first | exact HB.out | apply below_alloc | apply pw_below_drewN | apply below_drew1) | exact HB.out)) hb); have n4_ := Aside0.mk (hbox); have n5_ := Aside0.mk ((by rw [hg]; exact (below_size (by repeat (first | (with_reducible first | exact HB.out | apply below_alloc | apply pw_below_drewN | apply below_drew1) | exact HB.out))) : w.heap.size ≤ gb124)); have n6_ := Aside0.mk ((by rw [hg]; exact (below_size (by repeat (first | (with_reducible first | exact HB.out | apply below_alloc | apply pw_below_drewN | apply below_drew1) | exact HB.out))) : w.heap.size ≤ gb124)); clear HO_5; clear HO_6; clear HO_11; clear HB; have HO_5 := n0_; have HO_6 := n1_; have HO_11 := n2_; have HB := n3_; have BK124 := n4_; have GW124 := n5_; have GE124 := n6_; clear n0_ n1_ n2_ n3_ n4_ n5_ n6_; clear hb hbox hg; have hcz36_0 : w35.cell? ⟨gb124, 0, none⟩ = some (.bool false) := (blk_cell BK124.out 0).trans rfl; have hcz36_1 : w35.cell? ⟨gb124, 1, none⟩ = some (.bool false) := (blk_cell BK124.out 1).trans rfl; have hcz36_2 : w35.cell? ⟨gb124, 2, none⟩ = some (.int .i64 0) := (blk_cell BK124.out 2).trans rfl; have hcz36_3 : w35.cell? ⟨gb124, 3, none⟩ = some (.int .i64 0) := (blk_cell BK124.out 3).trans rfl; have hcz36_4 : w35.cell? ⟨gb124, 4, none⟩ = some (.bool false) := (blk_cell BK124.out 4).trans rfl; have hcz36_5 : w35.cell? ⟨gb124, 5, none⟩ = some (.bool false) := (blk_cell BK124.out 5).trans rfl; have hcz36_6 : w35.cell? ⟨gb124, 6, none⟩ = some (.bool false) := (blk_cell BK124.out 6).trans rfl; have hfz36_0 := blk_frozen BK124.out 0; have hfz36_1 := blk_frozen BK124.out 1; have hfz36_2 := blk_frozen BK124.out 2; have hfz36_3 := blk_frozen BK124.out 3; have hfz36_4 := blk_frozen BK124.out 4; have hfz36_5 := blk_frozen BK124.out 5; have hfz36_6 := blk_frozen BK124.out 6)); go_upto_if 92 with (first | (go_at_call 41; (with_reducible refine (larderref02_beside.calls k2 _ _ x5_1 x9_2 t115 _ ?side1 ?side2 A28.out).mono ?_); (case side1 => repeat (first | exact (Kd.R_reads' HO_5.out).2.2 | (with_reducible refine Kd.C_alloc ?_ _) | (with_reducible refine Kd.C_drewN ?_ _) | (with_reducible refine Kd.C_drew ?_))); (case side2 => exact (Kd.R_reads' HO_5.out).2.1); rintro e w' ⟨rfl, ⟨nd, rfl⟩⟩; (try first | exact ⟨rfl, _, World.drewN_drewN _ _ _⟩ | exact ⟨rfl, _, Eq.trans (World.drewN_drewN _ _ _) (congrArg (World.drewN _) (Nat.add_assoc _ _ _))⟩)) | (go_at_call 27; (with_reducible refine (larderref02_kindOf.calls k2 x9_2 t116 t117 t118 t119 t120 t121 t122 t123 _ A30.out).mono ?_); rintro e w34 ⟨rfl, hb⟩; have n0_ := Aside0.mk (Kd.R_below (by (with_reducible repeat (first | apply Kd.R_alloc | apply Kd.R_drewN | apply Kd.R_drew)); exact HO_5.out) hb); have n1_ := Aside0.mk (Kd.R_below (by (with_reducible repeat (first | apply Kd.R_alloc | apply Kd.R_drewN | apply Kd.R_drew)); exact HO_6.out) hb); have n2_ := Aside0.mk (Kd.R_below (by (with_reducible repeat (first | apply Kd.R_alloc | apply Kd.R_drewN | apply Kd.R_drew)); exact HO_11.out) hb); have n3_ := Aside0.mk (below_step (by repeat (first | (with_reducible first | exact HB.out | apply below_alloc | apply pw_below_drewN | apply below_drew1) | exact HB.out)) hb); clear HO_5; clear HO_6; clear HO_11; clear HB; have HO_5 := n0_; have HO_6 := n1_; have HO_11 := n2_; have HB := n3_; clear n0_ n1_ n2_ n3_; (try clear hb); (try clear hb2); (try clear hk); (try clear hi)) | ((with_reducible refine gate_dst (N := 14) rfl ?_); (try (refine gate_guard (by rfl) ?_; dsimp only)); refine box_event ?hg (N := 14) ?hd (cs := #[.bool false, .bool false, .int .i64 0, .int .i64 0, .bool false, .bool false, .bool false]) (t := 57) ?hr ?_; (case hd => rfl); (case hg => rfl); (case hr => first | (go_simp; done) | (go_simp; rfl)); intro gb124 hg w35 hbox hb; have n0_ := Aside0.mk (Kd.R_below (by (with_reducible repeat (first | apply Kd.R_alloc | apply Kd.R_drewN | apply Kd.R_drew)); exact HO_5.out) hb); have n1_ := Aside0.mk (Kd.R_below (by (with_reducible repeat (first | apply Kd.R_alloc | apply Kd.R_drewN | apply Kd.R_drew)); exact HO_6.out) hb); have n2_ := Aside0.mk (Kd.R_below (by (with_reducible repeat (first | apply Kd.R_alloc | apply Kd.R_drewN | apply Kd.R_drew)); exact HO_11.out) hb); have n3_ := Aside0.mk (below_step (by repeat (first | (with_reducible first | exact HB.out | apply below_alloc | apply pw_below_drewN | apply below_drew1) | exact HB.out)) hb); have n4_ := Aside0.mk (hbox); have n5_ := Aside0.mk ((by rw [hg]; exact (below_size (by repeat (first | (with_reducible first | exact HB.out | apply below_alloc | apply pw_below_drewN | apply below_drew1) | exact HB.out))) : w.heap.size ≤ gb124)); have n6_ := Aside0.mk ((by rw [hg]; exact (below_size (by repeat (first | (with_reducible first | exact HB.out | apply below_alloc | apply pw_below_drewN | apply below_drew1) | exact HB.out))) : w.heap.size ≤ gb124)); clear HO_5; clear HO_6; clear HO_11; clear HB; have HO_5 := n0_; have HO_6 := n1_; have HO_11 := n2_; have HB := n3_; have BK124 := n4_; have GW124 := n5_; have GE124 := n6_; clear n0_ n1_ n2_ n3_ n4_ n5_ n6_; clear hb hbox hg; have hcz36_0 : w35.cell? ⟨gb124, 0, none⟩ = some (.bool false) := (blk_cell BK124.out 0).trans rfl; have hcz36_1 : w35.cell? ⟨gb124, 1, none⟩ = some (.bool false) := (blk_cell BK124.out 1).trans rfl; have hcz36_2 : w35.cell? ⟨gb124, 2, none⟩ = some (.int .i64 0) := (blk_cell BK124.out 2).trans rfl; have hcz36_3 : w35.cell? ⟨gb124, 3, none⟩ = some (.int .i64 0) := (blk_cell BK124.out 3).trans rfl; have hcz36_4 : w35.cell? ⟨gb124, 4, none⟩ = some (.bool false) := (blk_cell BK124.out 4).trans rfl; have hcz36_5 : w35.cell? ⟨gb124, 5, none⟩ = some (.bool false) := (blk_cell BK124.out 5).trans rfl; have hcz36_6 : w35.cell? ⟨gb124, 6, none⟩ = some (.bool false) := (blk_cell BK124.out 6).trans rfl; have hfz36_0 := blk_frozen BK124.out 0; have hfz36_1 := blk_frozen BK124.out 1; have hfz36_2 := blk_frozen BK124.out 2; have hfz36_3 := blk_frozen BK124.out 3; have hfz36_4 := blk_frozen BK124.out 4; have hfz36_5 := blk_frozen BK124.out 5; have hfz36_6 := blk_frozen BK124.out 6)))
                        (try simp only [Act.put, List.setIfInBounds_toArray, List.set_cons_zero, List.set_cons_succ])
                        go_cut [17] (fun v17 wc => ∃ (kq : Nat) (x17_30 : Int), v17 = .int .i64 x17_30 ∧ Aside0 (larderref02_Parse.j6 kq a0 x5_1 x6_1 x7_1 x9_2 (wrap64 (x7_1 + (x9_2.size : Int))) x17_30 t116 t117 t118 t119 t120 t121 t122 = some (r1, r2, r3)) ∧ Aside0 (kq ≤ k2) ∧ Aside0 (Kd.R k23 23 wc w.heap.size (fun _ => True) (.slice Ao33 x5_1.length co33) x5_1) ∧ Aside0 (Kd.R (Kd.int .i64) 3 wc w.heap.size (fun _ => True) u6 x6_1) ∧ Aside0 (wc.heap[gb124]? = some (.cells #[.bool t116, .bool t117, .int .i64 t118, .int .i64 t119, .bool t120, .bool t121, .bool t122] 57 (0, 0))) ∧ Aside0 (Below w.heap.size w wc))
                        case first => as_aux_lemma =>
                          have H := HC31.out
                          clear HC31
                          by_cases c37 : t116 = true
                          · subst c37
                            have H1 : (larderref02_Parse.l2 k2 a0 x5_1 x6_1 x7_1 x9_2 (wrap64 (x7_1 + (x9_2.size : Int))) (wrap64 (x7_1 + (x9_2.size : Int))) true t117 t118 t119 t120 t121 t122) = some (r1, r2, r3) := by rw [if_pos rfl] at H; exact H
                            clear H
                            have H := H1
                            clear H1
                            have H' := Aside0.mk H
                            clear H
                            go_wp2
                            repeat (go_quiet (fail); try go_wp2)
                            go_loopg [17] k2 (fun kq v17 w' => ∃ (x17_3 : Int), v17 = .int .i64 x17_3 ∧ Aside0 (larderref02_Parse.l2 kq a0 x5_1 x6_1 x7_1 x9_2 (wrap64 (x7_1 + (x9_2.size : Int))) x17_3 true t117 t118 t119 t120 t121 t122 = some (r1, r2, r3)) ∧ Aside0 (kq ≤ k2) ∧ Aside0 (Kd.R k23 23 w' w.heap.size (fun _ => True) (.slice Ao33 x5_1.length co33) x5_1) ∧ Aside0 (Kd.R (Kd.int .i64) 3 w' w.heap.size (fun _ => True) u6 x6_1) ∧ Aside0 (w'.heap[gb124]? = some (.cells #[.bool true, .bool t117, .int .i64 t118, .int .i64 t119, .bool t120, .bool t121, .bool t122] 57 (0, 0))) ∧ Aside0 (Below w.heap.size w w'))
                            case atStart => exact ⟨(wrap64 (x7_1 + (x9_2.size : Int))), (by first | rfl | (simp; done) | (simp [*]; done)), H', ⟨Nat.le_refl _⟩, ⟨by (with_reducible repeat (first | apply Kd.R_alloc | apply Kd.R_drewN | apply Kd.R_drew)); exact Kd.R_mono (Kd.R_far (p := ⟨gb124, 6, none⟩) (Kd.R_far (p := ⟨gb124, 5, none⟩) (Kd.R_far (p := ⟨gb124, 4, none⟩) (Kd.R_far (p := ⟨gb124, 3, none⟩) (Kd.R_far (p := ⟨gb124, 2, none⟩) (Kd.R_far (p := ⟨gb124, 1, none⟩) (Kd.R_far (p := ⟨gb124, 0, none⟩) (Kd.R_types HO_5.out BK124.out (by decide)) (fun _ hk => hk.2) (.bool true)) (fun _ hk => hk.2) (.bool t117)) (fun _ hk => hk.2) (.int .i64 t118)) (fun _ hk => hk.2) (.int .i64 t119)) (fun _ hk => hk.2) (.bool t120)) (fun _ hk => hk.2) (.bool t121)) (fun _ hk => hk.2) (.bool t122)) (fun _ hk => trivial)⟩, ⟨by (with_reducible repeat (first | apply Kd.R_alloc | apply Kd.R_drewN | apply Kd.R_drew)); exact Kd.R_mono (Kd.R_far (p := ⟨gb124, 6, none⟩) (Kd.R_far (p := ⟨gb124, 5, none⟩) (Kd.R_far (p := ⟨gb124, 4, none⟩) (Kd.R_far (p := ⟨gb124, 3, none⟩) (Kd.R_far (p := ⟨gb124, 2, none⟩) (Kd.R_far (p := ⟨gb124, 1, none⟩) (Kd.R_far (p := ⟨gb124, 0, none⟩) (Kd.R_types HO_6.out BK124.out (by decide)) (fun _ hk => hk.2) (.bool true)) (fun _ hk => hk.2) (.bool t117)) (fun _ hk => hk.2) (.int .i64 t118)) (fun _ hk => hk.2) (.int .i64 t119)) (fun _ hk => hk.2) (.bool t120)) (fun _ hk => hk.2) (.bool t121)) (fun _ hk => hk.2) (.bool t122)) (fun _ hk => trivial)⟩, ⟨by (with_reducible repeat (first | refine blk_drewN ?_ _ | refine blk_drew ?_ | refine blk_alloc ?_ _)); refine blk_put (cs := #[.bool true, .bool t117, .int .i64 t118, .int .i64 t119, .bool t120, .bool t121, .bool false]) ?_ 6 _ rfl; (with_reducible repeat (first | refine blk_drewN ?_ _ | refine blk_drew ?_ | refine blk_alloc ?_ _)); refine blk_put (cs := #[.bool true, .bool t117, .int .i64 t118, .int .i64 t119, .bool t120, .bool false, .bool false]) ?_ 5 _ rfl; (with_reducible repeat (first | refine blk_drewN ?_ _ | refine blk_drew ?_ | refine blk_alloc ?_ _)); refine blk_put (cs := #[.bool true, .bool t117, .int .i64 t118, .int .i64 t119, .bool false, .bool false, .bool false]) ?_ 4 _ rfl; (with_reducible repeat (first | refine blk_drewN ?_ _ | refine blk_drew ?_ | refine blk_alloc ?_ _)); refine blk_put (cs := #[.bool true, .bool t117, .int .i64 t118, .int .i64 0, .bool false, .bool false, .bool false]) ?_ 3 _ rfl; (with_reducible repeat (first | refine blk_drewN ?_ _ | refine blk_drew ?_ | refine blk_alloc ?_ _)); refine blk_put (cs := #[.bool true, .bool t117, .int .i64 0, .int .i64 0, .bool false, .bool false, .bool false]) ?_ 2 _ rfl; (with_reducible repeat (first | refine blk_drewN ?_ _ | refine blk_drew ?_ | refine blk_alloc ?_ _)); refine blk_put (cs := #[.bool true, .bool false, .int .i64 0, .int .i64 0, .bool false, .bool false, .bool false]) ?_ 1 _ rfl; (with_reducible repeat (first | refine blk_drewN ?_ _ | refine blk_drew ?_ | refine blk_alloc ?_ _)); refine blk_put (cs := #[.bool false, .bool false, .int .i64 0, .int .i64 0, .bool false, .bool false, .bool false]) ?_ 0 _ rfl; (with_reducible repeat (first | refine blk_drewN ?_ _ | refine blk_drew ?_ | refine blk_alloc ?_ _)); exact BK124.out⟩, ⟨by repeat (first | (with_reducible first | exact HB.out | apply below_alloc | apply pw_below_drewN | apply below_drew1 | refine below_set ?_ GE124.out) | exact HB.out)⟩⟩
                            case round =>
                              clear H'
                              (try clear c1); (try clear p1); (try clear q1); (try clear hx1); (try clear c2); (try clear c2b0); (try clear c2b1); (try clear p2); (try clear c3); (try clear c3b0); (try clear c4); (try clear c4b0); (try clear c4b1); (try clear c5); (try clear c5b0); (try clear c5b1); (try clear p6); (try clear c8); (try clear c8b0); (try clear c9); (try clear c9b0); (try clear p10); (try clear q10); (try clear hx10); (try clear c11); (try clear p11); (try clear q11); (try clear hx11); (try clear c12); (try clear c14); (try clear c14b0); (try clear c14b1); (try clear c17); (try clear c18); (try clear c20); (try clear c20b0); (try clear c20b1); (try clear c24); (try clear c24b0); (try clear c24b1); (try clear c25); (try clear c29); (try clear c29b0); (try clear c29b1); (try clear c37); (try clear hcz36_0); (try clear hcz36_1); (try clear hcz36_2); (try clear hcz36_3); (try clear hcz36_4); (try clear hcz36_5); (try clear hcz36_6); (try clear hfz36_0); (try clear hfz36_1); (try clear hfz36_2); (try clear hfz36_3); (try clear hfz36_4); (try clear hfz36_5); (try clear hfz36_6); (try clear hx106_0); (try clear hx108_0); (try clear hx109_0); (try clear hx110_0); (try clear hx112_0); (try clear hx113_0); (try clear p106); (try clear p108); (try clear p109); (try clear p110); (try clear p112); (try clear p113); (try clear p2); (try clear q106); (try clear q108); (try clear q109); (try clear q110); (try clear q112); (try clear q113)
                              obtain ⟨x17_3, rfl, HA, HK3, HO_5, HO_6, BK124, HB⟩ := hrel
                              cases gk with
                              | zero => exact absurd HA.out (by simp [larderref02_Parse.l2])
                              | succ k3 =>
                                have H := HA.out
                                clear HA
                                simp only [larderref02_Parse.l2] at H
                                by_cases c38 : x17_3 < (wrap64 ((wrap64 (x7_1 + (x9_2.size : Int))) + t118))
                                · rw [if_pos c38] at H
                                  have c38b0 : decide (x17_3 < (wrap64 ((wrap64 (x7_1 + (x9_2.size : Int))) + t118))) = true := decide_eq_true c38
                                  clear c38
                                  (first | rw [c38b0] | (simp only [i64_w, i32_w]; rw [c38b0]) | skip)
                                  by_cases c39 : x17_3 ≥ (a0.size : Int)
                                  · rw [if_pos c39] at H
                                    have c39b0 : decide ((a0.size : Int) ≤ x17_3) = true := decide_eq_true c39
                                    clear c39
                                    simp only [Option.some.injEq, Prod.mk.injEq] at H
                                    obtain ⟨rfl, rfl, rfl⟩ := H
                                    have hcz40_0 : wr.cell? ⟨gb124, 0, none⟩ = some (.bool true) := (blk_cell BK124.out 0).trans rfl
                                    have hcz40_1 : wr.cell? ⟨gb124, 1, none⟩ = some (.bool t117) := (blk_cell BK124.out 1).trans rfl
                                    have hcz40_2 : wr.cell? ⟨gb124, 2, none⟩ = some (.int .i64 t118) := (blk_cell BK124.out 2).trans rfl
                                    have hcz40_3 : wr.cell? ⟨gb124, 3, none⟩ = some (.int .i64 t119) := (blk_cell BK124.out 3).trans rfl
                                    have hcz40_4 : wr.cell? ⟨gb124, 4, none⟩ = some (.bool t120) := (blk_cell BK124.out 4).trans rfl
                                    have hcz40_5 : wr.cell? ⟨gb124, 5, none⟩ = some (.bool t121) := (blk_cell BK124.out 5).trans rfl
                                    have hcz40_6 : wr.cell? ⟨gb124, 6, none⟩ = some (.bool t122) := (blk_cell BK124.out 6).trans rfl
                                    have hfz40_0 := blk_frozen BK124.out 0
                                    have hfz40_1 := blk_frozen BK124.out 1
                                    have hfz40_2 := blk_frozen BK124.out 2
                                    have hfz40_3 := blk_frozen BK124.out 3
                                    have hfz40_4 := blk_frozen BK124.out 4
                                    have hfz40_5 := blk_frozen BK124.out 5
                                    have hfz40_6 := blk_frozen BK124.out 6
                                    go_wp2
                                    repeat (go_quiet (fail); try go_wp2)
                                    go_ret3
                                    exact ⟨_, by first | rfl | (simp [errW_none, errW_some] <;> rfl) | (simp [*, errW_none, errW_some] <;> rfl), by first | exact Kd.R_nil _ _ _ _ _ | exact Kd.N_nil _ _ _ _ _ | exact Kd.V_nil _ _ _ _ _ | exact Kd.Q_nil _ _ _ _ _ | exact Kd.S_nil _ _ _ _ _, by repeat (first | (with_reducible first | exact HB.out | apply below_alloc | apply pw_below_drewN | apply below_drew1 | refine below_set ?_ GE124.out) | exact HB.out)⟩
                                  · rw [if_neg c39] at H
                                    have c39b0 : decide ((a0.size : Int) ≤ x17_3) = false := decide_eq_false c39
                                    clear c39
                                    by_cases c41 : 0 ≤ x17_3
                                    · rw [if_pos c41] at H
                                      have c41b0 : decide (0 ≤ x17_3) = true := decide_eq_true c41
                                      clear c41
                                      by_cases c42 : x17_3 < (a0.size : Int)
                                      · rw [if_pos c42] at H
                                        have c42b0 : decide (x17_3 < (a0.size : Int)) = true := decide_eq_true c42
                                        clear c42
                                        replace H := Option.bind_eq_some_iff.mp H
                                        obtain ⟨t125, A440, H⟩ := H
                                        replace H : (if t125 = true then (larderref02_Parse.l2 k3 a0 x5_1 x6_1 x7_1 x9_2 (wrap64 (x7_1 + (x9_2.size : Int))) (wrap64 (x17_3 + 1)) true t117 t118 t119 t120 t121 t122) else (some (([] : List (S23)), 20, x17_3))) = some (r1, r2, r3) := H
                                        have A44 := Aside0.mk A440
                                        clear A440
                                        by_cases c45 : t125 = true
                                        · subst c45
                                          have H1 : (larderref02_Parse.l2 k3 a0 x5_1 x6_1 x7_1 x9_2 (wrap64 (x7_1 + (x9_2.size : Int))) (wrap64 (x17_3 + 1)) true t117 t118 t119 t120 t121 t122) = some (r1, r2, r3) := by rw [if_pos rfl] at H; exact H
                                          clear H
                                          have H := H1
                                          clear H1
                                          have H' := Aside0.mk H
                                          clear H
                                          have hcz46_0 : wr.cell? ⟨gb124, 0, none⟩ = some (.bool true) := (blk_cell BK124.out 0).trans rfl
                                          have hcz46_1 : wr.cell? ⟨gb124, 1, none⟩ = some (.bool t117) := (blk_cell BK124.out 1).trans rfl
                                          have hcz46_2 : wr.cell? ⟨gb124, 2, none⟩ = some (.int .i64 t118) := (blk_cell BK124.out 2).trans rfl
                                          have hcz46_3 : wr.cell? ⟨gb124, 3, none⟩ = some (.int .i64 t119) := (blk_cell BK124.out 3).trans rfl
                                          have hcz46_4 : wr.cell? ⟨gb124, 4, none⟩ = some (.bool t120) := (blk_cell BK124.out 4).trans rfl
                                          have hcz46_5 : wr.cell? ⟨gb124, 5, none⟩ = some (.bool t121) := (blk_cell BK124.out 5).trans rfl
                                          have hcz46_6 : wr.cell? ⟨gb124, 6, none⟩ = some (.bool t122) := (blk_cell BK124.out 6).trans rfl
                                          have hfz46_0 := blk_frozen BK124.out 0
                                          have hfz46_1 := blk_frozen BK124.out 1
                                          have hfz46_2 := blk_frozen BK124.out 2
                                          have hfz46_3 := blk_frozen BK124.out 3
                                          have hfz46_4 := blk_frozen BK124.out 4
                                          have hfz46_5 := blk_frozen BK124.out 5
                                          have hfz46_6 := blk_frozen BK124.out 6
                                          have p43 : 0 ≤ (x17_3 : Int) := of_decide_eq_true (by first | (with_reducible assumption) | assumption)
                                          have q43 : x17_3 < (a0.size : Int) := of_decide_eq_true (by first | (with_reducible assumption) | assumption)
                                          have hx43 := bt_at a0 x17_3
                                          replace p43 := eq_true p43
                                          replace q43 := eq_true q43
                                          go_wp2_with (first | (go_at_call 28; (with_reducible refine (larderref02_isDigit.calls (bt a0 x17_3) true _ A44.out).mono ?_); rintro e w' ⟨rfl, ⟨nd, rfl⟩⟩; (try first | exact ⟨rfl, _, World.drewN_drewN _ _ _⟩ | exact ⟨rfl, _, Eq.trans (World.drewN_drewN _ _ _) (congrArg (World.drewN _) (Nat.add_assoc _ _ _))⟩)))
                                          repeat (go_quiet (first | (go_at_call 28; (with_reducible refine (larderref02_isDigit.calls (bt a0 x17_3) true _ A44.out).mono ?_); rintro e w' ⟨rfl, ⟨nd, rfl⟩⟩; (try first | exact ⟨rfl, _, World.drewN_drewN _ _ _⟩ | exact ⟨rfl, _, Eq.trans (World.drewN_drewN _ _ _) (congrArg (World.drewN _) (Nat.add_assoc _ _ _))⟩))); try go_wp2_with (first | (go_at_call 28; (with_reducible refine (larderref02_isDigit.calls (bt a0 x17_3) true _ A44.out).mono ?_); rintro e w' ⟨rfl, ⟨nd, rfl⟩⟩; (try first | exact ⟨rfl, _, World.drewN_drewN _ _ _⟩ | exact ⟨rfl, _, Eq.trans (World.drewN_drewN _ _ _) (congrArg (World.drewN _) (Nat.add_assoc _ _ _))⟩))))
                                          go_roundg k3
                                          case measure => have := HK1.out; have := HK2.out; have := HK3.out; omega
                                          case rel => exact ⟨(wrap64 (x17_3 + 1)), (by first | rfl | (simp; done) | (simp [*]; done)), H', ⟨by have := HK1.out; have := HK2.out; have := HK3.out; omega⟩, ⟨by (with_reducible repeat (first | apply Kd.R_alloc | apply Kd.R_drewN | apply Kd.R_drew)); exact HO_5.out⟩, ⟨by (with_reducible repeat (first | apply Kd.R_alloc | apply Kd.R_drewN | apply Kd.R_drew)); exact HO_6.out⟩, ⟨by (with_reducible repeat (first | refine blk_drewN ?_ _ | refine blk_drew ?_ | refine blk_alloc ?_ _)); exact BK124.out⟩, ⟨by repeat (first | (with_reducible first | exact HB.out | apply below_alloc | apply pw_below_drewN | apply below_drew1 | refine below_set ?_ GE124.out) | exact HB.out)⟩⟩
                                        · replace c45 := Bool.eq_false_iff.mpr c45
                                          subst c45
                                          have H1 : (some (([] : List (S23)), 20, x17_3)) = some (r1, r2, r3) := by rw [if_neg (show ¬ (false = true) by decide)] at H; exact H
                                          clear H
                                          have H := H1
                                          clear H1
                                          simp only [Option.some.injEq, Prod.mk.injEq] at H
                                          obtain ⟨rfl, rfl, rfl⟩ := H
                                          have hcz47_0 : wr.cell? ⟨gb124, 0, none⟩ = some (.bool true) := (blk_cell BK124.out 0).trans rfl
                                          have hcz47_1 : wr.cell? ⟨gb124, 1, none⟩ = some (.bool t117) := (blk_cell BK124.out 1).trans rfl
                                          have hcz47_2 : wr.cell? ⟨gb124, 2, none⟩ = some (.int .i64 t118) := (blk_cell BK124.out 2).trans rfl
                                          have hcz47_3 : wr.cell? ⟨gb124, 3, none⟩ = some (.int .i64 t119) := (blk_cell BK124.out 3).trans rfl
                                          have hcz47_4 : wr.cell? ⟨gb124, 4, none⟩ = some (.bool t120) := (blk_cell BK124.out 4).trans rfl
                                          have hcz47_5 : wr.cell? ⟨gb124, 5, none⟩ = some (.bool t121) := (blk_cell BK124.out 5).trans rfl
                                          have hcz47_6 : wr.cell? ⟨gb124, 6, none⟩ = some (.bool t122) := (blk_cell BK124.out 6).trans rfl
                                          have hfz47_0 := blk_frozen BK124.out 0
                                          have hfz47_1 := blk_frozen BK124.out 1
                                          have hfz47_2 := blk_frozen BK124.out 2
                                          have hfz47_3 := blk_frozen BK124.out 3
                                          have hfz47_4 := blk_frozen BK124.out 4
                                          have hfz47_5 := blk_frozen BK124.out 5
                                          have hfz47_6 := blk_frozen BK124.out 6
                                          have p43 : 0 ≤ (x17_3 : Int) := of_decide_eq_true (by first | (with_reducible assumption) | assumption)
                                          have q43 : x17_3 < (a0.size : Int) := of_decide_eq_true (by first | (with_reducible assumption) | assumption)
                                          have hx43 := bt_at a0 x17_3
                                          replace p43 := eq_true p43
                                          replace q43 := eq_true q43
                                          go_wp2_with (first | (go_at_call 28; (with_reducible refine (larderref02_isDigit.calls (bt a0 x17_3) false _ A44.out).mono ?_); rintro e w' ⟨rfl, ⟨nd, rfl⟩⟩; (try first | exact ⟨rfl, _, World.drewN_drewN _ _ _⟩ | exact ⟨rfl, _, Eq.trans (World.drewN_drewN _ _ _) (congrArg (World.drewN _) (Nat.add_assoc _ _ _))⟩)))
                                          repeat (go_quiet (first | (go_at_call 28; (with_reducible refine (larderref02_isDigit.calls (bt a0 x17_3) false _ A44.out).mono ?_); rintro e w' ⟨rfl, ⟨nd, rfl⟩⟩; (try first | exact ⟨rfl, _, World.drewN_drewN _ _ _⟩ | exact ⟨rfl, _, Eq.trans (World.drewN_drewN _ _ _) (congrArg (World.drewN _) (Nat.add_assoc _ _ _))⟩))); try go_wp2_with (first | (go_at_call 28; (with_reducible refine (larderref02_isDigit.calls (bt a0 x17_3) false _ A44.out).mono ?_); rintro e w' ⟨rfl, ⟨nd, rfl⟩⟩; (try first | exact ⟨rfl, _, World.drewN_drewN _ _ _⟩ | exact ⟨rfl, _, Eq.trans (World.drewN_drewN _ _ _) (congrArg (World.drewN _) (Nat.add_assoc _ _ _))⟩))))
                                          go_ret3
                                          exact ⟨_, by first | rfl | (simp [errW_none, errW_some] <;> rfl) | (simp [*, errW_none, errW_some] <;> rfl), by first | exact Kd.R_nil _ _ _ _ _ | exact Kd.N_nil _ _ _ _ _ | exact Kd.V_nil _ _ _ _ _ | exact Kd.Q_nil _ _ _ _ _ | exact Kd.S_nil _ _ _ _ _, by repeat (first | (with_reducible first | exact HB.out | apply below_alloc | apply pw_below_drewN | apply below_drew1 | refine below_set ?_ GE124.out) | exact HB.out)⟩
                                      · rw [if_neg c42] at H
                                        exact absurd H (by simp)
                                    · rw [if_neg c41] at H
                                      exact absurd H (by simp)
                                · rw [if_neg c38] at H
                                  have c38b0 : decide (x17_3 < (wrap64 ((wrap64 (x7_1 + (x9_2.size : Int))) + t118))) = false := decide_eq_false c38
                                  clear c38
                                  (first | rw [c38b0] | (simp only [i64_w, i32_w]; rw [c38b0]) | skip)
                                  have H' := Aside0.mk H
                                  clear H
                                  have hcz48_0 : wr.cell? ⟨gb124, 0, none⟩ = some (.bool true) := (blk_cell BK124.out 0).trans rfl
                                  have hcz48_1 : wr.cell? ⟨gb124, 1, none⟩ = some (.bool t117) := (blk_cell BK124.out 1).trans rfl
                                  have hcz48_2 : wr.cell? ⟨gb124, 2, none⟩ = some (.int .i64 t118) := (blk_cell BK124.out 2).trans rfl
                                  have hcz48_3 : wr.cell? ⟨gb124, 3, none⟩ = some (.int .i64 t119) := (blk_cell BK124.out 3).trans rfl
                                  have hcz48_4 : wr.cell? ⟨gb124, 4, none⟩ = some (.bool t120) := (blk_cell BK124.out 4).trans rfl
                                  have hcz48_5 : wr.cell? ⟨gb124, 5, none⟩ = some (.bool t121) := (blk_cell BK124.out 5).trans rfl
                                  have hcz48_6 : wr.cell? ⟨gb124, 6, none⟩ = some (.bool t122) := (blk_cell BK124.out 6).trans rfl
                                  have hfz48_0 := blk_frozen BK124.out 0
                                  have hfz48_1 := blk_frozen BK124.out 1
                                  have hfz48_2 := blk_frozen BK124.out 2
                                  have hfz48_3 := blk_frozen BK124.out 3
                                  have hfz48_4 := blk_frozen BK124.out 4
                                  have hfz48_5 := blk_frozen BK124.out 5
                                  have hfz48_6 := blk_frozen BK124.out 6
                                  go_wp2
                                  repeat (go_quiet (fail); try go_wp2)
                                  go_meet
                                  case rel => exact ⟨_, (x17_3), (by first | rfl | (simp; done) | (simp [*]; done)), H', ⟨by have := HK1.out; have := HK2.out; have := HK3.out; first | omega | exact Nat.le_refl _⟩, ⟨by (with_reducible repeat (first | apply Kd.R_alloc | apply Kd.R_drewN | apply Kd.R_drew)); exact HO_5.out⟩, ⟨by (with_reducible repeat (first | apply Kd.R_alloc | apply Kd.R_drewN | apply Kd.R_drew)); exact HO_6.out⟩, ⟨by (with_reducible repeat (first | refine blk_drewN ?_ _ | refine blk_drew ?_ | refine blk_alloc ?_ _)); exact BK124.out⟩, ⟨by repeat (first | (with_reducible first | exact HB.out | apply below_alloc | apply pw_below_drewN | apply below_drew1 | refine below_set ?_ GE124.out) | exact HB.out)⟩⟩
                          · replace c37 := Bool.eq_false_iff.mpr c37
                            subst c37
                            have H1 : (larderref02_Parse.l3 k2 a0 x5_1 x6_1 x7_1 x9_2 (wrap64 (x7_1 + (x9_2.size : Int))) (wrap64 (x7_1 + (x9_2.size : Int))) false t117 t118 t119 t120 t121 t122) = some (r1, r2, r3) := by rw [if_neg (show ¬ (false = true) by decide)] at H; exact H
                            clear H
                            have H := H1
                            clear H1
                            have H' := Aside0.mk H
                            clear H
                            go_wp2
                            repeat (go_quiet (fail); try go_wp2)
                            go_loopg [17] k2 (fun kq v17 w' => ∃ (x17_3 : Int), v17 = .int .i64 x17_3 ∧ Aside0 (larderref02_Parse.l3 kq a0 x5_1 x6_1 x7_1 x9_2 (wrap64 (x7_1 + (x9_2.size : Int))) x17_3 false t117 t118 t119 t120 t121 t122 = some (r1, r2, r3)) ∧ Aside0 (kq ≤ k2) ∧ Aside0 (Kd.R k23 23 w' w.heap.size (fun _ => True) (.slice Ao33 x5_1.length co33) x5_1) ∧ Aside0 (Kd.R (Kd.int .i64) 3 w' w.heap.size (fun _ => True) u6 x6_1) ∧ Aside0 (w'.heap[gb124]? = some (.cells #[.bool false, .bool t117, .int .i64 t118, .int .i64 t119, .bool t120, .bool t121, .bool t122] 57 (0, 0))) ∧ Aside0 (Below w.heap.size w w'))
                            case atStart => exact ⟨(wrap64 (x7_1 + (x9_2.size : Int))), (by first | rfl | (simp; done) | (simp [*]; done)), H', ⟨Nat.le_refl _⟩, ⟨by (with_reducible repeat (first | apply Kd.R_alloc | apply Kd.R_drewN | apply Kd.R_drew)); exact Kd.R_mono (Kd.R_far (p := ⟨gb124, 6, none⟩) (Kd.R_far (p := ⟨gb124, 5, none⟩) (Kd.R_far (p := ⟨gb124, 4, none⟩) (Kd.R_far (p := ⟨gb124, 3, none⟩) (Kd.R_far (p := ⟨gb124, 2, none⟩) (Kd.R_far (p := ⟨gb124, 1, none⟩) (Kd.R_far (p := ⟨gb124, 0, none⟩) (Kd.R_types HO_5.out BK124.out (by decide)) (fun _ hk => hk.2) (.bool false)) (fun _ hk => hk.2) (.bool t117)) (fun _ hk => hk.2) (.int .i64 t118)) (fun _ hk => hk.2) (.int .i64 t119)) (fun _ hk => hk.2) (.bool t120)) (fun _ hk => hk.2) (.bool t121)) (fun _ hk => hk.2) (.bool t122)) (fun _ hk => trivial)⟩, ⟨by (with_reducible repeat (first | apply Kd.R_alloc | apply Kd.R_drewN | apply Kd.R_drew)); exact Kd.R_mono (Kd.R_far (p := ⟨gb124, 6, none⟩) (Kd.R_far (p := ⟨gb124, 5, none⟩) (Kd.R_far (p := ⟨gb124, 4, none⟩) (Kd.R_far (p := ⟨gb124, 3, none⟩) (Kd.R_far (p := ⟨gb124, 2, none⟩) (Kd.R_far (p := ⟨gb124, 1, none⟩) (Kd.R_far (p := ⟨gb124, 0, none⟩) (Kd.R_types HO_6.out BK124.out (by decide)) (fun _ hk => hk.2) (.bool false)) (fun _ hk => hk.2) (.bool t117)) (fun _ hk => hk.2) (.int .i64 t118)) (fun _ hk => hk.2) (.int .i64 t119)) (fun _ hk => hk.2) (.bool t120)) (fun _ hk => hk.2) (.bool t121)) (fun _ hk => hk.2) (.bool t122)) (fun _ hk => trivial)⟩, ⟨by (with_reducible repeat (first | refine blk_drewN ?_ _ | refine blk_drew ?_ | refine blk_alloc ?_ _)); refine blk_put (cs := #[.bool false, .bool t117, .int .i64 t118, .int .i64 t119, .bool t120, .bool t121, .bool false]) ?_ 6 _ rfl; (with_reducible repeat (first | refine blk_drewN ?_ _ | refine blk_drew ?_ | refine blk_alloc ?_ _)); refine blk_put (cs := #[.bool false, .bool t117, .int .i64 t118, .int .i64 t119, .bool t120, .bool false, .bool false]) ?_ 5 _ rfl; (with_reducible repeat (first | refine blk_drewN ?_ _ | refine blk_drew ?_ | refine blk_alloc ?_ _)); refine blk_put (cs := #[.bool false, .bool t117, .int .i64 t118, .int .i64 t119, .bool false, .bool false, .bool false]) ?_ 4 _ rfl; (with_reducible repeat (first | refine blk_drewN ?_ _ | refine blk_drew ?_ | refine blk_alloc ?_ _)); refine blk_put (cs := #[.bool false, .bool t117, .int .i64 t118, .int .i64 0, .bool false, .bool false, .bool false]) ?_ 3 _ rfl; (with_reducible repeat (first | refine blk_drewN ?_ _ | refine blk_drew ?_ | refine blk_alloc ?_ _)); refine blk_put (cs := #[.bool false, .bool t117, .int .i64 0, .int .i64 0, .bool false, .bool false, .bool false]) ?_ 2 _ rfl; (with_reducible repeat (first | refine blk_drewN ?_ _ | refine blk_drew ?_ | refine blk_alloc ?_ _)); refine blk_put (cs := #[.bool false, .bool false, .int .i64 0, .int .i64 0, .bool false, .bool false, .bool false]) ?_ 1 _ rfl; (with_reducible repeat (first | refine blk_drewN ?_ _ | refine blk_drew ?_ | refine blk_alloc ?_ _)); refine blk_put (cs := #[.bool false, .bool false, .int .i64 0, .int .i64 0, .bool false, .bool false, .bool false]) ?_ 0 _ rfl; (with_reducible repeat (first | refine blk_drewN ?_ _ | refine blk_drew ?_ | refine blk_alloc ?_ _)); exact BK124.out⟩, ⟨by repeat (first | (with_reducible first | exact HB.out | apply below_alloc | apply pw_below_drewN | apply below_drew1 | refine below_set ?_ GE124.out) | exact HB.out)⟩⟩
                            case round =>
                              clear H'
                              (try clear c1); (try clear p1); (try clear q1); (try clear hx1); (try clear c2); (try clear c2b0); (try clear c2b1); (try clear p2); (try clear c3); (try clear c3b0); (try clear c4); (try clear c4b0); (try clear c4b1); (try clear p4); (try clear q4); (try clear hx4); (try clear c5); (try clear c5b0); (try clear c5b1); (try clear p6); (try clear c8); (try clear c8b0); (try clear c9); (try clear c9b0); (try clear p10); (try clear q10); (try clear hx10); (try clear c11); (try clear p11); (try clear q11); (try clear hx11); (try clear c12); (try clear c14); (try clear c14b0); (try clear c14b1); (try clear c17); (try clear c18); (try clear c20); (try clear c20b0); (try clear c20b1); (try clear c24); (try clear c24b0); (try clear c24b1); (try clear c25); (try clear c29); (try clear c29b0); (try clear c29b1); (try clear c37); (try clear c38); (try clear c38b0); (try clear c39); (try clear c39b0); (try clear c41); (try clear c41b0); (try clear c42); (try clear c42b0); (try clear p43); (try clear q43); (try clear hx43); (try clear c45); (try clear hcz36_0); (try clear hcz36_1); (try clear hcz36_2); (try clear hcz36_3); (try clear hcz36_4); (try clear hcz36_5); (try clear hcz36_6); (try clear hcz40_0); (try clear hcz40_1); (try clear hcz40_2); (try clear hcz40_3); (try clear hcz40_4); (try clear hcz40_5); (try clear hcz40_6); (try clear hcz46_0); (try clear hcz46_1); (try clear hcz46_2); (try clear hcz46_3); (try clear hcz46_4); (try clear hcz46_5); (try clear hcz46_6); (try clear hcz47_0); (try clear hcz47_1); (try clear hcz47_2); (try clear hcz47_3); (try clear hcz47_4); (try clear hcz47_5); (try clear hcz47_6); (try clear hcz48_0); (try clear hcz48_1); (try clear hcz48_2); (try clear hcz48_3); (try clear hcz48_4); (try clear hcz48_5); (try clear hcz48_6); (try clear hfz36_0); (try clear hfz36_1); (try clear hfz36_2); (try clear hfz36_3); (try clear hfz36_4); (try clear hfz36_5); (try clear hfz36_6); (try clear hfz40_0); (try clear hfz40_1); (try clear hfz40_2); (try clear hfz40_3); (try clear hfz40_4); (try clear hfz40_5); (try clear hfz40_6); (try clear hfz46_0); (try clear hfz46_1); (try clear hfz46_2); (try clear hfz46_3); (try clear hfz46_4); (try clear hfz46_5); (try clear hfz46_6); (try clear hfz47_0); (try clear hfz47_1); (try clear hfz47_2); (try clear hfz47_3); (try clear hfz47_4); (try clear hfz47_5); (try clear hfz47_6); (try clear hfz48_0); (try clear hfz48_1); (try clear hfz48_2); (try clear hfz48_3); (try clear hfz48_4); (try clear hfz48_5); (try clear hfz48_6); (try clear hx106_0); (try clear hx108_0); (try clear hx109_0); (try clear hx110_0); (try clear hx112_0); (try clear hx113_0); (try clear p1); (try clear p10); (try clear p106); (try clear p108); (try clear p109); (try clear p11); (try clear p110); (try clear p112); (try clear p113); (try clear p2); (try clear p43); (try clear p6); (try clear q1); (try clear q10); (try clear q106); (try clear q108); (try clear q109); (try clear q11); (try clear q110); (try clear q112); (try clear q113); (try clear q43)
                              obtain ⟨x17_3, rfl, HA, HK3, HO_5, HO_6, BK124, HB⟩ := hrel
                              cases gk with
                              | zero => exact absurd HA.out (by simp [larderref02_Parse.l3])
                              | succ k3 =>
                                have H := HA.out
                                clear HA
                                simp only [larderref02_Parse.l3] at H
                                have HC49 := Aside0.mk H
                                clear H
                                go_upto_region 34 with (fail)
                                repeat (go_quiet (fail); go_upto_region 34 with (fail))
                                go_cut [122] (fun v122 wc => ∃ (kq : Nat) (x122_48 : Bool), v122 = .bool x122_48 ∧ Aside0 (larderref02_Parse.j4 kq a0 x5_1 x6_1 x7_1 x9_2 (wrap64 (x7_1 + (x9_2.size : Int))) x17_3 x122_48 false t117 t118 t119 t120 t121 t122 = some (r1, r2, r3)) ∧ Aside0 (kq ≤ k3) ∧ Aside0 (Kd.R k23 23 wc w.heap.size (fun _ => True) (.slice Ao33 x5_1.length co33) x5_1) ∧ Aside0 (Kd.R (Kd.int .i64) 3 wc w.heap.size (fun _ => True) u6 x6_1) ∧ Aside0 (wc.heap[gb124]? = some (.cells #[.bool false, .bool t117, .int .i64 t118, .int .i64 t119, .bool t120, .bool t121, .bool t122] 57 (0, 0))) ∧ Aside0 (Below w.heap.size w wc))
                                case first =>
                                  have H := HC49.out
                                  clear HC49
                                  by_cases c50 : x17_3 < (a0.size : Int)
                                  · rw [if_pos c50] at H
                                    have c50b0 : decide (x17_3 < (a0.size : Int)) = true := decide_eq_true c50
                                    clear c50
                                    (first | rw [c50b0] | (simp only [i64_w, i32_w]; rw [c50b0]) | skip)
                                    by_cases c51 : 0 ≤ x17_3
                                    · rw [if_pos c51] at H
                                      have c51b0 : decide (0 ≤ x17_3) = true := decide_eq_true c51
                                      clear c51
                                      have H' := Aside0.mk H
                                      clear H
                                      have p52 : 0 ≤ (x17_3 : Int) := of_decide_eq_true (by first | (with_reducible assumption) | assumption)
                                      have q52 : x17_3 < (a0.size : Int) := of_decide_eq_true (by first | (with_reducible assumption) | assumption)
                                      have hx52 := bt_at a0 x17_3
                                      replace p52 := eq_true p52
                                      replace q52 := eq_true q52
                                      go_wp2
                                      repeat (go_quiet (fail); try go_wp2)
                                      go_meet
                                      case rel => exact ⟨_, (((bt a0 x17_3) != 29)), (by first | rfl | (simp; done) | (simp [*]; done)), H', ⟨by have := HK1.out; have := HK2.out; have := HK3.out; first | omega | exact Nat.le_refl _⟩, ⟨by (with_reducible repeat (first | apply Kd.R_alloc | apply Kd.R_drewN | apply Kd.R_drew)); exact HO_5.out⟩, ⟨by (with_reducible repeat (first | apply Kd.R_alloc | apply Kd.R_drewN | apply Kd.R_drew)); exact HO_6.out⟩, ⟨by (with_reducible repeat (first | refine blk_drewN ?_ _ | refine blk_drew ?_ | refine blk_alloc ?_ _)); exact BK124.out⟩, ⟨by repeat (first | (with_reducible first | exact HB.out | apply below_alloc | apply pw_below_drewN | apply below_drew1 | refine below_set ?_ GE124.out) | exact HB.out)⟩⟩
                                    · rw [if_neg c51] at H
                                      exact absurd H (by simp)
                                  · rw [if_neg c50] at H
                                    have c50b0 : decide (x17_3 < (a0.size : Int)) = false := decide_eq_false c50
                                    clear c50
                                    (first | rw [c50b0] | (simp only [i64_w, i32_w]; rw [c50b0]) | skip)
                                    have H' := Aside0.mk H
                                    clear H
                                    go_wp2
                                    repeat (go_quiet (fail); try go_wp2)
                                    go_meet
                                    case rel => exact ⟨_, (false), (by first | rfl | (simp; done) | (simp [*]; done)), H', ⟨by have := HK1.out; have := HK2.out; have := HK3.out; first | omega | exact Nat.le_refl _⟩, ⟨by (with_reducible repeat (first | apply Kd.R_alloc | apply Kd.R_drewN | apply Kd.R_drew)); exact HO_5.out⟩, ⟨by (with_reducible repeat (first | apply Kd.R_alloc | apply Kd.R_drewN | apply Kd.R_drew)); exact HO_6.out⟩, ⟨by (with_reducible repeat (first | refine blk_drewN ?_ _ | refine blk_drew ?_ | refine blk_alloc ?_ _)); exact BK124.out⟩, ⟨by repeat (first | (with_reducible first | exact HB.out | apply below_alloc | apply pw_below_drewN | apply below_drew1 | refine below_set ?_ GE124.out) | exact HB.out)⟩⟩
                                case rest =>
                                  clear HC49
                                  (try clear c1); (try clear p1); (try clear q1); (try clear hx1); (try clear c2); (try clear c2b0); (try clear c2b1); (try clear p2); (try clear c3); (try clear c3b0); (try clear c4); (try clear c4b0); (try clear c4b1); (try clear p4); (try clear q4); (try clear hx4); (try clear c5); (try clear c5b0); (try clear c5b1); (try clear p5); (try clear q5); (try clear hx5); (try clear p6); (try clear c8); (try clear c8b0); (try clear c9); (try clear c9b0); (try clear p10); (try clear q10); (try clear hx10); (try clear c11); (try clear p11); (try clear q11); (try clear hx11); (try clear c12); (try clear c14); (try clear c14b0); (try clear c14b1); (try clear c17); (try clear c18); (try clear c20); (try clear c20b0); (try clear c20b1); (try clear c24); (try clear c24b0); (try clear c24b1); (try clear c25); (try clear c29); (try clear c29b0); (try clear c29b1); (try clear c37); (try clear c38); (try clear c38b0); (try clear c39); (try clear c39b0); (try clear c41); (try clear c41b0); (try clear c42); (try clear c42b0); (try clear p43); (try clear q43); (try clear hx43); (try clear c45); (try clear c50); (try clear c50b0); (try clear c51); (try clear c51b0); (try clear p52); (try clear q52); (try clear hx52); (try clear hcz36_0); (try clear hcz36_1); (try clear hcz36_2); (try clear hcz36_3); (try clear hcz36_4); (try clear hcz36_5); (try clear hcz36_6); (try clear hcz40_0); (try clear hcz40_1); (try clear hcz40_2); (try clear hcz40_3); (try clear hcz40_4); (try clear hcz40_5); (try clear hcz40_6); (try clear hcz46_0); (try clear hcz46_1); (try clear hcz46_2); (try clear hcz46_3); (try clear hcz46_4); (try clear hcz46_5); (try clear hcz46_6); (try clear hcz47_0); (try clear hcz47_1); (try clear hcz47_2); (try clear hcz47_3); (try clear hcz47_4); (try clear hcz47_5); (try clear hcz47_6); (try clear hcz48_0); (try clear hcz48_1); (try clear hcz48_2); (try clear hcz48_3); (try clear hcz48_4); (try clear hcz48_5); (try clear hcz48_6); (try clear hfz36_0); (try clear hfz36_1); (try clear hfz36_2); (try clear hfz36_3); (try clear hfz36_4); (try clear hfz36_5); (try clear hfz36_6); (try clear hfz40_0); (try clear hfz40_1); (try clear hfz40_2); (try clear hfz40_3); (try clear hfz40_4); (try clear hfz40_5); (try clear hfz40_6); (try clear hfz46_0); (try clear hfz46_1); (try clear hfz46_2); (try clear hfz46_3); (try clear hfz46_4); (try clear hfz46_5); (try clear hfz46_6); (try clear hfz47_0); (try clear hfz47_1); (try clear hfz47_2); (try clear hfz47_3); (try clear hfz47_4); (try clear hfz47_5); (try clear hfz47_6); (try clear hfz48_0); (try clear hfz48_1); (try clear hfz48_2); (try clear hfz48_3); (try clear hfz48_4); (try clear hfz48_5); (try clear hfz48_6); (try clear hx106_0); (try clear hx108_0); (try clear hx109_0); (try clear hx110_0); (try clear hx112_0); (try clear hx113_0); (try clear p1); (try clear p10); (try clear p106); (try clear p108); (try clear p109); (try clear p11); (try clear p110); (try clear p112); (try clear p113); (try clear p2); (try clear p4); (try clear p43); (try clear p52); (try clear p6); (try clear q1); (try clear q10); (try clear q106); (try clear q108); (try clear q109); (try clear q11); (try clear q110); (try clear q112); (try clear q113); (try clear q4); (try clear q43); (try clear q52)
                                  obtain ⟨kq, x122_48, rfl, HA, HJ48, HO_5, HO_6, BK124, HB⟩ := hcut
                                  cases kq with
                                  | zero => exact absurd HA.out (by simp [larderref02_Parse.j4])
                                  | succ kj48 =>
                                    have H := HA.out
                                    clear HA
                                    simp only [larderref02_Parse.j4] at H
                                    by_cases c53 : x122_48 = true
                                    · subst c53
                                      have H1 : (if (wrap64 (x17_3 - (wrap64 (x7_1 + (x9_2.size : Int))))) ≥ t119 then (some (([] : List (S23)), 26, x17_3)) else (if t117 = true then (if 0 ≤ x17_3 then (if x17_3 < (a0.size : Int) then ((larderref02_isDigit.f (bt a0 x17_3)).bind fun t126 => (larderref02_Parse.j5 kj48 a0 x5_1 x6_1 x7_1 x9_2 (wrap64 (x7_1 + (x9_2.size : Int))) x17_3 (!t126) false t117 t118 t119 t120 t121 t122)) else (none)) else (none)) else (larderref02_Parse.j5 kj48 a0 x5_1 x6_1 x7_1 x9_2 (wrap64 (x7_1 + (x9_2.size : Int))) x17_3 false false t117 t118 t119 t120 t121 t122))) = some (r1, r2, r3) := by rw [if_pos rfl] at H; exact H
                                      clear H
                                      have H := H1
                                      clear H1
                                      by_cases c54 : (wrap64 (x17_3 - (wrap64 (x7_1 + (x9_2.size : Int))))) ≥ t119
                                      · rw [if_pos c54] at H
                                        have c54b0 : decide (t119 ≤ (wrap64 (x17_3 - (wrap64 (x7_1 + (x9_2.size : Int)))))) = true := decide_eq_true c54
                                        clear c54
                                        simp only [Option.some.injEq, Prod.mk.injEq] at H
                                        obtain ⟨rfl, rfl, rfl⟩ := H
                                        have hcz55_0 : wc.cell? ⟨gb124, 0, none⟩ = some (.bool false) := (blk_cell BK124.out 0).trans rfl
                                        have hcz55_1 : wc.cell? ⟨gb124, 1, none⟩ = some (.bool t117) := (blk_cell BK124.out 1).trans rfl
                                        have hcz55_2 : wc.cell? ⟨gb124, 2, none⟩ = some (.int .i64 t118) := (blk_cell BK124.out 2).trans rfl
                                        have hcz55_3 : wc.cell? ⟨gb124, 3, none⟩ = some (.int .i64 t119) := (blk_cell BK124.out 3).trans rfl
                                        have hcz55_4 : wc.cell? ⟨gb124, 4, none⟩ = some (.bool t120) := (blk_cell BK124.out 4).trans rfl
                                        have hcz55_5 : wc.cell? ⟨gb124, 5, none⟩ = some (.bool t121) := (blk_cell BK124.out 5).trans rfl
                                        have hcz55_6 : wc.cell? ⟨gb124, 6, none⟩ = some (.bool t122) := (blk_cell BK124.out 6).trans rfl
                                        have hfz55_0 := blk_frozen BK124.out 0
                                        have hfz55_1 := blk_frozen BK124.out 1
                                        have hfz55_2 := blk_frozen BK124.out 2
                                        have hfz55_3 := blk_frozen BK124.out 3
                                        have hfz55_4 := blk_frozen BK124.out 4
                                        have hfz55_5 := blk_frozen BK124.out 5
                                        have hfz55_6 := blk_frozen BK124.out 6
                                        go_wp2
                                        repeat (go_quiet (fail); try go_wp2)
                                        go_ret3
                                        exact ⟨_, by first | rfl | (simp [errW_none, errW_some] <;> rfl) | (simp [*, errW_none, errW_some] <;> rfl), by first | exact Kd.R_nil _ _ _ _ _ | exact Kd.N_nil _ _ _ _ _ | exact Kd.V_nil _ _ _ _ _ | exact Kd.Q_nil _ _ _ _ _ | exact Kd.S_nil _ _ _ _ _, by repeat (first | (with_reducible first | exact HB.out | apply below_alloc | apply pw_below_drewN | apply below_drew1 | refine below_set ?_ GE124.out) | exact HB.out)⟩
                                      · rw [if_neg c54] at H
                                        have c54b0 : decide (t119 ≤ (wrap64 (x17_3 - (wrap64 (x7_1 + (x9_2.size : Int)))))) = false := decide_eq_false c54
                                        clear c54
                                        have HC56 := Aside0.mk H
                                        clear H
                                        have hcz57_0 : wc.cell? ⟨gb124, 0, none⟩ = some (.bool false) := (blk_cell BK124.out 0).trans rfl
                                        have hcz57_1 : wc.cell? ⟨gb124, 1, none⟩ = some (.bool t117) := (blk_cell BK124.out 1).trans rfl
                                        have hcz57_2 : wc.cell? ⟨gb124, 2, none⟩ = some (.int .i64 t118) := (blk_cell BK124.out 2).trans rfl
                                        have hcz57_3 : wc.cell? ⟨gb124, 3, none⟩ = some (.int .i64 t119) := (blk_cell BK124.out 3).trans rfl
                                        have hcz57_4 : wc.cell? ⟨gb124, 4, none⟩ = some (.bool t120) := (blk_cell BK124.out 4).trans rfl
                                        have hcz57_5 : wc.cell? ⟨gb124, 5, none⟩ = some (.bool t121) := (blk_cell BK124.out 5).trans rfl
                                        have hcz57_6 : wc.cell? ⟨gb124, 6, none⟩ = some (.bool t122) := (blk_cell BK124.out 6).trans rfl
                                        have hfz57_0 := blk_frozen BK124.out 0
                                        have hfz57_1 := blk_frozen BK124.out 1
                                        have hfz57_2 := blk_frozen BK124.out 2
                                        have hfz57_3 := blk_frozen BK124.out 3
                                        have hfz57_4 := blk_frozen BK124.out 4
                                        have hfz57_5 := blk_frozen BK124.out 5
                                        have hfz57_6 := blk_frozen BK124.out 6
                                        go_upto_region 37 with (fail)
                                        repeat (go_quiet (fail); go_upto_region 37 with (fail))
                                        go_cut [138] (fun v138 wc => ∃ (kq : Nat) (x138_55 : Bool), v138 = .bool x138_55 ∧ Aside0 (larderref02_Parse.j5 kq a0 x5_1 x6_1 x7_1 x9_2 (wrap64 (x7_1 + (x9_2.size : Int))) x17_3 x138_55 false t117 t118 t119 t120 t121 t122 = some (r1, r2, r3)) ∧ Aside0 (kq ≤ kj48) ∧ Aside0 (Kd.R k23 23 wc w.heap.size (fun _ => True) (.slice Ao33 x5_1.length co33) x5_1) ∧ Aside0 (Kd.R (Kd.int .i64) 3 wc w.heap.size (fun _ => True) u6 x6_1) ∧ Aside0 (wc.heap[gb124]? = some (.cells #[.bool false, .bool t117, .int .i64 t118, .int .i64 t119, .bool t120, .bool t121, .bool t122] 57 (0, 0))) ∧ Aside0 (Below w.heap.size w wc))
                                        case first =>
                                          have H := HC56.out
                                          clear HC56
                                          by_cases c58 : t117 = true
                                          · subst c58
                                            have H1 : (if 0 ≤ x17_3 then (if x17_3 < (a0.size : Int) then ((larderref02_isDigit.f (bt a0 x17_3)).bind fun t126 => (larderref02_Parse.j5 kj48 a0 x5_1 x6_1 x7_1 x9_2 (wrap64 (x7_1 + (x9_2.size : Int))) x17_3 (!t126) false true t118 t119 t120 t121 t122)) else (none)) else (none)) = some (r1, r2, r3) := by rw [if_pos rfl] at H; exact H
                                            clear H
                                            have H := H1
                                            clear H1
                                            by_cases c59 : 0 ≤ x17_3
                                            · rw [if_pos c59] at H
                                              have c59b0 : decide (0 ≤ x17_3) = true := decide_eq_true c59
                                              clear c59
                                              (first | rw [c59b0] | (simp only [i64_w, i32_w]; rw [c59b0]) | skip)
                                              by_cases c60 : x17_3 < (a0.size : Int)
                                              · rw [if_pos c60] at H
                                                have c60b0 : decide (x17_3 < (a0.size : Int)) = true := decide_eq_true c60
                                                clear c60
                                                replace H := Option.bind_eq_some_iff.mp H
                                                obtain ⟨t126, A620, H⟩ := H
                                                replace H : (larderref02_Parse.j5 kj48 a0 x5_1 x6_1 x7_1 x9_2 (wrap64 (x7_1 + (x9_2.size : Int))) x17_3 (!t126) false true t118 t119 t120 t121 t122) = some (r1, r2, r3) := H
                                                have A62 := Aside0.mk A620
                                                clear A620
                                                have H' := Aside0.mk H
                                                clear H
                                                have hcz63_0 : wc.cell? ⟨gb124, 0, none⟩ = some (.bool false) := (blk_cell BK124.out 0).trans rfl
                                                have hcz63_1 : wc.cell? ⟨gb124, 1, none⟩ = some (.bool true) := (blk_cell BK124.out 1).trans rfl
                                                have hcz63_2 : wc.cell? ⟨gb124, 2, none⟩ = some (.int .i64 t118) := (blk_cell BK124.out 2).trans rfl
                                                have hcz63_3 : wc.cell? ⟨gb124, 3, none⟩ = some (.int .i64 t119) := (blk_cell BK124.out 3).trans rfl
                                                have hcz63_4 : wc.cell? ⟨gb124, 4, none⟩ = some (.bool t120) := (blk_cell BK124.out 4).trans rfl
                                                have hcz63_5 : wc.cell? ⟨gb124, 5, none⟩ = some (.bool t121) := (blk_cell BK124.out 5).trans rfl
                                                have hcz63_6 : wc.cell? ⟨gb124, 6, none⟩ = some (.bool t122) := (blk_cell BK124.out 6).trans rfl
                                                have hfz63_0 := blk_frozen BK124.out 0
                                                have hfz63_1 := blk_frozen BK124.out 1
                                                have hfz63_2 := blk_frozen BK124.out 2
                                                have hfz63_3 := blk_frozen BK124.out 3
                                                have hfz63_4 := blk_frozen BK124.out 4
                                                have hfz63_5 := blk_frozen BK124.out 5
                                                have hfz63_6 := blk_frozen BK124.out 6
                                                have p61 : 0 ≤ (x17_3 : Int) := of_decide_eq_true (by first | (with_reducible assumption) | assumption)
                                                have q61 : x17_3 < (a0.size : Int) := of_decide_eq_true (by first | (with_reducible assumption) | assumption)
                                                have hx61 := bt_at a0 x17_3
                                                replace p61 := eq_true p61
                                                replace q61 := eq_true q61
                                                go_wp2_with (first | (go_at_call 28; (with_reducible refine (larderref02_isDigit.calls (bt a0 x17_3) t126 _ A62.out).mono ?_); rintro e w' ⟨rfl, ⟨nd, rfl⟩⟩; (try first | exact ⟨rfl, _, World.drewN_drewN _ _ _⟩ | exact ⟨rfl, _, Eq.trans (World.drewN_drewN _ _ _) (congrArg (World.drewN _) (Nat.add_assoc _ _ _))⟩)))
                                                repeat (go_quiet (first | (go_at_call 28; (with_reducible refine (larderref02_isDigit.calls (bt a0 x17_3) t126 _ A62.out).mono ?_); rintro e w' ⟨rfl, ⟨nd, rfl⟩⟩; (try first | exact ⟨rfl, _, World.drewN_drewN _ _ _⟩ | exact ⟨rfl, _, Eq.trans (World.drewN_drewN _ _ _) (congrArg (World.drewN _) (Nat.add_assoc _ _ _))⟩))); try go_wp2_with (first | (go_at_call 28; (with_reducible refine (larderref02_isDigit.calls (bt a0 x17_3) t126 _ A62.out).mono ?_); rintro e w' ⟨rfl, ⟨nd, rfl⟩⟩; (try first | exact ⟨rfl, _, World.drewN_drewN _ _ _⟩ | exact ⟨rfl, _, Eq.trans (World.drewN_drewN _ _ _) (congrArg (World.drewN _) (Nat.add_assoc _ _ _))⟩))))
                                                go_meet
                                                case rel => exact ⟨_, (!t126), (by first | rfl | (simp; done) | (simp [*]; done)), H', ⟨by have := HK1.out; have := HK2.out; have := HK3.out; have := HJ48.out; first | omega | exact Nat.le_refl _⟩, ⟨by (with_reducible repeat (first | apply Kd.R_alloc | apply Kd.R_drewN | apply Kd.R_drew)); exact HO_5.out⟩, ⟨by (with_reducible repeat (first | apply Kd.R_alloc | apply Kd.R_drewN | apply Kd.R_drew)); exact HO_6.out⟩, ⟨by (with_reducible repeat (first | refine blk_drewN ?_ _ | refine blk_drew ?_ | refine blk_alloc ?_ _)); exact BK124.out⟩, ⟨by repeat (first | (with_reducible first | exact HB.out | apply below_alloc | apply pw_below_drewN | apply below_drew1 | refine below_set ?_ GE124.out) | exact HB.out)⟩⟩
                                              · rw [if_neg c60] at H
                                                exact absurd H (by simp)
                                            · rw [if_neg c59] at H
                                              exact absurd H (by simp)
                                          · replace c58 := Bool.eq_false_iff.mpr c58
                                            subst c58
                                            have H1 : (larderref02_Parse.j5 kj48 a0 x5_1 x6_1 x7_1 x9_2 (wrap64 (x7_1 + (x9_2.size : Int))) x17_3 false false false t118 t119 t120 t121 t122) = some (r1, r2, r3) := by rw [if_neg (show ¬ (false = true) by decide)] at H; exact H
                                            clear H
                                            have H := H1
                                            clear H1
                                            have H' := Aside0.mk H
                                            clear H
                                            have hcz64_0 : wc.cell? ⟨gb124, 0, none⟩ = some (.bool false) := (blk_cell BK124.out 0).trans rfl
                                            have hcz64_1 : wc.cell? ⟨gb124, 1, none⟩ = some (.bool false) := (blk_cell BK124.out 1).trans rfl
                                            have hcz64_2 : wc.cell? ⟨gb124, 2, none⟩ = some (.int .i64 t118) := (blk_cell BK124.out 2).trans rfl
                                            have hcz64_3 : wc.cell? ⟨gb124, 3, none⟩ = some (.int .i64 t119) := (blk_cell BK124.out 3).trans rfl
                                            have hcz64_4 : wc.cell? ⟨gb124, 4, none⟩ = some (.bool t120) := (blk_cell BK124.out 4).trans rfl
                                            have hcz64_5 : wc.cell? ⟨gb124, 5, none⟩ = some (.bool t121) := (blk_cell BK124.out 5).trans rfl
                                            have hcz64_6 : wc.cell? ⟨gb124, 6, none⟩ = some (.bool t122) := (blk_cell BK124.out 6).trans rfl
                                            have hfz64_0 := blk_frozen BK124.out 0
                                            have hfz64_1 := blk_frozen BK124.out 1
                                            have hfz64_2 := blk_frozen BK124.out 2
                                            have hfz64_3 := blk_frozen BK124.out 3
                                            have hfz64_4 := blk_frozen BK124.out 4
                                            have hfz64_5 := blk_frozen BK124.out 5
                                            have hfz64_6 := blk_frozen BK124.out 6
                                            go_wp2
                                            repeat (go_quiet (fail); try go_wp2)
                                            go_meet
                                            case rel => exact ⟨_, (false), (by first | rfl | (simp; done) | (simp [*]; done)), H', ⟨by have := HK1.out; have := HK2.out; have := HK3.out; have := HJ48.out; first | omega | exact Nat.le_refl _⟩, ⟨by (with_reducible repeat (first | apply Kd.R_alloc | apply Kd.R_drewN | apply Kd.R_drew)); exact HO_5.out⟩, ⟨by (with_reducible repeat (first | apply Kd.R_alloc | apply Kd.R_drewN | apply Kd.R_drew)); exact HO_6.out⟩, ⟨by (with_reducible repeat (first | refine blk_drewN ?_ _ | refine blk_drew ?_ | refine blk_alloc ?_ _)); exact BK124.out⟩, ⟨by repeat (first | (with_reducible first | exact HB.out | apply below_alloc | apply pw_below_drewN | apply below_drew1 | refine below_set ?_ GE124.out) | exact HB.out)⟩⟩
                                        case rest =>
                                          clear HC56
                                          (try clear c1); (try clear p1); (try clear q1); (try clear hx1); (try clear c2); (try clear c2b0); (try clear c2b1); (try clear p2); (try clear c3); (try clear c3b0); (try clear c4); (try clear c4b0); (try clear c4b1); (try clear p4); (try clear q4); (try clear hx4); (try clear c5); (try clear c5b0); (try clear c5b1); (try clear p5); (try clear q5); (try clear hx5); (try clear c6); (try clear p6); (try clear q6); (try clear hx6); (try clear c8); (try clear c8b0); (try clear c9); (try clear c9b0); (try clear p10); (try clear q10); (try clear hx10); (try clear c11); (try clear p11); (try clear q11); (try clear hx11); (try clear c12); (try clear c14); (try clear c14b0); (try clear c14b1); (try clear c17); (try clear c18); (try clear c20); (try clear c20b0); (try clear c20b1); (try clear c24); (try clear c24b0); (try clear c24b1); (try clear c25); (try clear c29); (try clear c29b0); (try clear c29b1); (try clear c37); (try clear c38); (try clear c38b0); (try clear c39); (try clear c39b0); (try clear c41); (try clear c41b0); (try clear c42); (try clear c42b0); (try clear p43); (try clear q43); (try clear hx43); (try clear c45); (try clear c50); (try clear c50b0); (try clear c51); (try clear c51b0); (try clear p52); (try clear q52); (try clear hx52); (try clear c53); (try clear c54); (try clear c54b0); (try clear c58); (try clear c59); (try clear c59b0); (try clear c60); (try clear c60b0); (try clear p61); (try clear q61); (try clear hx61); (try clear p64); (try clear hcz36_0); (try clear hcz36_1); (try clear hcz36_2); (try clear hcz36_3); (try clear hcz36_4); (try clear hcz36_5); (try clear hcz36_6); (try clear hcz40_0); (try clear hcz40_1); (try clear hcz40_2); (try clear hcz40_3); (try clear hcz40_4); (try clear hcz40_5); (try clear hcz40_6); (try clear hcz46_0); (try clear hcz46_1); (try clear hcz46_2); (try clear hcz46_3); (try clear hcz46_4); (try clear hcz46_5); (try clear hcz46_6); (try clear hcz47_0); (try clear hcz47_1); (try clear hcz47_2); (try clear hcz47_3); (try clear hcz47_4); (try clear hcz47_5); (try clear hcz47_6); (try clear hcz48_0); (try clear hcz48_1); (try clear hcz48_2); (try clear hcz48_3); (try clear hcz48_4); (try clear hcz48_5); (try clear hcz48_6); (try clear hcz55_0); (try clear hcz55_1); (try clear hcz55_2); (try clear hcz55_3); (try clear hcz55_4); (try clear hcz55_5); (try clear hcz55_6); (try clear hcz57_0); (try clear hcz57_1); (try clear hcz57_2); (try clear hcz57_3); (try clear hcz57_4); (try clear hcz57_5); (try clear hcz57_6); (try clear hcz63_0); (try clear hcz63_1); (try clear hcz63_2); (try clear hcz63_3); (try clear hcz63_4); (try clear hcz63_5); (try clear hcz63_6); (try clear hcz64_0); (try clear hcz64_1); (try clear hcz64_2); (try clear hcz64_3); (try clear hcz64_4); (try clear hcz64_5); (try clear hcz64_6); (try clear hfz36_0); (try clear hfz36_1); (try clear hfz36_2); (try clear hfz36_3); (try clear hfz36_4); (try clear hfz36_5); (try clear hfz36_6); (try clear hfz40_0); (try clear hfz40_1); (try clear hfz40_2); (try clear hfz40_3); (try clear hfz40_4); (try clear hfz40_5); (try clear hfz40_6); (try clear hfz46_0); (try clear hfz46_1); (try clear hfz46_2); (try clear hfz46_3); (try clear hfz46_4); (try clear hfz46_5); (try clear hfz46_6); (try clear hfz47_0); (try clear hfz47_1); (try clear hfz47_2); (try clear hfz47_3); (try clear hfz47_4); (try clear hfz47_5); (try clear hfz47_6); (try clear hfz48_0); (try clear hfz48_1); (try clear hfz48_2); (try clear hfz48_3); (try clear hfz48_4); (try clear hfz48_5); (try clear hfz48_6); (try clear hfz55_0); (try clear hfz55_1); (try clear hfz55_2); (try clear hfz55_3); (try clear hfz55_4); (try clear hfz55_5); (try clear hfz55_6); (try clear hfz57_0); (try clear hfz57_1); (try clear hfz57_2); (try clear hfz57_3); (try clear hfz57_4); (try clear hfz57_5); (try clear hfz57_6); (try clear hfz63_0); (try clear hfz63_1); (try clear hfz63_2); (try clear hfz63_3); (try clear hfz63_4); (try clear hfz63_5); (try clear hfz63_6); (try clear hfz64_0); (try clear hfz64_1); (try clear hfz64_2); (try clear hfz64_3); (try clear hfz64_4); (try clear hfz64_5); (try clear hfz64_6); (try clear hx106_0); (try clear hx108_0); (try clear hx109_0); (try clear hx110_0); (try clear hx112_0); (try clear hx113_0); (try clear p1); (try clear p10); (try clear p106); (try clear p108); (try clear p109); (try clear p11); (try clear p110); (try clear p112); (try clear p113); (try clear p2); (try clear p4); (try clear p43); (try clear p5); (try clear p52); (try clear p6); (try clear p61); (try clear q1); (try clear q10); (try clear q106); (try clear q108); (try clear q109); (try clear q11); (try clear q110); (try clear q112); (try clear q113); (try clear q4); (try clear q43); (try clear q5); (try clear q52); (try clear q61)
                                          obtain ⟨kq, x138_55, rfl, HA, HJ55, HO_5, HO_6, BK124, HB⟩ := hcut
                                          cases kq with
                                          | zero => exact absurd HA.out (by simp [larderref02_Parse.j5])
                                          | succ kj55 =>
                                            have H := HA.out
                                            clear HA
                                            simp only [larderref02_Parse.j5] at H
                                            by_cases c65 : x138_55 = true
                                            · subst c65
                                              have H1 : (some (([] : List (S23)), 20, x17_3)) = some (r1, r2, r3) := by rw [if_pos rfl] at H; exact H
                                              clear H
                                              have H := H1
                                              clear H1
                                              simp only [Option.some.injEq, Prod.mk.injEq] at H
                                              obtain ⟨rfl, rfl, rfl⟩ := H
                                              go_wp2
                                              repeat (go_quiet (fail); try go_wp2)
                                              go_ret3
                                              exact ⟨_, by first | rfl | (simp [errW_none, errW_some] <;> rfl) | (simp [*, errW_none, errW_some] <;> rfl), by first | exact Kd.R_nil _ _ _ _ _ | exact Kd.N_nil _ _ _ _ _ | exact Kd.V_nil _ _ _ _ _ | exact Kd.Q_nil _ _ _ _ _ | exact Kd.S_nil _ _ _ _ _, by repeat (first | (with_reducible first | exact HB.out | apply below_alloc | apply pw_below_drewN | apply below_drew1 | refine below_set ?_ GE124.out) | exact HB.out)⟩
                                            · replace c65 := Bool.eq_false_iff.mpr c65
                                              subst c65
                                              have H1 : (if 0 ≤ x17_3 then (if x17_3 < (a0.size : Int) then ((larderref02_char.f kj55 (bt a0 x17_3)).bind fun t127 => (if t127 = true then (larderref02_Parse.l3 kj55 a0 x5_1 x6_1 x7_1 x9_2 (wrap64 (x7_1 + (x9_2.size : Int))) (wrap64 (x17_3 + 1)) false t117 t118 t119 t120 t121 t122) else (some (([] : List (S23)), 27, x17_3)))) else (none)) else (none)) = some (r1, r2, r3) := by rw [if_neg (show ¬ (false = true) by decide)] at H; exact H
                                              clear H
                                              have H := H1
                                              clear H1
                                              by_cases c66 : 0 ≤ x17_3
                                              · rw [if_pos c66] at H
                                                have c66b0 : decide (0 ≤ x17_3) = true := decide_eq_true c66
                                                clear c66
                                                by_cases c67 : x17_3 < (a0.size : Int)
                                                · rw [if_pos c67] at H
                                                  have c67b0 : decide (x17_3 < (a0.size : Int)) = true := decide_eq_true c67
                                                  clear c67
                                                  replace H := Option.bind_eq_some_iff.mp H
                                                  obtain ⟨t127, A690, H⟩ := H
                                                  replace H : (if t127 = true then (larderref02_Parse.l3 kj55 a0 x5_1 x6_1 x7_1 x9_2 (wrap64 (x7_1 + (x9_2.size : Int))) (wrap64 (x17_3 + 1)) false t117 t118 t119 t120 t121 t122) else (some (([] : List (S23)), 27, x17_3))) = some (r1, r2, r3) := H
                                                  have A69 := Aside0.mk A690
                                                  clear A690
                                                  by_cases c70 : t127 = true
                                                  · subst c70
                                                    have H1 : (larderref02_Parse.l3 kj55 a0 x5_1 x6_1 x7_1 x9_2 (wrap64 (x7_1 + (x9_2.size : Int))) (wrap64 (x17_3 + 1)) false t117 t118 t119 t120 t121 t122) = some (r1, r2, r3) := by rw [if_pos rfl] at H; exact H
                                                    clear H
                                                    have H := H1
                                                    clear H1
                                                    have H' := Aside0.mk H
                                                    clear H
                                                    have p68 : 0 ≤ (x17_3 : Int) := of_decide_eq_true (by first | (with_reducible assumption) | assumption)
                                                    have q68 : x17_3 < (a0.size : Int) := of_decide_eq_true (by first | (with_reducible assumption) | assumption)
                                                    have hx68 := bt_at a0 x17_3
                                                    replace p68 := eq_true p68
                                                    replace q68 := eq_true q68
                                                    go_wp2_with (first | (go_at_call 42; (with_reducible refine (larderref02_char.calls kj55 (bt a0 x17_3) true _ A69.out).mono ?_); rintro e w' ⟨rfl, ⟨nd, rfl⟩⟩; (try first | exact ⟨rfl, _, World.drewN_drewN _ _ _⟩ | exact ⟨rfl, _, Eq.trans (World.drewN_drewN _ _ _) (congrArg (World.drewN _) (Nat.add_assoc _ _ _))⟩)))
                                                    repeat (go_quiet (first | (go_at_call 42; (with_reducible refine (larderref02_char.calls kj55 (bt a0 x17_3) true _ A69.out).mono ?_); rintro e w' ⟨rfl, ⟨nd, rfl⟩⟩; (try first | exact ⟨rfl, _, World.drewN_drewN _ _ _⟩ | exact ⟨rfl, _, Eq.trans (World.drewN_drewN _ _ _) (congrArg (World.drewN _) (Nat.add_assoc _ _ _))⟩))); try go_wp2_with (first | (go_at_call 42; (with_reducible refine (larderref02_char.calls kj55 (bt a0 x17_3) true _ A69.out).mono ?_); rintro e w' ⟨rfl, ⟨nd, rfl⟩⟩; (try first | exact ⟨rfl, _, World.drewN_drewN _ _ _⟩ | exact ⟨rfl, _, Eq.trans (World.drewN_drewN _ _ _) (congrArg (World.drewN _) (Nat.add_assoc _ _ _))⟩))))
                                                    go_roundg kj55
                                                    case measure => have := HK1.out; have := HK2.out; have := HK3.out; have := HJ48.out; have := HJ55.out; omega
                                                    case rel => exact ⟨(wrap64 (x17_3 + 1)), (by first | rfl | (simp; done) | (simp [*]; done)), H', ⟨by have := HK1.out; have := HK2.out; have := HK3.out; have := HJ48.out; have := HJ55.out; omega⟩, ⟨by (with_reducible repeat (first | apply Kd.R_alloc | apply Kd.R_drewN | apply Kd.R_drew)); exact HO_5.out⟩, ⟨by (with_reducible repeat (first | apply Kd.R_alloc | apply Kd.R_drewN | apply Kd.R_drew)); exact HO_6.out⟩, ⟨by (with_reducible repeat (first | refine blk_drewN ?_ _ | refine blk_drew ?_ | refine blk_alloc ?_ _)); exact BK124.out⟩, ⟨by repeat (first | (with_reducible first | exact HB.out | apply below_alloc | apply pw_below_drewN | apply below_drew1 | refine below_set ?_ GE124.out) | exact HB.out)⟩⟩
                                                  · replace c70 := Bool.eq_false_iff.mpr c70
                                                    subst c70
                                                    have H1 : (some (([] : List (S23)), 27, x17_3)) = some (r1, r2, r3) := by rw [if_neg (show ¬ (false = true) by decide)] at H; exact H
                                                    clear H
                                                    have H := H1
                                                    clear H1
                                                    simp only [Option.some.injEq, Prod.mk.injEq] at H
                                                    obtain ⟨rfl, rfl, rfl⟩ := H
                                                    have p68 : 0 ≤ (x17_3 : Int) := of_decide_eq_true (by first | (with_reducible assumption) | assumption)
                                                    have q68 : x17_3 < (a0.size : Int) := of_decide_eq_true (by first | (with_reducible assumption) | assumption)
                                                    have hx68 := bt_at a0 x17_3
                                                    replace p68 := eq_true p68
                                                    replace q68 := eq_true q68
                                                    go_wp2_with (first | (go_at_call 42; (with_reducible refine (larderref02_char.calls kj55 (bt a0 x17_3) false _ A69.out).mono ?_); rintro e w' ⟨rfl, ⟨nd, rfl⟩⟩; (try first | exact ⟨rfl, _, World.drewN_drewN _ _ _⟩ | exact ⟨rfl, _, Eq.trans (World.drewN_drewN _ _ _) (congrArg (World.drewN _) (Nat.add_assoc _ _ _))⟩)))
                                                    repeat (go_quiet (first | (go_at_call 42; (with_reducible refine (larderref02_char.calls kj55 (bt a0 x17_3) false _ A69.out).mono ?_); rintro e w' ⟨rfl, ⟨nd, rfl⟩⟩; (try first | exact ⟨rfl, _, World.drewN_drewN _ _ _⟩ | exact ⟨rfl, _, Eq.trans (World.drewN_drewN _ _ _) (congrArg (World.drewN _) (Nat.add_assoc _ _ _))⟩))); try go_wp2_with (first | (go_at_call 42; (with_reducible refine (larderref02_char.calls kj55 (bt a0 x17_3) false _ A69.out).mono ?_); rintro e w' ⟨rfl, ⟨nd, rfl⟩⟩; (try first | exact ⟨rfl, _, World.drewN_drewN _ _ _⟩ | exact ⟨rfl, _, Eq.trans (World.drewN_drewN _ _ _) (congrArg (World.drewN _) (Nat.add_assoc _ _ _))⟩))))
                                                    go_ret3
                                                    exact ⟨_, by first | rfl | (simp [errW_none, errW_some] <;> rfl) | (simp [*, errW_none, errW_some] <;> rfl), by first | exact Kd.R_nil _ _ _ _ _ | exact Kd.N_nil _ _ _ _ _ | exact Kd.V_nil _ _ _ _ _ | exact Kd.Q_nil _ _ _ _ _ | exact Kd.S_nil _ _ _ _ _, by repeat (first | (with_reducible first | exact HB.out | apply below_alloc | apply pw_below_drewN | apply below_drew1 | refine below_set ?_ GE124.out) | exact HB.out)⟩
                                                · rw [if_neg c67] at H
                                                  exact absurd H (by simp)
                                              · rw [if_neg c66] at H
                                                exact absurd H (by simp)
                                    · replace c53 := Bool.eq_false_iff.mpr c53
                                      subst c53
                                      have H1 : (if x17_3 = (wrap64 (x7_1 + (x9_2.size : Int))) then (some (([] : List (S23)), 3, (wrap64 (x7_1 + (x9_2.size : Int))))) else (if (wrap64 (x17_3 - (wrap64 (x7_1 + (x9_2.size : Int))))) < t118 then (some (([] : List (S23)), 3, x17_3)) else (larderref02_Parse.j6 kj48 a0 x5_1 x6_1 x7_1 x9_2 (wrap64 (x7_1 + (x9_2.size : Int))) x17_3 false t117 t118 t119 t120 t121 t122))) = some (r1, r2, r3) := by rw [if_neg (show ¬ (false = true) by decide)] at H; exact H
                                      clear H
                                      have H := H1
                                      clear H1
                                      by_cases c71 : x17_3 = (wrap64 (x7_1 + (x9_2.size : Int)))
                                      · rw [if_pos c71] at H
                                        have c71b0 : (x17_3 == (wrap64 (x7_1 + (x9_2.size : Int)))) = true := beq_iff_eq.mpr c71
                                        have c71b1 : (x17_3 != (wrap64 (x7_1 + (x9_2.size : Int)))) = false := bne_eq_false_iff_eq.mpr c71
                                        clear c71
                                        simp only [Option.some.injEq, Prod.mk.injEq] at H
                                        obtain ⟨rfl, rfl, rfl⟩ := H
                                        go_wp2
                                        repeat (go_quiet (fail); try go_wp2)
                                        go_ret3
                                        exact ⟨_, by first | rfl | (simp [errW_none, errW_some] <;> rfl) | (simp [*, errW_none, errW_some] <;> rfl), by first | exact Kd.R_nil _ _ _ _ _ | exact Kd.N_nil _ _ _ _ _ | exact Kd.V_nil _ _ _ _ _ | exact Kd.Q_nil _ _ _ _ _ | exact Kd.S_nil _ _ _ _ _, by repeat (first | (with_reducible first | exact HB.out | apply below_alloc | apply pw_below_drewN | apply below_drew1 | refine below_set ?_ GE124.out) | exact HB.out)⟩
                                      · rw [if_neg c71] at H
                                        have c71b0 : (x17_3 == (wrap64 (x7_1 + (x9_2.size : Int)))) = false := beq_eq_false_iff_ne.mpr c71
                                        have c71b1 : (x17_3 != (wrap64 (x7_1 + (x9_2.size : Int)))) = true := bne_iff_ne.mpr c71
                                        by_cases c72 : (wrap64 (x17_3 - (wrap64 (x7_1 + (x9_2.size : Int))))) < t118
                                        · rw [if_pos c72] at H
                                          have c72b0 : decide ((wrap64 (x17_3 - (wrap64 (x7_1 + (x9_2.size : Int))))) < t118) = true := decide_eq_true c72
                                          clear c72
                                          simp only [Option.some.injEq, Prod.mk.injEq] at H
                                          obtain ⟨rfl, rfl, rfl⟩ := H
                                          have hcz73_0 : wc.cell? ⟨gb124, 0, none⟩ = some (.bool false) := (blk_cell BK124.out 0).trans rfl
                                          have hcz73_1 : wc.cell? ⟨gb124, 1, none⟩ = some (.bool t117) := (blk_cell BK124.out 1).trans rfl
                                          have hcz73_2 : wc.cell? ⟨gb124, 2, none⟩ = some (.int .i64 t118) := (blk_cell BK124.out 2).trans rfl
                                          have hcz73_3 : wc.cell? ⟨gb124, 3, none⟩ = some (.int .i64 t119) := (blk_cell BK124.out 3).trans rfl
                                          have hcz73_4 : wc.cell? ⟨gb124, 4, none⟩ = some (.bool t120) := (blk_cell BK124.out 4).trans rfl
                                          have hcz73_5 : wc.cell? ⟨gb124, 5, none⟩ = some (.bool t121) := (blk_cell BK124.out 5).trans rfl
                                          have hcz73_6 : wc.cell? ⟨gb124, 6, none⟩ = some (.bool t122) := (blk_cell BK124.out 6).trans rfl
                                          have hfz73_0 := blk_frozen BK124.out 0
                                          have hfz73_1 := blk_frozen BK124.out 1
                                          have hfz73_2 := blk_frozen BK124.out 2
                                          have hfz73_3 := blk_frozen BK124.out 3
                                          have hfz73_4 := blk_frozen BK124.out 4
                                          have hfz73_5 := blk_frozen BK124.out 5
                                          have hfz73_6 := blk_frozen BK124.out 6
                                          go_wp2
                                          repeat (go_quiet (fail); try go_wp2)
                                          go_ret3
                                          exact ⟨_, by first | rfl | (simp [errW_none, errW_some] <;> rfl) | (simp [*, errW_none, errW_some] <;> rfl), by first | exact Kd.R_nil _ _ _ _ _ | exact Kd.N_nil _ _ _ _ _ | exact Kd.V_nil _ _ _ _ _ | exact Kd.Q_nil _ _ _ _ _ | exact Kd.S_nil _ _ _ _ _, by repeat (first | (with_reducible first | exact HB.out | apply below_alloc | apply pw_below_drewN | apply below_drew1 | refine below_set ?_ GE124.out) | exact HB.out)⟩
                                        · rw [if_neg c72] at H
                                          have c72b0 : decide ((wrap64 (x17_3 - (wrap64 (x7_1 + (x9_2.size : Int))))) < t118) = false := decide_eq_false c72
                                          clear c72
                                          have H' := Aside0.mk H
                                          clear H
                                          have hcz74_0 : wc.cell? ⟨gb124, 0, none⟩ = some (.bool false) := (blk_cell BK124.out 0).trans rfl
                                          have hcz74_1 : wc.cell? ⟨gb124, 1, none⟩ = some (.bool t117) := (blk_cell BK124.out 1).trans rfl
                                          have hcz74_2 : wc.cell? ⟨gb124, 2, none⟩ = some (.int .i64 t118) := (blk_cell BK124.out 2).trans rfl
                                          have hcz74_3 : wc.cell? ⟨gb124, 3, none⟩ = some (.int .i64 t119) := (blk_cell BK124.out 3).trans rfl
                                          have hcz74_4 : wc.cell? ⟨gb124, 4, none⟩ = some (.bool t120) := (blk_cell BK124.out 4).trans rfl
                                          have hcz74_5 : wc.cell? ⟨gb124, 5, none⟩ = some (.bool t121) := (blk_cell BK124.out 5).trans rfl
                                          have hcz74_6 : wc.cell? ⟨gb124, 6, none⟩ = some (.bool t122) := (blk_cell BK124.out 6).trans rfl
                                          have hfz74_0 := blk_frozen BK124.out 0
                                          have hfz74_1 := blk_frozen BK124.out 1
                                          have hfz74_2 := blk_frozen BK124.out 2
                                          have hfz74_3 := blk_frozen BK124.out 3
                                          have hfz74_4 := blk_frozen BK124.out 4
                                          have hfz74_5 := blk_frozen BK124.out 5
                                          have hfz74_6 := blk_frozen BK124.out 6
                                          go_wp2
                                          repeat (go_quiet (fail); try go_wp2)
                                          go_meet
                                          case rel => exact ⟨_, (x17_3), (by first | rfl | (simp; done) | (simp [*]; done)), H', ⟨by have := HK1.out; have := HK2.out; have := HK3.out; have := HJ48.out; first | omega | exact Nat.le_refl _⟩, ⟨by (with_reducible repeat (first | apply Kd.R_alloc | apply Kd.R_drewN | apply Kd.R_drew)); exact HO_5.out⟩, ⟨by (with_reducible repeat (first | apply Kd.R_alloc | apply Kd.R_drewN | apply Kd.R_drew)); exact HO_6.out⟩, ⟨by (with_reducible repeat (first | refine blk_drewN ?_ _ | refine blk_drew ?_ | refine blk_alloc ?_ _)); exact BK124.out⟩, ⟨by repeat (first | (with_reducible first | exact HB.out | apply below_alloc | apply pw_below_drewN | apply below_drew1 | refine below_set ?_ GE124.out) | exact HB.out)⟩⟩
                        case rest => as_aux_lemma =>
                          clear HC31
                          (try clear c1); (try clear p1); (try clear q1); (try clear hx1); (try clear c2); (try clear c2b0); (try clear c2b1); (try clear p2); (try clear c3); (try clear c3b0); (try clear c4); (try clear c4b0); (try clear c4b1); (try clear p4); (try clear q4); (try clear hx4); (try clear c5); (try clear c5b0); (try clear c5b1); (try clear p5); (try clear q5); (try clear hx5); (try clear c6); (try clear p6); (try clear q6); (try clear hx6); (try clear c7); (try clear c8); (try clear c8b0); (try clear c9); (try clear c9b0); (try clear p10); (try clear q10); (try clear hx10); (try clear c11); (try clear p11); (try clear q11); (try clear hx11); (try clear c12); (try clear c14); (try clear c14b0); (try clear c14b1); (try clear c17); (try clear c18); (try clear c20); (try clear c20b0); (try clear c20b1); (try clear c24); (try clear c24b0); (try clear c24b1); (try clear c25); (try clear c29); (try clear c29b0); (try clear c29b1); (try clear c37); (try clear c38); (try clear c38b0); (try clear c39); (try clear c39b0); (try clear c41); (try clear c41b0); (try clear c42); (try clear c42b0); (try clear p43); (try clear q43); (try clear hx43); (try clear c45); (try clear c50); (try clear c50b0); (try clear c51); (try clear c51b0); (try clear p52); (try clear q52); (try clear hx52); (try clear c53); (try clear c54); (try clear c54b0); (try clear c58); (try clear c59); (try clear c59b0); (try clear c60); (try clear c60b0); (try clear p61); (try clear q61); (try clear hx61); (try clear p64); (try clear c65); (try clear c66); (try clear c66b0); (try clear c67); (try clear c67b0); (try clear p68); (try clear q68); (try clear hx68); (try clear c70); (try clear c71); (try clear c71b0); (try clear c71b1); (try clear c72); (try clear c72b0); (try clear hcz36_0); (try clear hcz36_1); (try clear hcz36_2); (try clear hcz36_3); (try clear hcz36_4); (try clear hcz36_5); (try clear hcz36_6); (try clear hcz40_0); (try clear hcz40_1); (try clear hcz40_2); (try clear hcz40_3); (try clear hcz40_4); (try clear hcz40_5); (try clear hcz40_6); (try clear hcz46_0); (try clear hcz46_1); (try clear hcz46_2); (try clear hcz46_3); (try clear hcz46_4); (try clear hcz46_5); (try clear hcz46_6); (try clear hcz47_0); (try clear hcz47_1); (try clear hcz47_2); (try clear hcz47_3); (try clear hcz47_4); (try clear hcz47_5); (try clear hcz47_6); (try clear hcz48_0); (try clear hcz48_1); (try clear hcz48_2); (try clear hcz48_3); (try clear hcz48_4); (try clear hcz48_5); (try clear hcz48_6); (try clear hcz55_0); (try clear hcz55_1); (try clear hcz55_2); (try clear hcz55_3); (try clear hcz55_4); (try clear hcz55_5); (try clear hcz55_6); (try clear hcz57_0); (try clear hcz57_1); (try clear hcz57_2); (try clear hcz57_3); (try clear hcz57_4); (try clear hcz57_5); (try clear hcz57_6); (try clear hcz63_0); (try clear hcz63_1); (try clear hcz63_2); (try clear hcz63_3); (try clear hcz63_4); (try clear hcz63_5); (try clear hcz63_6); (try clear hcz64_0); (try clear hcz64_1); (try clear hcz64_2); (try clear hcz64_3); (try clear hcz64_4); (try clear hcz64_5); (try clear hcz64_6); (try clear hcz73_0); (try clear hcz73_1); (try clear hcz73_2); (try clear hcz73_3); (try clear hcz73_4); (try clear hcz73_5); (try clear hcz73_6); (try clear hcz74_0); (try clear hcz74_1); (try clear hcz74_2); (try clear hcz74_3); (try clear hcz74_4); (try clear hcz74_5); (try clear hcz74_6); (try clear hfz36_0); (try clear hfz36_1); (try clear hfz36_2); (try clear hfz36_3); (try clear hfz36_4); (try clear hfz36_5); (try clear hfz36_6); (try clear hfz40_0); (try clear hfz40_1); (try clear hfz40_2); (try clear hfz40_3); (try clear hfz40_4); (try clear hfz40_5); (try clear hfz40_6); (try clear hfz46_0); (try clear hfz46_1); (try clear hfz46_2); (try clear hfz46_3); (try clear hfz46_4); (try clear hfz46_5); (try clear hfz46_6); (try clear hfz47_0); (try clear hfz47_1); (try clear hfz47_2); (try clear hfz47_3); (try clear hfz47_4); (try clear hfz47_5); (try clear hfz47_6); (try clear hfz48_0); (try clear hfz48_1); (try clear hfz48_2); (try clear hfz48_3); (try clear hfz48_4); (try clear hfz48_5); (try clear hfz48_6); (try clear hfz55_0); (try clear hfz55_1); (try clear hfz55_2); (try clear hfz55_3); (try clear hfz55_4); (try clear hfz55_5); (try clear hfz55_6); (try clear hfz57_0); (try clear hfz57_1); (try clear hfz57_2); (try clear hfz57_3); (try clear hfz57_4); (try clear hfz57_5); (try clear hfz57_6); (try clear hfz63_0); (try clear hfz63_1); (try clear hfz63_2); (try clear hfz63_3); (try clear hfz63_4); (try clear hfz63_5); (try clear hfz63_6); (try clear hfz64_0); (try clear hfz64_1); (try clear hfz64_2); (try clear hfz64_3); (try clear hfz64_4); (try clear hfz64_5); (try clear hfz64_6); (try clear hfz73_0); (try clear hfz73_1); (try clear hfz73_2); (try clear hfz73_3); (try clear hfz73_4); (try clear hfz73_5); (try clear hfz73_6); (try clear hfz74_0); (try clear hfz74_1); (try clear hfz74_2); (try clear hfz74_3); (try clear hfz74_4); (try clear hfz74_5); (try clear hfz74_6); (try clear hx106_0); (try clear hx108_0); (try clear hx109_0); (try clear hx110_0); (try clear hx112_0); (try clear hx113_0); (try clear p1); (try clear p10); (try clear p106); (try clear p108); (try clear p109); (try clear p11); (try clear p110); (try clear p112); (try clear p113); (try clear p2); (try clear p4); (try clear p43); (try clear p5); (try clear p52); (try clear p6); (try clear p61); (try clear p64); (try clear p68); (try clear q1); (try clear q10); (try clear q106); (try clear q108); (try clear q109); (try clear q11); (try clear q110); (try clear q112); (try clear q113); (try clear q4); (try clear q43); (try clear q5); (try clear q52); (try clear q6); (try clear q61); (try clear q68)
                          obtain ⟨kq, x17_30, rfl, HA, HJ30, HO_5, HO_6, BK124, HB⟩ := hcut
                          cases kq with
                          | zero => exact absurd HA.out (by simp [larderref02_Parse.j6])
                          | succ kj30 =>
                            have H := HA.out
                            clear HA
                            simp only [larderref02_Parse.j6] at H
                            obtain ⟨ji75, hji75⟩ : ∃ j_ : Int, (wrap64 (x7_1 + (x9_2.size : Int))) = j_ := ⟨_, rfl⟩
                            replace H : (if 0 ≤ (ji75) then (if (ji75) ≤ x17_30 then (if x17_30 ≤ (a0.size : Int) then (if t120 = true then ((larderref02_sum.f kj30 (a0.extract ((ji75) : Int).toNat (x17_30 : Int).toNat)).bind fun t128 => (larderref02_Parse.j7 kj30 a0 x5_1 x6_1 x7_1 x9_2 (ji75) x17_30 (a0.extract ((ji75) : Int).toNat (x17_30 : Int).toNat) ((Int.tmod t128 10) != 0) t116 t117 t118 t119 t120 t121 t122)) else (larderref02_Parse.j7 kj30 a0 x5_1 x6_1 x7_1 x9_2 (ji75) x17_30 (a0.extract ((ji75) : Int).toNat (x17_30 : Int).toNat) false t116 t117 t118 t119 t120 t121 t122)) else (none)) else (none)) else (none)) = some (r1, r2, r3) := by first | (rw [hji75] at H; exact H) | (simp only [hji75] at H ⊢; exact H)
                            have hji75w : (IntKind.i64.wrap (x7_1 + (x9_2.size : Int))) = ji75 := (i64_w _).trans hji75
                            by_cases c76 : 0 ≤ (ji75)
                            · rw [if_pos c76] at H
                              have c76b0 := eq_true c76
                              have c76b1 : decide (0 ≤ (ji75)) = true := decide_eq_true c76
                              clear c76
                              by_cases c77 : (ji75) ≤ x17_30
                              · rw [if_pos c77] at H
                                have c77b0 := eq_true c77
                                have c77b1 : decide ((ji75) ≤ x17_30) = true := decide_eq_true c77
                                clear c77
                                by_cases c78 : x17_30 ≤ (a0.size : Int)
                                · rw [if_pos c78] at H
                                  have c78b0 := eq_true c78
                                  have c78b1 : decide (x17_30 ≤ (a0.size : Int)) = true := decide_eq_true c78
                                  clear c78
                                  have HC79 := Aside0.mk H
                                  clear H
                                  go_upto_region 48 with (fail)
                                  repeat (go_quiet (fail); go_upto_region 48 with (fail))
                                  (try rw [hji75]); go_cut [171] (fun v171 wc => ∃ (kq : Nat) (x171_78 : Bool), v171 = .bool x171_78 ∧ Aside0 (larderref02_Parse.j7 kq a0 x5_1 x6_1 x7_1 x9_2 (ji75) x17_30 (a0.extract ((ji75) : Int).toNat (x17_30 : Int).toNat) x171_78 t116 t117 t118 t119 t120 t121 t122 = some (r1, r2, r3)) ∧ Aside0 (kq ≤ kj30) ∧ Aside0 (Kd.R k23 23 wc w.heap.size (fun _ => True) (.slice Ao33 x5_1.length co33) x5_1) ∧ Aside0 (Kd.R (Kd.int .i64) 3 wc w.heap.size (fun _ => True) u6 x6_1) ∧ Aside0 (wc.heap[gb124]? = some (.cells #[.bool t116, .bool t117, .int .i64 t118, .int .i64 t119, .bool t120, .bool t121, .bool t122] 57 (0, 0))) ∧ Aside0 (Below w.heap.size w wc))
                                  case first => as_aux_lemma =>
                                    have H := HC79.out
                                    clear HC79
                                    by_cases c80 : t120 = true
                                    · subst c80
                                      have H1 : ((larderref02_sum.f kj30 (a0.extract ((ji75) : Int).toNat (x17_30 : Int).toNat)).bind fun t128 => (larderref02_Parse.j7 kj30 a0 x5_1 x6_1 x7_1 x9_2 (ji75) x17_30 (a0.extract ((ji75) : Int).toNat (x17_30 : Int).toNat) ((Int.tmod t128 10) != 0) t116 t117 t118 t119 true t121 t122)) = some (r1, r2, r3) := by rw [if_pos rfl] at H; exact H
                                      clear H
                                      have H := H1
                                      clear H1
                                      replace H := Option.bind_eq_some_iff.mp H
                                      obtain ⟨t128, A810, H⟩ := H
                                      replace H : (larderref02_Parse.j7 kj30 a0 x5_1 x6_1 x7_1 x9_2 (ji75) x17_30 (a0.extract ((ji75) : Int).toNat (x17_30 : Int).toNat) ((Int.tmod t128 10) != 0) t116 t117 t118 t119 true t121 t122) = some (r1, r2, r3) := H
                                      have A81 := Aside0.mk A810
                                      clear A810
                                      have H' := Aside0.mk H
                                      clear H
                                      have hcz82_0 : wc.cell? ⟨gb124, 0, none⟩ = some (.bool t116) := (blk_cell BK124.out 0).trans rfl
                                      have hcz82_1 : wc.cell? ⟨gb124, 1, none⟩ = some (.bool t117) := (blk_cell BK124.out 1).trans rfl
                                      have hcz82_2 : wc.cell? ⟨gb124, 2, none⟩ = some (.int .i64 t118) := (blk_cell BK124.out 2).trans rfl
                                      have hcz82_3 : wc.cell? ⟨gb124, 3, none⟩ = some (.int .i64 t119) := (blk_cell BK124.out 3).trans rfl
                                      have hcz82_4 : wc.cell? ⟨gb124, 4, none⟩ = some (.bool true) := (blk_cell BK124.out 4).trans rfl
                                      have hcz82_5 : wc.cell? ⟨gb124, 5, none⟩ = some (.bool t121) := (blk_cell BK124.out 5).trans rfl
                                      have hcz82_6 : wc.cell? ⟨gb124, 6, none⟩ = some (.bool t122) := (blk_cell BK124.out 6).trans rfl
                                      have hfz82_0 := blk_frozen BK124.out 0
                                      have hfz82_1 := blk_frozen BK124.out 1
                                      have hfz82_2 := blk_frozen BK124.out 2
                                      have hfz82_3 := blk_frozen BK124.out 3
                                      have hfz82_4 := blk_frozen BK124.out 4
                                      have hfz82_5 := blk_frozen BK124.out 5
                                      have hfz82_6 := blk_frozen BK124.out 6
                                      go_wp2_with (first | (go_at_call 43; (with_reducible refine (larderref02_sum.calls kj30 (a0.extract ((ji75) : Int).toNat (x17_30 : Int).toNat) t128 _ A81.out).mono ?_); rintro e w' ⟨rfl, ⟨nd, rfl⟩⟩; (try first | exact ⟨rfl, _, World.drewN_drewN _ _ _⟩ | exact ⟨rfl, _, Eq.trans (World.drewN_drewN _ _ _) (congrArg (World.drewN _) (Nat.add_assoc _ _ _))⟩)))
                                      repeat (go_quiet (first | (go_at_call 43; (with_reducible refine (larderref02_sum.calls kj30 (a0.extract ((ji75) : Int).toNat (x17_30 : Int).toNat) t128 _ A81.out).mono ?_); rintro e w' ⟨rfl, ⟨nd, rfl⟩⟩; (try first | exact ⟨rfl, _, World.drewN_drewN _ _ _⟩ | exact ⟨rfl, _, Eq.trans (World.drewN_drewN _ _ _) (congrArg (World.drewN _) (Nat.add_assoc _ _ _))⟩))); try go_wp2_with (first | (go_at_call 43; (with_reducible refine (larderref02_sum.calls kj30 (a0.extract ((ji75) : Int).toNat (x17_30 : Int).toNat) t128 _ A81.out).mono ?_); rintro e w' ⟨rfl, ⟨nd, rfl⟩⟩; (try first | exact ⟨rfl, _, World.drewN_drewN _ _ _⟩ | exact ⟨rfl, _, Eq.trans (World.drewN_drewN _ _ _) (congrArg (World.drewN _) (Nat.add_assoc _ _ _))⟩))))
                                      go_meet
                                      case rel => exact ⟨_, (((Int.tmod t128 10) != 0)), (by first | rfl | (simp; done) | (simp [*]; done)), H', ⟨by have := HK1.out; have := HK2.out; have := HJ30.out; first | omega | exact Nat.le_refl _⟩, ⟨by (with_reducible repeat (first | apply Kd.R_alloc | apply Kd.R_drewN | apply Kd.R_drew)); exact HO_5.out⟩, ⟨by (with_reducible repeat (first | apply Kd.R_alloc | apply Kd.R_drewN | apply Kd.R_drew)); exact HO_6.out⟩, ⟨by (with_reducible repeat (first | refine blk_drewN ?_ _ | refine blk_drew ?_ | refine blk_alloc ?_ _)); exact BK124.out⟩, ⟨by repeat (first | (with_reducible first | exact HB.out | apply below_alloc | apply pw_below_drewN | apply below_drew1 | refine below_set ?_ GE124.out) | exact HB.out)⟩⟩
                                    · replace c80 := Bool.eq_false_iff.mpr c80
                                      subst c80
                                      have H1 : (larderref02_Parse.j7 kj30 a0 x5_1 x6_1 x7_1 x9_2 (ji75) x17_30 (a0.extract ((ji75) : Int).toNat (x17_30 : Int).toNat) false t116 t117 t118 t119 false t121 t122) = some (r1, r2, r3) := by rw [if_neg (show ¬ (false = true) by decide)] at H; exact H
                                      clear H
                                      have H := H1
                                      clear H1
                                      have H' := Aside0.mk H
                                      clear H
                                      have hcz83_0 : wc.cell? ⟨gb124, 0, none⟩ = some (.bool t116) := (blk_cell BK124.out 0).trans rfl
                                      have hcz83_1 : wc.cell? ⟨gb124, 1, none⟩ = some (.bool t117) := (blk_cell BK124.out 1).trans rfl
                                      have hcz83_2 : wc.cell? ⟨gb124, 2, none⟩ = some (.int .i64 t118) := (blk_cell BK124.out 2).trans rfl
                                      have hcz83_3 : wc.cell? ⟨gb124, 3, none⟩ = some (.int .i64 t119) := (blk_cell BK124.out 3).trans rfl
                                      have hcz83_4 : wc.cell? ⟨gb124, 4, none⟩ = some (.bool false) := (blk_cell BK124.out 4).trans rfl
                                      have hcz83_5 : wc.cell? ⟨gb124, 5, none⟩ = some (.bool t121) := (blk_cell BK124.out 5).trans rfl
                                      have hcz83_6 : wc.cell? ⟨gb124, 6, none⟩ = some (.bool t122) := (blk_cell BK124.out 6).trans rfl
                                      have hfz83_0 := blk_frozen BK124.out 0
                                      have hfz83_1 := blk_frozen BK124.out 1
                                      have hfz83_2 := blk_frozen BK124.out 2
                                      have hfz83_3 := blk_frozen BK124.out 3
                                      have hfz83_4 := blk_frozen BK124.out 4
                                      have hfz83_5 := blk_frozen BK124.out 5
                                      have hfz83_6 := blk_frozen BK124.out 6
                                      go_wp2
                                      repeat (go_quiet (fail); try go_wp2)
                                      go_meet
                                      case rel => exact ⟨_, (false), (by first | rfl | (simp; done) | (simp [*]; done)), H', ⟨by have := HK1.out; have := HK2.out; have := HJ30.out; first | omega | exact Nat.le_refl _⟩, ⟨by (with_reducible repeat (first | apply Kd.R_alloc | apply Kd.R_drewN | apply Kd.R_drew)); exact HO_5.out⟩, ⟨by (with_reducible repeat (first | apply Kd.R_alloc | apply Kd.R_drewN | apply Kd.R_drew)); exact HO_6.out⟩, ⟨by (with_reducible repeat (first | refine blk_drewN ?_ _ | refine blk_drew ?_ | refine blk_alloc ?_ _)); exact BK124.out⟩, ⟨by repeat (first | (with_reducible first | exact HB.out | apply below_alloc | apply pw_below_drewN | apply below_drew1 | refine below_set ?_ GE124.out) | exact HB.out)⟩⟩
                                  case rest => as_aux_lemma =>
                                    clear HC79
                                    (try clear c1); (try clear p1); (try clear q1); (try clear hx1); (try clear c2); (try clear c2b0); (try clear c2b1); (try clear p2); (try clear c3); (try clear c3b0); (try clear c4); (try clear c4b0); (try clear c4b1); (try clear p4); (try clear q4); (try clear hx4); (try clear c5); (try clear c5b0); (try clear c5b1); (try clear p5); (try clear q5); (try clear hx5); (try clear c6); (try clear p6); (try clear q6); (try clear hx6); (try clear c7); (try clear c8); (try clear c8b0); (try clear c9); (try clear c9b0); (try clear p10); (try clear q10); (try clear hx10); (try clear c11); (try clear p11); (try clear q11); (try clear hx11); (try clear c12); (try clear c14); (try clear c14b0); (try clear c14b1); (try clear c17); (try clear c18); (try clear c20); (try clear c20b0); (try clear c20b1); (try clear c24); (try clear c24b0); (try clear c24b1); (try clear c25); (try clear c29); (try clear c29b0); (try clear c29b1); (try clear c37); (try clear c38); (try clear c38b0); (try clear c39); (try clear c39b0); (try clear c41); (try clear c41b0); (try clear c42); (try clear c42b0); (try clear p43); (try clear q43); (try clear hx43); (try clear c45); (try clear c50); (try clear c50b0); (try clear c51); (try clear c51b0); (try clear p52); (try clear q52); (try clear hx52); (try clear c53); (try clear c54); (try clear c54b0); (try clear c58); (try clear c59); (try clear c59b0); (try clear c60); (try clear c60b0); (try clear p61); (try clear q61); (try clear hx61); (try clear p64); (try clear c65); (try clear c66); (try clear c66b0); (try clear c67); (try clear c67b0); (try clear p68); (try clear q68); (try clear hx68); (try clear c70); (try clear c71); (try clear c71b0); (try clear c71b1); (try clear c72); (try clear c72b0); (try clear c76); (try clear c76b0); (try clear c76b1); (try clear c77); (try clear c77b0); (try clear c77b1); (try clear c78); (try clear c78b0); (try clear c78b1); (try clear c80); (try clear hcz36_0); (try clear hcz36_1); (try clear hcz36_2); (try clear hcz36_3); (try clear hcz36_4); (try clear hcz36_5); (try clear hcz36_6); (try clear hcz40_0); (try clear hcz40_1); (try clear hcz40_2); (try clear hcz40_3); (try clear hcz40_4); (try clear hcz40_5); (try clear hcz40_6); (try clear hcz46_0); (try clear hcz46_1); (try clear hcz46_2); (try clear hcz46_3); (try clear hcz46_4); (try clear hcz46_5); (try clear hcz46_6); (try clear hcz47_0); (try clear hcz47_1); (try clear hcz47_2); (try clear hcz47_3); (try clear hcz47_4); (try clear hcz47_5); (try clear hcz47_6); (try clear hcz48_0); (try clear hcz48_1); (try clear hcz48_2); (try clear hcz48_3); (try clear hcz48_4); (try clear hcz48_5); (try clear hcz48_6); (try clear hcz55_0); (try clear hcz55_1); (try clear hcz55_2); (try clear hcz55_3); (try clear hcz55_4); (try clear hcz55_5); (try clear hcz55_6); (try clear hcz57_0); (try clear hcz57_1); (try clear hcz57_2); (try clear hcz57_3); (try clear hcz57_4); (try clear hcz57_5); (try clear hcz57_6); (try clear hcz63_0); (try clear hcz63_1); (try clear hcz63_2); (try clear hcz63_3); (try clear hcz63_4); (try clear hcz63_5); (try clear hcz63_6); (try clear hcz64_0); (try clear hcz64_1); (try clear hcz64_2); (try clear hcz64_3); (try clear hcz64_4); (try clear hcz64_5); (try clear hcz64_6); (try clear hcz73_0); (try clear hcz73_1); (try clear hcz73_2); (try clear hcz73_3); (try clear hcz73_4); (try clear hcz73_5); (try clear hcz73_6); (try clear hcz74_0); (try clear hcz74_1); (try clear hcz74_2); (try clear hcz74_3); (try clear hcz74_4); (try clear hcz74_5); (try clear hcz74_6); (try clear hcz82_0); (try clear hcz82_1); (try clear hcz82_2); (try clear hcz82_3); (try clear hcz82_4); (try clear hcz82_5); (try clear hcz82_6); (try clear hcz83_0); (try clear hcz83_1); (try clear hcz83_2); (try clear hcz83_3); (try clear hcz83_4); (try clear hcz83_5); (try clear hcz83_6); (try clear hfz36_0); (try clear hfz36_1); (try clear hfz36_2); (try clear hfz36_3); (try clear hfz36_4); (try clear hfz36_5); (try clear hfz36_6); (try clear hfz40_0); (try clear hfz40_1); (try clear hfz40_2); (try clear hfz40_3); (try clear hfz40_4); (try clear hfz40_5); (try clear hfz40_6); (try clear hfz46_0); (try clear hfz46_1); (try clear hfz46_2); (try clear hfz46_3); (try clear hfz46_4); (try clear hfz46_5); (try clear hfz46_6); (try clear hfz47_0); (try clear hfz47_1); (try clear hfz47_2); (try clear hfz47_3); (try clear hfz47_4); (try clear hfz47_5); (try clear hfz47_6); (try clear hfz48_0); (try clear hfz48_1); (try clear hfz48_2); (try clear hfz48_3); (try clear hfz48_4); (try clear hfz48_5); (try clear hfz48_6); (try clear hfz55_0); (try clear hfz55_1); (try clear hfz55_2); (try clear hfz55_3); (try clear hfz55_4); (try clear hfz55_5); (try clear hfz55_6); (try clear hfz57_0); (try clear hfz57_1); (try clear hfz57_2); (try clear hfz57_3); (try clear hfz57_4); (try clear hfz57_5); (try clear hfz57_6); (try clear hfz63_0); (try clear hfz63_1); (try clear hfz63_2); (try clear hfz63_3); (try clear hfz63_4); (try clear hfz63_5); (try clear hfz63_6); (try clear hfz64_0); (try clear hfz64_1); (try clear hfz64_2); (try clear hfz64_3); (try clear hfz64_4); (try clear hfz64_5); (try clear hfz64_6); (try clear hfz73_0); (try clear hfz73_1); (try clear hfz73_2); (try clear hfz73_3); (try clear hfz73_4); (try clear hfz73_5); (try clear hfz73_6); (try clear hfz74_0); (try clear hfz74_1); (try clear hfz74_2); (try clear hfz74_3); (try clear hfz74_4); (try clear hfz74_5); (try clear hfz74_6); (try clear hfz82_0); (try clear hfz82_1); (try clear hfz82_2); (try clear hfz82_3); (try clear hfz82_4); (try clear hfz82_5); (try clear hfz82_6); (try clear hfz83_0); (try clear hfz83_1); (try clear hfz83_2); (try clear hfz83_3); (try clear hfz83_4); (try clear hfz83_5); (try clear hfz83_6); (try clear hx106_0); (try clear hx108_0); (try clear hx109_0); (try clear hx110_0); (try clear hx112_0); (try clear hx113_0); (try clear p1); (try clear p10); (try clear p106); (try clear p108); (try clear p109); (try clear p11); (try clear p110); (try clear p112); (try clear p113); (try clear p2); (try clear p4); (try clear p43); (try clear p5); (try clear p52); (try clear p6); (try clear p61); (try clear p64); (try clear p68); (try clear q1); (try clear q10); (try clear q106); (try clear q108); (try clear q109); (try clear q11); (try clear q110); (try clear q112); (try clear q113); (try clear q4); (try clear q43); (try clear q5); (try clear q52); (try clear q6); (try clear q61); (try clear q68)
                                    obtain ⟨kq, x171_78, rfl, HA, HJ78, HO_5, HO_6, BK124, HB⟩ := hcut
                                    cases kq with
                                    | zero => exact absurd HA.out (by simp [larderref02_Parse.j7])
                                    | succ kj78 =>
                                      have H := HA.out
                                      clear HA
                                      simp only [larderref02_Parse.j7] at H
                                      by_cases c84 : x171_78 = true
                                      · subst c84
                                        have H1 : (some (([] : List (S23)), 22, wrap64 (x17_30 - 1))) = some (r1, r2, r3) := by rw [if_pos rfl] at H; exact H
                                        clear H
                                        have H := H1
                                        clear H1
                                        simp only [Option.some.injEq, Prod.mk.injEq] at H
                                        obtain ⟨rfl, rfl, rfl⟩ := H
                                        go_wp2
                                        repeat (go_quiet (fail); try go_wp2)
                                        go_ret3
                                        exact ⟨_, by first | rfl | (simp [errW_none, errW_some] <;> rfl) | (simp only [← hji75]; first | rfl | (simp [errW_none, errW_some] <;> rfl)) | (simp [*, errW_none, errW_some] <;> rfl), by first | exact Kd.R_nil _ _ _ _ _ | exact Kd.N_nil _ _ _ _ _ | exact Kd.V_nil _ _ _ _ _ | exact Kd.Q_nil _ _ _ _ _ | exact Kd.S_nil _ _ _ _ _, by repeat (first | (with_reducible first | exact HB.out | apply below_alloc | apply pw_below_drewN | apply below_drew1 | refine below_set ?_ GE124.out) | exact HB.out)⟩
                                      · replace c84 := Bool.eq_false_iff.mpr c84
                                        subst c84
                                        have H1 : (if t121 = true then ((larderref02_isDay.f kj78 (a0.extract ((ji75) : Int).toNat (x17_30 : Int).toNat)).bind fun t129 => (if t129 = true then (larderref02_Parse.j8 kj78 a0 x5_1 x6_1 x7_1 x9_2 x17_30 (a0.extract ((ji75) : Int).toNat (x17_30 : Int).toNat) t116 t117 t118 t119 t120 t121 t122) else (some (([] : List (S23)), 28, (ji75))))) else (larderref02_Parse.j8 kj78 a0 x5_1 x6_1 x7_1 x9_2 x17_30 (a0.extract ((ji75) : Int).toNat (x17_30 : Int).toNat) t116 t117 t118 t119 t120 t121 t122)) = some (r1, r2, r3) := by rw [if_neg (show ¬ (false = true) by decide)] at H; exact H
                                        clear H
                                        have H := H1
                                        clear H1
                                        have HC85 := Aside0.mk H
                                        clear H
                                        have hcz86_0 : wc.cell? ⟨gb124, 0, none⟩ = some (.bool t116) := (blk_cell BK124.out 0).trans rfl
                                        have hcz86_1 : wc.cell? ⟨gb124, 1, none⟩ = some (.bool t117) := (blk_cell BK124.out 1).trans rfl
                                        have hcz86_2 : wc.cell? ⟨gb124, 2, none⟩ = some (.int .i64 t118) := (blk_cell BK124.out 2).trans rfl
                                        have hcz86_3 : wc.cell? ⟨gb124, 3, none⟩ = some (.int .i64 t119) := (blk_cell BK124.out 3).trans rfl
                                        have hcz86_4 : wc.cell? ⟨gb124, 4, none⟩ = some (.bool t120) := (blk_cell BK124.out 4).trans rfl
                                        have hcz86_5 : wc.cell? ⟨gb124, 5, none⟩ = some (.bool t121) := (blk_cell BK124.out 5).trans rfl
                                        have hcz86_6 : wc.cell? ⟨gb124, 6, none⟩ = some (.bool t122) := (blk_cell BK124.out 6).trans rfl
                                        have hfz86_0 := blk_frozen BK124.out 0
                                        have hfz86_1 := blk_frozen BK124.out 1
                                        have hfz86_2 := blk_frozen BK124.out 2
                                        have hfz86_3 := blk_frozen BK124.out 3
                                        have hfz86_4 := blk_frozen BK124.out 4
                                        have hfz86_5 := blk_frozen BK124.out 5
                                        have hfz86_6 := blk_frozen BK124.out 6
                                        go_upto_if 175 with (fail)
                                        repeat (go_quiet (fail); go_upto_if 175 with (fail))
                                        go_cut [] (fun wc => ∃ (kq : Nat), Aside0 (larderref02_Parse.j8 kq a0 x5_1 x6_1 x7_1 x9_2 x17_30 (a0.extract ((ji75) : Int).toNat (x17_30 : Int).toNat) t116 t117 t118 t119 t120 t121 t122 = some (r1, r2, r3)) ∧ Aside0 (kq ≤ kj78) ∧ Aside0 (Kd.R k23 23 wc w.heap.size (fun _ => True) (.slice Ao33 x5_1.length co33) x5_1) ∧ Aside0 (Kd.R (Kd.int .i64) 3 wc w.heap.size (fun _ => True) u6 x6_1) ∧ Aside0 (wc.heap[gb124]? = some (.cells #[.bool t116, .bool t117, .int .i64 t118, .int .i64 t119, .bool t120, .bool t121, .bool t122] 57 (0, 0))) ∧ Aside0 (Below w.heap.size w wc))
                                        case first => as_aux_lemma =>
                                          have H := HC85.out
                                          clear HC85
                                          by_cases c87 : t121 = true
                                          · subst c87
                                            have H1 : ((larderref02_isDay.f kj78 (a0.extract ((ji75) : Int).toNat (x17_30 : Int).toNat)).bind fun t129 => (if t129 = true then (larderref02_Parse.j8 kj78 a0 x5_1 x6_1 x7_1 x9_2 x17_30 (a0.extract ((ji75) : Int).toNat (x17_30 : Int).toNat) t116 t117 t118 t119 t120 true t122) else (some (([] : List (S23)), 28, (ji75))))) = some (r1, r2, r3) := by rw [if_pos rfl] at H; exact H
                                            clear H
                                            have H := H1
                                            clear H1
                                            replace H := Option.bind_eq_some_iff.mp H
                                            obtain ⟨t129, A880, H⟩ := H
                                            replace H : (if t129 = true then (larderref02_Parse.j8 kj78 a0 x5_1 x6_1 x7_1 x9_2 x17_30 (a0.extract ((ji75) : Int).toNat (x17_30 : Int).toNat) t116 t117 t118 t119 t120 true t122) else (some (([] : List (S23)), 28, (ji75)))) = some (r1, r2, r3) := H
                                            have A88 := Aside0.mk A880
                                            clear A880
                                            by_cases c89 : t129 = true
                                            · subst c89
                                              have H1 : (larderref02_Parse.j8 kj78 a0 x5_1 x6_1 x7_1 x9_2 x17_30 (a0.extract ((ji75) : Int).toNat (x17_30 : Int).toNat) t116 t117 t118 t119 t120 true t122) = some (r1, r2, r3) := by rw [if_pos rfl] at H; exact H
                                              clear H
                                              have H := H1
                                              clear H1
                                              have H' := Aside0.mk H
                                              clear H
                                              go_wp2_with (first | (go_at_call 29; (with_reducible refine (larderref02_isDay.calls kj78 (a0.extract ((ji75) : Int).toNat (x17_30 : Int).toNat) true _ A88.out).mono ?_); rintro e w' ⟨rfl, ⟨nd, rfl⟩⟩; (try first | exact ⟨rfl, _, World.drewN_drewN _ _ _⟩ | exact ⟨rfl, _, Eq.trans (World.drewN_drewN _ _ _) (congrArg (World.drewN _) (Nat.add_assoc _ _ _))⟩)))
                                              repeat (go_quiet (first | (go_at_call 29; (with_reducible refine (larderref02_isDay.calls kj78 (a0.extract ((ji75) : Int).toNat (x17_30 : Int).toNat) true _ A88.out).mono ?_); rintro e w' ⟨rfl, ⟨nd, rfl⟩⟩; (try first | exact ⟨rfl, _, World.drewN_drewN _ _ _⟩ | exact ⟨rfl, _, Eq.trans (World.drewN_drewN _ _ _) (congrArg (World.drewN _) (Nat.add_assoc _ _ _))⟩))); try go_wp2_with (first | (go_at_call 29; (with_reducible refine (larderref02_isDay.calls kj78 (a0.extract ((ji75) : Int).toNat (x17_30 : Int).toNat) true _ A88.out).mono ?_); rintro e w' ⟨rfl, ⟨nd, rfl⟩⟩; (try first | exact ⟨rfl, _, World.drewN_drewN _ _ _⟩ | exact ⟨rfl, _, Eq.trans (World.drewN_drewN _ _ _) (congrArg (World.drewN _) (Nat.add_assoc _ _ _))⟩))))
                                              go_meet
                                              case rel => exact ⟨_, H', ⟨by have := HK1.out; have := HK2.out; have := HJ30.out; have := HJ78.out; first | omega | exact Nat.le_refl _⟩, ⟨by (with_reducible repeat (first | apply Kd.R_alloc | apply Kd.R_drewN | apply Kd.R_drew)); exact HO_5.out⟩, ⟨by (with_reducible repeat (first | apply Kd.R_alloc | apply Kd.R_drewN | apply Kd.R_drew)); exact HO_6.out⟩, ⟨by (with_reducible repeat (first | refine blk_drewN ?_ _ | refine blk_drew ?_ | refine blk_alloc ?_ _)); exact BK124.out⟩, ⟨by repeat (first | (with_reducible first | exact HB.out | apply below_alloc | apply pw_below_drewN | apply below_drew1 | refine below_set ?_ GE124.out) | exact HB.out)⟩⟩
                                            · replace c89 := Bool.eq_false_iff.mpr c89
                                              subst c89
                                              have H1 : (some (([] : List (S23)), 28, (ji75))) = some (r1, r2, r3) := by rw [if_neg (show ¬ (false = true) by decide)] at H; exact H
                                              clear H
                                              have H := H1
                                              clear H1
                                              simp only [Option.some.injEq, Prod.mk.injEq] at H
                                              obtain ⟨rfl, rfl, rfl⟩ := H
                                              go_wp2_with (first | (go_at_call 29; (with_reducible refine (larderref02_isDay.calls kj78 (a0.extract ((ji75) : Int).toNat (x17_30 : Int).toNat) false _ A88.out).mono ?_); rintro e w' ⟨rfl, ⟨nd, rfl⟩⟩; (try first | exact ⟨rfl, _, World.drewN_drewN _ _ _⟩ | exact ⟨rfl, _, Eq.trans (World.drewN_drewN _ _ _) (congrArg (World.drewN _) (Nat.add_assoc _ _ _))⟩)))
                                              repeat (go_quiet (first | (go_at_call 29; (with_reducible refine (larderref02_isDay.calls kj78 (a0.extract ((ji75) : Int).toNat (x17_30 : Int).toNat) false _ A88.out).mono ?_); rintro e w' ⟨rfl, ⟨nd, rfl⟩⟩; (try first | exact ⟨rfl, _, World.drewN_drewN _ _ _⟩ | exact ⟨rfl, _, Eq.trans (World.drewN_drewN _ _ _) (congrArg (World.drewN _) (Nat.add_assoc _ _ _))⟩))); try go_wp2_with (first | (go_at_call 29; (with_reducible refine (larderref02_isDay.calls kj78 (a0.extract ((ji75) : Int).toNat (x17_30 : Int).toNat) false _ A88.out).mono ?_); rintro e w' ⟨rfl, ⟨nd, rfl⟩⟩; (try first | exact ⟨rfl, _, World.drewN_drewN _ _ _⟩ | exact ⟨rfl, _, Eq.trans (World.drewN_drewN _ _ _) (congrArg (World.drewN _) (Nat.add_assoc _ _ _))⟩))))
                                              go_ret3
                                              exact ⟨_, by first | rfl | (simp [errW_none, errW_some] <;> rfl) | (simp only [← hji75]; first | rfl | (simp [errW_none, errW_some] <;> rfl)) | (simp [*, errW_none, errW_some] <;> rfl), by first | exact Kd.R_nil _ _ _ _ _ | exact Kd.N_nil _ _ _ _ _ | exact Kd.V_nil _ _ _ _ _ | exact Kd.Q_nil _ _ _ _ _ | exact Kd.S_nil _ _ _ _ _, by repeat (first | (with_reducible first | exact HB.out | apply below_alloc | apply pw_below_drewN | apply below_drew1 | refine below_set ?_ GE124.out) | exact HB.out)⟩
                                          · replace c87 := Bool.eq_false_iff.mpr c87
                                            subst c87
                                            have H1 : (larderref02_Parse.j8 kj78 a0 x5_1 x6_1 x7_1 x9_2 x17_30 (a0.extract ((ji75) : Int).toNat (x17_30 : Int).toNat) t116 t117 t118 t119 t120 false t122) = some (r1, r2, r3) := by rw [if_neg (show ¬ (false = true) by decide)] at H; exact H
                                            clear H
                                            have H := H1
                                            clear H1
                                            have H' := Aside0.mk H
                                            clear H
                                            go_wp2
                                            repeat (go_quiet (fail); try go_wp2)
                                            go_meet
                                            case rel => exact ⟨_, H', ⟨by have := HK1.out; have := HK2.out; have := HJ30.out; have := HJ78.out; first | omega | exact Nat.le_refl _⟩, ⟨by (with_reducible repeat (first | apply Kd.R_alloc | apply Kd.R_drewN | apply Kd.R_drew)); exact HO_5.out⟩, ⟨by (with_reducible repeat (first | apply Kd.R_alloc | apply Kd.R_drewN | apply Kd.R_drew)); exact HO_6.out⟩, ⟨by (with_reducible repeat (first | refine blk_drewN ?_ _ | refine blk_drew ?_ | refine blk_alloc ?_ _)); exact BK124.out⟩, ⟨by repeat (first | (with_reducible first | exact HB.out | apply below_alloc | apply pw_below_drewN | apply below_drew1 | refine below_set ?_ GE124.out) | exact HB.out)⟩⟩
                                        case rest => as_aux_lemma =>
                                          clear HC85
                                          (try clear c1); (try clear p1); (try clear q1); (try clear hx1); (try clear c2); (try clear c2b0); (try clear c2b1); (try clear p2); (try clear c3); (try clear c3b0); (try clear c4); (try clear c4b0); (try clear c4b1); (try clear p4); (try clear q4); (try clear hx4); (try clear c5); (try clear c5b0); (try clear c5b1); (try clear p5); (try clear q5); (try clear hx5); (try clear c6); (try clear p6); (try clear q6); (try clear hx6); (try clear c7); (try clear c8); (try clear c8b0); (try clear c9); (try clear c9b0); (try clear p10); (try clear q10); (try clear hx10); (try clear c11); (try clear p11); (try clear q11); (try clear hx11); (try clear c12); (try clear c14); (try clear c14b0); (try clear c14b1); (try clear c17); (try clear c18); (try clear c20); (try clear c20b0); (try clear c20b1); (try clear c24); (try clear c24b0); (try clear c24b1); (try clear c25); (try clear c29); (try clear c29b0); (try clear c29b1); (try clear c37); (try clear c38); (try clear c38b0); (try clear c39); (try clear c39b0); (try clear c41); (try clear c41b0); (try clear c42); (try clear c42b0); (try clear p43); (try clear q43); (try clear hx43); (try clear c45); (try clear c50); (try clear c50b0); (try clear c51); (try clear c51b0); (try clear p52); (try clear q52); (try clear hx52); (try clear c53); (try clear c54); (try clear c54b0); (try clear c58); (try clear c59); (try clear c59b0); (try clear c60); (try clear c60b0); (try clear p61); (try clear q61); (try clear hx61); (try clear p64); (try clear c65); (try clear c66); (try clear c66b0); (try clear c67); (try clear c67b0); (try clear p68); (try clear q68); (try clear hx68); (try clear c70); (try clear c71); (try clear c71b0); (try clear c71b1); (try clear c72); (try clear c72b0); (try clear c76); (try clear c76b0); (try clear c76b1); (try clear c77); (try clear c77b0); (try clear c77b1); (try clear c78); (try clear c78b0); (try clear c78b1); (try clear c80); (try clear c84); (try clear c87); (try clear c89); (try clear hcz36_0); (try clear hcz36_1); (try clear hcz36_2); (try clear hcz36_3); (try clear hcz36_4); (try clear hcz36_5); (try clear hcz36_6); (try clear hcz40_0); (try clear hcz40_1); (try clear hcz40_2); (try clear hcz40_3); (try clear hcz40_4); (try clear hcz40_5); (try clear hcz40_6); (try clear hcz46_0); (try clear hcz46_1); (try clear hcz46_2); (try clear hcz46_3); (try clear hcz46_4); (try clear hcz46_5); (try clear hcz46_6); (try clear hcz47_0); (try clear hcz47_1); (try clear hcz47_2); (try clear hcz47_3); (try clear hcz47_4); (try clear hcz47_5); (try clear hcz47_6); (try clear hcz48_0); (try clear hcz48_1); (try clear hcz48_2); (try clear hcz48_3); (try clear hcz48_4); (try clear hcz48_5); (try clear hcz48_6); (try clear hcz55_0); (try clear hcz55_1); (try clear hcz55_2); (try clear hcz55_3); (try clear hcz55_4); (try clear hcz55_5); (try clear hcz55_6); (try clear hcz57_0); (try clear hcz57_1); (try clear hcz57_2); (try clear hcz57_3); (try clear hcz57_4); (try clear hcz57_5); (try clear hcz57_6); (try clear hcz63_0); (try clear hcz63_1); (try clear hcz63_2); (try clear hcz63_3); (try clear hcz63_4); (try clear hcz63_5); (try clear hcz63_6); (try clear hcz64_0); (try clear hcz64_1); (try clear hcz64_2); (try clear hcz64_3); (try clear hcz64_4); (try clear hcz64_5); (try clear hcz64_6); (try clear hcz73_0); (try clear hcz73_1); (try clear hcz73_2); (try clear hcz73_3); (try clear hcz73_4); (try clear hcz73_5); (try clear hcz73_6); (try clear hcz74_0); (try clear hcz74_1); (try clear hcz74_2); (try clear hcz74_3); (try clear hcz74_4); (try clear hcz74_5); (try clear hcz74_6); (try clear hcz82_0); (try clear hcz82_1); (try clear hcz82_2); (try clear hcz82_3); (try clear hcz82_4); (try clear hcz82_5); (try clear hcz82_6); (try clear hcz83_0); (try clear hcz83_1); (try clear hcz83_2); (try clear hcz83_3); (try clear hcz83_4); (try clear hcz83_5); (try clear hcz83_6); (try clear hcz86_0); (try clear hcz86_1); (try clear hcz86_2); (try clear hcz86_3); (try clear hcz86_4); (try clear hcz86_5); (try clear hcz86_6); (try clear hfz36_0); (try clear hfz36_1); (try clear hfz36_2); (try clear hfz36_3); (try clear hfz36_4); (try clear hfz36_5); (try clear hfz36_6); (try clear hfz40_0); (try clear hfz40_1); (try clear hfz40_2); (try clear hfz40_3); (try clear hfz40_4); (try clear hfz40_5); (try clear hfz40_6); (try clear hfz46_0); (try clear hfz46_1); (try clear hfz46_2); (try clear hfz46_3); (try clear hfz46_4); (try clear hfz46_5); (try clear hfz46_6); (try clear hfz47_0); (try clear hfz47_1); (try clear hfz47_2); (try clear hfz47_3); (try clear hfz47_4); (try clear hfz47_5); (try clear hfz47_6); (try clear hfz48_0); (try clear hfz48_1); (try clear hfz48_2); (try clear hfz48_3); (try clear hfz48_4); (try clear hfz48_5); (try clear hfz48_6); (try clear hfz55_0); (try clear hfz55_1); (try clear hfz55_2); (try clear hfz55_3); (try clear hfz55_4); (try clear hfz55_5); (try clear hfz55_6); (try clear hfz57_0); (try clear hfz57_1); (try clear hfz57_2); (try clear hfz57_3); (try clear hfz57_4); (try clear hfz57_5); (try clear hfz57_6); (try clear hfz63_0); (try clear hfz63_1); (try clear hfz63_2); (try clear hfz63_3); (try clear hfz63_4); (try clear hfz63_5); (try clear hfz63_6); (try clear hfz64_0); (try clear hfz64_1); (try clear hfz64_2); (try clear hfz64_3); (try clear hfz64_4); (try clear hfz64_5); (try clear hfz64_6); (try clear hfz73_0); (try clear hfz73_1); (try clear hfz73_2); (try clear hfz73_3); (try clear hfz73_4); (try clear hfz73_5); (try clear hfz73_6); (try clear hfz74_0); (try clear hfz74_1); (try clear hfz74_2); (try clear hfz74_3); (try clear hfz74_4); (try clear hfz74_5); (try clear hfz74_6); (try clear hfz82_0); (try clear hfz82_1); (try clear hfz82_2); (try clear hfz82_3); (try clear hfz82_4); (try clear hfz82_5); (try clear hfz82_6); (try clear hfz83_0); (try clear hfz83_1); (try clear hfz83_2); (try clear hfz83_3); (try clear hfz83_4); (try clear hfz83_5); (try clear hfz83_6); (try clear hfz86_0); (try clear hfz86_1); (try clear hfz86_2); (try clear hfz86_3); (try clear hfz86_4); (try clear hfz86_5); (try clear hfz86_6); (try clear hx106_0); (try clear hx108_0); (try clear hx109_0); (try clear hx110_0); (try clear hx112_0); (try clear hx113_0); (try clear p1); (try clear p10); (try clear p106); (try clear p108); (try clear p109); (try clear p11); (try clear p110); (try clear p112); (try clear p113); (try clear p2); (try clear p4); (try clear p43); (try clear p5); (try clear p52); (try clear p6); (try clear p61); (try clear p64); (try clear p68); (try clear q1); (try clear q10); (try clear q106); (try clear q108); (try clear q109); (try clear q11); (try clear q110); (try clear q112); (try clear q113); (try clear q4); (try clear q43); (try clear q5); (try clear q52); (try clear q6); (try clear q61); (try clear q68)
                                          obtain ⟨kq, HA, HJ84, HO_5, HO_6, BK124, HB⟩ := hcut
                                          cases kq with
                                          | zero => exact absurd HA.out (by simp [larderref02_Parse.j8])
                                          | succ kj84 =>
                                            have H := HA.out
                                            clear HA
                                            simp only [larderref02_Parse.j8] at H
                                            by_cases c90 : x5_1.length < 4398046511104
                                            · rw [if_pos c90] at H
                                              have LMc90 := Aside0.mk c90
                                              clear c90
                                              obtain ⟨y130, hy130⟩ : ∃ y_ : List (S23), y_ = (x5_1 ++ [(⟨x9_2, (a0.extract ((ji75) : Int).toNat (x17_30 : Int).toNat)⟩ : S23)]) := ⟨_, rfl⟩
                                              replace H : (if x6_1.length < 17592186044416 then ((some (x6_1 ++ [x7_1] : List Int)).bind fun y133 => (if t116 = true then (larderref02_Parse.j9 kj84 a0 y130 y133 x17_30 false) else (larderref02_Parse.j9 kj84 a0 y130 y133 x17_30 (decide (x17_30 < (a0.size : Int)))))) else (none)) = some (r1, r2, r3) := by first | (rw [hy130]; with_reducible exact H) | (have H2_ := (Option.bind_some _ _).symm.trans H; rw [hy130]; with_reducible exact H2_) | (have H2_ := (Option.bind_some _ _).symm.trans H; with_reducible exact H2_) | with_reducible exact H | (rw [hy130]; exact H) | exact H
                                              have Ny130 := Aside0.mk hy130
                                              clear hy130
                                              by_cases c91 : x6_1.length < 17592186044416
                                              · rw [if_pos c91] at H
                                                have LMc91 := Aside0.mk c91
                                                clear c91
                                                obtain ⟨y133, hy133⟩ : ∃ y_ : List Int, y_ = (x6_1 ++ [x7_1]) := ⟨_, rfl⟩
                                                replace H : (if t116 = true then (larderref02_Parse.j9 kj84 a0 y130 y133 x17_30 false) else (larderref02_Parse.j9 kj84 a0 y130 y133 x17_30 (decide (x17_30 < (a0.size : Int))))) = some (r1, r2, r3) := by first | (rw [hy133]; with_reducible exact H) | (have H2_ := (Option.bind_some _ _).symm.trans H; rw [hy133]; with_reducible exact H2_) | (have H2_ := (Option.bind_some _ _).symm.trans H; with_reducible exact H2_) | with_reducible exact H | (rw [hy133]; exact H) | exact H
                                                have Ny133 := Aside0.mk hy133
                                                clear hy133
                                                have HC92 := Aside0.mk H
                                                clear H
                                                go_upto_region 57 with (first | ((with_reducible refine gate_builtin (b := .append) (xs := #[.tmp 181, .tmp 185]) rfl ?_); (try (refine gate_guard (by rfl) ?_; dsimp only)); at_builtin; refine Kd.R_append k23 (w0 := w) w.heap.size rfl (.tmp 181) (.tmp 185) 30 23 (.agg #[(.string ⟨#[]⟩), (.string ⟨#[]⟩)]) 32 rfl Tryd.underlying30 info23 rfl (by decide) (by omega) (.slice Ao33 x5_1.length co33) x5_1 (⟨x9_2, (a0.extract ((ji75) : Int).toNat (x17_30 : Int).toNat)⟩ : S23) [.string x9_2, .string (a0.extract ((ji75) : Int).toNat (x17_30 : Int).toNat)] (fun _ => True) (fun _ => False) rfl rfl ?aP (fun _ hk => hk.elim) ?aF ?aO ?aB ?aS ?aL ?_; (case aP => exact k23_mkM _ _ _ (⟨x9_2, (a0.extract ((ji75) : Int).toNat (x17_30 : Int).toNat)⟩ : S23)); (case aB => exact (by repeat (first | (with_reducible first | exact HB.out | apply below_alloc | apply pw_below_drewN | apply below_drew1 | refine below_set ?_ GE124.out) | exact HB.out))); (case aF => exact (fun _ _ => trivial)); (case aO => exact (by (with_reducible repeat (first | apply Kd.R_alloc | apply Kd.R_drewN | apply Kd.R_drew)); exact HO_5.out)); (case aS => exact (below_size (by repeat (first | (with_reducible first | exact HB.out | apply below_alloc | apply pw_below_drewN | apply below_drew1 | refine below_set ?_ GE124.out) | exact HB.out)))); (case aL => have := LMc90.out; omega); intro v131 w93 ho hb hg hat; rw [← Ny130.out] at ho; have n0_ := Aside0.mk (Kd.R_over' (by (with_reducible repeat (first | apply Kd.R_alloc | apply Kd.R_drewN | apply Kd.R_drew)); exact HO_6.out) (Kd.R_typed (by (with_reducible repeat (first | apply Kd.R_alloc | apply Kd.R_drewN | apply Kd.R_drew)); exact HO_5.out)) (by decide) hg); have n1_ := Aside0.mk (blk_grown (g := gb124) (o := .cells #[.bool t116, .bool t117, .int .i64 t118, .int .i64 t119, .bool t120, .bool t121, .bool t122] 57 (0, 0)) (by (with_reducible repeat (first | refine blk_drewN ?_ _ | refine blk_drew ?_ | refine blk_alloc ?_ _)); exact BK124.out) hg (Kd.R_ne HO_5.out BK124.out (by decide))); have n2_ := Aside0.mk (hb); have n3_ := Aside0.mk (ho); clear HO_6; clear BK124; clear HB; clear HO_5; have HO_6 := n0_; have BK124 := n1_; have HB := n2_; have HO132 := n3_; clear n0_ n1_ n2_ n3_; clear ho hb hg hat) | ((with_reducible refine gate_builtin (b := .append) (xs := #[.tmp 187, .tmp 189]) rfl ?_); (try (refine gate_guard (by rfl) ?_; dsimp only)); at_builtin; refine Kd.R_append (Kd.int .i64) (w0 := w) w.heap.size rfl (.tmp 187) (.tmp 189) 46 3 (.int .i64 0) 8 rfl Tryd.underlying46 info3 rfl (by decide) (by omega) u6 x6_1 x7_1 [.int .i64 x7_1] (fun _ => True) (fun _ => False) rfl rfl ?aP (fun _ hk => hk.elim) ?aF ?aO ?aB ?aS ?aL ?_; (case aP => exact rfl); (case aB => exact (by repeat (first | (with_reducible first | exact HB.out | apply below_alloc | apply pw_below_drewN | apply below_drew1 | refine below_set ?_ GE124.out) | exact HB.out))); (case aF => exact (fun _ _ => trivial)); (case aO => exact (by (with_reducible repeat (first | apply Kd.R_alloc | apply Kd.R_drewN | apply Kd.R_drew)); exact HO_6.out)); (case aS => exact (below_size (by repeat (first | (with_reducible first | exact HB.out | apply below_alloc | apply pw_below_drewN | apply below_drew1 | refine below_set ?_ GE124.out) | exact HB.out)))); (case aL => have := LMc91.out; omega); intro v134 w94 ho hb hg hat; rw [← Ny133.out] at ho; have n0_ := Aside0.mk (blk_grown (g := gb124) (o := .cells #[.bool t116, .bool t117, .int .i64 t118, .int .i64 t119, .bool t120, .bool t121, .bool t122] 57 (0, 0)) (by (with_reducible repeat (first | refine blk_drewN ?_ _ | refine blk_drew ?_ | refine blk_alloc ?_ _)); exact BK124.out) hg (Kd.R_ne HO_6.out BK124.out (by decide))); have n1_ := Aside0.mk (Kd.R_over' (by (with_reducible repeat (first | apply Kd.R_alloc | apply Kd.R_drewN | apply Kd.R_drew)); exact HO132.out) (Kd.R_typed (by (with_reducible repeat (first | apply Kd.R_alloc | apply Kd.R_drewN | apply Kd.R_drew)); exact HO_6.out)) (by decide) hg); have n2_ := Aside0.mk (hb); have n3_ := Aside0.mk (ho); clear BK124; clear HO132; clear HB; clear HO_6; have BK124 := n0_; have HO132 := n1_; have HB := n2_; have HO135 := n3_; clear n0_ n1_ n2_ n3_; clear ho hb hg hat))
                                                repeat (go_quiet (first | ((with_reducible refine gate_builtin (b := .append) (xs := #[.tmp 181, .tmp 185]) rfl ?_); (try (refine gate_guard (by rfl) ?_; dsimp only)); at_builtin; refine Kd.R_append k23 (w0 := w) w.heap.size rfl (.tmp 181) (.tmp 185) 30 23 (.agg #[(.string ⟨#[]⟩), (.string ⟨#[]⟩)]) 32 rfl Tryd.underlying30 info23 rfl (by decide) (by omega) (.slice Ao33 x5_1.length co33) x5_1 (⟨x9_2, (a0.extract ((ji75) : Int).toNat (x17_30 : Int).toNat)⟩ : S23) [.string x9_2, .string (a0.extract ((ji75) : Int).toNat (x17_30 : Int).toNat)] (fun _ => True) (fun _ => False) rfl rfl ?aP (fun _ hk => hk.elim) ?aF ?aO ?aB ?aS ?aL ?_; (case aP => exact k23_mkM _ _ _ (⟨x9_2, (a0.extract ((ji75) : Int).toNat (x17_30 : Int).toNat)⟩ : S23)); (case aB => exact (by repeat (first | (with_reducible first | exact HB.out | apply below_alloc | apply pw_below_drewN | apply below_drew1 | refine below_set ?_ GE124.out) | exact HB.out))); (case aF => exact (fun _ _ => trivial)); (case aO => exact (by (with_reducible repeat (first | apply Kd.R_alloc | apply Kd.R_drewN | apply Kd.R_drew)); exact HO_5.out)); (case aS => exact (below_size (by repeat (first | (with_reducible first | exact HB.out | apply below_alloc | apply pw_below_drewN | apply below_drew1 | refine below_set ?_ GE124.out) | exact HB.out)))); (case aL => have := LMc90.out; omega); intro v131 w93 ho hb hg hat; rw [← Ny130.out] at ho; have n0_ := Aside0.mk (Kd.R_over' (by (with_reducible repeat (first | apply Kd.R_alloc | apply Kd.R_drewN | apply Kd.R_drew)); exact HO_6.out) (Kd.R_typed (by (with_reducible repeat (first | apply Kd.R_alloc | apply Kd.R_drewN | apply Kd.R_drew)); exact HO_5.out)) (by decide) hg); have n1_ := Aside0.mk (blk_grown (g := gb124) (o := .cells #[.bool t116, .bool t117, .int .i64 t118, .int .i64 t119, .bool t120, .bool t121, .bool t122] 57 (0, 0)) (by (with_reducible repeat (first | refine blk_drewN ?_ _ | refine blk_drew ?_ | refine blk_alloc ?_ _)); exact BK124.out) hg (Kd.R_ne HO_5.out BK124.out (by decide))); have n2_ := Aside0.mk (hb); have n3_ := Aside0.mk (ho); clear HO_6; clear BK124; clear HB; clear HO_5; have HO_6 := n0_; have BK124 := n1_; have HB := n2_; have HO132 := n3_; clear n0_ n1_ n2_ n3_; clear ho hb hg hat) | ((with_reducible refine gate_builtin (b := .append) (xs := #[.tmp 187, .tmp 189]) rfl ?_); (try (refine gate_guard (by rfl) ?_; dsimp only)); at_builtin; refine Kd.R_append (Kd.int .i64) (w0 := w) w.heap.size rfl (.tmp 187) (.tmp 189) 46 3 (.int .i64 0) 8 rfl Tryd.underlying46 info3 rfl (by decide) (by omega) u6 x6_1 x7_1 [.int .i64 x7_1] (fun _ => True) (fun _ => False) rfl rfl ?aP (fun _ hk => hk.elim) ?aF ?aO ?aB ?aS ?aL ?_; (case aP => exact rfl); (case aB => exact (by repeat (first | (with_reducible first | exact HB.out | apply below_alloc | apply pw_below_drewN | apply below_drew1 | refine below_set ?_ GE124.out) | exact HB.out))); (case aF => exact (fun _ _ => trivial)); (case aO => exact (by (with_reducible repeat (first | apply Kd.R_alloc | apply Kd.R_drewN | apply Kd.R_drew)); exact HO_6.out)); (case aS => exact (below_size (by repeat (first | (with_reducible first | exact HB.out | apply below_alloc | apply pw_below_drewN | apply below_drew1 | refine below_set ?_ GE124.out) | exact HB.out)))); (case aL => have := LMc91.out; omega); intro v134 w94 ho hb hg hat; rw [← Ny133.out] at ho; have n0_ := Aside0.mk (blk_grown (g := gb124) (o := .cells #[.bool t116, .bool t117, .int .i64 t118, .int .i64 t119, .bool t120, .bool t121, .bool t122] 57 (0, 0)) (by (with_reducible repeat (first | refine blk_drewN ?_ _ | refine blk_drew ?_ | refine blk_alloc ?_ _)); exact BK124.out) hg (Kd.R_ne HO_6.out BK124.out (by decide))); have n1_ := Aside0.mk (Kd.R_over' (by (with_reducible repeat (first | apply Kd.R_alloc | apply Kd.R_drewN | apply Kd.R_drew)); exact HO132.out) (Kd.R_typed (by (with_reducible repeat (first | apply Kd.R_alloc | apply Kd.R_drewN | apply Kd.R_drew)); exact HO_6.out)) (by decide) hg); have n2_ := Aside0.mk (hb); have n3_ := Aside0.mk (ho); clear BK124; clear HO132; clear HB; clear HO_6; have BK124 := n0_; have HO132 := n1_; have HB := n2_; have HO135 := n3_; clear n0_ n1_ n2_ n3_; clear ho hb hg hat)); go_upto_region 57 with (first | ((with_reducible refine gate_builtin (b := .append) (xs := #[.tmp 181, .tmp 185]) rfl ?_); (try (refine gate_guard (by rfl) ?_; dsimp only)); at_builtin; refine Kd.R_append k23 (w0 := w) w.heap.size rfl (.tmp 181) (.tmp 185) 30 23 (.agg #[(.string ⟨#[]⟩), (.string ⟨#[]⟩)]) 32 rfl Tryd.underlying30 info23 rfl (by decide) (by omega) (.slice Ao33 x5_1.length co33) x5_1 (⟨x9_2, (a0.extract ((ji75) : Int).toNat (x17_30 : Int).toNat)⟩ : S23) [.string x9_2, .string (a0.extract ((ji75) : Int).toNat (x17_30 : Int).toNat)] (fun _ => True) (fun _ => False) rfl rfl ?aP (fun _ hk => hk.elim) ?aF ?aO ?aB ?aS ?aL ?_; (case aP => exact k23_mkM _ _ _ (⟨x9_2, (a0.extract ((ji75) : Int).toNat (x17_30 : Int).toNat)⟩ : S23)); (case aB => exact (by repeat (first | (with_reducible first | exact HB.out | apply below_alloc | apply pw_below_drewN | apply below_drew1 | refine below_set ?_ GE124.out) | exact HB.out))); (case aF => exact (fun _ _ => trivial)); (case aO => exact (by (with_reducible repeat (first | apply Kd.R_alloc | apply Kd.R_drewN | apply Kd.R_drew)); exact HO_5.out)); (case aS => exact (below_size (by repeat (first | (with_reducible first | exact HB.out | apply below_alloc | apply pw_below_drewN | apply below_drew1 | refine below_set ?_ GE124.out) | exact HB.out)))); (case aL => have := LMc90.out; omega); intro v131 w93 ho hb hg hat; rw [← Ny130.out] at ho; have n0_ := Aside0.mk (Kd.R_over' (by (with_reducible repeat (first | apply Kd.R_alloc | apply Kd.R_drewN | apply Kd.R_drew)); exact HO_6.out) (Kd.R_typed (by (with_reducible repeat (first | apply Kd.R_alloc | apply Kd.R_drewN | apply Kd.R_drew)); exact HO_5.out)) (by decide) hg); have n1_ := Aside0.mk (blk_grown (g := gb124) (o := .cells #[.bool t116, .bool t117, .int .i64 t118, .int .i64 t119, .bool t120, .bool t121, .bool t122] 57 (0, 0)) (by (with_reducible repeat (first | refine blk_drewN ?_ _ | refine blk_drew ?_ | refine blk_alloc ?_ _)); exact BK124.out) hg (Kd.R_ne HO_5.out BK124.out (by decide))); have n2_ := Aside0.mk (hb); have n3_ := Aside0.mk (ho); clear HO_6; clear BK124; clear HB; clear HO_5; have HO_6 := n0_; have BK124 := n1_; have HB := n2_; have HO132 := n3_; clear n0_ n1_ n2_ n3_; clear ho hb hg hat) | ((with_reducible refine gate_builtin (b := .append) (xs := #[.tmp 187, .tmp 189]) rfl ?_); (try (refine gate_guard (by rfl) ?_; dsimp only)); at_builtin; refine Kd.R_append (Kd.int .i64) (w0 := w) w.heap.size rfl (.tmp 187) (.tmp 189) 46 3 (.int .i64 0) 8 rfl Tryd.underlying46 info3 rfl (by decide) (by omega) u6 x6_1 x7_1 [.int .i64 x7_1] (fun _ => True) (fun _ => False) rfl rfl ?aP (fun _ hk => hk.elim) ?aF ?aO ?aB ?aS ?aL ?_; (case aP => exact rfl); (case aB => exact (by repeat (first | (with_reducible first | exact HB.out | apply below_alloc | apply pw_below_drewN | apply below_drew1 | refine below_set ?_ GE124.out) | exact HB.out))); (case aF => exact (fun _ _ => trivial)); (case aO => exact (by (with_reducible repeat (first | apply Kd.R_alloc | apply Kd.R_drewN | apply Kd.R_drew)); exact HO_6.out)); (case aS => exact (below_size (by repeat (first | (with_reducible first | exact HB.out | apply below_alloc | apply pw_below_drewN | apply below_drew1 | refine below_set ?_ GE124.out) | exact HB.out)))); (case aL => have := LMc91.out; omega); intro v134 w94 ho hb hg hat; rw [← Ny133.out] at ho; have n0_ := Aside0.mk (blk_grown (g := gb124) (o := .cells #[.bool t116, .bool t117, .int .i64 t118, .int .i64 t119, .bool t120, .bool t121, .bool t122] 57 (0, 0)) (by (with_reducible repeat (first | refine blk_drewN ?_ _ | refine blk_drew ?_ | refine blk_alloc ?_ _)); exact BK124.out) hg (Kd.R_ne HO_6.out BK124.out (by decide))); have n1_ := Aside0.mk (Kd.R_over' (by (with_reducible repeat (first | apply Kd.R_alloc | apply Kd.R_drewN | apply Kd.R_drew)); exact HO132.out) (Kd.R_typed (by (with_reducible repeat (first | apply Kd.R_alloc | apply Kd.R_drewN | apply Kd.R_drew)); exact HO_6.out)) (by decide) hg); have n2_ := Aside0.mk (hb); have n3_ := Aside0.mk (ho); clear BK124; clear HO132; clear HB; clear HO_6; have BK124 := n0_; have HO132 := n1_; have HB := n2_; have HO135 := n3_; clear n0_ n1_ n2_ n3_; clear ho hb hg hat)))
                                                (try simp only [Act.put, List.setIfInBounds_toArray, List.set_cons_zero, List.set_cons_succ])
                                                go_cut [200] (fun v200 wc => ∃ (kq : Nat) (x200_91 : Bool), v200 = .bool x200_91 ∧ Aside0 (larderref02_Parse.j9 kq a0 y130 y133 x17_30 x200_91 = some (r1, r2, r3)) ∧ Aside0 (kq ≤ kj84) ∧ Aside0 (Kd.R k23 23 wc w.heap.size (fun _ => True) v131 y130) ∧ Aside0 (Kd.R (Kd.int .i64) 3 wc w.heap.size (fun _ => True) v134 y133) ∧ Aside0 (wc.heap[gb124]? = some (.cells #[.bool t116, .bool t117, .int .i64 t118, .int .i64 t119, .bool t120, .bool t121, .bool t122] 57 (0, 0))) ∧ Aside0 (Below w.heap.size w wc))
                                                case first =>
                                                  have H := HC92.out
                                                  clear HC92
                                                  by_cases c95 : t116 = true
                                                  · subst c95
                                                    have H1 : (larderref02_Parse.j9 kj84 a0 y130 y133 x17_30 false) = some (r1, r2, r3) := by rw [if_pos rfl] at H; exact H
                                                    clear H
                                                    have H := H1
                                                    clear H1
                                                    have H' := Aside0.mk H
                                                    clear H
                                                    have hcz96_0 : w94.cell? ⟨gb124, 0, none⟩ = some (.bool true) := (blk_cell BK124.out 0).trans rfl
                                                    have hcz96_1 : w94.cell? ⟨gb124, 1, none⟩ = some (.bool t117) := (blk_cell BK124.out 1).trans rfl
                                                    have hcz96_2 : w94.cell? ⟨gb124, 2, none⟩ = some (.int .i64 t118) := (blk_cell BK124.out 2).trans rfl
                                                    have hcz96_3 : w94.cell? ⟨gb124, 3, none⟩ = some (.int .i64 t119) := (blk_cell BK124.out 3).trans rfl
                                                    have hcz96_4 : w94.cell? ⟨gb124, 4, none⟩ = some (.bool t120) := (blk_cell BK124.out 4).trans rfl
                                                    have hcz96_5 : w94.cell? ⟨gb124, 5, none⟩ = some (.bool t121) := (blk_cell BK124.out 5).trans rfl
                                                    have hcz96_6 : w94.cell? ⟨gb124, 6, none⟩ = some (.bool t122) := (blk_cell BK124.out 6).trans rfl
                                                    have hfz96_0 := blk_frozen BK124.out 0
                                                    have hfz96_1 := blk_frozen BK124.out 1
                                                    have hfz96_2 := blk_frozen BK124.out 2
                                                    have hfz96_3 := blk_frozen BK124.out 3
                                                    have hfz96_4 := blk_frozen BK124.out 4
                                                    have hfz96_5 := blk_frozen BK124.out 5
                                                    have hfz96_6 := blk_frozen BK124.out 6
                                                    go_wp2
                                                    repeat (go_quiet (fail); try go_wp2)
                                                    go_meet
                                                    case rel => exact ⟨_, (false), (by first | rfl | (simp; done) | (simp [*]; done)), H', ⟨by have := HK1.out; have := HK2.out; have := HJ30.out; have := HJ78.out; have := HJ84.out; first | omega | exact Nat.le_refl _⟩, ⟨by (with_reducible repeat (first | apply Kd.R_alloc | apply Kd.R_drewN | apply Kd.R_drew)); exact HO132.out⟩, ⟨by (with_reducible repeat (first | apply Kd.R_alloc | apply Kd.R_drewN | apply Kd.R_drew)); exact HO135.out⟩, ⟨by (with_reducible repeat (first | refine blk_drewN ?_ _ | refine blk_drew ?_ | refine blk_alloc ?_ _)); exact BK124.out⟩, ⟨by repeat (first | (with_reducible first | exact HB.out | apply below_alloc | apply pw_below_drewN | apply below_drew1 | refine below_set ?_ GE124.out) | exact HB.out)⟩⟩
                                                  · replace c95 := Bool.eq_false_iff.mpr c95
                                                    subst c95
                                                    have H1 : (larderref02_Parse.j9 kj84 a0 y130 y133 x17_30 (decide (x17_30 < (a0.size : Int)))) = some (r1, r2, r3) := by rw [if_neg (show ¬ (false = true) by decide)] at H; exact H
                                                    clear H
                                                    have H := H1
                                                    clear H1
                                                    have H' := Aside0.mk H
                                                    clear H
                                                    have hcz97_0 : w94.cell? ⟨gb124, 0, none⟩ = some (.bool false) := (blk_cell BK124.out 0).trans rfl
                                                    have hcz97_1 : w94.cell? ⟨gb124, 1, none⟩ = some (.bool t117) := (blk_cell BK124.out 1).trans rfl
                                                    have hcz97_2 : w94.cell? ⟨gb124, 2, none⟩ = some (.int .i64 t118) := (blk_cell BK124.out 2).trans rfl
                                                    have hcz97_3 : w94.cell? ⟨gb124, 3, none⟩ = some (.int .i64 t119) := (blk_cell BK124.out 3).trans rfl
                                                    have hcz97_4 : w94.cell? ⟨gb124, 4, none⟩ = some (.bool t120) := (blk_cell BK124.out 4).trans rfl
                                                    have hcz97_5 : w94.cell? ⟨gb124, 5, none⟩ = some (.bool t121) := (blk_cell BK124.out 5).trans rfl
                                                    have hcz97_6 : w94.cell? ⟨gb124, 6, none⟩ = some (.bool t122) := (blk_cell BK124.out 6).trans rfl
                                                    have hfz97_0 := blk_frozen BK124.out 0
                                                    have hfz97_1 := blk_frozen BK124.out 1
                                                    have hfz97_2 := blk_frozen BK124.out 2
                                                    have hfz97_3 := blk_frozen BK124.out 3
                                                    have hfz97_4 := blk_frozen BK124.out 4
                                                    have hfz97_5 := blk_frozen BK124.out 5
                                                    have hfz97_6 := blk_frozen BK124.out 6
                                                    go_wp2
                                                    repeat (go_quiet (fail); try go_wp2)
                                                    go_meet
                                                    case rel => exact ⟨_, (decide (x17_30 < (a0.size : Int))), (by first | rfl | (simp; done) | (simp [*]; done)), H', ⟨by have := HK1.out; have := HK2.out; have := HJ30.out; have := HJ78.out; have := HJ84.out; first | omega | exact Nat.le_refl _⟩, ⟨by (with_reducible repeat (first | apply Kd.R_alloc | apply Kd.R_drewN | apply Kd.R_drew)); exact HO132.out⟩, ⟨by (with_reducible repeat (first | apply Kd.R_alloc | apply Kd.R_drewN | apply Kd.R_drew)); exact HO135.out⟩, ⟨by (with_reducible repeat (first | refine blk_drewN ?_ _ | refine blk_drew ?_ | refine blk_alloc ?_ _)); exact BK124.out⟩, ⟨by repeat (first | (with_reducible first | exact HB.out | apply below_alloc | apply pw_below_drewN | apply below_drew1 | refine below_set ?_ GE124.out) | exact HB.out)⟩⟩
                                                case rest =>
                                                  clear HC92
                                                  (try clear c1); (try clear p1); (try clear q1); (try clear hx1); (try clear c2); (try clear c2b0); (try clear c2b1); (try clear p2); (try clear c3); (try clear c3b0); (try clear c4); (try clear c4b0); (try clear c4b1); (try clear p4); (try clear q4); (try clear hx4); (try clear c5); (try clear c5b0); (try clear c5b1); (try clear p5); (try clear q5); (try clear hx5); (try clear c6); (try clear p6); (try clear q6); (try clear hx6); (try clear c7); (try clear c8); (try clear c8b0); (try clear c9); (try clear c9b0); (try clear p10); (try clear q10); (try clear hx10); (try clear c11); (try clear p11); (try clear q11); (try clear hx11); (try clear c12); (try clear c14); (try clear c14b0); (try clear c14b1); (try clear c17); (try clear c18); (try clear c20); (try clear c20b0); (try clear c20b1); (try clear c24); (try clear c24b0); (try clear c24b1); (try clear c25); (try clear c29); (try clear c29b0); (try clear c29b1); (try clear c37); (try clear c38); (try clear c38b0); (try clear c39); (try clear c39b0); (try clear c41); (try clear c41b0); (try clear c42); (try clear c42b0); (try clear p43); (try clear q43); (try clear hx43); (try clear c45); (try clear c50); (try clear c50b0); (try clear c51); (try clear c51b0); (try clear p52); (try clear q52); (try clear hx52); (try clear c53); (try clear c54); (try clear c54b0); (try clear c58); (try clear c59); (try clear c59b0); (try clear c60); (try clear c60b0); (try clear p61); (try clear q61); (try clear hx61); (try clear p64); (try clear c65); (try clear c66); (try clear c66b0); (try clear c67); (try clear c67b0); (try clear p68); (try clear q68); (try clear hx68); (try clear c70); (try clear c71); (try clear c71b0); (try clear c71b1); (try clear c72); (try clear c72b0); (try clear c76); (try clear c76b0); (try clear c76b1); (try clear c77); (try clear c77b0); (try clear c77b1); (try clear c78); (try clear c78b0); (try clear c78b1); (try clear c80); (try clear c84); (try clear c87); (try clear c89); (try clear c90); (try clear c91); (try clear c95); (try clear hcz36_0); (try clear hcz36_1); (try clear hcz36_2); (try clear hcz36_3); (try clear hcz36_4); (try clear hcz36_5); (try clear hcz36_6); (try clear hcz40_0); (try clear hcz40_1); (try clear hcz40_2); (try clear hcz40_3); (try clear hcz40_4); (try clear hcz40_5); (try clear hcz40_6); (try clear hcz46_0); (try clear hcz46_1); (try clear hcz46_2); (try clear hcz46_3); (try clear hcz46_4); (try clear hcz46_5); (try clear hcz46_6); (try clear hcz47_0); (try clear hcz47_1); (try clear hcz47_2); (try clear hcz47_3); (try clear hcz47_4); (try clear hcz47_5); (try clear hcz47_6); (try clear hcz48_0); (try clear hcz48_1); (try clear hcz48_2); (try clear hcz48_3); (try clear hcz48_4); (try clear hcz48_5); (try clear hcz48_6); (try clear hcz55_0); (try clear hcz55_1); (try clear hcz55_2); (try clear hcz55_3); (try clear hcz55_4); (try clear hcz55_5); (try clear hcz55_6); (try clear hcz57_0); (try clear hcz57_1); (try clear hcz57_2); (try clear hcz57_3); (try clear hcz57_4); (try clear hcz57_5); (try clear hcz57_6); (try clear hcz63_0); (try clear hcz63_1); (try clear hcz63_2); (try clear hcz63_3); (try clear hcz63_4); (try clear hcz63_5); (try clear hcz63_6); (try clear hcz64_0); (try clear hcz64_1); (try clear hcz64_2); (try clear hcz64_3); (try clear hcz64_4); (try clear hcz64_5); (try clear hcz64_6); (try clear hcz73_0); (try clear hcz73_1); (try clear hcz73_2); (try clear hcz73_3); (try clear hcz73_4); (try clear hcz73_5); (try clear hcz73_6); (try clear hcz74_0); (try clear hcz74_1); (try clear hcz74_2); (try clear hcz74_3); (try clear hcz74_4); (try clear hcz74_5); (try clear hcz74_6); (try clear hcz82_0); (try clear hcz82_1); (try clear hcz82_2); (try clear hcz82_3); (try clear hcz82_4); (try clear hcz82_5); (try clear hcz82_6); (try clear hcz83_0); (try clear hcz83_1); (try clear hcz83_2); (try clear hcz83_3); (try clear hcz83_4); (try clear hcz83_5); (try clear hcz83_6); (try clear hcz86_0); (try clear hcz86_1); (try clear hcz86_2); (try clear hcz86_3); (try clear hcz86_4); (try clear hcz86_5); (try clear hcz86_6); (try clear hcz96_0); (try clear hcz96_1); (try clear hcz96_2); (try clear hcz96_3); (try clear hcz96_4); (try clear hcz96_5); (try clear hcz96_6); (try clear hcz97_0); (try clear hcz97_1); (try clear hcz97_2); (try clear hcz97_3); (try clear hcz97_4); (try clear hcz97_5); (try clear hcz97_6); (try clear hfz36_0); (try clear hfz36_1); (try clear hfz36_2); (try clear hfz36_3); (try clear hfz36_4); (try clear hfz36_5); (try clear hfz36_6); (try clear hfz40_0); (try clear hfz40_1); (try clear hfz40_2); (try clear hfz40_3); (try clear hfz40_4); (try clear hfz40_5); (try clear hfz40_6); (try clear hfz46_0); (try clear hfz46_1); (try clear hfz46_2); (try clear hfz46_3); (try clear hfz46_4); (try clear hfz46_5); (try clear hfz46_6); (try clear hfz47_0); (try clear hfz47_1); (try clear hfz47_2); (try clear hfz47_3); (try clear hfz47_4); (try clear hfz47_5); (try clear hfz47_6); (try clear hfz48_0); (try clear hfz48_1); (try clear hfz48_2); (try clear hfz48_3); (try clear hfz48_4); (try clear hfz48_5); (try clear hfz48_6); (try clear hfz55_0); (try clear hfz55_1); (try clear hfz55_2); (try clear hfz55_3); (try clear hfz55_4); (try clear hfz55_5); (try clear hfz55_6); (try clear hfz57_0); (try clear hfz57_1); (try clear hfz57_2); (try clear hfz57_3); (try clear hfz57_4); (try clear hfz57_5); (try clear hfz57_6); (try clear hfz63_0); (try clear hfz63_1); (try clear hfz63_2); (try clear hfz63_3); (try clear hfz63_4); (try clear hfz63_5); (try clear hfz63_6); (try clear hfz64_0); (try clear hfz64_1); (try clear hfz64_2); (try clear hfz64_3); (try clear hfz64_4); (try clear hfz64_5); (try clear hfz64_6); (try clear hfz73_0); (try clear hfz73_1); (try clear hfz73_2); (try clear hfz73_3); (try clear hfz73_4); (try clear hfz73_5); (try clear hfz73_6); (try clear hfz74_0); (try clear hfz74_1); (try clear hfz74_2); (try clear hfz74_3); (try clear hfz74_4); (try clear hfz74_5); (try clear hfz74_6); (try clear hfz82_0); (try clear hfz82_1); (try clear hfz82_2); (try clear hfz82_3); (try clear hfz82_4); (try clear hfz82_5); (try clear hfz82_6); (try clear hfz83_0); (try clear hfz83_1); (try clear hfz83_2); (try clear hfz83_3); (try clear hfz83_4); (try clear hfz83_5); (try clear hfz83_6); (try clear hfz86_0); (try clear hfz86_1); (try clear hfz86_2); (try clear hfz86_3); (try clear hfz86_4); (try clear hfz86_5); (try clear hfz86_6); (try clear hfz96_0); (try clear hfz96_1); (try clear hfz96_2); (try clear hfz96_3); (try clear hfz96_4); (try clear hfz96_5); (try clear hfz96_6); (try clear hfz97_0); (try clear hfz97_1); (try clear hfz97_2); (try clear hfz97_3); (try clear hfz97_4); (try clear hfz97_5); (try clear hfz97_6); (try clear hx106_0); (try clear hx108_0); (try clear hx109_0); (try clear hx110_0); (try clear hx112_0); (try clear hx113_0); (try clear p1); (try clear p10); (try clear p106); (try clear p108); (try clear p109); (try clear p11); (try clear p110); (try clear p112); (try clear p113); (try clear p2); (try clear p4); (try clear p43); (try clear p5); (try clear p52); (try clear p6); (try clear p61); (try clear p64); (try clear p68); (try clear q1); (try clear q10); (try clear q106); (try clear q108); (try clear q109); (try clear q11); (try clear q110); (try clear q112); (try clear q113); (try clear q4); (try clear q43); (try clear q5); (try clear q52); (try clear q6); (try clear q61); (try clear q68)
                                                  obtain ⟨kq, x200_91, rfl, HA, HJ91, HO_5, HO_6, BK124, HB⟩ := hcut
                                                  cases kq with
                                                  | zero => exact absurd HA.out (by simp [larderref02_Parse.j9])
                                                  | succ kj91 =>
                                                    have H := HA.out
                                                    clear HA
                                                    simp only [larderref02_Parse.j9] at H
                                                    by_cases c98 : x200_91 = true
                                                    · subst c98
                                                      have H1 : (if x17_30 = (wrap64 ((a0.size : Int) - 1)) then (some (([] : List (S23)), 4, x17_30)) else (larderref02_Parse.l0 kj91 a0 y130 y133 (wrap64 (x17_30 + 1)))) = some (r1, r2, r3) := by rw [if_pos rfl] at H; exact H
                                                      clear H
                                                      have H := H1
                                                      clear H1
                                                      by_cases c99 : x17_30 = (wrap64 ((a0.size : Int) - 1))
                                                      · rw [if_pos c99] at H
                                                        have c99b0 : (x17_30 == (wrap64 ((a0.size : Int) - 1))) = true := beq_iff_eq.mpr c99
                                                        have c99b1 : (x17_30 != (wrap64 ((a0.size : Int) - 1))) = false := bne_eq_false_iff_eq.mpr c99
                                                        clear c99
                                                        simp only [Option.some.injEq, Prod.mk.injEq] at H
                                                        obtain ⟨rfl, rfl, rfl⟩ := H
                                                        go_wp2
                                                        repeat (go_quiet (fail); try go_wp2)
                                                        go_ret3
                                                        exact ⟨_, by first | rfl | (simp [errW_none, errW_some] <;> rfl) | (simp only [← hji75]; first | rfl | (simp [errW_none, errW_some] <;> rfl)) | (simp [*, errW_none, errW_some] <;> rfl), by first | exact Kd.R_nil _ _ _ _ _ | exact Kd.N_nil _ _ _ _ _ | exact Kd.V_nil _ _ _ _ _ | exact Kd.Q_nil _ _ _ _ _ | exact Kd.S_nil _ _ _ _ _, by repeat (first | (with_reducible first | exact HB.out | apply below_alloc | apply pw_below_drewN | apply below_drew1 | refine below_set ?_ GE124.out) | exact HB.out)⟩
                                                      · rw [if_neg c99] at H
                                                        have c99b0 : (x17_30 == (wrap64 ((a0.size : Int) - 1))) = false := beq_eq_false_iff_ne.mpr c99
                                                        have c99b1 : (x17_30 != (wrap64 ((a0.size : Int) - 1))) = true := bne_iff_ne.mpr c99
                                                        have H' := Aside0.mk H
                                                        clear H
                                                        go_wp2
                                                        repeat (go_quiet (fail); try go_wp2)
                                                        go_roundg kj91
                                                        case measure => have := HK1.out; have := HK2.out; have := HJ30.out; have := HJ78.out; have := HJ84.out; have := HJ91.out; omega
                                                        case rel => exact ⟨(y130), (y133), (wrap64 (x17_30 + 1)), (by first | rfl | (simp; done) | (simp [*]; done)), H', ⟨by have := HK1.out; have := HK2.out; have := HJ30.out; have := HJ78.out; have := HJ84.out; have := HJ91.out; omega⟩, ⟨by (with_reducible repeat (first | apply Kd.R_alloc | apply Kd.R_drewN | apply Kd.R_drew)); exact HO_5.out⟩, ⟨by (with_reducible repeat (first | apply Kd.R_alloc | apply Kd.R_drewN | apply Kd.R_drew)); exact HO_6.out⟩, ⟨by repeat (first | (with_reducible first | exact HB.out | apply below_alloc | apply pw_below_drewN | apply below_drew1 | refine below_set ?_ GE124.out) | exact HB.out)⟩⟩
                                                    · replace c98 := Bool.eq_false_iff.mpr c98
                                                      subst c98
                                                      have H1 : (larderref02_Parse.l0 kj91 a0 y130 y133 x17_30) = some (r1, r2, r3) := by rw [if_neg (show ¬ (false = true) by decide)] at H; exact H
                                                      clear H
                                                      have H := H1
                                                      clear H1
                                                      have H' := Aside0.mk H
                                                      clear H
                                                      go_wp2
                                                      repeat (go_quiet (fail); try go_wp2)
                                                      go_roundg kj91
                                                      case measure => have := HK1.out; have := HK2.out; have := HJ30.out; have := HJ78.out; have := HJ84.out; have := HJ91.out; omega
                                                      case rel => exact ⟨(y130), (y133), (x17_30), (by first | rfl | (simp; done) | (simp [*]; done)), H', ⟨by have := HK1.out; have := HK2.out; have := HJ30.out; have := HJ78.out; have := HJ84.out; have := HJ91.out; omega⟩, ⟨by (with_reducible repeat (first | apply Kd.R_alloc | apply Kd.R_drewN | apply Kd.R_drew)); exact HO_5.out⟩, ⟨by (with_reducible repeat (first | apply Kd.R_alloc | apply Kd.R_drewN | apply Kd.R_drew)); exact HO_6.out⟩, ⟨by repeat (first | (with_reducible first | exact HB.out | apply below_alloc | apply pw_below_drewN | apply below_drew1 | refine below_set ?_ GE124.out) | exact HB.out)⟩⟩
                                              · rw [if_neg c91] at H
                                                exact absurd H (by simp)
                                            · rw [if_neg c90] at H
                                              exact absurd H (by simp)
                                · rw [if_neg c78] at H
                                  exact absurd H (by simp)
                              · rw [if_neg c77] at H
                                exact absurd H (by simp)
                            · rw [if_neg c76] at H
                              exact absurd H (by simp)
                      · rw [if_neg c29] at H
                        have c29b0 : (t115 == 0) = false := beq_eq_false_iff_ne.mpr c29
                        have c29b1 : (t115 != 0) = true := bne_iff_ne.mpr c29
                        simp only [Option.some.injEq, Prod.mk.injEq] at H
                        obtain ⟨rfl, rfl, rfl⟩ := H
                        obtain ⟨Ao100, co100, eo100⟩ := Kd.R_slice HO_11.out
                        subst eo100
                        obtain ⟨Ao101, co101, eo101⟩ := Kd.R_slice HO_5.out
                        subst eo101
                        go_wp2_with (first | (go_at_call 41; (with_reducible refine (larderref02_beside.calls k2 _ _ x5_1 x9_2 t115 _ ?side1 ?side2 A28.out).mono ?_); (case side1 => repeat (first | exact (Kd.R_reads' HO_5.out).2.2 | (with_reducible refine Kd.C_alloc ?_ _) | (with_reducible refine Kd.C_drewN ?_ _) | (with_reducible refine Kd.C_drew ?_))); (case side2 => exact (Kd.R_reads' HO_5.out).2.1); rintro e w' ⟨rfl, ⟨nd, rfl⟩⟩; (try first | exact ⟨rfl, _, World.drewN_drewN _ _ _⟩ | exact ⟨rfl, _, Eq.trans (World.drewN_drewN _ _ _) (congrArg (World.drewN _) (Nat.add_assoc _ _ _))⟩)))
                        repeat (go_quiet (first | (go_at_call 41; (with_reducible refine (larderref02_beside.calls k2 _ _ x5_1 x9_2 t115 _ ?side1 ?side2 A28.out).mono ?_); (case side1 => repeat (first | exact (Kd.R_reads' HO_5.out).2.2 | (with_reducible refine Kd.C_alloc ?_ _) | (with_reducible refine Kd.C_drewN ?_ _) | (with_reducible refine Kd.C_drew ?_))); (case side2 => exact (Kd.R_reads' HO_5.out).2.1); rintro e w' ⟨rfl, ⟨nd, rfl⟩⟩; (try first | exact ⟨rfl, _, World.drewN_drewN _ _ _⟩ | exact ⟨rfl, _, Eq.trans (World.drewN_drewN _ _ _) (congrArg (World.drewN _) (Nat.add_assoc _ _ _))⟩))); try go_wp2_with (first | (go_at_call 41; (with_reducible refine (larderref02_beside.calls k2 _ _ x5_1 x9_2 t115 _ ?side1 ?side2 A28.out).mono ?_); (case side1 => repeat (first | exact (Kd.R_reads' HO_5.out).2.2 | (with_reducible refine Kd.C_alloc ?_ _) | (with_reducible refine Kd.C_drewN ?_ _) | (with_reducible refine Kd.C_drew ?_))); (case side2 => exact (Kd.R_reads' HO_5.out).2.1); rintro e w' ⟨rfl, ⟨nd, rfl⟩⟩; (try first | exact ⟨rfl, _, World.drewN_drewN _ _ _⟩ | exact ⟨rfl, _, Eq.trans (World.drewN_drewN _ _ _) (congrArg (World.drewN _) (Nat.add_assoc _ _ _))⟩))))
                        go_ret3
                        exact ⟨_, by first | rfl | (simp [errW_none, errW_some] <;> rfl) | (simp [*, errW_none, errW_some] <;> rfl), by first | exact Kd.R_nil _ _ _ _ _ | exact Kd.N_nil _ _ _ _ _ | exact Kd.V_nil _ _ _ _ _ | exact Kd.Q_nil _ _ _ _ _ | exact Kd.S_nil _ _ _ _ _, by repeat (first | (with_reducible first | exact HB.out | apply below_alloc | apply pw_below_drewN | apply below_drew1) | exact HB.out)⟩
            · rw [if_neg c5] at H
              exact absurd H (by simp)
          · rw [if_neg c4] at H
            exact absurd H (by simp)
        · rw [if_neg c3] at H
          have c3b0 : decide (x7_1 < (a0.size : Int)) = false := decide_eq_false c3
          clear c3
          replace H := Option.bind_eq_some_iff.mp H
          obtain ⟨t101, A1020, H⟩ := H
          replace H : (if t101 ≥ 0 then (if 0 ≤ t101 then (if t101 < (x6_1.length : Int) then (some (([] : List (S23)), 25, rd x6_1 t101)) else (none)) else (none)) else (some (x5_1, 0, 0))) = some (r1, r2, r3) := H
          have A102 := Aside0.mk A1020
          clear A1020
          by_cases c103 : t101 ≥ 0
          · rw [if_pos c103] at H
            have c103b0 : decide (0 ≤ t101) = true := decide_eq_true c103
            clear c103
            by_cases c104 : 0 ≤ t101
            · rw [if_pos c104] at H
              have c104b0 : decide (0 ≤ t101) = true := decide_eq_true c104
              clear c104
              by_cases c105 : t101 < (x6_1.length : Int)
              · rw [if_pos c105] at H
                have c105b0 : decide (t101 < (x6_1.length : Int)) = true := decide_eq_true c105
                clear c105
                simp only [Option.some.injEq, Prod.mk.injEq] at H
                obtain ⟨rfl, rfl, rfl⟩ := H
                obtain ⟨Ao106, co106, eo106⟩ := Kd.R_slice HO_5.out
                subst eo106
                go_wp2_with (first | (go_at_call 44; (with_reducible refine (larderref02_lonely.calls k1 _ _ x5_1 t101 _ ?side1 ?side2 A102.out).mono ?_); (case side1 => repeat (first | exact (Kd.R_reads' HO_5.out).2.2 | (with_reducible refine Kd.C_alloc ?_ _) | (with_reducible refine Kd.C_drewN ?_ _) | (with_reducible refine Kd.C_drew ?_))); (case side2 => exact (Kd.R_reads' HO_5.out).2.1); rintro e w' ⟨rfl, ⟨nd, rfl⟩⟩; (try first | exact ⟨rfl, _, World.drewN_drewN _ _ _⟩ | exact ⟨rfl, _, Eq.trans (World.drewN_drewN _ _ _) (congrArg (World.drewN _) (Nat.add_assoc _ _ _))⟩); obtain ⟨Ao107, co107, eo107⟩ := Kd.R_slice HO_6.out; subst eo107; have p102 : 0 ≤ (t101 : Int) := of_decide_eq_true (by first | (with_reducible assumption) | assumption); have q102 : t101 < (x6_1.length : Int) := of_decide_eq_true (by first | (with_reducible assumption) | assumption); obtain ⟨ad102, e102, hx102_0⟩ := Kd.at_int (Kd.R_reads' HO_6.out).2.2 t101 p102 q102; cases e102; replace p102 := eq_true p102; replace q102 := eq_true q102))
                repeat (go_quiet (first | (go_at_call 44; (with_reducible refine (larderref02_lonely.calls k1 _ _ x5_1 t101 _ ?side1 ?side2 A102.out).mono ?_); (case side1 => repeat (first | exact (Kd.R_reads' HO_5.out).2.2 | (with_reducible refine Kd.C_alloc ?_ _) | (with_reducible refine Kd.C_drewN ?_ _) | (with_reducible refine Kd.C_drew ?_))); (case side2 => exact (Kd.R_reads' HO_5.out).2.1); rintro e w' ⟨rfl, ⟨nd, rfl⟩⟩; (try first | exact ⟨rfl, _, World.drewN_drewN _ _ _⟩ | exact ⟨rfl, _, Eq.trans (World.drewN_drewN _ _ _) (congrArg (World.drewN _) (Nat.add_assoc _ _ _))⟩); obtain ⟨Ao107, co107, eo107⟩ := Kd.R_slice HO_6.out; subst eo107; have p102 : 0 ≤ (t101 : Int) := of_decide_eq_true (by first | (with_reducible assumption) | assumption); have q102 : t101 < (x6_1.length : Int) := of_decide_eq_true (by first | (with_reducible assumption) | assumption); obtain ⟨ad102, e102, hx102_0⟩ := Kd.at_int (Kd.R_reads' HO_6.out).2.2 t101 p102 q102; cases e102; replace p102 := eq_true p102; replace q102 := eq_true q102)); try go_wp2_with (first | (go_at_call 44; (with_reducible refine (larderref02_lonely.calls k1 _ _ x5_1 t101 _ ?side1 ?side2 A102.out).mono ?_); (case side1 => repeat (first | exact (Kd.R_reads' HO_5.out).2.2 | (with_reducible refine Kd.C_alloc ?_ _) | (with_reducible refine Kd.C_drewN ?_ _) | (with_reducible refine Kd.C_drew ?_))); (case side2 => exact (Kd.R_reads' HO_5.out).2.1); rintro e w' ⟨rfl, ⟨nd, rfl⟩⟩; (try first | exact ⟨rfl, _, World.drewN_drewN _ _ _⟩ | exact ⟨rfl, _, Eq.trans (World.drewN_drewN _ _ _) (congrArg (World.drewN _) (Nat.add_assoc _ _ _))⟩); obtain ⟨Ao107, co107, eo107⟩ := Kd.R_slice HO_6.out; subst eo107; have p102 : 0 ≤ (t101 : Int) := of_decide_eq_true (by first | (with_reducible assumption) | assumption); have q102 : t101 < (x6_1.length : Int) := of_decide_eq_true (by first | (with_reducible assumption) | assumption); obtain ⟨ad102, e102, hx102_0⟩ := Kd.at_int (Kd.R_reads' HO_6.out).2.2 t101 p102 q102; cases e102; replace p102 := eq_true p102; replace q102 := eq_true q102)))
                go_ret3
                exact ⟨_, by first | rfl | (simp [errW_none, errW_some] <;> rfl) | (simp [*, errW_none, errW_some] <;> rfl), by first | exact Kd.R_nil _ _ _ _ _ | exact Kd.N_nil _ _ _ _ _ | exact Kd.V_nil _ _ _ _ _ | exact Kd.Q_nil _ _ _ _ _ | exact Kd.S_nil _ _ _ _ _, by repeat (first | (with_reducible first | exact HB.out | apply below_alloc | apply pw_below_drewN | apply below_drew1) | exact HB.out)⟩
              · rw [if_neg c105] at H
                exact absurd H (by simp)
            · rw [if_neg c104] at H
              exact absurd H (by simp)
          · rw [if_neg c103] at H
            have c103b0 : decide (0 ≤ t101) = false := decide_eq_false c103
            clear c103
            simp only [Option.some.injEq, Prod.mk.injEq] at H
            obtain ⟨rfl, rfl, rfl⟩ := H
            obtain ⟨Ao108, co108, eo108⟩ := Kd.R_slice HO_5.out
            subst eo108
            go_wp2_with (first | (go_at_call 44; (with_reducible refine (larderref02_lonely.calls k1 _ _ x5_1 t101 _ ?side1 ?side2 A102.out).mono ?_); (case side1 => repeat (first | exact (Kd.R_reads' HO_5.out).2.2 | (with_reducible refine Kd.C_alloc ?_ _) | (with_reducible refine Kd.C_drewN ?_ _) | (with_reducible refine Kd.C_drew ?_))); (case side2 => exact (Kd.R_reads' HO_5.out).2.1); rintro e w' ⟨rfl, ⟨nd, rfl⟩⟩; (try first | exact ⟨rfl, _, World.drewN_drewN _ _ _⟩ | exact ⟨rfl, _, Eq.trans (World.drewN_drewN _ _ _) (congrArg (World.drewN _) (Nat.add_assoc _ _ _))⟩)))
            repeat (go_quiet (first | (go_at_call 44; (with_reducible refine (larderref02_lonely.calls k1 _ _ x5_1 t101 _ ?side1 ?side2 A102.out).mono ?_); (case side1 => repeat (first | exact (Kd.R_reads' HO_5.out).2.2 | (with_reducible refine Kd.C_alloc ?_ _) | (with_reducible refine Kd.C_drewN ?_ _) | (with_reducible refine Kd.C_drew ?_))); (case side2 => exact (Kd.R_reads' HO_5.out).2.1); rintro e w' ⟨rfl, ⟨nd, rfl⟩⟩; (try first | exact ⟨rfl, _, World.drewN_drewN _ _ _⟩ | exact ⟨rfl, _, Eq.trans (World.drewN_drewN _ _ _) (congrArg (World.drewN _) (Nat.add_assoc _ _ _))⟩))); try go_wp2_with (first | (go_at_call 44; (with_reducible refine (larderref02_lonely.calls k1 _ _ x5_1 t101 _ ?side1 ?side2 A102.out).mono ?_); (case side1 => repeat (first | exact (Kd.R_reads' HO_5.out).2.2 | (with_reducible refine Kd.C_alloc ?_ _) | (with_reducible refine Kd.C_drewN ?_ _) | (with_reducible refine Kd.C_drew ?_))); (case side2 => exact (Kd.R_reads' HO_5.out).2.1); rintro e w' ⟨rfl, ⟨nd, rfl⟩⟩; (try first | exact ⟨rfl, _, World.drewN_drewN _ _ _⟩ | exact ⟨rfl, _, Eq.trans (World.drewN_drewN _ _ _) (congrArg (World.drewN _) (Nat.add_assoc _ _ _))⟩))))
            go_ret3
            exact ⟨_, by first | rfl | (simp [errW_none, errW_some] <;> rfl) | (simp [*, errW_none, errW_some] <;> rfl), by (with_reducible repeat (first | apply Kd.R_alloc | apply Kd.R_drewN | apply Kd.R_drew)); exact HO_5.out, by repeat (first | (with_reducible first | exact HB.out | apply below_alloc | apply pw_below_drewN | apply below_drew1) | exact HB.out)⟩

end Go.Proofs.YtofagdjijpjlgaaDoor.PParses
-- written by xprint.py (a program of this work's own, over the kit's printer) out of the translation
namespace Go.Proofs.YtofagdjijpjlgaaDoor.PParses
open Go.RowKit Go.Proofs.YtofagdjijpjlgaaDoorW.PrintWords Go.Proofs.YtofagdjijpjlgaaDoorW.PrintLast Go.Proofs.YtofagdjijpjlgaaDoorW.PrintMore Go.Proofs.YtofagdjijpjlgaaDoor.X Go.Proofs.YtofagdjijpjlgaaDoor.PBase Go.Proofs.YtofagdjijpjlgaaDoor.PDays Go.Proofs.YtofagdjijpjlgaaDoor.PElem
attribute [local go_sem] max2_int min2_int max_two min_two max_three min_three max_four min_four   -- for this text's walks alone
set_option linter.unusedVariables false
set_option linter.unusedSimpArgs false

/-! ### larderlaw02_GtinParses: function 6 -/
def larderlaw02_GtinParses.f (k : Nat) (a0 : ByteArray) : Option (Bool) := (gtin_ParseG.f a0).bind fun bt136 => ((larderref02_Parse.f k a0).bind fun bt141 => (if bt136.2.1 = bt141.2.1 then (if bt136.2.2 = bt141.2.2 then ((larderlaw02_same.f k bt136.1 bt141.1).bind fun t146 => (some t146)) else (some false)) else (some false)))
set_option maxHeartbeats 8000000 in
set_option maxRecDepth 100000 in
theorem larderlaw02_GtinParses.calls (k : Nat) (a0 : ByteArray) (r : Bool) (w : World) (HT_ : Aside0 (Tab w)) (h : larderlaw02_GtinParses.f k a0 = some r) :
    Calls Tryd.prog 6 #[.string a0] w fun e w' => e = .returned (.bool r) ∧ Below w.heap.size w w' := by
  have HB := Aside0.mk (Below.refl w.heap.size w)
  have H : ((gtin_ParseG.f a0).bind fun bt136 => ((larderref02_Parse.f k a0).bind fun bt141 => (if bt136.2.1 = bt141.2.1 then (if bt136.2.2 = bt141.2.2 then ((larderlaw02_same.f k bt136.1 bt141.1).bind fun t146 => (some t146)) else (some false)) else (some false)))) = some r := h
  clear h
  replace H := Option.bind_eq_some_iff.mp H
  obtain ⟨⟨t136, t137, t138⟩, A20, H⟩ := H
  replace H : ((larderref02_Parse.f k a0).bind fun bt141 => (if t137 = bt141.2.1 then (if t138 = bt141.2.2 then ((larderlaw02_same.f k t136 bt141.1).bind fun t146 => (some t146)) else (some false)) else (some false))) = some r := H
  have A2 := Aside0.mk A20
  clear A20
  replace H := Option.bind_eq_some_iff.mp H
  obtain ⟨⟨t141, t142, t143⟩, A30, H⟩ := H
  replace H : (if t137 = t142 then (if t138 = t143 then ((larderlaw02_same.f k t136 t141).bind fun t146 => (some t146)) else (some false)) else (some false)) = some r := H
  have A3 := Aside0.mk A30
  clear A30
  by_cases c4 : t137 = t142
  · rw [if_pos c4] at H
    have c4b0 : (t137 == t142) = true := beq_iff_eq.mpr c4
    have c4b1 : (t137 != t142) = false := bne_eq_false_iff_eq.mpr c4
    clear c4
    by_cases c5 : t138 = t143
    · rw [if_pos c5] at H
      have c5b0 : (t138 == t143) = true := beq_iff_eq.mpr c5
      have c5b1 : (t138 != t143) = false := bne_eq_false_iff_eq.mpr c5
      clear c5
      replace H := Option.bind_eq_some_iff.mp H
      obtain ⟨t146, A60, H⟩ := H
      replace H : (some t146) = some r := H
      have A6 := Aside0.mk A60
      clear A60
      obtain rfl := Option.some.inj H
      go_enter Tryd.func6, Tryd.ntmps6
      go_wp2_with (first | ((with_reducible refine gate_callee (f := 16) rfl ?_); refine goesL_ (some 11) rfl rfl Tryd.func16 (by kernel_rfl) rfl #[.string a0] rfl (by (try simp only [List.map_toArray, List.map_cons, List.map_nil]); first | done | rfl | (simp only [List.length_drop, List.length_take]; rfl)) ?_; (with_reducible refine (gtin_ParseG.calls a0 t136 t137 t138 _ (by first | exact HT_ | exact ⟨Tab.below HT_.out HB.out⟩ | (constructor; repeat (first | exact HT_.out | exact Tab.below HT_.out HB.out | apply Tab.drewN | apply Tab.alloc))) A2.out).mono ?_); rintro e w7 ⟨v139, rfl, ho0, hb⟩; refine ⟨_, rfl, ?_⟩; have n0_ := Aside0.mk (Kd.R_lower ho0 (below_size (by repeat (first | (with_reducible first | exact HB.out | apply below_alloc | apply pw_below_drewN | apply below_drew1) | exact HB.out)))); have n1_ := Aside0.mk (below_step (by repeat (first | (with_reducible first | exact HB.out | apply below_alloc | apply pw_below_drewN | apply below_drew1) | exact HB.out)) hb); clear HB; have HO140 := n0_; have HB := n1_; clear n0_ n1_; (try clear hb); (try clear hb2); (try clear hk); (try clear hi); (try clear ho0)) | ((with_reducible refine gate_callee (f := 17) rfl ?_); refine goesL_ (some 17) rfl rfl Tryd.func17 (by kernel_rfl) rfl #[.string a0] rfl (by (try simp only [List.map_toArray, List.map_cons, List.map_nil]); first | done | rfl | (simp only [List.length_drop, List.length_take]; rfl)) ?_; (with_reducible refine (larderref02_Parse.calls k a0 t141 t142 t143 _ A3.out).mono ?_); rintro e w8 ⟨v144, rfl, ho0, hb⟩; refine ⟨_, rfl, ?_⟩; have n0_ := Aside0.mk (Kd.R_elder' (by (with_reducible repeat (first | apply Kd.R_alloc | apply Kd.R_drewN | apply Kd.R_drew)); exact HO140.out) (Kd.R_base ho0) hb); have n1_ := Aside0.mk (Kd.R_lower (Kd.R_new' ho0 (Kd.R_lt (by (with_reducible repeat (first | apply Kd.R_alloc | apply Kd.R_drewN | apply Kd.R_drew)); exact HO140.out))) (below_size (by repeat (first | (with_reducible first | exact HB.out | apply below_alloc | apply pw_below_drewN | apply below_drew1) | exact HB.out)))); have n2_ := Aside0.mk (below_step (by repeat (first | (with_reducible first | exact HB.out | apply below_alloc | apply pw_below_drewN | apply below_drew1) | exact HB.out)) hb); clear HO140; clear HB; have HO140 := n0_; have HO145 := n1_; have HB := n2_; clear n0_ n1_ n2_; (try clear hb); (try clear hb2); (try clear hk); (try clear hi); (try clear ho0); obtain ⟨Ao9, co9, eo9⟩ := Kd.R_slice HO140.out; subst eo9; obtain ⟨Ao10, co10, eo10⟩ := Kd.R_slice HO145.out; subst eo10) | (go_at_call 15; (with_reducible refine (larderlaw02_same.calls k _ _ t136 _ _ t141 t146 _ ?side1 ?side2 ?side3 ?side4 A6.out).mono ?_); (case side1 => repeat (first | exact (Kd.R_reads' HO140.out).2.2 | (with_reducible refine Kd.C_alloc ?_ _) | (with_reducible refine Kd.C_drewN ?_ _) | (with_reducible refine Kd.C_drew ?_))); (case side2 => exact (Kd.R_reads' HO140.out).2.1); (case side3 => repeat (first | exact (Kd.R_reads' HO145.out).2.2 | (with_reducible refine Kd.C_alloc ?_ _) | (with_reducible refine Kd.C_drewN ?_ _) | (with_reducible refine Kd.C_drew ?_))); (case side4 => exact (Kd.R_reads' HO145.out).2.1); rintro e w' ⟨rfl, ⟨nd, rfl⟩⟩))
      go_ret
      exact ⟨by first | rfl | (simp [errW_none, errW_some] <;> rfl) | (simp [*, errW_none, errW_some] <;> rfl), by repeat (first | (with_reducible first | exact HB.out | apply below_alloc | apply pw_below_drewN | apply below_drew1) | exact HB.out)⟩
    · rw [if_neg c5] at H
      have c5b0 : (t138 == t143) = false := beq_eq_false_iff_ne.mpr c5
      have c5b1 : (t138 != t143) = true := bne_iff_ne.mpr c5
      obtain rfl := Option.some.inj H
      go_enter Tryd.func6, Tryd.ntmps6
      go_wp2_with (first | ((with_reducible refine gate_callee (f := 16) rfl ?_); refine goesL_ (some 11) rfl rfl Tryd.func16 (by kernel_rfl) rfl #[.string a0] rfl (by (try simp only [List.map_toArray, List.map_cons, List.map_nil]); first | done | rfl | (simp only [List.length_drop, List.length_take]; rfl)) ?_; (with_reducible refine (gtin_ParseG.calls a0 t136 t137 t138 _ (by first | exact HT_ | exact ⟨Tab.below HT_.out HB.out⟩ | (constructor; repeat (first | exact HT_.out | exact Tab.below HT_.out HB.out | apply Tab.drewN | apply Tab.alloc))) A2.out).mono ?_); rintro e w11 ⟨v139, rfl, ho0, hb⟩; refine ⟨_, rfl, ?_⟩; have n0_ := Aside0.mk (Kd.R_lower ho0 (below_size (by repeat (first | (with_reducible first | exact HB.out | apply below_alloc | apply pw_below_drewN | apply below_drew1) | exact HB.out)))); have n1_ := Aside0.mk (below_step (by repeat (first | (with_reducible first | exact HB.out | apply below_alloc | apply pw_below_drewN | apply below_drew1) | exact HB.out)) hb); clear HB; have HO140 := n0_; have HB := n1_; clear n0_ n1_; (try clear hb); (try clear hb2); (try clear hk); (try clear hi); (try clear ho0)) | ((with_reducible refine gate_callee (f := 17) rfl ?_); refine goesL_ (some 17) rfl rfl Tryd.func17 (by kernel_rfl) rfl #[.string a0] rfl (by (try simp only [List.map_toArray, List.map_cons, List.map_nil]); first | done | rfl | (simp only [List.length_drop, List.length_take]; rfl)) ?_; (with_reducible refine (larderref02_Parse.calls k a0 t141 t142 t143 _ A3.out).mono ?_); rintro e w12 ⟨v144, rfl, ho0, hb⟩; refine ⟨_, rfl, ?_⟩; have n0_ := Aside0.mk (Kd.R_elder' (by (with_reducible repeat (first | apply Kd.R_alloc | apply Kd.R_drewN | apply Kd.R_drew)); exact HO140.out) (Kd.R_base ho0) hb); have n1_ := Aside0.mk (Kd.R_lower (Kd.R_new' ho0 (Kd.R_lt (by (with_reducible repeat (first | apply Kd.R_alloc | apply Kd.R_drewN | apply Kd.R_drew)); exact HO140.out))) (below_size (by repeat (first | (with_reducible first | exact HB.out | apply below_alloc | apply pw_below_drewN | apply below_drew1) | exact HB.out)))); have n2_ := Aside0.mk (below_step (by repeat (first | (with_reducible first | exact HB.out | apply below_alloc | apply pw_below_drewN | apply below_drew1) | exact HB.out)) hb); clear HO140; clear HB; have HO140 := n0_; have HO145 := n1_; have HB := n2_; clear n0_ n1_ n2_; (try clear hb); (try clear hb2); (try clear hk); (try clear hi); (try clear ho0)))
      go_ret
      exact ⟨by first | rfl | (simp [errW_none, errW_some] <;> rfl) | (simp [*, errW_none, errW_some] <;> rfl), by repeat (first | (with_reducible first | exact HB.out | apply below_alloc | apply pw_below_drewN | apply below_drew1) | exact HB.out)⟩
  · rw [if_neg c4] at H
    have c4b0 : (t137 == t142) = false := beq_eq_false_iff_ne.mpr c4
    have c4b1 : (t137 != t142) = true := bne_iff_ne.mpr c4
    obtain rfl := Option.some.inj H
    go_enter Tryd.func6, Tryd.ntmps6
    go_wp2_with (first | ((with_reducible refine gate_callee (f := 16) rfl ?_); refine goesL_ (some 11) rfl rfl Tryd.func16 (by kernel_rfl) rfl #[.string a0] rfl (by (try simp only [List.map_toArray, List.map_cons, List.map_nil]); first | done | rfl | (simp only [List.length_drop, List.length_take]; rfl)) ?_; (with_reducible refine (gtin_ParseG.calls a0 t136 t137 t138 _ (by first | exact HT_ | exact ⟨Tab.below HT_.out HB.out⟩ | (constructor; repeat (first | exact HT_.out | exact Tab.below HT_.out HB.out | apply Tab.drewN | apply Tab.alloc))) A2.out).mono ?_); rintro e w13 ⟨v139, rfl, ho0, hb⟩; refine ⟨_, rfl, ?_⟩; have n0_ := Aside0.mk (Kd.R_lower ho0 (below_size (by repeat (first | (with_reducible first | exact HB.out | apply below_alloc | apply pw_below_drewN | apply below_drew1) | exact HB.out)))); have n1_ := Aside0.mk (below_step (by repeat (first | (with_reducible first | exact HB.out | apply below_alloc | apply pw_below_drewN | apply below_drew1) | exact HB.out)) hb); clear HB; have HO140 := n0_; have HB := n1_; clear n0_ n1_; (try clear hb); (try clear hb2); (try clear hk); (try clear hi); (try clear ho0)) | ((with_reducible refine gate_callee (f := 17) rfl ?_); refine goesL_ (some 17) rfl rfl Tryd.func17 (by kernel_rfl) rfl #[.string a0] rfl (by (try simp only [List.map_toArray, List.map_cons, List.map_nil]); first | done | rfl | (simp only [List.length_drop, List.length_take]; rfl)) ?_; (with_reducible refine (larderref02_Parse.calls k a0 t141 t142 t143 _ A3.out).mono ?_); rintro e w14 ⟨v144, rfl, ho0, hb⟩; refine ⟨_, rfl, ?_⟩; have n0_ := Aside0.mk (Kd.R_elder' (by (with_reducible repeat (first | apply Kd.R_alloc | apply Kd.R_drewN | apply Kd.R_drew)); exact HO140.out) (Kd.R_base ho0) hb); have n1_ := Aside0.mk (Kd.R_lower (Kd.R_new' ho0 (Kd.R_lt (by (with_reducible repeat (first | apply Kd.R_alloc | apply Kd.R_drewN | apply Kd.R_drew)); exact HO140.out))) (below_size (by repeat (first | (with_reducible first | exact HB.out | apply below_alloc | apply pw_below_drewN | apply below_drew1) | exact HB.out)))); have n2_ := Aside0.mk (below_step (by repeat (first | (with_reducible first | exact HB.out | apply below_alloc | apply pw_below_drewN | apply below_drew1) | exact HB.out)) hb); clear HO140; clear HB; have HO140 := n0_; have HO145 := n1_; have HB := n2_; clear n0_ n1_ n2_; (try clear hb); (try clear hb2); (try clear hk); (try clear hi); (try clear ho0)))
    go_ret
    exact ⟨by first | rfl | (simp [errW_none, errW_some] <;> rfl) | (simp [*, errW_none, errW_some] <;> rfl), by repeat (first | (with_reducible first | exact HB.out | apply below_alloc | apply pw_below_drewN | apply below_drew1) | exact HB.out)⟩

end Go.Proofs.YtofagdjijpjlgaaDoor.PParses
-- written by xprint.py (a program of this work's own, over the kit's printer) out of the translation
namespace Go.Proofs.YtofagdjijpjlgaaDoor.PParses
open Go.RowKit Go.Proofs.YtofagdjijpjlgaaDoorW.PrintWords Go.Proofs.YtofagdjijpjlgaaDoorW.PrintLast Go.Proofs.YtofagdjijpjlgaaDoorW.PrintMore Go.Proofs.YtofagdjijpjlgaaDoor.X Go.Proofs.YtofagdjijpjlgaaDoor.PBase Go.Proofs.YtofagdjijpjlgaaDoor.PDays Go.Proofs.YtofagdjijpjlgaaDoor.PElem
attribute [local go_sem] max2_int min2_int max_two min_two max_three min_three max_four min_four   -- for this text's walks alone
set_option linter.unusedVariables false
set_option linter.unusedSimpArgs false

end Go.Proofs.YtofagdjijpjlgaaDoor.PParses
