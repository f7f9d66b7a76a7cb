/-  -/
import Derived.Test.YtofagdjijpjlgaaDoorProg
import Derived.Below
import Derived.Deep.Draws
import Derived.Deep.AppendLies
import Derived.Maps.AppendAt
import Derived.OwnWalk
import Derived.Laws.BytesArg
import Derived.Laws.MakeOwn
import Derived.Laws.OwnMore
import Derived.Deep.OwnRows
import Derived.Tactics
import Derived.Lib.ConvBytes
import Derived.Laws.Slices
import Derived.WalkKit
import Derived.KernelRfl
import Derived.RowKit3
import Derived.Deep.LoopGhost
import Derived.Deep.QuietTactic
import Derived.BigQuiet
import Derived.WideLaws
import Derived.Deep.DeepCutAuto
import Derived.Deep.CutBlock
import Derived.Deep.RegionHeld3
import Derived.Laws.Rows
import Derived.Lib.AppendStr
import Derived.ArgAppend
import Derived.Laws.IdiomCopy
import Derived.OrdersHeld
import Derived.Laws.BitsLemmas
import Derived.RowKit
import Derived.Test.YtofagdjijpjlgaaDoorGz
import Derived.Test.YtofagdjijpjlgaaDoorXi
import Derived.Test.YtofagdjijpjlgaaDoorPBasex
import Derived.Test.YtofagdjijpjlgaaDoorPDaysx
import Derived.Test.YtofagdjijpjlgaaDoorWWords
import Derived.Test.YtofagdjijpjlgaaDoorWLast
import Derived.Test.YtofagdjijpjlgaaDoorWTab
import Derived.Test.YtofagdjijpjlgaaDoorWFour
import Derived.Test.YtofagdjijpjlgaaDoorWQPut
import Derived.Test.YtofagdjijpjlgaaDoorWApart
import Derived.Test.YtofagdjijpjlgaaDoorWArr
import Derived.Test.YtofagdjijpjlgaaDoorWZeros
import Derived.Test.YtofagdjijpjlgaaDoorWFoot
import Derived.Test.YtofagdjijpjlgaaDoorWKept
import Derived.Test.YtofagdjijpjlgaaDoorWShare
import Derived.Test.YtofagdjijpjlgaaDoorWN
import Derived.Test.YtofagdjijpjlgaaDoorWFootNe
import Derived.Test.YtofagdjijpjlgaaDoorWAt
import Derived.Test.YtofagdjijpjlgaaDoorWEqStruct
import Derived.Test.YtofagdjijpjlgaaDoorWRepsOne
import Derived.Test.YtofagdjijpjlgaaDoorWInv
import Derived.Test.YtofagdjijpjlgaaDoorWInvWords
import Derived.Test.YtofagdjijpjlgaaDoorWGuard
import Derived.Test.YtofagdjijpjlgaaDoorWNEv
import Derived.Test.YtofagdjijpjlgaaDoorWMore
-- written by xprint.py (a program of this work's own, over the kit's printer) out of the translation
namespace Go.Proofs.YtofagdjijpjlgaaDoor.PSpan
open Go.RowKit Go.Proofs.YtofagdjijpjlgaaDoorW.PrintWords Go.Proofs.YtofagdjijpjlgaaDoorW.PrintLast Go.Proofs.YtofagdjijpjlgaaDoorW.PrintMore Go.Proofs.YtofagdjijpjlgaaDoor.X Go.Proofs.YtofagdjijpjlgaaDoor.PBase Go.Proofs.YtofagdjijpjlgaaDoor.PDays
attribute [local go_sem] max2_int min2_int max_two min_two max_three min_three max_four min_four   -- for this text's walks alone
set_option linter.unusedVariables false
set_option linter.unusedSimpArgs false



def errW : Option Int → Value
  | none => .nilIface
  | some c => .iface 0 (.int .i64 c)
theorem errW_none : errW none = .nilIface := rfl
theorem errW_some (c : Int) : errW (some c) = .iface 0 (.int .i64 c) := rfl

theorem info5 : (Tryd.prog.info? 5).map (fun i => (i.zero, i.size, i.bytes)) = some (some (.int .u8 0), 1, 1) := by kernel_rfl
-- the values' own types

end Go.Proofs.YtofagdjijpjlgaaDoor.PSpan
-- written by xprint.py (a program of this work's own, over the kit's printer) out of the translation
namespace Go.Proofs.YtofagdjijpjlgaaDoor.PSpan
open Go.RowKit Go.Proofs.YtofagdjijpjlgaaDoorW.PrintWords Go.Proofs.YtofagdjijpjlgaaDoorW.PrintLast Go.Proofs.YtofagdjijpjlgaaDoorW.PrintMore Go.Proofs.YtofagdjijpjlgaaDoor.X Go.Proofs.YtofagdjijpjlgaaDoor.PBase Go.Proofs.YtofagdjijpjlgaaDoor.PDays
attribute [local go_sem] max2_int min2_int max_two min_two max_three min_three max_four min_four   -- for this text's walks alone
set_option linter.unusedVariables false
set_option linter.unusedSimpArgs false

/-! ### larderlaw02_within: function 18 -/
def larderlaw02_within.f (a0 : Int) (a1 : Int) : Option (Int) := if (wrap64 (a1 + 1)) = 0 then (none) else (if (Int.tmod a0 (wrap64 (a1 + 1))) < 0 then (some (wrap64 ((wrap64 ((Int.tmod a0 (wrap64 (a1 + 1))) + a1)) + 1))) else (some (Int.tmod a0 (wrap64 (a1 + 1)))))
set_option maxHeartbeats 8000000 in
set_option maxRecDepth 100000 in
theorem larderlaw02_within.calls (a0 : Int) (a1 : Int) (r : Int) (w : World) (h : larderlaw02_within.f a0 a1 = some r) :
    Calls Tryd.prog 18 #[.int .i64 a0, .int .i64 a1] w fun e w' => e = .returned (.int .i64 r) ∧ Drawn0 w w' := by
  have H : (if (wrap64 (a1 + 1)) = 0 then (none) else (if (Int.tmod a0 (wrap64 (a1 + 1))) < 0 then (some (wrap64 ((wrap64 ((Int.tmod a0 (wrap64 (a1 + 1))) + a1)) + 1))) else (some (Int.tmod a0 (wrap64 (a1 + 1)))))) = some r := h
  clear h
  by_cases c3 : (wrap64 (a1 + 1)) = 0
  · rw [if_pos c3] at H
    exact absurd H (by simp)
  · rw [if_neg c3] at H
    have c3b0 : ((wrap64 (a1 + 1)) == 0) = false := beq_eq_false_iff_ne.mpr c3
    have c3b1 : ((wrap64 (a1 + 1)) != 0) = true := bne_iff_ne.mpr c3
    by_cases c4 : (Int.tmod a0 (wrap64 (a1 + 1))) < 0
    · rw [if_pos c4] at H
      have c4b0 : decide ((Int.tmod a0 (wrap64 (a1 + 1))) < 0) = true := decide_eq_true c4
      clear c4
      obtain rfl := Option.some.inj H
      go_enter Tryd.func18, Tryd.ntmps18
      go_wp2
      go_ret
      exact ⟨by first | rfl | (simp; done) | (simp [*]; done), by repeat (first | exact Drawn0.refl _ | apply Drawn0.step)⟩
    · rw [if_neg c4] at H
      have c4b0 : decide ((Int.tmod a0 (wrap64 (a1 + 1))) < 0) = false := decide_eq_false c4
      clear c4
      obtain rfl := Option.some.inj H
      go_enter Tryd.func18, Tryd.ntmps18
      go_wp2
      go_ret
      exact ⟨by first | rfl | (simp; done) | (simp [*]; done), by repeat (first | exact Drawn0.refl _ | apply Drawn0.step)⟩

/-! ### larderlaw02_GtinSpan: function 7 -/
def larderlaw02_GtinSpan.j0 : Nat → Int → ByteArray → Bool → Option (Bool)
  | 0, _, _, _ => none
  | k + 1, x3, x9, x88 => if x88 = true then (some false) else ((gtin_Day.f k (⟨#[49, 48]⟩ : ByteArray) x9 x3).bind fun bt109 => ((larderlaw02_with.f x9 2 49).bind fun t113 => ((larderlaw02_with.f t113 3 51).bind fun t114 => (if 2 + t114.size ≤ 9223372036854775807 then ((gtin_Parse.f ((⟨#[49, 53]⟩ : ByteArray) ++ t114)).bind fun bt115 => (if bt109.2.2.2 = true then (some false) else (if bt115.2.1 = 28 then (some (bt115.2.2 == 2)) else (some false)))) else (none)))))
def larderlaw02_GtinSpan.f (k : Nat) (a0 : Int) (a1 : Int) (a2 : Int) (a3 : Int) : Option (Bool) := (larderlaw02_within.f a3 9800).bind fun t101 => ((some (([(48 + (Int.tdiv (Int.tmod a0 100) 10)) % 256, (48 + (Int.tmod a0 10)) % 256, 48 + (((1 + (Int.tmod a1 12)) % 256) / 10), 48 + (((1 + (Int.tmod a1 12)) % 256) % 10), (48 + (Int.tdiv (Int.tmod a2 29) 10)) % 256, (48 + (Int.tmod (Int.tmod a2 29) 10)) % 256] : List Int) : List Int)).bind fun y102 => ((gtin_Day.f k (⟨#[49, 53]⟩ : ByteArray) (strOfNums y102) (wrap64 (100 + t101))).bind fun bt105 => (if bt105.2.2.2 = true then (if bt105.1 < (wrap64 ((wrap64 (100 + t101)) - 49)) then (larderlaw02_GtinSpan.j0 k (wrap64 (100 + t101)) (strOfNums y102) true) else (if bt105.1 > (wrap64 ((wrap64 (100 + t101)) + 50)) then (larderlaw02_GtinSpan.j0 k (wrap64 (100 + t101)) (strOfNums y102) true) else (if (Int.tmod bt105.1 100) = (wrap64 (Int.tmod a0 100)) then (if bt105.2.1 = ((1 + (Int.tmod a1 12)) % 256) then (larderlaw02_GtinSpan.j0 k (wrap64 (100 + t101)) (strOfNums y102) (bt105.2.2.1 != (wrap64 (Int.tmod a2 29)))) else (larderlaw02_GtinSpan.j0 k (wrap64 (100 + t101)) (strOfNums y102) true)) else (larderlaw02_GtinSpan.j0 k (wrap64 (100 + t101)) (strOfNums y102) true)))) else (larderlaw02_GtinSpan.j0 k (wrap64 (100 + t101)) (strOfNums y102) true))))
theorem larderlaw02_GtinSpan.mono_l : ∀ k, (∀ y0 y1 y2, LeO (larderlaw02_GtinSpan.j0 k y0 y1 y2) (larderlaw02_GtinSpan.j0 (k + 1) y0 y1 y2))
  | 0 => fun _ _ _ r h => by simp [larderlaw02_GtinSpan.j0] at h
  | k + 1 => by
    have ih0 := larderlaw02_GtinSpan.mono_l k
    · intro y0 y1 y2
      unfold larderlaw02_GtinSpan.j0
      repeat' first
      | (with_reducible exact ih0 _ _ _)
      | (with_reducible exact gtin_Day.mono _ _ _ _)
      | (with_reducible exact LeO.refl _)
      | (with_reducible exact LeO.none _)
      | (with_reducible refine LeO.ite ?_ ?_)
      | (with_reducible refine LeO.bind ?_ (fun _ => ?_))
      | exact ih0 _ _ _
      | exact gtin_Day.mono _ _ _ _
      | exact LeO.none _
      | refine LeO.ite ?_ ?_
      | refine LeO.bind ?_ (fun _ => ?_)
theorem larderlaw02_GtinSpan.mono : ∀ a0 a1 a2 a3 k, LeO (larderlaw02_GtinSpan.f k a0 a1 a2 a3) (larderlaw02_GtinSpan.f (k + 1) a0 a1 a2 a3) := by
  intro a0 a1 a2 a3 k
  have ih0 := larderlaw02_GtinSpan.mono_l k
  unfold larderlaw02_GtinSpan.f
  repeat' first
      | (with_reducible exact ih0 _ _ _)
      | (with_reducible exact gtin_Day.mono _ _ _ _)
      | (with_reducible exact LeO.refl _)
      | (with_reducible exact LeO.none _)
      | (with_reducible refine LeO.ite ?_ ?_)
      | (with_reducible refine LeO.bind ?_ (fun _ => ?_))
      | exact ih0 _ _ _
      | exact gtin_Day.mono _ _ _ _
      | exact LeO.none _
      | refine LeO.ite ?_ ?_
      | refine LeO.bind ?_ (fun _ => ?_)
set_option maxHeartbeats 8000000 in
set_option maxRecDepth 100000 in
theorem larderlaw02_GtinSpan.calls (k : Nat) (a0 : Int) (a1 : Int) (a2 : Int) (a3 : Int) (r : Bool) (w : World) (HT_ : Aside0 (Tab w)) (h : larderlaw02_GtinSpan.f k a0 a1 a2 a3 = some r) :
    Calls Tryd.prog 7 #[.int .u8 a0, .int .u8 a1, .int .u8 a2, .int .i64 a3] w fun e w' => e = .returned (.bool r) ∧ Below w.heap.size w w' := by
  have hu23 := Tryd.underlying23
  have HB := Aside0.mk (Below.refl w.heap.size w)
  have H : ((larderlaw02_within.f a3 9800).bind fun t101 => ((some (([(48 + (Int.tdiv (Int.tmod a0 100) 10)) % 256, (48 + (Int.tmod a0 10)) % 256, 48 + (((1 + (Int.tmod a1 12)) % 256) / 10), 48 + (((1 + (Int.tmod a1 12)) % 256) % 10), (48 + (Int.tdiv (Int.tmod a2 29) 10)) % 256, (48 + (Int.tmod (Int.tmod a2 29) 10)) % 256] : List Int) : List Int)).bind fun y102 => ((gtin_Day.f k (⟨#[49, 53]⟩ : ByteArray) (strOfNums y102) (wrap64 (100 + t101))).bind fun bt105 => (if bt105.2.2.2 = true then (if bt105.1 < (wrap64 ((wrap64 (100 + t101)) - 49)) then (larderlaw02_GtinSpan.j0 k (wrap64 (100 + t101)) (strOfNums y102) true) else (if bt105.1 > (wrap64 ((wrap64 (100 + t101)) + 50)) then (larderlaw02_GtinSpan.j0 k (wrap64 (100 + t101)) (strOfNums y102) true) else (if (Int.tmod bt105.1 100) = (wrap64 (Int.tmod a0 100)) then (if bt105.2.1 = ((1 + (Int.tmod a1 12)) % 256) then (larderlaw02_GtinSpan.j0 k (wrap64 (100 + t101)) (strOfNums y102) (bt105.2.2.1 != (wrap64 (Int.tmod a2 29)))) else (larderlaw02_GtinSpan.j0 k (wrap64 (100 + t101)) (strOfNums y102) true)) else (larderlaw02_GtinSpan.j0 k (wrap64 (100 + t101)) (strOfNums y102) true)))) else (larderlaw02_GtinSpan.j0 k (wrap64 (100 + t101)) (strOfNums y102) true))))) = some r := h
  clear h
  replace H := Option.bind_eq_some_iff.mp H
  obtain ⟨t101, A50, H⟩ := H
  replace H : ((some (([(48 + (Int.tdiv (Int.tmod a0 100) 10)) % 256, (48 + (Int.tmod a0 10)) % 256, 48 + (((1 + (Int.tmod a1 12)) % 256) / 10), 48 + (((1 + (Int.tmod a1 12)) % 256) % 10), (48 + (Int.tdiv (Int.tmod a2 29) 10)) % 256, (48 + (Int.tmod (Int.tmod a2 29) 10)) % 256] : List Int) : List Int)).bind fun y102 => ((gtin_Day.f k (⟨#[49, 53]⟩ : ByteArray) (strOfNums y102) (wrap64 (100 + t101))).bind fun bt105 => (if bt105.2.2.2 = true then (if bt105.1 < (wrap64 ((wrap64 (100 + t101)) - 49)) then (larderlaw02_GtinSpan.j0 k (wrap64 (100 + t101)) (strOfNums y102) true) else (if bt105.1 > (wrap64 ((wrap64 (100 + t101)) + 50)) then (larderlaw02_GtinSpan.j0 k (wrap64 (100 + t101)) (strOfNums y102) true) else (if (Int.tmod bt105.1 100) = (wrap64 (Int.tmod a0 100)) then (if bt105.2.1 = ((1 + (Int.tmod a1 12)) % 256) then (larderlaw02_GtinSpan.j0 k (wrap64 (100 + t101)) (strOfNums y102) (bt105.2.2.1 != (wrap64 (Int.tmod a2 29)))) else (larderlaw02_GtinSpan.j0 k (wrap64 (100 + t101)) (strOfNums y102) true)) else (larderlaw02_GtinSpan.j0 k (wrap64 (100 + t101)) (strOfNums y102) true)))) else (larderlaw02_GtinSpan.j0 k (wrap64 (100 + t101)) (strOfNums y102) true)))) = some r := H
  have A5 := Aside0.mk A50
  clear A50
  obtain ⟨y102, hy102⟩ : ∃ y_ : List Int, y_ = (([(48 + (Int.tdiv (Int.tmod a0 100) 10)) % 256, (48 + (Int.tmod a0 10)) % 256, 48 + (((1 + (Int.tmod a1 12)) % 256) / 10), 48 + (((1 + (Int.tmod a1 12)) % 256) % 10), (48 + (Int.tdiv (Int.tmod a2 29) 10)) % 256, (48 + (Int.tmod (Int.tmod a2 29) 10)) % 256] : List Int)) := ⟨_, rfl⟩
  replace H : ((gtin_Day.f k (⟨#[49, 53]⟩ : ByteArray) (strOfNums y102) (wrap64 (100 + t101))).bind fun bt105 => (if bt105.2.2.2 = true then (if bt105.1 < (wrap64 ((wrap64 (100 + t101)) - 49)) then (larderlaw02_GtinSpan.j0 k (wrap64 (100 + t101)) (strOfNums y102) true) else (if bt105.1 > (wrap64 ((wrap64 (100 + t101)) + 50)) then (larderlaw02_GtinSpan.j0 k (wrap64 (100 + t101)) (strOfNums y102) true) else (if (Int.tmod bt105.1 100) = (wrap64 (Int.tmod a0 100)) then (if bt105.2.1 = ((1 + (Int.tmod a1 12)) % 256) then (larderlaw02_GtinSpan.j0 k (wrap64 (100 + t101)) (strOfNums y102) (bt105.2.2.1 != (wrap64 (Int.tmod a2 29)))) else (larderlaw02_GtinSpan.j0 k (wrap64 (100 + t101)) (strOfNums y102) true)) else (larderlaw02_GtinSpan.j0 k (wrap64 (100 + t101)) (strOfNums y102) true)))) else (larderlaw02_GtinSpan.j0 k (wrap64 (100 + t101)) (strOfNums y102) true))) = some r := by first | (rw [hy102]; with_reducible exact H) | (have H2_ := (Option.bind_some _ _).symm.trans H; rw [hy102]; with_reducible exact H2_) | (have H2_ := (Option.bind_some _ _).symm.trans H; with_reducible exact H2_) | with_reducible exact H | (rw [hy102]; exact H) | exact H
  have Ny102 := Aside0.mk hy102
  clear hy102
  replace H := Option.bind_eq_some_iff.mp H
  obtain ⟨⟨t105, t106, t107, t108⟩, A60, H⟩ := H
  replace H : (if t108 = true then (if t105 < (wrap64 ((wrap64 (100 + t101)) - 49)) then (larderlaw02_GtinSpan.j0 k (wrap64 (100 + t101)) (strOfNums y102) true) else (if t105 > (wrap64 ((wrap64 (100 + t101)) + 50)) then (larderlaw02_GtinSpan.j0 k (wrap64 (100 + t101)) (strOfNums y102) true) else (if (Int.tmod t105 100) = (wrap64 (Int.tmod a0 100)) then (if t106 = ((1 + (Int.tmod a1 12)) % 256) then (larderlaw02_GtinSpan.j0 k (wrap64 (100 + t101)) (strOfNums y102) (t107 != (wrap64 (Int.tmod a2 29)))) else (larderlaw02_GtinSpan.j0 k (wrap64 (100 + t101)) (strOfNums y102) true)) else (larderlaw02_GtinSpan.j0 k (wrap64 (100 + t101)) (strOfNums y102) true)))) else (larderlaw02_GtinSpan.j0 k (wrap64 (100 + t101)) (strOfNums y102) true)) = some r := H
  have A6 := Aside0.mk A60
  clear A60
  have HC7 := Aside0.mk H
  clear H
  go_enter Tryd.func7, Tryd.ntmps7
  go_upto_region 7 with (first | ((with_reducible refine gate_callee (f := 18) rfl ?_); refine goesL_ (some 25) rfl rfl Tryd.func18 (by kernel_rfl) rfl #[.int .i64 a3, .int .i64 9800] rfl (by (try simp only [List.map_toArray, List.map_cons, List.map_nil]); first | done | rfl | (simp only [List.length_drop, List.length_take]; rfl)) ?_; (with_reducible refine (larderlaw02_within.calls a3 9800 t101 _ A5.out).mono ?_); rintro e w' ⟨rfl, ⟨nd, rfl⟩⟩; refine ⟨_, rfl, ?_⟩) | ((with_reducible refine gate_dst (N := 45) rfl ?_); refine Kd.R_lit (Kd.int .u8) _ 5 ?hg (N := 45) ?hd (xs := ([(48 + (Int.tdiv (Int.tmod a0 100) 10)) % 256, (48 + (Int.tmod a0 10)) % 256, 48 + (((1 + (Int.tmod a1 12)) % 256) / 10), 48 + (((1 + (Int.tmod a1 12)) % 256) % 10), (48 + (Int.tdiv (Int.tmod a2 29) 10)) % 256, (48 + (Int.tmod (Int.tmod a2 29) 10)) % 256] : List Int)) (inner := [.int .u8 ((48 + (Int.tdiv (Int.tmod a0 100) 10)) % 256), .int .u8 ((48 + (Int.tmod a0 10)) % 256), .int .u8 (48 + (((1 + (Int.tmod a1 12)) % 256) / 10)), .int .u8 (48 + (((1 + (Int.tmod a1 12)) % 256) % 10)), .int .u8 ((48 + (Int.tdiv (Int.tmod a2 29) 10)) % 256), .int .u8 ((48 + (Int.tmod (Int.tmod a2 29) 10)) % 256)]) (ok := fun _ => True) (okp := fun _ => True) ?hr ?hp (fun _ hk => hk) trivial (Below.refl _ _) (Nat.le_refl _) (by simp) ?_; (case hd => rfl); (case hg => rfl); (case hr => first | (go_simp; done) | (go_simp; rfl)); (case hp => exact (Reps.one (show Kd.M (Kd.int .u8) _ _ _ ((48 + (Int.tdiv (Int.tmod a0 100) 10)) % 256) [.int .u8 ((48 + (Int.tdiv (Int.tmod a0 100) 10)) % 256)] from rfl) (Reps.one (show Kd.M (Kd.int .u8) _ _ _ ((48 + (Int.tmod a0 10)) % 256) [.int .u8 ((48 + (Int.tmod a0 10)) % 256)] from rfl) (Reps.one (show Kd.M (Kd.int .u8) _ _ _ (48 + (((1 + (Int.tmod a1 12)) % 256) / 10)) [.int .u8 (48 + (((1 + (Int.tmod a1 12)) % 256) / 10))] from rfl) (Reps.one (show Kd.M (Kd.int .u8) _ _ _ (48 + (((1 + (Int.tmod a1 12)) % 256) % 10)) [.int .u8 (48 + (((1 + (Int.tmod a1 12)) % 256) % 10))] from rfl) (Reps.one (show Kd.M (Kd.int .u8) _ _ _ ((48 + (Int.tdiv (Int.tmod a2 29) 10)) % 256) [.int .u8 ((48 + (Int.tdiv (Int.tmod a2 29) 10)) % 256)] from rfl) (Reps.one (show Kd.M (Kd.int .u8) _ _ _ ((48 + (Int.tmod (Int.tmod a2 29) 10)) % 256) [.int .u8 ((48 + (Int.tmod (Int.tmod a2 29) 10)) % 256)] from rfl) (Reps.none _ _)))))))); intro v103 w8 ho9 hb hg_ hnew_; clear hg_ hnew_; (first | rw [← Ny102.out] at ho9 | (simp only [Int.reduceToNat] at ho9; rw [← Ny102.out] at ho9)); have n0_ := Aside0.mk (Kd.R_lower ho9 (below_size (by repeat (first | (with_reducible first | exact HB.out | apply below_alloc | apply pw_below_drewN | apply below_drew1) | exact HB.out)))); have n1_ := Aside0.mk (below_step (by repeat (first | (with_reducible first | exact HB.out | apply below_alloc | apply pw_below_drewN | apply below_drew1) | exact HB.out)) hb); clear HB; have HO104 := n0_; have HB := n1_; clear n0_ n1_; clear hb ho9; have hcv10 := own_string (P := Tryd.prog) Tryd.underlying37 Tryd.underlying5 Tryd.underlying9 (Kd.own_of_R HO104.out)) | ((with_reducible refine gate_callee (f := 9) rfl ?_); refine goesL_ (some 51) rfl rfl Tryd.func9 (by kernel_rfl) rfl #[.agg #[.string (⟨#[49, 53]⟩ : ByteArray), .string (strOfNums y102)], .int .i64 (wrap64 (100 + t101))] rfl (by (try simp only [List.map_toArray, List.map_cons, List.map_nil]); first | done | rfl | (simp only [List.length_drop, List.length_take]; rfl)) ?_; (with_reducible refine (gtin_Day.calls k (⟨#[49, 53]⟩ : ByteArray) (strOfNums y102) (wrap64 (100 + t101)) t105 t106 t107 t108 _ (by first | exact HT_ | exact ⟨Tab.below HT_.out HB.out⟩ | (constructor; repeat (first | exact HT_.out | exact Tab.below HT_.out HB.out | apply Tab.drewN | apply Tab.alloc))) A6.out).mono ?_); rintro e w11 ⟨rfl, hb⟩; refine ⟨_, rfl, ?_⟩; have n0_ := Aside0.mk (Kd.R_below (by (with_reducible repeat (first | apply Kd.R_alloc | apply Kd.R_drewN | apply Kd.R_drew)); exact HO104.out) hb); have n1_ := Aside0.mk (below_step (by repeat (first | (with_reducible first | exact HB.out | apply below_alloc | apply pw_below_drewN | apply below_drew1) | exact HB.out)) hb); clear HO104; clear HB; have HO104 := n0_; have HB := n1_; clear n0_ n1_; (try clear hb); (try clear hb2); (try clear hk); (try clear hi)))
  (try simp only [Act.put, List.setIfInBounds_toArray, List.set_cons_zero, List.set_cons_succ])
  go_cut [88] (fun v88 wc => ∃ (kq : Nat) (x88_6 : Bool), v88 = .bool x88_6 ∧ Aside0 (larderlaw02_GtinSpan.j0 kq (wrap64 (100 + t101)) (strOfNums y102) x88_6 = some r) ∧ Aside0 (kq ≤ k) ∧ Aside0 (Below w.heap.size w wc))
  case first =>
    have H := HC7.out
    clear HC7
    by_cases c12 : t108 = true
    · subst c12
      have H1 : (if t105 < (wrap64 ((wrap64 (100 + t101)) - 49)) then (larderlaw02_GtinSpan.j0 k (wrap64 (100 + t101)) (strOfNums y102) true) else (if t105 > (wrap64 ((wrap64 (100 + t101)) + 50)) then (larderlaw02_GtinSpan.j0 k (wrap64 (100 + t101)) (strOfNums y102) true) else (if (Int.tmod t105 100) = (wrap64 (Int.tmod a0 100)) then (if t106 = ((1 + (Int.tmod a1 12)) % 256) then (larderlaw02_GtinSpan.j0 k (wrap64 (100 + t101)) (strOfNums y102) (t107 != (wrap64 (Int.tmod a2 29)))) else (larderlaw02_GtinSpan.j0 k (wrap64 (100 + t101)) (strOfNums y102) true)) else (larderlaw02_GtinSpan.j0 k (wrap64 (100 + t101)) (strOfNums y102) true)))) = some r := by rw [if_pos rfl] at H; exact H
      clear H
      have H := H1
      clear H1
      by_cases c13 : t105 < (wrap64 ((wrap64 (100 + t101)) - 49))
      · rw [if_pos c13] at H
        have c13b0 : decide (t105 < (wrap64 ((wrap64 (100 + t101)) - 49))) = true := decide_eq_true c13
        clear c13
        (first | rw [c13b0] | (simp only [i64_w, i32_w]; rw [c13b0]) | skip)
        have H' := Aside0.mk H
        clear H
        go_wp2
        go_meet
        case rel => exact ⟨_, (true), (by first | rfl | (simp; done) | (simp [*]; done)), H', ⟨by first | omega | exact Nat.le_refl _⟩, ⟨by repeat (first | (with_reducible first | exact HB.out | apply below_alloc | apply pw_below_drewN | apply below_drew1) | exact HB.out)⟩⟩
      · rw [if_neg c13] at H
        have c13b0 : decide (t105 < (wrap64 ((wrap64 (100 + t101)) - 49))) = false := decide_eq_false c13
        clear c13
        (first | rw [c13b0] | (simp only [i64_w, i32_w]; rw [c13b0]) | skip)
        by_cases c14 : t105 > (wrap64 ((wrap64 (100 + t101)) + 50))
        · rw [if_pos c14] at H
          have c14b0 : decide ((wrap64 ((wrap64 (100 + t101)) + 50)) < t105) = true := decide_eq_true c14
          clear c14
          have H' := Aside0.mk H
          clear H
          go_wp2
          go_meet
          case rel => exact ⟨_, (true), (by first | rfl | (simp; done) | (simp [*]; done)), H', ⟨by first | omega | exact Nat.le_refl _⟩, ⟨by repeat (first | (with_reducible first | exact HB.out | apply below_alloc | apply pw_below_drewN | apply below_drew1) | exact HB.out)⟩⟩
        · rw [if_neg c14] at H
          have c14b0 : decide ((wrap64 ((wrap64 (100 + t101)) + 50)) < t105) = false := decide_eq_false c14
          clear c14
          by_cases c15 : (Int.tmod t105 100) = (wrap64 (Int.tmod a0 100))
          · rw [if_pos c15] at H
            have c15b0 : ((Int.tmod t105 100) == (wrap64 (Int.tmod a0 100))) = true := beq_iff_eq.mpr c15
            have c15b1 : ((Int.tmod t105 100) != (wrap64 (Int.tmod a0 100))) = false := bne_eq_false_iff_eq.mpr c15
            clear c15
            by_cases c16 : t106 = ((1 + (Int.tmod a1 12)) % 256)
            · rw [if_pos c16] at H
              have c16b0 : (t106 == ((1 + (Int.tmod a1 12)) % 256)) = true := beq_iff_eq.mpr c16
              have c16b1 : (t106 != ((1 + (Int.tmod a1 12)) % 256)) = false := bne_eq_false_iff_eq.mpr c16
              clear c16
              have H' := Aside0.mk H
              clear H
              go_wp2
              go_meet
              case rel => exact ⟨_, ((t107 != (wrap64 (Int.tmod a2 29)))), (by first | rfl | (simp; done) | (simp [*]; done)), H', ⟨by first | omega | exact Nat.le_refl _⟩, ⟨by repeat (first | (with_reducible first | exact HB.out | apply below_alloc | apply pw_below_drewN | apply below_drew1) | exact HB.out)⟩⟩
            · rw [if_neg c16] at H
              have c16b0 : (t106 == ((1 + (Int.tmod a1 12)) % 256)) = false := beq_eq_false_iff_ne.mpr c16
              have c16b1 : (t106 != ((1 + (Int.tmod a1 12)) % 256)) = true := bne_iff_ne.mpr c16
              have H' := Aside0.mk H
              clear H
              go_wp2
              go_meet
              case rel => exact ⟨_, (true), (by first | rfl | (simp; done) | (simp [*]; done)), H', ⟨by first | omega | exact Nat.le_refl _⟩, ⟨by repeat (first | (with_reducible first | exact HB.out | apply below_alloc | apply pw_below_drewN | apply below_drew1) | exact HB.out)⟩⟩
          · rw [if_neg c15] at H
            have c15b0 : ((Int.tmod t105 100) == (wrap64 (Int.tmod a0 100))) = false := beq_eq_false_iff_ne.mpr c15
            have c15b1 : ((Int.tmod t105 100) != (wrap64 (Int.tmod a0 100))) = true := bne_iff_ne.mpr c15
            have H' := Aside0.mk H
            clear H
            go_wp2
            go_meet
            case rel => exact ⟨_, (true), (by first | rfl | (simp; done) | (simp [*]; done)), H', ⟨by first | omega | exact Nat.le_refl _⟩, ⟨by repeat (first | (with_reducible first | exact HB.out | apply below_alloc | apply pw_below_drewN | apply below_drew1) | exact HB.out)⟩⟩
    · replace c12 := Bool.eq_false_iff.mpr c12
      subst c12
      have H1 : (larderlaw02_GtinSpan.j0 k (wrap64 (100 + t101)) (strOfNums y102) true) = some r := by rw [if_neg (show ¬ (false = true) by decide)] at H; exact H
      clear H
      have H := H1
      clear H1
      have H' := Aside0.mk H
      clear H
      go_wp2
      go_meet
      case rel => exact ⟨_, (true), (by first | rfl | (simp; done) | (simp [*]; done)), H', ⟨by first | omega | exact Nat.le_refl _⟩, ⟨by repeat (first | (with_reducible first | exact HB.out | apply below_alloc | apply pw_below_drewN | apply below_drew1) | exact HB.out)⟩⟩
  case rest =>
    clear HC7
    try clear c1
    try clear hcv1
    try clear p2
    try clear p6
    try clear c7
    try clear c9
    try clear hcv10
    try clear c12
    try clear c13
    try clear c13b0
    try clear c14
    try clear c14b0
    try clear c15
    try clear c15b0
    try clear c15b1
    try clear c16
    try clear c16b0
    try clear c16b1
    obtain ⟨kq, x88_6, rfl, HA, HJ6, HB⟩ := hcut
    cases kq with
    | zero => exact absurd HA.out (by simp [larderlaw02_GtinSpan.j0])
    | succ kj6 =>
      have H := HA.out
      clear HA
      simp only [larderlaw02_GtinSpan.j0] at H
      by_cases c17 : x88_6 = true
      · subst c17
        have H1 : (some false) = some r := by rw [if_pos rfl] at H; exact H
        clear H
        have H := H1
        clear H1
        obtain rfl := Option.some.inj H
        go_wp2
        go_ret
        exact ⟨by first | rfl | (simp [errW_none, errW_some] <;> rfl) | (simp [*, errW_none, errW_some] <;> rfl), by repeat (first | (with_reducible first | exact HB.out | apply below_alloc | apply pw_below_drewN | apply below_drew1) | exact HB.out)⟩
      · replace c17 := Bool.eq_false_iff.mpr c17
        subst c17
        have H1 : ((gtin_Day.f kj6 (⟨#[49, 48]⟩ : ByteArray) (strOfNums y102) (wrap64 (100 + t101))).bind fun bt109 => ((larderlaw02_with.f (strOfNums y102) 2 49).bind fun t113 => ((larderlaw02_with.f t113 3 51).bind fun t114 => (if 2 + t114.size ≤ 9223372036854775807 then ((gtin_Parse.f ((⟨#[49, 53]⟩ : ByteArray) ++ t114)).bind fun bt115 => (if bt109.2.2.2 = true then (some false) else (if bt115.2.1 = 28 then (some (bt115.2.2 == 2)) else (some false)))) else (none))))) = some r := by rw [if_neg (show ¬ (false = true) by decide)] at H; exact H
        clear H
        have H := H1
        clear H1
        replace H := Option.bind_eq_some_iff.mp H
        obtain ⟨⟨t109, t110, t111, t112⟩, A180, H⟩ := H
        replace H : ((larderlaw02_with.f (strOfNums y102) 2 49).bind fun t113 => ((larderlaw02_with.f t113 3 51).bind fun t114 => (if 2 + t114.size ≤ 9223372036854775807 then ((gtin_Parse.f ((⟨#[49, 53]⟩ : ByteArray) ++ t114)).bind fun bt115 => (if t112 = true then (some false) else (if bt115.2.1 = 28 then (some (bt115.2.2 == 2)) else (some false)))) else (none)))) = some r := H
        have A18 := Aside0.mk A180
        clear A180
        replace H := Option.bind_eq_some_iff.mp H
        obtain ⟨t113, A190, H⟩ := H
        replace H : ((larderlaw02_with.f t113 3 51).bind fun t114 => (if 2 + t114.size ≤ 9223372036854775807 then ((gtin_Parse.f ((⟨#[49, 53]⟩ : ByteArray) ++ t114)).bind fun bt115 => (if t112 = true then (some false) else (if bt115.2.1 = 28 then (some (bt115.2.2 == 2)) else (some false)))) else (none))) = some r := H
        have A19 := Aside0.mk A190
        clear A190
        replace H := Option.bind_eq_some_iff.mp H
        obtain ⟨t114, A200, H⟩ := H
        replace H : (if 2 + t114.size ≤ 9223372036854775807 then ((gtin_Parse.f ((⟨#[49, 53]⟩ : ByteArray) ++ t114)).bind fun bt115 => (if t112 = true then (some false) else (if bt115.2.1 = 28 then (some (bt115.2.2 == 2)) else (some false)))) else (none)) = some r := H
        have A20 := Aside0.mk A200
        clear A200
        by_cases c21 : 2 + t114.size ≤ 9223372036854775807
        · rw [if_pos c21] at H
          have c21b0 := eq_true c21
          have c21b1 : decide (2 + t114.size ≤ 9223372036854775807) = true := decide_eq_true c21
          try have c21b2 : (9223372036854775807 < 2 + t114.size) = False := eq_false (Nat.not_lt.2 c21)
          replace H := Option.bind_eq_some_iff.mp H
          obtain ⟨⟨t115, t116, t117⟩, A220, H⟩ := H
          replace H : (if t112 = true then (some false) else (if t116 = 28 then (some (t117 == 2)) else (some false))) = some r := H
          have A22 := Aside0.mk A220
          clear A220
          by_cases c23 : t112 = true
          · subst c23
            have H1 : (some false) = some r := by rw [if_pos rfl] at H; exact H
            clear H
            have H := H1
            clear H1
            obtain rfl := Option.some.inj H
            go_wp2_with (first | ((with_reducible refine gate_callee (f := 9) rfl ?_); refine goesL_ (some 93) rfl rfl Tryd.func9 (by kernel_rfl) rfl #[.agg #[.string (⟨#[49, 48]⟩ : ByteArray), .string (strOfNums y102)], .int .i64 (wrap64 (100 + t101))] rfl (by (try simp only [List.map_toArray, List.map_cons, List.map_nil]); first | done | rfl | (simp only [List.length_drop, List.length_take]; rfl)) ?_; (with_reducible refine (gtin_Day.calls kj6 (⟨#[49, 48]⟩ : ByteArray) (strOfNums y102) (wrap64 (100 + t101)) t109 t110 t111 true _ (by first | exact HT_ | exact ⟨Tab.below HT_.out HB.out⟩ | (constructor; repeat (first | exact HT_.out | exact Tab.below HT_.out HB.out | apply Tab.drewN | apply Tab.alloc))) A18.out).mono ?_); rintro e w24 ⟨rfl, hb⟩; refine ⟨_, rfl, ?_⟩; have n0_ := Aside0.mk (below_step (by repeat (first | (with_reducible first | exact HB.out | apply below_alloc | apply pw_below_drewN | apply below_drew1) | exact HB.out)) hb); clear HB; have HB := n0_; clear n0_; (try clear hb); (try clear hb2); (try clear hk); (try clear hi)) | ((with_reducible refine gate_callee (f := 19) rfl ?_); refine goesL_ (some 100) rfl rfl Tryd.func19 (by kernel_rfl) rfl #[.string (strOfNums y102), .int .i64 2, .int .u8 49] rfl (by (try simp only [List.map_toArray, List.map_cons, List.map_nil]); first | done | rfl | (simp only [List.length_drop, List.length_take]; rfl)) ?_; (with_reducible refine (larderlaw02_with.calls (strOfNums y102) 2 49 t113 _ A19.out).mono ?_); rintro e w25 ⟨rfl, hb⟩; refine ⟨_, rfl, ?_⟩; have n0_ := Aside0.mk (below_step (by repeat (first | (with_reducible first | exact HB.out | apply below_alloc | apply pw_below_drewN | apply below_drew1) | exact HB.out)) hb); clear HB; have HB := n0_; clear n0_; (try clear hb); (try clear hb2); (try clear hk); (try clear hi)) | ((with_reducible refine gate_callee (f := 19) rfl ?_); refine goesL_ (some 101) rfl rfl Tryd.func19 (by kernel_rfl) rfl #[.string t113, .int .i64 3, .int .u8 51] rfl (by (try simp only [List.map_toArray, List.map_cons, List.map_nil]); first | done | rfl | (simp only [List.length_drop, List.length_take]; rfl)) ?_; (with_reducible refine (larderlaw02_with.calls t113 3 51 t114 _ A20.out).mono ?_); rintro e w26 ⟨rfl, hb⟩; refine ⟨_, rfl, ?_⟩; have n0_ := Aside0.mk (below_step (by repeat (first | (with_reducible first | exact HB.out | apply below_alloc | apply pw_below_drewN | apply below_drew1) | exact HB.out)) hb); clear HB; have HB := n0_; clear n0_; (try clear hb); (try clear hb2); (try clear hk); (try clear hi)) | ((with_reducible refine gate_callee (f := 16) rfl ?_); refine goesL_ (some 103) rfl rfl Tryd.func16 (by kernel_rfl) rfl #[.string ((⟨#[49, 53]⟩ : ByteArray) ++ t114)] rfl (by (try simp only [List.map_toArray, List.map_cons, List.map_nil]); first | done | rfl | (simp only [List.length_drop, List.length_take]; rfl)) ?_; (with_reducible refine (gtin_Parse.calls ((⟨#[49, 53]⟩ : ByteArray) ++ t114) t115 t116 t117 _ (by first | exact HT_ | exact ⟨Tab.below HT_.out HB.out⟩ | (constructor; repeat (first | exact HT_.out | exact Tab.below HT_.out HB.out | apply Tab.drewN | apply Tab.alloc))) A22.out).mono ?_); rintro e w27 ⟨v118, rfl, ho0, hb⟩; refine ⟨_, rfl, ?_⟩; have n0_ := Aside0.mk (Kd.R_lower ho0 (below_size (by repeat (first | (with_reducible first | exact HB.out | apply below_alloc | apply pw_below_drewN | apply below_drew1) | exact HB.out)))); have n1_ := Aside0.mk (below_step (by repeat (first | (with_reducible first | exact HB.out | apply below_alloc | apply pw_below_drewN | apply below_drew1) | exact HB.out)) hb); clear HB; have HO119 := n0_; have HB := n1_; clear n0_ n1_; (try clear hb); (try clear hb2); (try clear hk); (try clear hi); (try clear ho0)))
            go_ret
            exact ⟨by first | rfl | (simp [errW_none, errW_some] <;> rfl) | (simp [*, errW_none, errW_some] <;> rfl), by repeat (first | (with_reducible first | exact HB.out | apply below_alloc | apply pw_below_drewN | apply below_drew1) | exact HB.out)⟩
          · replace c23 := Bool.eq_false_iff.mpr c23
            subst c23
            have H1 : (if t116 = 28 then (some (t117 == 2)) else (some false)) = some r := by rw [if_neg (show ¬ (false = true) by decide)] at H; exact H
            clear H
            have H := H1
            clear H1
            by_cases c28 : t116 = 28
            · rw [if_pos c28] at H
              have c28b0 : (t116 == 28) = true := beq_iff_eq.mpr c28
              have c28b1 : (t116 != 28) = false := bne_eq_false_iff_eq.mpr c28
              clear c28
              obtain rfl := Option.some.inj H
              go_wp2_with (first | ((with_reducible refine gate_callee (f := 9) rfl ?_); refine goesL_ (some 93) rfl rfl Tryd.func9 (by kernel_rfl) rfl #[.agg #[.string (⟨#[49, 48]⟩ : ByteArray), .string (strOfNums y102)], .int .i64 (wrap64 (100 + t101))] rfl (by (try simp only [List.map_toArray, List.map_cons, List.map_nil]); first | done | rfl | (simp only [List.length_drop, List.length_take]; rfl)) ?_; (with_reducible refine (gtin_Day.calls kj6 (⟨#[49, 48]⟩ : ByteArray) (strOfNums y102) (wrap64 (100 + t101)) t109 t110 t111 false _ (by first | exact HT_ | exact ⟨Tab.below HT_.out HB.out⟩ | (constructor; repeat (first | exact HT_.out | exact Tab.below HT_.out HB.out | apply Tab.drewN | apply Tab.alloc))) A18.out).mono ?_); rintro e w29 ⟨rfl, hb⟩; refine ⟨_, rfl, ?_⟩; have n0_ := Aside0.mk (below_step (by repeat (first | (with_reducible first | exact HB.out | apply below_alloc | apply pw_below_drewN | apply below_drew1) | exact HB.out)) hb); clear HB; have HB := n0_; clear n0_; (try clear hb); (try clear hb2); (try clear hk); (try clear hi)) | ((with_reducible refine gate_callee (f := 19) rfl ?_); refine goesL_ (some 100) rfl rfl Tryd.func19 (by kernel_rfl) rfl #[.string (strOfNums y102), .int .i64 2, .int .u8 49] rfl (by (try simp only [List.map_toArray, List.map_cons, List.map_nil]); first | done | rfl | (simp only [List.length_drop, List.length_take]; rfl)) ?_; (with_reducible refine (larderlaw02_with.calls (strOfNums y102) 2 49 t113 _ A19.out).mono ?_); rintro e w30 ⟨rfl, hb⟩; refine ⟨_, rfl, ?_⟩; have n0_ := Aside0.mk (below_step (by repeat (first | (with_reducible first | exact HB.out | apply below_alloc | apply pw_below_drewN | apply below_drew1) | exact HB.out)) hb); clear HB; have HB := n0_; clear n0_; (try clear hb); (try clear hb2); (try clear hk); (try clear hi)) | ((with_reducible refine gate_callee (f := 19) rfl ?_); refine goesL_ (some 101) rfl rfl Tryd.func19 (by kernel_rfl) rfl #[.string t113, .int .i64 3, .int .u8 51] rfl (by (try simp only [List.map_toArray, List.map_cons, List.map_nil]); first | done | rfl | (simp only [List.length_drop, List.length_take]; rfl)) ?_; (with_reducible refine (larderlaw02_with.calls t113 3 51 t114 _ A20.out).mono ?_); rintro e w31 ⟨rfl, hb⟩; refine ⟨_, rfl, ?_⟩; have n0_ := Aside0.mk (below_step (by repeat (first | (with_reducible first | exact HB.out | apply below_alloc | apply pw_below_drewN | apply below_drew1) | exact HB.out)) hb); clear HB; have HB := n0_; clear n0_; (try clear hb); (try clear hb2); (try clear hk); (try clear hi)) | ((with_reducible refine gate_callee (f := 16) rfl ?_); refine goesL_ (some 103) rfl rfl Tryd.func16 (by kernel_rfl) rfl #[.string ((⟨#[49, 53]⟩ : ByteArray) ++ t114)] rfl (by (try simp only [List.map_toArray, List.map_cons, List.map_nil]); first | done | rfl | (simp only [List.length_drop, List.length_take]; rfl)) ?_; (with_reducible refine (gtin_Parse.calls ((⟨#[49, 53]⟩ : ByteArray) ++ t114) t115 t116 t117 _ (by first | exact HT_ | exact ⟨Tab.below HT_.out HB.out⟩ | (constructor; repeat (first | exact HT_.out | exact Tab.below HT_.out HB.out | apply Tab.drewN | apply Tab.alloc))) A22.out).mono ?_); rintro e w32 ⟨v118, rfl, ho0, hb⟩; refine ⟨_, rfl, ?_⟩; have n0_ := Aside0.mk (Kd.R_lower ho0 (below_size (by repeat (first | (with_reducible first | exact HB.out | apply below_alloc | apply pw_below_drewN | apply below_drew1) | exact HB.out)))); have n1_ := Aside0.mk (below_step (by repeat (first | (with_reducible first | exact HB.out | apply below_alloc | apply pw_below_drewN | apply below_drew1) | exact HB.out)) hb); clear HB; have HO119 := n0_; have HB := n1_; clear n0_ n1_; (try clear hb); (try clear hb2); (try clear hk); (try clear hi); (try clear ho0)))
              go_ret
              exact ⟨by first | rfl | (simp [errW_none, errW_some] <;> rfl) | (simp [*, errW_none, errW_some] <;> rfl), by repeat (first | (with_reducible first | exact HB.out | apply below_alloc | apply pw_below_drewN | apply below_drew1) | exact HB.out)⟩
            · rw [if_neg c28] at H
              have c28b0 : (t116 == 28) = false := beq_eq_false_iff_ne.mpr c28
              have c28b1 : (t116 != 28) = true := bne_iff_ne.mpr c28
              obtain rfl := Option.some.inj H
              go_wp2_with (first | ((with_reducible refine gate_callee (f := 9) rfl ?_); refine goesL_ (some 93) rfl rfl Tryd.func9 (by kernel_rfl) rfl #[.agg #[.string (⟨#[49, 48]⟩ : ByteArray), .string (strOfNums y102)], .int .i64 (wrap64 (100 + t101))] rfl (by (try simp only [List.map_toArray, List.map_cons, List.map_nil]); first | done | rfl | (simp only [List.length_drop, List.length_take]; rfl)) ?_; (with_reducible refine (gtin_Day.calls kj6 (⟨#[49, 48]⟩ : ByteArray) (strOfNums y102) (wrap64 (100 + t101)) t109 t110 t111 false _ (by first | exact HT_ | exact ⟨Tab.below HT_.out HB.out⟩ | (constructor; repeat (first | exact HT_.out | exact Tab.below HT_.out HB.out | apply Tab.drewN | apply Tab.alloc))) A18.out).mono ?_); rintro e w33 ⟨rfl, hb⟩; refine ⟨_, rfl, ?_⟩; have n0_ := Aside0.mk (below_step (by repeat (first | (with_reducible first | exact HB.out | apply below_alloc | apply pw_below_drewN | apply below_drew1) | exact HB.out)) hb); clear HB; have HB := n0_; clear n0_; (try clear hb); (try clear hb2); (try clear hk); (try clear hi)) | ((with_reducible refine gate_callee (f := 19) rfl ?_); refine goesL_ (some 100) rfl rfl Tryd.func19 (by kernel_rfl) rfl #[.string (strOfNums y102), .int .i64 2, .int .u8 49] rfl (by (try simp only [List.map_toArray, List.map_cons, List.map_nil]); first | done | rfl | (simp only [List.length_drop, List.length_take]; rfl)) ?_; (with_reducible refine (larderlaw02_with.calls (strOfNums y102) 2 49 t113 _ A19.out).mono ?_); rintro e w34 ⟨rfl, hb⟩; refine ⟨_, rfl, ?_⟩; have n0_ := Aside0.mk (below_step (by repeat (first | (with_reducible first | exact HB.out | apply below_alloc | apply pw_below_drewN | apply below_drew1) | exact HB.out)) hb); clear HB; have HB := n0_; clear n0_; (try clear hb); (try clear hb2); (try clear hk); (try clear hi)) | ((with_reducible refine gate_callee (f := 19) rfl ?_); refine goesL_ (some 101) rfl rfl Tryd.func19 (by kernel_rfl) rfl #[.string t113, .int .i64 3, .int .u8 51] rfl (by (try simp only [List.map_toArray, List.map_cons, List.map_nil]); first | done | rfl | (simp only [List.length_drop, List.length_take]; rfl)) ?_; (with_reducible refine (larderlaw02_with.calls t113 3 51 t114 _ A20.out).mono ?_); rintro e w35 ⟨rfl, hb⟩; refine ⟨_, rfl, ?_⟩; have n0_ := Aside0.mk (below_step (by repeat (first | (with_reducible first | exact HB.out | apply below_alloc | apply pw_below_drewN | apply below_drew1) | exact HB.out)) hb); clear HB; have HB := n0_; clear n0_; (try clear hb); (try clear hb2); (try clear hk); (try clear hi)) | ((with_reducible refine gate_callee (f := 16) rfl ?_); refine goesL_ (some 103) rfl rfl Tryd.func16 (by kernel_rfl) rfl #[.string ((⟨#[49, 53]⟩ : ByteArray) ++ t114)] rfl (by (try simp only [List.map_toArray, List.map_cons, List.map_nil]); first | done | rfl | (simp only [List.length_drop, List.length_take]; rfl)) ?_; (with_reducible refine (gtin_Parse.calls ((⟨#[49, 53]⟩ : ByteArray) ++ t114) t115 t116 t117 _ (by first | exact HT_ | exact ⟨Tab.below HT_.out HB.out⟩ | (constructor; repeat (first | exact HT_.out | exact Tab.below HT_.out HB.out | apply Tab.drewN | apply Tab.alloc))) A22.out).mono ?_); rintro e w36 ⟨v118, rfl, ho0, hb⟩; refine ⟨_, rfl, ?_⟩; have n0_ := Aside0.mk (Kd.R_lower ho0 (below_size (by repeat (first | (with_reducible first | exact HB.out | apply below_alloc | apply pw_below_drewN | apply below_drew1) | exact HB.out)))); have n1_ := Aside0.mk (below_step (by repeat (first | (with_reducible first | exact HB.out | apply below_alloc | apply pw_below_drewN | apply below_drew1) | exact HB.out)) hb); clear HB; have HO119 := n0_; have HB := n1_; clear n0_ n1_; (try clear hb); (try clear hb2); (try clear hk); (try clear hi); (try clear ho0)))
              go_ret
              exact ⟨by first | rfl | (simp [errW_none, errW_some] <;> rfl) | (simp [*, errW_none, errW_some] <;> rfl), by repeat (first | (with_reducible first | exact HB.out | apply below_alloc | apply pw_below_drewN | apply below_drew1) | exact HB.out)⟩
        · rw [if_neg c21] at H
          exact absurd H (by simp)

end Go.Proofs.YtofagdjijpjlgaaDoor.PSpan
-- written by xprint.py (a program of this work's own, over the kit's printer) out of the translation
namespace Go.Proofs.YtofagdjijpjlgaaDoor.PSpan
open Go.RowKit Go.Proofs.YtofagdjijpjlgaaDoorW.PrintWords Go.Proofs.YtofagdjijpjlgaaDoorW.PrintLast Go.Proofs.YtofagdjijpjlgaaDoorW.PrintMore Go.Proofs.YtofagdjijpjlgaaDoor.X Go.Proofs.YtofagdjijpjlgaaDoor.PBase Go.Proofs.YtofagdjijpjlgaaDoor.PDays
attribute [local go_sem] max2_int min2_int max_two min_two max_three min_three max_four min_four   -- for this text's walks alone
set_option linter.unusedVariables false
set_option linter.unusedSimpArgs false

end Go.Proofs.YtofagdjijpjlgaaDoor.PSpan
