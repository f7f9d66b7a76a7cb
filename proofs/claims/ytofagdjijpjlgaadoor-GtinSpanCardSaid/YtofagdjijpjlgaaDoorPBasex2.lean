-- written by xprint.py (a program of this work's own, over the kit's printer) out of the translation
import Derived.Test.YtofagdjijpjlgaaDoorPBasex0
namespace Go.Proofs.YtofagdjijpjlgaaDoor.PBase
open Go.RowKit Go.Proofs.YtofagdjijpjlgaaDoorW.PrintWords Go.Proofs.YtofagdjijpjlgaaDoorW.PrintLast Go.Proofs.YtofagdjijpjlgaaDoorW.PrintMore Go.Proofs.YtofagdjijpjlgaaDoor.X
attribute [local go_sem] max2_int min2_int max_two min_two max_three min_three max_four min_four   -- for this text's walks alone
set_option linter.unusedVariables false
set_option linter.unusedSimpArgs false

/-! ### larderref02_kindOf: function 27 -/
mutual
def larderref02_kindOf.j0 : Nat → ByteArray → Bool → Option (Bool × Bool × Int × Int × Bool × Bool × Bool × Bool)
  | 0, _, _ => none
  | k + 1, x4, x8 => if x8 = true then (some (true, true, 14, 14, true, false, false, true)) else (if x4.toList = ([49, 48] : List UInt8) then (larderref02_kindOf.j1 k x4 (x4.toList == ([49, 48] : List UInt8))) else (if x4.toList = ([50, 49] : List UInt8) then (larderref02_kindOf.j1 k x4 (x4.toList == ([50, 49] : List UInt8))) else (larderref02_kindOf.j1 k x4 (x4.toList == ([52, 50, 48] : List UInt8)))))
def larderref02_kindOf.j1 : Nat → ByteArray → Bool → Option (Bool × Bool × Int × Int × Bool × Bool × Bool × Bool)
  | 0, _, _ => none
  | k + 1, x4, x12 => if x12 = true then (some (false, false, 1, 20, false, false, false, true)) else (if x4.toList = ([49, 49] : List UInt8) then (larderref02_kindOf.j2 k x4 (x4.toList == ([49, 49] : List UInt8))) else (if x4.toList = ([49, 51] : List UInt8) then (larderref02_kindOf.j2 k x4 (x4.toList == ([49, 51] : List UInt8))) else (if x4.toList = ([49, 53] : List UInt8) then (larderref02_kindOf.j2 k x4 (x4.toList == ([49, 53] : List UInt8))) else (larderref02_kindOf.j2 k x4 (x4.toList == ([49, 55] : List UInt8))))))
def larderref02_kindOf.j2 : Nat → ByteArray → Bool → Option (Bool × Bool × Int × Int × Bool × Bool × Bool × Bool)
  | 0, _, _ => none
  | k + 1, x4, x17 => if x17 = true then (some (true, true, 6, 6, false, true, false, true)) else (if x4.toList = ([50, 48] : List UInt8) then (some (true, true, 2, 2, false, false, false, true)) else (if x4.toList = ([51, 48] : List UInt8) then (larderref02_kindOf.j3 k x4 (x4.toList == ([51, 48] : List UInt8))) else (larderref02_kindOf.j3 k x4 (x4.toList == ([51, 55] : List UInt8)))))
def larderref02_kindOf.j3 : Nat → ByteArray → Bool → Option (Bool × Bool × Int × Int × Bool × Bool × Bool × Bool)
  | 0, _, _ => none
  | k + 1, x4, x26 => if x26 = true then (some (false, true, 1, 8, false, false, false, true)) else (if x4.toList = ([51, 49, 48, 48] : List UInt8) then (larderref02_kindOf.j4 k x4 (x4.toList == ([51, 49, 48, 48] : List UInt8))) else (if x4.toList = ([51, 49, 48, 49] : List UInt8) then (larderref02_kindOf.j4 k x4 (x4.toList == ([51, 49, 48, 49] : List UInt8))) else (if x4.toList = ([51, 49, 48, 50] : List UInt8) then (larderref02_kindOf.j4 k x4 (x4.toList == ([51, 49, 48, 50] : List UInt8))) else (if x4.toList = ([51, 49, 48, 51] : List UInt8) then (larderref02_kindOf.j4 k x4 (x4.toList == ([51, 49, 48, 51] : List UInt8))) else (if x4.toList = ([51, 49, 48, 52] : List UInt8) then (larderref02_kindOf.j4 k x4 (x4.toList == ([51, 49, 48, 52] : List UInt8))) else (larderref02_kindOf.j4 k x4 (x4.toList == ([51, 49, 48, 53] : List UInt8))))))))
def larderref02_kindOf.j4 : Nat → ByteArray → Bool → Option (Bool × Bool × Int × Int × Bool × Bool × Bool × Bool)
  | 0, _, _ => none
  | k + 1, x4, x30 => if x30 = true then (some (true, true, 6, 6, false, false, true, true)) else (if x4.toList = ([51, 57, 50, 48] : List UInt8) then (larderref02_kindOf.j5 k x4 (x4.toList == ([51, 57, 50, 48] : List UInt8))) else (if x4.toList = ([51, 57, 50, 49] : List UInt8) then (larderref02_kindOf.j5 k x4 (x4.toList == ([51, 57, 50, 49] : List UInt8))) else (if x4.toList = ([51, 57, 50, 50] : List UInt8) then (larderref02_kindOf.j5 k x4 (x4.toList == ([51, 57, 50, 50] : List UInt8))) else (larderref02_kindOf.j5 k x4 (x4.toList == ([51, 57, 50, 51] : List UInt8))))))
def larderref02_kindOf.j5 : Nat → ByteArray → Bool → Option (Bool × Bool × Int × Int × Bool × Bool × Bool × Bool)
  | 0, _, _ => none
  | k + 1, x4, x38 => if x38 = true then (some (false, true, 1, 15, false, false, true, true)) else (if x4.toList = ([52, 48, 48] : List UInt8) then (larderref02_kindOf.j6 k x4 (x4.toList == ([52, 48, 48] : List UInt8))) else (larderref02_kindOf.j6 k x4 (x4.toList == ([57, 48] : List UInt8))))
def larderref02_kindOf.j6 : Nat → ByteArray → Bool → Option (Bool × Bool × Int × Int × Bool × Bool × Bool × Bool)
  | 0, _, _ => none
  | k + 1, x4, x44 => if x44 = true then (some (false, false, 1, 30, false, false, false, true)) else (if x4.toList = ([52, 49, 48] : List UInt8) then (larderref02_kindOf.j7 k x4 (x4.toList == ([52, 49, 48] : List UInt8))) else (if x4.toList = ([52, 49, 49] : List UInt8) then (larderref02_kindOf.j7 k x4 (x4.toList == ([52, 49, 49] : List UInt8))) else (larderref02_kindOf.j7 k x4 (x4.toList == ([52, 49, 52] : List UInt8)))))
def larderref02_kindOf.j7 : Nat → ByteArray → Bool → Option (Bool × Bool × Int × Int × Bool × Bool × Bool × Bool)
  | 0, _, _ => none
  | k + 1, x4, x48 => if x48 = true then (some (true, true, 13, 13, true, false, false, true)) else (if x4.toList = ([56, 48, 48, 53] : List UInt8) then (some (false, true, 6, 6, false, false, false, true)) else (if x4.toList = ([56, 48, 50, 48] : List UInt8) then (some (false, false, 1, 25, false, false, false, true)) else (if x4.toList = ([57, 49] : List UInt8) then (some (false, false, 1, 90, false, false, false, true)) else (if x4.toList = ([57, 50] : List UInt8) then (some (false, false, 1, 90, false, false, false, true)) else (if x4.toList = ([57, 51] : List UInt8) then (some (false, false, 1, 90, false, false, false, true)) else (if x4.toList = ([57, 52] : List UInt8) then (some (false, false, 1, 90, false, false, false, true)) else (if x4.toList = ([57, 53] : List UInt8) then (some (false, false, 1, 90, false, false, false, true)) else (if x4.toList = ([57, 54] : List UInt8) then (some (false, false, 1, 90, false, false, false, true)) else (if x4.toList = ([57, 55] : List UInt8) then (some (false, false, 1, 90, false, false, false, true)) else (if x4.toList = ([57, 56] : List UInt8) then (some (false, false, 1, 90, false, false, false, true)) else (if x4.toList = ([57, 57] : List UInt8) then (some (false, false, 1, 90, false, false, false, true)) else (some (false, false, 0, 0, false, false, false, false)))))))))))))
end
def larderref02_kindOf.f (k : Nat) (a0 : ByteArray) : Option (Bool × Bool × Int × Int × Bool × Bool × Bool × Bool) := if a0.toList = ([48, 48] : List UInt8) then (some (true, true, 18, 18, true, false, false, true)) else (if a0.toList = ([48, 49] : List UInt8) then (larderref02_kindOf.j0 k a0 (a0.toList == ([48, 49] : List UInt8))) else (larderref02_kindOf.j0 k a0 (a0.toList == ([48, 50] : List UInt8))))
theorem larderref02_kindOf.mono_l : ∀ k, (∀ y0 y1, LeO (larderref02_kindOf.j0 k y0 y1) (larderref02_kindOf.j0 (k + 1) y0 y1)) ∧ (∀ y0 y1, LeO (larderref02_kindOf.j1 k y0 y1) (larderref02_kindOf.j1 (k + 1) y0 y1)) ∧ (∀ y0 y1, LeO (larderref02_kindOf.j2 k y0 y1) (larderref02_kindOf.j2 (k + 1) y0 y1)) ∧ (∀ y0 y1, LeO (larderref02_kindOf.j3 k y0 y1) (larderref02_kindOf.j3 (k + 1) y0 y1)) ∧ (∀ y0 y1, LeO (larderref02_kindOf.j4 k y0 y1) (larderref02_kindOf.j4 (k + 1) y0 y1)) ∧ (∀ y0 y1, LeO (larderref02_kindOf.j5 k y0 y1) (larderref02_kindOf.j5 (k + 1) y0 y1)) ∧ (∀ y0 y1, LeO (larderref02_kindOf.j6 k y0 y1) (larderref02_kindOf.j6 (k + 1) y0 y1)) ∧ (∀ y0 y1, LeO (larderref02_kindOf.j7 k y0 y1) (larderref02_kindOf.j7 (k + 1) y0 y1))
  | 0 => ⟨fun _ _ r h => by simp [larderref02_kindOf.j0] at h, fun _ _ r h => by simp [larderref02_kindOf.j1] at h, fun _ _ r h => by simp [larderref02_kindOf.j2] at h, fun _ _ r h => by simp [larderref02_kindOf.j3] at h, fun _ _ r h => by simp [larderref02_kindOf.j4] at h, fun _ _ r h => by simp [larderref02_kindOf.j5] at h, fun _ _ r h => by simp [larderref02_kindOf.j6] at h, fun _ _ r h => by simp [larderref02_kindOf.j7] at h⟩
  | k + 1 => by
    obtain ⟨ih0, ih1, ih2, ih3, ih4, ih5, ih6, ih7⟩ := larderref02_kindOf.mono_l k
    refine ⟨?_, ?_, ?_, ?_, ?_, ?_, ?_, ?_⟩
    · intro y0 y1
      unfold larderref02_kindOf.j0
      repeat' first
      | (with_reducible exact ih0 _ _)
      | (with_reducible exact ih1 _ _)
      | (with_reducible exact ih2 _ _)
      | (with_reducible exact ih3 _ _)
      | (with_reducible exact ih4 _ _)
      | (with_reducible exact ih5 _ _)
      | (with_reducible exact ih6 _ _)
      | (with_reducible exact ih7 _ _)
      | (with_reducible exact LeO.refl _)
      | (with_reducible exact LeO.none _)
      | (with_reducible refine LeO.ite ?_ ?_)
      | (with_reducible refine LeO.bind ?_ (fun _ => ?_))
      | exact ih0 _ _
      | exact ih1 _ _
      | exact ih2 _ _
      | exact ih3 _ _
      | exact ih4 _ _
      | exact ih5 _ _
      | exact ih6 _ _
      | exact ih7 _ _
      | exact LeO.none _
      | refine LeO.ite ?_ ?_
      | refine LeO.bind ?_ (fun _ => ?_)
    · intro y0 y1
      unfold larderref02_kindOf.j1
      repeat' first
      | (with_reducible exact ih0 _ _)
      | (with_reducible exact ih1 _ _)
      | (with_reducible exact ih2 _ _)
      | (with_reducible exact ih3 _ _)
      | (with_reducible exact ih4 _ _)
      | (with_reducible exact ih5 _ _)
      | (with_reducible exact ih6 _ _)
      | (with_reducible exact ih7 _ _)
      | (with_reducible exact LeO.refl _)
      | (with_reducible exact LeO.none _)
      | (with_reducible refine LeO.ite ?_ ?_)
      | (with_reducible refine LeO.bind ?_ (fun _ => ?_))
      | exact ih0 _ _
      | exact ih1 _ _
      | exact ih2 _ _
      | exact ih3 _ _
      | exact ih4 _ _
      | exact ih5 _ _
      | exact ih6 _ _
      | exact ih7 _ _
      | exact LeO.none _
      | refine LeO.ite ?_ ?_
      | refine LeO.bind ?_ (fun _ => ?_)
    · intro y0 y1
      unfold larderref02_kindOf.j2
      repeat' first
      | (with_reducible exact ih0 _ _)
      | (with_reducible exact ih1 _ _)
      | (with_reducible exact ih2 _ _)
      | (with_reducible exact ih3 _ _)
      | (with_reducible exact ih4 _ _)
      | (with_reducible exact ih5 _ _)
      | (with_reducible exact ih6 _ _)
      | (with_reducible exact ih7 _ _)
      | (with_reducible exact LeO.refl _)
      | (with_reducible exact LeO.none _)
      | (with_reducible refine LeO.ite ?_ ?_)
      | (with_reducible refine LeO.bind ?_ (fun _ => ?_))
      | exact ih0 _ _
      | exact ih1 _ _
      | exact ih2 _ _
      | exact ih3 _ _
      | exact ih4 _ _
      | exact ih5 _ _
      | exact ih6 _ _
      | exact ih7 _ _
      | exact LeO.none _
      | refine LeO.ite ?_ ?_
      | refine LeO.bind ?_ (fun _ => ?_)
    · intro y0 y1
      unfold larderref02_kindOf.j3
      repeat' first
      | (with_reducible exact ih0 _ _)
      | (with_reducible exact ih1 _ _)
      | (with_reducible exact ih2 _ _)
      | (with_reducible exact ih3 _ _)
      | (with_reducible exact ih4 _ _)
      | (with_reducible exact ih5 _ _)
      | (with_reducible exact ih6 _ _)
      | (with_reducible exact ih7 _ _)
      | (with_reducible exact LeO.refl _)
      | (with_reducible exact LeO.none _)
      | (with_reducible refine LeO.ite ?_ ?_)
      | (with_reducible refine LeO.bind ?_ (fun _ => ?_))
      | exact ih0 _ _
      | exact ih1 _ _
      | exact ih2 _ _
      | exact ih3 _ _
      | exact ih4 _ _
      | exact ih5 _ _
      | exact ih6 _ _
      | exact ih7 _ _
      | exact LeO.none _
      | refine LeO.ite ?_ ?_
      | refine LeO.bind ?_ (fun _ => ?_)
    · intro y0 y1
      unfold larderref02_kindOf.j4
      repeat' first
      | (with_reducible exact ih0 _ _)
      | (with_reducible exact ih1 _ _)
      | (with_reducible exact ih2 _ _)
      | (with_reducible exact ih3 _ _)
      | (with_reducible exact ih4 _ _)
      | (with_reducible exact ih5 _ _)
      | (with_reducible exact ih6 _ _)
      | (with_reducible exact ih7 _ _)
      | (with_reducible exact LeO.refl _)
      | (with_reducible exact LeO.none _)
      | (with_reducible refine LeO.ite ?_ ?_)
      | (with_reducible refine LeO.bind ?_ (fun _ => ?_))
      | exact ih0 _ _
      | exact ih1 _ _
      | exact ih2 _ _
      | exact ih3 _ _
      | exact ih4 _ _
      | exact ih5 _ _
      | exact ih6 _ _
      | exact ih7 _ _
      | exact LeO.none _
      | refine LeO.ite ?_ ?_
      | refine LeO.bind ?_ (fun _ => ?_)
    · intro y0 y1
      unfold larderref02_kindOf.j5
      repeat' first
      | (with_reducible exact ih0 _ _)
      | (with_reducible exact ih1 _ _)
      | (with_reducible exact ih2 _ _)
      | (with_reducible exact ih3 _ _)
      | (with_reducible exact ih4 _ _)
      | (with_reducible exact ih5 _ _)
      | (with_reducible exact ih6 _ _)
      | (with_reducible exact ih7 _ _)
      | (with_reducible exact LeO.refl _)
      | (with_reducible exact LeO.none _)
      | (with_reducible refine LeO.ite ?_ ?_)
      | (with_reducible refine LeO.bind ?_ (fun _ => ?_))
      | exact ih0 _ _
      | exact ih1 _ _
      | exact ih2 _ _
      | exact ih3 _ _
      | exact ih4 _ _
      | exact ih5 _ _
      | exact ih6 _ _
      | exact ih7 _ _
      | exact LeO.none _
      | refine LeO.ite ?_ ?_
      | refine LeO.bind ?_ (fun _ => ?_)
    · intro y0 y1
      unfold larderref02_kindOf.j6
      repeat' first
      | (with_reducible exact ih0 _ _)
      | (with_reducible exact ih1 _ _)
      | (with_reducible exact ih2 _ _)
      | (with_reducible exact ih3 _ _)
      | (with_reducible exact ih4 _ _)
      | (with_reducible exact ih5 _ _)
      | (with_reducible exact ih6 _ _)
      | (with_reducible exact ih7 _ _)
      | (with_reducible exact LeO.refl _)
      | (with_reducible exact LeO.none _)
      | (with_reducible refine LeO.ite ?_ ?_)
      | (with_reducible refine LeO.bind ?_ (fun _ => ?_))
      | exact ih0 _ _
      | exact ih1 _ _
      | exact ih2 _ _
      | exact ih3 _ _
      | exact ih4 _ _
      | exact ih5 _ _
      | exact ih6 _ _
      | exact ih7 _ _
      | exact LeO.none _
      | refine LeO.ite ?_ ?_
      | refine LeO.bind ?_ (fun _ => ?_)
    · intro y0 y1
      unfold larderref02_kindOf.j7
      repeat' first
      | (with_reducible exact ih0 _ _)
      | (with_reducible exact ih1 _ _)
      | (with_reducible exact ih2 _ _)
      | (with_reducible exact ih3 _ _)
      | (with_reducible exact ih4 _ _)
      | (with_reducible exact ih5 _ _)
      | (with_reducible exact ih6 _ _)
      | (with_reducible exact ih7 _ _)
      | (with_reducible exact LeO.refl _)
      | (with_reducible exact LeO.none _)
      | (with_reducible refine LeO.ite ?_ ?_)
      | (with_reducible refine LeO.bind ?_ (fun _ => ?_))
      | exact ih0 _ _
      | exact ih1 _ _
      | exact ih2 _ _
      | exact ih3 _ _
      | exact ih4 _ _
      | exact ih5 _ _
      | exact ih6 _ _
      | exact ih7 _ _
      | exact LeO.none _
      | refine LeO.ite ?_ ?_
      | refine LeO.bind ?_ (fun _ => ?_)
theorem larderref02_kindOf.mono : ∀ a0 k, LeO (larderref02_kindOf.f k a0) (larderref02_kindOf.f (k + 1) a0) := by
  intro a0 k
  obtain ⟨ih0, ih1, ih2, ih3, ih4, ih5, ih6, ih7⟩ := larderref02_kindOf.mono_l k
  unfold larderref02_kindOf.f
  repeat' first
      | (with_reducible exact ih0 _ _)
      | (with_reducible exact ih1 _ _)
      | (with_reducible exact ih2 _ _)
      | (with_reducible exact ih3 _ _)
      | (with_reducible exact ih4 _ _)
      | (with_reducible exact ih5 _ _)
      | (with_reducible exact ih6 _ _)
      | (with_reducible exact ih7 _ _)
      | (with_reducible exact LeO.refl _)
      | (with_reducible exact LeO.none _)
      | (with_reducible refine LeO.ite ?_ ?_)
      | (with_reducible refine LeO.bind ?_ (fun _ => ?_))
      | exact ih0 _ _
      | exact ih1 _ _
      | exact ih2 _ _
      | exact ih3 _ _
      | exact ih4 _ _
      | exact ih5 _ _
      | exact ih6 _ _
      | exact ih7 _ _
      | exact LeO.none _
      | refine LeO.ite ?_ ?_
      | refine LeO.bind ?_ (fun _ => ?_)
set_option maxHeartbeats 8000000 in
set_option maxRecDepth 100000 in
theorem larderref02_kindOf.calls (k : Nat) (a0 : ByteArray) (r1 : Bool) (r2 : Bool) (r3 : Int) (r4 : Int) (r5 : Bool) (r6 : Bool) (r7 : Bool) (r8 : Bool) (w : World) (h : larderref02_kindOf.f k a0 = some (r1, r2, r3, r4, r5, r6, r7, r8)) :
    Calls Tryd.prog 27 #[.string a0] w fun e w' => e = .returned (.tuple #[.agg #[.bool r1, .bool r2, .int .i64 r3, .int .i64 r4, .bool r5, .bool r6, .bool r7], .bool r8]) ∧ Below w.heap.size w w' := by
  have hu57 := Tryd.underlying57
  have HB := Aside0.mk (Below.refl w.heap.size w)
  have H : (if a0.toList = ([48, 48] : List UInt8) then (some (true, true, 18, 18, true, false, false, true)) else (if a0.toList = ([48, 49] : List UInt8) then (larderref02_kindOf.j0 k a0 (a0.toList == ([48, 49] : List UInt8))) else (larderref02_kindOf.j0 k a0 (a0.toList == ([48, 50] : List UInt8))))) = some (r1, r2, r3, r4, r5, r6, r7, r8) := h
  clear h
  by_cases c2 : a0.toList = ([48, 48] : List UInt8)
  · rw [if_pos c2] at H
    have c2b0 : (a0.toList == ([48, 48] : List UInt8)) = true := beq_iff_eq.mpr c2
    have c2b1 : (a0.toList != ([48, 48] : List UInt8)) = false := bne_eq_false_iff_eq.mpr c2
    clear c2
    simp only [Option.some.injEq, Prod.mk.injEq] at H
    obtain ⟨rfl, rfl, rfl, rfl, rfl, rfl, rfl, rfl⟩ := H
    go_enter Tryd.func27, Tryd.ntmps27
    go_wp2_with (first | ((with_reducible refine gate_dst (N := 2) rfl ?_); refine box_event ?hg (N := 2) ?hd (cs := #[.bool false, .bool false, .int .i64 0, .int .i64 0, .bool false, .bool false, .bool false]) (t := 57) ?hr ?_; (case hd => rfl); (case hg => rfl); (case hr => first | (go_simp; done) | (go_simp; rfl)); intro gb108 hg w3 hbox hb; have n0_ := Aside0.mk (below_step (by repeat (first | (with_reducible first | exact HB.out | apply below_alloc | apply pw_below_drewN | apply below_drew1) | exact HB.out)) hb); have n1_ := Aside0.mk (hbox); have n2_ := Aside0.mk ((by rw [hg]; exact (below_size (by repeat (first | (with_reducible first | exact HB.out | apply below_alloc | apply pw_below_drewN | apply below_drew1) | exact HB.out))) : w.heap.size ≤ gb108)); have n3_ := Aside0.mk ((by rw [hg]; exact (below_size (by repeat (first | (with_reducible first | exact HB.out | apply below_alloc | apply pw_below_drewN | apply below_drew1) | exact HB.out))) : w.heap.size ≤ gb108)); clear HB; have HB := n0_; have BK108 := n1_; have GW108 := n2_; have GE108 := n3_; clear n0_ n1_ n2_ n3_; clear hb hbox hg; have hcz4_0 : w3.cell? ⟨gb108, 0, none⟩ = some (.bool false) := (blk_cell BK108.out 0).trans rfl; have hcz4_1 : w3.cell? ⟨gb108, 1, none⟩ = some (.bool false) := (blk_cell BK108.out 1).trans rfl; have hcz4_2 : w3.cell? ⟨gb108, 2, none⟩ = some (.int .i64 0) := (blk_cell BK108.out 2).trans rfl; have hcz4_3 : w3.cell? ⟨gb108, 3, none⟩ = some (.int .i64 0) := (blk_cell BK108.out 3).trans rfl; have hcz4_4 : w3.cell? ⟨gb108, 4, none⟩ = some (.bool false) := (blk_cell BK108.out 4).trans rfl; have hcz4_5 : w3.cell? ⟨gb108, 5, none⟩ = some (.bool false) := (blk_cell BK108.out 5).trans rfl; have hcz4_6 : w3.cell? ⟨gb108, 6, none⟩ = some (.bool false) := (blk_cell BK108.out 6).trans rfl; have hfz4_0 := blk_frozen BK108.out 0; have hfz4_1 := blk_frozen BK108.out 1; have hfz4_2 := blk_frozen BK108.out 2; have hfz4_3 := blk_frozen BK108.out 3; have hfz4_4 := blk_frozen BK108.out 4; have hfz4_5 := blk_frozen BK108.out 5; have hfz4_6 := blk_frozen BK108.out 6))
    refine bodyPost_ret (results_ct rfl _ _ gb108 57 #[.bool true, .bool true, .int .i64 18, .int .i64 18, .bool true, .bool false, .bool false] (0, 0) _ rfl (by (with_reducible repeat (first | refine blk_drewN ?_ _ | refine blk_drew ?_ | refine blk_alloc ?_ _)); refine blk_put (cs := #[.bool true, .bool true, .int .i64 18, .int .i64 18, .bool true, .bool false, .bool false]) ?_ 6 _ rfl; (with_reducible repeat (first | refine blk_drewN ?_ _ | refine blk_drew ?_ | refine blk_alloc ?_ _)); refine blk_put (cs := #[.bool true, .bool true, .int .i64 18, .int .i64 18, .bool true, .bool false, .bool false]) ?_ 5 _ rfl; (with_reducible repeat (first | refine blk_drewN ?_ _ | refine blk_drew ?_ | refine blk_alloc ?_ _)); refine blk_put (cs := #[.bool true, .bool true, .int .i64 18, .int .i64 18, .bool false, .bool false, .bool false]) ?_ 4 _ rfl; (with_reducible repeat (first | refine blk_drewN ?_ _ | refine blk_drew ?_ | refine blk_alloc ?_ _)); refine blk_put (cs := #[.bool true, .bool true, .int .i64 18, .int .i64 0, .bool false, .bool false, .bool false]) ?_ 3 _ rfl; (with_reducible repeat (first | refine blk_drewN ?_ _ | refine blk_drew ?_ | refine blk_alloc ?_ _)); refine blk_put (cs := #[.bool true, .bool true, .int .i64 0, .int .i64 0, .bool false, .bool false, .bool false]) ?_ 2 _ rfl; (with_reducible repeat (first | refine blk_drewN ?_ _ | refine blk_drew ?_ | refine blk_alloc ?_ _)); refine blk_put (cs := #[.bool true, .bool false, .int .i64 0, .int .i64 0, .bool false, .bool false, .bool false]) ?_ 1 _ rfl; (with_reducible repeat (first | refine blk_drewN ?_ _ | refine blk_drew ?_ | refine blk_alloc ?_ _)); refine blk_put (cs := #[.bool false, .bool false, .int .i64 0, .int .i64 0, .bool false, .bool false, .bool false]) ?_ 0 _ rfl; (with_reducible repeat (first | refine blk_drewN ?_ _ | refine blk_drew ?_ | refine blk_alloc ?_ _)); exact BK108.out) Tryd.underlying57 rfl (by kernel_rfl)) rfl ?_
    exact ⟨by first | rfl | (simp [errW_none, errW_some] <;> rfl) | (simp [*, errW_none, errW_some] <;> rfl), by repeat (first | (with_reducible first | exact HB.out | apply below_alloc | apply pw_below_drewN | apply below_drew1 | refine below_set ?_ GE108.out) | exact HB.out)⟩
  · rw [if_neg c2] at H
    have c2b0 : (a0.toList == ([48, 48] : List UInt8)) = false := beq_eq_false_iff_ne.mpr c2
    have c2b1 : (a0.toList != ([48, 48] : List UInt8)) = true := bne_iff_ne.mpr c2
    have HC5 := Aside0.mk H
    clear H
    go_enter Tryd.func27, Tryd.ntmps27
    go_upto_if 8 with (first | ((with_reducible refine gate_dst (N := 2) rfl ?_); refine box_event ?hg (N := 2) ?hd (cs := #[.bool false, .bool false, .int .i64 0, .int .i64 0, .bool false, .bool false, .bool false]) (t := 57) ?hr ?_; (case hd => rfl); (case hg => rfl); (case hr => first | (go_simp; done) | (go_simp; rfl)); intro gb108 hg w6 hbox hb; have n0_ := Aside0.mk (below_step (by repeat (first | (with_reducible first | exact HB.out | apply below_alloc | apply pw_below_drewN | apply below_drew1) | exact HB.out)) hb); have n1_ := Aside0.mk (hbox); have n2_ := Aside0.mk ((by rw [hg]; exact (below_size (by repeat (first | (with_reducible first | exact HB.out | apply below_alloc | apply pw_below_drewN | apply below_drew1) | exact HB.out))) : w.heap.size ≤ gb108)); have n3_ := Aside0.mk ((by rw [hg]; exact (below_size (by repeat (first | (with_reducible first | exact HB.out | apply below_alloc | apply pw_below_drewN | apply below_drew1) | exact HB.out))) : w.heap.size ≤ gb108)); clear HB; have HB := n0_; have BK108 := n1_; have GW108 := n2_; have GE108 := n3_; clear n0_ n1_ n2_ n3_; clear hb hbox hg))
    (try simp only [Act.put, List.setIfInBounds_toArray, List.set_cons_zero, List.set_cons_succ])
    go_cut [8] (fun v8 wc => ∃ (kq : Nat) (x8_4 : Bool), v8 = .bool x8_4 ∧ Aside0 (larderref02_kindOf.j0 kq a0 x8_4 = some (r1, r2, r3, r4, r5, r6, r7, r8)) ∧ Aside0 (kq ≤ k) ∧ Aside0 (wc.heap[gb108]? = some (.cells #[.bool false, .bool false, .int .i64 0, .int .i64 0, .bool false, .bool false, .bool false] 57 (0, 0))) ∧ Aside0 (Below w.heap.size w wc))
    case first =>
      have H := HC5.out
      clear HC5
      by_cases c7 : a0.toList = ([48, 49] : List UInt8)
      · rw [if_pos c7] at H
        have c7b0 : (a0.toList == ([48, 49] : List UInt8)) = true := beq_iff_eq.mpr c7
        have c7b1 : (a0.toList != ([48, 49] : List UInt8)) = false := bne_eq_false_iff_eq.mpr c7
        clear c7
        (first | rw [c7b0] | (simp only [i64_w, i32_w]; rw [c7b0]) | skip)
        have H' := Aside0.mk H
        clear H
        go_wp2
        go_meet
        case rel => exact ⟨_, ((a0.toList == ([48, 49] : List UInt8))), (by first | rfl | (simp; done) | (simp [*]; done)), H', ⟨by first | omega | exact Nat.le_refl _⟩, ⟨by (with_reducible repeat (first | refine blk_drewN ?_ _ | refine blk_drew ?_ | refine blk_alloc ?_ _)); exact BK108.out⟩, ⟨by repeat (first | (with_reducible first | exact HB.out | apply below_alloc | apply pw_below_drewN | apply below_drew1 | refine below_set ?_ GE108.out) | exact HB.out)⟩⟩
      · rw [if_neg c7] at H
        have c7b0 : (a0.toList == ([48, 49] : List UInt8)) = false := beq_eq_false_iff_ne.mpr c7
        have c7b1 : (a0.toList != ([48, 49] : List UInt8)) = true := bne_iff_ne.mpr c7
        (first | rw [c7b0] | (simp only [i64_w, i32_w]; rw [c7b0]) | skip)
        have H' := Aside0.mk H
        clear H
        go_wp2
        go_meet
        case rel => exact ⟨_, ((a0.toList == ([48, 50] : List UInt8))), (by first | rfl | (simp; done) | (simp [*]; done)), H', ⟨by first | omega | exact Nat.le_refl _⟩, ⟨by (with_reducible repeat (first | refine blk_drewN ?_ _ | refine blk_drew ?_ | refine blk_alloc ?_ _)); exact BK108.out⟩, ⟨by repeat (first | (with_reducible first | exact HB.out | apply below_alloc | apply pw_below_drewN | apply below_drew1 | refine below_set ?_ GE108.out) | exact HB.out)⟩⟩
    case rest =>
      clear HC5
      try clear c2
      try clear c2b0
      try clear c2b1
      try clear p2
      try clear c7
      try clear c7b0
      try clear c7b1
      try clear hcz4_0
      try clear hcz4_1
      try clear hcz4_2
      try clear hcz4_3
      try clear hcz4_4
      try clear hcz4_5
      try clear hcz4_6
      try clear hfz4_0
      try clear hfz4_1
      try clear hfz4_2
      try clear hfz4_3
      try clear hfz4_4
      try clear hfz4_5
      try clear hfz4_6
      obtain ⟨kq, x8_4, rfl, HA, HJ4, BK108, HB⟩ := hcut
      cases kq with
      | zero => exact absurd HA.out (by simp [larderref02_kindOf.j0])
      | succ kj4 =>
        have H := HA.out
        clear HA
        simp only [larderref02_kindOf.j0] at H
        by_cases c8 : x8_4 = true
        · subst c8
          have H1 : (some (true, true, 14, 14, true, false, false, true)) = some (r1, r2, r3, r4, r5, r6, r7, r8) := by rw [if_pos rfl] at H; exact H
          clear H
          have H := H1
          clear H1
          simp only [Option.some.injEq, Prod.mk.injEq] at H
          obtain ⟨rfl, rfl, rfl, rfl, rfl, rfl, rfl, rfl⟩ := H
          have hcz9_0 : wc.cell? ⟨gb108, 0, none⟩ = some (.bool false) := (blk_cell BK108.out 0).trans rfl
          have hcz9_1 : wc.cell? ⟨gb108, 1, none⟩ = some (.bool false) := (blk_cell BK108.out 1).trans rfl
          have hcz9_2 : wc.cell? ⟨gb108, 2, none⟩ = some (.int .i64 0) := (blk_cell BK108.out 2).trans rfl
          have hcz9_3 : wc.cell? ⟨gb108, 3, none⟩ = some (.int .i64 0) := (blk_cell BK108.out 3).trans rfl
          have hcz9_4 : wc.cell? ⟨gb108, 4, none⟩ = some (.bool false) := (blk_cell BK108.out 4).trans rfl
          have hcz9_5 : wc.cell? ⟨gb108, 5, none⟩ = some (.bool false) := (blk_cell BK108.out 5).trans rfl
          have hcz9_6 : wc.cell? ⟨gb108, 6, none⟩ = some (.bool false) := (blk_cell BK108.out 6).trans rfl
          have hfz9_0 := blk_frozen BK108.out 0
          have hfz9_1 := blk_frozen BK108.out 1
          have hfz9_2 := blk_frozen BK108.out 2
          have hfz9_3 := blk_frozen BK108.out 3
          have hfz9_4 := blk_frozen BK108.out 4
          have hfz9_5 := blk_frozen BK108.out 5
          have hfz9_6 := blk_frozen BK108.out 6
          go_wp2
          refine bodyPost_ret (results_ct rfl _ _ gb108 57 #[.bool true, .bool true, .int .i64 14, .int .i64 14, .bool true, .bool false, .bool false] (0, 0) _ rfl (by (with_reducible repeat (first | refine blk_drewN ?_ _ | refine blk_drew ?_ | refine blk_alloc ?_ _)); refine blk_put (cs := #[.bool true, .bool true, .int .i64 14, .int .i64 14, .bool true, .bool false, .bool false]) ?_ 6 _ rfl; (with_reducible repeat (first | refine blk_drewN ?_ _ | refine blk_drew ?_ | refine blk_alloc ?_ _)); refine blk_put (cs := #[.bool true, .bool true, .int .i64 14, .int .i64 14, .bool true, .bool false, .bool false]) ?_ 5 _ rfl; (with_reducible repeat (first | refine blk_drewN ?_ _ | refine blk_drew ?_ | refine blk_alloc ?_ _)); refine blk_put (cs := #[.bool true, .bool true, .int .i64 14, .int .i64 14, .bool false, .bool false, .bool false]) ?_ 4 _ rfl; (with_reducible repeat (first | refine blk_drewN ?_ _ | refine blk_drew ?_ | refine blk_alloc ?_ _)); refine blk_put (cs := #[.bool true, .bool true, .int .i64 14, .int .i64 0, .bool false, .bool false, .bool false]) ?_ 3 _ rfl; (with_reducible repeat (first | refine blk_drewN ?_ _ | refine blk_drew ?_ | refine blk_alloc ?_ _)); refine blk_put (cs := #[.bool true, .bool true, .int .i64 0, .int .i64 0, .bool false, .bool false, .bool false]) ?_ 2 _ rfl; (with_reducible repeat (first | refine blk_drewN ?_ _ | refine blk_drew ?_ | refine blk_alloc ?_ _)); refine blk_put (cs := #[.bool true, .bool false, .int .i64 0, .int .i64 0, .bool false, .bool false, .bool false]) ?_ 1 _ rfl; (with_reducible repeat (first | refine blk_drewN ?_ _ | refine blk_drew ?_ | refine blk_alloc ?_ _)); refine blk_put (cs := #[.bool false, .bool false, .int .i64 0, .int .i64 0, .bool false, .bool false, .bool false]) ?_ 0 _ rfl; (with_reducible repeat (first | refine blk_drewN ?_ _ | refine blk_drew ?_ | refine blk_alloc ?_ _)); exact BK108.out) Tryd.underlying57 rfl (by kernel_rfl)) rfl ?_
          exact ⟨by first | rfl | (simp [errW_none, errW_some] <;> rfl) | (simp [*, errW_none, errW_some] <;> rfl), by repeat (first | (with_reducible first | exact HB.out | apply below_alloc | apply pw_below_drewN | apply below_drew1 | refine below_set ?_ GE108.out) | exact HB.out)⟩
        · replace c8 := Bool.eq_false_iff.mpr c8
          subst c8
          have H1 : (if a0.toList = ([49, 48] : List UInt8) then (larderref02_kindOf.j1 kj4 a0 (a0.toList == ([49, 48] : List UInt8))) else (if a0.toList = ([50, 49] : List UInt8) then (larderref02_kindOf.j1 kj4 a0 (a0.toList == ([50, 49] : List UInt8))) else (larderref02_kindOf.j1 kj4 a0 (a0.toList == ([52, 50, 48] : List UInt8))))) = some (r1, r2, r3, r4, r5, r6, r7, r8) := by rw [if_neg (show ¬ (false = true) by decide)] at H; exact H
          clear H
          have H := H1
          clear H1
          have HC10 := Aside0.mk H
          clear H
          go_upto_if 12 with (fail)
          go_cut [12] (fun v12 wc => ∃ (kq : Nat) (x12_9 : Bool), v12 = .bool x12_9 ∧ Aside0 (larderref02_kindOf.j1 kq a0 x12_9 = some (r1, r2, r3, r4, r5, r6, r7, r8)) ∧ Aside0 (kq ≤ kj4) ∧ Aside0 (wc.heap[gb108]? = some (.cells #[.bool false, .bool false, .int .i64 0, .int .i64 0, .bool false, .bool false, .bool false] 57 (0, 0))) ∧ Aside0 (Below w.heap.size w wc))
          case first =>
            have H := HC10.out
            clear HC10
            by_cases c11 : a0.toList = ([49, 48] : List UInt8)
            · rw [if_pos c11] at H
              have c11b0 : (a0.toList == ([49, 48] : List UInt8)) = true := beq_iff_eq.mpr c11
              have c11b1 : (a0.toList != ([49, 48] : List UInt8)) = false := bne_eq_false_iff_eq.mpr c11
              clear c11
              (first | rw [c11b0] | (simp only [i64_w, i32_w]; rw [c11b0]) | skip)
              have H' := Aside0.mk H
              clear H
              go_wp2
              go_meet
              case rel => exact ⟨_, ((a0.toList == ([49, 48] : List UInt8))), (by first | rfl | (simp; done) | (simp [*]; done)), H', ⟨by have := HJ4.out; first | omega | exact Nat.le_refl _⟩, ⟨by (with_reducible repeat (first | refine blk_drewN ?_ _ | refine blk_drew ?_ | refine blk_alloc ?_ _)); exact BK108.out⟩, ⟨by repeat (first | (with_reducible first | exact HB.out | apply below_alloc | apply pw_below_drewN | apply below_drew1 | refine below_set ?_ GE108.out) | exact HB.out)⟩⟩
            · rw [if_neg c11] at H
              have c11b0 : (a0.toList == ([49, 48] : List UInt8)) = false := beq_eq_false_iff_ne.mpr c11
              have c11b1 : (a0.toList != ([49, 48] : List UInt8)) = true := bne_iff_ne.mpr c11
              (first | rw [c11b0] | (simp only [i64_w, i32_w]; rw [c11b0]) | skip)
              by_cases c12 : a0.toList = ([50, 49] : List UInt8)
              · rw [if_pos c12] at H
                have c12b0 : (a0.toList == ([50, 49] : List UInt8)) = true := beq_iff_eq.mpr c12
                have c12b1 : (a0.toList != ([50, 49] : List UInt8)) = false := bne_eq_false_iff_eq.mpr c12
                clear c12
                have H' := Aside0.mk H
                clear H
                go_wp2
                go_meet
                case rel => exact ⟨_, ((a0.toList == ([50, 49] : List UInt8))), (by first | rfl | (simp; done) | (simp [*]; done)), H', ⟨by have := HJ4.out; first | omega | exact Nat.le_refl _⟩, ⟨by (with_reducible repeat (first | refine blk_drewN ?_ _ | refine blk_drew ?_ | refine blk_alloc ?_ _)); exact BK108.out⟩, ⟨by repeat (first | (with_reducible first | exact HB.out | apply below_alloc | apply pw_below_drewN | apply below_drew1 | refine below_set ?_ GE108.out) | exact HB.out)⟩⟩
              · rw [if_neg c12] at H
                have c12b0 : (a0.toList == ([50, 49] : List UInt8)) = false := beq_eq_false_iff_ne.mpr c12
                have c12b1 : (a0.toList != ([50, 49] : List UInt8)) = true := bne_iff_ne.mpr c12
                have H' := Aside0.mk H
                clear H
                go_wp2
                go_meet
                case rel => exact ⟨_, ((a0.toList == ([52, 50, 48] : List UInt8))), (by first | rfl | (simp; done) | (simp [*]; done)), H', ⟨by have := HJ4.out; first | omega | exact Nat.le_refl _⟩, ⟨by (with_reducible repeat (first | refine blk_drewN ?_ _ | refine blk_drew ?_ | refine blk_alloc ?_ _)); exact BK108.out⟩, ⟨by repeat (first | (with_reducible first | exact HB.out | apply below_alloc | apply pw_below_drewN | apply below_drew1 | refine below_set ?_ GE108.out) | exact HB.out)⟩⟩
          case rest =>
            clear HC10
            try clear c1
            try clear c2
            try clear c2b0
            try clear c2b1
            try clear p2
            try clear c7
            try clear c7b0
            try clear c7b1
            try clear c8
            try clear c11
            try clear c11b0
            try clear c11b1
            try clear c12
            try clear c12b0
            try clear c12b1
            try clear hcz4_0
            try clear hcz4_1
            try clear hcz4_2
            try clear hcz4_3
            try clear hcz4_4
            try clear hcz4_5
            try clear hcz4_6
            try clear hcz9_0
            try clear hcz9_1
            try clear hcz9_2
            try clear hcz9_3
            try clear hcz9_4
            try clear hcz9_5
            try clear hcz9_6
            try clear hfz4_0
            try clear hfz4_1
            try clear hfz4_2
            try clear hfz4_3
            try clear hfz4_4
            try clear hfz4_5
            try clear hfz4_6
            try clear hfz9_0
            try clear hfz9_1
            try clear hfz9_2
            try clear hfz9_3
            try clear hfz9_4
            try clear hfz9_5
            try clear hfz9_6
            try clear p2
            obtain ⟨kq, x12_9, rfl, HA, HJ9, BK108, HB⟩ := hcut
            cases kq with
            | zero => exact absurd HA.out (by simp [larderref02_kindOf.j1])
            | succ kj9 =>
              have H := HA.out
              clear HA
              simp only [larderref02_kindOf.j1] at H
              by_cases c13 : x12_9 = true
              · subst c13
                have H1 : (some (false, false, 1, 20, false, false, false, true)) = some (r1, r2, r3, r4, r5, r6, r7, r8) := by rw [if_pos rfl] at H; exact H
                clear H
                have H := H1
                clear H1
                simp only [Option.some.injEq, Prod.mk.injEq] at H
                obtain ⟨rfl, rfl, rfl, rfl, rfl, rfl, rfl, rfl⟩ := H
                have hcz14_0 : wc.cell? ⟨gb108, 0, none⟩ = some (.bool false) := (blk_cell BK108.out 0).trans rfl
                have hcz14_1 : wc.cell? ⟨gb108, 1, none⟩ = some (.bool false) := (blk_cell BK108.out 1).trans rfl
                have hcz14_2 : wc.cell? ⟨gb108, 2, none⟩ = some (.int .i64 0) := (blk_cell BK108.out 2).trans rfl
                have hcz14_3 : wc.cell? ⟨gb108, 3, none⟩ = some (.int .i64 0) := (blk_cell BK108.out 3).trans rfl
                have hcz14_4 : wc.cell? ⟨gb108, 4, none⟩ = some (.bool false) := (blk_cell BK108.out 4).trans rfl
                have hcz14_5 : wc.cell? ⟨gb108, 5, none⟩ = some (.bool false) := (blk_cell BK108.out 5).trans rfl
                have hcz14_6 : wc.cell? ⟨gb108, 6, none⟩ = some (.bool false) := (blk_cell BK108.out 6).trans rfl
                have hfz14_0 := blk_frozen BK108.out 0
                have hfz14_1 := blk_frozen BK108.out 1
                have hfz14_2 := blk_frozen BK108.out 2
                have hfz14_3 := blk_frozen BK108.out 3
                have hfz14_4 := blk_frozen BK108.out 4
                have hfz14_5 := blk_frozen BK108.out 5
                have hfz14_6 := blk_frozen BK108.out 6
                go_wp2
                refine bodyPost_ret (results_ct rfl _ _ gb108 57 #[.bool false, .bool false, .int .i64 1, .int .i64 20, .bool false, .bool false, .bool false] (0, 0) _ rfl (by (with_reducible repeat (first | refine blk_drewN ?_ _ | refine blk_drew ?_ | refine blk_alloc ?_ _)); refine blk_put (cs := #[.bool false, .bool false, .int .i64 1, .int .i64 20, .bool false, .bool false, .bool false]) ?_ 6 _ rfl; (with_reducible repeat (first | refine blk_drewN ?_ _ | refine blk_drew ?_ | refine blk_alloc ?_ _)); refine blk_put (cs := #[.bool false, .bool false, .int .i64 1, .int .i64 20, .bool false, .bool false, .bool false]) ?_ 5 _ rfl; (with_reducible repeat (first | refine blk_drewN ?_ _ | refine blk_drew ?_ | refine blk_alloc ?_ _)); refine blk_put (cs := #[.bool false, .bool false, .int .i64 1, .int .i64 20, .bool false, .bool false, .bool false]) ?_ 4 _ rfl; (with_reducible repeat (first | refine blk_drewN ?_ _ | refine blk_drew ?_ | refine blk_alloc ?_ _)); refine blk_put (cs := #[.bool false, .bool false, .int .i64 1, .int .i64 0, .bool false, .bool false, .bool false]) ?_ 3 _ rfl; (with_reducible repeat (first | refine blk_drewN ?_ _ | refine blk_drew ?_ | refine blk_alloc ?_ _)); refine blk_put (cs := #[.bool false, .bool false, .int .i64 0, .int .i64 0, .bool false, .bool false, .bool false]) ?_ 2 _ rfl; (with_reducible repeat (first | refine blk_drewN ?_ _ | refine blk_drew ?_ | refine blk_alloc ?_ _)); refine blk_put (cs := #[.bool false, .bool false, .int .i64 0, .int .i64 0, .bool false, .bool false, .bool false]) ?_ 1 _ rfl; (with_reducible repeat (first | refine blk_drewN ?_ _ | refine blk_drew ?_ | refine blk_alloc ?_ _)); refine blk_put (cs := #[.bool false, .bool false, .int .i64 0, .int .i64 0, .bool false, .bool false, .bool false]) ?_ 0 _ rfl; (with_reducible repeat (first | refine blk_drewN ?_ _ | refine blk_drew ?_ | refine blk_alloc ?_ _)); exact BK108.out) Tryd.underlying57 rfl (by kernel_rfl)) rfl ?_
                exact ⟨by first | rfl | (simp [errW_none, errW_some] <;> rfl) | (simp [*, errW_none, errW_some] <;> rfl), by repeat (first | (with_reducible first | exact HB.out | apply below_alloc | apply pw_below_drewN | apply below_drew1 | refine below_set ?_ GE108.out) | exact HB.out)⟩
              · replace c13 := Bool.eq_false_iff.mpr c13
                subst c13
                have H1 : (if a0.toList = ([49, 49] : List UInt8) then (larderref02_kindOf.j2 kj9 a0 (a0.toList == ([49, 49] : List UInt8))) else (if a0.toList = ([49, 51] : List UInt8) then (larderref02_kindOf.j2 kj9 a0 (a0.toList == ([49, 51] : List UInt8))) else (if a0.toList = ([49, 53] : List UInt8) then (larderref02_kindOf.j2 kj9 a0 (a0.toList == ([49, 53] : List UInt8))) else (larderref02_kindOf.j2 kj9 a0 (a0.toList == ([49, 55] : List UInt8)))))) = some (r1, r2, r3, r4, r5, r6, r7, r8) := by rw [if_neg (show ¬ (false = true) by decide)] at H; exact H
                clear H
                have H := H1
                clear H1
                have HC15 := Aside0.mk H
                clear H
                go_upto_if 17 with (fail)
                go_cut [17] (fun v17 wc => ∃ (kq : Nat) (x17_14 : Bool), v17 = .bool x17_14 ∧ Aside0 (larderref02_kindOf.j2 kq a0 x17_14 = some (r1, r2, r3, r4, r5, r6, r7, r8)) ∧ Aside0 (kq ≤ kj9) ∧ Aside0 (wc.heap[gb108]? = some (.cells #[.bool false, .bool false, .int .i64 0, .int .i64 0, .bool false, .bool false, .bool false] 57 (0, 0))) ∧ Aside0 (Below w.heap.size w wc))
                case first =>
                  have H := HC15.out
                  clear HC15
                  by_cases c16 : a0.toList = ([49, 49] : List UInt8)
                  · rw [if_pos c16] at H
                    have c16b0 : (a0.toList == ([49, 49] : List UInt8)) = true := beq_iff_eq.mpr c16
                    have c16b1 : (a0.toList != ([49, 49] : List UInt8)) = false := bne_eq_false_iff_eq.mpr c16
                    clear c16
                    (first | rw [c16b0] | (simp only [i64_w, i32_w]; rw [c16b0]) | skip)
                    have H' := Aside0.mk H
                    clear H
                    go_wp2
                    go_meet
                    case rel => exact ⟨_, ((a0.toList == ([49, 49] : List UInt8))), (by first | rfl | (simp; done) | (simp [*]; done)), H', ⟨by have := HJ4.out; have := HJ9.out; first | omega | exact Nat.le_refl _⟩, ⟨by (with_reducible repeat (first | refine blk_drewN ?_ _ | refine blk_drew ?_ | refine blk_alloc ?_ _)); exact BK108.out⟩, ⟨by repeat (first | (with_reducible first | exact HB.out | apply below_alloc | apply pw_below_drewN | apply below_drew1 | refine below_set ?_ GE108.out) | exact HB.out)⟩⟩
                  · rw [if_neg c16] at H
                    have c16b0 : (a0.toList == ([49, 49] : List UInt8)) = false := beq_eq_false_iff_ne.mpr c16
                    have c16b1 : (a0.toList != ([49, 49] : List UInt8)) = true := bne_iff_ne.mpr c16
                    (first | rw [c16b0] | (simp only [i64_w, i32_w]; rw [c16b0]) | skip)
                    by_cases c17 : a0.toList = ([49, 51] : List UInt8)
                    · rw [if_pos c17] at H
                      have c17b0 : (a0.toList == ([49, 51] : List UInt8)) = true := beq_iff_eq.mpr c17
                      have c17b1 : (a0.toList != ([49, 51] : List UInt8)) = false := bne_eq_false_iff_eq.mpr c17
                      clear c17
                      have H' := Aside0.mk H
                      clear H
                      go_wp2
                      go_meet
                      case rel => exact ⟨_, ((a0.toList == ([49, 51] : List UInt8))), (by first | rfl | (simp; done) | (simp [*]; done)), H', ⟨by have := HJ4.out; have := HJ9.out; first | omega | exact Nat.le_refl _⟩, ⟨by (with_reducible repeat (first | refine blk_drewN ?_ _ | refine blk_drew ?_ | refine blk_alloc ?_ _)); exact BK108.out⟩, ⟨by repeat (first | (with_reducible first | exact HB.out | apply below_alloc | apply pw_below_drewN | apply below_drew1 | refine below_set ?_ GE108.out) | exact HB.out)⟩⟩
                    · rw [if_neg c17] at H
                      have c17b0 : (a0.toList == ([49, 51] : List UInt8)) = false := beq_eq_false_iff_ne.mpr c17
                      have c17b1 : (a0.toList != ([49, 51] : List UInt8)) = true := bne_iff_ne.mpr c17
                      by_cases c18 : a0.toList = ([49, 53] : List UInt8)
                      · rw [if_pos c18] at H
                        have c18b0 : (a0.toList == ([49, 53] : List UInt8)) = true := beq_iff_eq.mpr c18
                        have c18b1 : (a0.toList != ([49, 53] : List UInt8)) = false := bne_eq_false_iff_eq.mpr c18
                        clear c18
                        have H' := Aside0.mk H
                        clear H
                        go_wp2
                        go_meet
                        case rel => exact ⟨_, ((a0.toList == ([49, 53] : List UInt8))), (by first | rfl | (simp; done) | (simp [*]; done)), H', ⟨by have := HJ4.out; have := HJ9.out; first | omega | exact Nat.le_refl _⟩, ⟨by (with_reducible repeat (first | refine blk_drewN ?_ _ | refine blk_drew ?_ | refine blk_alloc ?_ _)); exact BK108.out⟩, ⟨by repeat (first | (with_reducible first | exact HB.out | apply below_alloc | apply pw_below_drewN | apply below_drew1 | refine below_set ?_ GE108.out) | exact HB.out)⟩⟩
                      · rw [if_neg c18] at H
                        have c18b0 : (a0.toList == ([49, 53] : List UInt8)) = false := beq_eq_false_iff_ne.mpr c18
                        have c18b1 : (a0.toList != ([49, 53] : List UInt8)) = true := bne_iff_ne.mpr c18
                        have H' := Aside0.mk H
                        clear H
                        go_wp2
                        go_meet
                        case rel => exact ⟨_, ((a0.toList == ([49, 55] : List UInt8))), (by first | rfl | (simp; done) | (simp [*]; done)), H', ⟨by have := HJ4.out; have := HJ9.out; first | omega | exact Nat.le_refl _⟩, ⟨by (with_reducible repeat (first | refine blk_drewN ?_ _ | refine blk_drew ?_ | refine blk_alloc ?_ _)); exact BK108.out⟩, ⟨by repeat (first | (with_reducible first | exact HB.out | apply below_alloc | apply pw_below_drewN | apply below_drew1 | refine below_set ?_ GE108.out) | exact HB.out)⟩⟩
                case rest =>
                  clear HC15
                  try clear c1
                  try clear c2
                  try clear c2b0
                  try clear c2b1
                  try clear p2
                  try clear c7
                  try clear c7b0
                  try clear c7b1
                  try clear c8
                  try clear c11
                  try clear c11b0
                  try clear c11b1
                  try clear c12
                  try clear c12b0
                  try clear c12b1
                  try clear c13
                  try clear c16
                  try clear c16b0
                  try clear c16b1
                  try clear c17
                  try clear c17b0
                  try clear c17b1
                  try clear c18
                  try clear c18b0
                  try clear c18b1
                  try clear hcz14_0
                  try clear hcz14_1
                  try clear hcz14_2
                  try clear hcz14_3
                  try clear hcz14_4
                  try clear hcz14_5
                  try clear hcz14_6
                  try clear hcz4_0
                  try clear hcz4_1
                  try clear hcz4_2
                  try clear hcz4_3
                  try clear hcz4_4
                  try clear hcz4_5
                  try clear hcz4_6
                  try clear hcz9_0
                  try clear hcz9_1
                  try clear hcz9_2
                  try clear hcz9_3
                  try clear hcz9_4
                  try clear hcz9_5
                  try clear hcz9_6
                  try clear hfz14_0
                  try clear hfz14_1
                  try clear hfz14_2
                  try clear hfz14_3
                  try clear hfz14_4
                  try clear hfz14_5
                  try clear hfz14_6
                  try clear hfz4_0
                  try clear hfz4_1
                  try clear hfz4_2
                  try clear hfz4_3
                  try clear hfz4_4
                  try clear hfz4_5
                  try clear hfz4_6
                  try clear hfz9_0
                  try clear hfz9_1
                  try clear hfz9_2
                  try clear hfz9_3
                  try clear hfz9_4
                  try clear hfz9_5
                  try clear hfz9_6
                  try clear p2
                  obtain ⟨kq, x17_14, rfl, HA, HJ14, BK108, HB⟩ := hcut
                  cases kq with
                  | zero => exact absurd HA.out (by simp [larderref02_kindOf.j2])
                  | succ kj14 =>
                    have H := HA.out
                    clear HA
                    simp only [larderref02_kindOf.j2] at H
                    by_cases c19 : x17_14 = true
                    · subst c19
                      have H1 : (some (true, true, 6, 6, false, true, false, true)) = some (r1, r2, r3, r4, r5, r6, r7, r8) := by rw [if_pos rfl] at H; exact H
                      clear H
                      have H := H1
                      clear H1
                      simp only [Option.some.injEq, Prod.mk.injEq] at H
                      obtain ⟨rfl, rfl, rfl, rfl, rfl, rfl, rfl, rfl⟩ := H
                      have hcz20_0 : wc.cell? ⟨gb108, 0, none⟩ = some (.bool false) := (blk_cell BK108.out 0).trans rfl
                      have hcz20_1 : wc.cell? ⟨gb108, 1, none⟩ = some (.bool false) := (blk_cell BK108.out 1).trans rfl
                      have hcz20_2 : wc.cell? ⟨gb108, 2, none⟩ = some (.int .i64 0) := (blk_cell BK108.out 2).trans rfl
                      have hcz20_3 : wc.cell? ⟨gb108, 3, none⟩ = some (.int .i64 0) := (blk_cell BK108.out 3).trans rfl
                      have hcz20_4 : wc.cell? ⟨gb108, 4, none⟩ = some (.bool false) := (blk_cell BK108.out 4).trans rfl
                      have hcz20_5 : wc.cell? ⟨gb108, 5, none⟩ = some (.bool false) := (blk_cell BK108.out 5).trans rfl
                      have hcz20_6 : wc.cell? ⟨gb108, 6, none⟩ = some (.bool false) := (blk_cell BK108.out 6).trans rfl
                      have hfz20_0 := blk_frozen BK108.out 0
                      have hfz20_1 := blk_frozen BK108.out 1
                      have hfz20_2 := blk_frozen BK108.out 2
                      have hfz20_3 := blk_frozen BK108.out 3
                      have hfz20_4 := blk_frozen BK108.out 4
                      have hfz20_5 := blk_frozen BK108.out 5
                      have hfz20_6 := blk_frozen BK108.out 6
                      go_wp2
                      refine bodyPost_ret (results_ct rfl _ _ gb108 57 #[.bool true, .bool true, .int .i64 6, .int .i64 6, .bool false, .bool true, .bool false] (0, 0) _ rfl (by (with_reducible repeat (first | refine blk_drewN ?_ _ | refine blk_drew ?_ | refine blk_alloc ?_ _)); refine blk_put (cs := #[.bool true, .bool true, .int .i64 6, .int .i64 6, .bool false, .bool true, .bool false]) ?_ 6 _ rfl; (with_reducible repeat (first | refine blk_drewN ?_ _ | refine blk_drew ?_ | refine blk_alloc ?_ _)); refine blk_put (cs := #[.bool true, .bool true, .int .i64 6, .int .i64 6, .bool false, .bool false, .bool false]) ?_ 5 _ rfl; (with_reducible repeat (first | refine blk_drewN ?_ _ | refine blk_drew ?_ | refine blk_alloc ?_ _)); refine blk_put (cs := #[.bool true, .bool true, .int .i64 6, .int .i64 6, .bool false, .bool false, .bool false]) ?_ 4 _ rfl; (with_reducible repeat (first | refine blk_drewN ?_ _ | refine blk_drew ?_ | refine blk_alloc ?_ _)); refine blk_put (cs := #[.bool true, .bool true, .int .i64 6, .int .i64 0, .bool false, .bool false, .bool false]) ?_ 3 _ rfl; (with_reducible repeat (first | refine blk_drewN ?_ _ | refine blk_drew ?_ | refine blk_alloc ?_ _)); refine blk_put (cs := #[.bool true, .bool true, .int .i64 0, .int .i64 0, .bool false, .bool false, .bool false]) ?_ 2 _ rfl; (with_reducible repeat (first | refine blk_drewN ?_ _ | refine blk_drew ?_ | refine blk_alloc ?_ _)); refine blk_put (cs := #[.bool true, .bool false, .int .i64 0, .int .i64 0, .bool false, .bool false, .bool false]) ?_ 1 _ rfl; (with_reducible repeat (first | refine blk_drewN ?_ _ | refine blk_drew ?_ | refine blk_alloc ?_ _)); refine blk_put (cs := #[.bool false, .bool false, .int .i64 0, .int .i64 0, .bool false, .bool false, .bool false]) ?_ 0 _ rfl; (with_reducible repeat (first | refine blk_drewN ?_ _ | refine blk_drew ?_ | refine blk_alloc ?_ _)); exact BK108.out) Tryd.underlying57 rfl (by kernel_rfl)) rfl ?_
                      exact ⟨by first | rfl | (simp [errW_none, errW_some] <;> rfl) | (simp [*, errW_none, errW_some] <;> rfl), by repeat (first | (with_reducible first | exact HB.out | apply below_alloc | apply pw_below_drewN | apply below_drew1 | refine below_set ?_ GE108.out) | exact HB.out)⟩
                    · replace c19 := Bool.eq_false_iff.mpr c19
                      subst c19
                      have H1 : (if a0.toList = ([50, 48] : List UInt8) then (some (true, true, 2, 2, false, false, false, true)) else (if a0.toList = ([51, 48] : List UInt8) then (larderref02_kindOf.j3 kj14 a0 (a0.toList == ([51, 48] : List UInt8))) else (larderref02_kindOf.j3 kj14 a0 (a0.toList == ([51, 55] : List UInt8))))) = some (r1, r2, r3, r4, r5, r6, r7, r8) := by rw [if_neg (show ¬ (false = true) by decide)] at H; exact H
                      clear H
                      have H := H1
                      clear H1
                      by_cases c21 : a0.toList = ([50, 48] : List UInt8)
                      · rw [if_pos c21] at H
                        have c21b0 : (a0.toList == ([50, 48] : List UInt8)) = true := beq_iff_eq.mpr c21
                        have c21b1 : (a0.toList != ([50, 48] : List UInt8)) = false := bne_eq_false_iff_eq.mpr c21
                        clear c21
                        simp only [Option.some.injEq, Prod.mk.injEq] at H
                        obtain ⟨rfl, rfl, rfl, rfl, rfl, rfl, rfl, rfl⟩ := H
                        have hcz22_0 : wc.cell? ⟨gb108, 0, none⟩ = some (.bool false) := (blk_cell BK108.out 0).trans rfl
                        have hcz22_1 : wc.cell? ⟨gb108, 1, none⟩ = some (.bool false) := (blk_cell BK108.out 1).trans rfl
                        have hcz22_2 : wc.cell? ⟨gb108, 2, none⟩ = some (.int .i64 0) := (blk_cell BK108.out 2).trans rfl
                        have hcz22_3 : wc.cell? ⟨gb108, 3, none⟩ = some (.int .i64 0) := (blk_cell BK108.out 3).trans rfl
                        have hcz22_4 : wc.cell? ⟨gb108, 4, none⟩ = some (.bool false) := (blk_cell BK108.out 4).trans rfl
                        have hcz22_5 : wc.cell? ⟨gb108, 5, none⟩ = some (.bool false) := (blk_cell BK108.out 5).trans rfl
                        have hcz22_6 : wc.cell? ⟨gb108, 6, none⟩ = some (.bool false) := (blk_cell BK108.out 6).trans rfl
                        have hfz22_0 := blk_frozen BK108.out 0
                        have hfz22_1 := blk_frozen BK108.out 1
                        have hfz22_2 := blk_frozen BK108.out 2
                        have hfz22_3 := blk_frozen BK108.out 3
                        have hfz22_4 := blk_frozen BK108.out 4
                        have hfz22_5 := blk_frozen BK108.out 5
                        have hfz22_6 := blk_frozen BK108.out 6
                        go_wp2
                        refine bodyPost_ret (results_ct rfl _ _ gb108 57 #[.bool true, .bool true, .int .i64 2, .int .i64 2, .bool false, .bool false, .bool false] (0, 0) _ rfl (by (with_reducible repeat (first | refine blk_drewN ?_ _ | refine blk_drew ?_ | refine blk_alloc ?_ _)); refine blk_put (cs := #[.bool true, .bool true, .int .i64 2, .int .i64 2, .bool false, .bool false, .bool false]) ?_ 6 _ rfl; (with_reducible repeat (first | refine blk_drewN ?_ _ | refine blk_drew ?_ | refine blk_alloc ?_ _)); refine blk_put (cs := #[.bool true, .bool true, .int .i64 2, .int .i64 2, .bool false, .bool false, .bool false]) ?_ 5 _ rfl; (with_reducible repeat (first | refine blk_drewN ?_ _ | refine blk_drew ?_ | refine blk_alloc ?_ _)); refine blk_put (cs := #[.bool true, .bool true, .int .i64 2, .int .i64 2, .bool false, .bool false, .bool false]) ?_ 4 _ rfl; (with_reducible repeat (first | refine blk_drewN ?_ _ | refine blk_drew ?_ | refine blk_alloc ?_ _)); refine blk_put (cs := #[.bool true, .bool true, .int .i64 2, .int .i64 0, .bool false, .bool false, .bool false]) ?_ 3 _ rfl; (with_reducible repeat (first | refine blk_drewN ?_ _ | refine blk_drew ?_ | refine blk_alloc ?_ _)); refine blk_put (cs := #[.bool true, .bool true, .int .i64 0, .int .i64 0, .bool false, .bool false, .bool false]) ?_ 2 _ rfl; (with_reducible repeat (first | refine blk_drewN ?_ _ | refine blk_drew ?_ | refine blk_alloc ?_ _)); refine blk_put (cs := #[.bool true, .bool false, .int .i64 0, .int .i64 0, .bool false, .bool false, .bool false]) ?_ 1 _ rfl; (with_reducible repeat (first | refine blk_drewN ?_ _ | refine blk_drew ?_ | refine blk_alloc ?_ _)); refine blk_put (cs := #[.bool false, .bool false, .int .i64 0, .int .i64 0, .bool false, .bool false, .bool false]) ?_ 0 _ rfl; (with_reducible repeat (first | refine blk_drewN ?_ _ | refine blk_drew ?_ | refine blk_alloc ?_ _)); exact BK108.out) Tryd.underlying57 rfl (by kernel_rfl)) rfl ?_
                        exact ⟨by first | rfl | (simp [errW_none, errW_some] <;> rfl) | (simp [*, errW_none, errW_some] <;> rfl), by repeat (first | (with_reducible first | exact HB.out | apply below_alloc | apply pw_below_drewN | apply below_drew1 | refine below_set ?_ GE108.out) | exact HB.out)⟩
                      · rw [if_neg c21] at H
                        have c21b0 : (a0.toList == ([50, 48] : List UInt8)) = false := beq_eq_false_iff_ne.mpr c21
                        have c21b1 : (a0.toList != ([50, 48] : List UInt8)) = true := bne_iff_ne.mpr c21
                        have HC23 := Aside0.mk H
                        clear H
                        go_upto_if 26 with (fail)
                        go_cut [26] (fun v26 wc => ∃ (kq : Nat) (x26_22 : Bool), v26 = .bool x26_22 ∧ Aside0 (larderref02_kindOf.j3 kq a0 x26_22 = some (r1, r2, r3, r4, r5, r6, r7, r8)) ∧ Aside0 (kq ≤ kj14) ∧ Aside0 (wc.heap[gb108]? = some (.cells #[.bool false, .bool false, .int .i64 0, .int .i64 0, .bool false, .bool false, .bool false] 57 (0, 0))) ∧ Aside0 (Below w.heap.size w wc))
                        case first =>
                          have H := HC23.out
                          clear HC23
                          by_cases c24 : a0.toList = ([51, 48] : List UInt8)
                          · rw [if_pos c24] at H
                            have c24b0 : (a0.toList == ([51, 48] : List UInt8)) = true := beq_iff_eq.mpr c24
                            have c24b1 : (a0.toList != ([51, 48] : List UInt8)) = false := bne_eq_false_iff_eq.mpr c24
                            clear c24
                            (first | rw [c24b0] | (simp only [i64_w, i32_w]; rw [c24b0]) | skip)
                            have H' := Aside0.mk H
                            clear H
                            go_wp2
                            go_meet
                            case rel => exact ⟨_, ((a0.toList == ([51, 48] : List UInt8))), (by first | rfl | (simp; done) | (simp [*]; done)), H', ⟨by have := HJ4.out; have := HJ9.out; have := HJ14.out; first | omega | exact Nat.le_refl _⟩, ⟨by (with_reducible repeat (first | refine blk_drewN ?_ _ | refine blk_drew ?_ | refine blk_alloc ?_ _)); exact BK108.out⟩, ⟨by repeat (first | (with_reducible first | exact HB.out | apply below_alloc | apply pw_below_drewN | apply below_drew1 | refine below_set ?_ GE108.out) | exact HB.out)⟩⟩
                          · rw [if_neg c24] at H
                            have c24b0 : (a0.toList == ([51, 48] : List UInt8)) = false := beq_eq_false_iff_ne.mpr c24
                            have c24b1 : (a0.toList != ([51, 48] : List UInt8)) = true := bne_iff_ne.mpr c24
                            (first | rw [c24b0] | (simp only [i64_w, i32_w]; rw [c24b0]) | skip)
                            have H' := Aside0.mk H
                            clear H
                            go_wp2
                            go_meet
                            case rel => exact ⟨_, ((a0.toList == ([51, 55] : List UInt8))), (by first | rfl | (simp; done) | (simp [*]; done)), H', ⟨by have := HJ4.out; have := HJ9.out; have := HJ14.out; first | omega | exact Nat.le_refl _⟩, ⟨by (with_reducible repeat (first | refine blk_drewN ?_ _ | refine blk_drew ?_ | refine blk_alloc ?_ _)); exact BK108.out⟩, ⟨by repeat (first | (with_reducible first | exact HB.out | apply below_alloc | apply pw_below_drewN | apply below_drew1 | refine below_set ?_ GE108.out) | exact HB.out)⟩⟩
                        case rest =>
                          clear HC23
                          try clear c1
                          try clear c2
                          try clear c2b0
                          try clear c2b1
                          try clear p2
                          try clear c7
                          try clear c7b0
                          try clear c7b1
                          try clear c8
                          try clear c11
                          try clear c11b0
                          try clear c11b1
                          try clear c12
                          try clear c12b0
                          try clear c12b1
                          try clear c13
                          try clear c16
                          try clear c16b0
                          try clear c16b1
                          try clear c17
                          try clear c17b0
                          try clear c17b1
                          try clear c18
                          try clear c18b0
                          try clear c18b1
                          try clear c19
                          try clear c21
                          try clear c21b0
                          try clear c21b1
                          try clear c24
                          try clear c24b0
                          try clear c24b1
                          try clear hcz14_0
                          try clear hcz14_1
                          try clear hcz14_2
                          try clear hcz14_3
                          try clear hcz14_4
                          try clear hcz14_5
                          try clear hcz14_6
                          try clear hcz20_0
                          try clear hcz20_1
                          try clear hcz20_2
                          try clear hcz20_3
                          try clear hcz20_4
                          try clear hcz20_5
                          try clear hcz20_6
                          try clear hcz22_0
                          try clear hcz22_1
                          try clear hcz22_2
                          try clear hcz22_3
                          try clear hcz22_4
                          try clear hcz22_5
                          try clear hcz22_6
                          try clear hcz4_0
                          try clear hcz4_1
                          try clear hcz4_2
                          try clear hcz4_3
                          try clear hcz4_4
                          try clear hcz4_5
                          try clear hcz4_6
                          try clear hcz9_0
                          try clear hcz9_1
                          try clear hcz9_2
                          try clear hcz9_3
                          try clear hcz9_4
                          try clear hcz9_5
                          try clear hcz9_6
                          try clear hfz14_0
                          try clear hfz14_1
                          try clear hfz14_2
                          try clear hfz14_3
                          try clear hfz14_4
                          try clear hfz14_5
                          try clear hfz14_6
                          try clear hfz20_0
                          try clear hfz20_1
                          try clear hfz20_2
                          try clear hfz20_3
                          try clear hfz20_4
                          try clear hfz20_5
                          try clear hfz20_6
                          try clear hfz22_0
                          try clear hfz22_1
                          try clear hfz22_2
                          try clear hfz22_3
                          try clear hfz22_4
                          try clear hfz22_5
                          try clear hfz22_6
                          try clear hfz4_0
                          try clear hfz4_1
                          try clear hfz4_2
                          try clear hfz4_3
                          try clear hfz4_4
                          try clear hfz4_5
                          try clear hfz4_6
                          try clear hfz9_0
                          try clear hfz9_1
                          try clear hfz9_2
                          try clear hfz9_3
                          try clear hfz9_4
                          try clear hfz9_5
                          try clear hfz9_6
                          try clear p2
                          obtain ⟨kq, x26_22, rfl, HA, HJ22, BK108, HB⟩ := hcut
                          cases kq with
                          | zero => exact absurd HA.out (by simp [larderref02_kindOf.j3])
                          | succ kj22 =>
                            have H := HA.out
                            clear HA
                            simp only [larderref02_kindOf.j3] at H
                            by_cases c25 : x26_22 = true
                            · subst c25
                              have H1 : (some (false, true, 1, 8, false, false, false, true)) = some (r1, r2, r3, r4, r5, r6, r7, r8) := by rw [if_pos rfl] at H; exact H
                              clear H
                              have H := H1
                              clear H1
                              simp only [Option.some.injEq, Prod.mk.injEq] at H
                              obtain ⟨rfl, rfl, rfl, rfl, rfl, rfl, rfl, rfl⟩ := H
                              have hcz26_0 : wc.cell? ⟨gb108, 0, none⟩ = some (.bool false) := (blk_cell BK108.out 0).trans rfl
                              have hcz26_1 : wc.cell? ⟨gb108, 1, none⟩ = some (.bool false) := (blk_cell BK108.out 1).trans rfl
                              have hcz26_2 : wc.cell? ⟨gb108, 2, none⟩ = some (.int .i64 0) := (blk_cell BK108.out 2).trans rfl
                              have hcz26_3 : wc.cell? ⟨gb108, 3, none⟩ = some (.int .i64 0) := (blk_cell BK108.out 3).trans rfl
                              have hcz26_4 : wc.cell? ⟨gb108, 4, none⟩ = some (.bool false) := (blk_cell BK108.out 4).trans rfl
                              have hcz26_5 : wc.cell? ⟨gb108, 5, none⟩ = some (.bool false) := (blk_cell BK108.out 5).trans rfl
                              have hcz26_6 : wc.cell? ⟨gb108, 6, none⟩ = some (.bool false) := (blk_cell BK108.out 6).trans rfl
                              have hfz26_0 := blk_frozen BK108.out 0
                              have hfz26_1 := blk_frozen BK108.out 1
                              have hfz26_2 := blk_frozen BK108.out 2
                              have hfz26_3 := blk_frozen BK108.out 3
                              have hfz26_4 := blk_frozen BK108.out 4
                              have hfz26_5 := blk_frozen BK108.out 5
                              have hfz26_6 := blk_frozen BK108.out 6
                              go_wp2
                              refine bodyPost_ret (results_ct rfl _ _ gb108 57 #[.bool false, .bool true, .int .i64 1, .int .i64 8, .bool false, .bool false, .bool false] (0, 0) _ rfl (by (with_reducible repeat (first | refine blk_drewN ?_ _ | refine blk_drew ?_ | refine blk_alloc ?_ _)); refine blk_put (cs := #[.bool false, .bool true, .int .i64 1, .int .i64 8, .bool false, .bool false, .bool false]) ?_ 6 _ rfl; (with_reducible repeat (first | refine blk_drewN ?_ _ | refine blk_drew ?_ | refine blk_alloc ?_ _)); refine blk_put (cs := #[.bool false, .bool true, .int .i64 1, .int .i64 8, .bool false, .bool false, .bool false]) ?_ 5 _ rfl; (with_reducible repeat (first | refine blk_drewN ?_ _ | refine blk_drew ?_ | refine blk_alloc ?_ _)); refine blk_put (cs := #[.bool false, .bool true, .int .i64 1, .int .i64 8, .bool false, .bool false, .bool false]) ?_ 4 _ rfl; (with_reducible repeat (first | refine blk_drewN ?_ _ | refine blk_drew ?_ | refine blk_alloc ?_ _)); refine blk_put (cs := #[.bool false, .bool true, .int .i64 1, .int .i64 0, .bool false, .bool false, .bool false]) ?_ 3 _ rfl; (with_reducible repeat (first | refine blk_drewN ?_ _ | refine blk_drew ?_ | refine blk_alloc ?_ _)); refine blk_put (cs := #[.bool false, .bool true, .int .i64 0, .int .i64 0, .bool false, .bool false, .bool false]) ?_ 2 _ rfl; (with_reducible repeat (first | refine blk_drewN ?_ _ | refine blk_drew ?_ | refine blk_alloc ?_ _)); refine blk_put (cs := #[.bool false, .bool false, .int .i64 0, .int .i64 0, .bool false, .bool false, .bool false]) ?_ 1 _ rfl; (with_reducible repeat (first | refine blk_drewN ?_ _ | refine blk_drew ?_ | refine blk_alloc ?_ _)); refine blk_put (cs := #[.bool false, .bool false, .int .i64 0, .int .i64 0, .bool false, .bool false, .bool false]) ?_ 0 _ rfl; (with_reducible repeat (first | refine blk_drewN ?_ _ | refine blk_drew ?_ | refine blk_alloc ?_ _)); exact BK108.out) Tryd.underlying57 rfl (by kernel_rfl)) rfl ?_
                              exact ⟨by first | rfl | (simp [errW_none, errW_some] <;> rfl) | (simp [*, errW_none, errW_some] <;> rfl), by repeat (first | (with_reducible first | exact HB.out | apply below_alloc | apply pw_below_drewN | apply below_drew1 | refine below_set ?_ GE108.out) | exact HB.out)⟩
                            · replace c25 := Bool.eq_false_iff.mpr c25
                              subst c25
                              have H1 : (if a0.toList = ([51, 49, 48, 48] : List UInt8) then (larderref02_kindOf.j4 kj22 a0 (a0.toList == ([51, 49, 48, 48] : List UInt8))) else (if a0.toList = ([51, 49, 48, 49] : List UInt8) then (larderref02_kindOf.j4 kj22 a0 (a0.toList == ([51, 49, 48, 49] : List UInt8))) else (if a0.toList = ([51, 49, 48, 50] : List UInt8) then (larderref02_kindOf.j4 kj22 a0 (a0.toList == ([51, 49, 48, 50] : List UInt8))) else (if a0.toList = ([51, 49, 48, 51] : List UInt8) then (larderref02_kindOf.j4 kj22 a0 (a0.toList == ([51, 49, 48, 51] : List UInt8))) else (if a0.toList = ([51, 49, 48, 52] : List UInt8) then (larderref02_kindOf.j4 kj22 a0 (a0.toList == ([51, 49, 48, 52] : List UInt8))) else (larderref02_kindOf.j4 kj22 a0 (a0.toList == ([51, 49, 48, 53] : List UInt8)))))))) = some (r1, r2, r3, r4, r5, r6, r7, r8) := by rw [if_neg (show ¬ (false = true) by decide)] at H; exact H
                              clear H
                              have H := H1
                              clear H1
                              have HC27 := Aside0.mk H
                              clear H
                              go_upto_if 30 with (fail)
                              go_cut [30] (fun v30 wc => ∃ (kq : Nat) (x30_26 : Bool), v30 = .bool x30_26 ∧ Aside0 (larderref02_kindOf.j4 kq a0 x30_26 = some (r1, r2, r3, r4, r5, r6, r7, r8)) ∧ Aside0 (kq ≤ kj22) ∧ Aside0 (wc.heap[gb108]? = some (.cells #[.bool false, .bool false, .int .i64 0, .int .i64 0, .bool false, .bool false, .bool false] 57 (0, 0))) ∧ Aside0 (Below w.heap.size w wc))
                              case first =>
                                have H := HC27.out
                                clear HC27
                                by_cases c28 : a0.toList = ([51, 49, 48, 48] : List UInt8)
                                · rw [if_pos c28] at H
                                  have c28b0 : (a0.toList == ([51, 49, 48, 48] : List UInt8)) = true := beq_iff_eq.mpr c28
                                  have c28b1 : (a0.toList != ([51, 49, 48, 48] : List UInt8)) = false := bne_eq_false_iff_eq.mpr c28
                                  clear c28
                                  (first | rw [c28b0] | (simp only [i64_w, i32_w]; rw [c28b0]) | skip)
                                  have H' := Aside0.mk H
                                  clear H
                                  go_wp2
                                  go_meet
                                  case rel => exact ⟨_, ((a0.toList == ([51, 49, 48, 48] : List UInt8))), (by first | rfl | (simp; done) | (simp [*]; done)), H', ⟨by have := HJ4.out; have := HJ9.out; have := HJ14.out; have := HJ22.out; first | omega | exact Nat.le_refl _⟩, ⟨by (with_reducible repeat (first | refine blk_drewN ?_ _ | refine blk_drew ?_ | refine blk_alloc ?_ _)); exact BK108.out⟩, ⟨by repeat (first | (with_reducible first | exact HB.out | apply below_alloc | apply pw_below_drewN | apply below_drew1 | refine below_set ?_ GE108.out) | exact HB.out)⟩⟩
                                · rw [if_neg c28] at H
                                  have c28b0 : (a0.toList == ([51, 49, 48, 48] : List UInt8)) = false := beq_eq_false_iff_ne.mpr c28
                                  have c28b1 : (a0.toList != ([51, 49, 48, 48] : List UInt8)) = true := bne_iff_ne.mpr c28
                                  (first | rw [c28b0] | (simp only [i64_w, i32_w]; rw [c28b0]) | skip)
                                  by_cases c29 : a0.toList = ([51, 49, 48, 49] : List UInt8)
                                  · rw [if_pos c29] at H
                                    have c29b0 : (a0.toList == ([51, 49, 48, 49] : List UInt8)) = true := beq_iff_eq.mpr c29
                                    have c29b1 : (a0.toList != ([51, 49, 48, 49] : List UInt8)) = false := bne_eq_false_iff_eq.mpr c29
                                    clear c29
                                    have H' := Aside0.mk H
                                    clear H
                                    go_wp2
                                    go_meet
                                    case rel => exact ⟨_, ((a0.toList == ([51, 49, 48, 49] : List UInt8))), (by first | rfl | (simp; done) | (simp [*]; done)), H', ⟨by have := HJ4.out; have := HJ9.out; have := HJ14.out; have := HJ22.out; first | omega | exact Nat.le_refl _⟩, ⟨by (with_reducible repeat (first | refine blk_drewN ?_ _ | refine blk_drew ?_ | refine blk_alloc ?_ _)); exact BK108.out⟩, ⟨by repeat (first | (with_reducible first | exact HB.out | apply below_alloc | apply pw_below_drewN | apply below_drew1 | refine below_set ?_ GE108.out) | exact HB.out)⟩⟩
                                  · rw [if_neg c29] at H
                                    have c29b0 : (a0.toList == ([51, 49, 48, 49] : List UInt8)) = false := beq_eq_false_iff_ne.mpr c29
                                    have c29b1 : (a0.toList != ([51, 49, 48, 49] : List UInt8)) = true := bne_iff_ne.mpr c29
                                    by_cases c30 : a0.toList = ([51, 49, 48, 50] : List UInt8)
                                    · rw [if_pos c30] at H
                                      have c30b0 : (a0.toList == ([51, 49, 48, 50] : List UInt8)) = true := beq_iff_eq.mpr c30
                                      have c30b1 : (a0.toList != ([51, 49, 48, 50] : List UInt8)) = false := bne_eq_false_iff_eq.mpr c30
                                      clear c30
                                      have H' := Aside0.mk H
                                      clear H
                                      go_wp2
                                      go_meet
                                      case rel => exact ⟨_, ((a0.toList == ([51, 49, 48, 50] : List UInt8))), (by first | rfl | (simp; done) | (simp [*]; done)), H', ⟨by have := HJ4.out; have := HJ9.out; have := HJ14.out; have := HJ22.out; first | omega | exact Nat.le_refl _⟩, ⟨by (with_reducible repeat (first | refine blk_drewN ?_ _ | refine blk_drew ?_ | refine blk_alloc ?_ _)); exact BK108.out⟩, ⟨by repeat (first | (with_reducible first | exact HB.out | apply below_alloc | apply pw_below_drewN | apply below_drew1 | refine below_set ?_ GE108.out) | exact HB.out)⟩⟩
                                    · rw [if_neg c30] at H
                                      have c30b0 : (a0.toList == ([51, 49, 48, 50] : List UInt8)) = false := beq_eq_false_iff_ne.mpr c30
                                      have c30b1 : (a0.toList != ([51, 49, 48, 50] : List UInt8)) = true := bne_iff_ne.mpr c30
                                      by_cases c31 : a0.toList = ([51, 49, 48, 51] : List UInt8)
                                      · rw [if_pos c31] at H
                                        have c31b0 : (a0.toList == ([51, 49, 48, 51] : List UInt8)) = true := beq_iff_eq.mpr c31
                                        have c31b1 : (a0.toList != ([51, 49, 48, 51] : List UInt8)) = false := bne_eq_false_iff_eq.mpr c31
                                        clear c31
                                        have H' := Aside0.mk H
                                        clear H
                                        go_wp2
                                        go_meet
                                        case rel => exact ⟨_, ((a0.toList == ([51, 49, 48, 51] : List UInt8))), (by first | rfl | (simp; done) | (simp [*]; done)), H', ⟨by have := HJ4.out; have := HJ9.out; have := HJ14.out; have := HJ22.out; first | omega | exact Nat.le_refl _⟩, ⟨by (with_reducible repeat (first | refine blk_drewN ?_ _ | refine blk_drew ?_ | refine blk_alloc ?_ _)); exact BK108.out⟩, ⟨by repeat (first | (with_reducible first | exact HB.out | apply below_alloc | apply pw_below_drewN | apply below_drew1 | refine below_set ?_ GE108.out) | exact HB.out)⟩⟩
                                      · rw [if_neg c31] at H
                                        have c31b0 : (a0.toList == ([51, 49, 48, 51] : List UInt8)) = false := beq_eq_false_iff_ne.mpr c31
                                        have c31b1 : (a0.toList != ([51, 49, 48, 51] : List UInt8)) = true := bne_iff_ne.mpr c31
                                        by_cases c32 : a0.toList = ([51, 49, 48, 52] : List UInt8)
                                        · rw [if_pos c32] at H
                                          have c32b0 : (a0.toList == ([51, 49, 48, 52] : List UInt8)) = true := beq_iff_eq.mpr c32
                                          have c32b1 : (a0.toList != ([51, 49, 48, 52] : List UInt8)) = false := bne_eq_false_iff_eq.mpr c32
                                          clear c32
                                          have H' := Aside0.mk H
                                          clear H
                                          go_wp2
                                          go_meet
                                          case rel => exact ⟨_, ((a0.toList == ([51, 49, 48, 52] : List UInt8))), (by first | rfl | (simp; done) | (simp [*]; done)), H', ⟨by have := HJ4.out; have := HJ9.out; have := HJ14.out; have := HJ22.out; first | omega | exact Nat.le_refl _⟩, ⟨by (with_reducible repeat (first | refine blk_drewN ?_ _ | refine blk_drew ?_ | refine blk_alloc ?_ _)); exact BK108.out⟩, ⟨by repeat (first | (with_reducible first | exact HB.out | apply below_alloc | apply pw_below_drewN | apply below_drew1 | refine below_set ?_ GE108.out) | exact HB.out)⟩⟩
                                        · rw [if_neg c32] at H
                                          have c32b0 : (a0.toList == ([51, 49, 48, 52] : List UInt8)) = false := beq_eq_false_iff_ne.mpr c32
                                          have c32b1 : (a0.toList != ([51, 49, 48, 52] : List UInt8)) = true := bne_iff_ne.mpr c32
                                          have H' := Aside0.mk H
                                          clear H
                                          go_wp2
                                          go_meet
                                          case rel => exact ⟨_, ((a0.toList == ([51, 49, 48, 53] : List UInt8))), (by first | rfl | (simp; done) | (simp [*]; done)), H', ⟨by have := HJ4.out; have := HJ9.out; have := HJ14.out; have := HJ22.out; first | omega | exact Nat.le_refl _⟩, ⟨by (with_reducible repeat (first | refine blk_drewN ?_ _ | refine blk_drew ?_ | refine blk_alloc ?_ _)); exact BK108.out⟩, ⟨by repeat (first | (with_reducible first | exact HB.out | apply below_alloc | apply pw_below_drewN | apply below_drew1 | refine below_set ?_ GE108.out) | exact HB.out)⟩⟩
                              case rest =>
                                clear HC27
                                try clear c1
                                try clear c2
                                try clear c2b0
                                try clear c2b1
                                try clear p2
                                try clear c3
                                try clear c7
                                try clear c7b0
                                try clear c7b1
                                try clear c8
                                try clear c11
                                try clear c11b0
                                try clear c11b1
                                try clear c12
                                try clear c12b0
                                try clear c12b1
                                try clear c13
                                try clear c16
                                try clear c16b0
                                try clear c16b1
                                try clear c17
                                try clear c17b0
                                try clear c17b1
                                try clear c18
                                try clear c18b0
                                try clear c18b1
                                try clear c19
                                try clear c21
                                try clear c21b0
                                try clear c21b1
                                try clear c24
                                try clear c24b0
                                try clear c24b1
                                try clear c25
                                try clear c28
                                try clear c28b0
                                try clear c28b1
                                try clear c29
                                try clear c29b0
                                try clear c29b1
                                try clear c30
                                try clear c30b0
                                try clear c30b1
                                try clear c31
                                try clear c31b0
                                try clear c31b1
                                try clear c32
                                try clear c32b0
                                try clear c32b1
                                try clear hcz14_0
                                try clear hcz14_1
                                try clear hcz14_2
                                try clear hcz14_3
                                try clear hcz14_4
                                try clear hcz14_5
                                try clear hcz14_6
                                try clear hcz20_0
                                try clear hcz20_1
                                try clear hcz20_2
                                try clear hcz20_3
                                try clear hcz20_4
                                try clear hcz20_5
                                try clear hcz20_6
                                try clear hcz22_0
                                try clear hcz22_1
                                try clear hcz22_2
                                try clear hcz22_3
                                try clear hcz22_4
                                try clear hcz22_5
                                try clear hcz22_6
                                try clear hcz26_0
                                try clear hcz26_1
                                try clear hcz26_2
                                try clear hcz26_3
                                try clear hcz26_4
                                try clear hcz26_5
                                try clear hcz26_6
                                try clear hcz4_0
                                try clear hcz4_1
                                try clear hcz4_2
                                try clear hcz4_3
                                try clear hcz4_4
                                try clear hcz4_5
                                try clear hcz4_6
                                try clear hcz9_0
                                try clear hcz9_1
                                try clear hcz9_2
                                try clear hcz9_3
                                try clear hcz9_4
                                try clear hcz9_5
                                try clear hcz9_6
                                try clear hfz14_0
                                try clear hfz14_1
                                try clear hfz14_2
                                try clear hfz14_3
                                try clear hfz14_4
                                try clear hfz14_5
                                try clear hfz14_6
                                try clear hfz20_0
                                try clear hfz20_1
                                try clear hfz20_2
                                try clear hfz20_3
                                try clear hfz20_4
                                try clear hfz20_5
                                try clear hfz20_6
                                try clear hfz22_0
                                try clear hfz22_1
                                try clear hfz22_2
                                try clear hfz22_3
                                try clear hfz22_4
                                try clear hfz22_5
                                try clear hfz22_6
                                try clear hfz26_0
                                try clear hfz26_1
                                try clear hfz26_2
                                try clear hfz26_3
                                try clear hfz26_4
                                try clear hfz26_5
                                try clear hfz26_6
                                try clear hfz4_0
                                try clear hfz4_1
                                try clear hfz4_2
                                try clear hfz4_3
                                try clear hfz4_4
                                try clear hfz4_5
                                try clear hfz4_6
                                try clear hfz9_0
                                try clear hfz9_1
                                try clear hfz9_2
                                try clear hfz9_3
                                try clear hfz9_4
                                try clear hfz9_5
                                try clear hfz9_6
                                try clear p2
                                obtain ⟨kq, x30_26, rfl, HA, HJ26, BK108, HB⟩ := hcut
                                cases kq with
                                | zero => exact absurd HA.out (by simp [larderref02_kindOf.j4])
                                | succ kj26 =>
                                  have H := HA.out
                                  clear HA
                                  simp only [larderref02_kindOf.j4] at H
                                  by_cases c33 : x30_26 = true
                                  · subst c33
                                    have H1 : (some (true, true, 6, 6, false, false, true, true)) = some (r1, r2, r3, r4, r5, r6, r7, r8) := by rw [if_pos rfl] at H; exact H
                                    clear H
                                    have H := H1
                                    clear H1
                                    simp only [Option.some.injEq, Prod.mk.injEq] at H
                                    obtain ⟨rfl, rfl, rfl, rfl, rfl, rfl, rfl, rfl⟩ := H
                                    have hcz34_0 : wc.cell? ⟨gb108, 0, none⟩ = some (.bool false) := (blk_cell BK108.out 0).trans rfl
                                    have hcz34_1 : wc.cell? ⟨gb108, 1, none⟩ = some (.bool false) := (blk_cell BK108.out 1).trans rfl
                                    have hcz34_2 : wc.cell? ⟨gb108, 2, none⟩ = some (.int .i64 0) := (blk_cell BK108.out 2).trans rfl
                                    have hcz34_3 : wc.cell? ⟨gb108, 3, none⟩ = some (.int .i64 0) := (blk_cell BK108.out 3).trans rfl
                                    have hcz34_4 : wc.cell? ⟨gb108, 4, none⟩ = some (.bool false) := (blk_cell BK108.out 4).trans rfl
                                    have hcz34_5 : wc.cell? ⟨gb108, 5, none⟩ = some (.bool false) := (blk_cell BK108.out 5).trans rfl
                                    have hcz34_6 : wc.cell? ⟨gb108, 6, none⟩ = some (.bool false) := (blk_cell BK108.out 6).trans rfl
                                    have hfz34_0 := blk_frozen BK108.out 0
                                    have hfz34_1 := blk_frozen BK108.out 1
                                    have hfz34_2 := blk_frozen BK108.out 2
                                    have hfz34_3 := blk_frozen BK108.out 3
                                    have hfz34_4 := blk_frozen BK108.out 4
                                    have hfz34_5 := blk_frozen BK108.out 5
                                    have hfz34_6 := blk_frozen BK108.out 6
                                    go_wp2
                                    refine bodyPost_ret (results_ct rfl _ _ gb108 57 #[.bool true, .bool true, .int .i64 6, .int .i64 6, .bool false, .bool false, .bool true] (0, 0) _ rfl (by (with_reducible repeat (first | refine blk_drewN ?_ _ | refine blk_drew ?_ | refine blk_alloc ?_ _)); refine blk_put (cs := #[.bool true, .bool true, .int .i64 6, .int .i64 6, .bool false, .bool false, .bool false]) ?_ 6 _ rfl; (with_reducible repeat (first | refine blk_drewN ?_ _ | refine blk_drew ?_ | refine blk_alloc ?_ _)); refine blk_put (cs := #[.bool true, .bool true, .int .i64 6, .int .i64 6, .bool false, .bool false, .bool false]) ?_ 5 _ rfl; (with_reducible repeat (first | refine blk_drewN ?_ _ | refine blk_drew ?_ | refine blk_alloc ?_ _)); refine blk_put (cs := #[.bool true, .bool true, .int .i64 6, .int .i64 6, .bool false, .bool false, .bool false]) ?_ 4 _ rfl; (with_reducible repeat (first | refine blk_drewN ?_ _ | refine blk_drew ?_ | refine blk_alloc ?_ _)); refine blk_put (cs := #[.bool true, .bool true, .int .i64 6, .int .i64 0, .bool false, .bool false, .bool false]) ?_ 3 _ rfl; (with_reducible repeat (first | refine blk_drewN ?_ _ | refine blk_drew ?_ | refine blk_alloc ?_ _)); refine blk_put (cs := #[.bool true, .bool true, .int .i64 0, .int .i64 0, .bool false, .bool false, .bool false]) ?_ 2 _ rfl; (with_reducible repeat (first | refine blk_drewN ?_ _ | refine blk_drew ?_ | refine blk_alloc ?_ _)); refine blk_put (cs := #[.bool true, .bool false, .int .i64 0, .int .i64 0, .bool false, .bool false, .bool false]) ?_ 1 _ rfl; (with_reducible repeat (first | refine blk_drewN ?_ _ | refine blk_drew ?_ | refine blk_alloc ?_ _)); refine blk_put (cs := #[.bool false, .bool false, .int .i64 0, .int .i64 0, .bool false, .bool false, .bool false]) ?_ 0 _ rfl; (with_reducible repeat (first | refine blk_drewN ?_ _ | refine blk_drew ?_ | refine blk_alloc ?_ _)); exact BK108.out) Tryd.underlying57 rfl (by kernel_rfl)) rfl ?_
                                    exact ⟨by first | rfl | (simp [errW_none, errW_some] <;> rfl) | (simp [*, errW_none, errW_some] <;> rfl), by repeat (first | (with_reducible first | exact HB.out | apply below_alloc | apply pw_below_drewN | apply below_drew1 | refine below_set ?_ GE108.out) | exact HB.out)⟩
                                  · replace c33 := Bool.eq_false_iff.mpr c33
                                    subst c33
                                    have H1 : (if a0.toList = ([51, 57, 50, 48] : List UInt8) then (larderref02_kindOf.j5 kj26 a0 (a0.toList == ([51, 57, 50, 48] : List UInt8))) else (if a0.toList = ([51, 57, 50, 49] : List UInt8) then (larderref02_kindOf.j5 kj26 a0 (a0.toList == ([51, 57, 50, 49] : List UInt8))) else (if a0.toList = ([51, 57, 50, 50] : List UInt8) then (larderref02_kindOf.j5 kj26 a0 (a0.toList == ([51, 57, 50, 50] : List UInt8))) else (larderref02_kindOf.j5 kj26 a0 (a0.toList == ([51, 57, 50, 51] : List UInt8)))))) = some (r1, r2, r3, r4, r5, r6, r7, r8) := by rw [if_neg (show ¬ (false = true) by decide)] at H; exact H
                                    clear H
                                    have H := H1
                                    clear H1
                                    have HC35 := Aside0.mk H
                                    clear H
                                    go_upto_if 38 with (fail)
                                    go_cut [38] (fun v38 wc => ∃ (kq : Nat) (x38_34 : Bool), v38 = .bool x38_34 ∧ Aside0 (larderref02_kindOf.j5 kq a0 x38_34 = some (r1, r2, r3, r4, r5, r6, r7, r8)) ∧ Aside0 (kq ≤ kj26) ∧ Aside0 (wc.heap[gb108]? = some (.cells #[.bool false, .bool false, .int .i64 0, .int .i64 0, .bool false, .bool false, .bool false] 57 (0, 0))) ∧ Aside0 (Below w.heap.size w wc))
                                    case first =>
                                      have H := HC35.out
                                      clear HC35
                                      by_cases c36 : a0.toList = ([51, 57, 50, 48] : List UInt8)
                                      · rw [if_pos c36] at H
                                        have c36b0 : (a0.toList == ([51, 57, 50, 48] : List UInt8)) = true := beq_iff_eq.mpr c36
                                        have c36b1 : (a0.toList != ([51, 57, 50, 48] : List UInt8)) = false := bne_eq_false_iff_eq.mpr c36
                                        clear c36
                                        (first | rw [c36b0] | (simp only [i64_w, i32_w]; rw [c36b0]) | skip)
                                        have H' := Aside0.mk H
                                        clear H
                                        go_wp2
                                        go_meet
                                        case rel => exact ⟨_, ((a0.toList == ([51, 57, 50, 48] : List UInt8))), (by first | rfl | (simp; done) | (simp [*]; done)), H', ⟨by have := HJ4.out; have := HJ9.out; have := HJ14.out; have := HJ22.out; have := HJ26.out; first | omega | exact Nat.le_refl _⟩, ⟨by (with_reducible repeat (first | refine blk_drewN ?_ _ | refine blk_drew ?_ | refine blk_alloc ?_ _)); exact BK108.out⟩, ⟨by repeat (first | (with_reducible first | exact HB.out | apply below_alloc | apply pw_below_drewN | apply below_drew1 | refine below_set ?_ GE108.out) | exact HB.out)⟩⟩
                                      · rw [if_neg c36] at H
                                        have c36b0 : (a0.toList == ([51, 57, 50, 48] : List UInt8)) = false := beq_eq_false_iff_ne.mpr c36
                                        have c36b1 : (a0.toList != ([51, 57, 50, 48] : List UInt8)) = true := bne_iff_ne.mpr c36
                                        (first | rw [c36b0] | (simp only [i64_w, i32_w]; rw [c36b0]) | skip)
                                        by_cases c37 : a0.toList = ([51, 57, 50, 49] : List UInt8)
                                        · rw [if_pos c37] at H
                                          have c37b0 : (a0.toList == ([51, 57, 50, 49] : List UInt8)) = true := beq_iff_eq.mpr c37
                                          have c37b1 : (a0.toList != ([51, 57, 50, 49] : List UInt8)) = false := bne_eq_false_iff_eq.mpr c37
                                          clear c37
                                          have H' := Aside0.mk H
                                          clear H
                                          go_wp2
                                          go_meet
                                          case rel => exact ⟨_, ((a0.toList == ([51, 57, 50, 49] : List UInt8))), (by first | rfl | (simp; done) | (simp [*]; done)), H', ⟨by have := HJ4.out; have := HJ9.out; have := HJ14.out; have := HJ22.out; have := HJ26.out; first | omega | exact Nat.le_refl _⟩, ⟨by (with_reducible repeat (first | refine blk_drewN ?_ _ | refine blk_drew ?_ | refine blk_alloc ?_ _)); exact BK108.out⟩, ⟨by repeat (first | (with_reducible first | exact HB.out | apply below_alloc | apply pw_below_drewN | apply below_drew1 | refine below_set ?_ GE108.out) | exact HB.out)⟩⟩
                                        · rw [if_neg c37] at H
                                          have c37b0 : (a0.toList == ([51, 57, 50, 49] : List UInt8)) = false := beq_eq_false_iff_ne.mpr c37
                                          have c37b1 : (a0.toList != ([51, 57, 50, 49] : List UInt8)) = true := bne_iff_ne.mpr c37
                                          by_cases c38 : a0.toList = ([51, 57, 50, 50] : List UInt8)
                                          · rw [if_pos c38] at H
                                            have c38b0 : (a0.toList == ([51, 57, 50, 50] : List UInt8)) = true := beq_iff_eq.mpr c38
                                            have c38b1 : (a0.toList != ([51, 57, 50, 50] : List UInt8)) = false := bne_eq_false_iff_eq.mpr c38
                                            clear c38
                                            have H' := Aside0.mk H
                                            clear H
                                            go_wp2
                                            go_meet
                                            case rel => exact ⟨_, ((a0.toList == ([51, 57, 50, 50] : List UInt8))), (by first | rfl | (simp; done) | (simp [*]; done)), H', ⟨by have := HJ4.out; have := HJ9.out; have := HJ14.out; have := HJ22.out; have := HJ26.out; first | omega | exact Nat.le_refl _⟩, ⟨by (with_reducible repeat (first | refine blk_drewN ?_ _ | refine blk_drew ?_ | refine blk_alloc ?_ _)); exact BK108.out⟩, ⟨by repeat (first | (with_reducible first | exact HB.out | apply below_alloc | apply pw_below_drewN | apply below_drew1 | refine below_set ?_ GE108.out) | exact HB.out)⟩⟩
                                          · rw [if_neg c38] at H
                                            have c38b0 : (a0.toList == ([51, 57, 50, 50] : List UInt8)) = false := beq_eq_false_iff_ne.mpr c38
                                            have c38b1 : (a0.toList != ([51, 57, 50, 50] : List UInt8)) = true := bne_iff_ne.mpr c38
                                            have H' := Aside0.mk H
                                            clear H
                                            go_wp2
                                            go_meet
                                            case rel => exact ⟨_, ((a0.toList == ([51, 57, 50, 51] : List UInt8))), (by first | rfl | (simp; done) | (simp [*]; done)), H', ⟨by have := HJ4.out; have := HJ9.out; have := HJ14.out; have := HJ22.out; have := HJ26.out; first | omega | exact Nat.le_refl _⟩, ⟨by (with_reducible repeat (first | refine blk_drewN ?_ _ | refine blk_drew ?_ | refine blk_alloc ?_ _)); exact BK108.out⟩, ⟨by repeat (first | (with_reducible first | exact HB.out | apply below_alloc | apply pw_below_drewN | apply below_drew1 | refine below_set ?_ GE108.out) | exact HB.out)⟩⟩
                                    case rest =>
                                      clear HC35
                                      try clear c1
                                      try clear c2
                                      try clear c2b0
                                      try clear c2b1
                                      try clear p2
                                      try clear c3
                                      try clear c7
                                      try clear c7b0
                                      try clear c7b1
                                      try clear c8
                                      try clear c11
                                      try clear c11b0
                                      try clear c11b1
                                      try clear c12
                                      try clear c12b0
                                      try clear c12b1
                                      try clear c13
                                      try clear c16
                                      try clear c16b0
                                      try clear c16b1
                                      try clear c17
                                      try clear c17b0
                                      try clear c17b1
                                      try clear c18
                                      try clear c18b0
                                      try clear c18b1
                                      try clear c19
                                      try clear c21
                                      try clear c21b0
                                      try clear c21b1
                                      try clear c24
                                      try clear c24b0
                                      try clear c24b1
                                      try clear c25
                                      try clear c28
                                      try clear c28b0
                                      try clear c28b1
                                      try clear c29
                                      try clear c29b0
                                      try clear c29b1
                                      try clear c30
                                      try clear c30b0
                                      try clear c30b1
                                      try clear c31
                                      try clear c31b0
                                      try clear c31b1
                                      try clear c32
                                      try clear c32b0
                                      try clear c32b1
                                      try clear c33
                                      try clear c36
                                      try clear c36b0
                                      try clear c36b1
                                      try clear c37
                                      try clear c37b0
                                      try clear c37b1
                                      try clear c38
                                      try clear c38b0
                                      try clear c38b1
                                      try clear hcz14_0
                                      try clear hcz14_1
                                      try clear hcz14_2
                                      try clear hcz14_3
                                      try clear hcz14_4
                                      try clear hcz14_5
                                      try clear hcz14_6
                                      try clear hcz20_0
                                      try clear hcz20_1
                                      try clear hcz20_2
                                      try clear hcz20_3
                                      try clear hcz20_4
                                      try clear hcz20_5
                                      try clear hcz20_6
                                      try clear hcz22_0
                                      try clear hcz22_1
                                      try clear hcz22_2
                                      try clear hcz22_3
                                      try clear hcz22_4
                                      try clear hcz22_5
                                      try clear hcz22_6
                                      try clear hcz26_0
                                      try clear hcz26_1
                                      try clear hcz26_2
                                      try clear hcz26_3
                                      try clear hcz26_4
                                      try clear hcz26_5
                                      try clear hcz26_6
                                      try clear hcz34_0
                                      try clear hcz34_1
                                      try clear hcz34_2
                                      try clear hcz34_3
                                      try clear hcz34_4
                                      try clear hcz34_5
                                      try clear hcz34_6
                                      try clear hcz4_0
                                      try clear hcz4_1
                                      try clear hcz4_2
                                      try clear hcz4_3
                                      try clear hcz4_4
                                      try clear hcz4_5
                                      try clear hcz4_6
                                      try clear hcz9_0
                                      try clear hcz9_1
                                      try clear hcz9_2
                                      try clear hcz9_3
                                      try clear hcz9_4
                                      try clear hcz9_5
                                      try clear hcz9_6
                                      try clear hfz14_0
                                      try clear hfz14_1
                                      try clear hfz14_2
                                      try clear hfz14_3
                                      try clear hfz14_4
                                      try clear hfz14_5
                                      try clear hfz14_6
                                      try clear hfz20_0
                                      try clear hfz20_1
                                      try clear hfz20_2
                                      try clear hfz20_3
                                      try clear hfz20_4
                                      try clear hfz20_5
                                      try clear hfz20_6
                                      try clear hfz22_0
                                      try clear hfz22_1
                                      try clear hfz22_2
                                      try clear hfz22_3
                                      try clear hfz22_4
                                      try clear hfz22_5
                                      try clear hfz22_6
                                      try clear hfz26_0
                                      try clear hfz26_1
                                      try clear hfz26_2
                                      try clear hfz26_3
                                      try clear hfz26_4
                                      try clear hfz26_5
                                      try clear hfz26_6
                                      try clear hfz34_0
                                      try clear hfz34_1
                                      try clear hfz34_2
                                      try clear hfz34_3
                                      try clear hfz34_4
                                      try clear hfz34_5
                                      try clear hfz34_6
                                      try clear hfz4_0
                                      try clear hfz4_1
                                      try clear hfz4_2
                                      try clear hfz4_3
                                      try clear hfz4_4
                                      try clear hfz4_5
                                      try clear hfz4_6
                                      try clear hfz9_0
                                      try clear hfz9_1
                                      try clear hfz9_2
                                      try clear hfz9_3
                                      try clear hfz9_4
                                      try clear hfz9_5
                                      try clear hfz9_6
                                      try clear p2
                                      obtain ⟨kq, x38_34, rfl, HA, HJ34, BK108, HB⟩ := hcut
                                      cases kq with
                                      | zero => exact absurd HA.out (by simp [larderref02_kindOf.j5])
                                      | succ kj34 =>
                                        have H := HA.out
                                        clear HA
                                        simp only [larderref02_kindOf.j5] at H
                                        by_cases c39 : x38_34 = true
                                        · subst c39
                                          have H1 : (some (false, true, 1, 15, false, false, true, true)) = some (r1, r2, r3, r4, r5, r6, r7, r8) := by rw [if_pos rfl] at H; exact H
                                          clear H
                                          have H := H1
                                          clear H1
                                          simp only [Option.some.injEq, Prod.mk.injEq] at H
                                          obtain ⟨rfl, rfl, rfl, rfl, rfl, rfl, rfl, rfl⟩ := H
                                          have hcz40_0 : wc.cell? ⟨gb108, 0, none⟩ = some (.bool false) := (blk_cell BK108.out 0).trans rfl
                                          have hcz40_1 : wc.cell? ⟨gb108, 1, none⟩ = some (.bool false) := (blk_cell BK108.out 1).trans rfl
                                          have hcz40_2 : wc.cell? ⟨gb108, 2, none⟩ = some (.int .i64 0) := (blk_cell BK108.out 2).trans rfl
                                          have hcz40_3 : wc.cell? ⟨gb108, 3, none⟩ = some (.int .i64 0) := (blk_cell BK108.out 3).trans rfl
                                          have hcz40_4 : wc.cell? ⟨gb108, 4, none⟩ = some (.bool false) := (blk_cell BK108.out 4).trans rfl
                                          have hcz40_5 : wc.cell? ⟨gb108, 5, none⟩ = some (.bool false) := (blk_cell BK108.out 5).trans rfl
                                          have hcz40_6 : wc.cell? ⟨gb108, 6, none⟩ = some (.bool false) := (blk_cell BK108.out 6).trans rfl
                                          have hfz40_0 := blk_frozen BK108.out 0
                                          have hfz40_1 := blk_frozen BK108.out 1
                                          have hfz40_2 := blk_frozen BK108.out 2
                                          have hfz40_3 := blk_frozen BK108.out 3
                                          have hfz40_4 := blk_frozen BK108.out 4
                                          have hfz40_5 := blk_frozen BK108.out 5
                                          have hfz40_6 := blk_frozen BK108.out 6
                                          go_wp2
                                          refine bodyPost_ret (results_ct rfl _ _ gb108 57 #[.bool false, .bool true, .int .i64 1, .int .i64 15, .bool false, .bool false, .bool true] (0, 0) _ rfl (by (with_reducible repeat (first | refine blk_drewN ?_ _ | refine blk_drew ?_ | refine blk_alloc ?_ _)); refine blk_put (cs := #[.bool false, .bool true, .int .i64 1, .int .i64 15, .bool false, .bool false, .bool false]) ?_ 6 _ rfl; (with_reducible repeat (first | refine blk_drewN ?_ _ | refine blk_drew ?_ | refine blk_alloc ?_ _)); refine blk_put (cs := #[.bool false, .bool true, .int .i64 1, .int .i64 15, .bool false, .bool false, .bool false]) ?_ 5 _ rfl; (with_reducible repeat (first | refine blk_drewN ?_ _ | refine blk_drew ?_ | refine blk_alloc ?_ _)); refine blk_put (cs := #[.bool false, .bool true, .int .i64 1, .int .i64 15, .bool false, .bool false, .bool false]) ?_ 4 _ rfl; (with_reducible repeat (first | refine blk_drewN ?_ _ | refine blk_drew ?_ | refine blk_alloc ?_ _)); refine blk_put (cs := #[.bool false, .bool true, .int .i64 1, .int .i64 0, .bool false, .bool false, .bool false]) ?_ 3 _ rfl; (with_reducible repeat (first | refine blk_drewN ?_ _ | refine blk_drew ?_ | refine blk_alloc ?_ _)); refine blk_put (cs := #[.bool false, .bool true, .int .i64 0, .int .i64 0, .bool false, .bool false, .bool false]) ?_ 2 _ rfl; (with_reducible repeat (first | refine blk_drewN ?_ _ | refine blk_drew ?_ | refine blk_alloc ?_ _)); refine blk_put (cs := #[.bool false, .bool false, .int .i64 0, .int .i64 0, .bool false, .bool false, .bool false]) ?_ 1 _ rfl; (with_reducible repeat (first | refine blk_drewN ?_ _ | refine blk_drew ?_ | refine blk_alloc ?_ _)); refine blk_put (cs := #[.bool false, .bool false, .int .i64 0, .int .i64 0, .bool false, .bool false, .bool false]) ?_ 0 _ rfl; (with_reducible repeat (first | refine blk_drewN ?_ _ | refine blk_drew ?_ | refine blk_alloc ?_ _)); exact BK108.out) Tryd.underlying57 rfl (by kernel_rfl)) rfl ?_
                                          exact ⟨by first | rfl | (simp [errW_none, errW_some] <;> rfl) | (simp [*, errW_none, errW_some] <;> rfl), by repeat (first | (with_reducible first | exact HB.out | apply below_alloc | apply pw_below_drewN | apply below_drew1 | refine below_set ?_ GE108.out) | exact HB.out)⟩
                                        · replace c39 := Bool.eq_false_iff.mpr c39
                                          subst c39
                                          have H1 : (if a0.toList = ([52, 48, 48] : List UInt8) then (larderref02_kindOf.j6 kj34 a0 (a0.toList == ([52, 48, 48] : List UInt8))) else (larderref02_kindOf.j6 kj34 a0 (a0.toList == ([57, 48] : List UInt8)))) = some (r1, r2, r3, r4, r5, r6, r7, r8) := by rw [if_neg (show ¬ (false = true) by decide)] at H; exact H
                                          clear H
                                          have H := H1
                                          clear H1
                                          have HC41 := Aside0.mk H
                                          clear H
                                          go_upto_if 44 with (fail)
                                          go_cut [44] (fun v44 wc => ∃ (kq : Nat) (x44_40 : Bool), v44 = .bool x44_40 ∧ Aside0 (larderref02_kindOf.j6 kq a0 x44_40 = some (r1, r2, r3, r4, r5, r6, r7, r8)) ∧ Aside0 (kq ≤ kj34) ∧ Aside0 (wc.heap[gb108]? = some (.cells #[.bool false, .bool false, .int .i64 0, .int .i64 0, .bool false, .bool false, .bool false] 57 (0, 0))) ∧ Aside0 (Below w.heap.size w wc))
                                          case first =>
                                            have H := HC41.out
                                            clear HC41
                                            by_cases c42 : a0.toList = ([52, 48, 48] : List UInt8)
                                            · rw [if_pos c42] at H
                                              have c42b0 : (a0.toList == ([52, 48, 48] : List UInt8)) = true := beq_iff_eq.mpr c42
                                              have c42b1 : (a0.toList != ([52, 48, 48] : List UInt8)) = false := bne_eq_false_iff_eq.mpr c42
                                              clear c42
                                              (first | rw [c42b0] | (simp only [i64_w, i32_w]; rw [c42b0]) | skip)
                                              have H' := Aside0.mk H
                                              clear H
                                              go_wp2
                                              go_meet
                                              case rel => exact ⟨_, ((a0.toList == ([52, 48, 48] : List UInt8))), (by first | rfl | (simp; done) | (simp [*]; done)), H', ⟨by have := HJ4.out; have := HJ9.out; have := HJ14.out; have := HJ22.out; have := HJ26.out; have := HJ34.out; first | omega | exact Nat.le_refl _⟩, ⟨by (with_reducible repeat (first | refine blk_drewN ?_ _ | refine blk_drew ?_ | refine blk_alloc ?_ _)); exact BK108.out⟩, ⟨by repeat (first | (with_reducible first | exact HB.out | apply below_alloc | apply pw_below_drewN | apply below_drew1 | refine below_set ?_ GE108.out) | exact HB.out)⟩⟩
                                            · rw [if_neg c42] at H
                                              have c42b0 : (a0.toList == ([52, 48, 48] : List UInt8)) = false := beq_eq_false_iff_ne.mpr c42
                                              have c42b1 : (a0.toList != ([52, 48, 48] : List UInt8)) = true := bne_iff_ne.mpr c42
                                              (first | rw [c42b0] | (simp only [i64_w, i32_w]; rw [c42b0]) | skip)
                                              have H' := Aside0.mk H
                                              clear H
                                              go_wp2
                                              go_meet
                                              case rel => exact ⟨_, ((a0.toList == ([57, 48] : List UInt8))), (by first | rfl | (simp; done) | (simp [*]; done)), H', ⟨by have := HJ4.out; have := HJ9.out; have := HJ14.out; have := HJ22.out; have := HJ26.out; have := HJ34.out; first | omega | exact Nat.le_refl _⟩, ⟨by (with_reducible repeat (first | refine blk_drewN ?_ _ | refine blk_drew ?_ | refine blk_alloc ?_ _)); exact BK108.out⟩, ⟨by repeat (first | (with_reducible first | exact HB.out | apply below_alloc | apply pw_below_drewN | apply below_drew1 | refine below_set ?_ GE108.out) | exact HB.out)⟩⟩
                                          case rest =>
                                            clear HC41
                                            try clear c1
                                            try clear c2
                                            try clear c2b0
                                            try clear c2b1
                                            try clear p2
                                            try clear c3
                                            try clear c4
                                            try clear c7
                                            try clear c7b0
                                            try clear c7b1
                                            try clear c8
                                            try clear c11
                                            try clear c11b0
                                            try clear c11b1
                                            try clear c12
                                            try clear c12b0
                                            try clear c12b1
                                            try clear c13
                                            try clear c16
                                            try clear c16b0
                                            try clear c16b1
                                            try clear c17
                                            try clear c17b0
                                            try clear c17b1
                                            try clear c18
                                            try clear c18b0
                                            try clear c18b1
                                            try clear c19
                                            try clear c21
                                            try clear c21b0
                                            try clear c21b1
                                            try clear c24
                                            try clear c24b0
                                            try clear c24b1
                                            try clear c25
                                            try clear c28
                                            try clear c28b0
                                            try clear c28b1
                                            try clear c29
                                            try clear c29b0
                                            try clear c29b1
                                            try clear c30
                                            try clear c30b0
                                            try clear c30b1
                                            try clear c31
                                            try clear c31b0
                                            try clear c31b1
                                            try clear c32
                                            try clear c32b0
                                            try clear c32b1
                                            try clear c33
                                            try clear c36
                                            try clear c36b0
                                            try clear c36b1
                                            try clear c37
                                            try clear c37b0
                                            try clear c37b1
                                            try clear c38
                                            try clear c38b0
                                            try clear c38b1
                                            try clear c39
                                            try clear c42
                                            try clear c42b0
                                            try clear c42b1
                                            try clear hcz14_0
                                            try clear hcz14_1
                                            try clear hcz14_2
                                            try clear hcz14_3
                                            try clear hcz14_4
                                            try clear hcz14_5
                                            try clear hcz14_6
                                            try clear hcz20_0
                                            try clear hcz20_1
                                            try clear hcz20_2
                                            try clear hcz20_3
                                            try clear hcz20_4
                                            try clear hcz20_5
                                            try clear hcz20_6
                                            try clear hcz22_0
                                            try clear hcz22_1
                                            try clear hcz22_2
                                            try clear hcz22_3
                                            try clear hcz22_4
                                            try clear hcz22_5
                                            try clear hcz22_6
                                            try clear hcz26_0
                                            try clear hcz26_1
                                            try clear hcz26_2
                                            try clear hcz26_3
                                            try clear hcz26_4
                                            try clear hcz26_5
                                            try clear hcz26_6
                                            try clear hcz34_0
                                            try clear hcz34_1
                                            try clear hcz34_2
                                            try clear hcz34_3
                                            try clear hcz34_4
                                            try clear hcz34_5
                                            try clear hcz34_6
                                            try clear hcz40_0
                                            try clear hcz40_1
                                            try clear hcz40_2
                                            try clear hcz40_3
                                            try clear hcz40_4
                                            try clear hcz40_5
                                            try clear hcz40_6
                                            try clear hcz4_0
                                            try clear hcz4_1
                                            try clear hcz4_2
                                            try clear hcz4_3
                                            try clear hcz4_4
                                            try clear hcz4_5
                                            try clear hcz4_6
                                            try clear hcz9_0
                                            try clear hcz9_1
                                            try clear hcz9_2
                                            try clear hcz9_3
                                            try clear hcz9_4
                                            try clear hcz9_5
                                            try clear hcz9_6
                                            try clear hfz14_0
                                            try clear hfz14_1
                                            try clear hfz14_2
                                            try clear hfz14_3
                                            try clear hfz14_4
                                            try clear hfz14_5
                                            try clear hfz14_6
                                            try clear hfz20_0
                                            try clear hfz20_1
                                            try clear hfz20_2
                                            try clear hfz20_3
                                            try clear hfz20_4
                                            try clear hfz20_5
                                            try clear hfz20_6
                                            try clear hfz22_0
                                            try clear hfz22_1
                                            try clear hfz22_2
                                            try clear hfz22_3
                                            try clear hfz22_4
                                            try clear hfz22_5
                                            try clear hfz22_6
                                            try clear hfz26_0
                                            try clear hfz26_1
                                            try clear hfz26_2
                                            try clear hfz26_3
                                            try clear hfz26_4
                                            try clear hfz26_5
                                            try clear hfz26_6
                                            try clear hfz34_0
                                            try clear hfz34_1
                                            try clear hfz34_2
                                            try clear hfz34_3
                                            try clear hfz34_4
                                            try clear hfz34_5
                                            try clear hfz34_6
                                            try clear hfz40_0
                                            try clear hfz40_1
                                            try clear hfz40_2
                                            try clear hfz40_3
                                            try clear hfz40_4
                                            try clear hfz40_5
                                            try clear hfz40_6
                                            try clear hfz4_0
                                            try clear hfz4_1
                                            try clear hfz4_2
                                            try clear hfz4_3
                                            try clear hfz4_4
                                            try clear hfz4_5
                                            try clear hfz4_6
                                            try clear hfz9_0
                                            try clear hfz9_1
                                            try clear hfz9_2
                                            try clear hfz9_3
                                            try clear hfz9_4
                                            try clear hfz9_5
                                            try clear hfz9_6
                                            try clear p2
                                            obtain ⟨kq, x44_40, rfl, HA, HJ40, BK108, HB⟩ := hcut
                                            cases kq with
                                            | zero => exact absurd HA.out (by simp [larderref02_kindOf.j6])
                                            | succ kj40 =>
                                              have H := HA.out
                                              clear HA
                                              simp only [larderref02_kindOf.j6] at H
                                              by_cases c43 : x44_40 = true
                                              · subst c43
                                                have H1 : (some (false, false, 1, 30, false, false, false, true)) = some (r1, r2, r3, r4, r5, r6, r7, r8) := by rw [if_pos rfl] at H; exact H
                                                clear H
                                                have H := H1
                                                clear H1
                                                simp only [Option.some.injEq, Prod.mk.injEq] at H
                                                obtain ⟨rfl, rfl, rfl, rfl, rfl, rfl, rfl, rfl⟩ := H
                                                have hcz44_0 : wc.cell? ⟨gb108, 0, none⟩ = some (.bool false) := (blk_cell BK108.out 0).trans rfl
                                                have hcz44_1 : wc.cell? ⟨gb108, 1, none⟩ = some (.bool false) := (blk_cell BK108.out 1).trans rfl
                                                have hcz44_2 : wc.cell? ⟨gb108, 2, none⟩ = some (.int .i64 0) := (blk_cell BK108.out 2).trans rfl
                                                have hcz44_3 : wc.cell? ⟨gb108, 3, none⟩ = some (.int .i64 0) := (blk_cell BK108.out 3).trans rfl
                                                have hcz44_4 : wc.cell? ⟨gb108, 4, none⟩ = some (.bool false) := (blk_cell BK108.out 4).trans rfl
                                                have hcz44_5 : wc.cell? ⟨gb108, 5, none⟩ = some (.bool false) := (blk_cell BK108.out 5).trans rfl
                                                have hcz44_6 : wc.cell? ⟨gb108, 6, none⟩ = some (.bool false) := (blk_cell BK108.out 6).trans rfl
                                                have hfz44_0 := blk_frozen BK108.out 0
                                                have hfz44_1 := blk_frozen BK108.out 1
                                                have hfz44_2 := blk_frozen BK108.out 2
                                                have hfz44_3 := blk_frozen BK108.out 3
                                                have hfz44_4 := blk_frozen BK108.out 4
                                                have hfz44_5 := blk_frozen BK108.out 5
                                                have hfz44_6 := blk_frozen BK108.out 6
                                                go_wp2
                                                refine bodyPost_ret (results_ct rfl _ _ gb108 57 #[.bool false, .bool false, .int .i64 1, .int .i64 30, .bool false, .bool false, .bool false] (0, 0) _ rfl (by (with_reducible repeat (first | refine blk_drewN ?_ _ | refine blk_drew ?_ | refine blk_alloc ?_ _)); refine blk_put (cs := #[.bool false, .bool false, .int .i64 1, .int .i64 30, .bool false, .bool false, .bool false]) ?_ 6 _ rfl; (with_reducible repeat (first | refine blk_drewN ?_ _ | refine blk_drew ?_ | refine blk_alloc ?_ _)); refine blk_put (cs := #[.bool false, .bool false, .int .i64 1, .int .i64 30, .bool false, .bool false, .bool false]) ?_ 5 _ rfl; (with_reducible repeat (first | refine blk_drewN ?_ _ | refine blk_drew ?_ | refine blk_alloc ?_ _)); refine blk_put (cs := #[.bool false, .bool false, .int .i64 1, .int .i64 30, .bool false, .bool false, .bool false]) ?_ 4 _ rfl; (with_reducible repeat (first | refine blk_drewN ?_ _ | refine blk_drew ?_ | refine blk_alloc ?_ _)); refine blk_put (cs := #[.bool false, .bool false, .int .i64 1, .int .i64 0, .bool false, .bool false, .bool false]) ?_ 3 _ rfl; (with_reducible repeat (first | refine blk_drewN ?_ _ | refine blk_drew ?_ | refine blk_alloc ?_ _)); refine blk_put (cs := #[.bool false, .bool false, .int .i64 0, .int .i64 0, .bool false, .bool false, .bool false]) ?_ 2 _ rfl; (with_reducible repeat (first | refine blk_drewN ?_ _ | refine blk_drew ?_ | refine blk_alloc ?_ _)); refine blk_put (cs := #[.bool false, .bool false, .int .i64 0, .int .i64 0, .bool false, .bool false, .bool false]) ?_ 1 _ rfl; (with_reducible repeat (first | refine blk_drewN ?_ _ | refine blk_drew ?_ | refine blk_alloc ?_ _)); refine blk_put (cs := #[.bool false, .bool false, .int .i64 0, .int .i64 0, .bool false, .bool false, .bool false]) ?_ 0 _ rfl; (with_reducible repeat (first | refine blk_drewN ?_ _ | refine blk_drew ?_ | refine blk_alloc ?_ _)); exact BK108.out) Tryd.underlying57 rfl (by kernel_rfl)) rfl ?_
                                                exact ⟨by first | rfl | (simp [errW_none, errW_some] <;> rfl) | (simp [*, errW_none, errW_some] <;> rfl), by repeat (first | (with_reducible first | exact HB.out | apply below_alloc | apply pw_below_drewN | apply below_drew1 | refine below_set ?_ GE108.out) | exact HB.out)⟩
                                              · replace c43 := Bool.eq_false_iff.mpr c43
                                                subst c43
                                                have H1 : (if a0.toList = ([52, 49, 48] : List UInt8) then (larderref02_kindOf.j7 kj40 a0 (a0.toList == ([52, 49, 48] : List UInt8))) else (if a0.toList = ([52, 49, 49] : List UInt8) then (larderref02_kindOf.j7 kj40 a0 (a0.toList == ([52, 49, 49] : List UInt8))) else (larderref02_kindOf.j7 kj40 a0 (a0.toList == ([52, 49, 52] : List UInt8))))) = some (r1, r2, r3, r4, r5, r6, r7, r8) := by rw [if_neg (show ¬ (false = true) by decide)] at H; exact H
                                                clear H
                                                have H := H1
                                                clear H1
                                                have HC45 := Aside0.mk H
                                                clear H
                                                go_upto_if 48 with (fail)
                                                go_cut [48] (fun v48 wc => ∃ (kq : Nat) (x48_44 : Bool), v48 = .bool x48_44 ∧ Aside0 (larderref02_kindOf.j7 kq a0 x48_44 = some (r1, r2, r3, r4, r5, r6, r7, r8)) ∧ Aside0 (kq ≤ kj40) ∧ Aside0 (wc.heap[gb108]? = some (.cells #[.bool false, .bool false, .int .i64 0, .int .i64 0, .bool false, .bool false, .bool false] 57 (0, 0))) ∧ Aside0 (Below w.heap.size w wc))
                                                case first =>
                                                  have H := HC45.out
                                                  clear HC45
                                                  by_cases c46 : a0.toList = ([52, 49, 48] : List UInt8)
                                                  · rw [if_pos c46] at H
                                                    have c46b0 : (a0.toList == ([52, 49, 48] : List UInt8)) = true := beq_iff_eq.mpr c46
                                                    have c46b1 : (a0.toList != ([52, 49, 48] : List UInt8)) = false := bne_eq_false_iff_eq.mpr c46
                                                    clear c46
                                                    (first | rw [c46b0] | (simp only [i64_w, i32_w]; rw [c46b0]) | skip)
                                                    have H' := Aside0.mk H
                                                    clear H
                                                    go_wp2
                                                    go_meet
                                                    case rel => exact ⟨_, ((a0.toList == ([52, 49, 48] : List UInt8))), (by first | rfl | (simp; done) | (simp [*]; done)), H', ⟨by have := HJ4.out; have := HJ9.out; have := HJ14.out; have := HJ22.out; have := HJ26.out; have := HJ34.out; have := HJ40.out; first | omega | exact Nat.le_refl _⟩, ⟨by (with_reducible repeat (first | refine blk_drewN ?_ _ | refine blk_drew ?_ | refine blk_alloc ?_ _)); exact BK108.out⟩, ⟨by repeat (first | (with_reducible first | exact HB.out | apply below_alloc | apply pw_below_drewN | apply below_drew1 | refine below_set ?_ GE108.out) | exact HB.out)⟩⟩
                                                  · rw [if_neg c46] at H
                                                    have c46b0 : (a0.toList == ([52, 49, 48] : List UInt8)) = false := beq_eq_false_iff_ne.mpr c46
                                                    have c46b1 : (a0.toList != ([52, 49, 48] : List UInt8)) = true := bne_iff_ne.mpr c46
                                                    (first | rw [c46b0] | (simp only [i64_w, i32_w]; rw [c46b0]) | skip)
                                                    by_cases c47 : a0.toList = ([52, 49, 49] : List UInt8)
                                                    · rw [if_pos c47] at H
                                                      have c47b0 : (a0.toList == ([52, 49, 49] : List UInt8)) = true := beq_iff_eq.mpr c47
                                                      have c47b1 : (a0.toList != ([52, 49, 49] : List UInt8)) = false := bne_eq_false_iff_eq.mpr c47
                                                      clear c47
                                                      have H' := Aside0.mk H
                                                      clear H
                                                      go_wp2
                                                      go_meet
                                                      case rel => exact ⟨_, ((a0.toList == ([52, 49, 49] : List UInt8))), (by first | rfl | (simp; done) | (simp [*]; done)), H', ⟨by have := HJ4.out; have := HJ9.out; have := HJ14.out; have := HJ22.out; have := HJ26.out; have := HJ34.out; have := HJ40.out; first | omega | exact Nat.le_refl _⟩, ⟨by (with_reducible repeat (first | refine blk_drewN ?_ _ | refine blk_drew ?_ | refine blk_alloc ?_ _)); exact BK108.out⟩, ⟨by repeat (first | (with_reducible first | exact HB.out | apply below_alloc | apply pw_below_drewN | apply below_drew1 | refine below_set ?_ GE108.out) | exact HB.out)⟩⟩
                                                    · rw [if_neg c47] at H
                                                      have c47b0 : (a0.toList == ([52, 49, 49] : List UInt8)) = false := beq_eq_false_iff_ne.mpr c47
                                                      have c47b1 : (a0.toList != ([52, 49, 49] : List UInt8)) = true := bne_iff_ne.mpr c47
                                                      have H' := Aside0.mk H
                                                      clear H
                                                      go_wp2
                                                      go_meet
                                                      case rel => exact ⟨_, ((a0.toList == ([52, 49, 52] : List UInt8))), (by first | rfl | (simp; done) | (simp [*]; done)), H', ⟨by have := HJ4.out; have := HJ9.out; have := HJ14.out; have := HJ22.out; have := HJ26.out; have := HJ34.out; have := HJ40.out; first | omega | exact Nat.le_refl _⟩, ⟨by (with_reducible repeat (first | refine blk_drewN ?_ _ | refine blk_drew ?_ | refine blk_alloc ?_ _)); exact BK108.out⟩, ⟨by repeat (first | (with_reducible first | exact HB.out | apply below_alloc | apply pw_below_drewN | apply below_drew1 | refine below_set ?_ GE108.out) | exact HB.out)⟩⟩
                                                case rest =>
                                                  clear HC45
                                                  try clear c1
                                                  try clear c2
                                                  try clear c2b0
                                                  try clear c2b1
                                                  try clear p2
                                                  try clear c3
                                                  try clear c4
                                                  try clear c7
                                                  try clear c7b0
                                                  try clear c7b1
                                                  try clear c8
                                                  try clear c11
                                                  try clear c11b0
                                                  try clear c11b1
                                                  try clear c12
                                                  try clear c12b0
                                                  try clear c12b1
                                                  try clear c13
                                                  try clear c16
                                                  try clear c16b0
                                                  try clear c16b1
                                                  try clear c17
                                                  try clear c17b0
                                                  try clear c17b1
                                                  try clear c18
                                                  try clear c18b0
                                                  try clear c18b1
                                                  try clear c19
                                                  try clear c21
                                                  try clear c21b0
                                                  try clear c21b1
                                                  try clear c24
                                                  try clear c24b0
                                                  try clear c24b1
                                                  try clear c25
                                                  try clear c28
                                                  try clear c28b0
                                                  try clear c28b1
                                                  try clear c29
                                                  try clear c29b0
                                                  try clear c29b1
                                                  try clear c30
                                                  try clear c30b0
                                                  try clear c30b1
                                                  try clear c31
                                                  try clear c31b0
                                                  try clear c31b1
                                                  try clear c32
                                                  try clear c32b0
                                                  try clear c32b1
                                                  try clear c33
                                                  try clear c36
                                                  try clear c36b0
                                                  try clear c36b1
                                                  try clear c37
                                                  try clear c37b0
                                                  try clear c37b1
                                                  try clear c38
                                                  try clear c38b0
                                                  try clear c38b1
                                                  try clear c39
                                                  try clear c42
                                                  try clear c42b0
                                                  try clear c42b1
                                                  try clear c43
                                                  try clear c46
                                                  try clear c46b0
                                                  try clear c46b1
                                                  try clear c47
                                                  try clear c47b0
                                                  try clear c47b1
                                                  try clear hcz14_0
                                                  try clear hcz14_1
                                                  try clear hcz14_2
                                                  try clear hcz14_3
                                                  try clear hcz14_4
                                                  try clear hcz14_5
                                                  try clear hcz14_6
                                                  try clear hcz20_0
                                                  try clear hcz20_1
                                                  try clear hcz20_2
                                                  try clear hcz20_3
                                                  try clear hcz20_4
                                                  try clear hcz20_5
                                                  try clear hcz20_6
                                                  try clear hcz22_0
                                                  try clear hcz22_1
                                                  try clear hcz22_2
                                                  try clear hcz22_3
                                                  try clear hcz22_4
                                                  try clear hcz22_5
                                                  try clear hcz22_6
                                                  try clear hcz26_0
                                                  try clear hcz26_1
                                                  try clear hcz26_2
                                                  try clear hcz26_3
                                                  try clear hcz26_4
                                                  try clear hcz26_5
                                                  try clear hcz26_6
                                                  try clear hcz34_0
                                                  try clear hcz34_1
                                                  try clear hcz34_2
                                                  try clear hcz34_3
                                                  try clear hcz34_4
                                                  try clear hcz34_5
                                                  try clear hcz34_6
                                                  try clear hcz40_0
                                                  try clear hcz40_1
                                                  try clear hcz40_2
                                                  try clear hcz40_3
                                                  try clear hcz40_4
                                                  try clear hcz40_5
                                                  try clear hcz40_6
                                                  try clear hcz44_0
                                                  try clear hcz44_1
                                                  try clear hcz44_2
                                                  try clear hcz44_3
                                                  try clear hcz44_4
                                                  try clear hcz44_5
                                                  try clear hcz44_6
                                                  try clear hcz4_0
                                                  try clear hcz4_1
                                                  try clear hcz4_2
                                                  try clear hcz4_3
                                                  try clear hcz4_4
                                                  try clear hcz4_5
                                                  try clear hcz4_6
                                                  try clear hcz9_0
                                                  try clear hcz9_1
                                                  try clear hcz9_2
                                                  try clear hcz9_3
                                                  try clear hcz9_4
                                                  try clear hcz9_5
                                                  try clear hcz9_6
                                                  try clear hfz14_0
                                                  try clear hfz14_1
                                                  try clear hfz14_2
                                                  try clear hfz14_3
                                                  try clear hfz14_4
                                                  try clear hfz14_5
                                                  try clear hfz14_6
                                                  try clear hfz20_0
                                                  try clear hfz20_1
                                                  try clear hfz20_2
                                                  try clear hfz20_3
                                                  try clear hfz20_4
                                                  try clear hfz20_5
                                                  try clear hfz20_6
                                                  try clear hfz22_0
                                                  try clear hfz22_1
                                                  try clear hfz22_2
                                                  try clear hfz22_3
                                                  try clear hfz22_4
                                                  try clear hfz22_5
                                                  try clear hfz22_6
                                                  try clear hfz26_0
                                                  try clear hfz26_1
                                                  try clear hfz26_2
                                                  try clear hfz26_3
                                                  try clear hfz26_4
                                                  try clear hfz26_5
                                                  try clear hfz26_6
                                                  try clear hfz34_0
                                                  try clear hfz34_1
                                                  try clear hfz34_2
                                                  try clear hfz34_3
                                                  try clear hfz34_4
                                                  try clear hfz34_5
                                                  try clear hfz34_6
                                                  try clear hfz40_0
                                                  try clear hfz40_1
                                                  try clear hfz40_2
                                                  try clear hfz40_3
                                                  try clear hfz40_4
                                                  try clear hfz40_5
                                                  try clear hfz40_6
                                                  try clear hfz44_0
                                                  try clear hfz44_1
                                                  try clear hfz44_2
                                                  try clear hfz44_3
                                                  try clear hfz44_4
                                                  try clear hfz44_5
                                                  try clear hfz44_6
                                                  try clear hfz4_0
                                                  try clear hfz4_1
                                                  try clear hfz4_2
                                                  try clear hfz4_3
                                                  try clear hfz4_4
                                                  try clear hfz4_5
                                                  try clear hfz4_6
                                                  try clear hfz9_0
                                                  try clear hfz9_1
                                                  try clear hfz9_2
                                                  try clear hfz9_3
                                                  try clear hfz9_4
                                                  try clear hfz9_5
                                                  try clear hfz9_6
                                                  try clear p2
                                                  obtain ⟨kq, x48_44, rfl, HA, HJ44, BK108, HB⟩ := hcut
                                                  cases kq with
                                                  | zero => exact absurd HA.out (by simp [larderref02_kindOf.j7])
                                                  | succ kj44 =>
                                                    have H := HA.out
                                                    clear HA
                                                    simp only [larderref02_kindOf.j7] at H
                                                    by_cases c48 : x48_44 = true
                                                    · subst c48
                                                      have H1 : (some (true, true, 13, 13, true, false, false, true)) = some (r1, r2, r3, r4, r5, r6, r7, r8) := by rw [if_pos rfl] at H; exact H
                                                      clear H
                                                      have H := H1
                                                      clear H1
                                                      simp only [Option.some.injEq, Prod.mk.injEq] at H
                                                      obtain ⟨rfl, rfl, rfl, rfl, rfl, rfl, rfl, rfl⟩ := H
                                                      have hcz49_0 : wc.cell? ⟨gb108, 0, none⟩ = some (.bool false) := (blk_cell BK108.out 0).trans rfl
                                                      have hcz49_1 : wc.cell? ⟨gb108, 1, none⟩ = some (.bool false) := (blk_cell BK108.out 1).trans rfl
                                                      have hcz49_2 : wc.cell? ⟨gb108, 2, none⟩ = some (.int .i64 0) := (blk_cell BK108.out 2).trans rfl
                                                      have hcz49_3 : wc.cell? ⟨gb108, 3, none⟩ = some (.int .i64 0) := (blk_cell BK108.out 3).trans rfl
                                                      have hcz49_4 : wc.cell? ⟨gb108, 4, none⟩ = some (.bool false) := (blk_cell BK108.out 4).trans rfl
                                                      have hcz49_5 : wc.cell? ⟨gb108, 5, none⟩ = some (.bool false) := (blk_cell BK108.out 5).trans rfl
                                                      have hcz49_6 : wc.cell? ⟨gb108, 6, none⟩ = some (.bool false) := (blk_cell BK108.out 6).trans rfl
                                                      have hfz49_0 := blk_frozen BK108.out 0
                                                      have hfz49_1 := blk_frozen BK108.out 1
                                                      have hfz49_2 := blk_frozen BK108.out 2
                                                      have hfz49_3 := blk_frozen BK108.out 3
                                                      have hfz49_4 := blk_frozen BK108.out 4
                                                      have hfz49_5 := blk_frozen BK108.out 5
                                                      have hfz49_6 := blk_frozen BK108.out 6
                                                      go_wp2
                                                      refine bodyPost_ret (results_ct rfl _ _ gb108 57 #[.bool true, .bool true, .int .i64 13, .int .i64 13, .bool true, .bool false, .bool false] (0, 0) _ rfl (by (with_reducible repeat (first | refine blk_drewN ?_ _ | refine blk_drew ?_ | refine blk_alloc ?_ _)); refine blk_put (cs := #[.bool true, .bool true, .int .i64 13, .int .i64 13, .bool true, .bool false, .bool false]) ?_ 6 _ rfl; (with_reducible repeat (first | refine blk_drewN ?_ _ | refine blk_drew ?_ | refine blk_alloc ?_ _)); refine blk_put (cs := #[.bool true, .bool true, .int .i64 13, .int .i64 13, .bool true, .bool false, .bool false]) ?_ 5 _ rfl; (with_reducible repeat (first | refine blk_drewN ?_ _ | refine blk_drew ?_ | refine blk_alloc ?_ _)); refine blk_put (cs := #[.bool true, .bool true, .int .i64 13, .int .i64 13, .bool false, .bool false, .bool false]) ?_ 4 _ rfl; (with_reducible repeat (first | refine blk_drewN ?_ _ | refine blk_drew ?_ | refine blk_alloc ?_ _)); refine blk_put (cs := #[.bool true, .bool true, .int .i64 13, .int .i64 0, .bool false, .bool false, .bool false]) ?_ 3 _ rfl; (with_reducible repeat (first | refine blk_drewN ?_ _ | refine blk_drew ?_ | refine blk_alloc ?_ _)); refine blk_put (cs := #[.bool true, .bool true, .int .i64 0, .int .i64 0, .bool false, .bool false, .bool false]) ?_ 2 _ rfl; (with_reducible repeat (first | refine blk_drewN ?_ _ | refine blk_drew ?_ | refine blk_alloc ?_ _)); refine blk_put (cs := #[.bool true, .bool false, .int .i64 0, .int .i64 0, .bool false, .bool false, .bool false]) ?_ 1 _ rfl; (with_reducible repeat (first | refine blk_drewN ?_ _ | refine blk_drew ?_ | refine blk_alloc ?_ _)); refine blk_put (cs := #[.bool false, .bool false, .int .i64 0, .int .i64 0, .bool false, .bool false, .bool false]) ?_ 0 _ rfl; (with_reducible repeat (first | refine blk_drewN ?_ _ | refine blk_drew ?_ | refine blk_alloc ?_ _)); exact BK108.out) Tryd.underlying57 rfl (by kernel_rfl)) rfl ?_
                                                      exact ⟨by first | rfl | (simp [errW_none, errW_some] <;> rfl) | (simp [*, errW_none, errW_some] <;> rfl), by repeat (first | (with_reducible first | exact HB.out | apply below_alloc | apply pw_below_drewN | apply below_drew1 | refine below_set ?_ GE108.out) | exact HB.out)⟩
                                                    · replace c48 := Bool.eq_false_iff.mpr c48
                                                      subst c48
                                                      have H1 : (if a0.toList = ([56, 48, 48, 53] : List UInt8) then (some (false, true, 6, 6, false, false, false, true)) else (if a0.toList = ([56, 48, 50, 48] : List UInt8) then (some (false, false, 1, 25, false, false, false, true)) else (if a0.toList = ([57, 49] : List UInt8) then (some (false, false, 1, 90, false, false, false, true)) else (if a0.toList = ([57, 50] : List UInt8) then (some (false, false, 1, 90, false, false, false, true)) else (if a0.toList = ([57, 51] : List UInt8) then (some (false, false, 1, 90, false, false, false, true)) else (if a0.toList = ([57, 52] : List UInt8) then (some (false, false, 1, 90, false, false, false, true)) else (if a0.toList = ([57, 53] : List UInt8) then (some (false, false, 1, 90, false, false, false, true)) else (if a0.toList = ([57, 54] : List UInt8) then (some (false, false, 1, 90, false, false, false, true)) else (if a0.toList = ([57, 55] : List UInt8) then (some (false, false, 1, 90, false, false, false, true)) else (if a0.toList = ([57, 56] : List UInt8) then (some (false, false, 1, 90, false, false, false, true)) else (if a0.toList = ([57, 57] : List UInt8) then (some (false, false, 1, 90, false, false, false, true)) else (some (false, false, 0, 0, false, false, false, false))))))))))))) = some (r1, r2, r3, r4, r5, r6, r7, r8) := by rw [if_neg (show ¬ (false = true) by decide)] at H; exact H
                                                      clear H
                                                      have H := H1
                                                      clear H1
                                                      by_cases c50 : a0.toList = ([56, 48, 48, 53] : List UInt8)
                                                      · rw [if_pos c50] at H
                                                        have c50b0 : (a0.toList == ([56, 48, 48, 53] : List UInt8)) = true := beq_iff_eq.mpr c50
                                                        have c50b1 : (a0.toList != ([56, 48, 48, 53] : List UInt8)) = false := bne_eq_false_iff_eq.mpr c50
                                                        clear c50
                                                        simp only [Option.some.injEq, Prod.mk.injEq] at H
                                                        obtain ⟨rfl, rfl, rfl, rfl, rfl, rfl, rfl, rfl⟩ := H
                                                        have hcz51_0 : wc.cell? ⟨gb108, 0, none⟩ = some (.bool false) := (blk_cell BK108.out 0).trans rfl
                                                        have hcz51_1 : wc.cell? ⟨gb108, 1, none⟩ = some (.bool false) := (blk_cell BK108.out 1).trans rfl
                                                        have hcz51_2 : wc.cell? ⟨gb108, 2, none⟩ = some (.int .i64 0) := (blk_cell BK108.out 2).trans rfl
                                                        have hcz51_3 : wc.cell? ⟨gb108, 3, none⟩ = some (.int .i64 0) := (blk_cell BK108.out 3).trans rfl
                                                        have hcz51_4 : wc.cell? ⟨gb108, 4, none⟩ = some (.bool false) := (blk_cell BK108.out 4).trans rfl
                                                        have hcz51_5 : wc.cell? ⟨gb108, 5, none⟩ = some (.bool false) := (blk_cell BK108.out 5).trans rfl
                                                        have hcz51_6 : wc.cell? ⟨gb108, 6, none⟩ = some (.bool false) := (blk_cell BK108.out 6).trans rfl
                                                        have hfz51_0 := blk_frozen BK108.out 0
                                                        have hfz51_1 := blk_frozen BK108.out 1
                                                        have hfz51_2 := blk_frozen BK108.out 2
                                                        have hfz51_3 := blk_frozen BK108.out 3
                                                        have hfz51_4 := blk_frozen BK108.out 4
                                                        have hfz51_5 := blk_frozen BK108.out 5
                                                        have hfz51_6 := blk_frozen BK108.out 6
                                                        go_wp2
                                                        refine bodyPost_ret (results_ct rfl _ _ gb108 57 #[.bool false, .bool true, .int .i64 6, .int .i64 6, .bool false, .bool false, .bool false] (0, 0) _ rfl (by (with_reducible repeat (first | refine blk_drewN ?_ _ | refine blk_drew ?_ | refine blk_alloc ?_ _)); refine blk_put (cs := #[.bool false, .bool true, .int .i64 6, .int .i64 6, .bool false, .bool false, .bool false]) ?_ 6 _ rfl; (with_reducible repeat (first | refine blk_drewN ?_ _ | refine blk_drew ?_ | refine blk_alloc ?_ _)); refine blk_put (cs := #[.bool false, .bool true, .int .i64 6, .int .i64 6, .bool false, .bool false, .bool false]) ?_ 5 _ rfl; (with_reducible repeat (first | refine blk_drewN ?_ _ | refine blk_drew ?_ | refine blk_alloc ?_ _)); refine blk_put (cs := #[.bool false, .bool true, .int .i64 6, .int .i64 6, .bool false, .bool false, .bool false]) ?_ 4 _ rfl; (with_reducible repeat (first | refine blk_drewN ?_ _ | refine blk_drew ?_ | refine blk_alloc ?_ _)); refine blk_put (cs := #[.bool false, .bool true, .int .i64 6, .int .i64 0, .bool false, .bool false, .bool false]) ?_ 3 _ rfl; (with_reducible repeat (first | refine blk_drewN ?_ _ | refine blk_drew ?_ | refine blk_alloc ?_ _)); refine blk_put (cs := #[.bool false, .bool true, .int .i64 0, .int .i64 0, .bool false, .bool false, .bool false]) ?_ 2 _ rfl; (with_reducible repeat (first | refine blk_drewN ?_ _ | refine blk_drew ?_ | refine blk_alloc ?_ _)); refine blk_put (cs := #[.bool false, .bool false, .int .i64 0, .int .i64 0, .bool false, .bool false, .bool false]) ?_ 1 _ rfl; (with_reducible repeat (first | refine blk_drewN ?_ _ | refine blk_drew ?_ | refine blk_alloc ?_ _)); refine blk_put (cs := #[.bool false, .bool false, .int .i64 0, .int .i64 0, .bool false, .bool false, .bool false]) ?_ 0 _ rfl; (with_reducible repeat (first | refine blk_drewN ?_ _ | refine blk_drew ?_ | refine blk_alloc ?_ _)); exact BK108.out) Tryd.underlying57 rfl (by kernel_rfl)) rfl ?_
                                                        exact ⟨by first | rfl | (simp [errW_none, errW_some] <;> rfl) | (simp [*, errW_none, errW_some] <;> rfl), by repeat (first | (with_reducible first | exact HB.out | apply below_alloc | apply pw_below_drewN | apply below_drew1 | refine below_set ?_ GE108.out) | exact HB.out)⟩
                                                      · rw [if_neg c50] at H
                                                        have c50b0 : (a0.toList == ([56, 48, 48, 53] : List UInt8)) = false := beq_eq_false_iff_ne.mpr c50
                                                        have c50b1 : (a0.toList != ([56, 48, 48, 53] : List UInt8)) = true := bne_iff_ne.mpr c50
                                                        by_cases c52 : a0.toList = ([56, 48, 50, 48] : List UInt8)
                                                        · rw [if_pos c52] at H
                                                          have c52b0 : (a0.toList == ([56, 48, 50, 48] : List UInt8)) = true := beq_iff_eq.mpr c52
                                                          have c52b1 : (a0.toList != ([56, 48, 50, 48] : List UInt8)) = false := bne_eq_false_iff_eq.mpr c52
                                                          clear c52
                                                          simp only [Option.some.injEq, Prod.mk.injEq] at H
                                                          obtain ⟨rfl, rfl, rfl, rfl, rfl, rfl, rfl, rfl⟩ := H
                                                          have hcz53_0 : wc.cell? ⟨gb108, 0, none⟩ = some (.bool false) := (blk_cell BK108.out 0).trans rfl
                                                          have hcz53_1 : wc.cell? ⟨gb108, 1, none⟩ = some (.bool false) := (blk_cell BK108.out 1).trans rfl
                                                          have hcz53_2 : wc.cell? ⟨gb108, 2, none⟩ = some (.int .i64 0) := (blk_cell BK108.out 2).trans rfl
                                                          have hcz53_3 : wc.cell? ⟨gb108, 3, none⟩ = some (.int .i64 0) := (blk_cell BK108.out 3).trans rfl
                                                          have hcz53_4 : wc.cell? ⟨gb108, 4, none⟩ = some (.bool false) := (blk_cell BK108.out 4).trans rfl
                                                          have hcz53_5 : wc.cell? ⟨gb108, 5, none⟩ = some (.bool false) := (blk_cell BK108.out 5).trans rfl
                                                          have hcz53_6 : wc.cell? ⟨gb108, 6, none⟩ = some (.bool false) := (blk_cell BK108.out 6).trans rfl
                                                          have hfz53_0 := blk_frozen BK108.out 0
                                                          have hfz53_1 := blk_frozen BK108.out 1
                                                          have hfz53_2 := blk_frozen BK108.out 2
                                                          have hfz53_3 := blk_frozen BK108.out 3
                                                          have hfz53_4 := blk_frozen BK108.out 4
                                                          have hfz53_5 := blk_frozen BK108.out 5
                                                          have hfz53_6 := blk_frozen BK108.out 6
                                                          go_wp2
                                                          refine bodyPost_ret (results_ct rfl _ _ gb108 57 #[.bool false, .bool false, .int .i64 1, .int .i64 25, .bool false, .bool false, .bool false] (0, 0) _ rfl (by (with_reducible repeat (first | refine blk_drewN ?_ _ | refine blk_drew ?_ | refine blk_alloc ?_ _)); refine blk_put (cs := #[.bool false, .bool false, .int .i64 1, .int .i64 25, .bool false, .bool false, .bool false]) ?_ 6 _ rfl; (with_reducible repeat (first | refine blk_drewN ?_ _ | refine blk_drew ?_ | refine blk_alloc ?_ _)); refine blk_put (cs := #[.bool false, .bool false, .int .i64 1, .int .i64 25, .bool false, .bool false, .bool false]) ?_ 5 _ rfl; (with_reducible repeat (first | refine blk_drewN ?_ _ | refine blk_drew ?_ | refine blk_alloc ?_ _)); refine blk_put (cs := #[.bool false, .bool false, .int .i64 1, .int .i64 25, .bool false, .bool false, .bool false]) ?_ 4 _ rfl; (with_reducible repeat (first | refine blk_drewN ?_ _ | refine blk_drew ?_ | refine blk_alloc ?_ _)); refine blk_put (cs := #[.bool false, .bool false, .int .i64 1, .int .i64 0, .bool false, .bool false, .bool false]) ?_ 3 _ rfl; (with_reducible repeat (first | refine blk_drewN ?_ _ | refine blk_drew ?_ | refine blk_alloc ?_ _)); refine blk_put (cs := #[.bool false, .bool false, .int .i64 0, .int .i64 0, .bool false, .bool false, .bool false]) ?_ 2 _ rfl; (with_reducible repeat (first | refine blk_drewN ?_ _ | refine blk_drew ?_ | refine blk_alloc ?_ _)); refine blk_put (cs := #[.bool false, .bool false, .int .i64 0, .int .i64 0, .bool false, .bool false, .bool false]) ?_ 1 _ rfl; (with_reducible repeat (first | refine blk_drewN ?_ _ | refine blk_drew ?_ | refine blk_alloc ?_ _)); refine blk_put (cs := #[.bool false, .bool false, .int .i64 0, .int .i64 0, .bool false, .bool false, .bool false]) ?_ 0 _ rfl; (with_reducible repeat (first | refine blk_drewN ?_ _ | refine blk_drew ?_ | refine blk_alloc ?_ _)); exact BK108.out) Tryd.underlying57 rfl (by kernel_rfl)) rfl ?_
                                                          exact ⟨by first | rfl | (simp [errW_none, errW_some] <;> rfl) | (simp [*, errW_none, errW_some] <;> rfl), by repeat (first | (with_reducible first | exact HB.out | apply below_alloc | apply pw_below_drewN | apply below_drew1 | refine below_set ?_ GE108.out) | exact HB.out)⟩
                                                        · rw [if_neg c52] at H
                                                          have c52b0 : (a0.toList == ([56, 48, 50, 48] : List UInt8)) = false := beq_eq_false_iff_ne.mpr c52
                                                          have c52b1 : (a0.toList != ([56, 48, 50, 48] : List UInt8)) = true := bne_iff_ne.mpr c52
                                                          by_cases c54 : a0.toList = ([57, 49] : List UInt8)
                                                          · rw [if_pos c54] at H
                                                            have c54b0 : (a0.toList == ([57, 49] : List UInt8)) = true := beq_iff_eq.mpr c54
                                                            have c54b1 : (a0.toList != ([57, 49] : List UInt8)) = false := bne_eq_false_iff_eq.mpr c54
                                                            clear c54
                                                            simp only [Option.some.injEq, Prod.mk.injEq] at H
                                                            obtain ⟨rfl, rfl, rfl, rfl, rfl, rfl, rfl, rfl⟩ := H
                                                            have hcz55_0 : wc.cell? ⟨gb108, 0, none⟩ = some (.bool false) := (blk_cell BK108.out 0).trans rfl
                                                            have hcz55_1 : wc.cell? ⟨gb108, 1, none⟩ = some (.bool false) := (blk_cell BK108.out 1).trans rfl
                                                            have hcz55_2 : wc.cell? ⟨gb108, 2, none⟩ = some (.int .i64 0) := (blk_cell BK108.out 2).trans rfl
                                                            have hcz55_3 : wc.cell? ⟨gb108, 3, none⟩ = some (.int .i64 0) := (blk_cell BK108.out 3).trans rfl
                                                            have hcz55_4 : wc.cell? ⟨gb108, 4, none⟩ = some (.bool false) := (blk_cell BK108.out 4).trans rfl
                                                            have hcz55_5 : wc.cell? ⟨gb108, 5, none⟩ = some (.bool false) := (blk_cell BK108.out 5).trans rfl
                                                            have hcz55_6 : wc.cell? ⟨gb108, 6, none⟩ = some (.bool false) := (blk_cell BK108.out 6).trans rfl
                                                            have hfz55_0 := blk_frozen BK108.out 0
                                                            have hfz55_1 := blk_frozen BK108.out 1
                                                            have hfz55_2 := blk_frozen BK108.out 2
                                                            have hfz55_3 := blk_frozen BK108.out 3
                                                            have hfz55_4 := blk_frozen BK108.out 4
                                                            have hfz55_5 := blk_frozen BK108.out 5
                                                            have hfz55_6 := blk_frozen BK108.out 6
                                                            go_wp2
                                                            refine bodyPost_ret (results_ct rfl _ _ gb108 57 #[.bool false, .bool false, .int .i64 1, .int .i64 90, .bool false, .bool false, .bool false] (0, 0) _ rfl (by (with_reducible repeat (first | refine blk_drewN ?_ _ | refine blk_drew ?_ | refine blk_alloc ?_ _)); refine blk_put (cs := #[.bool false, .bool false, .int .i64 1, .int .i64 90, .bool false, .bool false, .bool false]) ?_ 6 _ rfl; (with_reducible repeat (first | refine blk_drewN ?_ _ | refine blk_drew ?_ | refine blk_alloc ?_ _)); refine blk_put (cs := #[.bool false, .bool false, .int .i64 1, .int .i64 90, .bool false, .bool false, .bool false]) ?_ 5 _ rfl; (with_reducible repeat (first | refine blk_drewN ?_ _ | refine blk_drew ?_ | refine blk_alloc ?_ _)); refine blk_put (cs := #[.bool false, .bool false, .int .i64 1, .int .i64 90, .bool false, .bool false, .bool false]) ?_ 4 _ rfl; (with_reducible repeat (first | refine blk_drewN ?_ _ | refine blk_drew ?_ | refine blk_alloc ?_ _)); refine blk_put (cs := #[.bool false, .bool false, .int .i64 1, .int .i64 0, .bool false, .bool false, .bool false]) ?_ 3 _ rfl; (with_reducible repeat (first | refine blk_drewN ?_ _ | refine blk_drew ?_ | refine blk_alloc ?_ _)); refine blk_put (cs := #[.bool false, .bool false, .int .i64 0, .int .i64 0, .bool false, .bool false, .bool false]) ?_ 2 _ rfl; (with_reducible repeat (first | refine blk_drewN ?_ _ | refine blk_drew ?_ | refine blk_alloc ?_ _)); refine blk_put (cs := #[.bool false, .bool false, .int .i64 0, .int .i64 0, .bool false, .bool false, .bool false]) ?_ 1 _ rfl; (with_reducible repeat (first | refine blk_drewN ?_ _ | refine blk_drew ?_ | refine blk_alloc ?_ _)); refine blk_put (cs := #[.bool false, .bool false, .int .i64 0, .int .i64 0, .bool false, .bool false, .bool false]) ?_ 0 _ rfl; (with_reducible repeat (first | refine blk_drewN ?_ _ | refine blk_drew ?_ | refine blk_alloc ?_ _)); exact BK108.out) Tryd.underlying57 rfl (by kernel_rfl)) rfl ?_
                                                            exact ⟨by first | rfl | (simp [errW_none, errW_some] <;> rfl) | (simp [*, errW_none, errW_some] <;> rfl), by repeat (first | (with_reducible first | exact HB.out | apply below_alloc | apply pw_below_drewN | apply below_drew1 | refine below_set ?_ GE108.out) | exact HB.out)⟩
                                                          · rw [if_neg c54] at H
                                                            have c54b0 : (a0.toList == ([57, 49] : List UInt8)) = false := beq_eq_false_iff_ne.mpr c54
                                                            have c54b1 : (a0.toList != ([57, 49] : List UInt8)) = true := bne_iff_ne.mpr c54
                                                            by_cases c56 : a0.toList = ([57, 50] : List UInt8)
                                                            · rw [if_pos c56] at H
                                                              have c56b0 : (a0.toList == ([57, 50] : List UInt8)) = true := beq_iff_eq.mpr c56
                                                              have c56b1 : (a0.toList != ([57, 50] : List UInt8)) = false := bne_eq_false_iff_eq.mpr c56
                                                              clear c56
                                                              simp only [Option.some.injEq, Prod.mk.injEq] at H
                                                              obtain ⟨rfl, rfl, rfl, rfl, rfl, rfl, rfl, rfl⟩ := H
                                                              have hcz57_0 : wc.cell? ⟨gb108, 0, none⟩ = some (.bool false) := (blk_cell BK108.out 0).trans rfl
                                                              have hcz57_1 : wc.cell? ⟨gb108, 1, none⟩ = some (.bool false) := (blk_cell BK108.out 1).trans rfl
                                                              have hcz57_2 : wc.cell? ⟨gb108, 2, none⟩ = some (.int .i64 0) := (blk_cell BK108.out 2).trans rfl
                                                              have hcz57_3 : wc.cell? ⟨gb108, 3, none⟩ = some (.int .i64 0) := (blk_cell BK108.out 3).trans rfl
                                                              have hcz57_4 : wc.cell? ⟨gb108, 4, none⟩ = some (.bool false) := (blk_cell BK108.out 4).trans rfl
                                                              have hcz57_5 : wc.cell? ⟨gb108, 5, none⟩ = some (.bool false) := (blk_cell BK108.out 5).trans rfl
                                                              have hcz57_6 : wc.cell? ⟨gb108, 6, none⟩ = some (.bool false) := (blk_cell BK108.out 6).trans rfl
                                                              have hfz57_0 := blk_frozen BK108.out 0
                                                              have hfz57_1 := blk_frozen BK108.out 1
                                                              have hfz57_2 := blk_frozen BK108.out 2
                                                              have hfz57_3 := blk_frozen BK108.out 3
                                                              have hfz57_4 := blk_frozen BK108.out 4
                                                              have hfz57_5 := blk_frozen BK108.out 5
                                                              have hfz57_6 := blk_frozen BK108.out 6
                                                              go_wp2
                                                              refine bodyPost_ret (results_ct rfl _ _ gb108 57 #[.bool false, .bool false, .int .i64 1, .int .i64 90, .bool false, .bool false, .bool false] (0, 0) _ rfl (by (with_reducible repeat (first | refine blk_drewN ?_ _ | refine blk_drew ?_ | refine blk_alloc ?_ _)); refine blk_put (cs := #[.bool false, .bool false, .int .i64 1, .int .i64 90, .bool false, .bool false, .bool false]) ?_ 6 _ rfl; (with_reducible repeat (first | refine blk_drewN ?_ _ | refine blk_drew ?_ | refine blk_alloc ?_ _)); refine blk_put (cs := #[.bool false, .bool false, .int .i64 1, .int .i64 90, .bool false, .bool false, .bool false]) ?_ 5 _ rfl; (with_reducible repeat (first | refine blk_drewN ?_ _ | refine blk_drew ?_ | refine blk_alloc ?_ _)); refine blk_put (cs := #[.bool false, .bool false, .int .i64 1, .int .i64 90, .bool false, .bool false, .bool false]) ?_ 4 _ rfl; (with_reducible repeat (first | refine blk_drewN ?_ _ | refine blk_drew ?_ | refine blk_alloc ?_ _)); refine blk_put (cs := #[.bool false, .bool false, .int .i64 1, .int .i64 0, .bool false, .bool false, .bool false]) ?_ 3 _ rfl; (with_reducible repeat (first | refine blk_drewN ?_ _ | refine blk_drew ?_ | refine blk_alloc ?_ _)); refine blk_put (cs := #[.bool false, .bool false, .int .i64 0, .int .i64 0, .bool false, .bool false, .bool false]) ?_ 2 _ rfl; (with_reducible repeat (first | refine blk_drewN ?_ _ | refine blk_drew ?_ | refine blk_alloc ?_ _)); refine blk_put (cs := #[.bool false, .bool false, .int .i64 0, .int .i64 0, .bool false, .bool false, .bool false]) ?_ 1 _ rfl; (with_reducible repeat (first | refine blk_drewN ?_ _ | refine blk_drew ?_ | refine blk_alloc ?_ _)); refine blk_put (cs := #[.bool false, .bool false, .int .i64 0, .int .i64 0, .bool false, .bool false, .bool false]) ?_ 0 _ rfl; (with_reducible repeat (first | refine blk_drewN ?_ _ | refine blk_drew ?_ | refine blk_alloc ?_ _)); exact BK108.out) Tryd.underlying57 rfl (by kernel_rfl)) rfl ?_
                                                              exact ⟨by first | rfl | (simp [errW_none, errW_some] <;> rfl) | (simp [*, errW_none, errW_some] <;> rfl), by repeat (first | (with_reducible first | exact HB.out | apply below_alloc | apply pw_below_drewN | apply below_drew1 | refine below_set ?_ GE108.out) | exact HB.out)⟩
                                                            · rw [if_neg c56] at H
                                                              have c56b0 : (a0.toList == ([57, 50] : List UInt8)) = false := beq_eq_false_iff_ne.mpr c56
                                                              have c56b1 : (a0.toList != ([57, 50] : List UInt8)) = true := bne_iff_ne.mpr c56
                                                              by_cases c58 : a0.toList = ([57, 51] : List UInt8)
                                                              · rw [if_pos c58] at H
                                                                have c58b0 : (a0.toList == ([57, 51] : List UInt8)) = true := beq_iff_eq.mpr c58
                                                                have c58b1 : (a0.toList != ([57, 51] : List UInt8)) = false := bne_eq_false_iff_eq.mpr c58
                                                                clear c58
                                                                simp only [Option.some.injEq, Prod.mk.injEq] at H
                                                                obtain ⟨rfl, rfl, rfl, rfl, rfl, rfl, rfl, rfl⟩ := H
                                                                have hcz59_0 : wc.cell? ⟨gb108, 0, none⟩ = some (.bool false) := (blk_cell BK108.out 0).trans rfl
                                                                have hcz59_1 : wc.cell? ⟨gb108, 1, none⟩ = some (.bool false) := (blk_cell BK108.out 1).trans rfl
                                                                have hcz59_2 : wc.cell? ⟨gb108, 2, none⟩ = some (.int .i64 0) := (blk_cell BK108.out 2).trans rfl
                                                                have hcz59_3 : wc.cell? ⟨gb108, 3, none⟩ = some (.int .i64 0) := (blk_cell BK108.out 3).trans rfl
                                                                have hcz59_4 : wc.cell? ⟨gb108, 4, none⟩ = some (.bool false) := (blk_cell BK108.out 4).trans rfl
                                                                have hcz59_5 : wc.cell? ⟨gb108, 5, none⟩ = some (.bool false) := (blk_cell BK108.out 5).trans rfl
                                                                have hcz59_6 : wc.cell? ⟨gb108, 6, none⟩ = some (.bool false) := (blk_cell BK108.out 6).trans rfl
                                                                have hfz59_0 := blk_frozen BK108.out 0
                                                                have hfz59_1 := blk_frozen BK108.out 1
                                                                have hfz59_2 := blk_frozen BK108.out 2
                                                                have hfz59_3 := blk_frozen BK108.out 3
                                                                have hfz59_4 := blk_frozen BK108.out 4
                                                                have hfz59_5 := blk_frozen BK108.out 5
                                                                have hfz59_6 := blk_frozen BK108.out 6
                                                                go_wp2
                                                                refine bodyPost_ret (results_ct rfl _ _ gb108 57 #[.bool false, .bool false, .int .i64 1, .int .i64 90, .bool false, .bool false, .bool false] (0, 0) _ rfl (by (with_reducible repeat (first | refine blk_drewN ?_ _ | refine blk_drew ?_ | refine blk_alloc ?_ _)); refine blk_put (cs := #[.bool false, .bool false, .int .i64 1, .int .i64 90, .bool false, .bool false, .bool false]) ?_ 6 _ rfl; (with_reducible repeat (first | refine blk_drewN ?_ _ | refine blk_drew ?_ | refine blk_alloc ?_ _)); refine blk_put (cs := #[.bool false, .bool false, .int .i64 1, .int .i64 90, .bool false, .bool false, .bool false]) ?_ 5 _ rfl; (with_reducible repeat (first | refine blk_drewN ?_ _ | refine blk_drew ?_ | refine blk_alloc ?_ _)); refine blk_put (cs := #[.bool false, .bool false, .int .i64 1, .int .i64 90, .bool false, .bool false, .bool false]) ?_ 4 _ rfl; (with_reducible repeat (first | refine blk_drewN ?_ _ | refine blk_drew ?_ | refine blk_alloc ?_ _)); refine blk_put (cs := #[.bool false, .bool false, .int .i64 1, .int .i64 0, .bool false, .bool false, .bool false]) ?_ 3 _ rfl; (with_reducible repeat (first | refine blk_drewN ?_ _ | refine blk_drew ?_ | refine blk_alloc ?_ _)); refine blk_put (cs := #[.bool false, .bool false, .int .i64 0, .int .i64 0, .bool false, .bool false, .bool false]) ?_ 2 _ rfl; (with_reducible repeat (first | refine blk_drewN ?_ _ | refine blk_drew ?_ | refine blk_alloc ?_ _)); refine blk_put (cs := #[.bool false, .bool false, .int .i64 0, .int .i64 0, .bool false, .bool false, .bool false]) ?_ 1 _ rfl; (with_reducible repeat (first | refine blk_drewN ?_ _ | refine blk_drew ?_ | refine blk_alloc ?_ _)); refine blk_put (cs := #[.bool false, .bool false, .int .i64 0, .int .i64 0, .bool false, .bool false, .bool false]) ?_ 0 _ rfl; (with_reducible repeat (first | refine blk_drewN ?_ _ | refine blk_drew ?_ | refine blk_alloc ?_ _)); exact BK108.out) Tryd.underlying57 rfl (by kernel_rfl)) rfl ?_
                                                                exact ⟨by first | rfl | (simp [errW_none, errW_some] <;> rfl) | (simp [*, errW_none, errW_some] <;> rfl), by repeat (first | (with_reducible first | exact HB.out | apply below_alloc | apply pw_below_drewN | apply below_drew1 | refine below_set ?_ GE108.out) | exact HB.out)⟩
                                                              · rw [if_neg c58] at H
                                                                have c58b0 : (a0.toList == ([57, 51] : List UInt8)) = false := beq_eq_false_iff_ne.mpr c58
                                                                have c58b1 : (a0.toList != ([57, 51] : List UInt8)) = true := bne_iff_ne.mpr c58
                                                                by_cases c60 : a0.toList = ([57, 52] : List UInt8)
                                                                · rw [if_pos c60] at H
                                                                  have c60b0 : (a0.toList == ([57, 52] : List UInt8)) = true := beq_iff_eq.mpr c60
                                                                  have c60b1 : (a0.toList != ([57, 52] : List UInt8)) = false := bne_eq_false_iff_eq.mpr c60
                                                                  clear c60
                                                                  simp only [Option.some.injEq, Prod.mk.injEq] at H
                                                                  obtain ⟨rfl, rfl, rfl, rfl, rfl, rfl, rfl, rfl⟩ := H
                                                                  have hcz61_0 : wc.cell? ⟨gb108, 0, none⟩ = some (.bool false) := (blk_cell BK108.out 0).trans rfl
                                                                  have hcz61_1 : wc.cell? ⟨gb108, 1, none⟩ = some (.bool false) := (blk_cell BK108.out 1).trans rfl
                                                                  have hcz61_2 : wc.cell? ⟨gb108, 2, none⟩ = some (.int .i64 0) := (blk_cell BK108.out 2).trans rfl
                                                                  have hcz61_3 : wc.cell? ⟨gb108, 3, none⟩ = some (.int .i64 0) := (blk_cell BK108.out 3).trans rfl
                                                                  have hcz61_4 : wc.cell? ⟨gb108, 4, none⟩ = some (.bool false) := (blk_cell BK108.out 4).trans rfl
                                                                  have hcz61_5 : wc.cell? ⟨gb108, 5, none⟩ = some (.bool false) := (blk_cell BK108.out 5).trans rfl
                                                                  have hcz61_6 : wc.cell? ⟨gb108, 6, none⟩ = some (.bool false) := (blk_cell BK108.out 6).trans rfl
                                                                  have hfz61_0 := blk_frozen BK108.out 0
                                                                  have hfz61_1 := blk_frozen BK108.out 1
                                                                  have hfz61_2 := blk_frozen BK108.out 2
                                                                  have hfz61_3 := blk_frozen BK108.out 3
                                                                  have hfz61_4 := blk_frozen BK108.out 4
                                                                  have hfz61_5 := blk_frozen BK108.out 5
                                                                  have hfz61_6 := blk_frozen BK108.out 6
                                                                  go_wp2
                                                                  refine bodyPost_ret (results_ct rfl _ _ gb108 57 #[.bool false, .bool false, .int .i64 1, .int .i64 90, .bool false, .bool false, .bool false] (0, 0) _ rfl (by (with_reducible repeat (first | refine blk_drewN ?_ _ | refine blk_drew ?_ | refine blk_alloc ?_ _)); refine blk_put (cs := #[.bool false, .bool false, .int .i64 1, .int .i64 90, .bool false, .bool false, .bool false]) ?_ 6 _ rfl; (with_reducible repeat (first | refine blk_drewN ?_ _ | refine blk_drew ?_ | refine blk_alloc ?_ _)); refine blk_put (cs := #[.bool false, .bool false, .int .i64 1, .int .i64 90, .bool false, .bool false, .bool false]) ?_ 5 _ rfl; (with_reducible repeat (first | refine blk_drewN ?_ _ | refine blk_drew ?_ | refine blk_alloc ?_ _)); refine blk_put (cs := #[.bool false, .bool false, .int .i64 1, .int .i64 90, .bool false, .bool false, .bool false]) ?_ 4 _ rfl; (with_reducible repeat (first | refine blk_drewN ?_ _ | refine blk_drew ?_ | refine blk_alloc ?_ _)); refine blk_put (cs := #[.bool false, .bool false, .int .i64 1, .int .i64 0, .bool false, .bool false, .bool false]) ?_ 3 _ rfl; (with_reducible repeat (first | refine blk_drewN ?_ _ | refine blk_drew ?_ | refine blk_alloc ?_ _)); refine blk_put (cs := #[.bool false, .bool false, .int .i64 0, .int .i64 0, .bool false, .bool false, .bool false]) ?_ 2 _ rfl; (with_reducible repeat (first | refine blk_drewN ?_ _ | refine blk_drew ?_ | refine blk_alloc ?_ _)); refine blk_put (cs := #[.bool false, .bool false, .int .i64 0, .int .i64 0, .bool false, .bool false, .bool false]) ?_ 1 _ rfl; (with_reducible repeat (first | refine blk_drewN ?_ _ | refine blk_drew ?_ | refine blk_alloc ?_ _)); refine blk_put (cs := #[.bool false, .bool false, .int .i64 0, .int .i64 0, .bool false, .bool false, .bool false]) ?_ 0 _ rfl; (with_reducible repeat (first | refine blk_drewN ?_ _ | refine blk_drew ?_ | refine blk_alloc ?_ _)); exact BK108.out) Tryd.underlying57 rfl (by kernel_rfl)) rfl ?_
                                                                  exact ⟨by first | rfl | (simp [errW_none, errW_some] <;> rfl) | (simp [*, errW_none, errW_some] <;> rfl), by repeat (first | (with_reducible first | exact HB.out | apply below_alloc | apply pw_below_drewN | apply below_drew1 | refine below_set ?_ GE108.out) | exact HB.out)⟩
                                                                · rw [if_neg c60] at H
                                                                  have c60b0 : (a0.toList == ([57, 52] : List UInt8)) = false := beq_eq_false_iff_ne.mpr c60
                                                                  have c60b1 : (a0.toList != ([57, 52] : List UInt8)) = true := bne_iff_ne.mpr c60
                                                                  by_cases c62 : a0.toList = ([57, 53] : List UInt8)
                                                                  · rw [if_pos c62] at H
                                                                    have c62b0 : (a0.toList == ([57, 53] : List UInt8)) = true := beq_iff_eq.mpr c62
                                                                    have c62b1 : (a0.toList != ([57, 53] : List UInt8)) = false := bne_eq_false_iff_eq.mpr c62
                                                                    clear c62
                                                                    simp only [Option.some.injEq, Prod.mk.injEq] at H
                                                                    obtain ⟨rfl, rfl, rfl, rfl, rfl, rfl, rfl, rfl⟩ := H
                                                                    have hcz63_0 : wc.cell? ⟨gb108, 0, none⟩ = some (.bool false) := (blk_cell BK108.out 0).trans rfl
                                                                    have hcz63_1 : wc.cell? ⟨gb108, 1, none⟩ = some (.bool false) := (blk_cell BK108.out 1).trans rfl
                                                                    have hcz63_2 : wc.cell? ⟨gb108, 2, none⟩ = some (.int .i64 0) := (blk_cell BK108.out 2).trans rfl
                                                                    have hcz63_3 : wc.cell? ⟨gb108, 3, none⟩ = some (.int .i64 0) := (blk_cell BK108.out 3).trans rfl
                                                                    have hcz63_4 : wc.cell? ⟨gb108, 4, none⟩ = some (.bool false) := (blk_cell BK108.out 4).trans rfl
                                                                    have hcz63_5 : wc.cell? ⟨gb108, 5, none⟩ = some (.bool false) := (blk_cell BK108.out 5).trans rfl
                                                                    have hcz63_6 : wc.cell? ⟨gb108, 6, none⟩ = some (.bool false) := (blk_cell BK108.out 6).trans rfl
                                                                    have hfz63_0 := blk_frozen BK108.out 0
                                                                    have hfz63_1 := blk_frozen BK108.out 1
                                                                    have hfz63_2 := blk_frozen BK108.out 2
                                                                    have hfz63_3 := blk_frozen BK108.out 3
                                                                    have hfz63_4 := blk_frozen BK108.out 4
                                                                    have hfz63_5 := blk_frozen BK108.out 5
                                                                    have hfz63_6 := blk_frozen BK108.out 6
                                                                    go_wp2
                                                                    refine bodyPost_ret (results_ct rfl _ _ gb108 57 #[.bool false, .bool false, .int .i64 1, .int .i64 90, .bool false, .bool false, .bool false] (0, 0) _ rfl (by (with_reducible repeat (first | refine blk_drewN ?_ _ | refine blk_drew ?_ | refine blk_alloc ?_ _)); refine blk_put (cs := #[.bool false, .bool false, .int .i64 1, .int .i64 90, .bool false, .bool false, .bool false]) ?_ 6 _ rfl; (with_reducible repeat (first | refine blk_drewN ?_ _ | refine blk_drew ?_ | refine blk_alloc ?_ _)); refine blk_put (cs := #[.bool false, .bool false, .int .i64 1, .int .i64 90, .bool false, .bool false, .bool false]) ?_ 5 _ rfl; (with_reducible repeat (first | refine blk_drewN ?_ _ | refine blk_drew ?_ | refine blk_alloc ?_ _)); refine blk_put (cs := #[.bool false, .bool false, .int .i64 1, .int .i64 90, .bool false, .bool false, .bool false]) ?_ 4 _ rfl; (with_reducible repeat (first | refine blk_drewN ?_ _ | refine blk_drew ?_ | refine blk_alloc ?_ _)); refine blk_put (cs := #[.bool false, .bool false, .int .i64 1, .int .i64 0, .bool false, .bool false, .bool false]) ?_ 3 _ rfl; (with_reducible repeat (first | refine blk_drewN ?_ _ | refine blk_drew ?_ | refine blk_alloc ?_ _)); refine blk_put (cs := #[.bool false, .bool false, .int .i64 0, .int .i64 0, .bool false, .bool false, .bool false]) ?_ 2 _ rfl; (with_reducible repeat (first | refine blk_drewN ?_ _ | refine blk_drew ?_ | refine blk_alloc ?_ _)); refine blk_put (cs := #[.bool false, .bool false, .int .i64 0, .int .i64 0, .bool false, .bool false, .bool false]) ?_ 1 _ rfl; (with_reducible repeat (first | refine blk_drewN ?_ _ | refine blk_drew ?_ | refine blk_alloc ?_ _)); refine blk_put (cs := #[.bool false, .bool false, .int .i64 0, .int .i64 0, .bool false, .bool false, .bool false]) ?_ 0 _ rfl; (with_reducible repeat (first | refine blk_drewN ?_ _ | refine blk_drew ?_ | refine blk_alloc ?_ _)); exact BK108.out) Tryd.underlying57 rfl (by kernel_rfl)) rfl ?_
                                                                    exact ⟨by first | rfl | (simp [errW_none, errW_some] <;> rfl) | (simp [*, errW_none, errW_some] <;> rfl), by repeat (first | (with_reducible first | exact HB.out | apply below_alloc | apply pw_below_drewN | apply below_drew1 | refine below_set ?_ GE108.out) | exact HB.out)⟩
                                                                  · rw [if_neg c62] at H
                                                                    have c62b0 : (a0.toList == ([57, 53] : List UInt8)) = false := beq_eq_false_iff_ne.mpr c62
                                                                    have c62b1 : (a0.toList != ([57, 53] : List UInt8)) = true := bne_iff_ne.mpr c62
                                                                    by_cases c64 : a0.toList = ([57, 54] : List UInt8)
                                                                    · rw [if_pos c64] at H
                                                                      have c64b0 : (a0.toList == ([57, 54] : List UInt8)) = true := beq_iff_eq.mpr c64
                                                                      have c64b1 : (a0.toList != ([57, 54] : List UInt8)) = false := bne_eq_false_iff_eq.mpr c64
                                                                      clear c64
                                                                      simp only [Option.some.injEq, Prod.mk.injEq] at H
                                                                      obtain ⟨rfl, rfl, rfl, rfl, rfl, rfl, rfl, rfl⟩ := H
                                                                      have hcz65_0 : wc.cell? ⟨gb108, 0, none⟩ = some (.bool false) := (blk_cell BK108.out 0).trans rfl
                                                                      have hcz65_1 : wc.cell? ⟨gb108, 1, none⟩ = some (.bool false) := (blk_cell BK108.out 1).trans rfl
                                                                      have hcz65_2 : wc.cell? ⟨gb108, 2, none⟩ = some (.int .i64 0) := (blk_cell BK108.out 2).trans rfl
                                                                      have hcz65_3 : wc.cell? ⟨gb108, 3, none⟩ = some (.int .i64 0) := (blk_cell BK108.out 3).trans rfl
                                                                      have hcz65_4 : wc.cell? ⟨gb108, 4, none⟩ = some (.bool false) := (blk_cell BK108.out 4).trans rfl
                                                                      have hcz65_5 : wc.cell? ⟨gb108, 5, none⟩ = some (.bool false) := (blk_cell BK108.out 5).trans rfl
                                                                      have hcz65_6 : wc.cell? ⟨gb108, 6, none⟩ = some (.bool false) := (blk_cell BK108.out 6).trans rfl
                                                                      have hfz65_0 := blk_frozen BK108.out 0
                                                                      have hfz65_1 := blk_frozen BK108.out 1
                                                                      have hfz65_2 := blk_frozen BK108.out 2
                                                                      have hfz65_3 := blk_frozen BK108.out 3
                                                                      have hfz65_4 := blk_frozen BK108.out 4
                                                                      have hfz65_5 := blk_frozen BK108.out 5
                                                                      have hfz65_6 := blk_frozen BK108.out 6
                                                                      go_wp2
                                                                      refine bodyPost_ret (results_ct rfl _ _ gb108 57 #[.bool false, .bool false, .int .i64 1, .int .i64 90, .bool false, .bool false, .bool false] (0, 0) _ rfl (by (with_reducible repeat (first | refine blk_drewN ?_ _ | refine blk_drew ?_ | refine blk_alloc ?_ _)); refine blk_put (cs := #[.bool false, .bool false, .int .i64 1, .int .i64 90, .bool false, .bool false, .bool false]) ?_ 6 _ rfl; (with_reducible repeat (first | refine blk_drewN ?_ _ | refine blk_drew ?_ | refine blk_alloc ?_ _)); refine blk_put (cs := #[.bool false, .bool false, .int .i64 1, .int .i64 90, .bool false, .bool false, .bool false]) ?_ 5 _ rfl; (with_reducible repeat (first | refine blk_drewN ?_ _ | refine blk_drew ?_ | refine blk_alloc ?_ _)); refine blk_put (cs := #[.bool false, .bool false, .int .i64 1, .int .i64 90, .bool false, .bool false, .bool false]) ?_ 4 _ rfl; (with_reducible repeat (first | refine blk_drewN ?_ _ | refine blk_drew ?_ | refine blk_alloc ?_ _)); refine blk_put (cs := #[.bool false, .bool false, .int .i64 1, .int .i64 0, .bool false, .bool false, .bool false]) ?_ 3 _ rfl; (with_reducible repeat (first | refine blk_drewN ?_ _ | refine blk_drew ?_ | refine blk_alloc ?_ _)); refine blk_put (cs := #[.bool false, .bool false, .int .i64 0, .int .i64 0, .bool false, .bool false, .bool false]) ?_ 2 _ rfl; (with_reducible repeat (first | refine blk_drewN ?_ _ | refine blk_drew ?_ | refine blk_alloc ?_ _)); refine blk_put (cs := #[.bool false, .bool false, .int .i64 0, .int .i64 0, .bool false, .bool false, .bool false]) ?_ 1 _ rfl; (with_reducible repeat (first | refine blk_drewN ?_ _ | refine blk_drew ?_ | refine blk_alloc ?_ _)); refine blk_put (cs := #[.bool false, .bool false, .int .i64 0, .int .i64 0, .bool false, .bool false, .bool false]) ?_ 0 _ rfl; (with_reducible repeat (first | refine blk_drewN ?_ _ | refine blk_drew ?_ | refine blk_alloc ?_ _)); exact BK108.out) Tryd.underlying57 rfl (by kernel_rfl)) rfl ?_
                                                                      exact ⟨by first | rfl | (simp [errW_none, errW_some] <;> rfl) | (simp [*, errW_none, errW_some] <;> rfl), by repeat (first | (with_reducible first | exact HB.out | apply below_alloc | apply pw_below_drewN | apply below_drew1 | refine below_set ?_ GE108.out) | exact HB.out)⟩
                                                                    · rw [if_neg c64] at H
                                                                      have c64b0 : (a0.toList == ([57, 54] : List UInt8)) = false := beq_eq_false_iff_ne.mpr c64
                                                                      have c64b1 : (a0.toList != ([57, 54] : List UInt8)) = true := bne_iff_ne.mpr c64
                                                                      by_cases c66 : a0.toList = ([57, 55] : List UInt8)
                                                                      · rw [if_pos c66] at H
                                                                        have c66b0 : (a0.toList == ([57, 55] : List UInt8)) = true := beq_iff_eq.mpr c66
                                                                        have c66b1 : (a0.toList != ([57, 55] : List UInt8)) = false := bne_eq_false_iff_eq.mpr c66
                                                                        clear c66
                                                                        simp only [Option.some.injEq, Prod.mk.injEq] at H
                                                                        obtain ⟨rfl, rfl, rfl, rfl, rfl, rfl, rfl, rfl⟩ := H
                                                                        have hcz67_0 : wc.cell? ⟨gb108, 0, none⟩ = some (.bool false) := (blk_cell BK108.out 0).trans rfl
                                                                        have hcz67_1 : wc.cell? ⟨gb108, 1, none⟩ = some (.bool false) := (blk_cell BK108.out 1).trans rfl
                                                                        have hcz67_2 : wc.cell? ⟨gb108, 2, none⟩ = some (.int .i64 0) := (blk_cell BK108.out 2).trans rfl
                                                                        have hcz67_3 : wc.cell? ⟨gb108, 3, none⟩ = some (.int .i64 0) := (blk_cell BK108.out 3).trans rfl
                                                                        have hcz67_4 : wc.cell? ⟨gb108, 4, none⟩ = some (.bool false) := (blk_cell BK108.out 4).trans rfl
                                                                        have hcz67_5 : wc.cell? ⟨gb108, 5, none⟩ = some (.bool false) := (blk_cell BK108.out 5).trans rfl
                                                                        have hcz67_6 : wc.cell? ⟨gb108, 6, none⟩ = some (.bool false) := (blk_cell BK108.out 6).trans rfl
                                                                        have hfz67_0 := blk_frozen BK108.out 0
                                                                        have hfz67_1 := blk_frozen BK108.out 1
                                                                        have hfz67_2 := blk_frozen BK108.out 2
                                                                        have hfz67_3 := blk_frozen BK108.out 3
                                                                        have hfz67_4 := blk_frozen BK108.out 4
                                                                        have hfz67_5 := blk_frozen BK108.out 5
                                                                        have hfz67_6 := blk_frozen BK108.out 6
                                                                        go_wp2
                                                                        refine bodyPost_ret (results_ct rfl _ _ gb108 57 #[.bool false, .bool false, .int .i64 1, .int .i64 90, .bool false, .bool false, .bool false] (0, 0) _ rfl (by (with_reducible repeat (first | refine blk_drewN ?_ _ | refine blk_drew ?_ | refine blk_alloc ?_ _)); refine blk_put (cs := #[.bool false, .bool false, .int .i64 1, .int .i64 90, .bool false, .bool false, .bool false]) ?_ 6 _ rfl; (with_reducible repeat (first | refine blk_drewN ?_ _ | refine blk_drew ?_ | refine blk_alloc ?_ _)); refine blk_put (cs := #[.bool false, .bool false, .int .i64 1, .int .i64 90, .bool false, .bool false, .bool false]) ?_ 5 _ rfl; (with_reducible repeat (first | refine blk_drewN ?_ _ | refine blk_drew ?_ | refine blk_alloc ?_ _)); refine blk_put (cs := #[.bool false, .bool false, .int .i64 1, .int .i64 90, .bool false, .bool false, .bool false]) ?_ 4 _ rfl; (with_reducible repeat (first | refine blk_drewN ?_ _ | refine blk_drew ?_ | refine blk_alloc ?_ _)); refine blk_put (cs := #[.bool false, .bool false, .int .i64 1, .int .i64 0, .bool false, .bool false, .bool false]) ?_ 3 _ rfl; (with_reducible repeat (first | refine blk_drewN ?_ _ | refine blk_drew ?_ | refine blk_alloc ?_ _)); refine blk_put (cs := #[.bool false, .bool false, .int .i64 0, .int .i64 0, .bool false, .bool false, .bool false]) ?_ 2 _ rfl; (with_reducible repeat (first | refine blk_drewN ?_ _ | refine blk_drew ?_ | refine blk_alloc ?_ _)); refine blk_put (cs := #[.bool false, .bool false, .int .i64 0, .int .i64 0, .bool false, .bool false, .bool false]) ?_ 1 _ rfl; (with_reducible repeat (first | refine blk_drewN ?_ _ | refine blk_drew ?_ | refine blk_alloc ?_ _)); refine blk_put (cs := #[.bool false, .bool false, .int .i64 0, .int .i64 0, .bool false, .bool false, .bool false]) ?_ 0 _ rfl; (with_reducible repeat (first | refine blk_drewN ?_ _ | refine blk_drew ?_ | refine blk_alloc ?_ _)); exact BK108.out) Tryd.underlying57 rfl (by kernel_rfl)) rfl ?_
                                                                        exact ⟨by first | rfl | (simp [errW_none, errW_some] <;> rfl) | (simp [*, errW_none, errW_some] <;> rfl), by repeat (first | (with_reducible first | exact HB.out | apply below_alloc | apply pw_below_drewN | apply below_drew1 | refine below_set ?_ GE108.out) | exact HB.out)⟩
                                                                      · rw [if_neg c66] at H
                                                                        have c66b0 : (a0.toList == ([57, 55] : List UInt8)) = false := beq_eq_false_iff_ne.mpr c66
                                                                        have c66b1 : (a0.toList != ([57, 55] : List UInt8)) = true := bne_iff_ne.mpr c66
                                                                        by_cases c68 : a0.toList = ([57, 56] : List UInt8)
                                                                        · rw [if_pos c68] at H
                                                                          have c68b0 : (a0.toList == ([57, 56] : List UInt8)) = true := beq_iff_eq.mpr c68
                                                                          have c68b1 : (a0.toList != ([57, 56] : List UInt8)) = false := bne_eq_false_iff_eq.mpr c68
                                                                          clear c68
                                                                          simp only [Option.some.injEq, Prod.mk.injEq] at H
                                                                          obtain ⟨rfl, rfl, rfl, rfl, rfl, rfl, rfl, rfl⟩ := H
                                                                          have hcz69_0 : wc.cell? ⟨gb108, 0, none⟩ = some (.bool false) := (blk_cell BK108.out 0).trans rfl
                                                                          have hcz69_1 : wc.cell? ⟨gb108, 1, none⟩ = some (.bool false) := (blk_cell BK108.out 1).trans rfl
                                                                          have hcz69_2 : wc.cell? ⟨gb108, 2, none⟩ = some (.int .i64 0) := (blk_cell BK108.out 2).trans rfl
                                                                          have hcz69_3 : wc.cell? ⟨gb108, 3, none⟩ = some (.int .i64 0) := (blk_cell BK108.out 3).trans rfl
                                                                          have hcz69_4 : wc.cell? ⟨gb108, 4, none⟩ = some (.bool false) := (blk_cell BK108.out 4).trans rfl
                                                                          have hcz69_5 : wc.cell? ⟨gb108, 5, none⟩ = some (.bool false) := (blk_cell BK108.out 5).trans rfl
                                                                          have hcz69_6 : wc.cell? ⟨gb108, 6, none⟩ = some (.bool false) := (blk_cell BK108.out 6).trans rfl
                                                                          have hfz69_0 := blk_frozen BK108.out 0
                                                                          have hfz69_1 := blk_frozen BK108.out 1
                                                                          have hfz69_2 := blk_frozen BK108.out 2
                                                                          have hfz69_3 := blk_frozen BK108.out 3
                                                                          have hfz69_4 := blk_frozen BK108.out 4
                                                                          have hfz69_5 := blk_frozen BK108.out 5
                                                                          have hfz69_6 := blk_frozen BK108.out 6
                                                                          go_wp2
                                                                          refine bodyPost_ret (results_ct rfl _ _ gb108 57 #[.bool false, .bool false, .int .i64 1, .int .i64 90, .bool false, .bool false, .bool false] (0, 0) _ rfl (by (with_reducible repeat (first | refine blk_drewN ?_ _ | refine blk_drew ?_ | refine blk_alloc ?_ _)); refine blk_put (cs := #[.bool false, .bool false, .int .i64 1, .int .i64 90, .bool false, .bool false, .bool false]) ?_ 6 _ rfl; (with_reducible repeat (first | refine blk_drewN ?_ _ | refine blk_drew ?_ | refine blk_alloc ?_ _)); refine blk_put (cs := #[.bool false, .bool false, .int .i64 1, .int .i64 90, .bool false, .bool false, .bool false]) ?_ 5 _ rfl; (with_reducible repeat (first | refine blk_drewN ?_ _ | refine blk_drew ?_ | refine blk_alloc ?_ _)); refine blk_put (cs := #[.bool false, .bool false, .int .i64 1, .int .i64 90, .bool false, .bool false, .bool false]) ?_ 4 _ rfl; (with_reducible repeat (first | refine blk_drewN ?_ _ | refine blk_drew ?_ | refine blk_alloc ?_ _)); refine blk_put (cs := #[.bool false, .bool false, .int .i64 1, .int .i64 0, .bool false, .bool false, .bool false]) ?_ 3 _ rfl; (with_reducible repeat (first | refine blk_drewN ?_ _ | refine blk_drew ?_ | refine blk_alloc ?_ _)); refine blk_put (cs := #[.bool false, .bool false, .int .i64 0, .int .i64 0, .bool false, .bool false, .bool false]) ?_ 2 _ rfl; (with_reducible repeat (first | refine blk_drewN ?_ _ | refine blk_drew ?_ | refine blk_alloc ?_ _)); refine blk_put (cs := #[.bool false, .bool false, .int .i64 0, .int .i64 0, .bool false, .bool false, .bool false]) ?_ 1 _ rfl; (with_reducible repeat (first | refine blk_drewN ?_ _ | refine blk_drew ?_ | refine blk_alloc ?_ _)); refine blk_put (cs := #[.bool false, .bool false, .int .i64 0, .int .i64 0, .bool false, .bool false, .bool false]) ?_ 0 _ rfl; (with_reducible repeat (first | refine blk_drewN ?_ _ | refine blk_drew ?_ | refine blk_alloc ?_ _)); exact BK108.out) Tryd.underlying57 rfl (by kernel_rfl)) rfl ?_
                                                                          exact ⟨by first | rfl | (simp [errW_none, errW_some] <;> rfl) | (simp [*, errW_none, errW_some] <;> rfl), by repeat (first | (with_reducible first | exact HB.out | apply below_alloc | apply pw_below_drewN | apply below_drew1 | refine below_set ?_ GE108.out) | exact HB.out)⟩
                                                                        · rw [if_neg c68] at H
                                                                          have c68b0 : (a0.toList == ([57, 56] : List UInt8)) = false := beq_eq_false_iff_ne.mpr c68
                                                                          have c68b1 : (a0.toList != ([57, 56] : List UInt8)) = true := bne_iff_ne.mpr c68
                                                                          by_cases c70 : a0.toList = ([57, 57] : List UInt8)
                                                                          · rw [if_pos c70] at H
                                                                            have c70b0 : (a0.toList == ([57, 57] : List UInt8)) = true := beq_iff_eq.mpr c70
                                                                            have c70b1 : (a0.toList != ([57, 57] : List UInt8)) = false := bne_eq_false_iff_eq.mpr c70
                                                                            clear c70
                                                                            simp only [Option.some.injEq, Prod.mk.injEq] at H
                                                                            obtain ⟨rfl, rfl, rfl, rfl, rfl, rfl, rfl, rfl⟩ := H
                                                                            have hcz71_0 : wc.cell? ⟨gb108, 0, none⟩ = some (.bool false) := (blk_cell BK108.out 0).trans rfl
                                                                            have hcz71_1 : wc.cell? ⟨gb108, 1, none⟩ = some (.bool false) := (blk_cell BK108.out 1).trans rfl
                                                                            have hcz71_2 : wc.cell? ⟨gb108, 2, none⟩ = some (.int .i64 0) := (blk_cell BK108.out 2).trans rfl
                                                                            have hcz71_3 : wc.cell? ⟨gb108, 3, none⟩ = some (.int .i64 0) := (blk_cell BK108.out 3).trans rfl
                                                                            have hcz71_4 : wc.cell? ⟨gb108, 4, none⟩ = some (.bool false) := (blk_cell BK108.out 4).trans rfl
                                                                            have hcz71_5 : wc.cell? ⟨gb108, 5, none⟩ = some (.bool false) := (blk_cell BK108.out 5).trans rfl
                                                                            have hcz71_6 : wc.cell? ⟨gb108, 6, none⟩ = some (.bool false) := (blk_cell BK108.out 6).trans rfl
                                                                            have hfz71_0 := blk_frozen BK108.out 0
                                                                            have hfz71_1 := blk_frozen BK108.out 1
                                                                            have hfz71_2 := blk_frozen BK108.out 2
                                                                            have hfz71_3 := blk_frozen BK108.out 3
                                                                            have hfz71_4 := blk_frozen BK108.out 4
                                                                            have hfz71_5 := blk_frozen BK108.out 5
                                                                            have hfz71_6 := blk_frozen BK108.out 6
                                                                            go_wp2
                                                                            refine bodyPost_ret (results_ct rfl _ _ gb108 57 #[.bool false, .bool false, .int .i64 1, .int .i64 90, .bool false, .bool false, .bool false] (0, 0) _ rfl (by (with_reducible repeat (first | refine blk_drewN ?_ _ | refine blk_drew ?_ | refine blk_alloc ?_ _)); refine blk_put (cs := #[.bool false, .bool false, .int .i64 1, .int .i64 90, .bool false, .bool false, .bool false]) ?_ 6 _ rfl; (with_reducible repeat (first | refine blk_drewN ?_ _ | refine blk_drew ?_ | refine blk_alloc ?_ _)); refine blk_put (cs := #[.bool false, .bool false, .int .i64 1, .int .i64 90, .bool false, .bool false, .bool false]) ?_ 5 _ rfl; (with_reducible repeat (first | refine blk_drewN ?_ _ | refine blk_drew ?_ | refine blk_alloc ?_ _)); refine blk_put (cs := #[.bool false, .bool false, .int .i64 1, .int .i64 90, .bool false, .bool false, .bool false]) ?_ 4 _ rfl; (with_reducible repeat (first | refine blk_drewN ?_ _ | refine blk_drew ?_ | refine blk_alloc ?_ _)); refine blk_put (cs := #[.bool false, .bool false, .int .i64 1, .int .i64 0, .bool false, .bool false, .bool false]) ?_ 3 _ rfl; (with_reducible repeat (first | refine blk_drewN ?_ _ | refine blk_drew ?_ | refine blk_alloc ?_ _)); refine blk_put (cs := #[.bool false, .bool false, .int .i64 0, .int .i64 0, .bool false, .bool false, .bool false]) ?_ 2 _ rfl; (with_reducible repeat (first | refine blk_drewN ?_ _ | refine blk_drew ?_ | refine blk_alloc ?_ _)); refine blk_put (cs := #[.bool false, .bool false, .int .i64 0, .int .i64 0, .bool false, .bool false, .bool false]) ?_ 1 _ rfl; (with_reducible repeat (first | refine blk_drewN ?_ _ | refine blk_drew ?_ | refine blk_alloc ?_ _)); refine blk_put (cs := #[.bool false, .bool false, .int .i64 0, .int .i64 0, .bool false, .bool false, .bool false]) ?_ 0 _ rfl; (with_reducible repeat (first | refine blk_drewN ?_ _ | refine blk_drew ?_ | refine blk_alloc ?_ _)); exact BK108.out) Tryd.underlying57 rfl (by kernel_rfl)) rfl ?_
                                                                            exact ⟨by first | rfl | (simp [errW_none, errW_some] <;> rfl) | (simp [*, errW_none, errW_some] <;> rfl), by repeat (first | (with_reducible first | exact HB.out | apply below_alloc | apply pw_below_drewN | apply below_drew1 | refine below_set ?_ GE108.out) | exact HB.out)⟩
                                                                          · rw [if_neg c70] at H
                                                                            have c70b0 : (a0.toList == ([57, 57] : List UInt8)) = false := beq_eq_false_iff_ne.mpr c70
                                                                            have c70b1 : (a0.toList != ([57, 57] : List UInt8)) = true := bne_iff_ne.mpr c70
                                                                            simp only [Option.some.injEq, Prod.mk.injEq] at H
                                                                            obtain ⟨rfl, rfl, rfl, rfl, rfl, rfl, rfl, rfl⟩ := H
                                                                            have hcz72_0 : wc.cell? ⟨gb108, 0, none⟩ = some (.bool false) := (blk_cell BK108.out 0).trans rfl
                                                                            have hcz72_1 : wc.cell? ⟨gb108, 1, none⟩ = some (.bool false) := (blk_cell BK108.out 1).trans rfl
                                                                            have hcz72_2 : wc.cell? ⟨gb108, 2, none⟩ = some (.int .i64 0) := (blk_cell BK108.out 2).trans rfl
                                                                            have hcz72_3 : wc.cell? ⟨gb108, 3, none⟩ = some (.int .i64 0) := (blk_cell BK108.out 3).trans rfl
                                                                            have hcz72_4 : wc.cell? ⟨gb108, 4, none⟩ = some (.bool false) := (blk_cell BK108.out 4).trans rfl
                                                                            have hcz72_5 : wc.cell? ⟨gb108, 5, none⟩ = some (.bool false) := (blk_cell BK108.out 5).trans rfl
                                                                            have hcz72_6 : wc.cell? ⟨gb108, 6, none⟩ = some (.bool false) := (blk_cell BK108.out 6).trans rfl
                                                                            have hfz72_0 := blk_frozen BK108.out 0
                                                                            have hfz72_1 := blk_frozen BK108.out 1
                                                                            have hfz72_2 := blk_frozen BK108.out 2
                                                                            have hfz72_3 := blk_frozen BK108.out 3
                                                                            have hfz72_4 := blk_frozen BK108.out 4
                                                                            have hfz72_5 := blk_frozen BK108.out 5
                                                                            have hfz72_6 := blk_frozen BK108.out 6
                                                                            go_wp2
                                                                            refine bodyPost_ret (results_ct rfl _ _ gb108 57 #[.bool false, .bool false, .int .i64 0, .int .i64 0, .bool false, .bool false, .bool false] (0, 0) _ rfl (by (with_reducible repeat (first | refine blk_drewN ?_ _ | refine blk_drew ?_ | refine blk_alloc ?_ _)); refine blk_put (cs := #[.bool false, .bool false, .int .i64 0, .int .i64 0, .bool false, .bool false, .bool false]) ?_ 6 _ rfl; (with_reducible repeat (first | refine blk_drewN ?_ _ | refine blk_drew ?_ | refine blk_alloc ?_ _)); refine blk_put (cs := #[.bool false, .bool false, .int .i64 0, .int .i64 0, .bool false, .bool false, .bool false]) ?_ 5 _ rfl; (with_reducible repeat (first | refine blk_drewN ?_ _ | refine blk_drew ?_ | refine blk_alloc ?_ _)); refine blk_put (cs := #[.bool false, .bool false, .int .i64 0, .int .i64 0, .bool false, .bool false, .bool false]) ?_ 4 _ rfl; (with_reducible repeat (first | refine blk_drewN ?_ _ | refine blk_drew ?_ | refine blk_alloc ?_ _)); refine blk_put (cs := #[.bool false, .bool false, .int .i64 0, .int .i64 0, .bool false, .bool false, .bool false]) ?_ 3 _ rfl; (with_reducible repeat (first | refine blk_drewN ?_ _ | refine blk_drew ?_ | refine blk_alloc ?_ _)); refine blk_put (cs := #[.bool false, .bool false, .int .i64 0, .int .i64 0, .bool false, .bool false, .bool false]) ?_ 2 _ rfl; (with_reducible repeat (first | refine blk_drewN ?_ _ | refine blk_drew ?_ | refine blk_alloc ?_ _)); refine blk_put (cs := #[.bool false, .bool false, .int .i64 0, .int .i64 0, .bool false, .bool false, .bool false]) ?_ 1 _ rfl; (with_reducible repeat (first | refine blk_drewN ?_ _ | refine blk_drew ?_ | refine blk_alloc ?_ _)); refine blk_put (cs := #[.bool false, .bool false, .int .i64 0, .int .i64 0, .bool false, .bool false, .bool false]) ?_ 0 _ rfl; (with_reducible repeat (first | refine blk_drewN ?_ _ | refine blk_drew ?_ | refine blk_alloc ?_ _)); exact BK108.out) Tryd.underlying57 rfl (by kernel_rfl)) rfl ?_
                                                                            exact ⟨by first | rfl | (simp [errW_none, errW_some] <;> rfl) | (simp [*, errW_none, errW_some] <;> rfl), by repeat (first | (with_reducible first | exact HB.out | apply below_alloc | apply pw_below_drewN | apply below_drew1 | refine below_set ?_ GE108.out) | exact HB.out)⟩

end Go.Proofs.YtofagdjijpjlgaaDoor.PBase
