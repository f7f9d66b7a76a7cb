-- written by xprint.py (a program of this work's own, over the kit's printer) out of the translation
import Derived.Test.YtofagdjijpjlgaaPUnitsx0
import Derived.Test.YtofagdjijpjlgaaPUnitsx1
namespace Go.Proofs.Ytofagdjijpjlgaa.PUnits
open Go.RowKit Go.Proofs.YtofagdjijpjlgaaW.PrintWords Go.Proofs.YtofagdjijpjlgaaW.PrintLast Go.Proofs.YtofagdjijpjlgaaW.PrintMore Go.Proofs.Ytofagdjijpjlgaa.X Go.Proofs.Ytofagdjijpjlgaa.PCodes Go.Proofs.Ytofagdjijpjlgaa.PNorm
attribute [local go_sem] max2_int min2_int max_two min_two max_three min_three max_four min_four   -- for this text's walks alone
set_option linter.unusedVariables false
set_option linter.unusedSimpArgs false

/-! ### larderlaw02_GtinLevels: function 11 -/
mutual
def larderlaw02_GtinLevels.j0 : Nat → Int → ByteArray → ByteArray → Bool → Option (Bool)
  | 0, _, _, _, _ => none
  | k + 1, x2, x7, x9, x60 => if x60 = true then (some false) else ((gtin_Normal.f k x7).bind fun bt160 => (if bt160.2 = 0 then (if (bt160.1.size : Int) = 14 then (if 1 ≤ 13 then (if 13 ≤ (bt160.1.size : Int) then (if 13 ≤ (x9.size : Int) then (larderlaw02_GtinLevels.j1 k x2 x7 x9 bt160.1 ((bt160.1.extract 1 13).toList != (x9.extract 1 13).toList)) else (none)) else (none)) else (none)) else (larderlaw02_GtinLevels.j1 k x2 x7 x9 bt160.1 true)) else (larderlaw02_GtinLevels.j1 k x2 x7 x9 bt160.1 true)))
def larderlaw02_GtinLevels.j1 : Nat → Int → ByteArray → ByteArray → ByteArray → Bool → Option (Bool)
  | 0, _, _, _, _, _ => none
  | k + 1, x2, x7, x9, x13, x79 => if x79 = true then (some false) else ((gtin_Unit.f k x9).bind fun bt162 => ((gtin_Short.f k x7).bind fun bt164 => (if bt162.2 = 0 then (if bt164.2 = 0 then (if 0 < (x13.size : Int) then (if (bt x13 0) = 48 then (larderlaw02_GtinLevels.j2 k x2 x7 x9 bt162.1 (bt162.1.toList != bt164.1.toList)) else (larderlaw02_GtinLevels.j2 k x2 x7 x9 bt162.1 false)) else (none)) else (larderlaw02_GtinLevels.j2 k x2 x7 x9 bt162.1 true)) else (larderlaw02_GtinLevels.j2 k x2 x7 x9 bt162.1 true))))
def larderlaw02_GtinLevels.j2 : Nat → Int → ByteArray → ByteArray → ByteArray → Bool → Option (Bool)
  | 0, _, _, _, _, _ => none
  | k + 1, x2, x7, x9, x14, x105 => if x105 = true then (some false) else ((gtin_Pack.f k x14 x2).bind fun bt166 => ((gtin_Unit.f k x7).bind fun bt168 => (if bt166.2 = 0 then (if bt166.1.toList = x9.toList then (if bt168.2 = 0 then (if bt168.1.toList = x14.toList then ((gtin_Pack.f k x7 (wrap64 (1 + (Int.tmod x2 9)))).bind fun bt170 => (if bt170.2 = 0 then (some (bt170.1.toList != x9.toList)) else (some false))) else (some false)) else (some false)) else (some false)) else (some false))))
end
def larderlaw02_GtinLevels.f (k : Nat) (l0 : List Int) (a1 : Int) (a2 : Int) : Option (Bool) := (larderlaw02_within.f a1 3).bind fun t152 => ((larderlaw02_code.f k l0 t152).bind fun bt153 => (if bt153.2 = true then ((larderlaw02_within.f a2 8).bind fun t155 => ((gtin_Pack.f k bt153.1 (wrap64 (1 + t155))).bind fun bt156 => ((gtin_Check.f k bt156.1).bind fun bt158 => (if bt156.2 = 0 then (if bt158.1 = 0 then (if (bt156.1.size : Int) = 14 then (if 0 < (bt156.1.size : Int) then (larderlaw02_GtinLevels.j0 k (wrap64 (1 + t155)) bt153.1 bt156.1 ((bt bt156.1 0) != ((wrap64 (48 + (wrap64 (1 + t155)))) % 256))) else (none)) else (larderlaw02_GtinLevels.j0 k (wrap64 (1 + t155)) bt153.1 bt156.1 true)) else (larderlaw02_GtinLevels.j0 k (wrap64 (1 + t155)) bt153.1 bt156.1 true)) else (larderlaw02_GtinLevels.j0 k (wrap64 (1 + t155)) bt153.1 bt156.1 true))))) else (some false)))
theorem larderlaw02_GtinLevels.mono_l : ∀ k, (∀ y0 y1 y2 y3, LeO (larderlaw02_GtinLevels.j0 k y0 y1 y2 y3) (larderlaw02_GtinLevels.j0 (k + 1) y0 y1 y2 y3)) ∧ (∀ y0 y1 y2 y3 y4, LeO (larderlaw02_GtinLevels.j1 k y0 y1 y2 y3 y4) (larderlaw02_GtinLevels.j1 (k + 1) y0 y1 y2 y3 y4)) ∧ (∀ y0 y1 y2 y3 y4, LeO (larderlaw02_GtinLevels.j2 k y0 y1 y2 y3 y4) (larderlaw02_GtinLevels.j2 (k + 1) y0 y1 y2 y3 y4))
  | 0 => ⟨fun _ _ _ _ r h => by simp [larderlaw02_GtinLevels.j0] at h, fun _ _ _ _ _ r h => by simp [larderlaw02_GtinLevels.j1] at h, fun _ _ _ _ _ r h => by simp [larderlaw02_GtinLevels.j2] at h⟩
  | k + 1 => by
    obtain ⟨ih0, ih1, ih2⟩ := larderlaw02_GtinLevels.mono_l k
    refine ⟨?_, ?_, ?_⟩
    · intro y0 y1 y2 y3
      unfold larderlaw02_GtinLevels.j0
      repeat' first
      | (with_reducible exact ih0 _ _ _ _)
      | (with_reducible exact ih1 _ _ _ _ _)
      | (with_reducible exact ih2 _ _ _ _ _)
      | (with_reducible exact gtin_Check.mono _ _)
      | (with_reducible exact gtin_Normal.mono _ _)
      | (with_reducible exact gtin_Pack.mono _ _ _)
      | (with_reducible exact gtin_Short.mono _ _)
      | (with_reducible exact gtin_Unit.mono _ _)
      | (with_reducible exact larderlaw02_code.mono _ _ _)
      | (with_reducible exact LeO.refl _)
      | (with_reducible exact LeO.none _)
      | (with_reducible refine LeO.ite ?_ ?_)
      | (with_reducible refine LeO.bind ?_ (fun _ => ?_))
      | exact ih0 _ _ _ _
      | exact ih1 _ _ _ _ _
      | exact ih2 _ _ _ _ _
      | exact gtin_Check.mono _ _
      | exact gtin_Normal.mono _ _
      | exact gtin_Pack.mono _ _ _
      | exact gtin_Short.mono _ _
      | exact gtin_Unit.mono _ _
      | exact larderlaw02_code.mono _ _ _
      | exact LeO.none _
      | refine LeO.ite ?_ ?_
      | refine LeO.bind ?_ (fun _ => ?_)
    · intro y0 y1 y2 y3 y4
      unfold larderlaw02_GtinLevels.j1
      repeat' first
      | (with_reducible exact ih0 _ _ _ _)
      | (with_reducible exact ih1 _ _ _ _ _)
      | (with_reducible exact ih2 _ _ _ _ _)
      | (with_reducible exact gtin_Check.mono _ _)
      | (with_reducible exact gtin_Normal.mono _ _)
      | (with_reducible exact gtin_Pack.mono _ _ _)
      | (with_reducible exact gtin_Short.mono _ _)
      | (with_reducible exact gtin_Unit.mono _ _)
      | (with_reducible exact larderlaw02_code.mono _ _ _)
      | (with_reducible exact LeO.refl _)
      | (with_reducible exact LeO.none _)
      | (with_reducible refine LeO.ite ?_ ?_)
      | (with_reducible refine LeO.bind ?_ (fun _ => ?_))
      | exact ih0 _ _ _ _
      | exact ih1 _ _ _ _ _
      | exact ih2 _ _ _ _ _
      | exact gtin_Check.mono _ _
      | exact gtin_Normal.mono _ _
      | exact gtin_Pack.mono _ _ _
      | exact gtin_Short.mono _ _
      | exact gtin_Unit.mono _ _
      | exact larderlaw02_code.mono _ _ _
      | exact LeO.none _
      | refine LeO.ite ?_ ?_
      | refine LeO.bind ?_ (fun _ => ?_)
    · intro y0 y1 y2 y3 y4
      unfold larderlaw02_GtinLevels.j2
      repeat' first
      | (with_reducible exact ih0 _ _ _ _)
      | (with_reducible exact ih1 _ _ _ _ _)
      | (with_reducible exact ih2 _ _ _ _ _)
      | (with_reducible exact gtin_Check.mono _ _)
      | (with_reducible exact gtin_Normal.mono _ _)
      | (with_reducible exact gtin_Pack.mono _ _ _)
      | (with_reducible exact gtin_Short.mono _ _)
      | (with_reducible exact gtin_Unit.mono _ _)
      | (with_reducible exact larderlaw02_code.mono _ _ _)
      | (with_reducible exact LeO.refl _)
      | (with_reducible exact LeO.none _)
      | (with_reducible refine LeO.ite ?_ ?_)
      | (with_reducible refine LeO.bind ?_ (fun _ => ?_))
      | exact ih0 _ _ _ _
      | exact ih1 _ _ _ _ _
      | exact ih2 _ _ _ _ _
      | exact gtin_Check.mono _ _
      | exact gtin_Normal.mono _ _
      | exact gtin_Pack.mono _ _ _
      | exact gtin_Short.mono _ _
      | exact gtin_Unit.mono _ _
      | exact larderlaw02_code.mono _ _ _
      | exact LeO.none _
      | refine LeO.ite ?_ ?_
      | refine LeO.bind ?_ (fun _ => ?_)
theorem larderlaw02_GtinLevels.mono : ∀ a0 a1 a2 k, LeO (larderlaw02_GtinLevels.f k a0 a1 a2) (larderlaw02_GtinLevels.f (k + 1) a0 a1 a2) := by
  intro a0 a1 a2 k
  obtain ⟨ih0, ih1, ih2⟩ := larderlaw02_GtinLevels.mono_l k
  unfold larderlaw02_GtinLevels.f
  repeat' first
      | (with_reducible exact ih0 _ _ _ _)
      | (with_reducible exact ih1 _ _ _ _ _)
      | (with_reducible exact ih2 _ _ _ _ _)
      | (with_reducible exact gtin_Check.mono _ _)
      | (with_reducible exact gtin_Normal.mono _ _)
      | (with_reducible exact gtin_Pack.mono _ _ _)
      | (with_reducible exact gtin_Short.mono _ _)
      | (with_reducible exact gtin_Unit.mono _ _)
      | (with_reducible exact larderlaw02_code.mono _ _ _)
      | (with_reducible exact LeO.refl _)
      | (with_reducible exact LeO.none _)
      | (with_reducible refine LeO.ite ?_ ?_)
      | (with_reducible refine LeO.bind ?_ (fun _ => ?_))
      | exact ih0 _ _ _ _
      | exact ih1 _ _ _ _ _
      | exact ih2 _ _ _ _ _
      | exact gtin_Check.mono _ _
      | exact gtin_Normal.mono _ _
      | exact gtin_Pack.mono _ _ _
      | exact gtin_Short.mono _ _
      | exact gtin_Unit.mono _ _
      | exact larderlaw02_code.mono _ _ _
      | exact LeO.none _
      | refine LeO.ite ?_ ?_
      | refine LeO.bind ?_ (fun _ => ?_)
set_option maxHeartbeats 8000000 in
set_option maxRecDepth 100000 in
theorem larderlaw02_GtinLevels.calls (k : Nat) (A0 : Option Addr) (c0 : Nat) (l0 : List Int) (a1 : Int) (a2 : Int) (r : Bool) (w : World) (hr0 : Kd.C (Kd.int .u8) w A0 l0.length l0) (hc0 : l0.length ≤ c0) (h : larderlaw02_GtinLevels.f k l0 a1 a2 = some r) :
    Calls Try.prog 11 #[.slice A0 l0.length c0, .int .i64 a1, .int .i64 a2] w fun e w' => e = .returned (.bool r) ∧ Below w.heap.size w w' := by
  have HR0 := Aside0.mk hr0
  have HC0 := Aside0.mk hc0
  clear hr0 hc0
  have HB := Aside0.mk (Below.refl w.heap.size w)
  have H : ((larderlaw02_within.f a1 3).bind fun t152 => ((larderlaw02_code.f k l0 t152).bind fun bt153 => (if bt153.2 = true then ((larderlaw02_within.f a2 8).bind fun t155 => ((gtin_Pack.f k bt153.1 (wrap64 (1 + t155))).bind fun bt156 => ((gtin_Check.f k bt156.1).bind fun bt158 => (if bt156.2 = 0 then (if bt158.1 = 0 then (if (bt156.1.size : Int) = 14 then (if 0 < (bt156.1.size : Int) then (larderlaw02_GtinLevels.j0 k (wrap64 (1 + t155)) bt153.1 bt156.1 ((bt bt156.1 0) != ((wrap64 (48 + (wrap64 (1 + t155)))) % 256))) else (none)) else (larderlaw02_GtinLevels.j0 k (wrap64 (1 + t155)) bt153.1 bt156.1 true)) else (larderlaw02_GtinLevels.j0 k (wrap64 (1 + t155)) bt153.1 bt156.1 true)) else (larderlaw02_GtinLevels.j0 k (wrap64 (1 + t155)) bt153.1 bt156.1 true))))) else (some false)))) = some r := h
  clear h
  replace H := Option.bind_eq_some_iff.mp H
  obtain ⟨t152, A40, H⟩ := H
  replace H : ((larderlaw02_code.f k l0 t152).bind fun bt153 => (if bt153.2 = true then ((larderlaw02_within.f a2 8).bind fun t155 => ((gtin_Pack.f k bt153.1 (wrap64 (1 + t155))).bind fun bt156 => ((gtin_Check.f k bt156.1).bind fun bt158 => (if bt156.2 = 0 then (if bt158.1 = 0 then (if (bt156.1.size : Int) = 14 then (if 0 < (bt156.1.size : Int) then (larderlaw02_GtinLevels.j0 k (wrap64 (1 + t155)) bt153.1 bt156.1 ((bt bt156.1 0) != ((wrap64 (48 + (wrap64 (1 + t155)))) % 256))) else (none)) else (larderlaw02_GtinLevels.j0 k (wrap64 (1 + t155)) bt153.1 bt156.1 true)) else (larderlaw02_GtinLevels.j0 k (wrap64 (1 + t155)) bt153.1 bt156.1 true)) else (larderlaw02_GtinLevels.j0 k (wrap64 (1 + t155)) bt153.1 bt156.1 true))))) else (some false))) = some r := H
  have A4 := Aside0.mk A40
  clear A40
  replace H := Option.bind_eq_some_iff.mp H
  obtain ⟨⟨t153, t154⟩, A50, H⟩ := H
  replace H : (if t154 = true then ((larderlaw02_within.f a2 8).bind fun t155 => ((gtin_Pack.f k t153 (wrap64 (1 + t155))).bind fun bt156 => ((gtin_Check.f k bt156.1).bind fun bt158 => (if bt156.2 = 0 then (if bt158.1 = 0 then (if (bt156.1.size : Int) = 14 then (if 0 < (bt156.1.size : Int) then (larderlaw02_GtinLevels.j0 k (wrap64 (1 + t155)) t153 bt156.1 ((bt bt156.1 0) != ((wrap64 (48 + (wrap64 (1 + t155)))) % 256))) else (none)) else (larderlaw02_GtinLevels.j0 k (wrap64 (1 + t155)) t153 bt156.1 true)) else (larderlaw02_GtinLevels.j0 k (wrap64 (1 + t155)) t153 bt156.1 true)) else (larderlaw02_GtinLevels.j0 k (wrap64 (1 + t155)) t153 bt156.1 true))))) else (some false)) = some r := H
  have A5 := Aside0.mk A50
  clear A50
  by_cases c6 : t154 = true
  · subst c6
    have H1 : ((larderlaw02_within.f a2 8).bind fun t155 => ((gtin_Pack.f k t153 (wrap64 (1 + t155))).bind fun bt156 => ((gtin_Check.f k bt156.1).bind fun bt158 => (if bt156.2 = 0 then (if bt158.1 = 0 then (if (bt156.1.size : Int) = 14 then (if 0 < (bt156.1.size : Int) then (larderlaw02_GtinLevels.j0 k (wrap64 (1 + t155)) t153 bt156.1 ((bt bt156.1 0) != ((wrap64 (48 + (wrap64 (1 + t155)))) % 256))) else (none)) else (larderlaw02_GtinLevels.j0 k (wrap64 (1 + t155)) t153 bt156.1 true)) else (larderlaw02_GtinLevels.j0 k (wrap64 (1 + t155)) t153 bt156.1 true)) else (larderlaw02_GtinLevels.j0 k (wrap64 (1 + t155)) t153 bt156.1 true))))) = some r := by rw [if_pos rfl] at H; exact H
    clear H
    have H := H1
    clear H1
    replace H := Option.bind_eq_some_iff.mp H
    obtain ⟨t155, A70, H⟩ := H
    replace H : ((gtin_Pack.f k t153 (wrap64 (1 + t155))).bind fun bt156 => ((gtin_Check.f k bt156.1).bind fun bt158 => (if bt156.2 = 0 then (if bt158.1 = 0 then (if (bt156.1.size : Int) = 14 then (if 0 < (bt156.1.size : Int) then (larderlaw02_GtinLevels.j0 k (wrap64 (1 + t155)) t153 bt156.1 ((bt bt156.1 0) != ((wrap64 (48 + (wrap64 (1 + t155)))) % 256))) else (none)) else (larderlaw02_GtinLevels.j0 k (wrap64 (1 + t155)) t153 bt156.1 true)) else (larderlaw02_GtinLevels.j0 k (wrap64 (1 + t155)) t153 bt156.1 true)) else (larderlaw02_GtinLevels.j0 k (wrap64 (1 + t155)) t153 bt156.1 true)))) = some r := H
    have A7 := Aside0.mk A70
    clear A70
    replace H := Option.bind_eq_some_iff.mp H
    obtain ⟨⟨t156, t157⟩, A80, H⟩ := H
    replace H : ((gtin_Check.f k t156).bind fun bt158 => (if t157 = 0 then (if bt158.1 = 0 then (if (t156.size : Int) = 14 then (if 0 < (t156.size : Int) then (larderlaw02_GtinLevels.j0 k (wrap64 (1 + t155)) t153 t156 ((bt t156 0) != ((wrap64 (48 + (wrap64 (1 + t155)))) % 256))) else (none)) else (larderlaw02_GtinLevels.j0 k (wrap64 (1 + t155)) t153 t156 true)) else (larderlaw02_GtinLevels.j0 k (wrap64 (1 + t155)) t153 t156 true)) else (larderlaw02_GtinLevels.j0 k (wrap64 (1 + t155)) t153 t156 true))) = some r := H
    have A8 := Aside0.mk A80
    clear A80
    replace H := Option.bind_eq_some_iff.mp H
    obtain ⟨⟨t158, t159⟩, A90, H⟩ := H
    replace H : (if t157 = 0 then (if t158 = 0 then (if (t156.size : Int) = 14 then (if 0 < (t156.size : Int) then (larderlaw02_GtinLevels.j0 k (wrap64 (1 + t155)) t153 t156 ((bt t156 0) != ((wrap64 (48 + (wrap64 (1 + t155)))) % 256))) else (none)) else (larderlaw02_GtinLevels.j0 k (wrap64 (1 + t155)) t153 t156 true)) else (larderlaw02_GtinLevels.j0 k (wrap64 (1 + t155)) t153 t156 true)) else (larderlaw02_GtinLevels.j0 k (wrap64 (1 + t155)) t153 t156 true)) = some r := H
    have A9 := Aside0.mk A90
    clear A90
    have HC10 := Aside0.mk H
    clear H
    go_enter Try.func11, Try.ntmps11
    go_upto_region 7 with (first | (go_at_call 21; (with_reducible refine (larderlaw02_within.calls a1 3 t152 _ A4.out).mono ?_); rintro e w' ⟨rfl, ⟨nd, rfl⟩⟩; (try first | exact ⟨rfl, _, World.drewN_drewN _ _ _⟩ | exact ⟨rfl, _, Eq.trans (World.drewN_drewN _ _ _) (congrArg (World.drewN _) (Nat.add_assoc _ _ _))⟩)) | (go_at_call 18; (with_reducible refine (larderlaw02_code.calls k _ _ l0 t152 t153 true _ ?side1 ?side2 A5.out).mono ?_); (case side1 => repeat (first | exact HR0.out | (with_reducible refine Kd.C_alloc ?_ _) | (with_reducible refine Kd.C_drewN ?_ _) | (with_reducible refine Kd.C_drew ?_))); (case side2 => exact HC0.out); rintro e w11 ⟨rfl, hb⟩; have n0_ := Aside0.mk (below_step (by repeat (first | (with_reducible first | exact HB.out | apply below_alloc | apply pw_below_drewN | apply below_drew1) | exact HB.out)) hb); clear HB; have HB := n0_; clear n0_; (try clear hb); (try clear hb2); (try clear hk); (try clear hi)) | (go_at_call 21; (with_reducible refine (larderlaw02_within.calls a2 8 t155 _ A7.out).mono ?_); rintro e w' ⟨rfl, ⟨nd, rfl⟩⟩; (try first | exact ⟨rfl, _, World.drewN_drewN _ _ _⟩ | exact ⟨rfl, _, Eq.trans (World.drewN_drewN _ _ _) (congrArg (World.drewN _) (Nat.add_assoc _ _ _))⟩)) | (go_at_call 22; (with_reducible refine (gtin_Pack.calls k t153 (wrap64 (1 + t155)) t156 t157 _ A8.out).mono ?_); rintro e w12 ⟨rfl, hb⟩; have n0_ := Aside0.mk (below_step (by repeat (first | (with_reducible first | exact HB.out | apply below_alloc | apply pw_below_drewN | apply below_drew1) | exact HB.out)) hb); clear HB; have HB := n0_; clear n0_; (try clear hb); (try clear hb2); (try clear hk); (try clear hi)) | (go_at_call 20; (with_reducible refine (gtin_Check.calls k t156 t158 t159 _ A9.out).mono ?_); rintro e w13 ⟨rfl, hb⟩; have n0_ := Aside0.mk (below_step (by repeat (first | (with_reducible first | exact HB.out | apply below_alloc | apply pw_below_drewN | apply below_drew1) | exact HB.out)) hb); clear HB; have HB := n0_; clear n0_; (try clear hb); (try clear hb2); (try clear hk); (try clear hi)))
    repeat (go_quiet (first | (go_at_call 21; (with_reducible refine (larderlaw02_within.calls a1 3 t152 _ A4.out).mono ?_); rintro e w' ⟨rfl, ⟨nd, rfl⟩⟩; (try first | exact ⟨rfl, _, World.drewN_drewN _ _ _⟩ | exact ⟨rfl, _, Eq.trans (World.drewN_drewN _ _ _) (congrArg (World.drewN _) (Nat.add_assoc _ _ _))⟩)) | (go_at_call 18; (with_reducible refine (larderlaw02_code.calls k _ _ l0 t152 t153 true _ ?side1 ?side2 A5.out).mono ?_); (case side1 => repeat (first | exact HR0.out | (with_reducible refine Kd.C_alloc ?_ _) | (with_reducible refine Kd.C_drewN ?_ _) | (with_reducible refine Kd.C_drew ?_))); (case side2 => exact HC0.out); rintro e w11 ⟨rfl, hb⟩; have n0_ := Aside0.mk (below_step (by repeat (first | (with_reducible first | exact HB.out | apply below_alloc | apply pw_below_drewN | apply below_drew1) | exact HB.out)) hb); clear HB; have HB := n0_; clear n0_; (try clear hb); (try clear hb2); (try clear hk); (try clear hi)) | (go_at_call 21; (with_reducible refine (larderlaw02_within.calls a2 8 t155 _ A7.out).mono ?_); rintro e w' ⟨rfl, ⟨nd, rfl⟩⟩; (try first | exact ⟨rfl, _, World.drewN_drewN _ _ _⟩ | exact ⟨rfl, _, Eq.trans (World.drewN_drewN _ _ _) (congrArg (World.drewN _) (Nat.add_assoc _ _ _))⟩)) | (go_at_call 22; (with_reducible refine (gtin_Pack.calls k t153 (wrap64 (1 + t155)) t156 t157 _ A8.out).mono ?_); rintro e w12 ⟨rfl, hb⟩; have n0_ := Aside0.mk (below_step (by repeat (first | (with_reducible first | exact HB.out | apply below_alloc | apply pw_below_drewN | apply below_drew1) | exact HB.out)) hb); clear HB; have HB := n0_; clear n0_; (try clear hb); (try clear hb2); (try clear hk); (try clear hi)) | (go_at_call 20; (with_reducible refine (gtin_Check.calls k t156 t158 t159 _ A9.out).mono ?_); rintro e w13 ⟨rfl, hb⟩; have n0_ := Aside0.mk (below_step (by repeat (first | (with_reducible first | exact HB.out | apply below_alloc | apply pw_below_drewN | apply below_drew1) | exact HB.out)) hb); clear HB; have HB := n0_; clear n0_; (try clear hb); (try clear hb2); (try clear hk); (try clear hi))); go_upto_region 7 with (first | (go_at_call 21; (with_reducible refine (larderlaw02_within.calls a1 3 t152 _ A4.out).mono ?_); rintro e w' ⟨rfl, ⟨nd, rfl⟩⟩; (try first | exact ⟨rfl, _, World.drewN_drewN _ _ _⟩ | exact ⟨rfl, _, Eq.trans (World.drewN_drewN _ _ _) (congrArg (World.drewN _) (Nat.add_assoc _ _ _))⟩)) | (go_at_call 18; (with_reducible refine (larderlaw02_code.calls k _ _ l0 t152 t153 true _ ?side1 ?side2 A5.out).mono ?_); (case side1 => repeat (first | exact HR0.out | (with_reducible refine Kd.C_alloc ?_ _) | (with_reducible refine Kd.C_drewN ?_ _) | (with_reducible refine Kd.C_drew ?_))); (case side2 => exact HC0.out); rintro e w11 ⟨rfl, hb⟩; have n0_ := Aside0.mk (below_step (by repeat (first | (with_reducible first | exact HB.out | apply below_alloc | apply pw_below_drewN | apply below_drew1) | exact HB.out)) hb); clear HB; have HB := n0_; clear n0_; (try clear hb); (try clear hb2); (try clear hk); (try clear hi)) | (go_at_call 21; (with_reducible refine (larderlaw02_within.calls a2 8 t155 _ A7.out).mono ?_); rintro e w' ⟨rfl, ⟨nd, rfl⟩⟩; (try first | exact ⟨rfl, _, World.drewN_drewN _ _ _⟩ | exact ⟨rfl, _, Eq.trans (World.drewN_drewN _ _ _) (congrArg (World.drewN _) (Nat.add_assoc _ _ _))⟩)) | (go_at_call 22; (with_reducible refine (gtin_Pack.calls k t153 (wrap64 (1 + t155)) t156 t157 _ A8.out).mono ?_); rintro e w12 ⟨rfl, hb⟩; have n0_ := Aside0.mk (below_step (by repeat (first | (with_reducible first | exact HB.out | apply below_alloc | apply pw_below_drewN | apply below_drew1) | exact HB.out)) hb); clear HB; have HB := n0_; clear n0_; (try clear hb); (try clear hb2); (try clear hk); (try clear hi)) | (go_at_call 20; (with_reducible refine (gtin_Check.calls k t156 t158 t159 _ A9.out).mono ?_); rintro e w13 ⟨rfl, hb⟩; have n0_ := Aside0.mk (below_step (by repeat (first | (with_reducible first | exact HB.out | apply below_alloc | apply pw_below_drewN | apply below_drew1) | exact HB.out)) hb); clear HB; have HB := n0_; clear n0_; (try clear hb); (try clear hb2); (try clear hk); (try clear hi))))
    (try simp only [Act.put, List.setIfInBounds_toArray, List.set_cons_zero, List.set_cons_succ])
    go_cut [60] (fun v60 wc => ∃ (kq : Nat) (x60_9 : Bool), v60 = .bool x60_9 ∧ Aside0 (larderlaw02_GtinLevels.j0 kq (wrap64 (1 + t155)) t153 t156 x60_9 = some r) ∧ Aside0 (kq ≤ k) ∧ Aside0 (Below w.heap.size w wc))
    case first =>
      have H := HC10.out
      clear HC10
      by_cases c14 : t157 = 0
      · rw [if_pos c14] at H
        have c14b0 : (t157 == 0) = true := beq_iff_eq.mpr c14
        have c14b1 : (t157 != 0) = false := bne_eq_false_iff_eq.mpr c14
        clear c14
        (first | rw [c14b0] | (simp only [i64_w, i32_w]; rw [c14b0]) | skip)
        by_cases c15 : t158 = 0
        · rw [if_pos c15] at H
          have c15b0 : (t158 == 0) = true := beq_iff_eq.mpr c15
          have c15b1 : (t158 != 0) = false := bne_eq_false_iff_eq.mpr c15
          clear c15
          by_cases c16 : (t156.size : Int) = 14
          · rw [if_pos c16] at H
            have c16b0 : ((t156.size : Int) == 14) = true := beq_iff_eq.mpr c16
            have c16b1 : ((t156.size : Int) != 14) = false := bne_eq_false_iff_eq.mpr c16
            clear c16
            by_cases c17 : 0 < (t156.size : Int)
            · rw [if_pos c17] at H
              have c17b0 : decide (0 < (t156.size : Int)) = true := decide_eq_true c17
              have c17b1 : decide (0 < t156.size) = true := decide_eq_true (by omega)
              clear c17
              have H' := Aside0.mk H
              clear H
              have p18 : 0 ≤ (0 : Int) := (by omega)
              have q18 : 0 < t156.size := (by have : (0 : Int) < (t156.size : Int) := of_decide_eq_true (by first | (with_reducible assumption) | assumption); omega)
              have hx18 : ∀ h : 0 < t156.size, ((t156[0]'h).toNat : Int) = bt t156 0 := bt_at t156 0
              clear p18
              have qi18 : (0 < (t156.size : Int)) = True := eq_true (of_decide_eq_true (by first | (with_reducible assumption) | assumption))
              replace q18 := eq_true q18
              go_wp2
              repeat (go_quiet (fail); try go_wp2)
              go_meet
              case rel => exact ⟨_, (((bt t156 0) != ((wrap64 (48 + (wrap64 (1 + t155)))) % 256))), (by first | rfl | (simp; done) | (simp [*]; done)), H', ⟨by first | omega | exact Nat.le_refl _⟩, ⟨by repeat (first | (with_reducible first | exact HB.out | apply below_alloc | apply pw_below_drewN | apply below_drew1) | exact HB.out)⟩⟩
            · rw [if_neg c17] at H
              exact absurd H (by simp)
          · rw [if_neg c16] at H
            have c16b0 : ((t156.size : Int) == 14) = false := beq_eq_false_iff_ne.mpr c16
            have c16b1 : ((t156.size : Int) != 14) = true := bne_iff_ne.mpr c16
            have H' := Aside0.mk H
            clear H
            go_wp2
            repeat (go_quiet (fail); try go_wp2)
            go_meet
            case rel => exact ⟨_, (true), (by first | rfl | (simp; done) | (simp [*]; done)), H', ⟨by first | omega | exact Nat.le_refl _⟩, ⟨by repeat (first | (with_reducible first | exact HB.out | apply below_alloc | apply pw_below_drewN | apply below_drew1) | exact HB.out)⟩⟩
        · rw [if_neg c15] at H
          have c15b0 : (t158 == 0) = false := beq_eq_false_iff_ne.mpr c15
          have c15b1 : (t158 != 0) = true := bne_iff_ne.mpr c15
          have H' := Aside0.mk H
          clear H
          go_wp2
          repeat (go_quiet (fail); try go_wp2)
          go_meet
          case rel => exact ⟨_, (true), (by first | rfl | (simp; done) | (simp [*]; done)), H', ⟨by first | omega | exact Nat.le_refl _⟩, ⟨by repeat (first | (with_reducible first | exact HB.out | apply below_alloc | apply pw_below_drewN | apply below_drew1) | exact HB.out)⟩⟩
      · rw [if_neg c14] at H
        have c14b0 : (t157 == 0) = false := beq_eq_false_iff_ne.mpr c14
        have c14b1 : (t157 != 0) = true := bne_iff_ne.mpr c14
        (first | rw [c14b0] | (simp only [i64_w, i32_w]; rw [c14b0]) | skip)
        have H' := Aside0.mk H
        clear H
        go_wp2
        repeat (go_quiet (fail); try go_wp2)
        go_meet
        case rel => exact ⟨_, (true), (by first | rfl | (simp; done) | (simp [*]; done)), H', ⟨by first | omega | exact Nat.le_refl _⟩, ⟨by repeat (first | (with_reducible first | exact HB.out | apply below_alloc | apply pw_below_drewN | apply below_drew1) | exact HB.out)⟩⟩
    case rest =>
      clear HC10
      try clear c1
      try clear p1
      try clear q1
      try clear hx1
      try clear qi1
      try clear p2
      try clear c6
      try clear p6
      try clear c11
      try clear c14
      try clear c14b0
      try clear c14b1
      try clear c15
      try clear c15b0
      try clear c15b1
      try clear c16
      try clear c16b0
      try clear c16b1
      try clear c17
      try clear c17b0
      try clear c17b1
      try clear p18
      try clear q18
      try clear hx18
      try clear qi18
      try clear p18
      try clear q18
      obtain ⟨kq, x60_9, rfl, HA, HJ9, HB⟩ := hcut
      cases kq with
      | zero => exact absurd HA.out (by simp [larderlaw02_GtinLevels.j0])
      | succ kj9 =>
        have H := HA.out
        clear HA
        simp only [larderlaw02_GtinLevels.j0] at H
        by_cases c19 : x60_9 = true
        · subst c19
          have H1 : (some false) = some r := by rw [if_pos rfl] at H; exact H
          clear H
          have H := H1
          clear H1
          obtain rfl := Option.some.inj H
          go_wp2
          repeat (go_quiet (fail); try go_wp2)
          go_ret
          exact ⟨by first | rfl | (simp [errW_none, errW_some] <;> rfl) | (simp [*, errW_none, errW_some] <;> rfl), by repeat (first | (with_reducible first | exact HB.out | apply below_alloc | apply pw_below_drewN | apply below_drew1) | exact HB.out)⟩
        · replace c19 := Bool.eq_false_iff.mpr c19
          subst c19
          have H1 : ((gtin_Normal.f kj9 t153).bind fun bt160 => (if bt160.2 = 0 then (if (bt160.1.size : Int) = 14 then (if 1 ≤ 13 then (if 13 ≤ (bt160.1.size : Int) then (if 13 ≤ (t156.size : Int) then (larderlaw02_GtinLevels.j1 kj9 (wrap64 (1 + t155)) t153 t156 bt160.1 ((bt160.1.extract 1 13).toList != (t156.extract 1 13).toList)) else (none)) else (none)) else (none)) else (larderlaw02_GtinLevels.j1 kj9 (wrap64 (1 + t155)) t153 t156 bt160.1 true)) else (larderlaw02_GtinLevels.j1 kj9 (wrap64 (1 + t155)) t153 t156 bt160.1 true))) = some r := by rw [if_neg (show ¬ (false = true) by decide)] at H; exact H
          clear H
          have H := H1
          clear H1
          replace H := Option.bind_eq_some_iff.mp H
          obtain ⟨⟨t160, t161⟩, A200, H⟩ := H
          replace H : (if t161 = 0 then (if (t160.size : Int) = 14 then (if 1 ≤ 13 then (if 13 ≤ (t160.size : Int) then (if 13 ≤ (t156.size : Int) then (larderlaw02_GtinLevels.j1 kj9 (wrap64 (1 + t155)) t153 t156 t160 ((t160.extract 1 13).toList != (t156.extract 1 13).toList)) else (none)) else (none)) else (none)) else (larderlaw02_GtinLevels.j1 kj9 (wrap64 (1 + t155)) t153 t156 t160 true)) else (larderlaw02_GtinLevels.j1 kj9 (wrap64 (1 + t155)) t153 t156 t160 true)) = some r := H
          have A20 := Aside0.mk A200
          clear A200
          have HC21 := Aside0.mk H
          clear H
          go_upto_region 10 with (first | (go_at_call 24; (with_reducible refine (gtin_Normal.calls kj9 t153 t160 t161 _ A20.out).mono ?_); rintro e w22 ⟨rfl, hb⟩; have n0_ := Aside0.mk (below_step (by repeat (first | (with_reducible first | exact HB.out | apply below_alloc | apply pw_below_drewN | apply below_drew1) | exact HB.out)) hb); clear HB; have HB := n0_; clear n0_; (try clear hb); (try clear hb2); (try clear hk); (try clear hi)))
          repeat (go_quiet (first | (go_at_call 24; (with_reducible refine (gtin_Normal.calls kj9 t153 t160 t161 _ A20.out).mono ?_); rintro e w22 ⟨rfl, hb⟩; have n0_ := Aside0.mk (below_step (by repeat (first | (with_reducible first | exact HB.out | apply below_alloc | apply pw_below_drewN | apply below_drew1) | exact HB.out)) hb); clear HB; have HB := n0_; clear n0_; (try clear hb); (try clear hb2); (try clear hk); (try clear hi))); go_upto_region 10 with (first | (go_at_call 24; (with_reducible refine (gtin_Normal.calls kj9 t153 t160 t161 _ A20.out).mono ?_); rintro e w22 ⟨rfl, hb⟩; have n0_ := Aside0.mk (below_step (by repeat (first | (with_reducible first | exact HB.out | apply below_alloc | apply pw_below_drewN | apply below_drew1) | exact HB.out)) hb); clear HB; have HB := n0_; clear n0_; (try clear hb); (try clear hb2); (try clear hk); (try clear hi))))
          (try simp only [Act.put, List.setIfInBounds_toArray, List.set_cons_zero, List.set_cons_succ])
          go_cut [79] (fun v79 wc => ∃ (kq : Nat) (x79_20 : Bool), v79 = .bool x79_20 ∧ Aside0 (larderlaw02_GtinLevels.j1 kq (wrap64 (1 + t155)) t153 t156 t160 x79_20 = some r) ∧ Aside0 (kq ≤ kj9) ∧ Aside0 (Below w.heap.size w wc))
          case first =>
            have H := HC21.out
            clear HC21
            by_cases c23 : t161 = 0
            · rw [if_pos c23] at H
              have c23b0 : (t161 == 0) = true := beq_iff_eq.mpr c23
              have c23b1 : (t161 != 0) = false := bne_eq_false_iff_eq.mpr c23
              clear c23
              (first | rw [c23b0] | (simp only [i64_w, i32_w]; rw [c23b0]) | skip)
              by_cases c24 : (t160.size : Int) = 14
              · rw [if_pos c24] at H
                have c24b0 : ((t160.size : Int) == 14) = true := beq_iff_eq.mpr c24
                have c24b1 : ((t160.size : Int) != 14) = false := bne_eq_false_iff_eq.mpr c24
                clear c24
                by_cases c25 : 1 ≤ 13
                · rw [if_pos c25] at H
                  have c25b0 := eq_true c25
                  have c25b1 : decide (1 ≤ 13) = true := decide_eq_true c25
                  clear c25
                  by_cases c26 : 13 ≤ (t160.size : Int)
                  · rw [if_pos c26] at H
                    have c26b0 := eq_true c26
                    have c26b1 : decide (13 ≤ (t160.size : Int)) = true := decide_eq_true c26
                    clear c26
                    have c27b0 := eq_true (of_decide_eq_true (by first | (with_reducible assumption) | assumption) : 1 ≤ 13)
                    by_cases c28 : 13 ≤ (t156.size : Int)
                    · rw [if_pos c28] at H
                      have c28b0 := eq_true c28
                      have c28b1 : decide (13 ≤ (t156.size : Int)) = true := decide_eq_true c28
                      clear c28
                      have H' := Aside0.mk H
                      clear H
                      go_wp2
                      repeat (go_quiet (fail); try go_wp2)
                      go_meet
                      case rel => exact ⟨_, (((t160.extract 1 13).toList != (t156.extract 1 13).toList)), (by first | rfl | (simp; done) | (simp [*]; done)), H', ⟨by have := HJ9.out; first | omega | exact Nat.le_refl _⟩, ⟨by repeat (first | (with_reducible first | exact HB.out | apply below_alloc | apply pw_below_drewN | apply below_drew1) | exact HB.out)⟩⟩
                    · rw [if_neg c28] at H
                      exact absurd H (by simp)
                  · rw [if_neg c26] at H
                    exact absurd H (by simp)
                · rw [if_neg c25] at H
                  exact absurd H (by simp)
              · rw [if_neg c24] at H
                have c24b0 : ((t160.size : Int) == 14) = false := beq_eq_false_iff_ne.mpr c24
                have c24b1 : ((t160.size : Int) != 14) = true := bne_iff_ne.mpr c24
                have H' := Aside0.mk H
                clear H
                go_wp2
                repeat (go_quiet (fail); try go_wp2)
                go_meet
                case rel => exact ⟨_, (true), (by first | rfl | (simp; done) | (simp [*]; done)), H', ⟨by have := HJ9.out; first | omega | exact Nat.le_refl _⟩, ⟨by repeat (first | (with_reducible first | exact HB.out | apply below_alloc | apply pw_below_drewN | apply below_drew1) | exact HB.out)⟩⟩
            · rw [if_neg c23] at H
              have c23b0 : (t161 == 0) = false := beq_eq_false_iff_ne.mpr c23
              have c23b1 : (t161 != 0) = true := bne_iff_ne.mpr c23
              (first | rw [c23b0] | (simp only [i64_w, i32_w]; rw [c23b0]) | skip)
              have H' := Aside0.mk H
              clear H
              go_wp2
              repeat (go_quiet (fail); try go_wp2)
              go_meet
              case rel => exact ⟨_, (true), (by first | rfl | (simp; done) | (simp [*]; done)), H', ⟨by have := HJ9.out; first | omega | exact Nat.le_refl _⟩, ⟨by repeat (first | (with_reducible first | exact HB.out | apply below_alloc | apply pw_below_drewN | apply below_drew1) | exact HB.out)⟩⟩
          case rest =>
            clear HC21
            try clear c1
            try clear p1
            try clear q1
            try clear hx1
            try clear qi1
            try clear c2
            try clear p2
            try clear c6
            try clear p6
            try clear c11
            try clear c14
            try clear c14b0
            try clear c14b1
            try clear c15
            try clear c15b0
            try clear c15b1
            try clear c16
            try clear c16b0
            try clear c16b1
            try clear c17
            try clear c17b0
            try clear c17b1
            try clear p18
            try clear q18
            try clear hx18
            try clear qi18
            try clear c19
            try clear c23
            try clear c23b0
            try clear c23b1
            try clear c24
            try clear c24b0
            try clear c24b1
            try clear c25
            try clear c25b0
            try clear c25b1
            try clear c26
            try clear c26b0
            try clear c26b1
            try clear c27
            try clear c27b0
            try clear c28
            try clear c28b0
            try clear c28b1
            try clear p1
            try clear p18
            try clear p2
            try clear p6
            try clear q1
            try clear q18
            obtain ⟨kq, x79_20, rfl, HA, HJ20, HB⟩ := hcut
            cases kq with
            | zero => exact absurd HA.out (by simp [larderlaw02_GtinLevels.j1])
            | succ kj20 =>
              have H := HA.out
              clear HA
              simp only [larderlaw02_GtinLevels.j1] at H
              by_cases c29 : x79_20 = true
              · subst c29
                have H1 : (some false) = some r := by rw [if_pos rfl] at H; exact H
                clear H
                have H := H1
                clear H1
                obtain rfl := Option.some.inj H
                go_wp2
                repeat (go_quiet (fail); try go_wp2)
                go_ret
                exact ⟨by first | rfl | (simp [errW_none, errW_some] <;> rfl) | (simp [*, errW_none, errW_some] <;> rfl), by repeat (first | (with_reducible first | exact HB.out | apply below_alloc | apply pw_below_drewN | apply below_drew1) | exact HB.out)⟩
              · replace c29 := Bool.eq_false_iff.mpr c29
                subst c29
                have H1 : ((gtin_Unit.f kj20 t156).bind fun bt162 => ((gtin_Short.f kj20 t153).bind fun bt164 => (if bt162.2 = 0 then (if bt164.2 = 0 then (if 0 < (t160.size : Int) then (if (bt t160 0) = 48 then (larderlaw02_GtinLevels.j2 kj20 (wrap64 (1 + t155)) t153 t156 bt162.1 (bt162.1.toList != bt164.1.toList)) else (larderlaw02_GtinLevels.j2 kj20 (wrap64 (1 + t155)) t153 t156 bt162.1 false)) else (none)) else (larderlaw02_GtinLevels.j2 kj20 (wrap64 (1 + t155)) t153 t156 bt162.1 true)) else (larderlaw02_GtinLevels.j2 kj20 (wrap64 (1 + t155)) t153 t156 bt162.1 true)))) = some r := by rw [if_neg (show ¬ (false = true) by decide)] at H; exact H
                clear H
                have H := H1
                clear H1
                replace H := Option.bind_eq_some_iff.mp H
                obtain ⟨⟨t162, t163⟩, A300, H⟩ := H
                replace H : ((gtin_Short.f kj20 t153).bind fun bt164 => (if t163 = 0 then (if bt164.2 = 0 then (if 0 < (t160.size : Int) then (if (bt t160 0) = 48 then (larderlaw02_GtinLevels.j2 kj20 (wrap64 (1 + t155)) t153 t156 t162 (t162.toList != bt164.1.toList)) else (larderlaw02_GtinLevels.j2 kj20 (wrap64 (1 + t155)) t153 t156 t162 false)) else (none)) else (larderlaw02_GtinLevels.j2 kj20 (wrap64 (1 + t155)) t153 t156 t162 true)) else (larderlaw02_GtinLevels.j2 kj20 (wrap64 (1 + t155)) t153 t156 t162 true))) = some r := H
                have A30 := Aside0.mk A300
                clear A300
                replace H := Option.bind_eq_some_iff.mp H
                obtain ⟨⟨t164, t165⟩, A310, H⟩ := H
                replace H : (if t163 = 0 then (if t165 = 0 then (if 0 < (t160.size : Int) then (if (bt t160 0) = 48 then (larderlaw02_GtinLevels.j2 kj20 (wrap64 (1 + t155)) t153 t156 t162 (t162.toList != t164.toList)) else (larderlaw02_GtinLevels.j2 kj20 (wrap64 (1 + t155)) t153 t156 t162 false)) else (none)) else (larderlaw02_GtinLevels.j2 kj20 (wrap64 (1 + t155)) t153 t156 t162 true)) else (larderlaw02_GtinLevels.j2 kj20 (wrap64 (1 + t155)) t153 t156 t162 true)) = some r := H
                have A31 := Aside0.mk A310
                clear A310
                have HC32 := Aside0.mk H
                clear H
                go_upto_region 14 with (first | (go_at_call 29; (with_reducible refine (gtin_Unit.calls kj20 t156 t162 t163 _ A30.out).mono ?_); rintro e w33 ⟨rfl, hb⟩; have n0_ := Aside0.mk (below_step (by repeat (first | (with_reducible first | exact HB.out | apply below_alloc | apply pw_below_drewN | apply below_drew1) | exact HB.out)) hb); clear HB; have HB := n0_; clear n0_; (try clear hb); (try clear hb2); (try clear hk); (try clear hi)) | (go_at_call 25; (with_reducible refine (gtin_Short.calls kj20 t153 t164 t165 _ A31.out).mono ?_); rintro e w34 ⟨rfl, hb⟩; have n0_ := Aside0.mk (below_step (by repeat (first | (with_reducible first | exact HB.out | apply below_alloc | apply pw_below_drewN | apply below_drew1) | exact HB.out)) hb); clear HB; have HB := n0_; clear n0_; (try clear hb); (try clear hb2); (try clear hk); (try clear hi)))
                repeat (go_quiet (first | (go_at_call 29; (with_reducible refine (gtin_Unit.calls kj20 t156 t162 t163 _ A30.out).mono ?_); rintro e w33 ⟨rfl, hb⟩; have n0_ := Aside0.mk (below_step (by repeat (first | (with_reducible first | exact HB.out | apply below_alloc | apply pw_below_drewN | apply below_drew1) | exact HB.out)) hb); clear HB; have HB := n0_; clear n0_; (try clear hb); (try clear hb2); (try clear hk); (try clear hi)) | (go_at_call 25; (with_reducible refine (gtin_Short.calls kj20 t153 t164 t165 _ A31.out).mono ?_); rintro e w34 ⟨rfl, hb⟩; have n0_ := Aside0.mk (below_step (by repeat (first | (with_reducible first | exact HB.out | apply below_alloc | apply pw_below_drewN | apply below_drew1) | exact HB.out)) hb); clear HB; have HB := n0_; clear n0_; (try clear hb); (try clear hb2); (try clear hk); (try clear hi))); go_upto_region 14 with (first | (go_at_call 29; (with_reducible refine (gtin_Unit.calls kj20 t156 t162 t163 _ A30.out).mono ?_); rintro e w33 ⟨rfl, hb⟩; have n0_ := Aside0.mk (below_step (by repeat (first | (with_reducible first | exact HB.out | apply below_alloc | apply pw_below_drewN | apply below_drew1) | exact HB.out)) hb); clear HB; have HB := n0_; clear n0_; (try clear hb); (try clear hb2); (try clear hk); (try clear hi)) | (go_at_call 25; (with_reducible refine (gtin_Short.calls kj20 t153 t164 t165 _ A31.out).mono ?_); rintro e w34 ⟨rfl, hb⟩; have n0_ := Aside0.mk (below_step (by repeat (first | (with_reducible first | exact HB.out | apply below_alloc | apply pw_below_drewN | apply below_drew1) | exact HB.out)) hb); clear HB; have HB := n0_; clear n0_; (try clear hb); (try clear hb2); (try clear hk); (try clear hi))))
                (try simp only [Act.put, List.setIfInBounds_toArray, List.set_cons_zero, List.set_cons_succ])
                go_cut [105] (fun v105 wc => ∃ (kq : Nat) (x105_31 : Bool), v105 = .bool x105_31 ∧ Aside0 (larderlaw02_GtinLevels.j2 kq (wrap64 (1 + t155)) t153 t156 t162 x105_31 = some r) ∧ Aside0 (kq ≤ kj20) ∧ Aside0 (Below w.heap.size w wc))
                case first =>
                  have H := HC32.out
                  clear HC32
                  by_cases c35 : t163 = 0
                  · rw [if_pos c35] at H
                    have c35b0 : (t163 == 0) = true := beq_iff_eq.mpr c35
                    have c35b1 : (t163 != 0) = false := bne_eq_false_iff_eq.mpr c35
                    clear c35
                    (first | rw [c35b0] | (simp only [i64_w, i32_w]; rw [c35b0]) | skip)
                    by_cases c36 : t165 = 0
                    · rw [if_pos c36] at H
                      have c36b0 : (t165 == 0) = true := beq_iff_eq.mpr c36
                      have c36b1 : (t165 != 0) = false := bne_eq_false_iff_eq.mpr c36
                      clear c36
                      by_cases c37 : 0 < (t160.size : Int)
                      · rw [if_pos c37] at H
                        have c37b0 : decide (0 < (t160.size : Int)) = true := decide_eq_true c37
                        have c37b1 : decide (0 < t160.size) = true := decide_eq_true (by omega)
                        clear c37
                        by_cases c39 : (bt t160 0) = 48
                        · rw [if_pos c39] at H
                          have c39b0 : ((bt t160 0) == 48) = true := beq_iff_eq.mpr c39
                          have c39b1 : ((bt t160 0) != 48) = false := bne_eq_false_iff_eq.mpr c39
                          clear c39
                          have H' := Aside0.mk H
                          clear H
                          have p38 : 0 ≤ (0 : Int) := (by omega)
                          have q38 : 0 < t160.size := (by have : (0 : Int) < (t160.size : Int) := of_decide_eq_true (by first | (with_reducible assumption) | assumption); omega)
                          have hx38 : ∀ h : 0 < t160.size, ((t160[0]'h).toNat : Int) = bt t160 0 := bt_at t160 0
                          clear p38
                          have qi38 : (0 < (t160.size : Int)) = True := eq_true (of_decide_eq_true (by first | (with_reducible assumption) | assumption))
                          replace q38 := eq_true q38
                          go_wp2
                          repeat (go_quiet (fail); try go_wp2)
                          go_meet
                          case rel => exact ⟨_, ((t162.toList != t164.toList)), (by first | rfl | (simp; done) | (simp [*]; done)), H', ⟨by have := HJ9.out; have := HJ20.out; first | omega | exact Nat.le_refl _⟩, ⟨by repeat (first | (with_reducible first | exact HB.out | apply below_alloc | apply pw_below_drewN | apply below_drew1) | exact HB.out)⟩⟩
                        · rw [if_neg c39] at H
                          have c39b0 : ((bt t160 0) == 48) = false := beq_eq_false_iff_ne.mpr c39
                          have c39b1 : ((bt t160 0) != 48) = true := bne_iff_ne.mpr c39
                          have H' := Aside0.mk H
                          clear H
                          have p38 : 0 ≤ (0 : Int) := (by omega)
                          have q38 : 0 < t160.size := (by have : (0 : Int) < (t160.size : Int) := of_decide_eq_true (by first | (with_reducible assumption) | assumption); omega)
                          have hx38 : ∀ h : 0 < t160.size, ((t160[0]'h).toNat : Int) = bt t160 0 := bt_at t160 0
                          clear p38
                          have qi38 : (0 < (t160.size : Int)) = True := eq_true (of_decide_eq_true (by first | (with_reducible assumption) | assumption))
                          replace q38 := eq_true q38
                          go_wp2
                          repeat (go_quiet (fail); try go_wp2)
                          go_meet
                          case rel => exact ⟨_, (false), (by first | rfl | (simp; done) | (simp [*]; done)), H', ⟨by have := HJ9.out; have := HJ20.out; first | omega | exact Nat.le_refl _⟩, ⟨by repeat (first | (with_reducible first | exact HB.out | apply below_alloc | apply pw_below_drewN | apply below_drew1) | exact HB.out)⟩⟩
                      · rw [if_neg c37] at H
                        exact absurd H (by simp)
                    · rw [if_neg c36] at H
                      have c36b0 : (t165 == 0) = false := beq_eq_false_iff_ne.mpr c36
                      have c36b1 : (t165 != 0) = true := bne_iff_ne.mpr c36
                      have H' := Aside0.mk H
                      clear H
                      go_wp2
                      repeat (go_quiet (fail); try go_wp2)
                      go_meet
                      case rel => exact ⟨_, (true), (by first | rfl | (simp; done) | (simp [*]; done)), H', ⟨by have := HJ9.out; have := HJ20.out; first | omega | exact Nat.le_refl _⟩, ⟨by repeat (first | (with_reducible first | exact HB.out | apply below_alloc | apply pw_below_drewN | apply below_drew1) | exact HB.out)⟩⟩
                  · rw [if_neg c35] at H
                    have c35b0 : (t163 == 0) = false := beq_eq_false_iff_ne.mpr c35
                    have c35b1 : (t163 != 0) = true := bne_iff_ne.mpr c35
                    (first | rw [c35b0] | (simp only [i64_w, i32_w]; rw [c35b0]) | skip)
                    have H' := Aside0.mk H
                    clear H
                    go_wp2
                    repeat (go_quiet (fail); try go_wp2)
                    go_meet
                    case rel => exact ⟨_, (true), (by first | rfl | (simp; done) | (simp [*]; done)), H', ⟨by have := HJ9.out; have := HJ20.out; first | omega | exact Nat.le_refl _⟩, ⟨by repeat (first | (with_reducible first | exact HB.out | apply below_alloc | apply pw_below_drewN | apply below_drew1) | exact HB.out)⟩⟩
                case rest =>
                  clear HC32
                  try clear c1
                  try clear p1
                  try clear q1
                  try clear hx1
                  try clear qi1
                  try clear c2
                  try clear p2
                  try clear c3
                  try clear p3
                  try clear q3
                  try clear hx3
                  try clear qi3
                  try clear c6
                  try clear p6
                  try clear c11
                  try clear c14
                  try clear c14b0
                  try clear c14b1
                  try clear c15
                  try clear c15b0
                  try clear c15b1
                  try clear c16
                  try clear c16b0
                  try clear c16b1
                  try clear c17
                  try clear c17b0
                  try clear c17b1
                  try clear p18
                  try clear q18
                  try clear hx18
                  try clear qi18
                  try clear c19
                  try clear c23
                  try clear c23b0
                  try clear c23b1
                  try clear c24
                  try clear c24b0
                  try clear c24b1
                  try clear c25
                  try clear c25b0
                  try clear c25b1
                  try clear c26
                  try clear c26b0
                  try clear c26b1
                  try clear c27
                  try clear c27b0
                  try clear c28
                  try clear c28b0
                  try clear c28b1
                  try clear c29
                  try clear c35
                  try clear c35b0
                  try clear c35b1
                  try clear c36
                  try clear c36b0
                  try clear c36b1
                  try clear c37
                  try clear c37b0
                  try clear c37b1
                  try clear p38
                  try clear q38
                  try clear hx38
                  try clear qi38
                  try clear c39
                  try clear c39b0
                  try clear c39b1
                  try clear p1
                  try clear p18
                  try clear p2
                  try clear p38
                  try clear p6
                  try clear q1
                  try clear q18
                  try clear q38
                  obtain ⟨kq, x105_31, rfl, HA, HJ31, HB⟩ := hcut
                  cases kq with
                  | zero => exact absurd HA.out (by simp [larderlaw02_GtinLevels.j2])
                  | succ kj31 =>
                    have H := HA.out
                    clear HA
                    simp only [larderlaw02_GtinLevels.j2] at H
                    by_cases c40 : x105_31 = true
                    · subst c40
                      have H1 : (some false) = some r := by rw [if_pos rfl] at H; exact H
                      clear H
                      have H := H1
                      clear H1
                      obtain rfl := Option.some.inj H
                      go_wp2
                      repeat (go_quiet (fail); try go_wp2)
                      go_ret
                      exact ⟨by first | rfl | (simp [errW_none, errW_some] <;> rfl) | (simp [*, errW_none, errW_some] <;> rfl), by repeat (first | (with_reducible first | exact HB.out | apply below_alloc | apply pw_below_drewN | apply below_drew1) | exact HB.out)⟩
                    · replace c40 := Bool.eq_false_iff.mpr c40
                      subst c40
                      have H1 : ((gtin_Pack.f kj31 t162 (wrap64 (1 + t155))).bind fun bt166 => ((gtin_Unit.f kj31 t153).bind fun bt168 => (if bt166.2 = 0 then (if bt166.1.toList = t156.toList then (if bt168.2 = 0 then (if bt168.1.toList = t162.toList then ((gtin_Pack.f kj31 t153 (wrap64 (1 + (Int.tmod (wrap64 (1 + t155)) 9)))).bind fun bt170 => (if bt170.2 = 0 then (some (bt170.1.toList != t156.toList)) else (some false))) else (some false)) else (some false)) else (some false)) else (some false)))) = some r := by rw [if_neg (show ¬ (false = true) by decide)] at H; exact H
                      clear H
                      have H := H1
                      clear H1
                      replace H := Option.bind_eq_some_iff.mp H
                      obtain ⟨⟨t166, t167⟩, A410, H⟩ := H
                      replace H : ((gtin_Unit.f kj31 t153).bind fun bt168 => (if t167 = 0 then (if t166.toList = t156.toList then (if bt168.2 = 0 then (if bt168.1.toList = t162.toList then ((gtin_Pack.f kj31 t153 (wrap64 (1 + (Int.tmod (wrap64 (1 + t155)) 9)))).bind fun bt170 => (if bt170.2 = 0 then (some (bt170.1.toList != t156.toList)) else (some false))) else (some false)) else (some false)) else (some false)) else (some false))) = some r := H
                      have A41 := Aside0.mk A410
                      clear A410
                      replace H := Option.bind_eq_some_iff.mp H
                      obtain ⟨⟨t168, t169⟩, A420, H⟩ := H
                      replace H : (if t167 = 0 then (if t166.toList = t156.toList then (if t169 = 0 then (if t168.toList = t162.toList then ((gtin_Pack.f kj31 t153 (wrap64 (1 + (Int.tmod (wrap64 (1 + t155)) 9)))).bind fun bt170 => (if bt170.2 = 0 then (some (bt170.1.toList != t156.toList)) else (some false))) else (some false)) else (some false)) else (some false)) else (some false)) = some r := H
                      have A42 := Aside0.mk A420
                      clear A420
                      by_cases c43 : t167 = 0
                      · rw [if_pos c43] at H
                        have c43b0 : (t167 == 0) = true := beq_iff_eq.mpr c43
                        have c43b1 : (t167 != 0) = false := bne_eq_false_iff_eq.mpr c43
                        clear c43
                        by_cases c44 : t166.toList = t156.toList
                        · rw [if_pos c44] at H
                          have c44b0 : (t166.toList == t156.toList) = true := beq_iff_eq.mpr c44
                          have c44b1 : (t166.toList != t156.toList) = false := bne_eq_false_iff_eq.mpr c44
                          clear c44
                          by_cases c45 : t169 = 0
                          · rw [if_pos c45] at H
                            have c45b0 : (t169 == 0) = true := beq_iff_eq.mpr c45
                            have c45b1 : (t169 != 0) = false := bne_eq_false_iff_eq.mpr c45
                            clear c45
                            by_cases c46 : t168.toList = t162.toList
                            · rw [if_pos c46] at H
                              have c46b0 : (t168.toList == t162.toList) = true := beq_iff_eq.mpr c46
                              have c46b1 : (t168.toList != t162.toList) = false := bne_eq_false_iff_eq.mpr c46
                              clear c46
                              replace H := Option.bind_eq_some_iff.mp H
                              obtain ⟨⟨t170, t171⟩, A470, H⟩ := H
                              replace H : (if t171 = 0 then (some (t170.toList != t156.toList)) else (some false)) = some r := H
                              have A47 := Aside0.mk A470
                              clear A470
                              by_cases c48 : t171 = 0
                              · rw [if_pos c48] at H
                                have c48b0 : (t171 == 0) = true := beq_iff_eq.mpr c48
                                have c48b1 : (t171 != 0) = false := bne_eq_false_iff_eq.mpr c48
                                clear c48
                                obtain rfl := Option.some.inj H
                                go_wp2_with (first | (go_at_call 22; (with_reducible refine (gtin_Pack.calls kj31 t162 (wrap64 (1 + t155)) t166 t167 _ A41.out).mono ?_); rintro e w49 ⟨rfl, hb⟩; have n0_ := Aside0.mk (below_step (by repeat (first | (with_reducible first | exact HB.out | apply below_alloc | apply pw_below_drewN | apply below_drew1) | exact HB.out)) hb); clear HB; have HB := n0_; clear n0_; (try clear hb); (try clear hb2); (try clear hk); (try clear hi)) | (go_at_call 29; (with_reducible refine (gtin_Unit.calls kj31 t153 t168 t169 _ A42.out).mono ?_); rintro e w50 ⟨rfl, hb⟩; have n0_ := Aside0.mk (below_step (by repeat (first | (with_reducible first | exact HB.out | apply below_alloc | apply pw_below_drewN | apply below_drew1) | exact HB.out)) hb); clear HB; have HB := n0_; clear n0_; (try clear hb); (try clear hb2); (try clear hk); (try clear hi)) | (go_at_call 22; (with_reducible refine (gtin_Pack.calls kj31 t153 (wrap64 (1 + (Int.tmod (wrap64 (1 + t155)) 9))) t170 t171 _ A47.out).mono ?_); rintro e w51 ⟨rfl, hb⟩; have n0_ := Aside0.mk (below_step (by repeat (first | (with_reducible first | exact HB.out | apply below_alloc | apply pw_below_drewN | apply below_drew1) | exact HB.out)) hb); clear HB; have HB := n0_; clear n0_; (try clear hb); (try clear hb2); (try clear hk); (try clear hi)))
                                repeat (go_quiet (first | (go_at_call 22; (with_reducible refine (gtin_Pack.calls kj31 t162 (wrap64 (1 + t155)) t166 t167 _ A41.out).mono ?_); rintro e w49 ⟨rfl, hb⟩; have n0_ := Aside0.mk (below_step (by repeat (first | (with_reducible first | exact HB.out | apply below_alloc | apply pw_below_drewN | apply below_drew1) | exact HB.out)) hb); clear HB; have HB := n0_; clear n0_; (try clear hb); (try clear hb2); (try clear hk); (try clear hi)) | (go_at_call 29; (with_reducible refine (gtin_Unit.calls kj31 t153 t168 t169 _ A42.out).mono ?_); rintro e w50 ⟨rfl, hb⟩; have n0_ := Aside0.mk (below_step (by repeat (first | (with_reducible first | exact HB.out | apply below_alloc | apply pw_below_drewN | apply below_drew1) | exact HB.out)) hb); clear HB; have HB := n0_; clear n0_; (try clear hb); (try clear hb2); (try clear hk); (try clear hi)) | (go_at_call 22; (with_reducible refine (gtin_Pack.calls kj31 t153 (wrap64 (1 + (Int.tmod (wrap64 (1 + t155)) 9))) t170 t171 _ A47.out).mono ?_); rintro e w51 ⟨rfl, hb⟩; have n0_ := Aside0.mk (below_step (by repeat (first | (with_reducible first | exact HB.out | apply below_alloc | apply pw_below_drewN | apply below_drew1) | exact HB.out)) hb); clear HB; have HB := n0_; clear n0_; (try clear hb); (try clear hb2); (try clear hk); (try clear hi))); try go_wp2_with (first | (go_at_call 22; (with_reducible refine (gtin_Pack.calls kj31 t162 (wrap64 (1 + t155)) t166 t167 _ A41.out).mono ?_); rintro e w49 ⟨rfl, hb⟩; have n0_ := Aside0.mk (below_step (by repeat (first | (with_reducible first | exact HB.out | apply below_alloc | apply pw_below_drewN | apply below_drew1) | exact HB.out)) hb); clear HB; have HB := n0_; clear n0_; (try clear hb); (try clear hb2); (try clear hk); (try clear hi)) | (go_at_call 29; (with_reducible refine (gtin_Unit.calls kj31 t153 t168 t169 _ A42.out).mono ?_); rintro e w50 ⟨rfl, hb⟩; have n0_ := Aside0.mk (below_step (by repeat (first | (with_reducible first | exact HB.out | apply below_alloc | apply pw_below_drewN | apply below_drew1) | exact HB.out)) hb); clear HB; have HB := n0_; clear n0_; (try clear hb); (try clear hb2); (try clear hk); (try clear hi)) | (go_at_call 22; (with_reducible refine (gtin_Pack.calls kj31 t153 (wrap64 (1 + (Int.tmod (wrap64 (1 + t155)) 9))) t170 t171 _ A47.out).mono ?_); rintro e w51 ⟨rfl, hb⟩; have n0_ := Aside0.mk (below_step (by repeat (first | (with_reducible first | exact HB.out | apply below_alloc | apply pw_below_drewN | apply below_drew1) | exact HB.out)) hb); clear HB; have HB := n0_; clear n0_; (try clear hb); (try clear hb2); (try clear hk); (try clear hi))))
                                go_ret
                                exact ⟨by first | rfl | (simp [errW_none, errW_some] <;> rfl) | (simp [*, errW_none, errW_some] <;> rfl), by repeat (first | (with_reducible first | exact HB.out | apply below_alloc | apply pw_below_drewN | apply below_drew1) | exact HB.out)⟩
                              · rw [if_neg c48] at H
                                have c48b0 : (t171 == 0) = false := beq_eq_false_iff_ne.mpr c48
                                have c48b1 : (t171 != 0) = true := bne_iff_ne.mpr c48
                                obtain rfl := Option.some.inj H
                                go_wp2_with (first | (go_at_call 22; (with_reducible refine (gtin_Pack.calls kj31 t162 (wrap64 (1 + t155)) t166 t167 _ A41.out).mono ?_); rintro e w52 ⟨rfl, hb⟩; have n0_ := Aside0.mk (below_step (by repeat (first | (with_reducible first | exact HB.out | apply below_alloc | apply pw_below_drewN | apply below_drew1) | exact HB.out)) hb); clear HB; have HB := n0_; clear n0_; (try clear hb); (try clear hb2); (try clear hk); (try clear hi)) | (go_at_call 29; (with_reducible refine (gtin_Unit.calls kj31 t153 t168 t169 _ A42.out).mono ?_); rintro e w53 ⟨rfl, hb⟩; have n0_ := Aside0.mk (below_step (by repeat (first | (with_reducible first | exact HB.out | apply below_alloc | apply pw_below_drewN | apply below_drew1) | exact HB.out)) hb); clear HB; have HB := n0_; clear n0_; (try clear hb); (try clear hb2); (try clear hk); (try clear hi)) | (go_at_call 22; (with_reducible refine (gtin_Pack.calls kj31 t153 (wrap64 (1 + (Int.tmod (wrap64 (1 + t155)) 9))) t170 t171 _ A47.out).mono ?_); rintro e w54 ⟨rfl, hb⟩; have n0_ := Aside0.mk (below_step (by repeat (first | (with_reducible first | exact HB.out | apply below_alloc | apply pw_below_drewN | apply below_drew1) | exact HB.out)) hb); clear HB; have HB := n0_; clear n0_; (try clear hb); (try clear hb2); (try clear hk); (try clear hi)))
                                repeat (go_quiet (first | (go_at_call 22; (with_reducible refine (gtin_Pack.calls kj31 t162 (wrap64 (1 + t155)) t166 t167 _ A41.out).mono ?_); rintro e w52 ⟨rfl, hb⟩; have n0_ := Aside0.mk (below_step (by repeat (first | (with_reducible first | exact HB.out | apply below_alloc | apply pw_below_drewN | apply below_drew1) | exact HB.out)) hb); clear HB; have HB := n0_; clear n0_; (try clear hb); (try clear hb2); (try clear hk); (try clear hi)) | (go_at_call 29; (with_reducible refine (gtin_Unit.calls kj31 t153 t168 t169 _ A42.out).mono ?_); rintro e w53 ⟨rfl, hb⟩; have n0_ := Aside0.mk (below_step (by repeat (first | (with_reducible first | exact HB.out | apply below_alloc | apply pw_below_drewN | apply below_drew1) | exact HB.out)) hb); clear HB; have HB := n0_; clear n0_; (try clear hb); (try clear hb2); (try clear hk); (try clear hi)) | (go_at_call 22; (with_reducible refine (gtin_Pack.calls kj31 t153 (wrap64 (1 + (Int.tmod (wrap64 (1 + t155)) 9))) t170 t171 _ A47.out).mono ?_); rintro e w54 ⟨rfl, hb⟩; have n0_ := Aside0.mk (below_step (by repeat (first | (with_reducible first | exact HB.out | apply below_alloc | apply pw_below_drewN | apply below_drew1) | exact HB.out)) hb); clear HB; have HB := n0_; clear n0_; (try clear hb); (try clear hb2); (try clear hk); (try clear hi))); try go_wp2_with (first | (go_at_call 22; (with_reducible refine (gtin_Pack.calls kj31 t162 (wrap64 (1 + t155)) t166 t167 _ A41.out).mono ?_); rintro e w52 ⟨rfl, hb⟩; have n0_ := Aside0.mk (below_step (by repeat (first | (with_reducible first | exact HB.out | apply below_alloc | apply pw_below_drewN | apply below_drew1) | exact HB.out)) hb); clear HB; have HB := n0_; clear n0_; (try clear hb); (try clear hb2); (try clear hk); (try clear hi)) | (go_at_call 29; (with_reducible refine (gtin_Unit.calls kj31 t153 t168 t169 _ A42.out).mono ?_); rintro e w53 ⟨rfl, hb⟩; have n0_ := Aside0.mk (below_step (by repeat (first | (with_reducible first | exact HB.out | apply below_alloc | apply pw_below_drewN | apply below_drew1) | exact HB.out)) hb); clear HB; have HB := n0_; clear n0_; (try clear hb); (try clear hb2); (try clear hk); (try clear hi)) | (go_at_call 22; (with_reducible refine (gtin_Pack.calls kj31 t153 (wrap64 (1 + (Int.tmod (wrap64 (1 + t155)) 9))) t170 t171 _ A47.out).mono ?_); rintro e w54 ⟨rfl, hb⟩; have n0_ := Aside0.mk (below_step (by repeat (first | (with_reducible first | exact HB.out | apply below_alloc | apply pw_below_drewN | apply below_drew1) | exact HB.out)) hb); clear HB; have HB := n0_; clear n0_; (try clear hb); (try clear hb2); (try clear hk); (try clear hi))))
                                go_ret
                                exact ⟨by first | rfl | (simp [errW_none, errW_some] <;> rfl) | (simp [*, errW_none, errW_some] <;> rfl), by repeat (first | (with_reducible first | exact HB.out | apply below_alloc | apply pw_below_drewN | apply below_drew1) | exact HB.out)⟩
                            · rw [if_neg c46] at H
                              have c46b0 : (t168.toList == t162.toList) = false := beq_eq_false_iff_ne.mpr c46
                              have c46b1 : (t168.toList != t162.toList) = true := bne_iff_ne.mpr c46
                              obtain rfl := Option.some.inj H
                              go_wp2_with (first | (go_at_call 22; (with_reducible refine (gtin_Pack.calls kj31 t162 (wrap64 (1 + t155)) t166 t167 _ A41.out).mono ?_); rintro e w55 ⟨rfl, hb⟩; have n0_ := Aside0.mk (below_step (by repeat (first | (with_reducible first | exact HB.out | apply below_alloc | apply pw_below_drewN | apply below_drew1) | exact HB.out)) hb); clear HB; have HB := n0_; clear n0_; (try clear hb); (try clear hb2); (try clear hk); (try clear hi)) | (go_at_call 29; (with_reducible refine (gtin_Unit.calls kj31 t153 t168 t169 _ A42.out).mono ?_); rintro e w56 ⟨rfl, hb⟩; have n0_ := Aside0.mk (below_step (by repeat (first | (with_reducible first | exact HB.out | apply below_alloc | apply pw_below_drewN | apply below_drew1) | exact HB.out)) hb); clear HB; have HB := n0_; clear n0_; (try clear hb); (try clear hb2); (try clear hk); (try clear hi)))
                              repeat (go_quiet (first | (go_at_call 22; (with_reducible refine (gtin_Pack.calls kj31 t162 (wrap64 (1 + t155)) t166 t167 _ A41.out).mono ?_); rintro e w55 ⟨rfl, hb⟩; have n0_ := Aside0.mk (below_step (by repeat (first | (with_reducible first | exact HB.out | apply below_alloc | apply pw_below_drewN | apply below_drew1) | exact HB.out)) hb); clear HB; have HB := n0_; clear n0_; (try clear hb); (try clear hb2); (try clear hk); (try clear hi)) | (go_at_call 29; (with_reducible refine (gtin_Unit.calls kj31 t153 t168 t169 _ A42.out).mono ?_); rintro e w56 ⟨rfl, hb⟩; have n0_ := Aside0.mk (below_step (by repeat (first | (with_reducible first | exact HB.out | apply below_alloc | apply pw_below_drewN | apply below_drew1) | exact HB.out)) hb); clear HB; have HB := n0_; clear n0_; (try clear hb); (try clear hb2); (try clear hk); (try clear hi))); try go_wp2_with (first | (go_at_call 22; (with_reducible refine (gtin_Pack.calls kj31 t162 (wrap64 (1 + t155)) t166 t167 _ A41.out).mono ?_); rintro e w55 ⟨rfl, hb⟩; have n0_ := Aside0.mk (below_step (by repeat (first | (with_reducible first | exact HB.out | apply below_alloc | apply pw_below_drewN | apply below_drew1) | exact HB.out)) hb); clear HB; have HB := n0_; clear n0_; (try clear hb); (try clear hb2); (try clear hk); (try clear hi)) | (go_at_call 29; (with_reducible refine (gtin_Unit.calls kj31 t153 t168 t169 _ A42.out).mono ?_); rintro e w56 ⟨rfl, hb⟩; have n0_ := Aside0.mk (below_step (by repeat (first | (with_reducible first | exact HB.out | apply below_alloc | apply pw_below_drewN | apply below_drew1) | exact HB.out)) hb); clear HB; have HB := n0_; clear n0_; (try clear hb); (try clear hb2); (try clear hk); (try clear hi))))
                              go_ret
                              exact ⟨by first | rfl | (simp [errW_none, errW_some] <;> rfl) | (simp [*, errW_none, errW_some] <;> rfl), by repeat (first | (with_reducible first | exact HB.out | apply below_alloc | apply pw_below_drewN | apply below_drew1) | exact HB.out)⟩
                          · rw [if_neg c45] at H
                            have c45b0 : (t169 == 0) = false := beq_eq_false_iff_ne.mpr c45
                            have c45b1 : (t169 != 0) = true := bne_iff_ne.mpr c45
                            obtain rfl := Option.some.inj H
                            go_wp2_with (first | (go_at_call 22; (with_reducible refine (gtin_Pack.calls kj31 t162 (wrap64 (1 + t155)) t166 t167 _ A41.out).mono ?_); rintro e w57 ⟨rfl, hb⟩; have n0_ := Aside0.mk (below_step (by repeat (first | (with_reducible first | exact HB.out | apply below_alloc | apply pw_below_drewN | apply below_drew1) | exact HB.out)) hb); clear HB; have HB := n0_; clear n0_; (try clear hb); (try clear hb2); (try clear hk); (try clear hi)) | (go_at_call 29; (with_reducible refine (gtin_Unit.calls kj31 t153 t168 t169 _ A42.out).mono ?_); rintro e w58 ⟨rfl, hb⟩; have n0_ := Aside0.mk (below_step (by repeat (first | (with_reducible first | exact HB.out | apply below_alloc | apply pw_below_drewN | apply below_drew1) | exact HB.out)) hb); clear HB; have HB := n0_; clear n0_; (try clear hb); (try clear hb2); (try clear hk); (try clear hi)))
                            repeat (go_quiet (first | (go_at_call 22; (with_reducible refine (gtin_Pack.calls kj31 t162 (wrap64 (1 + t155)) t166 t167 _ A41.out).mono ?_); rintro e w57 ⟨rfl, hb⟩; have n0_ := Aside0.mk (below_step (by repeat (first | (with_reducible first | exact HB.out | apply below_alloc | apply pw_below_drewN | apply below_drew1) | exact HB.out)) hb); clear HB; have HB := n0_; clear n0_; (try clear hb); (try clear hb2); (try clear hk); (try clear hi)) | (go_at_call 29; (with_reducible refine (gtin_Unit.calls kj31 t153 t168 t169 _ A42.out).mono ?_); rintro e w58 ⟨rfl, hb⟩; have n0_ := Aside0.mk (below_step (by repeat (first | (with_reducible first | exact HB.out | apply below_alloc | apply pw_below_drewN | apply below_drew1) | exact HB.out)) hb); clear HB; have HB := n0_; clear n0_; (try clear hb); (try clear hb2); (try clear hk); (try clear hi))); try go_wp2_with (first | (go_at_call 22; (with_reducible refine (gtin_Pack.calls kj31 t162 (wrap64 (1 + t155)) t166 t167 _ A41.out).mono ?_); rintro e w57 ⟨rfl, hb⟩; have n0_ := Aside0.mk (below_step (by repeat (first | (with_reducible first | exact HB.out | apply below_alloc | apply pw_below_drewN | apply below_drew1) | exact HB.out)) hb); clear HB; have HB := n0_; clear n0_; (try clear hb); (try clear hb2); (try clear hk); (try clear hi)) | (go_at_call 29; (with_reducible refine (gtin_Unit.calls kj31 t153 t168 t169 _ A42.out).mono ?_); rintro e w58 ⟨rfl, hb⟩; have n0_ := Aside0.mk (below_step (by repeat (first | (with_reducible first | exact HB.out | apply below_alloc | apply pw_below_drewN | apply below_drew1) | exact HB.out)) hb); clear HB; have HB := n0_; clear n0_; (try clear hb); (try clear hb2); (try clear hk); (try clear hi))))
                            go_ret
                            exact ⟨by first | rfl | (simp [errW_none, errW_some] <;> rfl) | (simp [*, errW_none, errW_some] <;> rfl), by repeat (first | (with_reducible first | exact HB.out | apply below_alloc | apply pw_below_drewN | apply below_drew1) | exact HB.out)⟩
                        · rw [if_neg c44] at H
                          have c44b0 : (t166.toList == t156.toList) = false := beq_eq_false_iff_ne.mpr c44
                          have c44b1 : (t166.toList != t156.toList) = true := bne_iff_ne.mpr c44
                          obtain rfl := Option.some.inj H
                          go_wp2_with (first | (go_at_call 22; (with_reducible refine (gtin_Pack.calls kj31 t162 (wrap64 (1 + t155)) t166 t167 _ A41.out).mono ?_); rintro e w59 ⟨rfl, hb⟩; have n0_ := Aside0.mk (below_step (by repeat (first | (with_reducible first | exact HB.out | apply below_alloc | apply pw_below_drewN | apply below_drew1) | exact HB.out)) hb); clear HB; have HB := n0_; clear n0_; (try clear hb); (try clear hb2); (try clear hk); (try clear hi)) | (go_at_call 29; (with_reducible refine (gtin_Unit.calls kj31 t153 t168 t169 _ A42.out).mono ?_); rintro e w60 ⟨rfl, hb⟩; have n0_ := Aside0.mk (below_step (by repeat (first | (with_reducible first | exact HB.out | apply below_alloc | apply pw_below_drewN | apply below_drew1) | exact HB.out)) hb); clear HB; have HB := n0_; clear n0_; (try clear hb); (try clear hb2); (try clear hk); (try clear hi)))
                          repeat (go_quiet (first | (go_at_call 22; (with_reducible refine (gtin_Pack.calls kj31 t162 (wrap64 (1 + t155)) t166 t167 _ A41.out).mono ?_); rintro e w59 ⟨rfl, hb⟩; have n0_ := Aside0.mk (below_step (by repeat (first | (with_reducible first | exact HB.out | apply below_alloc | apply pw_below_drewN | apply below_drew1) | exact HB.out)) hb); clear HB; have HB := n0_; clear n0_; (try clear hb); (try clear hb2); (try clear hk); (try clear hi)) | (go_at_call 29; (with_reducible refine (gtin_Unit.calls kj31 t153 t168 t169 _ A42.out).mono ?_); rintro e w60 ⟨rfl, hb⟩; have n0_ := Aside0.mk (below_step (by repeat (first | (with_reducible first | exact HB.out | apply below_alloc | apply pw_below_drewN | apply below_drew1) | exact HB.out)) hb); clear HB; have HB := n0_; clear n0_; (try clear hb); (try clear hb2); (try clear hk); (try clear hi))); try go_wp2_with (first | (go_at_call 22; (with_reducible refine (gtin_Pack.calls kj31 t162 (wrap64 (1 + t155)) t166 t167 _ A41.out).mono ?_); rintro e w59 ⟨rfl, hb⟩; have n0_ := Aside0.mk (below_step (by repeat (first | (with_reducible first | exact HB.out | apply below_alloc | apply pw_below_drewN | apply below_drew1) | exact HB.out)) hb); clear HB; have HB := n0_; clear n0_; (try clear hb); (try clear hb2); (try clear hk); (try clear hi)) | (go_at_call 29; (with_reducible refine (gtin_Unit.calls kj31 t153 t168 t169 _ A42.out).mono ?_); rintro e w60 ⟨rfl, hb⟩; have n0_ := Aside0.mk (below_step (by repeat (first | (with_reducible first | exact HB.out | apply below_alloc | apply pw_below_drewN | apply below_drew1) | exact HB.out)) hb); clear HB; have HB := n0_; clear n0_; (try clear hb); (try clear hb2); (try clear hk); (try clear hi))))
                          go_ret
                          exact ⟨by first | rfl | (simp [errW_none, errW_some] <;> rfl) | (simp [*, errW_none, errW_some] <;> rfl), by repeat (first | (with_reducible first | exact HB.out | apply below_alloc | apply pw_below_drewN | apply below_drew1) | exact HB.out)⟩
                      · rw [if_neg c43] at H
                        have c43b0 : (t167 == 0) = false := beq_eq_false_iff_ne.mpr c43
                        have c43b1 : (t167 != 0) = true := bne_iff_ne.mpr c43
                        obtain rfl := Option.some.inj H
                        go_wp2_with (first | (go_at_call 22; (with_reducible refine (gtin_Pack.calls kj31 t162 (wrap64 (1 + t155)) t166 t167 _ A41.out).mono ?_); rintro e w61 ⟨rfl, hb⟩; have n0_ := Aside0.mk (below_step (by repeat (first | (with_reducible first | exact HB.out | apply below_alloc | apply pw_below_drewN | apply below_drew1) | exact HB.out)) hb); clear HB; have HB := n0_; clear n0_; (try clear hb); (try clear hb2); (try clear hk); (try clear hi)) | (go_at_call 29; (with_reducible refine (gtin_Unit.calls kj31 t153 t168 t169 _ A42.out).mono ?_); rintro e w62 ⟨rfl, hb⟩; have n0_ := Aside0.mk (below_step (by repeat (first | (with_reducible first | exact HB.out | apply below_alloc | apply pw_below_drewN | apply below_drew1) | exact HB.out)) hb); clear HB; have HB := n0_; clear n0_; (try clear hb); (try clear hb2); (try clear hk); (try clear hi)))
                        repeat (go_quiet (first | (go_at_call 22; (with_reducible refine (gtin_Pack.calls kj31 t162 (wrap64 (1 + t155)) t166 t167 _ A41.out).mono ?_); rintro e w61 ⟨rfl, hb⟩; have n0_ := Aside0.mk (below_step (by repeat (first | (with_reducible first | exact HB.out | apply below_alloc | apply pw_below_drewN | apply below_drew1) | exact HB.out)) hb); clear HB; have HB := n0_; clear n0_; (try clear hb); (try clear hb2); (try clear hk); (try clear hi)) | (go_at_call 29; (with_reducible refine (gtin_Unit.calls kj31 t153 t168 t169 _ A42.out).mono ?_); rintro e w62 ⟨rfl, hb⟩; have n0_ := Aside0.mk (below_step (by repeat (first | (with_reducible first | exact HB.out | apply below_alloc | apply pw_below_drewN | apply below_drew1) | exact HB.out)) hb); clear HB; have HB := n0_; clear n0_; (try clear hb); (try clear hb2); (try clear hk); (try clear hi))); try go_wp2_with (first | (go_at_call 22; (with_reducible refine (gtin_Pack.calls kj31 t162 (wrap64 (1 + t155)) t166 t167 _ A41.out).mono ?_); rintro e w61 ⟨rfl, hb⟩; have n0_ := Aside0.mk (below_step (by repeat (first | (with_reducible first | exact HB.out | apply below_alloc | apply pw_below_drewN | apply below_drew1) | exact HB.out)) hb); clear HB; have HB := n0_; clear n0_; (try clear hb); (try clear hb2); (try clear hk); (try clear hi)) | (go_at_call 29; (with_reducible refine (gtin_Unit.calls kj31 t153 t168 t169 _ A42.out).mono ?_); rintro e w62 ⟨rfl, hb⟩; have n0_ := Aside0.mk (below_step (by repeat (first | (with_reducible first | exact HB.out | apply below_alloc | apply pw_below_drewN | apply below_drew1) | exact HB.out)) hb); clear HB; have HB := n0_; clear n0_; (try clear hb); (try clear hb2); (try clear hk); (try clear hi))))
                        go_ret
                        exact ⟨by first | rfl | (simp [errW_none, errW_some] <;> rfl) | (simp [*, errW_none, errW_some] <;> rfl), by repeat (first | (with_reducible first | exact HB.out | apply below_alloc | apply pw_below_drewN | apply below_drew1) | exact HB.out)⟩
  · replace c6 := Bool.eq_false_iff.mpr c6
    subst c6
    have H1 : (some false) = some r := by rw [if_neg (show ¬ (false = true) by decide)] at H; exact H
    clear H
    have H := H1
    clear H1
    obtain rfl := Option.some.inj H
    go_enter Try.func11, Try.ntmps11
    go_wp2_with (first | (go_at_call 21; (with_reducible refine (larderlaw02_within.calls a1 3 t152 _ A4.out).mono ?_); rintro e w' ⟨rfl, ⟨nd, rfl⟩⟩; (try first | exact ⟨rfl, _, World.drewN_drewN _ _ _⟩ | exact ⟨rfl, _, Eq.trans (World.drewN_drewN _ _ _) (congrArg (World.drewN _) (Nat.add_assoc _ _ _))⟩)) | (go_at_call 18; (with_reducible refine (larderlaw02_code.calls k _ _ l0 t152 t153 false _ ?side1 ?side2 A5.out).mono ?_); (case side1 => repeat (first | exact HR0.out | (with_reducible refine Kd.C_alloc ?_ _) | (with_reducible refine Kd.C_drewN ?_ _) | (with_reducible refine Kd.C_drew ?_))); (case side2 => exact HC0.out); rintro e w63 ⟨rfl, hb⟩; have n0_ := Aside0.mk (below_step (by repeat (first | (with_reducible first | exact HB.out | apply below_alloc | apply pw_below_drewN | apply below_drew1) | exact HB.out)) hb); clear HB; have HB := n0_; clear n0_; (try clear hb); (try clear hb2); (try clear hk); (try clear hi)))
    repeat (go_quiet (first | (go_at_call 21; (with_reducible refine (larderlaw02_within.calls a1 3 t152 _ A4.out).mono ?_); rintro e w' ⟨rfl, ⟨nd, rfl⟩⟩; (try first | exact ⟨rfl, _, World.drewN_drewN _ _ _⟩ | exact ⟨rfl, _, Eq.trans (World.drewN_drewN _ _ _) (congrArg (World.drewN _) (Nat.add_assoc _ _ _))⟩)) | (go_at_call 18; (with_reducible refine (larderlaw02_code.calls k _ _ l0 t152 t153 false _ ?side1 ?side2 A5.out).mono ?_); (case side1 => repeat (first | exact HR0.out | (with_reducible refine Kd.C_alloc ?_ _) | (with_reducible refine Kd.C_drewN ?_ _) | (with_reducible refine Kd.C_drew ?_))); (case side2 => exact HC0.out); rintro e w63 ⟨rfl, hb⟩; have n0_ := Aside0.mk (below_step (by repeat (first | (with_reducible first | exact HB.out | apply below_alloc | apply pw_below_drewN | apply below_drew1) | exact HB.out)) hb); clear HB; have HB := n0_; clear n0_; (try clear hb); (try clear hb2); (try clear hk); (try clear hi))); try go_wp2_with (first | (go_at_call 21; (with_reducible refine (larderlaw02_within.calls a1 3 t152 _ A4.out).mono ?_); rintro e w' ⟨rfl, ⟨nd, rfl⟩⟩; (try first | exact ⟨rfl, _, World.drewN_drewN _ _ _⟩ | exact ⟨rfl, _, Eq.trans (World.drewN_drewN _ _ _) (congrArg (World.drewN _) (Nat.add_assoc _ _ _))⟩)) | (go_at_call 18; (with_reducible refine (larderlaw02_code.calls k _ _ l0 t152 t153 false _ ?side1 ?side2 A5.out).mono ?_); (case side1 => repeat (first | exact HR0.out | (with_reducible refine Kd.C_alloc ?_ _) | (with_reducible refine Kd.C_drewN ?_ _) | (with_reducible refine Kd.C_drew ?_))); (case side2 => exact HC0.out); rintro e w63 ⟨rfl, hb⟩; have n0_ := Aside0.mk (below_step (by repeat (first | (with_reducible first | exact HB.out | apply below_alloc | apply pw_below_drewN | apply below_drew1) | exact HB.out)) hb); clear HB; have HB := n0_; clear n0_; (try clear hb); (try clear hb2); (try clear hk); (try clear hi))))
    go_ret
    exact ⟨by first | rfl | (simp [errW_none, errW_some] <;> rfl) | (simp [*, errW_none, errW_some] <;> rfl), by repeat (first | (with_reducible first | exact HB.out | apply below_alloc | apply pw_below_drewN | apply below_drew1) | exact HB.out)⟩

/-- THE ONE PURE STATEMENT of larderlaw02_GtinLevels: yours. -/
def larderlaw02_GtinLevels.Pure : Prop := ∀ (l0 : List Int) (a1 : Int) (a2 : Int), l0.length ≤ maxLen → l0.length * 1 ≤ 140737488351232 → (∀ x ∈ l0, (Lit.int .u8 x).wf = true) → (Lit.int .i64 a1).wf = true → (Lit.int .i64 a2).wf = true → ∃ k, larderlaw02_GtinLevels.f k l0 a1 a2 = some true
theorem larderlaw02_GtinLevels.walk (P : larderlaw02_GtinLevels.Pure) (a0 : Option Addr) (len0 cap0 : Nat) (z0 : List Int) (a1 : Int) (a2 : Int) (w : World) (w0 : (a0 = none ∧ len0 = 0 ∧ cap0 = 0 ∧ z0 = []) ∨ ∃ x, a0 = some x ∧ len0 ≤ cap0 ∧ cap0 ≤ maxLen ∧ z0.length = cap0 ∧ (∀ i, i < z0.length → w.cell? (x.add i) = some (.int .u8 (z0.getD i 0))) ∧ ∀ n ∈ z0, (Lit.int .u8 n).wf = true) (y0 : len0 * 1 ≤ 140737488351232) (w1 : (Lit.int .i64 a1).wf = true) (w2 : (Lit.int .i64 a2).wf = true) :
    Calls Try.prog 11 #[.slice a0 len0 cap0, .int .i64 a1, .int .i64 a2] w fun e w' => e = .returned (.bool true) ∧ Below w.heap.size w w' := by
  obtain ⟨l0, rfl, hr0, hm0, hw0, hc0⟩ := ReadsInt.ofRowC w0
  obtain ⟨k, h⟩ := P l0 a1 a2 hm0 y0 hw0 w1 w2
  refine (larderlaw02_GtinLevels.calls k _ _ l0 a1 a2 true w (Kd.C_of_reads (d := (0 : Int)) (h1 := fun _ => rfl) hr0) hc0 h).mono ?_
  rintro e w' ⟨rfl, hd⟩
  exact ⟨rfl, hd⟩

end Go.Proofs.Ytofagdjijpjlgaa.PUnits
