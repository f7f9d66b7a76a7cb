/- The contracts of gtin.isDay, row.form and row.fits. -/
import Derived.Test.YtofagdjijpjlgaaDoorGb
import Derived.Outline
set_option linter.unusedVariables false
set_option linter.unusedSimpArgs false
namespace Go.Proofs.YtofagdjijpjlgaaDoor.X
open Go.RowKit Go.Proofs.YtofagdjijpjlgaaDoorW.PrintWords Go.Proofs.YtofagdjijpjlgaaDoorW.PrintLast Go.Proofs.YtofagdjijpjlgaaDoorW.PrintMore Go.Proofs.YtofagdjijpjlgaaDoor.PBase

def tw (s : ByteArray) (i : Int) : Int := (((bt s i) - 48) % 256) * 10 + (((bt s (i + 1)) - 48) % 256)
theorem tw_range (s : ByteArray) (i : Int) : 0 ≤ tw s i ∧ tw s i ≤ 2805 := by unfold tw; omega
theorem two_0 (s : ByteArray) (h : 2 ≤ s.size) : gtin_two.f s = some (tw s 0) := by
  unfold gtin_two.f; rw [if_pos (by omega), if_pos (by omega)]; rfl
theorem bt_cut (s : ByteArray) (n : Nat) (i : Nat) (h : n + i < s.size) : bt (s.extract n s.size) i = bt s ((n + i : Nat) : Int) := by
  rw [bs_rd, bs_rd, bs_extract, bs_size s, List.take_length, Int.toNat_natCast, Int.toNat_natCast, List.getD_eq_getElem?_getD, List.getD_eq_getElem?_getD, List.getElem?_drop]
theorem two_cut (s : ByteArray) (n : Nat) (h : n + 2 ≤ s.size) : gtin_two.f (s.extract n s.size) = some (tw s n) := by
  have h0 := bt_cut s n 0 (by omega)
  have h1 := bt_cut s n 1 (by omega)
  have hz : (s.extract n s.size).size = s.size - n := by rw [ByteArray.size_extract]; omega
  unfold gtin_two.f tw
  rw [if_pos (by omega), if_pos (by omega)]
  simp only [Nat.add_zero, Int.natCast_add] at h0 h1
  rw [show bt (s.extract n s.size) 0 = bt s n from h0, show bt (s.extract n s.size) 1 = bt s ((n : Int) + 1) from h1]
def monthDays (m : Int) : Int := if m = 2 then 28 else if m = 4 ∨ m = 6 ∨ m = 9 ∨ m = 11 then 30 else 31
theorem day_index (m : Int) (h1 : 1 ≤ m) (h2 : m ≤ 12) (w : World) :
    (Instr.index 116 (.agg #[.int .i64 31, .int .i64 28, .int .i64 31, .int .i64 30, .int .i64 31, .int .i64 30, .int .i64 31, .int .i64 31, .int .i64 30, .int .i64 31, .int .i64 30, .int .i64 31]) (.int .i64 (m - 1))).run Tryd.prog w = .ok (.int .i64 (monthDays m)) w := by
  have hc : m = 1 ∨ m = 2 ∨ m = 3 ∨ m = 4 ∨ m = 5 ∨ m = 6 ∨ m = 7 ∨ m = 8 ∨ m = 9 ∨ m = 10 ∨ m = 11 ∨ m = 12 := by omega
  rcases hc with rfl | rfl | rfl | rfl | rfl | rfl | rfl | rfl | rfl | rfl | rfl | rfl
  all_goals
    have hs : (sizeOf 3).run Tryd.prog w = .ok 1 w := by kernel_rfl
    have ha : (isAgg 3).run Tryd.prog w = .ok false w := by kernel_rfl
    simp [Instr.index, run_underlying Tryd.underlying116, asIntOf, part, hs, ha, monthDays, Result.andThen]
def isDayB (y m d : Int) : Bool := if m < 1 then false else if m > 12 then false else decide (d ≤ monthDays m + (if m = 2 ∧ y % 4 = 0 then 1 else 0))
def gtin_isDay.f (a0 : ByteArray) : Option Bool := if 6 ≤ a0.size then some (isDayB (tw a0 0) (tw a0 2) (tw a0 4)) else none
set_option maxHeartbeats 2000000 in
set_option maxRecDepth 100000 in
theorem isDay_low (s : ByteArray) (w : World) (y m d md : Int) (A0 : Aside0 (gtin_two.f s = some y)) (A2 : Aside0 (gtin_two.f (s.extract 2 s.size) = some m)) (A4 : Aside0 (gtin_two.f (s.extract 4 s.size) = some d))
    (g2 : (2 : Int) ≤ s.size) (g4 : (4 : Int) ≤ s.size) (h1 : decide (m < 1) = true) :
    Calls Tryd.prog 64 #[.string s] w fun e w' => e = .returned (.bool (false)) ∧ Drawn0 w w' := by
  go_enter Tryd.func64, Tryd.ntmps64
  go_wp2
  go_quiet (first | (go_at_call 26; (with_reducible refine (gtin_two.calls s y _ A0.out).mono ?_); rintro e w' ⟨rfl, ⟨nd, rfl⟩⟩; (try first | exact ⟨rfl, _, World.drewN_drewN _ _ _⟩ | exact ⟨rfl, _, Eq.trans (World.drewN_drewN _ _ _) (congrArg (World.drewN _) (Nat.add_assoc _ _ _))⟩)) | (go_at_call 26; (with_reducible refine (gtin_two.calls (s.extract 2 s.size) m _ A2.out).mono ?_); rintro e w' ⟨rfl, ⟨nd, rfl⟩⟩; (try first | exact ⟨rfl, _, World.drewN_drewN _ _ _⟩ | exact ⟨rfl, _, Eq.trans (World.drewN_drewN _ _ _) (congrArg (World.drewN _) (Nat.add_assoc _ _ _))⟩)) | (go_at_call 26; (with_reducible refine (gtin_two.calls (s.extract 4 s.size) d _ A4.out).mono ?_); rintro e w' ⟨rfl, ⟨nd, rfl⟩⟩; (try first | exact ⟨rfl, _, World.drewN_drewN _ _ _⟩ | exact ⟨rfl, _, Eq.trans (World.drewN_drewN _ _ _) (congrArg (World.drewN _) (Nat.add_assoc _ _ _))⟩)))
  go_wp2
  go_ret
  exact ⟨rfl, by repeat (first | exact Drawn0.refl _ | apply Drawn0.step)⟩
set_option maxHeartbeats 2000000 in
set_option maxRecDepth 100000 in
theorem isDay_high (s : ByteArray) (w : World) (y m d md : Int) (A0 : Aside0 (gtin_two.f s = some y)) (A2 : Aside0 (gtin_two.f (s.extract 2 s.size) = some m)) (A4 : Aside0 (gtin_two.f (s.extract 4 s.size) = some d))
    (g2 : (2 : Int) ≤ s.size) (g4 : (4 : Int) ≤ s.size) (h1 : decide (m < 1) = false) (h2 : decide (12 < m) = true) :
    Calls Tryd.prog 64 #[.string s] w fun e w' => e = .returned (.bool (false)) ∧ Drawn0 w w' := by
  go_enter Tryd.func64, Tryd.ntmps64
  go_wp2
  go_quiet (first | (go_at_call 26; (with_reducible refine (gtin_two.calls s y _ A0.out).mono ?_); rintro e w' ⟨rfl, ⟨nd, rfl⟩⟩; (try first | exact ⟨rfl, _, World.drewN_drewN _ _ _⟩ | exact ⟨rfl, _, Eq.trans (World.drewN_drewN _ _ _) (congrArg (World.drewN _) (Nat.add_assoc _ _ _))⟩)) | (go_at_call 26; (with_reducible refine (gtin_two.calls (s.extract 2 s.size) m _ A2.out).mono ?_); rintro e w' ⟨rfl, ⟨nd, rfl⟩⟩; (try first | exact ⟨rfl, _, World.drewN_drewN _ _ _⟩ | exact ⟨rfl, _, Eq.trans (World.drewN_drewN _ _ _) (congrArg (World.drewN _) (Nat.add_assoc _ _ _))⟩)) | (go_at_call 26; (with_reducible refine (gtin_two.calls (s.extract 4 s.size) d _ A4.out).mono ?_); rintro e w' ⟨rfl, ⟨nd, rfl⟩⟩; (try first | exact ⟨rfl, _, World.drewN_drewN _ _ _⟩ | exact ⟨rfl, _, Eq.trans (World.drewN_drewN _ _ _) (congrArg (World.drewN _) (Nat.add_assoc _ _ _))⟩)))
  go_wp2
  go_ret
  exact ⟨rfl, by repeat (first | exact Drawn0.refl _ | apply Drawn0.step)⟩
set_option maxHeartbeats 2000000 in
set_option maxRecDepth 100000 in
theorem isDay_leap (s : ByteArray) (w : World) (y m d md : Int) (A0 : Aside0 (gtin_two.f s = some y)) (A2 : Aside0 (gtin_two.f (s.extract 2 s.size) = some m)) (A4 : Aside0 (gtin_two.f (s.extract 4 s.size) = some d))
    (g2 : (2 : Int) ≤ s.size) (g4 : (4 : Int) ≤ s.size) (hix : ∀ w, (Instr.index 116 (.agg #[.int .i64 31, .int .i64 28, .int .i64 31, .int .i64 30, .int .i64 31, .int .i64 30, .int .i64 31, .int .i64 31, .int .i64 30, .int .i64 31, .int .i64 30, .int .i64 31]) (.int .i64 (m - 1))).run Tryd.prog w = .ok (.int .i64 md) w) (b0 : 0 ≤ m) (b1 : m ≤ 2805) (b2 : 0 ≤ md) (b3 : md ≤ 31) (b4 : 0 ≤ y) (b5 : y ≤ 2805) (h1 : decide (m < 1) = false) (h2 : decide (12 < m) = false) (h3 : (m == 2) = true) (h4 : (y % 4 == 0) = true) :
    Calls Tryd.prog 64 #[.string s] w fun e w' => e = .returned (.bool (decide (d ≤ md + 1))) ∧ Drawn0 w w' := by
  go_enter Tryd.func64, Tryd.ntmps64
  go_wp2
  go_quiet (first | (go_at_call 26; (with_reducible refine (gtin_two.calls s y _ A0.out).mono ?_); rintro e w' ⟨rfl, ⟨nd, rfl⟩⟩; (try first | exact ⟨rfl, _, World.drewN_drewN _ _ _⟩ | exact ⟨rfl, _, Eq.trans (World.drewN_drewN _ _ _) (congrArg (World.drewN _) (Nat.add_assoc _ _ _))⟩)) | (go_at_call 26; (with_reducible refine (gtin_two.calls (s.extract 2 s.size) m _ A2.out).mono ?_); rintro e w' ⟨rfl, ⟨nd, rfl⟩⟩; (try first | exact ⟨rfl, _, World.drewN_drewN _ _ _⟩ | exact ⟨rfl, _, Eq.trans (World.drewN_drewN _ _ _) (congrArg (World.drewN _) (Nat.add_assoc _ _ _))⟩)) | (go_at_call 26; (with_reducible refine (gtin_two.calls (s.extract 4 s.size) d _ A4.out).mono ?_); rintro e w' ⟨rfl, ⟨nd, rfl⟩⟩; (try first | exact ⟨rfl, _, World.drewN_drewN _ _ _⟩ | exact ⟨rfl, _, Eq.trans (World.drewN_drewN _ _ _) (congrArg (World.drewN _) (Nat.add_assoc _ _ _))⟩)))
  go_wp2
  go_ret
  exact ⟨rfl, by repeat (first | exact Drawn0.refl _ | apply Drawn0.step)⟩
set_option maxHeartbeats 2000000 in
set_option maxRecDepth 100000 in
theorem isDay_feb (s : ByteArray) (w : World) (y m d md : Int) (A0 : Aside0 (gtin_two.f s = some y)) (A2 : Aside0 (gtin_two.f (s.extract 2 s.size) = some m)) (A4 : Aside0 (gtin_two.f (s.extract 4 s.size) = some d))
    (g2 : (2 : Int) ≤ s.size) (g4 : (4 : Int) ≤ s.size) (hix : ∀ w, (Instr.index 116 (.agg #[.int .i64 31, .int .i64 28, .int .i64 31, .int .i64 30, .int .i64 31, .int .i64 30, .int .i64 31, .int .i64 31, .int .i64 30, .int .i64 31, .int .i64 30, .int .i64 31]) (.int .i64 (m - 1))).run Tryd.prog w = .ok (.int .i64 md) w) (b0 : 0 ≤ m) (b1 : m ≤ 2805) (b2 : 0 ≤ md) (b3 : md ≤ 31) (b4 : 0 ≤ y) (b5 : y ≤ 2805) (h1 : decide (m < 1) = false) (h2 : decide (12 < m) = false) (h3 : (m == 2) = true) (h4 : (y % 4 == 0) = false) :
    Calls Tryd.prog 64 #[.string s] w fun e w' => e = .returned (.bool (decide (d ≤ md))) ∧ Drawn0 w w' := by
  go_enter Tryd.func64, Tryd.ntmps64
  go_wp2
  go_quiet (first | (go_at_call 26; (with_reducible refine (gtin_two.calls s y _ A0.out).mono ?_); rintro e w' ⟨rfl, ⟨nd, rfl⟩⟩; (try first | exact ⟨rfl, _, World.drewN_drewN _ _ _⟩ | exact ⟨rfl, _, Eq.trans (World.drewN_drewN _ _ _) (congrArg (World.drewN _) (Nat.add_assoc _ _ _))⟩)) | (go_at_call 26; (with_reducible refine (gtin_two.calls (s.extract 2 s.size) m _ A2.out).mono ?_); rintro e w' ⟨rfl, ⟨nd, rfl⟩⟩; (try first | exact ⟨rfl, _, World.drewN_drewN _ _ _⟩ | exact ⟨rfl, _, Eq.trans (World.drewN_drewN _ _ _) (congrArg (World.drewN _) (Nat.add_assoc _ _ _))⟩)) | (go_at_call 26; (with_reducible refine (gtin_two.calls (s.extract 4 s.size) d _ A4.out).mono ?_); rintro e w' ⟨rfl, ⟨nd, rfl⟩⟩; (try first | exact ⟨rfl, _, World.drewN_drewN _ _ _⟩ | exact ⟨rfl, _, Eq.trans (World.drewN_drewN _ _ _) (congrArg (World.drewN _) (Nat.add_assoc _ _ _))⟩)))
  go_wp2
  go_ret
  exact ⟨rfl, by repeat (first | exact Drawn0.refl _ | apply Drawn0.step)⟩
set_option maxHeartbeats 2000000 in
set_option maxRecDepth 100000 in
theorem isDay_other (s : ByteArray) (w : World) (y m d md : Int) (A0 : Aside0 (gtin_two.f s = some y)) (A2 : Aside0 (gtin_two.f (s.extract 2 s.size) = some m)) (A4 : Aside0 (gtin_two.f (s.extract 4 s.size) = some d))
    (g2 : (2 : Int) ≤ s.size) (g4 : (4 : Int) ≤ s.size) (hix : ∀ w, (Instr.index 116 (.agg #[.int .i64 31, .int .i64 28, .int .i64 31, .int .i64 30, .int .i64 31, .int .i64 30, .int .i64 31, .int .i64 31, .int .i64 30, .int .i64 31, .int .i64 30, .int .i64 31]) (.int .i64 (m - 1))).run Tryd.prog w = .ok (.int .i64 md) w) (b0 : 0 ≤ m) (b1 : m ≤ 2805) (b2 : 0 ≤ md) (b3 : md ≤ 31) (b4 : 0 ≤ y) (b5 : y ≤ 2805) (h1 : decide (m < 1) = false) (h2 : decide (12 < m) = false) (h3 : (m == 2) = false) :
    Calls Tryd.prog 64 #[.string s] w fun e w' => e = .returned (.bool (decide (d ≤ md))) ∧ Drawn0 w w' := by
  go_enter Tryd.func64, Tryd.ntmps64
  go_wp2
  go_quiet (first | (go_at_call 26; (with_reducible refine (gtin_two.calls s y _ A0.out).mono ?_); rintro e w' ⟨rfl, ⟨nd, rfl⟩⟩; (try first | exact ⟨rfl, _, World.drewN_drewN _ _ _⟩ | exact ⟨rfl, _, Eq.trans (World.drewN_drewN _ _ _) (congrArg (World.drewN _) (Nat.add_assoc _ _ _))⟩)) | (go_at_call 26; (with_reducible refine (gtin_two.calls (s.extract 2 s.size) m _ A2.out).mono ?_); rintro e w' ⟨rfl, ⟨nd, rfl⟩⟩; (try first | exact ⟨rfl, _, World.drewN_drewN _ _ _⟩ | exact ⟨rfl, _, Eq.trans (World.drewN_drewN _ _ _) (congrArg (World.drewN _) (Nat.add_assoc _ _ _))⟩)) | (go_at_call 26; (with_reducible refine (gtin_two.calls (s.extract 4 s.size) d _ A4.out).mono ?_); rintro e w' ⟨rfl, ⟨nd, rfl⟩⟩; (try first | exact ⟨rfl, _, World.drewN_drewN _ _ _⟩ | exact ⟨rfl, _, Eq.trans (World.drewN_drewN _ _ _) (congrArg (World.drewN _) (Nat.add_assoc _ _ _))⟩)))
  go_wp2
  go_ret
  exact ⟨rfl, by repeat (first | exact Drawn0.refl _ | apply Drawn0.step)⟩
theorem gtin_isDay.calls (a0 : ByteArray) (r : Bool) (w : World) (h : gtin_isDay.f a0 = some r) :
    Calls Tryd.prog 64 #[.string a0] w fun e w' => e = .returned (.bool r) ∧ Drawn0 w w' := by
  unfold gtin_isDay.f at h
  by_cases h6 : 6 ≤ a0.size
  · rw [if_pos h6] at h
    obtain rfl := Option.some.inj h
    have A0 := Aside0.mk (two_0 a0 (by omega))
    have A2 := Aside0.mk (two_cut a0 2 (by omega))
    have A4 := Aside0.mk (two_cut a0 4 (by omega))
    have r0 := tw_range a0 0
    have r2 := tw_range a0 ((2 : Nat) : Int)
    rw [show tw a0 2 = tw a0 ((2 : Nat) : Int) from rfl, show tw a0 4 = tw a0 ((4 : Nat) : Int) from rfl]
    obtain ⟨y, hy⟩ : ∃ y, tw a0 0 = y := ⟨_, rfl⟩
    obtain ⟨m, hm⟩ : ∃ y, tw a0 ((2 : Nat) : Int) = y := ⟨_, rfl⟩
    obtain ⟨d, hd⟩ : ∃ y, tw a0 ((4 : Nat) : Int) = y := ⟨_, rfl⟩
    rw [hy] at A0 r0 ⊢
    rw [hm] at A2 r2 ⊢
    rw [hd] at A4 ⊢
    have g2 : (2 : Int) ≤ a0.size := by omega
    have g4 : (4 : Int) ≤ a0.size := by omega
    unfold isDayB
    by_cases h1 : m < 1
    · rw [if_pos h1]; exact isDay_low a0 w y m d 0 A0 A2 A4 g2 g4 (decide_eq_true h1)
    · rw [if_neg h1]
      by_cases h2 : m > 12
      · rw [if_pos h2]; exact isDay_high a0 w y m d 0 A0 A2 A4 g2 g4 (decide_eq_false h1) (decide_eq_true h2)
      · rw [if_neg h2]
        have hix := day_index m (by omega) (by omega)
        have hmd : 0 ≤ monthDays m ∧ monthDays m ≤ 31 := by unfold monthDays; repeat' split <;> omega
        by_cases h3 : m = 2
        · by_cases h4 : y % 4 = 0
          · rw [if_pos ⟨h3, h4⟩]
            exact isDay_leap a0 w y m d _ A0 A2 A4 g2 g4 hix r2.1 r2.2 hmd.1 hmd.2 r0.1 r0.2 (decide_eq_false h1) (decide_eq_false h2) (beq_iff_eq.2 h3) (beq_iff_eq.2 h4)
          · rw [if_neg (fun z => h4 z.2), Int.add_zero]
            exact isDay_feb a0 w y m d _ A0 A2 A4 g2 g4 hix r2.1 r2.2 hmd.1 hmd.2 r0.1 r0.2 (decide_eq_false h1) (decide_eq_false h2) (beq_iff_eq.2 h3) (beq_eq_false_iff_ne.2 h4)
        · rw [if_neg (fun z => h3 z.1), Int.add_zero]
          exact isDay_other a0 w y m d _ A0 A2 A4 g2 g4 hix r2.1 r2.2 hmd.1 hmd.2 r0.1 r0.2 (decide_eq_false h1) (decide_eq_false h2) (beq_eq_false_iff_ne.2 h3)
  · rw [if_neg h6] at h; cases h
end Go.Proofs.YtofagdjijpjlgaaDoor.X
