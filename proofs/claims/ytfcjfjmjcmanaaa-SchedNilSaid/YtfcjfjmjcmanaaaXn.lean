/- SchedNil: a board that is nil; nothing at all. -/
import Derived.Test.YtfcjfjmjcmanaaaXl
import Derived.Test.YtfcjfjmjcmanaaaPTherex4
import Derived.Test.YtfcjfjmjcmanaaaPSchedFairsx1
import Derived.Outline
set_option linter.unusedVariables false
namespace Go.Proofs.Ytfcjfjmjcmanaaa.X
open Go.RowKit Go.Proofs.YtfcjfjmjcmanaaaW.PrintWords Go.Proofs.YtfcjfjmjcmanaaaW.PrintLast Go.Proofs.YtfcjfjmjcmanaaaW.PrintMore
theorem nil_First (on : Int) (w : World) : Calls Try.prog 43 #[.pointer none, .int .i64 on] w fun e w' => e = .returned (.tuple #[.int .i64 (-1), .bool false]) ∧ Drawn0 w w' := by
  go_enter Try.func43, Try.ntmps43
  go_wp2
  repeat (go_quiet (fail); try go_wp2)
  go_ret2
  exact ⟨rfl, by repeat (first | exact Drawn0.refl _ | apply Drawn0.step)⟩
theorem nil_Pick (on : Int) (w : World) : Calls Try.prog 49 #[.pointer none, .int .i64 on] w fun e w' => e = .returned (.tuple #[.int .i64 (-1), .bool false]) ∧ Drawn0 w w' := by
  go_enter Try.func49, Try.ntmps49
  go_wp2
  go_ret2
  exact ⟨rfl, Drawn0.refl _⟩
theorem nil_State (on : Int) (w : World) : Calls Try.prog 68 #[.pointer none, .int .i64 on] w fun e w' => e = .returned (.tuple #[.int .i64 (-1), .int .i64 0]) ∧ Drawn0 w w' := by
  go_enter Try.func68, Try.ntmps68
  go_wp2
  go_ret2
  exact ⟨rfl, Drawn0.refl _⟩
theorem nil_Longest (w : World) : Calls Try.prog 50 #[.pointer none] w fun e w' => e = .returned (.tuple #[.int .i64 (-1), .int .i64 0]) ∧ Drawn0 w w' := by
  go_enter Try.func50, Try.ntmps50
  go_wp2
  go_ret2
  exact ⟨rfl, Drawn0.refl _⟩
theorem nil_Start (on : Int) (w : World) : Calls Try.prog 39 #[.pointer none, .int .i64 on] w fun e w' => e = .returned (.int .i64 0) ∧ Drawn0 w w' := by
  go_enter Try.func39, Try.ntmps39
  go_wp2
  go_ret
  exact ⟨rfl, Drawn0.refl _⟩
theorem nil_Block (h on : Int) (w : World) : Calls Try.prog 40 #[.pointer none, .int .i64 h, .int .i64 on] w fun e w' => e = .returned (.int .i64 0) ∧ Drawn0 w w' := by
  go_enter Try.func40, Try.ntmps40
  go_wp2
  go_ret
  exact ⟨rfl, Drawn0.refl _⟩
theorem nil_Finish (on : Int) (w : World) : Calls Try.prog 48 #[.pointer none, .int .i64 on] w fun e w' => e = .returned (.int .i64 0) ∧ Drawn0 w w' := by
  go_enter Try.func48, Try.ntmps48
  go_wp2
  go_ret
  exact ⟨rfl, Drawn0.refl _⟩
theorem nil_Wake (on : Int) (w : World) : Calls Try.prog 44 #[.pointer none, .int .i64 on] w fun e w' => e = .returned (.slice none 0 0) ∧ Drawn0 w w' := by
  go_enter Try.func44, Try.ntmps44
  go_wp2
  go_ret
  exact ⟨rfl, Drawn0.refl _⟩
theorem nil_Ready (w : World) : Calls Try.prog 42 #[.pointer none] w fun e w' => e = .returned (.slice none 0 0) ∧ Drawn0 w w' := by
  go_enter Try.func42, Try.ntmps42
  go_wp2
  go_ret
  exact ⟨rfl, Drawn0.refl _⟩
theorem nil_Waiting (on : Int) (w : World) : Calls Try.prog 41 #[.pointer none, .int .i64 on] w fun e w' => e = .returned (.slice none 0 0) ∧ Drawn0 w w' := by
  go_enter Try.func41, Try.ntmps41
  go_wp2
  go_ret
  exact ⟨rfl, Drawn0.refl _⟩
theorem none_Switches (w : World) : Calls Try.prog 62 #[.slice none 0 0] w fun e w' => e = .returned (.tuple #[.int .i64 0, .int .i64 0]) ∧ Below w.heap.size w w' := by
  go_enter Try.func62, Try.ntmps62
  go_wp2
  refine wp_loop_rounds 1 ?_
  rw [rounds_succ]
  go_wp2
  refine wp_loop_rounds 1 ?_
  rw [rounds_succ]
  go_wp2
  go_ret2
  exact ⟨rfl, (Below.refl _ _).alloc (Nat.le_refl _) _⟩
set_option maxRecDepth 100000 in
theorem none_Least (w : World) : Calls Try.prog 36 #[.slice none 0 0, .slice none 0 0] w fun e w' => ∃ A c, e = .returned (.tuple #[.slice A 0 c, .int .i64 0]) ∧ Below w.heap.size w w' := by
  have hmk : ∀ w, (Instr.makeSlice 26 (.int .i64 0) (.int .i64 0)).run Try.prog w = .ok (.slice (some ⟨w.heap.size, 0, none⟩) 0 0) (w.alloc (.cells #[] 3)) := fun _ => by kernel_rfl
  go_enter Try.func36, Try.ntmps36
  go_wp2
  repeat (go_quiet (fail); try go_wp2)
  refine wp_loop_rounds 1 ?_
  rw [rounds_succ]
  go_wp2
  refine wp_loop_rounds 1 ?_
  rw [rounds_succ]
  go_wp2_with (go_at_call 85; refine (Try.slices_Clone_int_nil _ _ _).mono ?_; rintro e w' ⟨rfl, rfl⟩)
  refine wp_loop_rounds 1 ?_
  rw [rounds_succ]
  go_wp2
  go_ret2
  exact ⟨_, _, rfl, (((Below.refl _ _).alloc (Nat.le_refl _) _).alloc (by simp) _).alloc (by simp; omega) _⟩
theorem none_C (w : World) : Kd.C (Kd.int .i64) w none ([] : List Int).length [] := Kd.C_nil _ _
theorem none_Fair (w : World) : Calls Try.prog 31 #[.slice none 0 0, .int .i64 1, .int .i64 1] w fun e w' => e = .returned (.tuple #[.bool true, .int .i64 0]) ∧ Below w.heap.size w w' :=
  Go.Proofs.Ytfcjfjmjcmanaaa.PSchedFairs.sched_Fair.calls 20 none 0 [] 1 1 true 0 w (none_C w) (Nat.le_refl _) (by decide +kernel)
theorem none_Rank (w : World) : Calls Try.prog 54 #[.slice none 0 0] w fun e w' => e = .returned (.tuple #[.int .i64 0, .int .i64 0]) ∧ Below w.heap.size w w' :=
  Go.Proofs.Ytfcjfjmjcmanaaa.PThere.sched_Rank.calls 20 none 0 [] 0 0 w (none_C w) (Nat.le_refl _) (by decide +kernel)
theorem none_Count (w : World) : Calls Try.prog 51 #[.slice none 0 0] w fun e w' => e = .returned (.tuple #[.int .i64 0, .int .i64 2]) ∧ Drawn0 w w' :=
  Go.Proofs.Ytfcjfjmjcmanaaa.PThere.sched_Count.calls 20 none 0 [] 0 2 w (none_C w) (Nat.le_refl _) (by decide +kernel)
theorem schedNil_walk {W : World} : Calls Try.prog 20 #[] W fun e W' => e = .returned (.bool true) ∧ Below W.heap.size W W' := by
  go_enter Try.func20, Try.ntmps20
  go_wp2_with (first
    | (go_at_call 43; refine (nil_First _ _).mono ?_; rintro e w1 ⟨rfl, ⟨m1, rfl⟩⟩)
    | (go_at_call 49; refine (nil_Pick _ _).mono ?_; rintro e w1 ⟨rfl, ⟨m2, rfl⟩⟩)
    | (go_at_call 68; refine (nil_State _ _).mono ?_; rintro e w1 ⟨rfl, ⟨m3, rfl⟩⟩)
    | (go_at_call 50; refine (nil_Longest _).mono ?_; rintro e w1 ⟨rfl, ⟨m4, rfl⟩⟩)
    | (go_at_call 39; refine (nil_Start _ _).mono ?_; rintro e w1 ⟨rfl, ⟨m5, rfl⟩⟩)
    | (go_at_call 40; refine (nil_Block _ _ _).mono ?_; rintro e w1 ⟨rfl, ⟨m6, rfl⟩⟩)
    | (go_at_call 48; refine (nil_Finish _ _).mono ?_; rintro e w1 ⟨rfl, ⟨m7, rfl⟩⟩)
    | (go_at_call 44; refine (nil_Wake _ _).mono ?_; rintro e w1 ⟨rfl, ⟨m8, rfl⟩⟩)
    | (go_at_call 42; refine (nil_Ready _).mono ?_; rintro e w1 ⟨rfl, ⟨m9, rfl⟩⟩)
    | (go_at_call 41; refine (nil_Waiting _ _).mono ?_; rintro e w1 ⟨rfl, ⟨m10, rfl⟩⟩)
    | (go_at_call 31; refine (none_Fair _).mono ?_; rintro e w11 ⟨rfl, B11⟩)
    | (go_at_call 54; refine (none_Rank _).mono ?_; rintro e w12 ⟨rfl, B12⟩)
    | (go_at_call 51; refine (none_Count _).mono ?_; rintro e w1 ⟨rfl, ⟨m13, rfl⟩⟩)
    | (go_at_call 62; refine (none_Switches _).mono ?_; rintro e w14 ⟨rfl, B14⟩)
    | (go_at_call 36; refine (none_Least _).mono ?_; rintro e w15 ⟨A, c, rfl, B15⟩))
  have C11 := below_step (by repeat (first | exact Below.refl W.heap.size W | apply pw_below_drewN)) B11
  have C14 := below_step (pw_below_drewN (below_step C11 B12) m13) B14
  have C15 := below_step C14 B15
  clear B11 B12 B14 B15 C11 C14
  go_ret
  exact ⟨rfl, C15⟩
end Go.Proofs.Ytfcjfjmjcmanaaa.X
