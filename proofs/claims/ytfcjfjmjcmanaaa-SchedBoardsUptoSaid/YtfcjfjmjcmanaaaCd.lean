/- Books: the walks of the other kinds' lists, of which there are none; Still; Apart; Ints. -/
import Derived.Test.YtfcjfjmjcmanaaaCc
import Derived.BigQuiet
import Derived.Deep.QuietTactic
import Derived.Deep.RegionHeld3
import Derived.Deep.DrawnRows
set_option linter.unusedVariables false
namespace Go.Proofs.Ytfcjfjmjcmanaaa.B
open Go Go.RowKit Go.Proofs.YtfcjfjmjcmanaaaW.PrintWords Go.Proofs.YtfcjfjmjcmanaaaW.PrintLast Go.Proofs.YtfcjfjmjcmanaaaW.PrintMore
variable {W : World} {T : Nat → Prop}
attribute [local go_sem ↓] Go.wp_at_zero Go.wp_at_succ
set_option maxRecDepth 100000
set_option maxHeartbeats 4000000
theorem none_73 (W : World) : Calls Try.prog 73 #[.slice none 0 0] W fun e W' => e = .returned (.bool true) ∧ Drawn0 W W' := by
  go_enter Try.func73, Try.ntmps73
  go_wp2
  go_loopw [3] (fun p wr => p = .int .i64 0 ∧ Drawn0 W wr) (fun p _ => 0)
  case atStart => exact ⟨rfl, Drawn0.refl _⟩
  case round =>
    obtain ⟨rfl, ⟨m, rfl⟩⟩ := hrel
    go_wp2
    go_loopw [6] (fun p wr => p = .int .i64 0 ∧ Drawn0 W wr) (fun p _ => 0)
    case atStart => exact ⟨rfl, ⟨m, rfl⟩⟩
    case round =>
      obtain ⟨rfl, ⟨m, rfl⟩⟩ := hrel
      go_wp2
      go_loopw [9] (fun p wr => p = .int .i64 0 ∧ Drawn0 W wr) (fun p _ => 0)
      case atStart => exact ⟨rfl, ⟨m, rfl⟩⟩
      case round =>
        obtain ⟨rfl, ⟨m, rfl⟩⟩ := hrel
        go_wp2
        go_ret
        exact ⟨rfl, ⟨m, rfl⟩⟩
theorem none_74 (W : World) : Calls Try.prog 74 #[.slice none 0 0] W fun e W' => e = .returned (.bool true) ∧ Drawn0 W W' := by
  go_enter Try.func74, Try.ntmps74
  go_wp2
  go_loopw [3] (fun p wr => p = .int .i64 0 ∧ Drawn0 W wr) (fun p _ => 0)
  case atStart => exact ⟨rfl, Drawn0.refl _⟩
  case round =>
    obtain ⟨rfl, ⟨m, rfl⟩⟩ := hrel
    go_wp2
    go_loopw [6] (fun p wr => p = .int .i64 0 ∧ Drawn0 W wr) (fun p _ => 0)
    case atStart => exact ⟨rfl, ⟨m, rfl⟩⟩
    case round =>
      obtain ⟨rfl, ⟨m, rfl⟩⟩ := hrel
      go_wp2
      go_loopw [9] (fun p wr => p = .int .i64 0 ∧ Drawn0 W wr) (fun p _ => 0)
      case atStart => exact ⟨rfl, ⟨m, rfl⟩⟩
      case round =>
        obtain ⟨rfl, ⟨m, rfl⟩⟩ := hrel
        go_wp2
        go_ret
        exact ⟨rfl, ⟨m, rfl⟩⟩
theorem none_76 (W : World) : Calls Try.prog 76 #[.slice none 0 0] W fun e W' => e = .returned (.bool true) ∧ Drawn0 W W' := by
  go_enter Try.func76, Try.ntmps76
  go_wp2
  go_loopw [3] (fun p wr => p = .int .i64 0 ∧ Drawn0 W wr) (fun p _ => 0)
  case atStart => exact ⟨rfl, Drawn0.refl _⟩
  case round =>
    obtain ⟨rfl, ⟨m, rfl⟩⟩ := hrel
    go_wp2
    go_loopw [6] (fun p wr => p = .int .i64 0 ∧ Drawn0 W wr) (fun p _ => 0)
    case atStart => exact ⟨rfl, ⟨m, rfl⟩⟩
    case round =>
      obtain ⟨rfl, ⟨m, rfl⟩⟩ := hrel
      go_wp2
      go_loopw [9] (fun p wr => p = .int .i64 0 ∧ Drawn0 W wr) (fun p _ => 0)
      case atStart => exact ⟨rfl, ⟨m, rfl⟩⟩
      case round =>
        obtain ⟨rfl, ⟨m, rfl⟩⟩ := hrel
        go_wp2
        go_ret
        exact ⟨rfl, ⟨m, rfl⟩⟩
theorem none_77 (W : World) : Calls Try.prog 77 #[.slice none 0 0] W fun e W' => e = .returned (.bool true) ∧ Drawn0 W W' := by
  go_enter Try.func77, Try.ntmps77
  go_wp2
  go_loopw [3] (fun p wr => p = .int .i64 0 ∧ Drawn0 W wr) (fun p _ => 0)
  case atStart => exact ⟨rfl, Drawn0.refl _⟩
  case round =>
    obtain ⟨rfl, ⟨m, rfl⟩⟩ := hrel
    go_wp2
    go_loopw [6] (fun p wr => p = .int .i64 0 ∧ Drawn0 W wr) (fun p _ => 0)
    case atStart => exact ⟨rfl, ⟨m, rfl⟩⟩
    case round =>
      obtain ⟨rfl, ⟨m, rfl⟩⟩ := hrel
      go_wp2
      go_loopw [9] (fun p wr => p = .int .i64 0 ∧ Drawn0 W wr) (fun p _ => 0)
      case atStart => exact ⟨rfl, ⟨m, rfl⟩⟩
      case round =>
        obtain ⟨rfl, ⟨m, rfl⟩⟩ := hrel
        go_wp2
        go_ret
        exact ⟨rfl, ⟨m, rfl⟩⟩
theorem none_78 (W : World) : Calls Try.prog 78 #[.slice none 0 0] W fun e W' => e = .returned (.bool true) ∧ Drawn0 W W' := by
  go_enter Try.func78, Try.ntmps78
  go_wp2
  go_loopw [3] (fun p wr => p = .int .i64 0 ∧ Drawn0 W wr) (fun p _ => 0)
  case atStart => exact ⟨rfl, Drawn0.refl _⟩
  case round =>
    obtain ⟨rfl, ⟨m, rfl⟩⟩ := hrel
    go_wp2
    go_loopw [6] (fun p wr => p = .int .i64 0 ∧ Drawn0 W wr) (fun p _ => 0)
    case atStart => exact ⟨rfl, ⟨m, rfl⟩⟩
    case round =>
      obtain ⟨rfl, ⟨m, rfl⟩⟩ := hrel
      go_wp2
      go_loopw [9] (fun p wr => p = .int .i64 0 ∧ Drawn0 W wr) (fun p _ => 0)
      case atStart => exact ⟨rfl, ⟨m, rfl⟩⟩
      case round =>
        obtain ⟨rfl, ⟨m, rfl⟩⟩ := hrel
        go_wp2
        go_ret
        exact ⟨rfl, ⟨m, rfl⟩⟩
theorem none_79 (W : World) : Calls Try.prog 79 #[.slice none 0 0] W fun e W' => e = .returned (.bool true) ∧ Drawn0 W W' := by
  go_enter Try.func79, Try.ntmps79
  go_wp2
  go_loopw [3] (fun p wr => p = .int .i64 0 ∧ Drawn0 W wr) (fun p _ => 0)
  case atStart => exact ⟨rfl, Drawn0.refl _⟩
  case round =>
    obtain ⟨rfl, ⟨m, rfl⟩⟩ := hrel
    go_wp2
    go_loopw [6] (fun p wr => p = .int .i64 0 ∧ Drawn0 W wr) (fun p _ => 0)
    case atStart => exact ⟨rfl, ⟨m, rfl⟩⟩
    case round =>
      obtain ⟨rfl, ⟨m, rfl⟩⟩ := hrel
      go_wp2
      go_loopw [9] (fun p wr => p = .int .i64 0 ∧ Drawn0 W wr) (fun p _ => 0)
      case atStart => exact ⟨rfl, ⟨m, rfl⟩⟩
      case round =>
        obtain ⟨rfl, ⟨m, rfl⟩⟩ := hrel
        go_wp2
        go_ret
        exact ⟨rfl, ⟨m, rfl⟩⟩
end Go.Proofs.Ytfcjfjmjcmanaaa.B
