/- gtin: Parse of a text that begins with a day (15) that is none: the parts. -/
import Derived.Test.YtofagdjijpjlgaaDoorZa
import Derived.Test.YtofagdjijpjlgaaDoorXwq
import Derived.Recover
import Derived.WalkLawsBesides
import Derived.Laws.Pointers
set_option linter.unusedVariables false
set_option linter.unusedSimpArgs false
namespace Go.Proofs.YtofagdjijpjlgaaDoor.X
open Go Go.RowKit Go.Proofs.YtofagdjijpjlgaaDoorW.PrintWords Go.Proofs.YtofagdjijpjlgaaDoorW.PrintLast Go.Proofs.YtofagdjijpjlgaaDoorW.PrintMore
def faultV (e p : Int) : Value := .iface 65 (.agg #[.int .i64 e, .int .i64 p])
/-- The scanner at z. -/
def ScAt (W : World) (z : Nat) (t : ByteArray) (p : Int) (m : Nat) : Prop := W.heap[z]? = some (.cells #[.string t, .int .i64 p, .map (some m)] 73 (0, 0))
variable {W W' : World} {z m N : Nat} {t : ByteArray} {p : Int}
theorem ScAt.cells (h : ScAt W z t p m) : W.cell? ⟨z, 0, none⟩ = some (.string t) ∧ W.cell? ⟨z, 1, none⟩ = some (.int .i64 p) ∧ W.cell? ⟨z, 2, none⟩ = some (.map (some m)) ∧ W.frozen? ⟨z, 1, none⟩ = false := by
  have h : W.heap[z]? = some (.cells #[.string t, .int .i64 p, .map (some m)] 73 (0, 0)) := h
  refine ⟨?_, ?_, ?_, ?_⟩
  · simp [World.cell?, h]
  · simp [World.cell?, h]
  · simp [World.cell?, h]
  · simp [World.frozen?, h]
theorem ScAt.lt (h : ScAt W z t p m) : z < W.heap.size := (Array.getElem?_eq_some_iff.1 h).1
theorem ScAt.of_block (h : ScAt W z t p m) (e : W'.heap[z]? = W.heap[z]?) : ScAt W' z t p m := e.trans h
set_option maxRecDepth 100000
set_option maxHeartbeats 4000000
theorem wrong_calls (z : Nat) (e p : Int) (w : World) : Calls Tryd.prog 38 #[.pointer (some ⟨z, 0, none⟩), .int .i64 e, .int .i64 p] w fun en w' => en = .panicked [{ v := faultV e p, recovered := false }] ∧ w' = w := by
  go_enter Tryd.func38, Tryd.ntmps38
  go_wp2
  exact ⟨rfl, rfl, rfl⟩
/-- A new map of what was seen. -/
theorem newSeen_calls (w : World) : Calls Tryd.prog 35 #[] w fun e w' => ∃ m, e = .returned (.agg #[.map (some m)]) ∧ SeenAt w' m 0 [] ∧ w.heap.size ≤ m ∧ Below w.heap.size w w' := by
  have hmm := @run_makeMap Tryd.prog
  go_enter Tryd.func35, Tryd.ntmps35
  go_wp2
  have z := SeenAt.made (w.alloc (.cells #[.map (some (w.heap.size + 1))] 70))
  rw [show (w.alloc (.cells #[.map (some (w.heap.size + 1))] 70)).heap.size = w.heap.size + 1 by simp] at z
  exact bodyPost_ret (v := .agg #[.map (some (w.heap.size + 1))]) (by simp [results, Tryd.results35, go_sem]) rfl ⟨_, rfl, z, by omega, ((Below.refl _ w).alloc (Nat.le_refl _) _).alloc (by simp) _⟩
end Go.Proofs.YtofagdjijpjlgaaDoor.X
