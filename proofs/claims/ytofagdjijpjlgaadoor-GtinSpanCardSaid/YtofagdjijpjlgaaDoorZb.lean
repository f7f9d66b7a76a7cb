/- gtin: Parse of a text that begins with a day (15) that is none: the parts. -/
import Derived.Test.YtofagdjijpjlgaaDoorZa
import Derived.Test.YtofagdjijpjlgaaDoorXw
import Derived.Recover
import Derived.WalkLawsBesides
import Derived.Laws.Pointers
set_option linter.unusedVariables false
set_option linter.unusedSimpArgs false
namespace Go.Proofs.YtofagdjijpjlgaaDoor.X
open Go Go.RowKit Go.Proofs.YtofagdjijpjlgaaDoorW.PrintWords Go.Proofs.YtofagdjijpjlgaaDoorW.PrintLast Go.Proofs.YtofagdjijpjlgaaDoorW.PrintMore
def faultV (e p : Int) : Value := .iface 65 (.agg #[.int .i64 e, .int .i64 p])
/-- The scanner at z. -/
def ScAt (W : World) (z : Nat) (t : ByteArray) (p : Int) (m : Nat) : Prop := W.heap[z]? = some (.cells #[.string t, .int .i64 p, .map (some m)] 73 (0, 0))
variable {W W' : World} {z m N : Nat} {t : ByteArray} {p : Int}
theorem ScAt.cells (h : ScAt W z t p m) : W.cell? ⟨z, 0, none⟩ = some (.string t) ∧ W.cell? ⟨z, 1, none⟩ = some (.int .i64 p) ∧ W.cell? ⟨z, 2, none⟩ = some (.map (some m)) ∧ W.frozen? ⟨z, 1, none⟩ = false := by
  have h : W.heap[z]? = some (.cells #[.string t, .int .i64 p, .map (some m)] 73 (0, 0)) := h
  refine ⟨?_, ?_, ?_, ?_⟩
  · simp [World.cell?, h]
  · simp [World.cell?, h]
  · simp [World.cell?, h]
  · simp [World.frozen?, h]
theorem ScAt.lt (h : ScAt W z t p m) : z < W.heap.size := (Array.getElem?_eq_some_iff.1 h).1
theorem ScAt.of_block (h : ScAt W z t p m) (e : W'.heap[z]? = W.heap[z]?) : ScAt W' z t p m := e.trans h
set_option maxRecDepth 100000
set_option maxHeartbeats 4000000
theorem wrong_calls (z : Nat) (e p : Int) (w : World) : Calls Tryd.prog 38 #[.pointer (some ⟨z, 0, none⟩), .int .i64 e, .int .i64 p] w fun en w' => en = .panicked [{ v := faultV e p, recovered := false }] ∧ w' = w := by
  go_enter Tryd.func38, Tryd.ntmps38
  go_wp2
  exact ⟨rfl, rfl, rfl⟩
/-- A new map of what was seen. -/
theorem newSeen_calls (w : World) : Calls Tryd.prog 35 #[] w fun e w' => ∃ m, e = .returned (.agg #[.map (some m)]) ∧ SeenAt w' m 0 [] ∧ w.heap.size ≤ m ∧ Below w.heap.size w w' := by
  have hmm := @run_makeMap Tryd.prog
  go_enter Tryd.func35, Tryd.ntmps35
  go_wp2
  have z := SeenAt.made (w.alloc (.cells #[.map (some (w.heap.size + 1))] 70))
  rw [show (w.alloc (.cells #[.map (some (w.heap.size + 1))] 70)).heap.size = w.heap.size + 1 by simp] at z
  exact bodyPost_ret (v := .agg #[.map (some (w.heap.size + 1))]) (by simp [results, Tryd.results35, go_sem]) rfl ⟨_, rfl, z, by omega, ((Below.refl _ w).alloc (Nat.le_refl _) _).alloc (by simp) _⟩
/-- put: an Ai that is neither 01 nor 02 and was not seen. -/
theorem put_new {sn : Sn} (h : SeenAt W m N sn) (hN : N < maxLen) (k : ByteArray) (hk : k.size ≤ maxLen) (p : Int) (hp : (Lit.int .i64 p).wf = true) (h1 : (k.toList == [48, 49]) = false) (h2 : (k.toList == [48, 50]) = false) (hn : snHas sn k.data.toList = false) (he : snHas sn [] = false) :
    Calls Tryd.prog 47 #[.agg #[.map (some m)], .string k, .int .i64 p] W fun e W' => e = .returned (.int .i64 0) ∧ SeenAt W' m (N + 1) (sn ++ [(k.data.toList, p)]) ∧ (∀ i, i < W.heap.size → i ≠ m → W'.heap[i]? = W.heap[i]?) ∧ W.heap.size ≤ W'.heap.size ∧ W'.os = W.os ∧ W'.tape = W.tape ∧ W'.output = W.output := by
  have h' := h.of_block (W' := W.alloc (.cells #[.map (some m)] 70)) (Below.heap_alloc _ _ _ h.lt)
  have l1 := h'.look hk
  have l2 := h'.look (k := ⟨#[]⟩) (by decide)
  rw [hn] at l1
  rw [show (⟨#[]⟩ : ByteArray).data.toList = [] from rfl, he] at l2
  obtain ⟨W2, hr, h2s, hg⟩ := h'.store hN hk hn hp
  have HS := Aside0.mk h2s
  have HG := Aside0.mk hg
  have HM := Aside0.mk h.lt
  clear h h' h2s hg
  go_enter Tryd.func47, Tryd.ntmps47
  go_wp2
  go_ret
  have g := HG.out
  have hz := g.size
  simp only [World.size_alloc] at hz
  refine ⟨rfl, HS.out, fun i hi hne => (g.block i (by simp; omega) (fun e => hne (by cases e; rfl))).trans (Below.heap_alloc _ _ _ hi), by omega, g.os, g.tape, g.output⟩
end Go.Proofs.YtofagdjijpjlgaaDoor.X
