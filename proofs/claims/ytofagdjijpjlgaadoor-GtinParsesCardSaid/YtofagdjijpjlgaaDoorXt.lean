/- The table of Ais as the program's text lays it; the contract of gtin.find over it. -/
import Derived.Test.YtofagdjijpjlgaaDoorRows
import Derived.Test.YtofagdjijpjlgaaDoorWWords
import Derived.Laws.Rows
import Derived.OpenShut
import Derived.LaidLaws
import Derived.JoinedOf
import Derived.LaidMore
import Derived.Stop.Joined
import Derived.ProofKit
import Derived.Outline
set_option linter.unusedVariables false
set_option linter.unusedSimpArgs false
namespace Go.Proofs.YtofagdjijpjlgaaDoor.X
open Go.RowKit Go.ChangeShapes Go.WideShapes Go.Proofs.YtofagdjijpjlgaaDoorW.PrintWords

structure Row5 where
  ai : List UInt8
  least : Int
  most : Int
  kind : Int
  plain : Bool
def rws : List Row5 := [⟨[48, 48], 18, 18, 0, true⟩,
  ⟨[48, 49], 14, 14, 0, true⟩,
  ⟨[48, 50], 14, 14, 0, true⟩,
  ⟨[49, 48], 1, 20, 3, false⟩,
  ⟨[49, 49], 6, 6, 1, true⟩,
  ⟨[49, 51], 6, 6, 1, true⟩,
  ⟨[49, 53], 6, 6, 1, true⟩,
  ⟨[49, 55], 6, 6, 1, true⟩,
  ⟨[50, 48], 2, 2, 2, true⟩,
  ⟨[50, 49], 1, 20, 3, false⟩,
  ⟨[51, 48], 1, 8, 2, false⟩,
  ⟨[51, 55], 1, 8, 2, false⟩,
  ⟨[51, 49, 48, 48], 6, 6, 2, true⟩,
  ⟨[51, 49, 48, 49], 6, 6, 2, true⟩,
  ⟨[51, 49, 48, 50], 6, 6, 2, true⟩,
  ⟨[51, 49, 48, 51], 6, 6, 2, true⟩,
  ⟨[51, 49, 48, 52], 6, 6, 2, true⟩,
  ⟨[51, 49, 48, 53], 6, 6, 2, true⟩,
  ⟨[51, 57, 50, 48], 1, 15, 2, false⟩,
  ⟨[51, 57, 50, 49], 1, 15, 2, false⟩,
  ⟨[51, 57, 50, 50], 1, 15, 2, false⟩,
  ⟨[51, 57, 50, 51], 1, 15, 2, false⟩,
  ⟨[52, 48, 48], 1, 30, 3, false⟩,
  ⟨[52, 49, 48], 13, 13, 0, true⟩,
  ⟨[52, 49, 49], 13, 13, 0, true⟩,
  ⟨[52, 49, 52], 13, 13, 0, true⟩,
  ⟨[52, 50, 48], 1, 20, 3, false⟩,
  ⟨[56, 48, 48, 53], 6, 6, 2, false⟩,
  ⟨[56, 48, 50, 48], 1, 25, 3, false⟩,
  ⟨[57, 48], 1, 30, 3, false⟩,
  ⟨[57, 49], 1, 90, 3, false⟩,
  ⟨[57, 50], 1, 90, 3, false⟩,
  ⟨[57, 51], 1, 90, 3, false⟩,
  ⟨[57, 52], 1, 90, 3, false⟩,
  ⟨[57, 53], 1, 90, 3, false⟩,
  ⟨[57, 54], 1, 90, 3, false⟩,
  ⟨[57, 55], 1, 90, 3, false⟩,
  ⟨[57, 56], 1, 90, 3, false⟩,
  ⟨[57, 57], 1, 90, 3, false⟩]
def rowD (r : Row5) : DataW Unit := .agg [.lit (.string r.ai), .lit (.int .i64 r.least), .lit (.int .i64 r.most), .lit (.int .i64 r.kind), .lit (.bool r.plain)]
def rowC (r : Row5) : List Value := [.string ⟨r.ai.toArray⟩, .int .i64 r.least, .int .i64 r.most, .int .i64 r.kind, .bool r.plain]
theorem laid_rows : (Rows.laid_larder_gtin_table : DataW Unit) = .agg (rws.map rowD) := rfl
def tabCells : Array Value := (rws.flatMap rowC).toArray
/-- The table lies where the program's text lays it. -/
structure Tab (w : World) : Prop where
  out : ∃ t, w.heap[0]? = some (.cells tabCells t (0, 0))

theorem five {α : Type} {l : List α} (h : l.length = 5) : ∃ a b c d e, l = [a, b, c, d, e] := by
  match l, h with
  | [a, b, c, d, e], _ => exact ⟨a, b, c, d, e, rfl⟩
theorem row_cells {enc : TypeId × Value → Unit} {w : World} {base : Nat} {sp : Nat → Bool} {held : Bool} {fuel : Nat} {cs : List Value} {r : Row5} {p : List MemPlace}
    (h : DataW.trod enc Tryd.prog w base sp held fuel 51 cs = some (rowD r, p)) : cs = rowC r := by
  obtain ⟨xs, n, _, hx, hl, hlen, hf⟩ := DataW.trod_struct Tryd.underlying51 h
  have hc : Tryd.prog.cellsOf 51 = 5 := by kernel_rfl
  have c9 : Tryd.prog.cellsOf 9 = 1 := by kernel_rfl
  have c3 : Tryd.prog.cellsOf 3 = 1 := by kernel_rfl
  have c4 : Tryd.prog.cellsOf 4 = 1 := by kernel_rfl
  rw [hc] at hl
  obtain ⟨y0, y1, y2, y3, y4, rfl⟩ := five hlen
  obtain ⟨q0, q1, q2, q3, q4, rfl⟩ := five hl
  clear hlen hl h hc
  · 
    simp only [rowD, List.map_cons, List.map_nil, Prod.mk.injEq, DataW.agg.injEq, List.cons.injEq, and_true] at hx
    obtain ⟨⟨e0, e1, e2, e3, e4⟩, _⟩ := hx
    have g0 : DataW.trod enc Tryd.prog w base sp held n 9 (([q0, q1, q2, q3, q4].drop 0).take (Tryd.prog.cellsOf 9)) = some y0 := hf 0 _ rfl
    rw [c9] at g0
    have g1 : DataW.trod enc Tryd.prog w base sp held n 3 (([q0, q1, q2, q3, q4].drop 1).take (Tryd.prog.cellsOf 3)) = some y1 := hf 1 _ rfl
    rw [c3] at g1
    have g2 : DataW.trod enc Tryd.prog w base sp held n 3 (([q0, q1, q2, q3, q4].drop 2).take (Tryd.prog.cellsOf 3)) = some y2 := hf 2 _ rfl
    rw [c3] at g2
    have g3 : DataW.trod enc Tryd.prog w base sp held n 3 (([q0, q1, q2, q3, q4].drop 3).take (Tryd.prog.cellsOf 3)) = some y3 := hf 3 _ rfl
    rw [c3] at g3
    have g4 : DataW.trod enc Tryd.prog w base sp held n 4 (([q0, q1, q2, q3, q4].drop 4).take (Tryd.prog.cellsOf 4)) = some y4 := hf 4 _ rfl
    rw [c4] at g4
    clear hf c9 c3 c4
    ·
      simp only [List.drop_zero, List.drop_succ_cons, List.take_succ_cons, List.take_zero] at g0 g1 g2 g3 g4
      obtain ⟨s, a0, b0, _⟩ := DataW.trod_string Tryd.underlying9 g0
      obtain ⟨i1, a1, b1, _⟩ := DataW.trod_int Tryd.underlying3 g1
      obtain ⟨i2, a2, b2, _⟩ := DataW.trod_int Tryd.underlying3 g2
      obtain ⟨i3, a3, b3, _⟩ := DataW.trod_int Tryd.underlying3 g3
      obtain ⟨i4, a4, b4⟩ := DataW.trod_bool Tryd.underlying4 g4
      rw [b0] at e0
      rw [b1] at e1
      rw [b2] at e2
      rw [b3] at e3
      rw [b4] at e4
      simp at a0 a1 a2 a3 a4 e0 e1 e2 e3 e4
      subst a0 a1 a2 a3 a4
      cases s
      simp_all [rowC]
theorem chunks {α : Type} (k : Nat) (f : Nat → List α) : ∀ (n : Nat) (cs : List α), cs.length = n * k → (∀ i, i < n → (cs.drop (i * k)).take k = f i) → cs = (List.range n).flatMap f
  | 0, cs, h, _ => by simpa using h
  | n + 1, cs, h, hf => by
    have h1 := chunks k f n (cs.take (n * k)) (by rw [List.length_take, h, Nat.succ_mul]; omega) (fun i hi => by
      rw [← hf i (by omega), List.drop_take, List.take_take]
      congr 1
      have : i * k + k ≤ n * k := by rw [← Nat.succ_mul]; exact Nat.mul_le_mul_right _ hi
      omega)
    have h2 := hf n (by omega)
    rw [List.range_succ, List.flatMap_append, ← h1, List.flatMap_singleton, ← h2]
    rw [List.take_of_length_le (l := cs.drop (n * k)) (by rw [List.length_drop, h, Nat.succ_mul]; omega), List.take_append_drop]
theorem gTab : Tryd.prog.globalNamed "larder/gtin.table" = some 0 := by kernel_rfl
theorem tTab : (Tryd.prog.globals[0]?).map (·.type) = some 97 := by kernel_rfl
theorem tab_of_laid {W : World} (h : laidMetH Tryd.prog [("larder/gtin.table", Rows.laid_larder_gtin_table)] W) : Tab W := by
  rw [MakeChecks.laidMetH_plain _ _ _ (by kernel_rfl)] at h
  obtain ⟨ps, ⟨g0, t0, cs, f0, p0, q0, hg0, ht0, hv0, hd0, hq, hps⟩, _, hcells⟩ := h
  obtain rfl := Option.some.inj (gTab.symm.trans hg0)
  obtain rfl := Option.some.inj (tTab.symm.trans ht0)
  obtain ⟨xs, m, _, hx, hl, hlen, hf⟩ := DataW.trod_array Tryd.underlying97 hd0
  have c51 : Tryd.prog.cellsOf 51 = 5 := by kernel_rfl
  have c97 : Tryd.prog.cellsOf 97 = 195 := by kernel_rfl
  rw [c97] at hl
  rw [c51] at hf
  have hx1 : rws.map rowD = xs.map (·.1) := by
    have := (Prod.mk.inj hx).1
    rw [laid_rows] at this
    exact DataW.agg.inj this
  have hr : rws.length = 39 := rfl
  have hcs : cs.toList = rws.flatMap rowC := by
    have := chunks 5 (fun i => rowC (rws.getD i ⟨[], 0, 0, 0, false⟩)) 39 cs.toList (by rw [hl]) (fun i hi => by
      have h1 := hf i hi
      have h2 : xs[i]? = some (xs[i]'(by omega)) := List.getElem?_eq_getElem (by omega)
      rw [h2] at h1
      have h3 : (xs[i]'(by omega)).1 = rowD (rws.getD i ⟨[], 0, 0, 0, false⟩) := by
        have h4 := congrArg (fun l => l[i]?) hx1
        simp only [List.getElem?_map, h2, Option.map_some] at h4
        rw [List.getElem?_eq_getElem (by omega)] at h4
        simp only [Option.map_some, Option.some.injEq] at h4
        rw [← h4, List.getD_eq_getElem?_getD, List.getElem?_eq_getElem (by omega)]; rfl
      obtain ⟨y, hy⟩ : ∃ y, xs[i]'(by omega) = y := ⟨_, rfl⟩
      rw [hy] at h1 h3
      obtain ⟨y1, y2⟩ := y
      simp only at h3
      subst h3
      exact row_cells h1)
    rw [this]
    rfl
  have hcell := hcells 0 0 (by
    have hz : cs.size = 195 := by rw [← Array.length_toList]; exact hl
    rw [hps, hz]; simp [MemPlace.row])
  obtain ⟨⟨c, t, hh⟩, _⟩ := hcell
  refine ⟨t, ?_⟩
  have hv : W.var? Tryd.prog "larder/gtin.table" = some c := by simp [World.var?, gTab, hh]
  rw [hv0] at hv
  obtain rfl := Option.some.inj hv
  rw [hh]
  have : cs = tabCells := by
    cases cs; simp at hcs; simp [tabCells, hcs]
  rw [this]
theorem Tab.below {w w1 : World} (h : Tab w) (hb : Below w.heap.size w w1) : Tab w1 := by
  obtain ⟨t, hh⟩ := h.out
  have hlt : 0 < w.heap.size := (Array.getElem?_eq_some_iff.1 hh).1
  exact ⟨⟨t, (hb.block 0 hlt).trans hh⟩⟩
theorem Tab.alloc {w : World} (h : Tab w) (o : Obj) : Tab (w.alloc o) := h.below ((Below.refl _ _).alloc (Nat.le_refl _) _)
theorem Tab.drewN {w : World} (h : Tab w) (n : Nat) : Tab (w.drewN n) := ⟨h.out⟩
end Go.Proofs.YtofagdjijpjlgaaDoor.X
