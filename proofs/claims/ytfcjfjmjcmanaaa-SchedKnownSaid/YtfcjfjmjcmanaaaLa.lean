/- Least: by hand: rows of pairs, a table of sixteen by sixteen in memory. -/
import Derived.Test.YtfcjfjmjcmanaaaLz
import Derived.RegionTactic
import Derived.BigRegion
import Derived.ChangeAlike
import Derived.Deep.WholeRow
import Derived.Laws.IdiomCopy
set_option linter.unusedVariables false
namespace Go.Proofs.Ytfcjfjmjcmanaaa.X
open Go.RowKit Go.Proofs.YtfcjfjmjcmanaaaW.PrintWords Go.Proofs.YtfcjfjmjcmanaaaW.PrintLast Go.Proofs.YtfcjfjmjcmanaaaW.PrintMore
abbrev Kp := Kd.pair (Kd.int .i64) (Kd.int .i64)
def pd (l : List (Int × Int)) (i : Int) : Int × Int := l.getD i.toNat (0, 0)
theorem pd_mem (l : List (Int × Int)) (i : Int) (h0 : 0 ≤ i) (h1 : i < (l.length : Int)) : pd l i ∈ l := by
  have hi : i.toNat < l.length := by omega
  unfold pd
  rw [List.getD_eq_getElem?_getD, List.getElem?_eq_getElem hi]
  exact List.getElem_mem hi
theorem pd_take (l : List (Int × Int)) (i : Int) (h0 : 0 ≤ i) (h1 : i < (l.length : Int)) : l.take (i.toNat + 1) = l.take i.toNat ++ [pd l i] := by
  have hi2 : i.toNat < l.length := by omega
  rw [List.take_add_one]; unfold pd
  rw [List.getD_eq_getElem?_getD, List.getElem?_eq_getElem hi2]; rfl
theorem add_next (ad : Addr) (k : Nat) : ad.add (k + 1) = ⟨(ad.add k).block, (ad.add k).off + 1, none⟩ := by
  unfold Addr.add
  rw [if_neg (by omega)]
  by_cases h : k = 0
  · subst h; rfl
  · rw [if_neg h]; simp only [Addr.mk.injEq]; refine ⟨?_, ?_, ?_⟩ <;> first | trivial | omega
/-- A pair of numbers at an address, in the words of a walk. -/
def PairAt (W : World) (a : Addr) (p : Int × Int) : Prop := W.cell? a = some (.int .i64 p.1) ∧ W.cell? ⟨a.block, a.off + 1, none⟩ = some (.int .i64 p.2)
theorem at_pair {W : World} {A : Option Addr} {n : Nat} {l : List (Int × Int)} (h : Kd.C Kp W A n l) (i : Int) (h0 : 0 ≤ i) (h1 : i < n) : ∃ ad, A = some ad ∧ PairAt W (ad.add (i.toNat * 2)) (pd l i) := by
  obtain ⟨g1, g2, g3⟩ := h
  obtain ⟨ad, rfl, hc⟩ := g3 (by omega)
  have hi : i.toNat < l.length := by omega
  obtain ⟨cs, hl, hk, hu⟩ := hc i.toNat l[i.toNat] (List.getElem?_eq_getElem hi)
  obtain ⟨a0, a1, rfl, e0, e1⟩ := hk
  have hp : pd l i = l[i.toNat] := by unfold pd; rw [List.getD_eq_getElem?_getD, List.getElem?_eq_getElem hi]; rfl
  obtain rfl : a0 = [.int .i64 l[i.toNat].1] := e0
  obtain rfl : a1 = [.int .i64 l[i.toNat].2] := e1
  rw [hp]
  exact ⟨ad, rfl, hu 0 _ rfl, by rw [← add_next]; exact hu 1 _ rfl⟩
theorem PairAt.next {W : World} {ad : Addr} {k : Nat} {p : Int × Int} (h : PairAt W (ad.add k) p) : W.cell? (ad.add (k + 1)) = some (.int .i64 p.2) := by rw [add_next]; exact h.2
theorem PairAt.lt {W : World} {a : Addr} {p : Int × Int} (h : PairAt W a p) : a.block < W.heap.size := by
  have h1 := h.1
  unfold World.cell? at h1
  cases hh : W.heap[a.block]? with
  | none => rw [hh] at h1; cases h1
  | some o => exact (Array.getElem?_eq_some_iff.1 hh).1
theorem PairAt.below {W W' : World} {a : Addr} {p : Int × Int} {n : Nat} (h : PairAt W a p) (hn : a.block < n) (hb : Below n W W') : PairAt W' a p :=
  ⟨(hb.cell (p := a) hn).trans h.1, (hb.cell (p := ⟨a.block, a.off + 1, none⟩) hn).trans h.2⟩
/-! the table -/
def Row (W : World) (B : Nat) (cs : Array Value) : Prop := W.heap[B]? = some (.cells cs 118 (0, 0))
def Tab (W : World) (B : Nat) (f : Int → Int → Bool) : Prop := ∃ cs, Row W B cs ∧ cs.size = 256 ∧ ∀ x y, Hnum x → Hnum y → cs[x.toNat * 16 + y.toNat]? = some (.bool (f x y))
theorem Row.new (W : World) (cs : Array Value)   : Row (W.alloc (.cells cs 118)) W.heap.size cs := heap_alloc_last W _
theorem Row.far {W : World} {B : Nat} {cs : Array Value} (h : Row W B cs) (a : Addr) (v : Value) (ha : B ≠ a.block) : Row (W.setCell a v) B cs := (Below.heap_setCell W a v B ha).trans h
theorem Row.below {W W' : World} {B n : Nat} {cs : Array Value} (h : Row W B cs) (hn : B < n) (hb : Below n W W') : Row W' B cs := (hb.block B hn).trans h
theorem Row.lt {W : World} {B : Nat} {cs : Array Value} (h : Row W B cs) : B < W.heap.size := (Array.getElem?_eq_some_iff.1 h).1
theorem Row.cell {W : World} {B : Nat} {cs : Array Value} (h : Row W B cs) (j : Nat) : W.cell? ⟨B, j, none⟩ = cs[j]? := cell_of_row W B j cs 118 (0, 0) h
theorem Row.frozen {W : World} {B : Nat} {cs : Array Value} (h : Row W B cs) (a : Addr) (ha : a.block = B) : W.frozen? a = false := by
  subst ha
  unfold World.frozen?
  have h' : W.heap[a.block]? = some (.cells cs 118 (0, 0)) := h
  rw [h']; simp
theorem zero118 : Try.zeroCells118 = Array.replicate 256 (.bool false) := by kernel_rfl
theorem Tab.new (W : World) : Tab (W.alloc (.cells Try.zeroCells118 118)) W.heap.size (fun _ _ => false) := by
  refine ⟨_, Row.new W _, by rw [zero118]; simp, fun x y hx hy => ?_⟩
  unfold Hnum at hx hy
  rw [zero118, Array.getElem?_replicate, if_pos (by omega)]
theorem Tab.cell {W : World} {B : Nat} {f : Int → Int → Bool} (h : Tab W B f) {x y : Int} (hx : Hnum x) (hy : Hnum y) : W.cell? ⟨B, x.toNat * 16 + y.toNat, none⟩ = some (.bool (f x y)) ∧ W.frozen? ⟨B, x.toNat * 16 + y.toNat, none⟩ = false := by
  obtain ⟨cs, hr, hs, hc⟩ := h
  exact ⟨(hr.cell _).trans (hc x y hx hy), hr.frozen _ rfl⟩
theorem Tab.far {W : World} {B : Nat} {f : Int → Int → Bool} (h : Tab W B f) (a : Addr) (v : Value) (ha : B ≠ a.block) : Tab (W.setCell a v) B f := by
  obtain ⟨cs, hr, hs, hc⟩ := h
  exact ⟨cs, hr.far a v ha, hs, hc⟩
theorem Tab.below {W W' : World} {B n : Nat} {f : Int → Int → Bool} (h : Tab W B f) (hn : B < n) (hb : Below n W W') : Tab W' B f := by
  obtain ⟨cs, hr, hs, hc⟩ := h
  exact ⟨cs, hr.below hn hb, hs, hc⟩
theorem Tab.congr {W : World} {B : Nat} {f g : Int → Int → Bool} (h : Tab W B f) (e : ∀ x y, Hnum x → Hnum y → f x y = g x y) : Tab W B g := by
  obtain ⟨cs, hr, hs, hc⟩ := h
  exact ⟨cs, hr, hs, fun x y hx hy => by rw [← e x y hx hy]; exact hc x y hx hy⟩
theorem Tab.set {W : World} {B : Nat} {f : Int → Int → Bool} (h : Tab W B f) {x y : Int} (hx : Hnum x) (hy : Hnum y) : Tab (W.setCell ⟨B, x.toNat * 16 + y.toNat, none⟩ (.bool true)) B (fun a b => (a == x && b == y) || f a b) := by
  obtain ⟨cs, hr, hs, hc⟩ := h
  refine ⟨cs.setIfInBounds (x.toNat * 16 + y.toNat) (.bool true), ?_, by simp [hs], fun a b ha hb => ?_⟩
  · have hl := hr.lt
    have hr' : W.heap[B] = .cells cs 118 (0, 0) := (Array.getElem?_eq_some_iff.1 hr).2
    unfold Row World.setCell
    rw [Array.getElem?_eq_getElem (by simp; exact hl), Array.getElem_modify, if_pos rfl, hr']
    rfl
  · unfold Hnum at hx hy ha hb
    rw [Array.getElem?_setIfInBounds]
    by_cases e : a = x ∧ b = y
    · obtain ⟨rfl, rfl⟩ := e
      rw [if_pos rfl, if_pos (by omega)]; simp
    · rw [if_neg (by omega), hc a b ha hb]
      have : (a == x && b == y) = false := by
        rw [Bool.and_eq_false_iff]
        by_cases e1 : a = x
        · right; simpa using fun z => e ⟨e1, z⟩
        · left; simpa using e1
      show _ = some (Value.bool ((a == x && b == y) || f a b))
      rw [this, Bool.false_or]
/-- What two handlers are apart. -/
def tab (l : List (Int × Int)) (x y : Int) : Bool := l.any fun p => p.1 != p.2 && (x == p.1 && y == p.2 || x == p.2 && y == p.1)
theorem tab_next (l : List (Int × Int)) (p : Int × Int) (x y : Int) : tab (l ++ [p]) x y = (tab l x y || (p.1 != p.2 && (x == p.1 && y == p.2 || x == p.2 && y == p.1))) := by simp [tab]
def cellsOf (f : Int → Int → Bool) : Array Value := ((List.range 256).map fun j => Value.bool (f ((j / 16 : Nat) : Int) ((j % 16 : Nat) : Int))).toArray
theorem cellsOf_size (f : Int → Int → Bool) : (cellsOf f).size = 256 := by simp [cellsOf]
theorem cellsOf_get (f : Int → Int → Bool) (x y : Int) (hx : Hnum x) (hy : Hnum y) : (cellsOf f)[x.toNat * 16 + y.toNat]? = some (.bool (f x y)) := by
  unfold Hnum at hx hy
  unfold cellsOf
  rw [List.getElem?_toArray, List.getElem?_map, List.getElem?_range (by omega)]
  simp only [Option.map_some]
  rw [show (((x.toNat * 16 + y.toNat) / 16 : Nat) : Int) = x by omega, show (((x.toNat * 16 + y.toNat) % 16 : Nat) : Int) = y by omega]
theorem cellsOf_one (f : Int → Int → Bool) : ∀ v ∈ (cellsOf f).toList, v.oneCell' = true := by
  intro v hv
  simp only [cellsOf, List.mem_map] at hv
  obtain ⟨j, _, rfl⟩ := hv
  rfl
theorem Tab.is {W : World} {B : Nat} {f : Int → Int → Bool} (h : Tab W B f) : Row W B (cellsOf f) := by
  obtain ⟨cs, hr, hs, hc⟩ := h
  have : cs = cellsOf f := by
    apply Array.ext
    · rw [hs, cellsOf_size]
    · intro j h1 h2
      have hn1 : Hnum ((j / 16 : Nat) : Int) := by unfold Hnum; omega
      have hn2 : Hnum ((j % 16 : Nat) : Int) := by unfold Hnum; omega
      have e1 := hc _ _ hn1 hn2
      have e2 := cellsOf_get f _ _ hn1 hn2
      rw [show ((j / 16 : Nat) : Int).toNat * 16 + ((j % 16 : Nat) : Int).toNat = j by omega] at e1 e2
      rw [Array.getElem?_eq_getElem h1] at e1
      rw [Array.getElem?_eq_getElem h2] at e2
      rw [← e2] at e1
      exact Option.some.inj e1
  rw [← this]; exact hr
theorem Tab.of {W : World} {B : Nat} (f : Int → Int → Bool) (h : Row W B (cellsOf f)) : Tab W B f := ⟨_, h, cellsOf_size f, cellsOf_get f⟩
theorem row_load {W : World} {B : Nat} {cs : Array Value} (h : Row W B cs) (n : Nat) (hn : cs.size = n) : (loadCellsFrom ⟨B, 0, none⟩ 0 n #[]).run Try.prog W = .ok cs W := by
  subst hn
  have := run_loadCells_list (P := Try.prog) W ⟨B, 0, none⟩ cs.toList (fun j v hv => by
    have hadd : (⟨B, 0, none⟩ : Addr).add j = ⟨B, j, none⟩ := by unfold Addr.add; split <;> simp_all
    rw [hadd, h.cell]
    simpa using hv)
  simpa [loadCells] using this
theorem row_store {W : World} {B : Nat} {cs cs' : Array Value} (h : Row W B cs) (hs : cs.size = cs'.size) (h1 : ∀ v ∈ cs'.toList, v.oneCell' = true) : (storeCells ⟨B, 0, none⟩ cs'.toList 0).run Try.prog W = .ok () (W.setRow B cs') := by
  have := run_storeCells_from (P := Try.prog) B 118 cs'.toList 0 cs W h (by simp [hs]) h1
  simpa using this
end Go.Proofs.Ytfcjfjmjcmanaaa.X
