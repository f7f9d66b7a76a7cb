/- Boards: the board as numbers, and how it lies in memory: a row of handlers, a map of slices whose rows may begin in their midst. Boards: a board in memory (Bat), and what the operations do to it as numbers. Boards: the walks of has, ready, Start, Finish, State. Boards: the walks of Block, Waiting, First, Wake. Boards: the walk of Wake. Boards: the walks of New and Ready. Boards: the walks of Longest and Pick. Books: lists that were answered, each in a row of its own. Books: many lists, each in a row of its own; marked, and grown. Books: the walk of apartInts. Books: the walks of the other kinds' lists, of which there are none; Still; Apart; Ints. Books: Still, Apart. Books: Ints: one list more. Books: the walk of Ints. -/
import Derived.Test.YtfcjfjmjcmanaaaLzq
import Derived.Maps.OwnSet
import Derived.Maps.AppendAt
import Derived.Maps.Views
import Derived.ArgAppend
import Derived.Deep.RegionHeld3
import Derived.Deep.DrawnRows
import Derived.Laws.MakeOwn
import Derived.Carry
import Derived.BigQuiet
import Derived.Deep.QuietTactic
import Derived.Deep.AppendSrc
set_option linter.unusedVariables false
namespace Go.Proofs.Ytfcjfjmjcmanaaa.B
open Go Go.RowKit Go.Proofs.YtfcjfjmjcmanaaaW.PrintWords Go.Proofs.YtfcjfjmjcmanaaaW.PrintLast Go.Proofs.YtfcjfjmjcmanaaaW.PrintMore
open Go.Maps (Keyed)
/-- A step that turns blocks of T alone, and lays new ones. -/
structure Turn (T : Nat → Prop) (A B : World) : Prop where
  os : B.os = A.os
  tape : B.tape = A.tape
  output : B.output = A.output
  size : A.heap.size ≤ B.heap.size
  block : ∀ k, k < A.heap.size → ¬ T k → B.heap[k]? = A.heap[k]?
theorem Turn.refl (T : Nat → Prop) (A : World) : Turn T A A := ⟨rfl, rfl, rfl, Nat.le_refl _, fun _ _ _ => rfl⟩
theorem Turn.trans {T T' : Nat → Prop} {A B C : World} (h : Turn T A B) (k : Turn T' B C) (hT : ∀ b, T' b → T b ∨ A.heap.size ≤ b) : Turn T A C :=
  ⟨k.os.trans h.os, k.tape.trans h.tape, k.output.trans h.output, Nat.le_trans h.size k.size, fun b hb hn => (k.block b (Nat.lt_of_lt_of_le hb h.size) (fun z => (hT b z).elim hn (fun y => by omega))).trans (h.block b hb hn)⟩
theorem Turn.mono {T T' : Nat → Prop} {A B : World} (h : Turn T A B) (k : ∀ b, T b → T' b) : Turn T' A B := ⟨h.os, h.tape, h.output, h.size, fun b hb hn => h.block b hb fun z => hn (k b z)⟩
theorem Turn.below {T : Nat → Prop} {A B : World} (h : Turn T A B) {n : Nat} (hT : ∀ b, T b → n ≤ b) (hn : n ≤ A.heap.size) : Below n A B :=
  ⟨h.os, h.tape, h.output, h.size, fun k hk => h.block k (Nat.lt_of_lt_of_le hk hn) (fun z => by have := hT k z; omega)⟩
theorem Turn.of_below {T : Nat → Prop} {A B : World} (h : Below A.heap.size A B) : Turn T A B := ⟨h.os, h.tape, h.output, h.size, fun k hk _ => h.block k hk⟩
theorem Turn.of_grown {T : Nat → Prop} {A B : World} {row : Option Nat} (h : A.grownBy B row) (hr : ∀ j, row = some j → T j) : Turn T A B :=
  ⟨h.os, h.tape, h.output, h.size, fun k hk hn => h.block k hk (fun e => hn (hr k e.symm))⟩
theorem Turn.setCell {T : Nat → Prop} (A : World) (a : Addr) (v : Value) (h : T a.block) : Turn T A (A.setCell a v) :=
  ⟨rfl, rfl, rfl, by simp, fun k _ hn => Below.heap_setCell A a v k (fun e => hn (by rw [e]; exact h))⟩
theorem Turn.drewN {T : Nat → Prop} {A B : World} (h : Turn T A B) (n : Nat) : Turn T A (B.drewN n) := ⟨h.os, h.tape, h.output, h.size, h.block⟩
theorem Turn.kept {T : Nat → Prop} {A B : World} (h : Turn T A B) : Kept A B T := ⟨h.size, h.block⟩
theorem row_set {W : World} {g o : Nat} {cur : Array Value} {t : TypeId} {fr : Nat × Nat} {v : Value} (h : W.heap[g]? = some (.cells cur t fr)) : (W.setCell ⟨g, o, none⟩ v).heap[g]? = some (.cells (cur.setIfInBounds o v) t fr) := by
  have hl := (Array.getElem?_eq_some_iff.1 h).1
  have hr' : W.heap[g] = .cells cur t fr := (Array.getElem?_eq_some_iff.1 h).2
  unfold World.setCell
  rw [Array.getElem?_eq_getElem (by simp; exact hl), Array.getElem_modify, if_pos rfl, hr']
  rfl
/-! ### the row of handlers -/
abbrev Hd := Int × Int × Int
def HRow (W : World) (g : Nat) (l : List Hd) : Prop :=
  ∃ cur, W.heap[g]? = some (.cells cur 127 (0, 0)) ∧ cur.size = l.length * 3 ∧ ∀ i h, l[i]? = some h → cur[i * 3]? = some (.int .i64 h.1) ∧ cur[i * 3 + 1]? = some (.int .i64 h.2.1) ∧ cur[i * 3 + 2]? = some (.int .i64 h.2.2)
variable {W W' : World} {g p m N : Nat} {l : List Hd} {T T' : Nat → Prop}
theorem HRow.cells (h : HRow W g l) {i : Nat} {x : Hd} (hi : l[i]? = some x) : W.cell? ⟨g, i * 3, none⟩ = some (.int .i64 x.1) ∧ W.cell? ⟨g, i * 3 + 1, none⟩ = some (.int .i64 x.2.1) ∧ W.cell? ⟨g, i * 3 + 2, none⟩ = some (.int .i64 x.2.2) := by
  obtain ⟨cur, hr, hs, hc⟩ := h
  rw [cell_of_row W g _ cur 127 (0, 0) hr, cell_of_row W g _ cur 127 (0, 0) hr, cell_of_row W g _ cur 127 (0, 0) hr]
  exact hc i x hi
theorem HRow.free (h : HRow W g l) (o : Nat) : W.frozen? ⟨g, o, none⟩ = false := by
  obtain ⟨cur, hr, _⟩ := h
  simp [World.frozen?, hr]
theorem HRow.lt (h : HRow W g l) : g < W.heap.size := by obtain ⟨cur, hr, _⟩ := h; exact (Array.getElem?_eq_some_iff.1 hr).1
theorem HRow.of_block (h : HRow W g l) (e : W'.heap[g]? = W.heap[g]?) : HRow W' g l := by obtain ⟨cur, hr, r⟩ := h; exact ⟨cur, e.trans hr, r⟩
theorem HRow.set (h : HRow W g l) (i : Nat) (x : Hd) : HRow (((W.setCell ⟨g, i * 3, none⟩ (.int .i64 x.1)).setCell ⟨g, i * 3 + 1, none⟩ (.int .i64 x.2.1)).setCell ⟨g, i * 3 + 2, none⟩ (.int .i64 x.2.2)) g (l.set i x) := by
  obtain ⟨cur, hr, hs, hc⟩ := h
  refine ⟨_, row_set (row_set (row_set hr)), by simp [hs], fun j y hj => ?_⟩
  have hjl : j < l.length := by
    have := (List.getElem?_eq_some_iff.1 hj).1
    simpa using this
  by_cases e : i = j
  · subst e
    rw [List.getElem?_set_self hjl] at hj
    cases hj
    refine ⟨?_, ?_, ?_⟩ <;> simp [Array.getElem?_setIfInBounds, hs] <;> omega
  · rw [List.getElem?_set_ne e] at hj
    obtain ⟨h1, h2, h3⟩ := hc j y hj
    refine ⟨?_, ?_, ?_⟩
    · rw [Array.getElem?_setIfInBounds, if_neg (by omega), Array.getElem?_setIfInBounds, if_neg (by omega), Array.getElem?_setIfInBounds, if_neg (by omega), h1]
    · rw [Array.getElem?_setIfInBounds, if_neg (by omega), Array.getElem?_setIfInBounds, if_neg (by omega), Array.getElem?_setIfInBounds, if_neg (by omega), h2]
    · rw [Array.getElem?_setIfInBounds, if_neg (by omega), Array.getElem?_setIfInBounds, if_neg (by omega), Array.getElem?_setIfInBounds, if_neg (by omega), h3]
theorem HRow.set3 (h : HRow W g l) (i : Nat) {x : Hd} (hx : l[i]? = some x) (c : Int) : HRow (W.setCell ⟨g, i * 3 + 2, none⟩ (.int .i64 c)) g (l.set i (x.1, x.2.1, c)) := by
  obtain ⟨cur, hr, hs, hc⟩ := h
  refine ⟨_, row_set hr, by simp [hs], fun j y hj => ?_⟩
  have hjl : j < l.length := by
    have := (List.getElem?_eq_some_iff.1 hj).1
    simpa using this
  by_cases e : i = j
  · subst e
    rw [List.getElem?_set_self hjl] at hj
    cases hj
    obtain ⟨h1, h2, h3⟩ := hc i x hx
    refine ⟨?_, ?_, ?_⟩
    · rw [Array.getElem?_setIfInBounds, if_neg (by omega), h1]
    · rw [Array.getElem?_setIfInBounds, if_neg (by omega), h2]
    · rw [Array.getElem?_setIfInBounds, if_pos rfl, if_pos (by omega)]
  · rw [List.getElem?_set_ne e] at hj
    obtain ⟨h1, h2, h3⟩ := hc j y hj
    refine ⟨?_, ?_, ?_⟩
    · rw [Array.getElem?_setIfInBounds, if_neg (by omega), h1]
    · rw [Array.getElem?_setIfInBounds, if_neg (by omega), h2]
    · rw [Array.getElem?_setIfInBounds, if_neg (by omega), h3]
/-! ### the map -/
def nilv : Value := .slice none 0 0
def RV : Value → Option (DataW Value × List MemPlace) := fun v => some (.held v, [])
def MapAt (W : World) (m N : Nat) (f : Int → Value) : Prop := ∃ D : DataW Value, W.ownsMap Try.prog 3 RV m N D ∧ ∀ k, (Lit.int .i64 k).wf = true → D.atKey (.int .i64 k) (.held nilv) = .held (f k)
def upd {α : Type} (f : Int → α) (k : Int) (v : α) : Int → α := fun x => if x = k then v else f x
theorem law3 : Keyed Try.prog 3 := Go.Maps.int_keyed Try.underlying3
theorem zero26 (w : World) : (zeroValue 26).run Try.prog w = .ok (.slice none 0 0) w := by kernel_rfl
theorem key3 {k : Int} (h : (Lit.int .i64 k).wf = true) : keyOf Try.prog 3 (.int .i64 k) = some (.int .i64 k) := Go.Maps.keyOf_int_mk Try.underlying3 h
variable {f : Int → Value}
theorem MapAt.lt (h : MapAt W m N f) : m < W.heap.size := by obtain ⟨D, h1, _⟩ := h; exact h1.lt
theorem MapAt.made (W : World) : MapAt (W.alloc (.map #[] 0)) W.heap.size 0 (fun _ => nilv) := ⟨_, World.ownsMap_made W _ _ _, fun k _ => by simp [DataW.atKey]⟩
theorem MapAt.of_block (h : MapAt W m N f) (hs : W.heap.size ≤ W'.heap.size) (e : W'.heap[m]? = W.heap[m]?) : MapAt W' m N f := by
  obtain ⟨D, ⟨es, clock, hb, r⟩, h2⟩ := h
  exact ⟨D, ⟨es, clock, e.trans hb, r⟩, h2⟩
theorem MapAt.mono {N' : Nat} (h : MapAt W m N f) (hN : N ≤ N') : MapAt W m N' f := by obtain ⟨D, h1, h2⟩ := h; exact ⟨D, h1.mono hN, h2⟩
theorem MapAt.look (h : MapAt W m N f) {k : Int} (hk : (Lit.int .i64 k).wf = true) : (Instr.lookup 123 (.map (some m)) (.int .i64 k) false).run Try.prog W = .ok (f k) W := by
  obtain ⟨D, h1, h2⟩ := h
  obtain ⟨v, ps, hr, hv⟩ := h1.lookup law3 Try.underlying123 (zero26 W) (zd := .held nilv) (zp := []) rfl (key3 hk)
  rw [h2 k hk] at hv
  simp only [RV, Option.some.injEq, Prod.mk.injEq, DataW.held.injEq] at hv
  rw [hr, hv.1]
theorem MapAt.store (h : MapAt W m N f) (hN : N < maxLen) {k : Int} (hk : (Lit.int .i64 k).wf = true) (v : Value) :
    ∃ W', (Instr.mapUpdate 123 (.map (some m)) (.int .i64 k) v).run Try.prog W = .ok () W' ∧ MapAt W' m (N + 1) (upd f k v) ∧ W.grownBy W' (some m) := by
  obtain ⟨D, h1, h2⟩ := h
  have hm : Go.Maps.IsMap D := by obtain ⟨es, clock, _, _, _, rfl⟩ := h1; exact ⟨_, rfl⟩
  obtain ⟨W', hr, ho, ht⟩ := h1.store law3 Try.underlying123 hN (key3 hk) (d := .held v) (ps := []) (val := v) rfl
  refine ⟨W', hr, ⟨_, ho, fun k' hk' => ?_⟩, ht.grown⟩
  unfold upd
  by_cases e : k' = k
  · rw [if_pos e, e, Go.Maps.atKey_put_same hm (law3.key (key3 hk))]
  · rw [if_neg e, Go.Maps.atKey_put_other (by intro h; cases h; exact e rfl)]
    exact h2 k' hk'
theorem MapAt.drop (h : MapAt W m N f) {k : Int} (hk : (Lit.int .i64 k).wf = true) (ty : TypeId) :
    ∃ W', (Builtin.delete_ #[123, 3] ty #[.map (some m), .int .i64 k]).run Try.prog W = .ok (.tuple #[]) W' ∧ MapAt W' m N (upd f k nilv) ∧ W.grownBy W' (some m) := by
  obtain ⟨D, h1, h2⟩ := h
  obtain ⟨W', hr, ho, ht⟩ := h1.drop law3 Try.underlying123 (key3 hk) ty
  refine ⟨W', hr, ⟨_, ho, fun k' hk' => ?_⟩, ht.grown⟩
  unfold upd
  by_cases e : k' = k
  · rw [if_pos e, e, Go.Maps.atKey_del_same]
  · rw [if_neg e, Go.Maps.atKey_del_other (by intro h; cases h; exact e rfl)]
    exact h2 k' hk'
/-! ### a slice of numbers in the midst of a row -/
def Sl (W : World) (T : Nat → Prop) (v : Value) (L : List Int) : Prop :=
  (v = .slice none 0 0 ∧ L = []) ∨ ∃ j off cap cur, v = .slice (some ⟨j, off, none⟩) L.length cap ∧ T j ∧ 0 < L.length ∧ L.length ≤ cap ∧ cap ≤ maxLen ∧ off + cap ≤ cur.size ∧ W.heap[j]? = some (.cells cur 3 (0, 0)) ∧ ∀ i x, L[i]? = some x → cur[off + i]? = some (.int .i64 x)
variable {v : Value} {L : List Int}
theorem Sl.nil (W : World) (T : Nat → Prop) : Sl W T nilv [] := .inl ⟨rfl, rfl⟩
theorem Sl.mono (h : Sl W T v L) (hT : ∀ j, v.ownBlock = some j → T j → T' j) : Sl W T' v L := by
  rcases h with h | ⟨j, off, cap, cur, rfl, h1, r⟩
  · exact .inl h
  · exact .inr ⟨j, off, cap, cur, rfl, hT j rfl h1, r⟩
theorem Sl.kept (h : Sl W T v L) (hk : ∀ j, v.ownBlock = some j → W'.heap[j]? = W.heap[j]?) : Sl W' T v L := by
  rcases h with h | ⟨j, off, cap, cur, rfl, h1, h2, h3, h4, h5, h6, h7⟩
  · exact .inl h
  · exact .inr ⟨j, off, cap, cur, rfl, h1, h2, h3, h4, h5, (hk j rfl).trans h6, h7⟩
theorem Sl.own (h : Sl W T v L) {j : Nat} (hj : v.ownBlock = some j) : T j ∧ j < W.heap.size := by
  rcases h with ⟨rfl, _⟩ | ⟨j', off, cap, cur, rfl, h1, h2, h3, h4, h5, h6, h7⟩
  · simp [Value.ownBlock] at hj
  · simp [Value.ownBlock] at hj
    subst hj
    exact ⟨h1, (Array.getElem?_eq_some_iff.1 h6).1⟩
/-- Read as a row that came in. -/
theorem Sl.C (h : Sl W T v L) : ∃ A c, v = .slice A L.length c ∧ L.length ≤ c ∧ Kd.C (Kd.int .i64) W A L.length L := by
  rcases h with ⟨rfl, rfl⟩ | ⟨j, off, cap, cur, rfl, h1, h2, h3, h4, h5, h6, h7⟩
  · exact ⟨none, 0, rfl, Nat.le_refl _, Kd.C_nil _ _⟩
  · refine ⟨some ⟨j, off, none⟩, cap, rfl, h3, Kd.C_of_reads (d := (0 : Int)) (h1 := fun _ => rfl) ⟨rfl, Nat.le_trans h3 h4, fun _ => ⟨_, rfl, fun i hi => ?_⟩⟩⟩
    rw [Addr.add_lit, cell_of_row W j _ cur 3 (0, 0) h6, h7 i (L.getD i 0) (by rw [List.getD_eq_getElem?_getD, List.getElem?_eq_getElem hi]; rfl)]
theorem Sl.cut {x : Int} {t : List Int} (h : Sl W T v (x :: t)) : ∃ j off cap, v = .slice (some ⟨j, off, none⟩) (t.length + 1) cap ∧ t.length + 1 ≤ cap ∧ cap ≤ maxLen ∧ W.cell? ⟨j, off, none⟩ = some (.int .i64 x) ∧ (t ≠ [] → Sl W T (.slice (some ⟨j, off + 1, none⟩) t.length (cap - 1)) t) := by
  rcases h with ⟨_, h⟩ | ⟨j, off, cap, cur, rfl, h1, h2, h3, h4, h5, h6, h7⟩
  · cases h
  · refine ⟨j, off, cap, rfl, h3, h4, ?_, fun ht => ?_⟩
    · rw [cell_of_row W j _ cur 3 (0, 0) h6]; exact h7 0 x rfl
    · have hp : 0 < t.length := List.length_pos_iff.2 ht
      simp only [List.length_cons] at h3
      refine .inr ⟨j, off + 1, cap - 1, cur, rfl, h1, hp, by omega, by omega, by omega, h6, fun i y hi => ?_⟩
      rw [show off + 1 + i = off + (i + 1) by omega]
      exact h7 (i + 1) y (by simpa using hi)
theorem info3' : (Try.prog.info? 3).map (fun i => (i.zero, i.size, i.bytes)) = some (some (.int .i64 0), 1, 8) := by kernel_rfl
/-- A new row of the call's own, as such a slice. -/
theorem Sl.of_row (h : W.ownsRow 0 3 1 v L.length (L.map (Value.int .i64))) (hp : 0 < L.length) (hT : ∀ j, v.ownBlock = some j → T j) : Sl W T v L := by
  obtain ⟨_, h0 | ⟨j, cap, cur, rfl, _, h6, h3, h4, h5, h7⟩⟩ := h
  · omega
  · refine .inr ⟨j, 0, cap, cur, rfl, hT j rfl, hp, h3, h4, by omega, h6, fun i x hi => ?_⟩
    have hi' : i < L.length := (List.getElem?_eq_some_iff.1 hi).1
    have e : (cur.toList.take (L.length * 1))[i]? = cur.toList[i]? := by rw [List.getElem?_take, if_pos (by omega)]
    rw [Nat.zero_add, ← Array.getElem?_toList, ← e, h7, List.getElem?_map, hi]; rfl
theorem ho' {W' : World} {B : Nat} {v' : Value} {x : Int} (h : W'.ownsRow B 3 1 v' (L.length + 1) (L.map (Value.int .i64) ++ [.int .i64 x])) : W'.ownsRow 0 3 1 v' (L ++ [x]).length ((L ++ [x]).map (Value.int .i64)) := by
  obtain ⟨h1, h2⟩ := h
  refine ⟨by simp, ?_⟩
  rcases h2 with ⟨_, h2⟩ | ⟨k, cap, cur, rfl, hk, r⟩
  · omega
  · exact .inr ⟨k, cap, cur, by simp, Nat.zero_le _, by simpa using r⟩
theorem Sl.append (h : Sl W T v L) {a : Addr} {c : Nat} {x : Int} (hx : W.cell? a = some (.int .i64 x)) (hl : L.length + 1 ≤ 4398046511104) (ty : TypeId) :
    ∃ v' W', (Builtin.append_ #[26, 26] ty #[v, .slice (some a) 1 c]).run Try.prog W = .ok v' W' ∧ Sl W' (fun j => T j ∨ W.heap.size ≤ j) v' (L ++ [x]) ∧ W.grownBy W' v.ownBlock ∧ (v'.ownBlock = v.ownBlock ∨ ∃ j, v'.ownBlock = some j ∧ W.heap.size ≤ j) := by
  obtain ⟨i0, hi0, hz0, hz1, hz2⟩ := info_parts info3'
  have hn : ∀ j u, ([Value.int .i64 x] : List Value)[j]? = some u → W.cell? (a.add j) = some u := fun j u hj => by
    match j, hj with
    | 0, hj => cases hj; rw [show a.add 0 = a by cases a; simp [Addr.add]]; exact hx
  have hml : (4398046511104 : Nat) ≤ maxLen := by unfold maxLen; omega
  rcases h with ⟨rfl, rfl⟩ | ⟨j, off, cap, cur, rfl, h1, h2, h3, h4, h5, h6, h7⟩
  · obtain ⟨v', W', hr, ho, hg, _, hat⟩ := run_append_own_at (P := Try.prog) W 0 26 ty 3 i0 (.int .i64 0) 1 8 Try.underlying26 hi0 hz0 hz1 hz2 rfl (by omega) (.slice none 0 0) 0 [] (World.ownsRow_nil _ _ _ _) a 1 c [.int .i64 x] rfl hn (by simp [Value.oneCell']) (by omega) (by omega) (Nat.zero_le _)
    refine ⟨v', W', hr, Sl.of_row (by simpa using ho) (by simp) (fun j hj => ?_), hg, hat.imp id (fun e => ⟨_, e, Nat.le_refl _⟩)⟩
    rcases hat with e | e
    · rw [e] at hj; simp [Value.ownBlock] at hj
    · rw [e] at hj; cases hj; exact .inr (Nat.le_refl _)
  · by_cases hroom : L.length + 1 ≤ cap
    · have hlt : off + L.length < cur.size := by omega
      have hr := run_append_room_cells (P := Try.prog) W 26 ty 3 i0 Try.underlying26 hi0 j off L.length cap a 1 c [.int .i64 x] (by rw [hz1]; rfl) hn (by simp [Value.oneCell']) hroom
        (fun k hk => by simp at hk; subst hk; rw [hz1, cell_of_row W j _ cur 3 (0, 0) h6]; simp; omega) (fun k hk => by simp [World.frozen?, h6])
      rw [hz1, Nat.mul_one] at hr
      refine ⟨_, _, hr, .inr ⟨j, off, cap, cur.setIfInBounds (off + L.length) (.int .i64 x), by simp, .inl h1, by simp, by simpa using hroom, h4, by simpa using h5, row_set h6, fun k y hk => ?_⟩, ⟨rfl, rfl, rfl, by simp [World.setCells], fun k hk hn => Below.heap_setCell W _ _ k (fun e => hn (by rw [e]; rfl))⟩, .inl rfl⟩
      rw [Array.getElem?_setIfInBounds]
      by_cases e : L.length = k
      · subst e
        rw [List.getElem?_append_right (Nat.le_refl _)] at hk
        simp at hk
        rw [if_pos rfl, if_pos hlt, hk]
      · rw [if_neg (by omega)]
        have hkl : k < L.length := by
          have := (List.getElem?_eq_some_iff.1 hk).1
          simp at this; omega
        rw [List.getElem?_append_left hkl] at hk
        exact h7 k y hk
    · have holds : ∀ k u, (L.map (Value.int .i64))[k]? = some u → W.cell? ((⟨j, off, none⟩ : Addr).add k) = some u := fun k u hk => by
        rw [List.getElem?_map] at hk
        obtain ⟨y, hy, rfl⟩ := Option.map_eq_some_iff.1 hk
        rw [Addr.add_lit, cell_of_row W j _ cur 3 (0, 0) h6]
        exact h7 k y hy
      obtain ⟨v', W', hr, ho, hg⟩ := run_append_arg_grows (P := Try.prog) W 26 ty 3 i0 (.int .i64 0) 1 8 Try.underlying26 hi0 hz0 hz1 hz2 rfl (by omega) ⟨j, off, none⟩ L.length cap (L.map (Value.int .i64)) (by simp) holds a 1 c [.int .i64 x] rfl hn (by omega) (by omega) (by omega)
      have hge : ∀ k, v'.ownBlock = some k → W.heap.size ≤ k := fun k hk => (ho.lt k hk).1
      refine ⟨v', W', hr, Sl.of_row (ho' ho) (by simp) (fun k hk => .inr (hge k hk)), ⟨hg.os, hg.tape, hg.output, hg.size, fun k hk _ => hg.block k hk (by simp)⟩, .inr ?_⟩
      obtain ⟨_, h0 | ⟨k, _, _, rfl, hk, _⟩⟩ := ho
      · omega
      · exact ⟨k, rfl, hk⟩
end Go.Proofs.Ytfcjfjmjcmanaaa.B
set_option linter.unusedVariables false
namespace Go.Proofs.Ytfcjfjmjcmanaaa.B
open Go Go.RowKit Go.Proofs.YtfcjfjmjcmanaaaW.PrintWords Go.Proofs.YtfcjfjmjcmanaaaW.PrintLast Go.Proofs.YtfcjfjmjcmanaaaW.PrintMore
structure Bd where
  l : List Hd
  q : Int → List Int
def Bd.has (B : Bd) (h : Int) : Bool := decide (0 ≤ h) && decide (h < (B.l.length : Int))
def Bd.hd (B : Bd) (h : Int) : Hd := B.l.getD h.toNat (0, 0, 0)
def Bd.rdy (B : Bd) (h : Int) : Int := if B.has h = false then 70 else if (B.hd h).1 = 0 then 71 else if (B.hd h).1 = 2 then 72 else 0
def Bd.put (B : Bd) (h : Int) (x : Hd) : Bd := ⟨B.l.set h.toNat x, B.q⟩
def Bd.start (B : Bd) (h : Int) : Bd × Int := if B.has h = false then (B, 70) else if (B.hd h).1 = 0 then (B.put h (1, 0, 0), 0) else (B, 9)
def Bd.block (B : Bd) (h on : Int) : Bd × Int := if B.rdy h = 0 then (⟨B.l.set h.toNat (2, on, 0), upd B.q on (B.q on ++ [h])⟩, 0) else (B, B.rdy h)
def Bd.finish (B : Bd) (h : Int) : Bd × Int := if B.rdy h = 0 then (B.put h (0, 0, 0), 0) else (B, B.rdy h)
def wakes : List Int → List Hd → List Hd
  | [], l => l
  | h :: t, l => wakes t (l.set h.toNat (1, 0, 0))
def Bd.wake (B : Bd) (on : Int) : Bd := ⟨wakes (B.q on) B.l, upd B.q on []⟩
def Bd.first (B : Bd) (on : Int) : Bd × Int × Bool :=
  match B.q on with
  | [] => (B, -1, false)
  | h :: t => (⟨B.l.set h.toNat (1, 0, 0), upd B.q on t⟩, h, true)
/-- The board lies at p: T its blocks, g its handlers, m its map (of at most N entries), f the map's slices. -/
structure Bat (W : World) (T : Nat → Prop) (p g m N : Nat) (B : Bd) (f : Int → Value) : Prop where
  hp : W.heap[p]? = some (.cells #[.slice (some ⟨g, 0, none⟩) B.l.length B.l.length, .map (some m)] 125 (0, 0))
  hg : HRow W g B.l
  hm : MapAt W m N f
  hf : ∀ k, (Lit.int .i64 k).wf = true → Sl W T (f k) (B.q k)
  ap : ∀ k k', (Lit.int .i64 k).wf = true → (Lit.int .i64 k').wf = true → k ≠ k' → ∀ j, (f k).ownBlock = some j → (f k').ownBlock ≠ some j
  off : ∀ k, (Lit.int .i64 k).wf = true → ∀ j, (f k).ownBlock = some j → j ≠ p ∧ j ≠ g ∧ j ≠ m
  ne : p ≠ g ∧ p ≠ m ∧ g ≠ m
  own : T p ∧ T g ∧ T m
  lt : ∀ i, T i → i < W.heap.size
variable {W W' W1 : World} {T T' : Nat → Prop} {p g m N : Nat} {B : Bd} {f : Int → Value}
theorem Bat.cells (h : Bat W T p g m N B f) : W.cell? ⟨p, 0, none⟩ = some (.slice (some ⟨g, 0, none⟩) B.l.length B.l.length) ∧ W.cell? ⟨p, 1, none⟩ = some (.map (some m)) :=
  ⟨by rw [cell_of_row W p 0 _ 125 (0, 0) h.hp]; rfl, by rw [cell_of_row W p 1 _ 125 (0, 0) h.hp]; rfl⟩
theorem Bat.turn (h : Bat W T p g m N B f) (e : ∀ i, T i → W'.heap[i]? = W.heap[i]?) (hs : W.heap.size ≤ W'.heap.size) : Bat W' T p g m N B f :=
  ⟨(e p h.own.1).trans h.hp, h.hg.of_block (e g h.own.2.1), h.hm.of_block hs (e m h.own.2.2), fun k hk => (h.hf k hk).kept (fun j hj => e j ((h.hf k hk).own hj).1), h.ap, h.off, h.ne, h.own, fun i hi => Nat.lt_of_lt_of_le (h.lt i hi) hs⟩
theorem Bat.drewN (h : Bat W T p g m N B f) (n : Nat) : Bat (W.drewN n) T p g m N B f := h.turn (fun _ _ => rfl) (Nat.le_refl _)
theorem Bat.below (h : Bat W T p g m N B f) (hb : Below W.heap.size W W') : Bat W' T p g m N B f := h.turn (fun i hi => hb.block i (h.lt i hi)) hb.size
theorem Bat.widen (h : Bat W T p g m N B f) (hT : ∀ i, T i → T' i) (hl : ∀ i, T' i → i < W.heap.size) : Bat W T' p g m N B f := ⟨h.hp, h.hg, h.hm, fun k hk => (h.hf k hk).mono (fun j _ hj => hT j hj), h.ap, h.off, h.ne, ⟨hT _ h.own.1, hT _ h.own.2.1, hT _ h.own.2.2⟩, hl⟩
theorem Bat.mono {N' : Nat} (h : Bat W T p g m N B f) (hN : N ≤ N') : Bat W T p g m N' B f := ⟨h.hp, h.hg, h.hm.mono hN, h.hf, h.ap, h.off, h.ne, h.own, h.lt⟩
theorem turn1 (A : World) (g o : Nat) (v : Value) : Turn (fun k => k = g) A (A.setCell ⟨g, o, none⟩ v) := Turn.setCell A _ v rfl
theorem Bd.get (B : Bd) {h : Int} (hh : B.has h = true) : B.l[h.toNat]? = some (B.hd h) ∧ 0 ≤ h ∧ h < (B.l.length : Int) ∧ h.toNat < B.l.length := by
  unfold Bd.has at hh
  simp only [Bool.and_eq_true, decide_eq_true_eq] at hh
  have hl : h.toNat < B.l.length := by omega
  refine ⟨?_, hh.1, hh.2, hl⟩
  unfold Bd.hd
  rw [List.getD_eq_getElem?_getD, List.getElem?_eq_getElem hl]; rfl
/-- One handler is written anew. -/
theorem Bat.put (h : Bat W T p g m N B f) (i : Nat) (x : Hd) :
    Bat (((W.setCell ⟨g, i * 3, none⟩ (.int .i64 x.1)).setCell ⟨g, i * 3 + 1, none⟩ (.int .i64 x.2.1)).setCell ⟨g, i * 3 + 2, none⟩ (.int .i64 x.2.2)) T p g m N ⟨B.l.set i x, B.q⟩ f ∧
      Turn T W (((W.setCell ⟨g, i * 3, none⟩ (.int .i64 x.1)).setCell ⟨g, i * 3 + 1, none⟩ (.int .i64 x.2.1)).setCell ⟨g, i * 3 + 2, none⟩ (.int .i64 x.2.2)) := by
  have tr : Turn (fun k => k = g) W (((W.setCell ⟨g, i * 3, none⟩ (.int .i64 x.1)).setCell ⟨g, i * 3 + 1, none⟩ (.int .i64 x.2.1)).setCell ⟨g, i * 3 + 2, none⟩ (.int .i64 x.2.2)) :=
    ((turn1 W g _ _).trans (turn1 _ g _ _) (fun _ h => .inl h)).trans (turn1 _ g _ _) (fun _ h => .inl h)
  refine ⟨⟨?_, h.hg.set i x, h.hm.of_block tr.size (tr.block m h.hm.lt (fun e => h.ne.2.2 e.symm)), fun k hk => (h.hf k hk).kept (fun j hj => tr.block j ((h.hf k hk).own hj).2 (h.off k hk j hj).2.1), h.ap, h.off, h.ne, h.own, fun j hj => Nat.lt_of_lt_of_le (h.lt j hj) tr.size⟩, tr.mono (fun k e => by rw [e]; exact h.own.2.1)⟩
  rw [tr.block p (h.lt p h.own.1) h.ne.1, h.hp, List.length_set]
theorem Bat.put3 (h : Bat W T p g m N B f) (i : Nat) {x : Hd} (hx : B.l[i]? = some x) (c : Int) :
    Bat (W.setCell ⟨g, i * 3 + 2, none⟩ (.int .i64 c)) T p g m N ⟨B.l.set i (x.1, x.2.1, c), B.q⟩ f ∧ Turn T W (W.setCell ⟨g, i * 3 + 2, none⟩ (.int .i64 c)) := by
  have tr : Turn (fun k => k = g) W (W.setCell ⟨g, i * 3 + 2, none⟩ (.int .i64 c)) := turn1 W g _ _
  refine ⟨⟨?_, h.hg.set3 i hx c, h.hm.of_block tr.size (tr.block m h.hm.lt (fun e => h.ne.2.2 e.symm)), fun k hk => (h.hf k hk).kept (fun j hj => tr.block j ((h.hf k hk).own hj).2 (h.off k hk j hj).2.1), h.ap, h.off, h.ne, h.own, fun j hj => Nat.lt_of_lt_of_le (h.lt j hj) tr.size⟩, tr.mono (fun k e => by rw [e]; exact h.own.2.1)⟩
  rw [tr.block p (h.lt p h.own.1) h.ne.1, h.hp, List.length_set]
/-- A slice of the map's turns, and is stored anew. -/
theorem Bat.store (h : Bat W T p g m N B f) (hN : N < maxLen) {k : Int} (hk : (Lit.int .i64 k).wf = true) {v' : Value} {L' : List Int} (hs : Sl W1 (fun j => T j ∨ W.heap.size ≤ j) v' L') (hg : W.grownBy W1 (f k).ownBlock)
    (hat : v'.ownBlock = (f k).ownBlock ∨ ∃ j, v'.ownBlock = some j ∧ W.heap.size ≤ j) :
    ∃ W2, (Instr.mapUpdate 123 (.map (some m)) (.int .i64 k) v').run Try.prog W1 = .ok () W2 ∧ Bat W2 (fun i => T i ∨ W.heap.size ≤ i ∧ i < W2.heap.size) p g m (N + 1) ⟨B.l, upd B.q k L'⟩ (upd f k v') ∧ Turn T W W2 := by
  have lm := h.hm.lt
  have fne : ∀ x j, (Lit.int .i64 x).wf = true → (f x).ownBlock = some j → T j ∧ j < W.heap.size := fun x j hx hj => (h.hf x hx).own hj
  have keep1 : ∀ i, i < W.heap.size → (∀ j, (f k).ownBlock = some j → i ≠ j) → W1.heap[i]? = W.heap[i]? := fun i hi hn => hg.block i hi (fun e => hn i e.symm rfl)
  have hm1 : MapAt W1 m N f := h.hm.of_block hg.size (keep1 m lm (fun j hj e => (h.off k hk j hj).2.2 e.symm))
  obtain ⟨W2, hr, hm2, hg2⟩ := hm1.store hN hk v'
  have keep2 : ∀ i, i < W1.heap.size → i ≠ m → W2.heap[i]? = W1.heap[i]? := fun i hi hn => hg2.block i hi (fun e => hn (by cases e; rfl))
  have keep : ∀ i, i < W.heap.size → i ≠ m → (∀ j, (f k).ownBlock = some j → i ≠ j) → W2.heap[i]? = W.heap[i]? := fun i hi hn hj => (keep2 i (Nat.lt_of_lt_of_le hi hg.size) hn).trans (keep1 i hi hj)
  have v'lt : ∀ j, v'.ownBlock = some j → j < W1.heap.size := fun j hj => (hs.own hj).2
  have v'off : ∀ j, v'.ownBlock = some j → j ≠ p ∧ j ≠ g ∧ j ≠ m := fun j hj => by
    rcases hat with e | ⟨j', e, hle⟩
    · rw [e] at hj; exact h.off k hk j hj
    · rw [e] at hj; cases hj
      have h1 := h.lt p h.own.1
      have h2 := h.lt g h.own.2.1
      exact ⟨by omega, by omega, by omega⟩
  have size2 : W.heap.size ≤ W2.heap.size := Nat.le_trans hg.size hg2.size
  refine ⟨W2, hr, ⟨?_, ?_, hm2, ?_, ?_, ?_, h.ne, ⟨.inl h.own.1, .inl h.own.2.1, .inl h.own.2.2⟩, fun i hi => ?_⟩, ⟨hg2.os.trans hg.os, hg2.tape.trans hg.tape, hg2.output.trans hg.output, size2, fun i hi hn => ?_⟩⟩
  · rw [keep p (h.lt p h.own.1) h.ne.2.1 (fun j hj e => (h.off k hk j hj).1 e.symm)]; exact h.hp
  · exact h.hg.of_block (keep g (h.lt g h.own.2.1) h.ne.2.2 (fun j hj e => (h.off k hk j hj).2.1 e.symm))
  · intro x hx
    show Sl W2 _ (upd f k v' x) (upd B.q k L' x)
    unfold upd
    by_cases e : x = k
    · rw [if_pos e, if_pos e]
      refine (hs.kept (fun j hj => keep2 j (v'lt j hj) (v'off j hj).2.2)).mono (fun j hj hT => hT.imp id (fun hle => ⟨hle, Nat.lt_of_lt_of_le (v'lt j hj) hg2.size⟩))
    · rw [if_neg e, if_neg e]
      refine ((h.hf x hx).kept (fun j hj => keep j (fne x j hx hj).2 (h.off x hx j hj).2.2 (fun j' hj' ej => h.ap k x hk hx (fun z => e z.symm) j' hj' (by rw [hj, ej])))).mono (fun j _ hT => .inl hT)
  · intro x y hx hy hxy j hj
    show (upd f k v' y).ownBlock ≠ some j
    have hj' : (upd f k v' x).ownBlock = some j := hj
    unfold upd at hj' ⊢
    have old : ∀ z, (Lit.int .i64 z).wf = true → z ≠ k → ∀ j, (f z).ownBlock = some j → v'.ownBlock ≠ some j := fun z hz hzk j hj e => by
      rcases hat with e2 | ⟨j2, e2, hle⟩
      · rw [e2] at e; exact h.ap z k hz hk hzk j hj e
      · rw [e2] at e; cases e; have := (fne z j hz hj).2; omega
    by_cases ex : x = k
    · rw [if_pos ex] at hj'
      rw [if_neg (fun ey => hxy (ex.trans ey.symm))]
      exact fun e => old y hy (fun ey => hxy (ex.trans ey.symm)) j e hj'
    · rw [if_neg ex] at hj'
      by_cases ey : y = k
      · rw [if_pos ey]; exact old x hx ex j hj'
      · rw [if_neg ey]; exact h.ap x y hx hy hxy j hj'
  · intro x hx j hj
    have hj' : (upd f k v' x).ownBlock = some j := hj
    unfold upd at hj'
    by_cases ex : x = k
    · rw [if_pos ex] at hj'; exact v'off j hj'
    · rw [if_neg ex] at hj'; exact h.off x hx j hj'
  · rcases hi with hi | hi
    · exact Nat.lt_of_lt_of_le (h.lt i hi) size2
    · exact hi.2
  · refine keep i hi (fun e => hn (by rw [e]; exact h.own.2.2)) (fun j hj e => hn (by rw [e]; exact (fne k j hk hj).1))
/-- A slice of the map's is handed out, and its entry is struck: the board no longer owns the slice's row. -/
theorem Bat.drop (h : Bat W T p g m N B f) {k : Int} (hk : (Lit.int .i64 k).wf = true) (ty : TypeId) :
    ∃ W2, (Builtin.delete_ #[123, 3] ty #[.map (some m), .int .i64 k]).run Try.prog W = .ok (.tuple #[]) W2 ∧ Bat W2 (fun i => T i ∧ (f k).ownBlock ≠ some i) p g m N ⟨B.l, upd B.q k []⟩ (upd f k nilv) ∧ Sl W2 (fun i => T i ∧ (f k).ownBlock = some i) (f k) (B.q k) ∧ Turn T W W2 := by
  obtain ⟨W2, hr, hm2, hg2⟩ := h.hm.drop hk ty
  have keep : ∀ i, i < W.heap.size → i ≠ m → W2.heap[i]? = W.heap[i]? := fun i hi hn => hg2.block i hi (fun e => hn (by cases e; rfl))
  have fne : ∀ x j, (Lit.int .i64 x).wf = true → (f x).ownBlock = some j → T j ∧ j < W.heap.size := fun x j hx hj => (h.hf x hx).own hj
  have hne : ∀ i, (i = p ∨ i = g ∨ i = m) → (f k).ownBlock ≠ some i := fun i hi e => by
    have := h.off k hk i e
    rcases hi with rfl | rfl | rfl
    · exact this.1 rfl
    · exact this.2.1 rfl
    · exact this.2.2 rfl
  refine ⟨W2, hr, ⟨?_, ?_, hm2, ?_, ?_, ?_, h.ne, ⟨⟨h.own.1, hne p (.inl rfl)⟩, ⟨h.own.2.1, hne g (.inr (.inl rfl))⟩, ⟨h.own.2.2, hne m (.inr (.inr rfl))⟩⟩, fun i hi => Nat.lt_of_lt_of_le (h.lt i hi.1) hg2.size⟩, ?_, Turn.of_grown hg2 (fun j hj => by cases hj; exact h.own.2.2)⟩
  · rw [keep p (h.lt p h.own.1) h.ne.2.1]; exact h.hp
  · exact h.hg.of_block (keep g (h.lt g h.own.2.1) h.ne.2.2)
  · intro x hx
    show Sl W2 _ (upd f k nilv x) (upd B.q k [] x)
    unfold upd
    by_cases e : x = k
    · rw [if_pos e, if_pos e]; exact Sl.nil _ _
    · rw [if_neg e, if_neg e]
      exact ((h.hf x hx).kept (fun j hj => keep j (fne x j hx hj).2 (h.off x hx j hj).2.2)).mono (fun j hj hT => ⟨hT, h.ap x k hx hk e j hj⟩)
  · intro x y hx hy hxy j hj
    show (upd f k nilv y).ownBlock ≠ some j
    have hj' : (upd f k nilv x).ownBlock = some j := hj
    unfold upd at hj' ⊢
    by_cases ey : y = k
    · rw [if_pos ey]; simp [nilv, Value.ownBlock]
    · rw [if_neg ey]
      by_cases ex : x = k
      · rw [if_pos ex] at hj'; simp [nilv, Value.ownBlock] at hj'
      · rw [if_neg ex] at hj'; exact h.ap x y hx hy hxy j hj'
  · intro x hx j hj
    have hj' : (upd f k nilv x).ownBlock = some j := hj
    unfold upd at hj'
    by_cases ex : x = k
    · rw [if_pos ex] at hj'; simp [nilv, Value.ownBlock] at hj'
    · rw [if_neg ex] at hj'; exact h.off x hx j hj'
  · exact ((h.hf k hk).kept (fun j hj => keep j (fne k j hk hj).2 (h.off k hk j hj).2.2)).mono (fun j hj hT => ⟨hT, hj⟩)
/-- A slice of the map's is stored anew, looked up, and struck. -/
theorem Bat.strike (h : Bat W T p g m N B f) (hN : N < maxLen) {k : Int} (hk : (Lit.int .i64 k).wf = true) (v' : Value) :
    ∃ W2, (Instr.mapUpdate 123 (.map (some m)) (.int .i64 k) v').run Try.prog W = .ok () W2 ∧ (Instr.lookup 123 (.map (some m)) (.int .i64 k) false).run Try.prog W2 = .ok v' W2 ∧ W2.cell? ⟨p, 0, none⟩ = W.cell? ⟨p, 0, none⟩ ∧ W2.cell? ⟨p, 1, none⟩ = W.cell? ⟨p, 1, none⟩ ∧
      ∃ W3, (∀ ty, (Builtin.delete_ #[123, 3] ty #[.map (some m), .int .i64 k]).run Try.prog W2 = .ok (.tuple #[]) W3) ∧ Bat W3 T p g m (N + 1) ⟨B.l, upd B.q k []⟩ (upd f k nilv) ∧ Turn T W W3 := by
  obtain ⟨W2, hr, hm2, hg2⟩ := h.hm.store hN hk v'
  obtain ⟨W3, hr3, hm3, hg3⟩ := hm2.drop hk 0
  have ty : ∀ ty, (Builtin.delete_ #[123, 3] ty #[.map (some m), .int .i64 k]).run Try.prog W2 = .ok (.tuple #[]) W3 := fun _ => hr3
  have keep2 : ∀ i, i < W.heap.size → i ≠ m → W2.heap[i]? = W.heap[i]? := fun i hi hn => hg2.block i hi (fun e => hn (by cases e; rfl))
  have keep : ∀ i, i < W.heap.size → i ≠ m → W3.heap[i]? = W.heap[i]? := fun i hi hn => (hg3.block i (Nat.lt_of_lt_of_le hi hg2.size) (fun e => hn (by cases e; rfl))).trans (keep2 i hi hn)
  have fne : ∀ x j, (Lit.int .i64 x).wf = true → (f x).ownBlock = some j → T j ∧ j < W.heap.size := fun x j hx hj => (h.hf x hx).own hj
  have ef : upd (upd f k v') k nilv = upd f k nilv := by funext x; unfold upd; by_cases e : x = k <;> simp [e]
  rw [ef] at hm3
  refine ⟨W2, hr, by rw [hm2.look hk]; unfold upd; rw [if_pos rfl], World.cell?_of_block (keep2 p (h.lt p h.own.1) h.ne.2.1), World.cell?_of_block (keep2 p (h.lt p h.own.1) h.ne.2.1), W3, ty, ⟨?_, ?_, hm3, ?_, ?_, ?_, h.ne, h.own, fun i hi => Nat.lt_of_lt_of_le (h.lt i hi) (Nat.le_trans hg2.size hg3.size)⟩, ?_⟩
  · rw [keep p (h.lt p h.own.1) h.ne.2.1]; exact h.hp
  · exact h.hg.of_block (keep g (h.lt g h.own.2.1) h.ne.2.2)
  · intro x hx
    show Sl W3 _ (upd f k nilv x) (upd B.q k [] x)
    unfold upd
    by_cases e : x = k
    · rw [if_pos e, if_pos e]; exact Sl.nil _ _
    · rw [if_neg e, if_neg e]
      exact (h.hf x hx).kept (fun j hj => keep j (fne x j hx hj).2 (h.off x hx j hj).2.2)
  · intro x y hx hy hxy j hj
    show (upd f k nilv y).ownBlock ≠ some j
    have hj' : (upd f k nilv x).ownBlock = some j := hj
    unfold upd at hj' ⊢
    by_cases ey : y = k
    · rw [if_pos ey]; simp [nilv, Value.ownBlock]
    · rw [if_neg ey]
      by_cases ex : x = k
      · rw [if_pos ex] at hj'; simp [nilv, Value.ownBlock] at hj'
      · rw [if_neg ex] at hj'; exact h.ap x y hx hy hxy j hj'
  · intro x hx j hj
    have hj' : (upd f k nilv x).ownBlock = some j := hj
    unfold upd at hj'
    by_cases ex : x = k
    · rw [if_pos ex] at hj'; simp [nilv, Value.ownBlock] at hj'
    · rw [if_neg ex] at hj'; exact h.off x hx j hj'
  · exact (Turn.of_grown (T := T) hg2 (fun j hj => by cases hj; exact h.own.2.2)).trans (Turn.of_grown (T := T) hg3 (fun j hj => by cases hj; exact h.own.2.2)) (fun _ h => .inl h)
end Go.Proofs.Ytfcjfjmjcmanaaa.B
set_option linter.unusedVariables false
namespace Go.Proofs.Ytfcjfjmjcmanaaa.B
open Go Go.RowKit Go.Proofs.YtfcjfjmjcmanaaaW.PrintWords Go.Proofs.YtfcjfjmjcmanaaaW.PrintLast Go.Proofs.YtfcjfjmjcmanaaaW.PrintMore
variable {W : World} {T : Nat → Prop} {p g m N : Nat} {B : Bd} {f : Int → Value}
set_option maxRecDepth 100000 in
set_option maxHeartbeats 4000000 in
theorem has_calls (hb : Bat W T p g m N B f) (h : Int) : Calls Try.prog 91 #[.pointer (some ⟨p, 0, none⟩), .int .i64 h] W fun e W' => e = .returned (.bool (B.has h)) ∧ Drawn0 W W' := by
  obtain ⟨c0, c1⟩ := hb.cells
  clear hb
  obtain ⟨r, hr⟩ : ∃ r, B.has h = r := ⟨_, rfl⟩
  rw [hr]
  unfold Bd.has at hr
  by_cases h0 : 0 ≤ h
  · have b0 : decide (0 ≤ h) = true := decide_eq_true h0
    rw [b0, Bool.true_and] at hr
    have p0 := eq_true h0
    clear h0
    go_enter Try.func91, Try.ntmps91
    go_wp2
    go_ret
    exact ⟨rfl, ⟨0, rfl⟩⟩
  · have b0 : decide (0 ≤ h) = false := decide_eq_false h0
    rw [b0, Bool.false_and] at hr
    have p0 := eq_false h0
    clear h0
    subst hr
    go_enter Try.func91, Try.ntmps91
    go_wp2
    go_ret
    exact ⟨rfl, ⟨0, rfl⟩⟩
set_option maxRecDepth 100000 in
set_option maxHeartbeats 4000000 in
theorem ready_calls (hb : Bat W T p g m N B f) (h : Int) : Calls Try.prog 92 #[.pointer (some ⟨p, 0, none⟩), .int .i64 h] W fun e W' => e = .returned (.int .i64 (B.rdy h)) ∧ Drawn0 W W' := by
  obtain ⟨c0, c1⟩ := hb.cells
  have hc := has_calls hb h
  unfold Bd.rdy
  cases hh : B.has h with
  | false =>
    rw [hh] at hc
    rw [if_pos rfl]
    have HC := Aside0.mk hc
    clear hb hc
    go_enter Try.func92, Try.ntmps92
    go_wp2_with (go_at_call 91; refine HC.out.mono ?_; rintro e w1 ⟨rfl, ⟨n1, rfl⟩⟩)
    go_ret
    exact ⟨rfl, ⟨n1, rfl⟩⟩
  | true =>
    rw [hh] at hc
    rw [if_neg (by simp)]
    obtain ⟨hg, h0, h1, h2⟩ := B.get hh
    obtain ⟨d0, d1, d2⟩ := hb.hg.cells hg
    obtain ⟨⟨s, o, c⟩, hx⟩ : ∃ x, B.hd h = x := ⟨_, rfl⟩
    rw [hx] at d0 d1 d2 ⊢
    replace h0 := eq_true h0
    replace h1 := eq_true h1
    have HC := Aside0.mk hc
    clear hb hc hg hx
    simp only at d0 d1 d2 ⊢
    by_cases e0 : s = 0
    · subst e0
      rw [if_pos rfl]
      go_enter Try.func92, Try.ntmps92
      go_wp2_with (go_at_call 91; refine HC.out.mono ?_; rintro e w1 ⟨rfl, ⟨n1, rfl⟩⟩)
      go_ret
      exact ⟨rfl, ⟨n1, rfl⟩⟩
    · have f0 : (s == 0) = false := beq_eq_false_iff_ne.2 e0
      rw [if_neg e0]
      by_cases e2 : s = 2
      · subst e2
        rw [if_pos rfl]
        go_enter Try.func92, Try.ntmps92
        go_wp2_with (go_at_call 91; refine HC.out.mono ?_; rintro e w1 ⟨rfl, ⟨n1, rfl⟩⟩)
        go_ret
        exact ⟨rfl, ⟨n1, rfl⟩⟩
      · have f2 : (s == 2) = false := beq_eq_false_iff_ne.2 e2
        rw [if_neg e2]
        go_enter Try.func92, Try.ntmps92
        go_wp2_with (go_at_call 91; refine HC.out.mono ?_; rintro e w1 ⟨rfl, ⟨n1, rfl⟩⟩)
        go_ret
        exact ⟨rfl, ⟨n1, rfl⟩⟩
set_option maxRecDepth 100000 in
set_option maxHeartbeats 4000000 in
theorem start_calls (hb : Bat W T p g m N B f) (h : Int) : Calls Try.prog 39 #[.pointer (some ⟨p, 0, none⟩), .int .i64 h] W fun e W' => e = .returned (.int .i64 (B.start h).2) ∧ Bat W' T p g m N (B.start h).1 f ∧ Turn T W W' := by
  obtain ⟨c0, c1⟩ := hb.cells
  have hc := has_calls hb h
  unfold Bd.start
  cases hh : B.has h with
  | false =>
    rw [hh] at hc
    rw [if_pos rfl]
    have HC := Aside0.mk hc
    have HB := Aside0.mk hb
    clear hb hc
    go_enter Try.func39, Try.ntmps39
    go_wp2_with (go_at_call 91; refine HC.out.mono ?_; rintro e w1 ⟨rfl, ⟨n1, rfl⟩⟩)
    go_ret
    exact ⟨rfl, HB.out.drewN n1, (Turn.refl _ _).drewN n1⟩
  | true =>
    rw [hh] at hc
    rw [if_neg (by simp)]
    obtain ⟨hg, h0, h1, h2⟩ := B.get hh
    obtain ⟨d0, d1, d2⟩ := hb.hg.cells hg
    have fr := hb.hg.free
    obtain ⟨⟨s, o, c⟩, hx⟩ : ∃ x, B.hd h = x := ⟨_, rfl⟩
    rw [hx] at d0 d1 d2 ⊢
    replace h0 := eq_true h0
    replace h1 := eq_true h1
    have HC := Aside0.mk hc
    have HP := fun n => Aside0.mk ((hb.drewN n).put h.toNat (1, 0, 0))
    have HB := Aside0.mk hb
    clear hb hc hg hx
    simp only at d0 d1 d2 ⊢
    by_cases e0 : s = 0
    · subst e0
      rw [if_pos rfl]
      go_enter Try.func39, Try.ntmps39
      go_wp2_with (go_at_call 91; refine HC.out.mono ?_; rintro e w1 ⟨rfl, ⟨n1, rfl⟩⟩)
      go_ret
      exact ⟨rfl, (HP n1).out.1, ((Turn.refl T W).drewN n1).trans (HP n1).out.2 (fun _ h => .inl h)⟩
    · have f0 : (s == 0) = false := beq_eq_false_iff_ne.2 e0
      rw [if_neg e0]
      go_enter Try.func39, Try.ntmps39
      go_wp2_with (go_at_call 91; refine HC.out.mono ?_; rintro e w1 ⟨rfl, ⟨n1, rfl⟩⟩)
      go_ret
      exact ⟨rfl, HB.out.drewN n1, (Turn.refl _ _).drewN n1⟩
set_option maxRecDepth 100000 in
set_option maxHeartbeats 4000000 in
theorem finish_calls (hb : Bat W T p g m N B f) (h : Int) : Calls Try.prog 48 #[.pointer (some ⟨p, 0, none⟩), .int .i64 h] W fun e W' => e = .returned (.int .i64 (B.finish h).2) ∧ Bat W' T p g m N (B.finish h).1 f ∧ Turn T W W' := by
  obtain ⟨c0, c1⟩ := hb.cells
  have hc := ready_calls hb h
  unfold Bd.finish
  by_cases hr : B.rdy h = 0
  · rw [if_pos hr]
    rw [hr] at hc
    have hh : B.has h = true := by
      cases hh : B.has h with
      | true => rfl
      | false => unfold Bd.rdy at hr; rw [if_pos hh] at hr; cases hr
    obtain ⟨hg, h0, h1, h2⟩ := B.get hh
    obtain ⟨d0, d1, d2⟩ := hb.hg.cells hg
    have fr := hb.hg.free
    replace h0 := eq_true h0
    replace h1 := eq_true h1
    have HC := Aside0.mk hc
    have HP := fun n => Aside0.mk ((hb.drewN n).put h.toNat (0, 0, 0))
    have HB := Aside0.mk hb
    clear hb hc hg hr
    go_enter Try.func48, Try.ntmps48
    go_wp2_with (go_at_call 92; refine HC.out.mono ?_; rintro e w1 ⟨rfl, ⟨n1, rfl⟩⟩)
    go_ret
    exact ⟨rfl, (HP n1).out.1, ((Turn.refl T W).drewN n1).trans (HP n1).out.2 (fun _ h => .inl h)⟩
  · rw [if_neg hr]
    obtain ⟨r, hr2⟩ : ∃ r, B.rdy h = r := ⟨_, rfl⟩
    rw [hr2] at hr hc ⊢
    have f0 : (r == 0) = false := beq_eq_false_iff_ne.2 hr
    have HC := Aside0.mk hc
    have HB := Aside0.mk hb
    clear hb hc hr hr2
    go_enter Try.func48, Try.ntmps48
    go_wp2_with (go_at_call 92; refine HC.out.mono ?_; rintro e w1 ⟨rfl, ⟨n1, rfl⟩⟩)
    go_ret
    exact ⟨rfl, HB.out.drewN n1, (Turn.refl _ _).drewN n1⟩
end Go.Proofs.Ytfcjfjmjcmanaaa.B
set_option linter.unusedVariables false
namespace Go.Proofs.Ytfcjfjmjcmanaaa.B
open Go Go.RowKit Go.Proofs.YtfcjfjmjcmanaaaW.PrintWords Go.Proofs.YtfcjfjmjcmanaaaW.PrintLast Go.Proofs.YtfcjfjmjcmanaaaW.PrintMore
variable {W : World} {T : Nat → Prop} {p g m N : Nat} {B : Bd} {f : Int → Value}
attribute [local go_sem ↓] Go.wp_at_zero Go.wp_at_succ
theorem wp_append_sl {w : World} {o : Oper} {a : Act} {K : Act → World → Prop} {Q : Exit → Act → World → Prop} (hgd : o.guard = none) (s x : Operand)
    (ho : o.op = .call { callee := .builtin .append, args := #[s, x], argTypes := #[26, 26] }) (v : Value) (L : List Int) (hs : a.eval s = v) (h : Sl w T v L) (ad : Addr) (c : Nat) (y : Int) (hx : a.eval x = .slice (some ad) 1 c) (hy : w.cell? ad = some (.int .i64 y)) (hl : L.length + 1 ≤ 4398046511104)
    (hK : ∀ v' w', Sl w' (fun j => T j ∨ w.heap.size ≤ j) v' (L ++ [y]) → w.grownBy w' v.ownBlock → (v'.ownBlock = v.ownBlock ∨ ∃ j, v'.ownBlock = some j ∧ w.heap.size ≤ j) → K (a.put o.dst v') w') : Oper.wp Try.prog o a w K Q := by
  obtain ⟨v', w', hr, h1, h2, h3⟩ := h.append (c := c) hy hl o.type
  unfold Oper.wp execOp
  simp only [ho, resolve, invoke, builtin, Sem.run_bind, Sem.run_pure, Result.andThen_ok, List.map_toArray, List.map_cons, List.map_nil, hs, hx, hr]
  exact hK v' w' h1 h2 h3
theorem step_append_sl {ops : Array Oper} {E : Prop} {w : World} {o : Oper} {a : Act} {K : Act → World → Prop} {Q : Exit → Act → World → Prop} (hgd : o.guard = none) (s x : Operand)
    (ho : o.op = .call { callee := .builtin .append, args := #[s, x], argTypes := #[26, 26] }) (v : Value) (L : List Int) (hs : a.eval s = v) (h : Sl w T v L) (ad : Addr) (c : Nat) (y : Int) (hx : a.eval x = .slice (some ad) 1 c) (hy : w.cell? ad = some (.int .i64 y)) (hl : L.length + 1 ≤ 4398046511104)
    (hK : ∀ v' w', Sl w' (fun j => T j ∨ w.heap.size ≤ j) v' (L ++ [y]) → w.grownBy w' v.ownBlock → (v'.ownBlock = v.ownBlock ∨ ∃ j, v'.ownBlock = some j ∧ w.heap.size ≤ j) → K (a.put o.dst v') w') :
    if Region.wanted o (yielded ops a.tmps) = true then Oper.wp Try.prog o a w K Q else E := by
  have hw : Region.wanted o (yielded ops a.tmps) = true := by simp [Region.wanted, hgd]
  rw [if_pos hw]
  exact wp_append_sl hgd s x ho v L hs h ad c y hx hy hl hK
/-- What the regions read of a board. -/
theorem Bat.reads (h : Bat W T p g m N B f) {k : Int} (hk : (Lit.int .i64 k).wf = true) {X : World} (hb : Below W.heap.size W X) :
    X.cell? ⟨p, 1, none⟩ = some (.map (some m)) ∧ (Instr.lookup 123 (.map (some m)) (.int .i64 k) false).run Try.prog X = .ok (f k) X := ⟨(h.below hb).cells.2, (h.below hb).hm.look hk⟩
theorem Bat.reads2 (h : Bat W T p g m N B f) {k : Int} (hk : (Lit.int .i64 k).wf = true) {X Y : World} (hb : Below W.heap.size W X) (hg : X.grownBy Y (f k).ownBlock) :
    Y.cell? ⟨p, 1, none⟩ = some (.map (some m)) ∧ (Instr.lookup 123 (.map (some m)) (.int .i64 k) false).run Try.prog Y = .ok (f k) Y := by
  have h1 := h.below hb
  have e : ∀ i, i < X.heap.size → (∀ j, (f k).ownBlock = some j → i ≠ j) → Y.heap[i]? = X.heap[i]? := fun i hi hn => hg.block i hi (fun e => hn i e.symm rfl)
  refine ⟨?_, (h1.hm.of_block hg.size (e m h1.hm.lt (fun j hj ej => (h1.off k hk j hj).2.2 ej.symm))).look hk⟩
  rw [World.cell?_of_block (e p (h1.lt p h1.own.1) (fun j hj ej => (h1.off k hk j hj).1 ej.symm))]
  exact h1.cells.2
set_option maxRecDepth 100000 in
set_option maxHeartbeats 4000000 in
theorem block_calls (hb : Bat W T p g m N B f) (hN : N + 1 < maxLen) (h on : Int) (hon : (Lit.int .i64 on).wf = true) (hq : (B.q on).length + 1 ≤ 4398046511104) :
    Calls Try.prog 40 #[.pointer (some ⟨p, 0, none⟩), .int .i64 h, .int .i64 on] W fun e W' => e = .returned (.int .i64 (B.block h on).2) ∧ ∃ f', Bat W' (fun i => T i ∨ W.heap.size ≤ i ∧ i < W'.heap.size) p g m (N + 1) (B.block h on).1 f' ∧ Turn T W W' := by
  obtain ⟨c0, c1⟩ := hb.cells
  have hc := ready_calls hb h
  unfold Bd.block
  by_cases hr : B.rdy h = 0
  · rw [if_pos hr]
    rw [hr] at hc
    have hh : B.has h = true := by
      cases hh : B.has h with
      | true => rfl
      | false => unfold Bd.rdy at hr; rw [if_pos hh] at hr; cases hr
    obtain ⟨hg, h0, h1, h2⟩ := B.get hh
    obtain ⟨d0, d1, d2⟩ := hb.hg.cells hg
    have fr := hb.hg.free
    replace h0 := eq_true h0
    replace h1 := eq_true h1
    have HC := Aside0.mk hc
    have HP := fun n => Aside0.mk ((hb.drewN n).put h.toNat (2, on, 0))
    have HB := Aside0.mk hb
    have HQ := Aside0.mk hq
    have HNN := Aside0.mk hN
    have HON := Aside0.mk hon
    clear hb hc hg hr hq hN hon
    go_enter Try.func40, Try.ntmps40
    go_wp2_with (go_at_call 92; refine HC.out.mono ?_; rintro e w1 ⟨rfl, ⟨n1, rfl⟩⟩)
    have H1 := (HP n1).out
    have H2 := Aside0.mk H1.1
    have H3 := Aside0.mk (((Turn.refl T W).drewN n1).trans H1.2 (fun _ h => .inl h))
    clear H1 HP
    generalize (((W.drewN n1).setCell _ _).setCell _ _).setCell _ _ = W1 at H2 H3 ⊢
    obtain ⟨b1, b2⟩ := H2.out.reads HON.out (Below.refl _ _)
    clear c0 c1 d0 d1 d2 fr
    have lk := fun X (hX : Below W1.heap.size W1 X) => (H2.out.reads HON.out hX).2
    have k1 := lk W1.drew (by repeat (first | exact Below.refl _ _ | apply below_drew | apply below_alloc))
    have k2 := lk (W1.alloc (.cells #[.int .i64 h] 3)) (by repeat (first | exact Below.refl _ _ | apply below_drew | apply below_alloc))
    have k3 := lk (W1.alloc (.cells #[.int .i64 h] 3)).drew (by repeat (first | exact Below.refl _ _ | apply below_drew | apply below_alloc))
    have k4 := lk (W1.drew.alloc (.cells #[.int .i64 h] 3)) (by repeat (first | exact Below.refl _ _ | apply below_drew | apply below_alloc))
    have k5 := lk (W1.drew.alloc (.cells #[.int .i64 h] 3)).drew (by repeat (first | exact Below.refl _ _ | apply below_drew | apply below_alloc))
    have LK := Aside0.mk lk
    clear lk
    go_region_held3 (fun w' => w'.cell? ⟨p, 1, none⟩ = some (.map (some m)))
      (first
        | exact hb6.cells.2
        | (refine (H2.out.reads2 HON.out ?_ hg5).1; (repeat (first | exact Below.refl _ _ | apply below_drew | apply below_alloc)); done)
        | (refine (H2.out.reads HON.out ?_).1; (repeat (first | exact Below.refl _ _ | apply below_drew | apply below_alloc)); done))
      ((refine step_append_sl rfl _ _ (by rfl) _ _ (by rfl) ((H2.out.below (by repeat (first | exact Below.refl _ _ | apply below_drew | apply below_alloc))).hf on HON.out) ⟨W1.heap.size, 0, none⟩ 1 h (by rfl) (by simp) HQ.out ?_; intro v5 w5 hs5 hg5 hat5; obtain ⟨w6, hr6, hb6, ht6⟩ := (H2.out.below (by repeat (first | exact Below.refl _ _ | apply below_drew | apply below_alloc))).store (Nat.lt_of_succ_lt HNN.out) HON.out hs5 hg5 hat5))
    all_goals go_wp2
    all_goals go_ret
    all_goals (
      have hs1 := H3.out.size
      have hs2 := ht6.size
      simp only [World.size_drew, World.size_alloc] at hs2
      exact ⟨rfl, ⟨_, hb6.widen (fun i hi => hi.imp id (fun hi => ⟨by have := hi.1; simp only [World.size_drew, World.size_alloc] at this; omega, hi.2⟩)) (fun i hi => hi.elim (fun z => by have := H2.out.lt i z; omega) (·.2))⟩,
        H3.out.trans ((Turn.of_below (T := T) (by repeat (first | exact Below.refl _ _ | apply below_drew | apply below_alloc))).trans ht6 (fun _ h => .inl h)) (fun _ h => .inl h)⟩)
  · rw [if_neg hr]
    obtain ⟨r, hr2⟩ : ∃ r, B.rdy h = r := ⟨_, rfl⟩
    rw [hr2] at hr hc ⊢
    have f0 : (r == 0) = false := beq_eq_false_iff_ne.2 hr
    have HC := Aside0.mk hc
    have HB := Aside0.mk hb
    clear hb hc hr hr2
    go_enter Try.func40, Try.ntmps40
    go_wp2_with (go_at_call 92; refine HC.out.mono ?_; rintro e w1 ⟨rfl, ⟨n1, rfl⟩⟩)
    go_ret
    have h1 := (HB.out.drewN n1).mono (Nat.le_succ N)
    exact ⟨rfl, f, h1.widen (fun _ h => .inl h) (fun i hi => hi.elim (h1.lt i) (·.2)), (Turn.refl _ _).drewN n1⟩
set_option maxRecDepth 100000 in
set_option maxHeartbeats 4000000 in
theorem waiting_calls (hb : Bat W T p g m N B f) (on : Int) (hon : (Lit.int .i64 on).wf = true) (hq : (B.q on).length ≤ 4398046511104) :
    Calls Try.prog 41 #[.pointer (some ⟨p, 0, none⟩), .int .i64 on] W fun e W' => ∃ v, e = .returned v ∧ Kd.R (Kd.int .i64) 3 W' W.heap.size (fun _ => True) v (B.q on) ∧ Below W.heap.size W W' := by
  obtain ⟨c0, c1⟩ := hb.cells
  obtain ⟨A, c, hv, hc, hC⟩ := (hb.hf on hon).C
  have hl := hb.hm.look hon
  rw [hv] at hl
  have cl := X.slices_Clone.calls A c (B.q on) (B.q on) W hC hc (by unfold X.slices_Clone.f; rw [if_pos (by omega)])
  obtain ⟨L, hL⟩ : ∃ L, B.q on = L := ⟨_, rfl⟩
  rw [hL] at hl cl ⊢
  have CL := Aside0.mk cl
  clear hb hv hc hC cl hL hq hon
  go_enter Try.func41, Try.ntmps41
  go_wp2_with (go_at_call 85; refine CL.out.mono ?_; rintro e w1 ⟨v, rfl, hr, B1⟩)
  go_ret
  exact ⟨v, rfl, hr, B1⟩
set_option maxRecDepth 100000 in
set_option maxHeartbeats 4000000 in
theorem first_calls (hb : Bat W T p g m N B f) (hN : N + 1 < maxLen) (on : Int) (hon : (Lit.int .i64 on).wf = true) (hq : ∀ h ∈ B.q on, B.has h = true) :
    Calls Try.prog 43 #[.pointer (some ⟨p, 0, none⟩), .int .i64 on] W fun e W' => e = .returned (.tuple #[.int .i64 (B.first on).2.1, .bool (B.first on).2.2]) ∧ ∃ f', Bat W' (fun i => T i ∨ W.heap.size ≤ i ∧ i < W'.heap.size) p g m (N + 1) (B.first on).1 f' ∧ Turn T W W' := by
  obtain ⟨c0, c1⟩ := hb.cells
  have hl := hb.hm.look hon
  have hs := hb.hf on hon
  unfold Bd.first
  obtain ⟨L, hL⟩ : ∃ L, B.q on = L := ⟨_, rfl⟩
  rw [hL] at hs hq ⊢
  cases L with
  | nil =>
    have hv : f on = .slice none 0 0 := by
      rcases hs with h | ⟨_, _, _, _, _, _, h, _⟩
      · exact h.1
      · exact absurd h (by simp)
    rw [hv] at hl
    have HB := Aside0.mk hb
    clear hb hs hq hL hv hon hN
    simp only
    go_enter Try.func43, Try.ntmps43
    go_wp2
    go_ret2
    exact ⟨rfl, f, (HB.out.mono (Nat.le_succ N)).widen (fun _ h => .inl h) (fun i hi => hi.elim (HB.out.lt i) (·.2)), Turn.refl _ _⟩
  | cons x t =>
    obtain ⟨j, off, cap, hv, hcap, hmax, hx, ht⟩ := hs.cut
    obtain ⟨n, hn⟩ : ∃ n, t.length + 1 = n := ⟨_, rfl⟩
    rw [hn] at hv hcap
    rw [hv] at hl
    obtain ⟨hg, h0, h1, h2⟩ := B.get (hq x (by simp))
    have HB := Aside0.mk hb
    have hn0 : ((n : Int) == 0) = false := by simp; omega
    have hn1 : ((0 : Int) < (n : Int)) = True := eq_true (by omega)
    have hn4 : (0 < n) = True := eq_true (by omega)
    have hn2 : ((1 : Int) ≤ (n : Int)) = True := eq_true (by omega)
    have hn3 : ((n : Int) ≤ (cap : Int)) = True := eq_true (by omega)
    have HT := Aside0.mk ht
    have hs0 := ht
    have k1 : (Instr.lookup 123 (.map (some m)) (.int .i64 on) false).run Try.prog W.drew = .ok (f on) W.drew := (hb.drewN 1).hm.look hon
    rw [hv] at k1
    have HV := Aside0.mk hv
    have HNN := Aside0.mk hN
    have HON := Aside0.mk hon
    obtain ⟨i03, hi03, _, hsz3, _⟩ := info_parts info3'
    have hcut := cut_from (P := Try.prog) 26 3 .i64 Try.underlying26 hi03 1 hsz3 (some ⟨j, off, none⟩) n cap 1 (by omega) (by omega)
    rw [show (1 : Int).toNat = 1 from rfl] at hcut
    have fr := hb.hg.free
    replace h0 := eq_true h0
    replace h1 := eq_true h1
    obtain ⟨d0, d1, d2⟩ := hb.hg.cells hg
    clear hi03 hsz3
    cases t with
    | nil =>
      obtain rfl : 1 = n := hn
      obtain ⟨AF, hAF⟩ : ∃ AF, (if cap = 1 then some (⟨j, off, none⟩ : Addr) else (some (⟨j, off, none⟩ : Addr)).map (·.add (1 * 1))) = AF := ⟨_, rfl⟩
      rw [hAF] at hcut
      obtain ⟨W2, s1, s2, s3, s4, W3, s5, s6, s7⟩ := (hb.drewN 1).strike (Nat.lt_of_succ_lt hN) hon (.slice AF (1 - 1) (cap - 1))
      clear hb hs hq hL hv ht hAF
      rw [show (W.drewN 1).cell? ⟨p, 0, none⟩ = W.cell? ⟨p, 0, none⟩ from rfl, c0] at s3
      rw [show (W.drewN 1).cell? ⟨p, 1, none⟩ = W.cell? ⟨p, 1, none⟩ from rfl, c1] at s4
      replace s1 : (Instr.mapUpdate 123 (.map (some m)) (.int .i64 on) (.slice AF (1 - 1) (cap - 1))).run Try.prog W.drew = .ok () W2 := s1
      have e0 := s6.cells.1
      have e1 := s6.hg.free
      obtain ⟨z0, z1, z2⟩ := s6.hg.cells hg
      have HP := Aside0.mk (s6.put x.toNat (1, 0, 0))
      have H7 := Aside0.mk s7
      clear s6 s7 hg d0 d1 d2 fr
      simp only
      go_enter Try.func43, Try.ntmps43
      go_wp2
      go_region_held3 (fun w' => w'.cell? ⟨p, 1, none⟩ = some (.map (some m)))
        (first
          | exact s4
          | (refine (HB.out.reads HON.out ?_).1; (repeat (first | exact Below.refl _ _ | apply below_drew | apply below_alloc)); done))
        (fail)
      go_wp2
      go_ret2
      have hp := HP.out
      exact ⟨rfl, _, hp.1.widen (fun _ h => .inl h) (fun i hi => hi.elim (hp.1.lt i) (·.2)), (((Turn.refl T W).drewN 1).trans H7.out (fun _ h => .inl h)).trans hp.2 (fun _ h => .inl h)⟩
    | cons y t =>
      have ht' := (hs0 (by simp) : Sl W T _ (y :: t))
      have hne : ¬ cap = 1 := by simp only [List.length_cons] at hn; omega
      rw [if_neg hne, show (some (⟨j, off, none⟩ : Addr)).map (·.add (1 * 1)) = some ⟨j, off + 1, none⟩ from rfl, show n - 1 = (y :: t).length by omega] at hcut
      have hsd : Sl W.drew (fun i => T i ∨ W.drew.heap.size ≤ i) (.slice (some ⟨j, off + 1, none⟩) (y :: t).length (cap - 1)) (y :: t) := (ht'.kept (fun _ _ => rfl)).mono (fun _ _ h => .inl h)
      obtain ⟨W2, s1, s6, s7⟩ := (hb.drewN 1).store (Nat.lt_of_succ_lt hN) hon hsd ⟨rfl, rfl, rfl, Nat.le_refl _, fun _ _ _ => rfl⟩ (.inl (by rw [hv]; rfl))
      have s2 := s6.hm.look hon
      rw [show upd f on (.slice (some ⟨j, off + 1, none⟩) (y :: t).length (cap - 1)) on = (.slice (some ⟨j, off + 1, none⟩) (y :: t).length (cap - 1) : Value) from if_pos rfl] at s2
      obtain ⟨s3, s4⟩ := s6.cells
      have e1 := s6.hg.free
      obtain ⟨z0, z1, z2⟩ := s6.hg.cells hg
      have HP := Aside0.mk (s6.put x.toNat (1, 0, 0))
      have H7 := Aside0.mk s7
      obtain ⟨n2, hn2'⟩ : ∃ n2, (y :: t).length = n2 := ⟨_, rfl⟩
      rw [hn2'] at hcut s1 s2
      have hnz : ((n2 : Int) == 0) = false := by rw [← hn2']; simp; omega
      clear hb hs hq hL hv ht s6 s7 hg d0 d1 d2 fr hn2' hn ht' hsd hs0
      simp only
      go_enter Try.func43, Try.ntmps43
      go_wp2
      go_region_held3 (fun w' => w'.cell? ⟨p, 1, none⟩ = some (.map (some m)))
        (first
          | exact s4
          | (refine (HB.out.reads HON.out ?_).1; (repeat (first | exact Below.refl _ _ | apply below_drew | apply below_alloc)); done))
        (fail)
      go_wp2
      go_ret2
      have hp := HP.out
      exact ⟨rfl, _, hp.1.widen (fun _ h => h.imp id (fun h => ⟨h.1, by simpa using h.2⟩)) (fun i hi => hi.elim (fun z => hp.1.lt i (.inl z)) (·.2)), (((Turn.refl T W).drewN 1).trans H7.out (fun _ h => .inl h)).trans hp.2 (fun _ h => h.imp id (·.1))⟩
end Go.Proofs.Ytfcjfjmjcmanaaa.B
set_option linter.unusedVariables false
namespace Go.Proofs.Ytfcjfjmjcmanaaa.B
open Go Go.RowKit Go.Proofs.YtfcjfjmjcmanaaaW.PrintWords Go.Proofs.YtfcjfjmjcmanaaaW.PrintLast Go.Proofs.YtfcjfjmjcmanaaaW.PrintMore
variable {W : World} {T : Nat → Prop} {p g m N : Nat} {B : Bd} {f : Int → Value}
theorem wakes_length : ∀ (L : List Int) (l : List Hd), (wakes L l).length = l.length
  | [], _ => rfl
  | h :: t, l => by rw [wakes, wakes_length t]; simp
theorem wakes_snoc (x : Int) : ∀ (A : List Int) (l : List Hd), wakes (A ++ [x]) l = (wakes A l).set x.toNat (1, 0, 0)
  | [], _ => rfl
  | h :: t, l => by rw [List.cons_append, wakes, wakes, wakes_snoc x t]
theorem Sl.cell {A : Option Addr} {n c : Nat} {L : List Int} (h : Sl W T (.slice A n c) L) (k : Int) (h0 : 0 ≤ k) (h1 : k < (L.length : Int)) : ∃ ad, A = some ad ∧ W.cell? (ad.add k.toNat) = some (.int .i64 (rd L k)) := by
  obtain ⟨A', c', e, _, hC⟩ := h.C
  have eA : A = A' := by injection e
  subst eA
  exact Kd.at_int hC k h0 h1
set_option maxRecDepth 100000 in
set_option maxHeartbeats 4000000 in
theorem wake_calls (hb : Bat W T p g m N B f) (on : Int) (hon : (Lit.int .i64 on).wf = true) (hq : ∀ h ∈ B.q on, B.has h = true) (hlen : (B.q on).length ≤ 4398046511104) :
    Calls Try.prog 44 #[.pointer (some ⟨p, 0, none⟩), .int .i64 on] W fun e W' => ∃ v, e = .returned v ∧ Sl W' (fun i => T i ∧ v.ownBlock = some i) v (B.q on) ∧ ∃ T' f', Bat W' T' p g m N (B.wake on) f' ∧ Turn T W W' ∧ ∀ i, T' i → T i ∧ v.ownBlock ≠ some i := by
  obtain ⟨c0, c1⟩ := hb.cells
  obtain ⟨A, c, hv, hc, _⟩ := (hb.hf on hon).C
  have hl := hb.hm.look hon
  obtain ⟨W2, hr, hb2, hs2, ht2⟩ := hb.drop hon 0
  have s5 : ∀ ty, (Builtin.delete_ #[123, 3] ty #[.map (some m), .int .i64 on]).run Try.prog W = .ok (.tuple #[]) W2 := fun _ => hr
  rw [hv] at hl hs2
  obtain ⟨L, hL⟩ : ∃ L, B.q on = L := ⟨_, rfl⟩
  unfold Bd.wake
  rw [hL] at hl hs2 hq hlen hv ⊢
  have HV := Aside0.mk hv
  have HB2 := Aside0.mk hb2
  have HS2 := Aside0.mk hs2
  have HT2 := Aside0.mk ht2
  have HQ := Aside0.mk hq
  have HL := Aside0.mk hlen
  clear hb hv hc hr hb2 hs2 ht2 hq hlen hon hL
  go_enter Try.func44, Try.ntmps44
  go_wp2
  go_loopw [23] (fun vi wr => ∃ k : Int, vi = .int .i64 k ∧ Aside0 (0 ≤ k ∧ k ≤ (L.length : Int)) ∧ Aside0 (Bat wr (fun i => T i ∧ (f on).ownBlock ≠ some i) p g m N ⟨wakes (L.take k.toNat) B.l, upd B.q on []⟩ (upd f on nilv)) ∧ Aside0 (Turn (fun i => T i ∧ (f on).ownBlock ≠ some i) W2 wr)) (fun vi _ => ((L.length : Int) - intOf vi).toNat)
  case atStart => exact ⟨0, rfl, ⟨by omega⟩, ⟨by simpa [wakes] using HB2.out⟩, ⟨Turn.refl _ _⟩⟩
  case round =>
    obtain ⟨k, rfl, Hk, HBk, HTk⟩ := hrel
    rename World => W3
    have hs3 : Sl W3 (fun i => T i ∧ (Value.slice A L.length c).ownBlock = some i) (.slice A L.length c) L := HS2.out.kept (fun j hj => HTk.out.block j (HS2.out.own hj).2 (fun h => h.2 (by rw [HV.out]; exact hj)))
    by_cases hlt : k < (L.length : Int)
    · have hltb : decide (k < (L.length : Int)) = true := decide_eq_true hlt
      have p0 := Hk.out.1
      obtain ⟨ad, rfl, hx⟩ := hs3.cell k p0 hlt
      obtain ⟨x, hxx⟩ : ∃ x, rd L k = x := ⟨_, rfl⟩
      rw [hxx] at hx
      have hkn : k.toNat < L.length := by omega
      have hgx : L[k.toNat] = x := by rw [← hxx]; unfold rd; rw [List.getD_eq_getElem?_getD, List.getElem?_eq_getElem hkn]; rfl
      obtain ⟨_, h0, h1, h2⟩ := B.get (HQ.out x (by rw [← hgx]; exact List.getElem_mem _))
      have hwl : (wakes (L.take k.toNat) B.l).length = B.l.length := wakes_length _ _
      obtain ⟨y, hy⟩ : ∃ y, (wakes (L.take k.toNat) B.l)[x.toNat]? = some y := ⟨_, List.getElem?_eq_getElem (by rw [hwl]; exact h2)⟩
      obtain ⟨d0, d1, d2⟩ := HBk.out.hg.cells hy
      have e1 := HBk.out.hg.free
      obtain ⟨e2, e3⟩ := HBk.out.cells
      simp only [hwl] at e2
      have HP := HBk.out.put x.toNat (1, 0, 0)
      have hw1 : wrap64 (k + 1) = k + 1 := X.hwrId (by omega) (by have := HL.out; omega)
      have hsn : (wakes (L.take k.toNat) B.l).set x.toNat (1, 0, 0) = wakes (L.take (k + 1).toNat) B.l := by
        rw [← wakes_snoc, show (k + 1).toNat = k.toNat + 1 by omega, List.take_add_one, List.getElem?_eq_getElem hkn, hgx]; rfl
      simp only [hsn] at HP
      have HP := Aside0.mk HP
      have HW := Aside0.mk hw1
      replace p0 := eq_true p0
      replace hlt := eq_true hlt
      replace h0 := eq_true h0
      replace h1 := eq_true h1
      clear hs3 hgx hkn hxx hw1 hsn hy hwl h2
      go_wp2
      have hp := HP.out
      exact ⟨⟨wrap64 (k + 1), rfl, ⟨by rw [HW.out]; have := Hk.out; have := of_eq_true hlt; omega⟩, ⟨by rw [HW.out]; exact hp.1⟩, ⟨HTk.out.trans hp.2 (fun _ h => .inl h)⟩⟩, by rw [HW.out]; simp only [intOf]; have := Hk.out; have := of_eq_true hlt; omega⟩
    · have hltb : decide (k < (L.length : Int)) = false := decide_eq_false hlt
      have hk : k.toNat = L.length := by have := Hk.out; omega
      have HBz := HBk.out
      rw [hk, List.take_length] at HBz
      have HBZ := Aside0.mk HBz
      have HS3 := Aside0.mk hs3
      clear hlt hk HBz hs3
      go_wp2
      go_ret
      exact ⟨.slice A L.length c, rfl, HS3.out, _, _, HBZ.out, HT2.out.trans (HTk.out.mono (fun _ h => h.1)) (fun _ h => .inl h), fun i hi => ⟨hi.1, by have h := hi.2; rw [HV.out] at h; exact h⟩⟩
end Go.Proofs.Ytfcjfjmjcmanaaa.B
set_option linter.unusedVariables false
namespace Go.Proofs.Ytfcjfjmjcmanaaa.B
open Go Go.RowKit Go.Proofs.YtfcjfjmjcmanaaaW.PrintWords Go.Proofs.YtfcjfjmjcmanaaaW.PrintLast Go.Proofs.YtfcjfjmjcmanaaaW.PrintMore
variable {W : World} {T : Nat → Prop} {p g m N : Nat} {B : Bd} {f : Int → Value}
def Bd.new (n : Int) : Bd := ⟨List.replicate n.toNat (0, 0, 0), fun _ => []⟩
theorem info127 : (Try.prog.info? 127).map (fun i => (i.zero, i.size, i.bytes)) = some (some (.agg #[.int .i64 0, .int .i64 0, .int .i64 0]), 3, 24) := by kernel_rfl
theorem make_hds (n : Int) (h1 : 1 ≤ n) (h2 : n ≤ 16) (W : World) : (Instr.makeSlice 122 (.int .i64 n) (.int .i64 n)).run Try.prog W = .ok (.slice (some ⟨W.heap.size, 0, none⟩) n.toNat n.toNat) (W.alloc (.cells (madeCells #[.int .i64 0, .int .i64 0, .int .i64 0] (n.toNat * 3)) 127)) := by
  obtain ⟨i, hi, hzz⟩ := Option.map_eq_some_iff.1 info127
  simp only [Prod.mk.injEq] at hzz
  obtain ⟨hz, hs, hb⟩ := hzz
  have hr := run_make (P := Try.prog) W 122 127 i (.agg #[.int .i64 0, .int .i64 0, .int .i64 0]) Try.underlying122 hi hz .i64 .i64 n n (by omega) (by omega) (by rw [hb]; omega) (by omega)
  rw [hs] at hr
  exact hr
theorem made_get (k j : Nat) (h : j < k * 3) : (madeCells #[.int .i64 0, .int .i64 0, .int .i64 0] (k * 3))[j]? = some (.int .i64 0) := by
  unfold madeCells
  rw [Array.getElem?_map, Array.getElem?_range, if_pos h]
  have : j % 3 = 0 ∨ j % 3 = 1 ∨ j % 3 = 2 := by omega
  rcases this with e | e | e <;> simp [e]
theorem new_Bat (n : Int) (h1 : 1 ≤ n) (W : World) :
    Bat (((W.alloc (.cells (madeCells #[.int .i64 0, .int .i64 0, .int .i64 0] (n.toNat * 3)) 127)).alloc (.map #[] 0)).alloc (.cells #[.slice (some ⟨W.heap.size, 0, none⟩) n.toNat n.toNat, .map (some (W.heap.size + 1))] 125))
      (fun i => W.heap.size ≤ i ∧ i < W.heap.size + 3) (W.heap.size + 2) W.heap.size (W.heap.size + 1) 0 (Bd.new n) (fun _ => nilv) := by
  generalize hA : Obj.cells (madeCells #[.int .i64 0, .int .i64 0, .int .i64 0] (n.toNat * 3)) 127 = oA
  generalize hC : Obj.cells #[.slice (some ⟨W.heap.size, 0, none⟩) n.toNat n.toNat, .map (some (W.heap.size + 1))] 125 = oC
  have e2 : (((W.alloc oA).alloc (.map #[] 0)).alloc oC).heap[W.heap.size + 2]? = some oC := by
    have := World.alloc_heap_new ((W.alloc oA).alloc (.map #[] 0)) oC
    simpa using this
  have e0 : (((W.alloc oA).alloc (.map #[] 0)).alloc oC).heap[W.heap.size]? = some oA := by
    rw [Below.heap_alloc _ _ _ (by simp; omega), Below.heap_alloc _ _ _ (by simp)]
    exact World.alloc_heap_new W oA
  have m1 : MapAt ((W.alloc oA).alloc (.map #[] 0)) (W.heap.size + 1) 0 (fun _ => nilv) := by
    have := MapAt.made (W.alloc oA)
    simpa using this
  have ln : (Bd.new n).l.length = n.toNat := by simp [Bd.new]
  refine ⟨?_, ⟨_, e0.trans (by rw [← hA]), ?_, ?_⟩, m1.of_block (by simp) (Below.heap_alloc _ _ _ (by simp)), fun k _ => Sl.nil _ _, fun k k' _ _ _ j hj => by simp [nilv, Value.ownBlock] at hj, fun k _ j hj => by simp [nilv, Value.ownBlock] at hj, by omega, by omega, fun i hi => by simp; omega⟩
  · rw [e2, ← hC, ln]
  · rw [size_madeCells, ln]
  · intro i x hi
    have hx : i < n.toNat ∧ x = (0, 0, 0) := by
      unfold Bd.new at hi
      rw [List.getElem?_replicate] at hi
      split at hi
      · rename_i h; cases hi; exact ⟨h, rfl⟩
      · cases hi
    rw [hx.2]
    exact ⟨made_get _ _ (by omega), made_get _ _ (by omega), made_get _ _ (by omega)⟩
set_option maxRecDepth 100000 in
set_option maxHeartbeats 4000000 in
theorem new_calls (n : Int) (h1 : 1 ≤ n) (h2 : n ≤ 16) : Calls Try.prog 38 #[.int .i64 n] W fun e W' => ∃ p T g m, e = .returned (.tuple #[.pointer (some ⟨p, 0, none⟩), .int .i64 0]) ∧ Bat W' T p g m 0 (Bd.new n) (fun _ => nilv) ∧ Below W.heap.size W W' ∧ ∀ i, T i → W.heap.size ≤ i := by
  have hmk := make_hds n h1 h2
  have hmm := @run_makeMap Try.prog
  have t1 : decide (n < 1) = false := decide_eq_false (by omega)
  have t2 : decide (16 < n) = false := decide_eq_false (by omega)
  have t3 : (16 < n) = False := eq_false (by omega)
  have HB := Aside0.mk (new_Bat n h1 W)
  clear h1 h2
  go_enter Try.func38, Try.ntmps38
  go_wp2
  go_ret2
  exact ⟨_, _, _, _, rfl, HB.out, by repeat (first | exact Below.refl _ _ | apply below_alloc), fun i hi => hi.1⟩
set_option maxRecDepth 100000 in
set_option maxHeartbeats 4000000 in
theorem new_bad (n : Int) (h : ¬ (1 ≤ n ∧ n ≤ 16)) : Calls Try.prog 38 #[.int .i64 n] W fun e W' => e = .returned (.tuple #[.pointer none, .int .i64 2]) ∧ Drawn0 W W' := by
  by_cases h1 : n < 1
  · have t1 : decide (n < 1) = true := decide_eq_true h1
    clear h
    go_enter Try.func38, Try.ntmps38
    go_wp2
    go_ret2
    exact ⟨rfl, ⟨0, rfl⟩⟩
  · have t1 : decide (n < 1) = false := decide_eq_false h1
    have h2 : 16 < n := by omega
    have t2 : decide (16 < n) = true := decide_eq_true h2
    clear h
    go_enter Try.func38, Try.ntmps38
    go_wp2
    go_ret2
    exact ⟨rfl, ⟨0, rfl⟩⟩
/-! ### Ready -/
def rdyK (l : List Hd) : Nat → List Int
  | 0 => []
  | k + 1 => if (l.getD k (0, 0, 0)).1 = 1 then rdyK l k ++ [(k : Int)] else rdyK l k
theorem rdyK_length (l : List Hd) : ∀ k, (rdyK l k).length ≤ k
  | 0 => Nat.le_refl _
  | k + 1 => by
    rw [rdyK]
    have := rdyK_length l k
    split
    · simp; exact this
    · omega
def Bd.ready (B : Bd) : List Int := rdyK B.l B.l.length
set_option maxRecDepth 100000 in
set_option maxHeartbeats 4000000 in
theorem readys_calls (hb : Bat W T p g m N B f) (hn : B.l.length ≤ 16) : Calls Try.prog 42 #[.pointer (some ⟨p, 0, none⟩)] W fun e W' => ∃ v, e = .returned v ∧ Kd.R (Kd.int .i64) 3 W' W.heap.size (fun _ => True) v B.ready ∧ Below W.heap.size W W' := by
  obtain ⟨c0, c1⟩ := hb.cells
  have HB := Aside0.mk hb
  have HN := Aside0.mk hn
  clear hb hn
  unfold Bd.ready
  obtain ⟨l, hl⟩ : ∃ l, B.l = l := ⟨_, rfl⟩
  have HG := Aside0.mk HB.out.hg
  rw [hl] at c0 HN HG ⊢
  clear hl
  go_enter Try.func42, Try.ntmps42
  go_wp2
  go_loopw [3, 13] (fun v vi wr => ∃ k : Int, vi = .int .i64 k ∧ Aside0 (0 ≤ k ∧ k ≤ (l.length : Int)) ∧ Aside0 (Kd.R (Kd.int .i64) 3 wr W.heap.size (fun _ => True) v (rdyK l k.toNat)) ∧ Aside0 (Below W.heap.size W wr)) (fun _ vi _ => ((l.length : Int) - intOf vi).toNat)
  case atStart => exact ⟨0, rfl, ⟨by omega⟩, ⟨Kd.R_nil _ _ _ _ (fun _ => True)⟩, ⟨Below.refl _ _⟩⟩
  case round =>
    obtain ⟨k, rfl, Hk, HR, HW⟩ := hrel
    rename World => W3
    by_cases hlt : k < (l.length : Int)
    · have hltb : decide (k < (l.length : Int)) = true := decide_eq_true hlt
      have p0 := Hk.out.1
      have hkn : k.toNat < l.length := by omega
      obtain ⟨⟨s, o, c⟩, hx⟩ : ∃ x, l[k.toNat]? = some x := ⟨_, List.getElem?_eq_getElem hkn⟩
      obtain ⟨d0, d1, d2⟩ := (HG.out.of_block (HW.out.block g HG.out.lt)).cells hx
      have hw1 : wrap64 (k + 1) = k + 1 := X.hwrId (by omega) (by have := HN.out; omega)
      have hkk : (k + 1).toNat = k.toNat + 1 := by omega
      have hst : rdyK l (k + 1).toNat = if s = 1 then rdyK l k.toNat ++ [k] else rdyK l k.toNat := by
        rw [hkk, rdyK, List.getD_eq_getElem?_getD, hx]
        simp only [Option.getD_some, Int.toNat_of_nonneg p0]
      have HST := Aside0.mk hst
      have HW1 := Aside0.mk hw1
      have HLEN := Aside0.mk (rdyK_length l k.toNat)
      replace p0 := eq_true p0
      replace hlt := eq_true hlt
      clear hst hx hkk hw1 hkn
      simp only at d0 d1 d2
      by_cases hs : s = 1
      · subst hs
        go_wp2_with ((with_reducible refine gate_builtin (b := .append) (xs := #[.tmp 21, .tmp 23]) rfl ?_); at_builtin; refine Kd.R_append (Kd.int .i64) (w0 := W) W.heap.size rfl (.tmp 21) (.tmp 23) 26 3 (.int .i64 0) 8 rfl Try.underlying26 info3' rfl (by decide) (by omega) _ (rdyK l k.toNat) k [.int .i64 k] (fun _ => True) (fun _ => False) rfl (by show Value.slice (some ⟨W3.heap.size + 1, 0, none⟩) 1 1 = _; simp) rfl (fun _ hk => hk.elim) (fun _ _ => trivial) (Kd.R_below HR.out (by (repeat (first | exact Below.refl _ _ | apply below_alloc | (refine Below.setCell ?_ (Nat.le_refl _) _))))) (below_step HW.out (by (repeat (first | exact Below.refl _ _ | apply below_alloc | (refine Below.setCell ?_ (Nat.le_refl _) _))))) (Nat.le_trans HW.out.size (by simp)) (by have := HLEN.out; have := HN.out; have := Hk.out; omega) ?_; intro v5 w5 ho hb hg hat; have HO5 := Aside0.mk ho; have HB5 := Aside0.mk hb; clear ho hb hg hat)
        exact ⟨⟨wrap64 (k + 1), rfl, ⟨by rw [HW1.out]; have := Hk.out; have := of_eq_true hlt; omega⟩, ⟨by rw [HW1.out, HST.out, if_pos rfl]; exact HO5.out⟩, HB5⟩, by rw [HW1.out]; simp only [intOf]; have := Hk.out; have := of_eq_true hlt; omega⟩
      · have hsb : (s == 1) = false := beq_eq_false_iff_ne.2 hs
        go_wp2
        exact ⟨⟨wrap64 (k + 1), rfl, ⟨by rw [HW1.out]; have := Hk.out; have := of_eq_true hlt; omega⟩, ⟨by rw [HW1.out, HST.out, if_neg hs]; exact Kd.R_below HR.out (by (repeat (first | exact Below.refl _ _ | apply below_alloc | (refine Below.setCell ?_ (Nat.le_refl _) _))))⟩, ⟨below_step HW.out (by (repeat (first | exact Below.refl _ _ | apply below_alloc | (refine Below.setCell ?_ (Nat.le_refl _) _))))⟩⟩, by rw [HW1.out]; simp only [intOf]; have := Hk.out; have := of_eq_true hlt; omega⟩
    · have hltb : decide (k < (l.length : Int)) = false := decide_eq_false hlt
      have hk : k.toNat = l.length := by have := Hk.out; omega
      rw [hk] at HR
      clear hlt hk
      go_wp2
      go_ret
      exact ⟨_, rfl, HR.out, HW.out⟩
end Go.Proofs.Ytfcjfjmjcmanaaa.B
set_option linter.unusedVariables false
namespace Go.Proofs.Ytfcjfjmjcmanaaa.B
open Go Go.RowKit Go.Proofs.YtfcjfjmjcmanaaaW.PrintWords Go.Proofs.YtfcjfjmjcmanaaaW.PrintLast Go.Proofs.YtfcjfjmjcmanaaaW.PrintMore
variable {W : World} {T : Nat → Prop} {p g m N : Nat} {B : Bd} {f : Int → Value}
def longK (l : List Hd) : Nat → Int × Int
  | 0 => (-1, 0)
  | k + 1 => if (l.getD k (0, 0, 0)).1 = 1 ∧ ((longK l k).1 < 0 ∨ (longK l k).2 < (l.getD k (0, 0, 0)).2.2) then ((k : Int), (l.getD k (0, 0, 0)).2.2) else longK l k
def Bd.longest (B : Bd) : Int × Int := longK B.l B.l.length
set_option maxRecDepth 100000 in
set_option maxHeartbeats 4000000 in
theorem longest_calls (hb : Bat W T p g m N B f) (hn : B.l.length ≤ 16) : Calls Try.prog 50 #[.pointer (some ⟨p, 0, none⟩)] W fun e W' => e = .returned (.tuple #[.int .i64 B.longest.1, .int .i64 B.longest.2]) ∧ Below W.heap.size W W' := by
  obtain ⟨c0, c1⟩ := hb.cells
  have HB := Aside0.mk hb
  have HN := Aside0.mk hn
  clear hb hn
  unfold Bd.longest
  obtain ⟨l, hl⟩ : ∃ l, B.l = l := ⟨_, rfl⟩
  have HG := Aside0.mk HB.out.hg
  rw [hl] at c0 HN HG ⊢
  clear hl
  go_enter Try.func50, Try.ntmps50
  go_wp2
  go_loopw [4, 5, 17] (fun v4 v5 vi wr => ∃ k : Int, vi = .int .i64 k ∧ Aside0 (0 ≤ k ∧ k ≤ (l.length : Int)) ∧ v4 = .int .i64 (longK l k.toNat).1 ∧ v5 = .int .i64 (longK l k.toNat).2 ∧ Aside0 (Below W.heap.size W wr)) (fun _ _ vi _ => ((l.length : Int) - intOf vi).toNat)
  case atStart => exact ⟨0, rfl, ⟨by omega⟩, rfl, rfl, ⟨Below.refl _ _⟩⟩
  case round =>
    obtain ⟨k, rfl, Hk, rfl, rfl, HW⟩ := hrel
    rename World => W3
    by_cases hlt : k < (l.length : Int)
    · have hltb : decide (k < (l.length : Int)) = true := decide_eq_true hlt
      have p0 := Hk.out.1
      have hkn : k.toNat < l.length := by omega
      obtain ⟨⟨s, o, c⟩, hx⟩ : ∃ x, l[k.toNat]? = some x := ⟨_, List.getElem?_eq_getElem hkn⟩
      obtain ⟨d0, d1, d2⟩ := (HG.out.of_block (HW.out.block g HG.out.lt)).cells hx
      have hw1 : wrap64 (k + 1) = k + 1 := X.hwrId (by omega) (by have := HN.out; omega)
      have hkk : (k + 1).toNat = k.toNat + 1 := by omega
      obtain ⟨⟨a, b⟩, hab⟩ : ∃ ab, longK l k.toNat = ab := ⟨_, rfl⟩
      have hst : longK l (k + 1).toNat = if s = 1 ∧ (a < 0 ∨ b < c) then (k, c) else (a, b) := by
        rw [hkk, longK, List.getD_eq_getElem?_getD, hx, hab]
        simp only [Option.getD_some, Int.toNat_of_nonneg p0]
      rw [hab]
      have HST := Aside0.mk hst
      have HW1 := Aside0.mk hw1
      replace p0 := eq_true p0
      replace hlt := eq_true hlt
      clear hst hx hkk hw1 hkn hab
      simp only at d0 d1 d2 ⊢
      have fin : ∀ (w : World) (a' b' : Int), (longK l (k + 1).toNat = (a', b')) → Below W.heap.size W w → (∃ k', Value.int .i64 (wrap64 (k + 1)) = Value.int .i64 k' ∧ Aside0 (0 ≤ k' ∧ k' ≤ (l.length : Int)) ∧ Value.int .i64 a' = .int .i64 (longK l k'.toNat).1 ∧ Value.int .i64 b' = .int .i64 (longK l k'.toNat).2 ∧ Aside0 (Below W.heap.size W w)) := fun w a' b' h1 h2 =>
        ⟨wrap64 (k + 1), rfl, ⟨by rw [HW1.out]; have := Hk.out; have := of_eq_true hlt; omega⟩, by rw [HW1.out, h1], by rw [HW1.out, h1], ⟨h2⟩⟩
      have FIN := Aside0.mk fin
      clear fin
      have msr : ((l.length : Int) - intOf (Value.int .i64 (wrap64 (k + 1)))).toNat < ((l.length : Int) - intOf (Value.int .i64 k)).toNat := by rw [HW1.out]; simp only [intOf]; have := Hk.out; have := of_eq_true hlt; omega
      have MSR := Aside0.mk msr
      clear msr
      by_cases hs : s = 1
      · subst hs
        by_cases ha : a < 0
        · have hab : decide (a < 0) = true := decide_eq_true ha
          have HS2 : Aside0 (longK l (k + 1).toNat = (k, c)) := ⟨by rw [HST.out, if_pos ⟨rfl, .inl ha⟩]⟩
          clear ha
          go_wp2
          go_quiet (fail)
          go_wp2
          exact ⟨FIN.out _ _ _ HS2.out (below_step HW.out (by (repeat (first | exact Below.refl _ _ | apply pw_below_drewN | apply below_alloc)))), MSR.out⟩
        · have hab : decide (a < 0) = false := decide_eq_false ha
          by_cases hb : b < c
          · have hbb : decide (b < c) = true := decide_eq_true hb
            have HS2 : Aside0 (longK l (k + 1).toNat = (k, c)) := ⟨by rw [HST.out, if_pos ⟨rfl, .inr hb⟩]⟩
            clear ha hb
            go_wp2
            go_quiet (fail)
            go_wp2
            exact ⟨FIN.out _ _ _ HS2.out (below_step HW.out (by (repeat (first | exact Below.refl _ _ | apply pw_below_drewN | apply below_alloc)))), MSR.out⟩
          · have hbb : decide (b < c) = false := decide_eq_false hb
            have HS2 : Aside0 (longK l (k + 1).toNat = (a, b)) := ⟨by rw [HST.out, if_neg (by rintro ⟨_, h | h⟩; exact ha h; exact hb h)]⟩
            clear ha hb
            go_wp2
            exact ⟨FIN.out _ _ _ HS2.out (below_step HW.out (by (repeat (first | exact Below.refl _ _ | apply pw_below_drewN | apply below_alloc)))), MSR.out⟩
      · have hsb : (s == 1) = false := beq_eq_false_iff_ne.2 hs
        have HS2 : Aside0 (longK l (k + 1).toNat = (a, b)) := ⟨by rw [HST.out, if_neg (fun h => hs h.1)]⟩
        clear hs
        go_wp2
        exact ⟨FIN.out _ _ _ HS2.out (below_step HW.out (by (repeat (first | exact Below.refl _ _ | apply pw_below_drewN | apply below_alloc)))), MSR.out⟩
    · have hltb : decide (k < (l.length : Int)) = false := decide_eq_false hlt
      have hk : k.toNat = l.length := by have := Hk.out; omega
      rw [hk]
      clear hlt hk
      go_wp2
      go_ret2
      exact ⟨rfl, HW.out⟩
/-! ### Pick -/
def bump (x : Hd) : Hd := if x.1 = 1 then (x.1, x.2.1, wrap64 (x.2.2 + 1)) else x
def bumpK (l : List Hd) (k : Nat) : List Hd := (l.take k).map bump ++ l.drop k
theorem bumpK_length (l : List Hd) (k : Nat) : (bumpK l k).length = l.length := by simp [bumpK]; omega
theorem bumpK_get {l : List Hd} {k : Nat} {x : Hd} (h : l[k]? = some x) : (bumpK l k)[k]? = some x := by
  have hk := (List.getElem?_eq_some_iff.1 h).1
  unfold bumpK
  rw [List.getElem?_append_right (by simp; omega)]
  simp [Nat.min_eq_left (Nat.le_of_lt hk), h]
theorem bumpK_step {l : List Hd} {k : Nat} {x : Hd} (h : l[k]? = some x) : (bumpK l k).set k (bump x) = bumpK l (k + 1) := by
  have hk := (List.getElem?_eq_some_iff.1 h).1
  have hx := (List.getElem?_eq_some_iff.1 h).2
  unfold bumpK
  have hl : ((l.take k).map bump).length = k := by simp; omega
  rw [List.set_append_right _ _ (by omega), hl, Nat.sub_self, List.drop_eq_getElem_cons hk, List.set_cons_zero, List.take_add_one, List.getElem?_eq_getElem hk, hx]
  simp
theorem bumpK_skip {l : List Hd} {k : Nat} {x : Hd} (h : l[k]? = some x) (hb : bump x = x) : bumpK l (k + 1) = bumpK l k := by
  rw [← bumpK_step h, hb]
  have hk := (List.getElem?_eq_some_iff.1 (bumpK_get h))
  rw [← hk.2, List.set_getElem_self]
theorem bumpK_all (l : List Hd) : bumpK l l.length = l.map bump := by simp [bumpK]
def pickAt (n : Nat) (k : Int) : Int := Int.tmod (Int.tmod k n + n) n
theorem pickAt_facts (n : Nat) (hn : 1 ≤ n ∧ n ≤ 16) (k : Int) : ∃ r h : Int, Int.tmod k n = r ∧ wrap64 r = r ∧ wrap64 (r + n) = r + n ∧ Int.tmod (r + n) n = h ∧ wrap64 h = h ∧ pickAt n k = h ∧ 0 ≤ h ∧ h < n := by
  have g1 := Int.tmod_lt_of_pos k (show (0 : Int) < (n : Int) by omega)
  have g2 := Int.lt_tmod_of_pos k (show (0 : Int) < (n : Int) by omega)
  unfold pickAt
  generalize Int.tmod k n = r at g1 g2
  have g3 := Int.tmod_lt_of_pos (r + n) (show (0 : Int) < (n : Int) by omega)
  have g4 := Int.tmod_nonneg (n : Int) (show 0 ≤ r + (n : Int) by omega)
  exact ⟨r, _, rfl, X.hwrId (by omega) (by omega), X.hwrId (by omega) (by omega), rfl, X.hwrId (by omega) (by omega), rfl, g4, g3⟩
def Bd.pick (B : Bd) (k : Int) : Bd × Int × Bool :=
  let h := pickAt B.l.length k
  let x := (B.l.map bump).getD h.toNat (0, 0, 0)
  (⟨(B.l.map bump).set h.toNat (x.1, x.2.1, 0), B.q⟩, h, x.1 == 1)
set_option maxRecDepth 100000 in
set_option maxHeartbeats 4000000 in
theorem pick_calls (hb : Bat W T p g m N B f) (hn : 1 ≤ B.l.length ∧ B.l.length ≤ 16) (k : Int) : Calls Try.prog 49 #[.pointer (some ⟨p, 0, none⟩), .int .i64 k] W fun e W' => e = .returned (.tuple #[.int .i64 (B.pick k).2.1, .bool (B.pick k).2.2]) ∧ Bat W' T p g m N (B.pick k).1 f ∧ Turn T W W' := by
  obtain ⟨c0, c1⟩ := hb.cells
  obtain ⟨r, h, e1, e2, e3, e4, e5, e6, h0, h1⟩ := pickAt_facts B.l.length hn k
  unfold Bd.pick
  rw [e6]
  simp only
  have HB := Aside0.mk hb
  have HN := Aside0.mk hn
  obtain ⟨l, hl⟩ : ∃ l, B.l = l := ⟨_, rfl⟩
  rw [hl] at c0 HN e1 e3 e4 h1 ⊢
  obtain ⟨n, hnn⟩ : ∃ n, l.length = n := ⟨_, rfl⟩
  have HL := Aside0.mk hl
  have HNN := Aside0.mk hnn
  have hnz : ((n : Int) = 0) = False := eq_false (by have := HN.out; omega)
  have hnz' : (n = 0) = False := eq_false (by have := HN.out; omega)
  have hn1 : ((n : Int) == 0) = false := by simp; have := HN.out; omega
  rw [hnn] at c0 e1 e3 e4 h1
  have H01 := Aside0.mk (And.intro h0 h1)
  have hml : (l.map bump).length = n := by rw [List.length_map]; exact hnn
  obtain ⟨⟨s, o, c⟩, hx⟩ : ∃ x, (l.map bump)[h.toNat]? = some x := ⟨_, List.getElem?_eq_getElem (by rw [hml]; omega)⟩
  rw [show (l.map bump).getD h.toNat (0, 0, 0) = (s, o, c) from by rw [List.getD_eq_getElem?_getD, hx]; rfl]
  simp only
  have HX := Aside0.mk hx
  have HML := Aside0.mk hml
  replace h0 := eq_true h0
  replace h1 := eq_true h1
  clear hb hn hl hnn e6 hx hml
  go_enter Try.func49, Try.ntmps49
  go_wp2
  go_loopw [28] (fun vi wr => ∃ k : Int, vi = .int .i64 k ∧ Aside0 (0 ≤ k ∧ k ≤ (n : Int)) ∧ Aside0 (Bat wr T p g m N ⟨bumpK l k.toNat, B.q⟩ f) ∧ Aside0 (Turn T W wr)) (fun vi _ => ((n : Int) - intOf vi).toNat)
  case atStart => exact ⟨0, rfl, ⟨by omega⟩, ⟨by have := HB.out; rw [← HL.out]; simpa [bumpK] using this⟩, ⟨Turn.refl _ _⟩⟩
  case round =>
    obtain ⟨k, rfl, Hk, HBk, HTk⟩ := hrel
    rename World => W3
    by_cases hlt : k < (n : Int)
    · have hltb : decide (k < (n : Int)) = true := decide_eq_true hlt
      have p0 := Hk.out.1
      have hkn : k.toNat < l.length := by have := HNN.out; omega
      obtain ⟨⟨s, o, c⟩, hx⟩ : ∃ x, l[k.toNat]? = some x := ⟨_, List.getElem?_eq_getElem hkn⟩
      obtain ⟨d0, d1, d2⟩ := HBk.out.hg.cells (bumpK_get hx)
      have e1 := HBk.out.hg.free
      obtain ⟨b0, b1⟩ := HBk.out.cells
      simp only [bumpK_length, HNN.out] at b0
      have HP := HBk.out.put3 k.toNat (bumpK_get hx) (wrap64 (c + 1))
      have hw1 : wrap64 (k + 1) = k + 1 := X.hwrId (by omega) (by have := HN.out; have := HNN.out; omega)
      have hkk : (k + 1).toNat = k.toNat + 1 := by omega
      have HW1 := Aside0.mk hw1
      have hst := bumpK_step hx
      have HSK := Aside0.mk (bumpK_skip hx)
      rw [← hkk] at hst HSK
      replace p0 := eq_true p0
      replace hlt := eq_true hlt
      clear hx hkk hw1 hkn
      simp only at d0 d1 d2 HP
      by_cases hs : s = 1
      · subst hs
        rw [show bump (1, o, c) = (1, o, wrap64 (c + 1)) from by simp [bump]] at hst
        rw [hst] at HP
        have HP := Aside0.mk HP
        clear hst
        go_wp2
        have hp := HP.out
        exact ⟨⟨wrap64 (k + 1), rfl, ⟨by rw [HW1.out]; have := Hk.out; have := of_eq_true hlt; omega⟩, ⟨by rw [HW1.out]; exact hp.1⟩, ⟨HTk.out.trans hp.2 (fun _ h => .inl h)⟩⟩, by rw [HW1.out]; simp only [intOf]; have := Hk.out; have := of_eq_true hlt; omega⟩
      · have hsb : (s == 1) = false := beq_eq_false_iff_ne.2 hs
        have hsk := HSK.out (by simp [bump, hs])
        have HSK2 := Aside0.mk hsk
        clear hst HP hsk hs
        go_wp2
        exact ⟨⟨wrap64 (k + 1), rfl, ⟨by rw [HW1.out]; have := Hk.out; have := of_eq_true hlt; omega⟩, ⟨by rw [HW1.out, HSK2.out]; exact HBk.out⟩, HTk⟩, by rw [HW1.out]; simp only [intOf]; have := Hk.out; have := of_eq_true hlt; omega⟩
    · have hltb : decide (k < (n : Int)) = false := decide_eq_false hlt
      have hk : k.toNat = l.length := by have := Hk.out; have := HNN.out; omega
      rw [hk, bumpK_all] at HBk
      have hx := HX.out
      have hml := HML.out
      obtain ⟨d0, d1, d2⟩ := HBk.out.hg.cells hx
      have e1 := HBk.out.hg.free
      obtain ⟨b0, b1⟩ := HBk.out.cells
      simp only [hml] at b0
      have HP := HBk.out.put3 h.toNat hx 0
      simp only at d0 d1 d2 HP
      have q0 : (W3.setCell ⟨g, h.toNat * 3 + 2, none⟩ (.int .i64 0)).cell? ⟨g, h.toNat * 3, none⟩ = some (.int .i64 s) := by
        have hlt := (List.getElem?_eq_some_iff.1 hx).1
        exact (HP.1.hg.cells (i := h.toNat) (x := (s, o, 0)) (List.getElem?_set_self hlt)).1
      have q1 := HP.1.cells
      simp only [List.length_set, hml] at q1
      obtain ⟨q2, q3⟩ := q1
      have HP := Aside0.mk HP
      clear hlt hk hx hml
      go_wp2
      go_quiet (fail)
      go_wp2
      go_ret2
      have hp := HP.out
      exact ⟨rfl, hp.1.drewN nq, (HTk.out.trans hp.2 (fun _ h => .inl h)).drewN nq⟩
end Go.Proofs.Ytfcjfjmjcmanaaa.B
set_option linter.unusedVariables false
namespace Go.Proofs.Ytfcjfjmjcmanaaa.B
open Go Go.RowKit Go.Proofs.YtfcjfjmjcmanaaaW.PrintWords Go.Proofs.YtfcjfjmjcmanaaaW.PrintLast Go.Proofs.YtfcjfjmjcmanaaaW.PrintMore
/-- A slice of numbers of one's own; it may be empty and not nil. -/
def SlB (W : World) (T : Nat → Prop) (v : Value) (L : List Int) : Prop :=
  (v = .slice none 0 0 ∧ L = []) ∨ ∃ j off cap cur, v = .slice (some ⟨j, off, none⟩) L.length cap ∧ T j ∧ L.length ≤ cap ∧ cap ≤ maxLen ∧ off + cap ≤ cur.size ∧ W.heap[j]? = some (.cells cur 3 (0, 0)) ∧ ∀ i x, L[i]? = some x → cur[off + i]? = some (.int .i64 x)
variable {W W' : World} {T T' : Nat → Prop} {v m : Value} {L L0 : List Int}
theorem Sl.toB (h : Sl W T v L) : SlB W T v L := by
  rcases h with h | ⟨j, off, cap, cur, e, h1, _, h2, h3, h4, h5, h6⟩
  · exact .inl h
  · exact .inr ⟨j, off, cap, cur, e, h1, h2, h3, h4, h5, h6⟩
theorem SlB.mono (h : SlB W T v L) (hT : ∀ j, v.ownBlock = some j → T j → T' j) : SlB W T' v L := by
  rcases h with h | ⟨j, off, cap, cur, rfl, h1, r⟩
  · exact .inl h
  · exact .inr ⟨j, off, cap, cur, rfl, hT j rfl h1, r⟩
theorem SlB.kept (h : SlB W T v L) (hk : ∀ j, v.ownBlock = some j → W'.heap[j]? = W.heap[j]?) : SlB W' T v L := by
  rcases h with h | ⟨j, off, cap, cur, rfl, h1, h3, h4, h5, h6, h7⟩
  · exact .inl h
  · exact .inr ⟨j, off, cap, cur, rfl, h1, h3, h4, h5, (hk j rfl).trans h6, h7⟩
theorem SlB.own (h : SlB W T v L) {j : Nat} (hj : v.ownBlock = some j) : T j ∧ j < W.heap.size := by
  rcases h with ⟨rfl, _⟩ | ⟨j', off, cap, cur, rfl, h1, h3, h4, h5, h6, h7⟩
  · simp [Value.ownBlock] at hj
  · simp [Value.ownBlock] at hj
    subst hj
    exact ⟨h1, (Array.getElem?_eq_some_iff.1 h6).1⟩
theorem SlB.C (h : SlB W T v L) : ∃ A c, v = .slice A L.length c ∧ L.length ≤ c ∧ c ≤ maxLen ∧ Kd.C (Kd.int .i64) W A L.length L := by
  rcases h with ⟨rfl, rfl⟩ | ⟨j, off, cap, cur, rfl, h1, h3, h4, h5, h6, h7⟩
  · exact ⟨none, 0, rfl, Nat.le_refl _, Nat.zero_le _, Kd.C_nil _ _⟩
  · refine ⟨some ⟨j, off, none⟩, cap, rfl, h3, h4, Kd.C_of_reads (d := (0 : Int)) (h1 := fun _ => rfl) ⟨rfl, Nat.le_trans h3 h4, fun _ => ⟨_, rfl, fun i hi => ?_⟩⟩⟩
    rw [Addr.add_lit, cell_of_row W j _ cur 3 (0, 0) h6, h7 i (L.getD i 0) (by rw [List.getD_eq_getElem?_getD, List.getElem?_eq_getElem hi]; rfl)]
theorem SlB.slice (h : SlB W T v L) : ∃ A c, v = .slice A L.length c := by obtain ⟨A, c, e, _⟩ := h.C; exact ⟨A, c, e⟩
theorem SlB.cell {A : Option Addr} {n c : Nat} (h : SlB W T (.slice A n c) L) (k : Int) (h0 : 0 ≤ k) (h1 : k < (L.length : Int)) : ∃ ad, A = some ad ∧ W.cell? (ad.add k.toNat) = some (.int .i64 (rd L k)) := by
  obtain ⟨A', c', e, _, _, hC⟩ := h.C
  have eA : A = A' := by injection e
  subst eA
  exact Kd.at_int hC k h0 h1
/-- A number is written. -/
theorem SlB.set {ad : Addr} {n c : Nat} (h : SlB W T (.slice (some ad) n c) L) (k : Nat) (hk : k < L.length) (x : Int) :
    W.frozen? (ad.add k) = false ∧ SlB (W.setCell (ad.add k) (.int .i64 x)) T (.slice (some ad) n c) (L.set k x) ∧ W.grownBy (W.setCell (ad.add k) (.int .i64 x)) (some ad.block) := by
  rcases h with ⟨e, rfl⟩ | ⟨j, off, cap, cur, e, h1, h3, h4, h5, h6, h7⟩
  · simp at hk
  · simp only [Value.slice.injEq, Option.some.injEq] at e
    obtain ⟨rfl, rfl, rfl⟩ := e
    rw [Addr.add_lit]
    refine ⟨by simp [World.frozen?, h6], .inr ⟨j, off, c, _, by simp, h1, by simpa using h3, h4, by simpa using h5, row_set h6, fun i y hi => ?_⟩, ⟨rfl, rfl, rfl, by simp, fun i hi hn => Below.heap_setCell W _ _ i (fun e => hn (by rw [e]))⟩⟩
    rw [Array.getElem?_setIfInBounds]
    by_cases e : k = i
    · subst e
      rw [List.getElem?_set_self hk] at hi
      cases hi
      rw [if_pos rfl, if_pos (by omega)]
    · rw [List.getElem?_set_ne e] at hi
      rw [if_neg (by omega)]
      exact h7 i y hi
/-- v is a beginning of m, or lies apart from it. -/
def Pre (v m : Value) : Prop := (∀ j, v.ownBlock = some j → m.ownBlock ≠ some j) ∨ ∃ a n n' c, v = .slice (some a) n c ∧ m = .slice (some a) n' c ∧ n ≤ n'
theorem Pre.refl (W : World) (h : SlB W T v L) : Pre v v := by
  rcases h with ⟨rfl, _⟩ | ⟨j, off, cap, cur, rfl, r⟩
  · exact .inl (fun j hj => by simp [Value.ownBlock] at hj)
  · exact .inr ⟨_, _, _, _, rfl, rfl, Nat.le_refl _⟩
/-- One number more; what is a beginning stays as it was. -/
theorem SlB.append (h : SlB W T m L) {a : Addr} {c : Nat} {x : Int} (hx : W.cell? a = some (.int .i64 x)) (hl : L.length + 1 ≤ 4398046511104) (ty : TypeId) (hv : SlB W T v L0) (hp : Pre v m) :
    ∃ m' W', (Builtin.append_ #[26, 26] ty #[m, .slice (some a) 1 c]).run Try.prog W = .ok m' W' ∧ SlB W' (fun j => T j ∨ W.heap.size ≤ j) m' (L ++ [x]) ∧ W.grownBy W' m.ownBlock ∧ (m'.ownBlock = m.ownBlock ∨ ∃ j, m'.ownBlock = some j ∧ W.heap.size ≤ j) ∧ SlB W' T v L0 ∧ Pre v m' := by
  obtain ⟨i0, hi0, hz0, hz1, hz2⟩ := info_parts info3'
  have hn : ∀ j u, ([Value.int .i64 x] : List Value)[j]? = some u → W.cell? (a.add j) = some u := fun j u hj => by
    match j, hj with
    | 0, hj => cases hj; rw [show a.add 0 = a by cases a; simp [Addr.add]]; exact hx
  have hml : (4398046511104 : Nat) ≤ maxLen := by unfold maxLen; omega
  -- a new row
  have new : ∀ (m' : Value) (W' : World), W'.ownsRow W.heap.size 3 1 m' (L.length + 1) (L.map (Value.int .i64) ++ [.int .i64 x]) → W.grownBy W' none →
      SlB W' (fun j => T j ∨ W.heap.size ≤ j) m' (L ++ [x]) ∧ W.grownBy W' m.ownBlock ∧ (m'.ownBlock = m.ownBlock ∨ ∃ j, m'.ownBlock = some j ∧ W.heap.size ≤ j) ∧ SlB W' T v L0 ∧ Pre v m' := fun m' W' ho hg => by
    have hge : ∀ k, m'.ownBlock = some k → W.heap.size ≤ k := fun k hk => (ho.lt k hk).1
    have hs : Sl W' (fun j => T j ∨ W.heap.size ≤ j) m' (L ++ [x]) := Sl.of_row (ho' ho) (by simp) (fun k hk => .inr (hge k hk))
    refine ⟨hs.toB, ⟨hg.os, hg.tape, hg.output, hg.size, fun k hk _ => hg.block k hk (by simp)⟩, .inr ?_, hv.kept (fun j hj => hg.block j (hv.own hj).2 (by simp)), .inl (fun j hj e => by have := (hv.own hj).2; have := hge j e; omega)⟩
    obtain ⟨_, h0 | ⟨k, _, _, rfl, hk, _⟩⟩ := ho
    · omega
    · exact ⟨k, rfl, hk⟩
  rcases h with ⟨rfl, rfl⟩ | ⟨j, off, cap, cur, rfl, h1, h3, h4, h5, h6, h7⟩
  · obtain ⟨m', W', hr, ho, hg, _, hat⟩ := run_append_own_at (P := Try.prog) W W.heap.size 26 ty 3 i0 (.int .i64 0) 1 8 Try.underlying26 hi0 hz0 hz1 hz2 rfl (by omega) (.slice none 0 0) 0 [] (World.ownsRow_nil _ _ _ _) a 1 c [.int .i64 x] rfl hn (by simp [Value.oneCell']) (by omega) (by omega) (Nat.le_refl _)
    exact ⟨m', W', hr, new m' W' (by simpa using ho) hg⟩
  · by_cases hroom : L.length + 1 ≤ cap
    · have hlt : off + L.length < cur.size := by omega
      have hr := run_append_room_cells (P := Try.prog) W 26 ty 3 i0 Try.underlying26 hi0 j off L.length cap a 1 c [.int .i64 x] (by rw [hz1]; rfl) hn (by simp [Value.oneCell']) hroom
        (fun k hk => by simp at hk; subst hk; rw [hz1, cell_of_row W j _ cur 3 (0, 0) h6]; simp; omega) (fun k hk => by simp [World.frozen?, h6])
      rw [hz1, Nat.mul_one] at hr
      have hg : W.grownBy (W.setCells j (off + L.length) [.int .i64 x]) (some j) := ⟨rfl, rfl, rfl, by simp [World.setCells], fun k hk hn => Below.heap_setCell W _ _ k (fun e => hn (by rw [e]))⟩
      refine ⟨_, _, hr, .inr ⟨j, off, cap, cur.setIfInBounds (off + L.length) (.int .i64 x), by simp, .inl h1, by simpa using hroom, h4, by simpa using h5, row_set h6, fun k y hk => ?_⟩, hg, .inl rfl, ?_, ?_⟩
      · rw [Array.getElem?_setIfInBounds]
        by_cases e : L.length = k
        · subst e
          rw [List.getElem?_append_right (Nat.le_refl _)] at hk
          simp at hk
          rw [if_pos rfl, if_pos hlt, hk]
        · rw [if_neg (by omega)]
          have hkl : k < L.length := by
            have := (List.getElem?_eq_some_iff.1 hk).1
            simp at this; omega
          rw [List.getElem?_append_left hkl] at hk
          exact h7 k y hk
      · rcases hp with hp | ⟨a', n, n', c', e1, e2, hle⟩
        · exact hv.kept (fun k hk => hg.block k (hv.own hk).2 (fun e => by cases e; exact hp j hk rfl))
        · simp only [Value.slice.injEq, Option.some.injEq] at e2
          obtain ⟨rfl, rfl, rfl⟩ := e2
          rcases hv with ⟨rfl, rfl⟩ | ⟨j', off', cap', cur', e3, g1, g3, g4, g5, g6, g7⟩
          · exact .inl ⟨rfl, rfl⟩
          · rw [e1] at e3
            simp only [Value.slice.injEq, Option.some.injEq, Addr.mk.injEq] at e3
            obtain ⟨⟨rfl, rfl, _⟩, rfl, rfl⟩ := e3
            rw [h6] at g6
            cases g6
            refine .inr ⟨j, off, cap, _, e1, g1, g3, g4, by simpa using g5, row_set h6, fun k y hk => ?_⟩
            have := (List.getElem?_eq_some_iff.1 hk).1
            rw [Array.getElem?_setIfInBounds, if_neg (by omega)]
            exact g7 k y hk
      · rcases hp with hp | ⟨a', n, n', c', e1, e2, hle⟩
        · exact .inl hp
        · simp only [Value.slice.injEq, Option.some.injEq] at e2
          obtain ⟨rfl, rfl, rfl⟩ := e2
          exact .inr ⟨_, n, _, _, e1, rfl, by omega⟩
    · have holds : ∀ k u, (L.map (Value.int .i64))[k]? = some u → W.cell? ((⟨j, off, none⟩ : Addr).add k) = some u := fun k u hk => by
        rw [List.getElem?_map] at hk
        obtain ⟨y, hy, rfl⟩ := Option.map_eq_some_iff.1 hk
        rw [Addr.add_lit, cell_of_row W j _ cur 3 (0, 0) h6]
        exact h7 k y hy
      obtain ⟨m', W', hr, ho, hg⟩ := run_append_arg_grows (P := Try.prog) W 26 ty 3 i0 (.int .i64 0) 1 8 Try.underlying26 hi0 hz0 hz1 hz2 rfl (by omega) ⟨j, off, none⟩ L.length cap (L.map (Value.int .i64)) (by simp) holds a 1 c [.int .i64 x] rfl hn (by omega) (by omega) (by omega)
      exact ⟨m', W', hr, new m' W' ho hg⟩
/-! ### rows of slices -/
def RowV (W : World) (T : Nat → Prop) (v : Value) (vs : List Value) : Prop := W.ownsRow 0 26 1 v vs.length vs ∧ ∀ j, v.ownBlock = some j → T j
theorem RowV.nil (W : World) (T : Nat → Prop) : RowV W T nilv [] := ⟨World.ownsRow_nil _ _ _ _, fun j hj => by simp [nilv, Value.ownBlock] at hj⟩
theorem RowV.kept {vs : List Value} (h : RowV W T v vs) (hk : ∀ j, v.ownBlock = some j → W'.heap[j]? = W.heap[j]?) : RowV W' T v vs := by
  obtain ⟨⟨h1, h2⟩, h3⟩ := h
  refine ⟨⟨h1, ?_⟩, h3⟩
  rcases h2 with h2 | ⟨g, cap, cur, rfl, hb, hg, r⟩
  · exact .inl h2
  · exact .inr ⟨g, cap, cur, rfl, hb, (hk g rfl).trans hg, r⟩
theorem RowV.mono {vs : List Value} (h : RowV W T v vs) (hT : ∀ j, v.ownBlock = some j → T j → T' j) : RowV W T' v vs := ⟨h.1, fun j hj => hT j hj (h.2 j hj)⟩
theorem RowV.lt {vs : List Value} (h : RowV W T v vs) {j : Nat} (hj : v.ownBlock = some j) : T j ∧ j < W.heap.size := ⟨h.2 j hj, (h.1.lt j hj).2⟩
theorem RowV.slice {vs : List Value} (h : RowV W T v vs) : ∃ A c, v = .slice A vs.length c ∧ (0 < vs.length → ∃ j, A = some ⟨j, 0, none⟩) ∧ vs.length ≤ maxLen := by
  rcases h.1.2 with ⟨rfl, h0⟩ | ⟨g, cap, cur, rfl, _, _, h3, h4, _⟩
  · exact ⟨none, 0, by rw [h0], fun h => by omega, by omega⟩
  · exact ⟨_, cap, rfl, fun _ => ⟨g, rfl⟩, by omega⟩
theorem RowV.cell {vs : List Value} {A : Option Addr} {n c : Nat} (h : RowV W T (.slice A n c) vs) (i : Nat) {u : Value} (hu : vs[i]? = some u) : ∃ j, A = some ⟨j, 0, none⟩ ∧ W.cell? ⟨j, i, none⟩ = some u := by
  have hi := (List.getElem?_eq_some_iff.1 hu).1
  obtain ⟨A', c', e, hA, _⟩ := h.slice
  obtain ⟨j, e2⟩ := hA (by omega)
  have eA : A = A' := by injection e
  subst eA e2
  refine ⟨j, rfl, ?_⟩
  have := h.1.cells (g := j) (by simp [Value.ownBlock]) i u hu
  rwa [add_plain] at this
theorem info26' : (Try.prog.info? 26).map (fun i => (i.zero, i.size, i.bytes)) = some (some (.slice none 0 0), 1, 24) := by kernel_rfl
theorem RowV.append {vs : List Value} (h : RowV W T v vs) {a : Addr} {c : Nat} {u : Value} (hx : W.cell? a = some u) (h1 : u.oneCell' = true) (hl : vs.length + 1 ≤ 4398046511104) (ty : TypeId) :
    ∃ v' W', (Builtin.append_ #[37, 37] ty #[v, .slice (some a) 1 c]).run Try.prog W = .ok v' W' ∧ RowV W' (fun j => T j ∨ W.heap.size ≤ j) v' (vs ++ [u]) ∧ W.grownBy W' v.ownBlock ∧ (v'.ownBlock = v.ownBlock ∨ v'.ownBlock = some W.heap.size) := by
  obtain ⟨i0, hi0, hz0, hz1, hz2⟩ := info_parts info26'
  have hn : ∀ j z, ([u] : List Value)[j]? = some z → W.cell? (a.add j) = some z := fun j z hj => by
    match j, hj with
    | 0, hj => cases hj; rw [show a.add 0 = a by cases a; simp [Addr.add]]; exact hx
  have hml : (4398046511104 : Nat) ≤ maxLen := by unfold maxLen; omega
  obtain ⟨v', W', hr, ho, hg, _, hat⟩ := run_append_own_at (P := Try.prog) W 0 37 ty 26 i0 (.slice none 0 0) 1 24 Try.underlying37 hi0 hz0 hz1 hz2 rfl (by omega) v vs.length vs h.1 a 1 c [u] rfl hn (by simpa using h1) (by omega) (by omega) (Nat.zero_le _)
  refine ⟨v', W', hr, ⟨by simpa using ho, fun j hj => ?_⟩, hg, hat⟩
  rcases hat with e | e
  · rw [e] at hj; exact .inl (h.2 j hj)
  · rw [e] at hj; cases hj; exact .inr (Nat.le_refl _)
end Go.Proofs.Ytfcjfjmjcmanaaa.B
set_option linter.unusedVariables false
namespace Go.Proofs.Ytfcjfjmjcmanaaa.B
open Go Go.RowKit Go.Proofs.YtfcjfjmjcmanaaaW.PrintWords Go.Proofs.YtfcjfjmjcmanaaaW.PrintLast Go.Proofs.YtfcjfjmjcmanaaaW.PrintMore
structure Lists (W : World) (T : Nat → Prop) (v4 : Value) (vs : List Value) (Ls : List (List Int)) : Prop where
  row : RowV W T v4 vs
  len : Ls.length = vs.length
  ls : ∀ (i : Nat) v L, vs[i]? = some v → Ls[i]? = some L → SlB W T v L
  sep : ∀ (i k : Nat) u v j, i ≠ k → vs[i]? = some u → vs[k]? = some v → u.ownBlock = some j → v.ownBlock ≠ some j
  rs : ∀ (i : Nat) u j, vs[i]? = some u → u.ownBlock = some j → v4.ownBlock ≠ some j
  sm : ∀ (i : Nat) L, Ls[i]? = some L → L.length + 10 ≤ 4398046511104
  ns : vs.length + 10 ≤ 4398046511104
variable {W W' : World} {T T' : Nat → Prop} {v4 vm m : Value} {vs ms : List Value} {Ls : List (List Int)} {L Lm : List Int}
theorem Lists.at (h : Lists W T v4 vs Ls) {i : Nat} (hi : i < vs.length) : ∃ v L, vs[i]? = some v ∧ Ls[i]? = some L ∧ SlB W T v L :=
  ⟨vs[i], Ls[i]'(by rw [h.len]; exact hi), List.getElem?_eq_getElem hi, List.getElem?_eq_getElem _, h.ls i _ _ (List.getElem?_eq_getElem hi) (List.getElem?_eq_getElem _)⟩
theorem Lists.kept (h : Lists W T v4 vs Ls) (hk : ∀ i, T i → i < W.heap.size → W'.heap[i]? = W.heap[i]?) : Lists W' T v4 vs Ls :=
  ⟨h.row.kept (fun j hj => hk j (h.row.lt hj).1 (h.row.lt hj).2), h.len, fun i v L a b => (h.ls i v L a b).kept (fun j hj => hk j ((h.ls i v L a b).own hj).1 ((h.ls i v L a b).own hj).2), h.sep, h.rs, h.sm, h.ns⟩
theorem Lists.mono (h : Lists W T v4 vs Ls) (hT : ∀ i, T i → T' i) : Lists W T' v4 vs Ls := ⟨h.row.mono (fun j _ => hT j), h.len, fun i v L a b => (h.ls i v L a b).mono (fun j _ => hT j), h.sep, h.rs, h.sm, h.ns⟩
/-- A number is written. -/
theorem Lists.set (h : Lists W T v4 vs Ls) {i : Nat} {ad : Addr} {n c : Nat} (hv : vs[i]? = some (.slice (some ad) n c)) (hL : Ls[i]? = some L) (k : Nat) (hk : k < L.length) (x : Int) :
    W.frozen? (ad.add k) = false ∧ Lists (W.setCell (ad.add k) (.int .i64 x)) T v4 vs (Ls.set i (L.set k x)) ∧ Turn T W (W.setCell (ad.add k) (.int .i64 x)) := by
  have hs := h.ls i _ L hv hL
  obtain ⟨hf, hs', hg⟩ := hs.set k hk x
  have hown : (Value.slice (some ad) n c).ownBlock = some ad.block := rfl
  have keep : ∀ j, j < W.heap.size → j ≠ ad.block → (W.setCell (ad.add k) (.int .i64 x)).heap[j]? = W.heap[j]? := fun j hj hn => hg.block j hj (fun e => hn (by cases e; rfl))
  have hil : i < Ls.length := (List.getElem?_eq_some_iff.1 hL).1
  refine ⟨hf, ⟨h.row.kept (fun j hj => keep j (h.row.lt hj).2 (fun e => h.rs i _ ad.block hv hown (by rw [← e]; exact hj))), by simp [h.len], fun a v L' ha hb => ?_, h.sep, h.rs, fun a L' hb => ?_, h.ns⟩, Turn.of_grown hg (fun j hj => by cases hj; exact (hs.own hown).1)⟩
  · by_cases ea : i = a
    · subst ea
      rw [List.getElem?_set_self hil] at hb
      cases hb
      rw [hv] at ha
      cases ha
      exact hs'
    · rw [List.getElem?_set_ne ea] at hb
      have h1 := h.ls a v L' ha hb
      exact h1.kept (fun j hj => keep j (h1.own hj).2 (fun e => h.sep i a _ v ad.block ea hv ha hown (by rw [← e]; exact hj)))
  · by_cases ea : i = a
    · subst ea
      rw [List.getElem?_set_self hil] at hb
      cases hb
      have := h.sm i L hL
      simpa using this
    · rw [List.getElem?_set_ne ea] at hb
      exact h.sm a L' hb
/-- The lists behind the marks, and some of them grown. -/
structure Grown (W : World) (T : Nat → Prop) (v4 : Value) (vs : List Value) (Ls : List (List Int)) (vm : Value) (ms : List Value) : Prop where
  l : Lists W T v4 vs Ls
  row : RowV W T vm ms
  ml : ms.length ≤ vs.length
  mv : ∀ (k : Nat) m L, ms[k]? = some m → Ls[k]? = some L → SlB W T m (List.replicate (L.length + 9) (k : Int))
  s1 : ∀ (k k2 : Nat) m u j, k ≠ k2 → ms[k]? = some m → vs[k2]? = some u → m.ownBlock = some j → u.ownBlock ≠ some j
  s2 : ∀ (k k2 : Nat) m m2 j, k ≠ k2 → ms[k]? = some m → ms[k2]? = some m2 → m.ownBlock = some j → m2.ownBlock ≠ some j
  s3 : ∀ (k : Nat) m j, ms[k]? = some m → m.ownBlock = some j → v4.ownBlock ≠ some j ∧ vm.ownBlock ≠ some j
  s4 : ∀ (k : Nat) u j, vs[k]? = some u → u.ownBlock = some j → vm.ownBlock ≠ some j
  s5 : ∀ j, v4.ownBlock = some j → vm.ownBlock ≠ some j
/-- m lies apart from all but the list i. -/
def Lone (v4 vm : Value) (vs ms : List Value) (i : Nat) (m : Value) : Prop :=
  ∀ j, m.ownBlock = some j → v4.ownBlock ≠ some j ∧ vm.ownBlock ≠ some j ∧ (∀ (k : Nat) u, k ≠ i → vs[k]? = some u → u.ownBlock ≠ some j) ∧ ∀ (k : Nat) m', k ≠ i → ms[k]? = some m' → m'.ownBlock ≠ some j
theorem Grown.start (h : Lists W T v4 vs Ls) : Grown W T v4 vs Ls nilv [] :=
  ⟨h, RowV.nil _ _, Nat.zero_le _, by simp, by simp, by simp, by simp, fun k u j _ _ e => by simp [nilv, Value.ownBlock] at e, fun j _ e => by simp [nilv, Value.ownBlock] at e⟩
theorem Grown.kept (h : Grown W T v4 vs Ls vm ms) (hk : ∀ i, T i → i < W.heap.size → W'.heap[i]? = W.heap[i]?) : Grown W' T v4 vs Ls vm ms :=
  ⟨h.l.kept hk, h.row.kept (fun j hj => hk j (h.row.lt hj).1 (h.row.lt hj).2), h.ml, fun k m L a b => (h.mv k m L a b).kept (fun j hj => hk j ((h.mv k m L a b).own hj).1 ((h.mv k m L a b).own hj).2), h.s1, h.s2, h.s3, h.s4, h.s5⟩
theorem Grown.below (h : Grown W T v4 vs Ls vm ms) (hb : Below W.heap.size W W') : Grown W' T v4 vs Ls vm ms := h.kept (fun i _ hi => hb.block i hi)
/-- A list's beginning. -/
theorem Grown.lone (h : Grown W T v4 vs Ls vm ms) {i : Nat} {v : Value} (hv : vs[i]? = some v) : Lone v4 vm vs ms i v := fun j hj =>
  ⟨h.l.rs i v j hv hj, h.s4 i v j hv hj, fun k u hk hu => h.l.sep i k v u j (Ne.symm hk) hv hu hj, fun k m' hk hm e => h.s1 k i m' v j hk hm hv e hj⟩
/-- One number more behind the list i. -/
theorem Grown.app (h : Grown W T v4 vs Ls vm ms) (hT : ∀ j, W.heap.size ≤ j → T j) {i : Nat} (hi : ms.length = i) {v : Value} (hv : vs[i]? = some v) (hL : Ls[i]? = some L) (hm : SlB W T m Lm) (hlm : Lm.length + 1 ≤ 4398046511104) (hlo : Lone v4 vm vs ms i m) (hp : Pre v m) {a : Addr} {c : Nat} {x : Int} (hx : W.cell? a = some (.int .i64 x)) (ty : TypeId) :
    ∃ m' W', (Builtin.append_ #[26, 26] ty #[m, .slice (some a) 1 c]).run Try.prog W = .ok m' W' ∧ Grown W' T v4 vs Ls vm ms ∧ SlB W' T m' (Lm ++ [x]) ∧ Lone v4 vm vs ms i m' ∧ Pre v m' ∧ Turn T W W' := by
  obtain ⟨m', W', hr, h1, hg, hat, hv', hp'⟩ := hm.append (c := c) hx hlm ty (h.l.ls i v L hv hL) hp
  have keep : ∀ j, j < W.heap.size → m.ownBlock ≠ some j → W'.heap[j]? = W.heap[j]? := fun j hj hn => hg.block j hj (fun e => hn e.symm)
  have k4 : ∀ j, v4.ownBlock = some j → W'.heap[j]? = W.heap[j]? := fun j hj => keep j (h.l.row.lt hj).2 (fun e => (hlo j e).1 hj)
  have km : ∀ j, vm.ownBlock = some j → W'.heap[j]? = W.heap[j]? := fun j hj => keep j (h.row.lt hj).2 (fun e => (hlo j e).2.1 hj)
  refine ⟨m', W', hr, ⟨⟨h.l.row.kept k4, h.l.len, fun k u L' hu hL' => ?_, h.l.sep, h.l.rs, h.l.sm, h.l.ns⟩, h.row.kept km, h.ml, fun k m2 L' h2 hL' => ?_, h.s1, h.s2, h.s3, h.s4, h.s5⟩, h1.mono (fun j _ hj => hj.elim id (hT j)), ?_, hp', Turn.of_grown hg (fun j hj => (hm.own hj).1)⟩
  · by_cases ek : k = i
    · subst ek
      rw [hv] at hu
      cases hu
      rw [hL] at hL'
      cases hL'
      exact hv'
    · have h3 := h.l.ls k u L' hu hL'
      exact h3.kept (fun j hj => keep j (h3.own hj).2 (fun e => (hlo j e).2.2.1 k u ek hu hj))
  · have h3 := h.mv k m2 L' h2 hL'
    have ek : k ≠ i := fun e => by have := (List.getElem?_eq_some_iff.1 h2).1; omega
    exact h3.kept (fun j hj => keep j (h3.own hj).2 (fun e => (hlo j e).2.2.2 k m2 ek h2 hj))
  · intro j hj
    rcases hat with e | ⟨j2, e, hle⟩
    · rw [e] at hj; exact hlo j hj
    · rw [e] at hj
      cases hj
      refine ⟨fun z => by have := (h.l.row.lt z).2; omega, fun z => by have := (h.row.lt z).2; omega, fun k u hk hu z => ?_, fun k m2 hk h2 z => ?_⟩
      · obtain ⟨u', L', a1, a2, a3⟩ := h.l.at (List.getElem?_eq_some_iff.1 hu).1
        rw [hu] at a1
        cases a1
        have := (a3.own z).2; omega
      · have hkl : k < Ls.length := by rw [h.l.len]; exact Nat.lt_of_lt_of_le (List.getElem?_eq_some_iff.1 h2).1 h.ml
        have := ((h.mv k m2 _ h2 (List.getElem?_eq_getElem hkl)).own z).2; omega
/-- The grown list is kept. -/
theorem Grown.push (h : Grown W T v4 vs Ls vm ms) (hT : ∀ j, W.heap.size ≤ j → T j) {i : Nat} (hi : ms.length = i) {v : Value} (hv : vs[i]? = some v) (hL : Ls[i]? = some L) (hm : SlB W T m (List.replicate (L.length + 9) (i : Int))) (hlo : Lone v4 vm vs ms i m) {a : Addr} {c : Nat} (hx : W.cell? a = some m) (ty : TypeId) :
    ∃ vm' W', (Builtin.append_ #[37, 37] ty #[vm, .slice (some a) 1 c]).run Try.prog W = .ok vm' W' ∧ Grown W' T v4 vs Ls vm' (ms ++ [m]) ∧ Turn T W W' := by
  have h1c : m.oneCell' = true := by obtain ⟨A, c', e⟩ := hm.slice; rw [e]; rfl
  have hil : i < vs.length := (List.getElem?_eq_some_iff.1 hv).1
  obtain ⟨vm', W', hr, h1, hg, hat⟩ := h.row.append (c := c) hx h1c (by have := h.l.ns; omega) ty
  have keep : ∀ j, j < W.heap.size → vm.ownBlock ≠ some j → W'.heap[j]? = W.heap[j]? := fun j hj hn => hg.block j hj (fun e => hn e.symm)
  have new : ∀ j, vm'.ownBlock = some j → vm.ownBlock = some j ∨ j = W.heap.size := fun j hj => by
    rcases hat with e | e
    · exact .inl (by rw [← e]; exact hj)
    · rw [e] at hj; cases hj; exact .inr rfl
  have cases_ms : ∀ {k : Nat} {m2 : Value}, (ms ++ [m])[k]? = some m2 → (ms[k]? = some m2 ∧ k < i) ∨ (k = i ∧ m2 = m) := fun {k m2} hk => by
    by_cases hlt : k < ms.length
    · rw [List.getElem?_append_left hlt] at hk
      exact .inl ⟨hk, by omega⟩
    · rw [List.getElem?_append_right (by omega)] at hk
      have h0 : k - ms.length = 0 := by
        have := (List.getElem?_eq_some_iff.1 hk).1
        simp at this; omega
      rw [h0] at hk
      simp at hk
      exact .inr ⟨by omega, hk.symm⟩
  have lt_v : ∀ {k : Nat} {u : Value} {j : Nat}, vs[k]? = some u → u.ownBlock = some j → j < W.heap.size := fun {k u j} hu hj => by
    obtain ⟨u', L', a1, a2, a3⟩ := h.l.at (List.getElem?_eq_some_iff.1 hu).1
    rw [hu] at a1
    cases a1
    exact (a3.own hj).2
  have lt_m : ∀ {k : Nat} {m2 : Value} {j : Nat}, ms[k]? = some m2 → m2.ownBlock = some j → j < W.heap.size := fun {k m2 j} h2 hj => by
    have hkl : k < Ls.length := by rw [h.l.len]; exact Nat.lt_of_lt_of_le (List.getElem?_eq_some_iff.1 h2).1 h.ml
    exact ((h.mv k m2 _ h2 (List.getElem?_eq_getElem hkl)).own hj).2
  refine ⟨vm', W', hr, ⟨⟨h.l.row.kept (fun j hj => keep j (h.l.row.lt hj).2 (fun e => h.s5 j hj e)), h.l.len, fun k u L' hu hL' => ?_, h.l.sep, h.l.rs, h.l.sm, h.l.ns⟩, h1.mono (fun j _ hj => hj.elim id (hT j)), by simp; omega, fun k m2 L' h2 hL' => ?_, fun k k2 m2 u j hk h2 hu hj => ?_, fun k k2 a b j hk ha hb hj => ?_, fun k m2 j h2 hj => ?_, fun k u j hu hj e => ?_, fun j hj e => ?_⟩, Turn.of_grown hg (fun j hj => (h.row.lt hj).1)⟩
  · have h3 := h.l.ls k u L' hu hL'
    exact h3.kept (fun j hj => keep j (h3.own hj).2 (h.s4 k u j hu hj))
  · rcases cases_ms h2 with ⟨h2, hk⟩ | ⟨rfl, rfl⟩
    · have h3 := h.mv k m2 L' h2 hL'
      exact h3.kept (fun j hj => keep j (h3.own hj).2 (h.s3 k m2 j h2 hj).2)
    · rw [hL] at hL'
      cases hL'
      exact hm.kept (fun j hj => keep j (hm.own hj).2 (hlo j hj).2.1)
  · rcases cases_ms h2 with ⟨h2, _⟩ | ⟨rfl, rfl⟩
    · exact h.s1 k k2 m2 u j hk h2 hu hj
    · exact (hlo j hj).2.2.1 k2 u (Ne.symm hk) hu
  · rcases cases_ms ha with ⟨ha1, _⟩ | ⟨rfl, rfl⟩
    · rcases cases_ms hb with ⟨hb1, _⟩ | ⟨rfl, rfl⟩
      · exact h.s2 k k2 a b j hk ha1 hb1 hj
      · exact fun e => (hlo j e).2.2.2 k a hk ha1 hj
    · rcases cases_ms hb with ⟨hb, _⟩ | ⟨rfl, rfl⟩
      · exact (hlo j hj).2.2.2 k2 b (Ne.symm hk) hb
      · exact absurd rfl hk
  · rcases cases_ms h2 with ⟨h2, _⟩ | ⟨rfl, rfl⟩
    · refine ⟨(h.s3 k m2 j h2 hj).1, fun e => ?_⟩
      rcases new j e with e | e
      · exact (h.s3 k m2 j h2 hj).2 e
      · have := lt_m h2 hj; omega
    · refine ⟨(hlo j hj).1, fun e => ?_⟩
      rcases new j e with e | e
      · exact (hlo j hj).2.1 e
      · have := (hm.own hj).2; omega
  · rcases new j e with e | e
    · exact h.s4 k u j hu hj e
    · have := lt_v hu hj; omega
  · rcases new j e with e | e
    · exact h.s5 j hj e
    · have := (h.l.row.lt hj).2; omega
end Go.Proofs.Ytfcjfjmjcmanaaa.B
set_option linter.unusedVariables false
namespace Go.Proofs.Ytfcjfjmjcmanaaa.B
open Go Go.RowKit Go.Proofs.YtfcjfjmjcmanaaaW.PrintWords Go.Proofs.YtfcjfjmjcmanaaaW.PrintLast Go.Proofs.YtfcjfjmjcmanaaaW.PrintMore
variable {W : World} {T : Nat → Prop} {v4 vm m : Value} {vs ms : List Value} {Ls : List (List Int)} {L Lm : List Int} {ops : Array Oper} {rest : List Oper} {o : Oper} {a : Act} {Q : Exit → Act → World → Prop}
theorem wpList_app (hgd : o.guard = none) (s x : Operand) (ho : o.op = .call { callee := .builtin .append, args := #[s, x], argTypes := #[26, 26] }) (h : Grown W T v4 vs Ls vm ms) (hT : ∀ j, W.heap.size ≤ j → T j) {i : Nat} (hi : ms.length = i) {v : Value} (hv : vs[i]? = some v) (hL : Ls[i]? = some L) (hm : SlB W T m Lm) (hlm : Lm.length + 1 ≤ 4398046511104) (hlo : Lone v4 vm vs ms i m) (hp : Pre v m) (y : Int)
    (hs : a.eval s = m) (hx : a.eval x = .slice (some ⟨W.heap.size, 0, none⟩) 1 1)
    (hK : ∀ m' W', Grown W' T v4 vs Ls vm ms → SlB W' T m' (Lm ++ [y]) → Lone v4 vm vs ms i m' → Pre v m' → Turn T W W' → wpList Try.prog ops Q rest (a.put o.dst m') W') : wpList Try.prog ops Q (o :: rest) a (W.alloc (.cells #[.int .i64 y] 3)) := by
  have hb : Below W.heap.size W (W.alloc (.cells #[.int .i64 y] 3)) := by repeat (first | exact Below.refl _ _ | apply below_alloc)
  refine wpList_plain hgd fun K hK' => ?_
  obtain ⟨m', W', hr, h1, h2, h3, h4, h5⟩ := (h.below hb).app (c := 1) (x := y) (a := ⟨W.heap.size, 0, none⟩) (fun j hj => hT j (Nat.le_trans hb.size hj)) hi hv hL (hm.kept (fun j hj => hb.block j (hm.own hj).2)) hlm hlo hp (by simp) o.type
  unfold Oper.wp execOp
  simp only [ho, resolve, invoke, builtin, Sem.run_bind, Sem.run_pure, Result.andThen_ok, List.map_toArray, List.map_cons, List.map_nil, hs, hx, hr]
  exact hK' _ _ (hK m' W' h1 h2 h3 h4 ((Turn.of_below hb).trans h5 (fun _ h => .inl h)))
theorem wpList_push (hgd : o.guard = none) (s x : Operand) (ho : o.op = .call { callee := .builtin .append, args := #[s, x], argTypes := #[37, 37] }) (h : Grown W T v4 vs Ls vm ms) (hT : ∀ j, W.heap.size ≤ j → T j) {i : Nat} (hi : ms.length = i) {v : Value} (hv : vs[i]? = some v) (hL : Ls[i]? = some L) (hm : SlB W T m (List.replicate (L.length + 9) (i : Int))) (hlo : Lone v4 vm vs ms i m)
    (hs : a.eval s = vm) (hx : a.eval x = .slice (some ⟨W.heap.size, 0, none⟩) 1 1)
    (hK : ∀ vm' W', Grown W' T v4 vs Ls vm' (ms ++ [m]) → Turn T W W' → wpList Try.prog ops Q rest (a.put o.dst vm') W') : wpList Try.prog ops Q (o :: rest) a (W.alloc (.cells #[m] 26)) := by
  have hb : Below W.heap.size W (W.alloc (.cells #[m] 26)) := by repeat (first | exact Below.refl _ _ | apply below_alloc)
  refine wpList_plain hgd fun K hK' => ?_
  obtain ⟨vm', W', hr, h1, h5⟩ := (h.below hb).push (c := 1) (a := ⟨W.heap.size, 0, none⟩) (fun j hj => hT j (Nat.le_trans hb.size hj)) hi hv hL (hm.kept (fun j hj => hb.block j (hm.own hj).2)) hlo (by simp) o.type
  unfold Oper.wp execOp
  simp only [ho, resolve, invoke, builtin, Sem.run_bind, Sem.run_pure, Result.andThen_ok, List.map_toArray, List.map_cons, List.map_nil, hs, hx, hr]
  exact hK' _ _ (hK vm' W' h1 ((Turn.of_below hb).trans h5 (fun _ h => .inl h)))
theorem Turn.less {A B : World} (h : Turn (fun j => T j ∨ A.heap.size ≤ j) A B) : Turn T A B := ⟨h.os, h.tape, h.output, h.size, fun k hk hn => h.block k hk (fun z => z.elim hn (fun y => by omega))⟩
def Marks (i : Nat) (Ls : List (List Int)) : Prop := ∀ (k : Nat) L, k < i → Ls[k]? = some L → ∀ y ∈ L, y = (k : Int)
theorem rd_nat (L : List Int) (k : Nat) (hk : k < L.length) : rd L (k : Int) = L[k] := by unfold rd; rw [Int.toNat_natCast, List.getD_eq_getElem?_getD, List.getElem?_eq_getElem hk]; rfl
theorem w1 (k : Nat) (h : k ≤ 4398046511104) : wrap64 ((k : Int) + 1) = ((k + 1 : Nat) : Int) := by rw [X.hwrId (by omega) (by omega)]; omega
theorem msr (n k : Nat) (h : k < n) : ((n : Int) - intOf (Value.int .i64 ((k + 1 : Nat) : Int))).toNat < ((n : Int) - intOf (Value.int .i64 (k : Int))).toNat := by simp only [intOf]; omega
set_option maxRecDepth 100000
set_option maxHeartbeats 8000000
theorem apartInts_calls (A : Option Addr) (c n : Nat) (hn : vs.length = n) (hl : Lists W T (.slice A n c) vs Ls) : Calls Try.prog 75 #[.slice A n c] W fun e W' => e = .returned (.bool true) ∧ Turn T W W' := by
  have HL0 := Aside0.mk hl
  have HN := Aside0.mk hn
  have HNS : Aside0 (n + 10 ≤ 4398046511104) := ⟨by have := hl.ns; omega⟩
  clear hl hn
  go_enter Try.func75, Try.ntmps75
  go_wp2
  go_loopw [3] (fun vi wr => ∃ (i : Nat) (Ls' : List (List Int)), vi = .int .i64 i ∧ Aside0 (i ≤ n) ∧ Aside0 (Lists wr T (.slice A n c) vs Ls') ∧ Aside0 (Marks i Ls') ∧ Aside0 (Turn T W wr)) (fun vi _ => ((n : Int) - intOf vi).toNat)
  case atStart => exact ⟨0, Ls, rfl, ⟨Nat.zero_le _⟩, HL0, ⟨fun k L hk => by omega⟩, ⟨Turn.refl _ _⟩⟩
  case round =>
    clear HL0
    obtain ⟨i, Ls, rfl, Hi, HL, HM, HT⟩ := hrel
    rename World => W1
    by_cases hlt : i < n
    · have hltb : decide (i < n) = true := decide_eq_true hlt
      obtain ⟨v, L, hv, hL, hs⟩ := HL.out.at (i := i) (by rw [HN.out]; exact hlt)
      obtain ⟨Ai, ci, rfl⟩ := hs.slice
      obtain ⟨ni, hni⟩ : ∃ ni, L.length = ni := ⟨_, rfl⟩
      rw [hni] at hv
      have hsm := HL.out.sm i L hL
      obtain ⟨j, rfl, _⟩ := HL.out.row.cell i hv
      have HV := Aside0.mk hv
      have HI := Aside0.mk hlt
      have HNI : Aside0 (ni + 10 ≤ 4398046511104) := ⟨by rw [← hni]; exact hsm⟩
      have hwi := Aside0.mk (w1 i (by have := HNS.out; omega))
      have st : Aside0 (∃ L', Ls[i]? = some L' ∧ L'.length = ni) := ⟨L, hL, hni⟩
      replace hlt := eq_true hlt
      clear hs hL hsm hv hni Hi
      go_wp2
      go_loopw [4] (fun vj wr => ∃ (k : Nat) (Ls' : List (List Int)), vj = .int .i64 k ∧ Aside0 (k ≤ ni) ∧ Aside0 (Lists wr T (.slice (some ⟨j, 0, none⟩) n c) vs Ls') ∧ Aside0 (Marks i Ls') ∧ Aside0 (∃ L', Ls'[i]? = some L' ∧ L'.length = ni ∧ ∀ y ∈ L'.take k, y = (i : Int)) ∧ Aside0 (Turn T W wr)) (fun vj _ => ((ni : Int) - intOf vj).toNat)
      case atStart => exact ⟨0, Ls, rfl, ⟨Nat.zero_le _⟩, HL, HM, ⟨by obtain ⟨L', a, b⟩ := st.out; exact ⟨L', a, b, by simp⟩⟩, HT⟩
      case round =>
        clear HL HM HT st
        obtain ⟨k, Ls, rfl, Hk, HL, HM, HK, HT⟩ := hrel
        rename World => W2
        obtain ⟨L', hL', hl', hm'⟩ := HK.out
        have hc := (HL.out.row.cell i HV.out)
        obtain ⟨j', ej, hc⟩ := hc
        cases ej
        by_cases hlk : k < ni
        · have hlkb : decide (k < ni) = true := decide_eq_true hlk
          have hs := HL.out.ls i _ L' HV.out hL'
          obtain ⟨ad, rfl, hx⟩ := hs.cell (k : Int) (by omega) (by omega)
          rw [Int.toNat_natCast] at hx
          obtain ⟨f1, f2, f3⟩ := HL.out.set HV.out hL' k (by omega) (i : Int)
          have F2 := Aside0.mk f2
          have F3 := Aside0.mk f3
          have hwk := Aside0.mk (w1 k (by have := HNI.out; omega))
          have NEW : Aside0 (∃ L2, (Ls.set i (L'.set k (i : Int)))[i]? = some L2 ∧ L2.length = ni ∧ ∀ y ∈ L2.take (k + 1), y = (i : Int)) := ⟨L'.set k (i : Int), by rw [List.getElem?_set_self (List.getElem?_eq_some_iff.1 hL').1], by simpa using hl', fun y hy => by
            rw [List.take_add_one, List.getElem?_set_self (by omega), List.take_set_of_le (Nat.le_refl k)] at hy
            rcases List.mem_append.1 hy with h | h
            · exact hm' y h
            · simpa using h⟩
          have NM : Aside0 (Marks i (Ls.set i (L'.set k (i : Int)))) := ⟨fun q L2 hq h2 => by rw [List.getElem?_set_ne (by omega)] at h2; exact HM.out q L2 hq h2⟩
          have HLK := Aside0.mk hlk
          replace hlk := eq_true hlk
          clear hs hL' hl' hm' f2 f3 HL HM HK
          go_wp2
          exact ⟨⟨k + 1, _, by rw [hwk.out], ⟨by have := HLK.out; omega⟩, F2, NM, NEW, ⟨HT.out.trans F3.out (fun _ h => .inl h)⟩⟩, by rw [hwk.out]; exact msr ni k HLK.out⟩
        · have hlkb : decide (k < ni) = false := decide_eq_false hlk
          have NM : Aside0 (Marks (i + 1) Ls) := ⟨fun q L2 hq h2 y hy => by
            by_cases e : q = i
            · subst e
              rw [hL'] at h2
              cases h2
              rw [List.take_of_length_le (by omega)] at hm'
              exact hm' y hy
            · exact HM.out q L2 (by omega) h2 y hy⟩
          clear hlk hL' hl' hm' HM HK
          go_wp2
          exact ⟨⟨i + 1, Ls, by rw [hwi.out], ⟨by have := HI.out; omega⟩, HL, NM, HT⟩, by rw [hwi.out]; exact msr n i HI.out⟩
    · have hltb : decide (i < n) = false := decide_eq_false hlt
      have HMN : Aside0 (Marks n Ls) := ⟨fun q L2 hq h2 => HM.out q L2 (by omega) h2⟩
      clear hlt HM Hi
      go_wp2
      have HG := Aside0.mk (Grown.start (HL.out.mono (T' := fun j => T j ∨ W.heap.size ≤ j) (fun _ h => .inl h)))
      have HTT := Aside0.mk (HT.out.mono (T' := fun j => T j ∨ W.heap.size ≤ j) (fun _ h => .inl h))
      have HLC := Aside0.mk HL.out.len
      clear HL HT
      go_loopw [5, 6] (fun v5 vi wr => ∃ (i : Nat) (ms : List Value), vi = .int .i64 i ∧ Aside0 (i ≤ n) ∧ Aside0 (ms.length = i) ∧ Aside0 (Grown wr (fun j => T j ∨ W.heap.size ≤ j) (.slice A n c) vs Ls v5 ms) ∧ Aside0 (Turn (fun j => T j ∨ W.heap.size ≤ j) W wr)) (fun _ vi _ => ((n : Int) - intOf vi).toNat)
      case atStart => exact ⟨0, [], rfl, ⟨Nat.zero_le _⟩, ⟨rfl⟩, HG, HTT⟩
      case round =>
        clear HG HTT
        obtain ⟨i, ms, rfl, Hi, Hm, HG, HT⟩ := hrel
        rename World => W2
        by_cases hlt : i < n
        · have hltb : decide (i < n) = true := decide_eq_true hlt
          obtain ⟨v, L, hv, hL, hs⟩ := HG.out.l.at (i := i) (by rw [HN.out]; exact hlt)
          obtain ⟨j, rfl, hc⟩ := HG.out.l.row.cell i hv
          have hsm := HG.out.l.sm i L hL
          have HV := Aside0.mk hv
          have HLL := Aside0.mk hL
          have HSM := Aside0.mk hsm
          have HI := Aside0.mk hlt
          have hwi := Aside0.mk (w1 i (by have := HNS.out; omega))
          have hrep : L = List.replicate L.length (i : Int) := List.eq_replicate_of_mem (HMN.out i L hlt hL)
          have HREP := Aside0.mk hrep
          have hmm : SlB W2 (fun j => T j ∨ W.heap.size ≤ j) v (List.replicate (L.length + 0) (i : Int)) := by rw [Nat.add_zero, ← hrep]; exact hs
          have HMM := Aside0.mk hmm
          have HLO := Aside0.mk (HG.out.lone hv)
          have HPR := Aside0.mk (Pre.refl W2 hs)
          replace hlt := eq_true hlt
          clear hs hv hL hsm hmm hrep Hi
          go_wp2
          go_loopw [7, 8] (fun v7 vj wr => ∃ (k : Nat), vj = .int .i64 k ∧ Aside0 (k ≤ 9) ∧ Aside0 (Grown wr (fun j => T j ∨ W.heap.size ≤ j) (.slice (some ⟨j, 0, none⟩) n c) vs Ls u5 ms) ∧ Aside0 (SlB wr (fun j => T j ∨ W.heap.size ≤ j) v7 (List.replicate (L.length + k) (i : Int))) ∧ Aside0 (Lone (.slice (some ⟨j, 0, none⟩) n c) u5 vs ms i v7) ∧ Aside0 (Pre v v7) ∧ Aside0 (Turn (fun j => T j ∨ W.heap.size ≤ j) W wr)) (fun _ vj _ => ((9 : Nat) - intOf vj).toNat)
          case atStart => exact ⟨0, rfl, ⟨by omega⟩, HG, HMM, HLO, HPR, HT⟩
          case round =>
            clear HG HMM HLO HPR HT
            obtain ⟨k, rfl, Hk, HG, HMM, HLO, HPR, HT⟩ := hrel
            rename World => W3
            by_cases hlk : k < 9
            · have hlkb : decide ((k : Int) < 9) = true := decide_eq_true (by omega)
              have hwk := Aside0.mk (w1 k (by omega))
              have HLK := Aside0.mk hlk
              clear hlk
              go_wp2_with ((with_reducible refine gate_builtin (b := .append) (xs := #[.tmp 47, .tmp 49]) rfl ?_); at_builtin; refine wpList_app rfl _ _ rfl HG.out (fun q hq => .inr (Nat.le_trans HT.out.size hq)) Hm.out HV.out HLL.out HMM.out (by have := HSM.out; have := HLK.out; rw [List.length_replicate]; omega) HLO.out HPR.out (i : Int) rfl rfl ?_; intro m5 w5 g1 g2 g3 g4 g5; have G1 := Aside0.mk g1; have G2 := Aside0.mk g2; have G3 := Aside0.mk g3; have G4 := Aside0.mk g4; have G5 := Aside0.mk g5; clear g1 g2 g3 g4 g5)
              exact ⟨⟨k + 1, by first | rw [hwk.out] | rfl, ⟨by have := HLK.out; omega⟩, G1, ⟨by have := G2.out; rw [← List.replicate_succ'] at this; exact this⟩, G3, G4, ⟨HT.out.trans G5.out (fun _ h => .inl h)⟩⟩, by first | (rw [hwk.out]; exact msr 9 k HLK.out) | exact msr 9 k HLK.out⟩
            · have hlkb : decide (((9 : Nat) : Int) < 9) = false := decide_eq_false (by omega)
              obtain rfl : k = 9 := by have := Hk.out; omega
              obtain ⟨Am, cm, eA⟩ := HMM.out.slice
              rw [List.length_replicate] at eA
              subst eA
              clear hlk
              go_wp2_with ((with_reducible refine gate_builtin (b := .append) (xs := #[.tmp 51, .tmp 53]) rfl ?_); at_builtin; refine wpList_push rfl _ _ rfl HG.out (fun q hq => .inr (Nat.le_trans HT.out.size hq)) Hm.out HV.out HLL.out HMM.out HLO.out rfl rfl ?_; intro m5 w5 g1 g5; have G1 := Aside0.mk g1; have G5 := Aside0.mk g5; clear g1 g5)
              exact ⟨⟨i + 1, _, by rw [hwi.out], ⟨by have := HI.out; omega⟩, ⟨by rw [List.length_append, List.length_singleton, Hm.out]⟩, G1, ⟨HT.out.trans G5.out (fun _ h => .inl h)⟩⟩, by rw [hwi.out]; exact msr n i HI.out⟩
        · have hltb : decide (i < n) = false := decide_eq_false hlt
          have ein : i = n := by have := Hi.out; omega
          rw [ein] at Hm
          clear hlt Hi ein
          go_wp2
          obtain ⟨Av, cv, eV, _⟩ := HG.out.row.slice
          rw [Hm.out] at eV
          subst eV
          go_loopw [9] (fun vi wr => ∃ (i : Nat), vi = .int .i64 i ∧ Aside0 (i ≤ n) ∧ Aside0 (Grown wr (fun j => T j ∨ W.heap.size ≤ j) (.slice A n c) vs Ls (.slice Av n cv) ms) ∧ Aside0 (Turn (fun j => T j ∨ W.heap.size ≤ j) W wr)) (fun vi _ => ((n : Int) - intOf vi).toNat)
          case atStart => exact ⟨0, rfl, ⟨Nat.zero_le _⟩, HG, HT⟩
          case round =>
            clear HG HT
            obtain ⟨i, rfl, Hi, HG, HT⟩ := hrel
            rename World => W3
            by_cases hlt : i < n
            · have hltb : decide (i < n) = true := decide_eq_true hlt
              obtain ⟨v, L, hv, hL, hs⟩ := HG.out.l.at (i := i) (by rw [HN.out]; exact hlt)
              obtain ⟨m, hm⟩ : ∃ m, ms[i]? = some m := ⟨_, List.getElem?_eq_getElem (by rw [Hm.out]; exact hlt)⟩
              have hms := HG.out.mv i m L hm hL
              obtain ⟨Ai, ci, rfl⟩ := hs.slice
              obtain ⟨Am, cm, eA⟩ := hms.slice
              rw [List.length_replicate] at eA
              subst eA
              obtain ⟨ni, hni⟩ : ∃ ni, L.length = ni := ⟨_, rfl⟩
              have hmk : ∀ k, k < ni → rd L (k : Int) = (i : Int) := fun k hk => by
                rw [rd_nat L k (by omega)]
                exact HMN.out i L hlt hL _ (List.getElem_mem _)
              have hrp : ∀ k, k < ni + 9 → rd (List.replicate (ni + 9) (i : Int)) (k : Int) = (i : Int) := fun k hk => by
                rw [rd_nat _ k (by rw [List.length_replicate]; exact hk), List.getElem_replicate]
              have hsm := HG.out.l.sm i L hL
              rw [hni] at hv hm hms hsm
              obtain ⟨j, rfl, hc⟩ := HG.out.l.row.cell i hv
              obtain ⟨jm, rfl, hcm⟩ := HG.out.row.cell i hm
              have HV := Aside0.mk hv
              have HM := Aside0.mk hm
              have HLL := Aside0.mk hL
              have HNI := Aside0.mk hsm
              have HI := Aside0.mk hlt
              have HMK := Aside0.mk hmk
              have HRP := Aside0.mk hrp
              have HLN := Aside0.mk hni
              have hwi := Aside0.mk (w1 i (by have := HNS.out; omega))
              replace hlt := eq_true hlt
              clear hs hms hv hm hL hsm hmk hrp hni Hi
              go_wp2
              go_loopw [10] (fun vj wr => ∃ (k : Nat), vj = .int .i64 k ∧ Aside0 (k ≤ ni + 9) ∧ Aside0 (Grown wr (fun j => T j ∨ W.heap.size ≤ j) (.slice (some ⟨j, 0, none⟩) n c) vs Ls (.slice (some ⟨jm, 0, none⟩) n cv) ms) ∧ Aside0 (Turn (fun j => T j ∨ W.heap.size ≤ j) W wr)) (fun vj _ => (((ni + 9 : Nat) : Int) - intOf vj).toNat)
              case atStart => exact ⟨0, rfl, ⟨Nat.zero_le _⟩, HG, HT⟩
              case round =>
                clear HG HT hc hcm
                obtain ⟨k, rfl, Hk, HG, HT⟩ := hrel
                rename World => W4
                have hc := HG.out.l.row.cell i HV.out
                obtain ⟨j', ej, hc⟩ := hc
                cases ej
                have hcm := HG.out.row.cell i HM.out
                obtain ⟨j', ej, hcm⟩ := hcm
                cases ej
                by_cases hlk : k < ni + 9
                · have hlkb : decide (k < ni + 9) = true := decide_eq_true hlk
                  have hlkc : decide ((k : Int) < (ni : Int) + 9) = true := decide_eq_true (by omega)
                  have hms := HG.out.mv i _ _ HM.out HLL.out
                  rw [HLN.out] at hms
                  obtain ⟨adm, rfl, hxm⟩ := hms.cell (k : Int) (by omega) (by rw [List.length_replicate]; omega)
                  rw [HRP.out k hlk, Int.toNat_natCast] at hxm
                  have hwk := Aside0.mk (w1 k (by have := HNI.out; omega))
                  have HLK := Aside0.mk hlk
                  have hlk2 : ((k : Int) < (ni : Int) + 9) = True := eq_true (by omega)
                  have hfin : (∃ k' : Nat, Value.int .i64 (wrap64 ((k : Int) + 1)) = .int .i64 k' ∧ Aside0 (k' ≤ ni + 9) ∧ Aside0 (Grown W4 (fun j => T j ∨ W.heap.size ≤ j) (.slice (some ⟨j, 0, none⟩) n c) vs Ls (.slice (some ⟨jm, 0, none⟩) n cv) ms) ∧ Aside0 (Turn (fun j => T j ∨ W.heap.size ≤ j) W W4)) ∧ (((ni + 9 : Nat) : Int) - intOf (Value.int .i64 (wrap64 ((k : Int) + 1)))).toNat < (((ni + 9 : Nat) : Int) - intOf (Value.int .i64 (k : Int))).toNat :=
                    ⟨⟨k + 1, by rw [hwk.out], ⟨by have := HLK.out; omega⟩, HG, HT⟩, by rw [hwk.out]; exact msr (ni + 9) k HLK.out⟩
                  have FIN := Aside0.mk hfin
                  replace hlk := eq_true hlk
                  clear hms hfin
                  by_cases hin : k < ni
                  · have hinb : decide (k < ni) = true := decide_eq_true hin
                    have hs := HG.out.l.ls i _ _ HV.out HLL.out
                    obtain ⟨ad, rfl, hx⟩ := hs.cell (k : Int) (by omega) (by rw [HLN.out]; omega)
                    rw [HMK.out k hin, Int.toNat_natCast] at hx
                    replace hin := eq_true hin
                    clear hs
                    go_wp2
                    exact FIN.out
                  · have hinb : decide (k < ni) = false := decide_eq_false hin
                    clear hin
                    go_wp2
                    exact FIN.out
                · have hlkb : decide (k < ni + 9) = false := decide_eq_false hlk
                  have hlkc : decide ((k : Int) < (ni : Int) + 9) = false := decide_eq_false (by omega)
                  clear hlk
                  go_wp2
                  exact ⟨⟨i + 1, by rw [hwi.out], ⟨by have := HI.out; omega⟩, HG, HT⟩, by rw [hwi.out]; exact msr n i HI.out⟩
            · have hltb : decide (i < n) = false := decide_eq_false hlt
              clear hlt Hi
              go_wp2
              go_ret
              exact ⟨rfl, HT.out.less⟩
end Go.Proofs.Ytfcjfjmjcmanaaa.B
set_option linter.unusedVariables false
namespace Go.Proofs.Ytfcjfjmjcmanaaa.B
open Go Go.RowKit Go.Proofs.YtfcjfjmjcmanaaaW.PrintWords Go.Proofs.YtfcjfjmjcmanaaaW.PrintLast Go.Proofs.YtfcjfjmjcmanaaaW.PrintMore
variable {W : World} {T : Nat → Prop}
attribute [local go_sem ↓] Go.wp_at_zero Go.wp_at_succ
set_option maxRecDepth 100000
set_option maxHeartbeats 4000000
theorem none_73 (W : World) : Calls Try.prog 73 #[.slice none 0 0] W fun e W' => e = .returned (.bool true) ∧ Drawn0 W W' := by
  go_enter Try.func73, Try.ntmps73
  go_wp2
  go_loopw [3] (fun p wr => p = .int .i64 0 ∧ Drawn0 W wr) (fun p _ => 0)
  case atStart => exact ⟨rfl, Drawn0.refl _⟩
  case round =>
    obtain ⟨rfl, ⟨m, rfl⟩⟩ := hrel
    go_wp2
    go_loopw [6] (fun p wr => p = .int .i64 0 ∧ Drawn0 W wr) (fun p _ => 0)
    case atStart => exact ⟨rfl, ⟨m, rfl⟩⟩
    case round =>
      obtain ⟨rfl, ⟨m, rfl⟩⟩ := hrel
      go_wp2
      go_loopw [9] (fun p wr => p = .int .i64 0 ∧ Drawn0 W wr) (fun p _ => 0)
      case atStart => exact ⟨rfl, ⟨m, rfl⟩⟩
      case round =>
        obtain ⟨rfl, ⟨m, rfl⟩⟩ := hrel
        go_wp2
        go_ret
        exact ⟨rfl, ⟨m, rfl⟩⟩
theorem none_74 (W : World) : Calls Try.prog 74 #[.slice none 0 0] W fun e W' => e = .returned (.bool true) ∧ Drawn0 W W' := by
  go_enter Try.func74, Try.ntmps74
  go_wp2
  go_loopw [3] (fun p wr => p = .int .i64 0 ∧ Drawn0 W wr) (fun p _ => 0)
  case atStart => exact ⟨rfl, Drawn0.refl _⟩
  case round =>
    obtain ⟨rfl, ⟨m, rfl⟩⟩ := hrel
    go_wp2
    go_loopw [6] (fun p wr => p = .int .i64 0 ∧ Drawn0 W wr) (fun p _ => 0)
    case atStart => exact ⟨rfl, ⟨m, rfl⟩⟩
    case round =>
      obtain ⟨rfl, ⟨m, rfl⟩⟩ := hrel
      go_wp2
      go_loopw [9] (fun p wr => p = .int .i64 0 ∧ Drawn0 W wr) (fun p _ => 0)
      case atStart => exact ⟨rfl, ⟨m, rfl⟩⟩
      case round =>
        obtain ⟨rfl, ⟨m, rfl⟩⟩ := hrel
        go_wp2
        go_ret
        exact ⟨rfl, ⟨m, rfl⟩⟩
theorem none_76 (W : World) : Calls Try.prog 76 #[.slice none 0 0] W fun e W' => e = .returned (.bool true) ∧ Drawn0 W W' := by
  go_enter Try.func76, Try.ntmps76
  go_wp2
  go_loopw [3] (fun p wr => p = .int .i64 0 ∧ Drawn0 W wr) (fun p _ => 0)
  case atStart => exact ⟨rfl, Drawn0.refl _⟩
  case round =>
    obtain ⟨rfl, ⟨m, rfl⟩⟩ := hrel
    go_wp2
    go_loopw [6] (fun p wr => p = .int .i64 0 ∧ Drawn0 W wr) (fun p _ => 0)
    case atStart => exact ⟨rfl, ⟨m, rfl⟩⟩
    case round =>
      obtain ⟨rfl, ⟨m, rfl⟩⟩ := hrel
      go_wp2
      go_loopw [9] (fun p wr => p = .int .i64 0 ∧ Drawn0 W wr) (fun p _ => 0)
      case atStart => exact ⟨rfl, ⟨m, rfl⟩⟩
      case round =>
        obtain ⟨rfl, ⟨m, rfl⟩⟩ := hrel
        go_wp2
        go_ret
        exact ⟨rfl, ⟨m, rfl⟩⟩
theorem none_77 (W : World) : Calls Try.prog 77 #[.slice none 0 0] W fun e W' => e = .returned (.bool true) ∧ Drawn0 W W' := by
  go_enter Try.func77, Try.ntmps77
  go_wp2
  go_loopw [3] (fun p wr => p = .int .i64 0 ∧ Drawn0 W wr) (fun p _ => 0)
  case atStart => exact ⟨rfl, Drawn0.refl _⟩
  case round =>
    obtain ⟨rfl, ⟨m, rfl⟩⟩ := hrel
    go_wp2
    go_loopw [6] (fun p wr => p = .int .i64 0 ∧ Drawn0 W wr) (fun p _ => 0)
    case atStart => exact ⟨rfl, ⟨m, rfl⟩⟩
    case round =>
      obtain ⟨rfl, ⟨m, rfl⟩⟩ := hrel
      go_wp2
      go_loopw [9] (fun p wr => p = .int .i64 0 ∧ Drawn0 W wr) (fun p _ => 0)
      case atStart => exact ⟨rfl, ⟨m, rfl⟩⟩
      case round =>
        obtain ⟨rfl, ⟨m, rfl⟩⟩ := hrel
        go_wp2
        go_ret
        exact ⟨rfl, ⟨m, rfl⟩⟩
theorem none_78 (W : World) : Calls Try.prog 78 #[.slice none 0 0] W fun e W' => e = .returned (.bool true) ∧ Drawn0 W W' := by
  go_enter Try.func78, Try.ntmps78
  go_wp2
  go_loopw [3] (fun p wr => p = .int .i64 0 ∧ Drawn0 W wr) (fun p _ => 0)
  case atStart => exact ⟨rfl, Drawn0.refl _⟩
  case round =>
    obtain ⟨rfl, ⟨m, rfl⟩⟩ := hrel
    go_wp2
    go_loopw [6] (fun p wr => p = .int .i64 0 ∧ Drawn0 W wr) (fun p _ => 0)
    case atStart => exact ⟨rfl, ⟨m, rfl⟩⟩
    case round =>
      obtain ⟨rfl, ⟨m, rfl⟩⟩ := hrel
      go_wp2
      go_loopw [9] (fun p wr => p = .int .i64 0 ∧ Drawn0 W wr) (fun p _ => 0)
      case atStart => exact ⟨rfl, ⟨m, rfl⟩⟩
      case round =>
        obtain ⟨rfl, ⟨m, rfl⟩⟩ := hrel
        go_wp2
        go_ret
        exact ⟨rfl, ⟨m, rfl⟩⟩
theorem none_79 (W : World) : Calls Try.prog 79 #[.slice none 0 0] W fun e W' => e = .returned (.bool true) ∧ Drawn0 W W' := by
  go_enter Try.func79, Try.ntmps79
  go_wp2
  go_loopw [3] (fun p wr => p = .int .i64 0 ∧ Drawn0 W wr) (fun p _ => 0)
  case atStart => exact ⟨rfl, Drawn0.refl _⟩
  case round =>
    obtain ⟨rfl, ⟨m, rfl⟩⟩ := hrel
    go_wp2
    go_loopw [6] (fun p wr => p = .int .i64 0 ∧ Drawn0 W wr) (fun p _ => 0)
    case atStart => exact ⟨rfl, ⟨m, rfl⟩⟩
    case round =>
      obtain ⟨rfl, ⟨m, rfl⟩⟩ := hrel
      go_wp2
      go_loopw [9] (fun p wr => p = .int .i64 0 ∧ Drawn0 W wr) (fun p _ => 0)
      case atStart => exact ⟨rfl, ⟨m, rfl⟩⟩
      case round =>
        obtain ⟨rfl, ⟨m, rfl⟩⟩ := hrel
        go_wp2
        go_ret
        exact ⟨rfl, ⟨m, rfl⟩⟩
end Go.Proofs.Ytfcjfjmjcmanaaa.B
set_option linter.unusedVariables false
namespace Go.Proofs.Ytfcjfjmjcmanaaa.B
open Go Go.RowKit Go.Proofs.YtfcjfjmjcmanaaaW.PrintWords Go.Proofs.YtfcjfjmjcmanaaaW.PrintLast Go.Proofs.YtfcjfjmjcmanaaaW.PrintMore
/-- The books lie at b: the lists that were answered (T4), what they were (T5). -/
structure BkAt (W : World) (T4 T5 : Nat → Prop) (b : Nat) (v4 v5 : Value) (vs us : List Value) (Ls : List (List Int)) : Prop where
  hb : W.heap[b]? = some (.cells #[.slice none 0 0, .slice none 0 0, .slice none 0 0, .slice none 0 0, v4, v5, .slice none 0 0, .slice none 0 0, .slice none 0 0, .slice none 0 0, .slice none 0 0, .slice none 0 0, .slice none 0 0, .slice none 0 0] 42 (0, 0))
  l4 : Lists W T4 v4 vs Ls
  l5 : Lists W T5 v5 us Ls
  ap : ∀ i, T4 i → T5 i → False
  b4 : ¬ T4 b
  b5 : ¬ T5 b
  lt : ∀ i, (T4 i ∨ T5 i) → i < W.heap.size
variable {W W' : World} {T4 T5 : Nat → Prop} {b : Nat} {v4 v5 : Value} {vs us : List Value} {Ls : List (List Int)}
theorem BkAt.cells (h : BkAt W T4 T5 b v4 v5 vs us Ls) : W.cell? ⟨b, 0, none⟩ = some (.slice none 0 0) ∧ W.cell? ⟨b, 2, none⟩ = some (.slice none 0 0) ∧ W.cell? ⟨b, 4, none⟩ = some v4 ∧ W.cell? ⟨b, 5, none⟩ = some v5 ∧ W.cell? ⟨b, 6, none⟩ = some (.slice none 0 0) ∧ W.cell? ⟨b, 8, none⟩ = some (.slice none 0 0) ∧ W.cell? ⟨b, 10, none⟩ = some (.slice none 0 0) ∧ W.cell? ⟨b, 12, none⟩ = some (.slice none 0 0) := by
  refine ⟨?_, ?_, ?_, ?_, ?_, ?_, ?_, ?_⟩ <;> (rw [cell_of_row W b _ _ 42 (0, 0) h.hb]; rfl)
theorem BkAt.kept (h : BkAt W T4 T5 b v4 v5 vs us Ls) (hk : ∀ i, T4 i ∨ T5 i ∨ i = b → i < W.heap.size → W'.heap[i]? = W.heap[i]?) (hs : W.heap.size ≤ W'.heap.size) : BkAt W' T4 T5 b v4 v5 vs us Ls :=
  ⟨(hk b (.inr (.inr rfl)) (Array.getElem?_eq_some_iff.1 h.hb).1).trans h.hb, h.l4.kept (fun i hi => hk i (.inl hi)), h.l5.kept (fun i hi => hk i (.inr (.inl hi))), h.ap, h.b4, h.b5, fun i hi => Nat.lt_of_lt_of_le (h.lt i hi) hs⟩
theorem BkAt.below (h : BkAt W T4 T5 b v4 v5 vs us Ls) (hb : Below W.heap.size W W') : BkAt W' T4 T5 b v4 v5 vs us Ls := h.kept (fun i _ hi => hb.block i hi) hb.size
set_option maxRecDepth 100000
set_option maxHeartbeats 8000000
theorem still_calls (hbk : BkAt W T4 T5 b v4 v5 vs us Ls) : Calls Try.prog 72 #[.pointer (some ⟨b, 0, none⟩)] W fun e W' => e = .returned (.bool true) ∧ Drawn0 W W' := by
  obtain ⟨c0, c2, c4, c5, c6, c8, c10, c12⟩ := hbk.cells
  obtain ⟨A4, d4, rfl, _⟩ := hbk.l4.row.slice
  obtain ⟨A5, d5, rfl, _⟩ := hbk.l5.row.slice
  obtain ⟨n, hn⟩ : ∃ n, vs.length = n := ⟨_, rfl⟩
  have hn5 : us.length = n := by rw [← hn, ← hbk.l4.len, hbk.l5.len]
  rw [hn] at c4 hbk
  rw [hn5] at c5 hbk
  have HNS : Aside0 (n + 10 ≤ 4398046511104) := ⟨by have := hbk.l4.ns; omega⟩
  have HB := Aside0.mk hbk
  have HN := Aside0.mk hn
  have HN5 := Aside0.mk hn5
  clear hbk hn hn5
  go_enter Try.func72, Try.ntmps72
  go_wp2
  go_loopw [3] (fun p wr => p = .int .i64 0 ∧ Drawn0 W wr) (fun p _ => 0)
  case atStart => exact ⟨rfl, Drawn0.refl _⟩
  case round =>
    obtain ⟨rfl, ⟨m, rfl⟩⟩ := hrel
    go_wp2
    go_loopw [4] (fun p wr => p = .int .i64 0 ∧ Drawn0 W wr) (fun p _ => 0)
    case atStart => exact ⟨rfl, ⟨m, rfl⟩⟩
    case round =>
      obtain ⟨rfl, ⟨m, rfl⟩⟩ := hrel
      go_wp2
      go_loopw [6] (fun p wr => ∃ i : Nat, p = .int .i64 i ∧ Aside0 (i ≤ n) ∧ Drawn0 W wr) (fun p _ => ((n : Int) - intOf p).toNat)
      case atStart => exact ⟨0, rfl, ⟨Nat.zero_le _⟩, ⟨m, rfl⟩⟩
      case round =>
        obtain ⟨i, rfl, Hi, ⟨m, rfl⟩⟩ := hrel
        by_cases hlt : i < n
        · have hltb : decide (i < n) = true := decide_eq_true hlt
          obtain ⟨v, L, hv, hL, hs⟩ := HB.out.l4.at (i := i) (by rw [HN.out]; exact hlt)
          obtain ⟨u, hu⟩ : ∃ u, us[i]? = some u := ⟨_, List.getElem?_eq_getElem (by rw [HN5.out]; exact hlt)⟩
          have hs5 := HB.out.l5.ls i u L hu hL
          obtain ⟨Ai, ci, rfl⟩ := hs.slice
          obtain ⟨Au, cu, rfl⟩ := hs5.slice
          obtain ⟨ni, hni⟩ : ∃ ni, L.length = ni := ⟨_, rfl⟩
          have hsm := HB.out.l4.sm i L hL
          rw [hni] at hv hs hs5 hsm hu
          obtain ⟨j, rfl, hc⟩ := HB.out.l4.row.cell i hv
          obtain ⟨ju, rfl, hcu⟩ := HB.out.l5.row.cell i hu
          have HS := Aside0.mk hs
          have HS5 := Aside0.mk hs5
          have HNI := Aside0.mk hsm
          have HI := Aside0.mk hlt
          have HLN := Aside0.mk hni
          have hwi := Aside0.mk (w1 i (by have := HNS.out; omega))
          replace hlt := eq_true hlt
          clear hs hs5 hv hu hL hsm hni Hi
          go_wp2
          go_loopw [7] (fun p wr => ∃ k : Nat, p = .int .i64 k ∧ Aside0 (k ≤ ni) ∧ Drawn0 W wr) (fun p _ => ((ni : Int) - intOf p).toNat)
          case atStart => exact ⟨0, rfl, ⟨Nat.zero_le _⟩, ⟨m, rfl⟩⟩
          case round =>
            obtain ⟨k, rfl, Hk, ⟨m, rfl⟩⟩ := hrel
            by_cases hlk : k < ni
            · have hlkb : decide (k < ni) = true := decide_eq_true hlk
              obtain ⟨ad, rfl, hx⟩ := HS.out.cell (k : Int) (by omega) (by rw [HLN.out]; omega)
              obtain ⟨ad5, rfl, hx5⟩ := HS5.out.cell (k : Int) (by omega) (by rw [HLN.out]; omega)
              obtain ⟨y, hy⟩ : ∃ y, rd L (k : Int) = y := ⟨_, rfl⟩
              rw [hy, Int.toNat_natCast] at hx hx5
              have hwk := Aside0.mk (w1 k (by have := HNI.out; omega))
              have HLK := Aside0.mk hlk
              have hlk2 : ((k : Int) < (ni : Int)) = True := eq_true (by omega)
              have hlt2 : ((i : Int) < (n : Int)) = True := eq_true (by have := HI.out; omega)
              have i0 : ((0 : Int) ≤ (i : Int)) = True := eq_true (by omega)
              have k0 : ((0 : Int) ≤ (k : Int)) = True := eq_true (by omega)
              replace hlk := eq_true hlk
              clear hy
              go_wp2
              go_quiet (fail)
              go_wp2
              exact ⟨⟨k + 1, by rw [hwk.out], ⟨by have := HLK.out; omega⟩, ⟨_, rfl⟩⟩, by rw [hwk.out]; exact msr ni k HLK.out⟩
            · have hlkb : decide (k < ni) = false := decide_eq_false hlk
              clear hlk
              go_wp2
              exact ⟨⟨i + 1, by rw [hwi.out], ⟨by have := HI.out; omega⟩, ⟨_, rfl⟩⟩, by rw [hwi.out]; exact msr n i HI.out⟩
        · have hltb : decide (i < n) = false := decide_eq_false hlt
          clear hlt Hi
          go_wp2
          go_loopw [8] (fun p wr => p = .int .i64 0 ∧ Drawn0 W wr) (fun p _ => 0)
          case atStart => exact ⟨rfl, ⟨m, rfl⟩⟩
          case round =>
            obtain ⟨rfl, ⟨m, rfl⟩⟩ := hrel
            go_wp2
            go_loopw [10] (fun p wr => p = .int .i64 0 ∧ Drawn0 W wr) (fun p _ => 0)
            case atStart => exact ⟨rfl, ⟨m, rfl⟩⟩
            case round =>
              obtain ⟨rfl, ⟨m, rfl⟩⟩ := hrel
              go_wp2
              go_loopw [12] (fun p wr => p = .int .i64 0 ∧ Drawn0 W wr) (fun p _ => 0)
              case atStart => exact ⟨rfl, ⟨m, rfl⟩⟩
              case round =>
                obtain ⟨rfl, ⟨m, rfl⟩⟩ := hrel
                go_wp2
                go_loopw [14] (fun p wr => p = .int .i64 0 ∧ Drawn0 W wr) (fun p _ => 0)
                case atStart => exact ⟨rfl, ⟨m, rfl⟩⟩
                case round =>
                  obtain ⟨rfl, ⟨m, rfl⟩⟩ := hrel
                  go_wp2
                  go_ret
                  exact ⟨rfl, ⟨m, rfl⟩⟩
theorem apart_calls (hbk : BkAt W T4 T5 b v4 v5 vs us Ls) : Calls Try.prog 29 #[.pointer (some ⟨b, 0, none⟩)] W fun e W' => e = .returned (.bool true) ∧ Turn T4 W W' := by
  obtain ⟨c0, c2, c4, c5, c6, c8, c10, c12⟩ := hbk.cells
  have HST := Aside0.mk (still_calls hbk)
  obtain ⟨A4, d4, rfl, _⟩ := hbk.l4.row.slice
  obtain ⟨n, hn⟩ : ∃ n, vs.length = n := ⟨_, rfl⟩
  rw [hn] at c4 hbk
  have HB := Aside0.mk hbk
  have HN := Aside0.mk hn
  have HBL := Aside0.mk (Array.getElem?_eq_some_iff.1 hbk.hb).1
  clear hbk hn
  go_enter Try.func29, Try.ntmps29
  go_wp2_with (first
    | (go_at_call 72; refine HST.out.mono ?_; rintro e w1 ⟨rfl, ⟨m1, rfl⟩⟩)
    | (go_at_call 73; refine (none_73 _).mono ?_; rintro e w2 ⟨rfl, ⟨m2, rfl⟩⟩)
    | (go_at_call 74; refine (none_74 _).mono ?_; rintro e w3 ⟨rfl, ⟨m3, rfl⟩⟩)
    | (go_at_call 75; refine (apartInts_calls A4 d4 n HN.out (show Lists _ _ _ _ _ from HB.out.l4.kept (W' := W.drewN (m1 + m2 + m3)) (fun _ _ _ => rfl))).mono ?_; rintro e w4 ⟨rfl, ht⟩; have HT := Aside0.mk ht; have q : ∀ k, w4.cell? ⟨b, k, none⟩ = W.cell? ⟨b, k, none⟩ := (fun k => World.cell?_of_block (ht.block b HBL.out HB.out.b4)); have q6 := (q 6).trans c6; have q8 := (q 8).trans c8; have q10 := (q 10).trans c10; have q12 := (q 12).trans c12; clear ht q)
    | (go_at_call 76; refine (none_76 _).mono ?_; rintro e w5 ⟨rfl, ⟨m5, rfl⟩⟩)
    | (go_at_call 77; refine (none_77 _).mono ?_; rintro e w6 ⟨rfl, ⟨m6, rfl⟩⟩)
    | (go_at_call 78; refine (none_78 _).mono ?_; rintro e w7 ⟨rfl, ⟨m7, rfl⟩⟩)
    | (go_at_call 79; refine (none_79 _).mono ?_; rintro e w8 ⟨rfl, ⟨m8, rfl⟩⟩))
  go_ret
  exact ⟨rfl, ⟨HT.out.os, HT.out.tape, HT.out.output, HT.out.size, HT.out.block⟩⟩
end Go.Proofs.Ytfcjfjmjcmanaaa.B
set_option linter.unusedVariables false
namespace Go.Proofs.Ytfcjfjmjcmanaaa.B
open Go Go.RowKit Go.Proofs.YtfcjfjmjcmanaaaW.PrintWords Go.Proofs.YtfcjfjmjcmanaaaW.PrintLast Go.Proofs.YtfcjfjmjcmanaaaW.PrintMore
variable {W W' : World} {T Tv T4 T5 : Nat → Prop} {b : Nat} {v v4 v5 : Value} {vs us : List Value} {L : List Int} {Ls : List (List Int)}
theorem Lists.nil (W : World) (T : Nat → Prop) : Lists W T nilv [] [] := ⟨RowV.nil _ _, rfl, by simp, by simp, by simp, by simp, by simp⟩
theorem BkAt.new (W : World) : BkAt (W.alloc (.cells #[.slice none 0 0, .slice none 0 0, .slice none 0 0, .slice none 0 0, .slice none 0 0, .slice none 0 0, .slice none 0 0, .slice none 0 0, .slice none 0 0, .slice none 0 0, .slice none 0 0, .slice none 0 0, .slice none 0 0, .slice none 0 0] 42)) (fun _ => False) (fun _ => False) W.heap.size nilv nilv [] [] [] :=
  ⟨World.alloc_heap_new W _, Lists.nil _ _, Lists.nil _ _, fun _ h => h.elim, fun h => h, fun h => h, fun i h => h.elim False.elim False.elim⟩
theorem get_snoc {α : Type} {l : List α} {a x : α} {k : Nat} (hk : (l ++ [a])[k]? = some x) : (l[k]? = some x ∧ k < l.length) ∨ (k = l.length ∧ x = a) := by
  by_cases hlt : k < l.length
  · rw [List.getElem?_append_left hlt] at hk
    exact .inl ⟨hk, hlt⟩
  · rw [List.getElem?_append_right (by omega)] at hk
    have h0 : k - l.length = 0 := by
      have := (List.getElem?_eq_some_iff.1 hk).1
      simp at this; omega
    rw [h0] at hk
    simp at hk
    exact .inr ⟨by omega, hk.symm⟩
/-- One list more in the row. -/
theorem Lists.push (h : Lists W T v4 vs Ls) (hv : SlB W Tv v L) (hap : ∀ j, v.ownBlock = some j → ¬ T j) (hL : L.length + 10 ≤ 4398046511104) (hn : vs.length + 11 ≤ 4398046511104) {a : Addr} {c : Nat} (hx : W.cell? a = some v) (ty : TypeId) :
    ∃ v4' W', (Builtin.append_ #[37, 37] ty #[v4, .slice (some a) 1 c]).run Try.prog W = .ok v4' W' ∧ Lists W' (fun j => T j ∨ v.ownBlock = some j ∨ j = W.heap.size ∧ j < W'.heap.size) v4' (vs ++ [v]) (Ls ++ [L]) ∧ Turn T W W' ∧ W.heap.size ≤ W'.heap.size ∧ (∀ j, v4'.ownBlock = some j → T j ∨ j = W.heap.size) := by
  have h1c : v.oneCell' = true := by obtain ⟨A, c', e⟩ := hv.slice; rw [e]; rfl
  obtain ⟨v4', W', hr, h1, hg, hat⟩ := h.row.append (c := c) hx h1c (by omega) ty
  have keep : ∀ j, j < W.heap.size → v4.ownBlock ≠ some j → W'.heap[j]? = W.heap[j]? := fun j hj hn => hg.block j hj (fun e => hn e.symm)
  have new : ∀ j, v4'.ownBlock = some j → v4.ownBlock = some j ∨ j = W.heap.size := fun j hj => by
    rcases hat with e | e
    · exact .inl (by rw [← e]; exact hj)
    · rw [e] at hj; cases hj; exact .inr rfl
  have ltv : ∀ {k : Nat} {u : Value} {j : Nat}, vs[k]? = some u → u.ownBlock = some j → T j ∧ j < W.heap.size := fun {k u j} hu hj => by
    obtain ⟨u', L', a1, a2, a3⟩ := h.at (List.getElem?_eq_some_iff.1 hu).1
    rw [hu] at a1
    cases a1
    exact a3.own hj
  have hlen := h.len
  refine ⟨v4', W', hr, ⟨h1.mono (fun j hj hT => ?_), by simp [h.len], fun k u L' hu hL' => ?_, fun k k2 x y j hk hx hy hj => ?_, fun k u j hu hj e => ?_, fun k L' hL' => ?_, by simp; omega⟩, Turn.of_grown hg (fun j hj => (h.row.lt hj).1), hg.size, fun j hj => (new j hj).imp (fun e => (h.row.lt e).1) id⟩
  · rcases new j hj with e | e
    · exact .inl (h.row.lt e).1
    · exact .inr (.inr ⟨e, (h1.1.lt j hj).2⟩)
  · rcases get_snoc hu with ⟨hu, hk⟩ | ⟨rfl, rfl⟩
    · rcases get_snoc hL' with ⟨hL', _⟩ | ⟨e, _⟩
      · have h3 := h.ls k u L' hu hL'
        exact (h3.kept (fun j hj => keep j (h3.own hj).2 (h.rs k u j hu hj))).mono (fun j _ hj => .inl hj)
      · omega
    · rcases get_snoc hL' with ⟨_, h0⟩ | ⟨_, rfl⟩
      · omega
      · exact (hv.kept (fun j hj => keep j (hv.own hj).2 (fun e => hap j hj (h.row.lt e).1))).mono (fun j hj _ => .inr (.inl hj))
  · rcases get_snoc hx with ⟨hx1, _⟩ | ⟨e1, e2⟩
    · rcases get_snoc hy with ⟨hy1, _⟩ | ⟨e3, e4⟩
      · exact h.sep k k2 x y j hk hx1 hy1 hj
      · rw [e4]; exact fun e => hap j e (ltv hx1 hj).1
    · rcases get_snoc hy with ⟨hy1, _⟩ | ⟨e3, e4⟩
      · rw [e2] at hj; exact fun e => hap j hj (ltv hy1 e).1
      · omega
  · rcases get_snoc hu with ⟨hu1, _⟩ | ⟨e1, e2⟩
    · rcases new j e with e3 | e3
      · exact h.rs k u j hu1 hj e3
      · have := (ltv hu1 hj).2; omega
    · rw [e2] at hj
      rcases new j e with e3 | e3
      · exact hap j hj (h.row.lt e3).1
      · have := (hv.own hj).2; omega
  · rcases get_snoc hL' with ⟨hL1, _⟩ | ⟨_, e2⟩
    · exact h.sm k L' hL1
    · rw [e2]; exact hL
/-- A copy in a row that is new. -/
theorem SlB.of_row0 {u : Value} (h : W.ownsRow 0 3 1 u L.length (L.map (Value.int .i64))) (hT : ∀ j, u.ownBlock = some j → T j) : SlB W T u L := by
  obtain ⟨_, ⟨e, h0⟩ | ⟨j, cap, cur, rfl, _, h6, h3, h4, h5, h7⟩⟩ := h
  · exact .inl ⟨e, List.length_eq_zero_iff.1 h0⟩
  · refine .inr ⟨j, 0, cap, cur, rfl, hT j rfl, h3, h4, by omega, h6, fun i x hi => ?_⟩
    have hi' : i < L.length := (List.getElem?_eq_some_iff.1 hi).1
    have e : (cur.toList.take (L.length * 1))[i]? = cur.toList[i]? := by rw [List.getElem?_take, if_pos (by omega)]
    rw [Nat.zero_add, ← Array.getElem?_toList, ← e, h7, List.getElem?_map, hi]; rfl
theorem SlB.copy {g : Nat} (hg : W.heap[g]? = some (.cells #[] 3 (0, 0))) (hv : SlB W Tv v L) (hl : L.length ≤ 4398046511104) (ty : TypeId) :
    ∃ u W', (Builtin.append_ #[26, 26] ty #[.slice (some ⟨g, 0, none⟩) 0 0, v]).run Try.prog W = .ok u W' ∧ SlB W' (fun j => j = g ∨ j = W.heap.size) u L ∧ W.grownBy W' (some g) := by
  obtain ⟨i0, hi0, hz0, hz1, hz2⟩ := info_parts info3'
  have hml : (4398046511104 : Nat) ≤ maxLen := by unfold maxLen; omega
  have hown : W.ownsRow 0 3 1 (.slice (some ⟨g, 0, none⟩) 0 0) 0 [] := ⟨rfl, .inr ⟨g, 0, #[], rfl, Nat.zero_le _, hg, Nat.le_refl _, Nat.zero_le _, rfl, rfl⟩⟩
  rcases hv with ⟨rfl, rfl⟩ | ⟨j, off, cap, cur, rfl, h1, h3, h4, h5, h6, h7⟩
  · have hr := run_append_room_src (P := Try.prog) W 26 26 ty 3 i0 Try.underlying26 hi0 g 0 0 0 (.slice none 0 0) 0 [] (Src.ofNil W Try.underlying26 0) (Nat.le_refl _) (fun k hk => by simp at hk) (fun k hk => by simp at hk)
    exact ⟨_, _, hr, SlB.of_row0 (L := []) hown (fun k hk => .inl (by simpa [Value.ownBlock] using hk.symm)), ⟨rfl, rfl, rfl, Nat.le_refl _, fun _ _ _ => rfl⟩⟩
  · have hc : ∀ k u, (L.map (Value.int .i64))[k]? = some u → W.cell? ((⟨j, off, none⟩ : Addr).add k) = some u := fun k u hk => by
      rw [List.getElem?_map] at hk
      obtain ⟨y, hy, rfl⟩ := Option.map_eq_some_iff.1 hk
      rw [Addr.add_lit, cell_of_row W j _ cur 3 (0, 0) h6]
      exact h7 k y hy
    obtain ⟨u, W', hr, ho, hgr, _, hat⟩ := run_append_own_at (P := Try.prog) W 0 26 ty 3 i0 (.int .i64 0) 1 8 Try.underlying26 hi0 hz0 hz1 hz2 rfl (by omega) (.slice (some ⟨g, 0, none⟩) 0 0) 0 [] hown ⟨j, off, none⟩ L.length cap (L.map (Value.int .i64)) (by simp) hc (by intro u hu; obtain ⟨y, _, rfl⟩ := List.mem_map.1 hu; rfl) (by omega) (by omega) (Nat.zero_le _)
    refine ⟨u, W', hr, SlB.of_row0 (by simpa using ho) (fun k hk => ?_), hgr⟩
    rcases hat with e | e
    · rw [e] at hk; exact .inl (by simpa [Value.ownBlock] using hk.symm)
    · rw [e] at hk; cases hk; exact .inr rfl
end Go.Proofs.Ytfcjfjmjcmanaaa.B
set_option linter.unusedVariables false
namespace Go.Proofs.Ytfcjfjmjcmanaaa.B
open Go Go.RowKit Go.Proofs.YtfcjfjmjcmanaaaW.PrintWords Go.Proofs.YtfcjfjmjcmanaaaW.PrintLast Go.Proofs.YtfcjfjmjcmanaaaW.PrintMore
attribute [local go_sem ↓] Go.wp_at_zero Go.wp_at_succ
variable {W W' : World} {T Tv T4 T5 : Nat → Prop} {b : Nat} {v v4 v5 : Value} {vs us : List Value} {L : List Int} {Ls : List (List Int)} {ops : Array Oper} {rest : List Oper} {o : Oper} {a : Act} {Q : Exit → Act → World → Prop} {K : Act → World → Prop} {E : Prop}
theorem wp_lpush (s x : Operand) (ho : o.op = .call { callee := .builtin .append, args := #[s, x], argTypes := #[37, 37] }) (h : Lists W T v4 vs Ls) (hv : SlB W Tv v L) (hap : ∀ j, v.ownBlock = some j → ¬ T j) (hL : L.length + 10 ≤ 4398046511104) (hn : vs.length + 11 ≤ 4398046511104) {ad : Addr} {c : Nat} (hs : a.eval s = v4) (hx : a.eval x = .slice (some ad) 1 c) (hc : W.cell? ad = some v)
    (hK : ∀ v4' W', Lists W' (fun j => T j ∨ v.ownBlock = some j ∨ j = W.heap.size ∧ j < W'.heap.size) v4' (vs ++ [v]) (Ls ++ [L]) → Turn T W W' → (∀ j, v4'.ownBlock = some j → T j ∨ j = W.heap.size) → K (a.put o.dst v4') W') : Oper.wp Try.prog o a W K Q := by
  obtain ⟨v4', W', hr, h1, h2, _, h3⟩ := h.push hv hap hL hn (c := c) hc o.type
  unfold Oper.wp execOp
  simp only [ho, resolve, invoke, builtin, Sem.run_bind, Sem.run_pure, Result.andThen_ok, List.map_toArray, List.map_cons, List.map_nil, hs, hx, hr]
  exact hK v4' W' h1 h2 h3
theorem wpList_lpush (hgd : o.guard = none) (s x : Operand) (ho : o.op = .call { callee := .builtin .append, args := #[s, x], argTypes := #[37, 37] }) (h : Lists W T v4 vs Ls) (hv : SlB W Tv v L) (hap : ∀ j, v.ownBlock = some j → ¬ T j) (hL : L.length + 10 ≤ 4398046511104) (hn : vs.length + 11 ≤ 4398046511104) {ad : Addr} {c : Nat} (hs : a.eval s = v4) (hx : a.eval x = .slice (some ad) 1 c) (hc : W.cell? ad = some v)
    (hK : ∀ v4' W', Lists W' (fun j => T j ∨ v.ownBlock = some j ∨ j = W.heap.size ∧ j < W'.heap.size) v4' (vs ++ [v]) (Ls ++ [L]) → Turn T W W' → (∀ j, v4'.ownBlock = some j → T j ∨ j = W.heap.size) → wpList Try.prog ops Q rest (a.put o.dst v4') W') : wpList Try.prog ops Q (o :: rest) a W :=
  wpList_plain hgd fun K hK' => wp_lpush s x ho h hv hap hL hn hs hx hc (fun v4' W' h1 h2 h3 => hK' _ _ (hK v4' W' h1 h2 h3))
theorem step_lpush (hgd : o.guard = none) (s x : Operand) (ho : o.op = .call { callee := .builtin .append, args := #[s, x], argTypes := #[37, 37] }) (h : Lists W T v4 vs Ls) (hv : SlB W Tv v L) (hap : ∀ j, v.ownBlock = some j → ¬ T j) (hL : L.length + 10 ≤ 4398046511104) (hn : vs.length + 11 ≤ 4398046511104) {ad : Addr} {c : Nat} (hs : a.eval s = v4) (hx : a.eval x = .slice (some ad) 1 c) (hc : W.cell? ad = some v)
    (hK : ∀ v4' W', Lists W' (fun j => T j ∨ v.ownBlock = some j ∨ j = W.heap.size ∧ j < W'.heap.size) v4' (vs ++ [v]) (Ls ++ [L]) → Turn T W W' → (∀ j, v4'.ownBlock = some j → T j ∨ j = W.heap.size) → K (a.put o.dst v4') W') : if Region.wanted o (yielded ops a.tmps) = true then Oper.wp Try.prog o a W K Q else E := by
  have hw : Region.wanted o (yielded ops a.tmps) = true := by simp [Region.wanted, hgd]
  rw [if_pos hw]
  exact wp_lpush s x ho h hv hap hL hn hs hx hc hK
theorem step_copy (hgd : o.guard = none) (s x : Operand) (ho : o.op = .call { callee := .builtin .append, args := #[s, x], argTypes := #[26, 26] }) {g : Nat} (hg : W.heap[g]? = some (.cells #[] 3 (0, 0))) (hv : SlB W Tv v L) (hl : L.length ≤ 4398046511104) (hs : a.eval s = .slice (some ⟨g, 0, none⟩) 0 0) (hx : a.eval x = v)
    (hK : ∀ u W', SlB W' (fun j => j = g ∨ j = W.heap.size) u L → W.grownBy W' (some g) → K (a.put o.dst u) W') : if Region.wanted o (yielded ops a.tmps) = true then Oper.wp Try.prog o a W K Q else E := by
  have hw : Region.wanted o (yielded ops a.tmps) = true := by simp [Region.wanted, hgd]
  rw [if_pos hw]
  obtain ⟨u, W', hr, h1, h2⟩ := hv.copy hg hl o.type
  unfold Oper.wp execOp
  simp only [ho, resolve, invoke, builtin, Sem.run_bind, Sem.run_pure, Result.andThen_ok, List.map_toArray, List.map_cons, List.map_nil, hs, hx, hr]
  exact hK u W' h1 h2
/-- The struct's cell is written. -/
theorem bk_set4 {v4' : Value} (h : W.heap[b]? = some (.cells #[.slice none 0 0, .slice none 0 0, .slice none 0 0, .slice none 0 0, v4, v5, .slice none 0 0, .slice none 0 0, .slice none 0 0, .slice none 0 0, .slice none 0 0, .slice none 0 0, .slice none 0 0, .slice none 0 0] 42 (0, 0))) :
    (W.setCell ⟨b, 4, none⟩ v4').heap[b]? = some (.cells #[.slice none 0 0, .slice none 0 0, .slice none 0 0, .slice none 0 0, v4', v5, .slice none 0 0, .slice none 0 0, .slice none 0 0, .slice none 0 0, .slice none 0 0, .slice none 0 0, .slice none 0 0, .slice none 0 0] 42 (0, 0)) := row_set h
theorem bk_set5 {v5' : Value} (h : W.heap[b]? = some (.cells #[.slice none 0 0, .slice none 0 0, .slice none 0 0, .slice none 0 0, v4, v5, .slice none 0 0, .slice none 0 0, .slice none 0 0, .slice none 0 0, .slice none 0 0, .slice none 0 0, .slice none 0 0, .slice none 0 0] 42 (0, 0))) :
    (W.setCell ⟨b, 5, none⟩ v5').heap[b]? = some (.cells #[.slice none 0 0, .slice none 0 0, .slice none 0 0, .slice none 0 0, v4, v5', .slice none 0 0, .slice none 0 0, .slice none 0 0, .slice none 0 0, .slice none 0 0, .slice none 0 0, .slice none 0 0, .slice none 0 0] 42 (0, 0)) := row_set h
theorem copy_keep {W2 w5 X : World} {o : Obj} (hX : X.heap = (W2.alloc o).heap) (hg : X.grownBy w5 (some W2.heap.size)) : W2.heap.size < w5.heap.size ∧ ∀ i, i < W2.heap.size → w5.heap[i]? = W2.heap[i]? ∧ ∀ o2, (w5.alloc o2).heap[i]? = W2.heap[i]? := by
  have hs := hg.size
  rw [hX] at hs
  simp only [World.size_alloc] at hs
  refine ⟨by omega, fun i hi => ?_⟩
  have h1 : w5.heap[i]? = W2.heap[i]? := by
    rw [hg.block i (by rw [hX]; simp only [World.size_alloc]; omega) (fun e => by injection e with e; omega), hX]
    exact Below.heap_alloc W2 _ i hi
  exact ⟨h1, fun o2 => (Below.heap_alloc w5 _ i (by omega)).trans h1⟩
theorem copy_turn {W2 w5 X : World} (hX : Turn (fun _ => False) W2 X) (hg : X.grownBy w5 (some W2.heap.size)) : Turn (fun _ => False) W2 w5 :=
  hX.trans (Turn.of_grown (T := fun j => j = W2.heap.size) hg (fun j hj => by cases hj; rfl)) (fun q e => .inr (by omega))
theorem bk_done {W2 w5 w6 X : World} {T4' T5' ov : Nat → Prop} {v4' v5' : Value} {vs' us' : List Value} {Ls' : List (List Int)} (HB : BkAt W T4 T5 b v4 v5 vs us Ls) (S2 : W.heap.size < W2.heap.size) (T2 : Turn (fun i => T4 i ∨ T5 i ∨ i = b) W W2)
    (HB2 : W2.heap[b]? = some (.cells #[.slice none 0 0, .slice none 0 0, .slice none 0 0, .slice none 0 0, v4', v5, .slice none 0 0, .slice none 0 0, .slice none 0 0, .slice none 0 0, .slice none 0 0, .slice none 0 0, .slice none 0 0, .slice none 0 0] 42 (0, 0)))
    (L42 : Lists W2 T4' v4' vs' Ls') (h4 : ∀ i, T4' i → i < W2.heap.size ∧ ¬ T5 i ∧ i ≠ b ∧ (T4 i ∨ ov i ∨ W.heap.size ≤ i)) (TG : Turn (fun _ => False) W2 w5) (TX : Turn (fun _ => False) w5 X) (T6 : Turn T5 X w6) (L6 : Lists w6 T5' v5' us' Ls') (h5 : ∀ i, T5' i → (T5 i ∨ W2.heap.size ≤ i) ∧ i < w6.heap.size) :
    BkAt (w6.setCell ⟨b, 5, none⟩ v5') T4' T5' b v4' v5' vs' us' Ls' ∧ Turn (fun i => T4 i ∨ T5 i ∨ i = b) W (w6.setCell ⟨b, 5, none⟩ v5') ∧ ∀ i, T4' i ∨ T5' i → T4 i ∨ T5 i ∨ ov i ∨ W.heap.size ≤ i := by
  have T26 : Turn T5 W2 w6 := ((TG.mono (fun _ h => h.elim)).trans (TX.mono (fun _ h => h.elim)) (fun _ h => .inl h)).trans T6 (fun _ h => .inl h)
  have tb := turn1 w6 b 5 v5'
  have hbl : b < W.heap.size := (Array.getElem?_eq_some_iff.1 HB.hb).1
  have hb6 : w6.heap[b]? = W2.heap[b]? := T26.block b (by omega) HB.b5
  have sz := T26.size
  refine ⟨⟨bk_set5 (hb6.trans HB2), L42.kept (fun i hi hl => (tb.block i (by omega) (h4 i hi).2.2.1).trans (T26.block i hl (h4 i hi).2.1)), L6.kept (fun i hi hl => tb.block i hl (fun e => ?_)), fun i hi hj => ?_, fun hi => (h4 b hi).2.2.1 rfl, fun hi => ?_, fun i hi => ?_⟩, (T2.trans (T26.mono (fun _ h => .inr (.inl h))) (fun _ h => .inl h)).trans (tb.mono (fun _ h => .inr (.inr h))) (fun _ h => .inl h), fun i hi => ?_⟩
  · rw [e] at hi
    rcases (h5 b hi).1 with z | z
    · exact HB.b5 z
    · omega
  · rcases (h5 i hj).1 with z | z
    · exact (h4 i hi).2.1 z
    · have := (h4 i hi).1; omega
  · rcases (h5 b hi).1 with z | z
    · exact HB.b5 z
    · omega
  · have : (w6.setCell ⟨b, 5, none⟩ v5').heap.size = w6.heap.size := by simp
    rw [this]
    rcases hi with hi | hi
    · have := (h4 i hi).1; omega
    · exact (h5 i hi).2
  · rcases hi with hi | hi
    · rcases (h4 i hi).2.2.2 with z | z | z
      · exact .inl z
      · exact .inr (.inr (.inl z))
      · exact .inr (.inr (.inr z))
    · rcases (h5 i hi).1 with z | z
      · exact .inr (.inl z)
      · exact .inr (.inr (.inr (by omega)))
theorem copy_new {W2 X w5 : World} {o : Obj} (hX : X.heap = (W2.alloc o).heap) {u : Value} {L : List Int} (hu : SlB w5 (fun j => j = W2.heap.size ∨ j = X.heap.size) u L) : ∀ j, u.ownBlock = some j → W2.heap.size ≤ j := fun j hj => by
  have h1 := (hu.own hj).1
  rw [hX] at h1
  simp only [World.size_alloc] at h1
  omega
set_option maxRecDepth 100000
set_option maxHeartbeats 8000000
theorem ints_calls (hbk : BkAt W T4 T5 b v4 v5 vs us Ls) (hv : SlB W Tv v L) (hap : ∀ j, v.ownBlock = some j → ¬ T4 j ∧ ¬ T5 j ∧ j ≠ b) (hL : L.length + 10 ≤ 4398046511104) (hn : vs.length + 11 ≤ 4398046511104) :
    Calls Try.prog 27 #[.pointer (some ⟨b, 0, none⟩), v] W fun e W' => (∃ r, e = .returned r) ∧ ∃ T4' T5' v4' v5' u, BkAt W' T4' T5' b v4' v5' (vs ++ [v]) (us ++ [u]) (Ls ++ [L]) ∧ Turn (fun i => T4 i ∨ T5 i ∨ i = b) W W' ∧ ∀ i, T4' i ∨ T5' i → T4 i ∨ T5 i ∨ v.ownBlock = some i ∨ W.heap.size ≤ i := by
  obtain ⟨c0, c2, c4, c5, c6, c8, c10, c12⟩ := hbk.cells
  obtain ⟨Av, cv, eV⟩ := hv.slice
  have HB := Aside0.mk hbk
  have HV := Aside0.mk hv
  have HAP := Aside0.mk hap
  have HL := Aside0.mk hL
  have HN := Aside0.mk hn
  have HBL := Aside0.mk (Array.getElem?_eq_some_iff.1 hbk.hb).1
  have HEV := Aside0.mk eV
  have h1c : v.oneCell' = true := by rw [eV]; rfl
  subst eV
  clear hbk hv hap hL hn c0 c2 c6 c8 c10 c12
  go_enter Try.func27, Try.ntmps27
  go_wp2_with ((with_reducible refine gate_builtin (b := .append) (xs := #[.tmp 8, .tmp 10]) rfl ?_); at_builtin; refine wpList_lpush rfl _ _ rfl (HB.out.l4.kept (fun i hi hl => Below.heap_alloc _ _ _ hl)) (HV.out.kept (fun j hj => Below.heap_alloc _ _ _ (HV.out.own hj).2)) (fun j hj => (HAP.out j hj).1) HL.out HN.out rfl rfl (by simp) ?_; intro v4' w1 l1 t1 o1; obtain ⟨A4', d4', e4, _⟩ := l1.row.slice; rw [List.length_append, List.length_singleton] at e4; subst e4; have hb1 : w1.heap[b]? = _ := (t1.block b (by simp; exact Nat.lt_succ_of_lt HBL.out) HB.out.b4).trans ((Below.heap_alloc _ _ _ HBL.out).trans HB.out.hb); have q4 : w1.cell? ⟨b, 4, none⟩ = some v4 := (by rw [cell_of_row w1 b 4 _ 42 (0, 0) hb1]; rfl); have f4 : w1.frozen? ⟨b, 4, none⟩ = false := (by simp [World.frozen?, hb1]); have HB1 := Aside0.mk hb1; have L1 := Aside0.mk l1; have T1 := Aside0.mk t1; have O1 := Aside0.mk o1; clear l1 t1 o1 hb1)
  have hs1 := T1.out.size
  simp only [World.size_alloc] at hs1
  have t2 : Turn (fun i => T4 i ∨ T5 i ∨ i = b) W (w1.setCell ⟨b, 4, none⟩ (.slice A4' (vs.length + 1) d4')) :=
    ((Turn.of_below (below_alloc (Below.refl _ _) _)).trans (T1.out.mono (fun _ h => .inl h)) (fun _ h => .inl h)).trans (Turn.setCell _ _ _ (.inr (.inr rfl))) (fun _ h => .inl h)
  have hb2 := bk_set4 (v4' := .slice A4' (vs.length + 1) d4') HB1.out
  have tb := turn1 w1 b 4 (.slice A4' (vs.length + 1) d4')
  have sz2 : (w1.setCell ⟨b, 4, none⟩ (.slice A4' (vs.length + 1) d4')).heap.size = w1.heap.size := by simp
  have l42 := L1.out.kept (W' := w1.setCell ⟨b, 4, none⟩ (.slice A4' (vs.length + 1) d4')) (fun i hi hl => tb.block i hl (fun e => by
    rw [e] at hi
    rcases hi with hi | hi | hi
    · exact HB.out.b4 hi
    · exact (HAP.out b hi).2.2 rfl
    · have := HBL.out; simp at hi; omega))
  have k5 : ∀ i, T5 i → (w1.setCell ⟨b, 4, none⟩ (.slice A4' (vs.length + 1) d4')).heap[i]? = W.heap[i]? := fun i hi => by
    have hl := HB.out.lt i (.inr hi)
    exact (tb.block i (by omega) (fun e => HB.out.b5 (by rw [← e]; exact hi))).trans ((T1.out.block i (by simp; omega) (fun z => HB.out.ap i z hi)).trans (Below.heap_alloc _ _ _ hl))
  have l52 := HB.out.l5.kept (fun i hi _ => k5 i hi)
  have v2 := HV.out.kept (W' := w1.setCell ⟨b, 4, none⟩ (.slice A4' (vs.length + 1) d4')) (fun j hj => by
    have hl := (HV.out.own hj).2
    have ha := HAP.out j hj
    exact (tb.block j (by omega) ha.2.2).trans ((T1.out.block j (by simp; omega) ha.1).trans (Below.heap_alloc _ _ _ hl)))
  have S2 := Aside0.mk (show W.heap.size < (w1.setCell ⟨b, 4, none⟩ (.slice A4' (vs.length + 1) d4')).heap.size ∧ w1.heap.size = (w1.setCell ⟨b, 4, none⟩ (.slice A4' (vs.length + 1) d4')).heap.size by simp; omega)
  have T2 := Aside0.mk t2
  have HB2 := Aside0.mk hb2
  have L42 := Aside0.mk l42
  have L52 := Aside0.mk l52
  have V2 := Aside0.mk v2
  clear t2 hb2 tb sz2 l42 k5 l52 v2 c4 c5 q4 f4 O1 T1 L1 HB1 hs1
  generalize w1.setCell ⟨b, 4, none⟩ (.slice A4' (vs.length + 1) d4') = W2 at S2 T2 HB2 L42 L52 V2 ⊢
  have cf : Aside0 (∀ X : World, X.heap[b]? = W2.heap[b]? → X.cell? ⟨b, 5, none⟩ = some v5 ∧ X.frozen? ⟨b, 5, none⟩ = false) := ⟨fun X hX => by
    have h := hX.trans HB2.out
    exact ⟨by rw [cell_of_row X b 5 _ 42 (0, 0) h]; rfl, by simp [World.frozen?, h]⟩⟩
  have hb2l := Aside0.mk (show b < W2.heap.size by have := HBL.out; have := S2.out; omega)
  have q5 := (cf.out W2 rfl).1
  have q5a := (cf.out (W2.alloc (.cells #[] 3)) (Below.heap_alloc _ _ _ hb2l.out)).1
  have HUS : Aside0 (us.length + 11 ≤ 4398046511104) := ⟨by have h1 := HB.out.l4.len; have h2 := HB.out.l5.len; have := HN.out; omega⟩
  go_region_law
    (first
      | (refine step_copy rfl _ _ (by rfl) (g := W2.heap.size) (by first | exact World.alloc_heap_new W2 _ | exact World.alloc_heap_new _ _) (V2.out.kept (fun j hj => Below.heap_alloc W2 (.cells #[] 3) j (V2.out.own hj).2)) (by have := HL.out; omega) (by rfl) (by rfl) ?_; intro u w5 hu hgu; obtain ⟨Au, cu, eu⟩ := hu.slice; subst eu; have K52 := Aside0.mk (copy_keep (o := .cells #[] 3) (by rfl) hgu); have TG := Aside0.mk (copy_turn (Turn.of_below (by repeat (first | exact Below.refl _ _ | apply below_drew | apply below_alloc))) hgu); have UP := Aside0.mk (copy_new (o := .cells #[] 3) (by rfl) hu); have q5b := (cf.out w5 (K52.out.2 b hb2l.out).1).1; have q5c := (cf.out (w5.alloc (.cells #[.slice Au L.length cu] 26)) ((K52.out.2 b hb2l.out).2 _)).1; have HU := Aside0.mk hu; clear hu hgu)
      | (refine step_lpush rfl _ _ (by rfl) (L52.out.kept (fun i hi hl => (K52.out.2 i hl).2 _)) (HU.out.kept (fun j hj => Below.heap_alloc w5 (.cells #[.slice Au L.length cu] 26) j (HU.out.own hj).2)) (fun j hj z => by have h1 := UP.out j hj; have h2 := HB.out.lt j (.inr z); have h3 := S2.out.1; omega) HL.out HUS.out (by rfl) (by rfl) (by simp) ?_; intro v5' w6 l6 t6 o6; obtain ⟨A5', d5', e5, _⟩ := l6.row.slice; rw [List.length_append, List.length_singleton] at e5; subst e5; have hb6 : w6.heap[b]? = W2.heap[b]? := (t6.block b (by have := hb2l.out; have := K52.out.1; simp; omega) HB.out.b5).trans ((K52.out.2 b hb2l.out).2 _); obtain ⟨q6, f6⟩ := cf.out w6 hb6; have L6 := Aside0.mk l6; have T6 := Aside0.mk t6; have HB6 := Aside0.mk hb6; clear l6 t6 o6 hb6))
  all_goals go_wp2
  all_goals go_end0
  all_goals (
    refine ⟨⟨_, rfl⟩, _, _, _, _, _, bk_done (ov := fun i => (Value.slice Av L.length cv).ownBlock = some i) HB.out S2.out.1 T2.out HB2.out L42.out (fun i hi => ?_) TG.out (Turn.of_below (by repeat (first | exact Below.refl _ _ | apply below_drew | apply below_alloc))) T6.out L6.out (fun i hi => ?_)⟩
    · have s2 := S2.out
      rcases hi with hi | hi | hi
      · have h1 := HB.out.lt i (.inl hi)
        exact ⟨by omega, fun z => HB.out.ap i hi z, fun e => HB.out.b4 (by rw [← e]; exact hi), .inl hi⟩
      · have h1 := HAP.out i hi
        have h2 := (HV.out.own hi).2
        exact ⟨by omega, h1.2.1, h1.2.2, .inr (.inl hi)⟩
      · have h2 := hi.1
        have h3 := HBL.out
        simp only [World.size_alloc] at h2
        exact ⟨by have := hi.2; omega, fun z => by have := HB.out.lt i (.inr z); omega, by omega, .inr (.inr (by omega))⟩
    · have t6 := T6.out.size
      have k52 := K52.out.1
      have s2 := S2.out
      simp only [World.size_alloc] at t6
      rcases hi with hi | hi | hi
      · have h1 := HB.out.lt i (.inr hi)
        exact ⟨.inl hi, by omega⟩
      · have h1 := UP.out i hi
        have h2 := (HU.out.own hi).2
        exact ⟨.inr h1, by omega⟩
      · have h1 := hi.1
        simp only [World.size_alloc] at h1
        exact ⟨.inr (by omega), hi.2⟩)
end Go.Proofs.Ytfcjfjmjcmanaaa.B
