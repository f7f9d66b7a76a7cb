/- Boards: the board as numbers, and how it lies in memory: a row of handlers, a map of slices whose rows may begin in their midst. Boards: a board in memory (Bat), and what the operations do to it as numbers. Boards: the walks of has, ready, Start, Finish, State. Boards: the walks of Block, Waiting, First, Wake. Boards: the walk of Wake. Boards: the walks of New and Ready. Boards: the walks of Longest and Pick. -/
import Derived.Test.YtfcjfjmjcmanaaaLz
import Derived.Maps.OwnSet
import Derived.Maps.AppendAt
import Derived.Maps.Views
import Derived.ArgAppend
import Derived.Deep.RegionHeld3
import Derived.Deep.DrawnRows
import Derived.Laws.MakeOwn
import Derived.Carry
import Derived.BigQuiet
import Derived.Deep.QuietTactic
set_option linter.unusedVariables false
namespace Go.Proofs.Ytfcjfjmjcmanaaa.B
open Go Go.RowKit Go.Proofs.YtfcjfjmjcmanaaaW.PrintWords Go.Proofs.YtfcjfjmjcmanaaaW.PrintLast Go.Proofs.YtfcjfjmjcmanaaaW.PrintMore
open Go.Maps (Keyed)
/-- A step that turns blocks of T alone, and lays new ones. -/
structure Turn (T : Nat → Prop) (A B : World) : Prop where
  os : B.os = A.os
  tape : B.tape = A.tape
  output : B.output = A.output
  size : A.heap.size ≤ B.heap.size
  block : ∀ k, k < A.heap.size → ¬ T k → B.heap[k]? = A.heap[k]?
theorem Turn.refl (T : Nat → Prop) (A : World) : Turn T A A := ⟨rfl, rfl, rfl, Nat.le_refl _, fun _ _ _ => rfl⟩
theorem Turn.trans {T T' : Nat → Prop} {A B C : World} (h : Turn T A B) (k : Turn T' B C) (hT : ∀ b, T' b → T b ∨ A.heap.size ≤ b) : Turn T A C :=
  ⟨k.os.trans h.os, k.tape.trans h.tape, k.output.trans h.output, Nat.le_trans h.size k.size, fun b hb hn => (k.block b (Nat.lt_of_lt_of_le hb h.size) (fun z => (hT b z).elim hn (fun y => by omega))).trans (h.block b hb hn)⟩
theorem Turn.mono {T T' : Nat → Prop} {A B : World} (h : Turn T A B) (k : ∀ b, T b → T' b) : Turn T' A B := ⟨h.os, h.tape, h.output, h.size, fun b hb hn => h.block b hb fun z => hn (k b z)⟩
theorem Turn.below {T : Nat → Prop} {A B : World} (h : Turn T A B) {n : Nat} (hT : ∀ b, T b → n ≤ b) (hn : n ≤ A.heap.size) : Below n A B :=
  ⟨h.os, h.tape, h.output, h.size, fun k hk => h.block k (Nat.lt_of_lt_of_le hk hn) (fun z => by have := hT k z; omega)⟩
theorem Turn.of_below {T : Nat → Prop} {A B : World} (h : Below A.heap.size A B) : Turn T A B := ⟨h.os, h.tape, h.output, h.size, fun k hk _ => h.block k hk⟩
theorem Turn.of_grown {T : Nat → Prop} {A B : World} {row : Option Nat} (h : A.grownBy B row) (hr : ∀ j, row = some j → T j) : Turn T A B :=
  ⟨h.os, h.tape, h.output, h.size, fun k hk hn => h.block k hk (fun e => hn (hr k e.symm))⟩
theorem Turn.setCell {T : Nat → Prop} (A : World) (a : Addr) (v : Value) (h : T a.block) : Turn T A (A.setCell a v) :=
  ⟨rfl, rfl, rfl, by simp, fun k _ hn => Below.heap_setCell A a v k (fun e => hn (by rw [e]; exact h))⟩
theorem Turn.drewN {T : Nat → Prop} {A B : World} (h : Turn T A B) (n : Nat) : Turn T A (B.drewN n) := ⟨h.os, h.tape, h.output, h.size, h.block⟩
theorem Turn.kept {T : Nat → Prop} {A B : World} (h : Turn T A B) : Kept A B T := ⟨h.size, h.block⟩
theorem row_set {W : World} {g o : Nat} {cur : Array Value} {t : TypeId} {fr : Nat × Nat} {v : Value} (h : W.heap[g]? = some (.cells cur t fr)) : (W.setCell ⟨g, o, none⟩ v).heap[g]? = some (.cells (cur.setIfInBounds o v) t fr) := by
  have hl := (Array.getElem?_eq_some_iff.1 h).1
  have hr' : W.heap[g] = .cells cur t fr := (Array.getElem?_eq_some_iff.1 h).2
  unfold World.setCell
  rw [Array.getElem?_eq_getElem (by simp; exact hl), Array.getElem_modify, if_pos rfl, hr']
  rfl
/-! ### the row of handlers -/
abbrev Hd := Int × Int × Int
def HRow (W : World) (g : Nat) (l : List Hd) : Prop :=
  ∃ cur, W.heap[g]? = some (.cells cur 127 (0, 0)) ∧ cur.size = l.length * 3 ∧ ∀ i h, l[i]? = some h → cur[i * 3]? = some (.int .i64 h.1) ∧ cur[i * 3 + 1]? = some (.int .i64 h.2.1) ∧ cur[i * 3 + 2]? = some (.int .i64 h.2.2)
variable {W W' : World} {g p m N : Nat} {l : List Hd} {T T' : Nat → Prop}
theorem HRow.cells (h : HRow W g l) {i : Nat} {x : Hd} (hi : l[i]? = some x) : W.cell? ⟨g, i * 3, none⟩ = some (.int .i64 x.1) ∧ W.cell? ⟨g, i * 3 + 1, none⟩ = some (.int .i64 x.2.1) ∧ W.cell? ⟨g, i * 3 + 2, none⟩ = some (.int .i64 x.2.2) := by
  obtain ⟨cur, hr, hs, hc⟩ := h
  rw [cell_of_row W g _ cur 127 (0, 0) hr, cell_of_row W g _ cur 127 (0, 0) hr, cell_of_row W g _ cur 127 (0, 0) hr]
  exact hc i x hi
theorem HRow.free (h : HRow W g l) (o : Nat) : W.frozen? ⟨g, o, none⟩ = false := by
  obtain ⟨cur, hr, _⟩ := h
  simp [World.frozen?, hr]
theorem HRow.lt (h : HRow W g l) : g < W.heap.size := by obtain ⟨cur, hr, _⟩ := h; exact (Array.getElem?_eq_some_iff.1 hr).1
theorem HRow.of_block (h : HRow W g l) (e : W'.heap[g]? = W.heap[g]?) : HRow W' g l := by obtain ⟨cur, hr, r⟩ := h; exact ⟨cur, e.trans hr, r⟩
theorem HRow.set (h : HRow W g l) (i : Nat) (x : Hd) : HRow (((W.setCell ⟨g, i * 3, none⟩ (.int .i64 x.1)).setCell ⟨g, i * 3 + 1, none⟩ (.int .i64 x.2.1)).setCell ⟨g, i * 3 + 2, none⟩ (.int .i64 x.2.2)) g (l.set i x) := by
  obtain ⟨cur, hr, hs, hc⟩ := h
  refine ⟨_, row_set (row_set (row_set hr)), by simp [hs], fun j y hj => ?_⟩
  have hjl : j < l.length := by
    have := (List.getElem?_eq_some_iff.1 hj).1
    simpa using this
  by_cases e : i = j
  · subst e
    rw [List.getElem?_set_self hjl] at hj
    cases hj
    refine ⟨?_, ?_, ?_⟩ <;> simp [Array.getElem?_setIfInBounds, hs] <;> omega
  · rw [List.getElem?_set_ne e] at hj
    obtain ⟨h1, h2, h3⟩ := hc j y hj
    refine ⟨?_, ?_, ?_⟩
    · rw [Array.getElem?_setIfInBounds, if_neg (by omega), Array.getElem?_setIfInBounds, if_neg (by omega), Array.getElem?_setIfInBounds, if_neg (by omega), h1]
    · rw [Array.getElem?_setIfInBounds, if_neg (by omega), Array.getElem?_setIfInBounds, if_neg (by omega), Array.getElem?_setIfInBounds, if_neg (by omega), h2]
    · rw [Array.getElem?_setIfInBounds, if_neg (by omega), Array.getElem?_setIfInBounds, if_neg (by omega), Array.getElem?_setIfInBounds, if_neg (by omega), h3]
theorem HRow.set3 (h : HRow W g l) (i : Nat) {x : Hd} (hx : l[i]? = some x) (c : Int) : HRow (W.setCell ⟨g, i * 3 + 2, none⟩ (.int .i64 c)) g (l.set i (x.1, x.2.1, c)) := by
  obtain ⟨cur, hr, hs, hc⟩ := h
  refine ⟨_, row_set hr, by simp [hs], fun j y hj => ?_⟩
  have hjl : j < l.length := by
    have := (List.getElem?_eq_some_iff.1 hj).1
    simpa using this
  by_cases e : i = j
  · subst e
    rw [List.getElem?_set_self hjl] at hj
    cases hj
    obtain ⟨h1, h2, h3⟩ := hc i x hx
    refine ⟨?_, ?_, ?_⟩
    · rw [Array.getElem?_setIfInBounds, if_neg (by omega), h1]
    · rw [Array.getElem?_setIfInBounds, if_neg (by omega), h2]
    · rw [Array.getElem?_setIfInBounds, if_pos rfl, if_pos (by omega)]
  · rw [List.getElem?_set_ne e] at hj
    obtain ⟨h1, h2, h3⟩ := hc j y hj
    refine ⟨?_, ?_, ?_⟩
    · rw [Array.getElem?_setIfInBounds, if_neg (by omega), h1]
    · rw [Array.getElem?_setIfInBounds, if_neg (by omega), h2]
    · rw [Array.getElem?_setIfInBounds, if_neg (by omega), h3]
/-! ### the map -/
def nilv : Value := .slice none 0 0
def RV : Value → Option (DataW Value × List MemPlace) := fun v => some (.held v, [])
def MapAt (W : World) (m N : Nat) (f : Int → Value) : Prop := ∃ D : DataW Value, W.ownsMap Try.prog 3 RV m N D ∧ ∀ k, (Lit.int .i64 k).wf = true → D.atKey (.int .i64 k) (.held nilv) = .held (f k)
def upd {α : Type} (f : Int → α) (k : Int) (v : α) : Int → α := fun x => if x = k then v else f x
theorem law3 : Keyed Try.prog 3 := Go.Maps.int_keyed Try.underlying3
theorem zero26 (w : World) : (zeroValue 26).run Try.prog w = .ok (.slice none 0 0) w := by kernel_rfl
theorem key3 {k : Int} (h : (Lit.int .i64 k).wf = true) : keyOf Try.prog 3 (.int .i64 k) = some (.int .i64 k) := Go.Maps.keyOf_int_mk Try.underlying3 h
variable {f : Int → Value}
theorem MapAt.lt (h : MapAt W m N f) : m < W.heap.size := by obtain ⟨D, h1, _⟩ := h; exact h1.lt
theorem MapAt.made (W : World) : MapAt (W.alloc (.map #[] 0)) W.heap.size 0 (fun _ => nilv) := ⟨_, World.ownsMap_made W _ _ _, fun k _ => by simp [DataW.atKey]⟩
theorem MapAt.of_block (h : MapAt W m N f) (hs : W.heap.size ≤ W'.heap.size) (e : W'.heap[m]? = W.heap[m]?) : MapAt W' m N f := by
  obtain ⟨D, ⟨es, clock, hb, r⟩, h2⟩ := h
  exact ⟨D, ⟨es, clock, e.trans hb, r⟩, h2⟩
theorem MapAt.mono {N' : Nat} (h : MapAt W m N f) (hN : N ≤ N') : MapAt W m N' f := by obtain ⟨D, h1, h2⟩ := h; exact ⟨D, h1.mono hN, h2⟩
theorem MapAt.look (h : MapAt W m N f) {k : Int} (hk : (Lit.int .i64 k).wf = true) : (Instr.lookup 123 (.map (some m)) (.int .i64 k) false).run Try.prog W = .ok (f k) W := by
  obtain ⟨D, h1, h2⟩ := h
  obtain ⟨v, ps, hr, hv⟩ := h1.lookup law3 Try.underlying123 (zero26 W) (zd := .held nilv) (zp := []) rfl (key3 hk)
  rw [h2 k hk] at hv
  simp only [RV, Option.some.injEq, Prod.mk.injEq, DataW.held.injEq] at hv
  rw [hr, hv.1]
theorem MapAt.store (h : MapAt W m N f) (hN : N < maxLen) {k : Int} (hk : (Lit.int .i64 k).wf = true) (v : Value) :
    ∃ W', (Instr.mapUpdate 123 (.map (some m)) (.int .i64 k) v).run Try.prog W = .ok () W' ∧ MapAt W' m (N + 1) (upd f k v) ∧ W.grownBy W' (some m) := by
  obtain ⟨D, h1, h2⟩ := h
  have hm : Go.Maps.IsMap D := by obtain ⟨es, clock, _, _, _, rfl⟩ := h1; exact ⟨_, rfl⟩
  obtain ⟨W', hr, ho, ht⟩ := h1.store law3 Try.underlying123 hN (key3 hk) (d := .held v) (ps := []) (val := v) rfl
  refine ⟨W', hr, ⟨_, ho, fun k' hk' => ?_⟩, ht.grown⟩
  unfold upd
  by_cases e : k' = k
  · rw [if_pos e, e, Go.Maps.atKey_put_same hm (law3.key (key3 hk))]
  · rw [if_neg e, Go.Maps.atKey_put_other (by intro h; cases h; exact e rfl)]
    exact h2 k' hk'
theorem MapAt.drop (h : MapAt W m N f) {k : Int} (hk : (Lit.int .i64 k).wf = true) (ty : TypeId) :
    ∃ W', (Builtin.delete_ #[123, 3] ty #[.map (some m), .int .i64 k]).run Try.prog W = .ok (.tuple #[]) W' ∧ MapAt W' m N (upd f k nilv) ∧ W.grownBy W' (some m) := by
  obtain ⟨D, h1, h2⟩ := h
  obtain ⟨W', hr, ho, ht⟩ := h1.drop law3 Try.underlying123 (key3 hk) ty
  refine ⟨W', hr, ⟨_, ho, fun k' hk' => ?_⟩, ht.grown⟩
  unfold upd
  by_cases e : k' = k
  · rw [if_pos e, e, Go.Maps.atKey_del_same]
  · rw [if_neg e, Go.Maps.atKey_del_other (by intro h; cases h; exact e rfl)]
    exact h2 k' hk'
/-! ### a slice of numbers in the midst of a row -/
def Sl (W : World) (T : Nat → Prop) (v : Value) (L : List Int) : Prop :=
  (v = .slice none 0 0 ∧ L = []) ∨ ∃ j off cap cur, v = .slice (some ⟨j, off, none⟩) L.length cap ∧ T j ∧ 0 < L.length ∧ L.length ≤ cap ∧ cap ≤ maxLen ∧ off + cap ≤ cur.size ∧ W.heap[j]? = some (.cells cur 3 (0, 0)) ∧ ∀ i x, L[i]? = some x → cur[off + i]? = some (.int .i64 x)
variable {v : Value} {L : List Int}
theorem Sl.nil (W : World) (T : Nat → Prop) : Sl W T nilv [] := .inl ⟨rfl, rfl⟩
theorem Sl.mono (h : Sl W T v L) (hT : ∀ j, v.ownBlock = some j → T j → T' j) : Sl W T' v L := by
  rcases h with h | ⟨j, off, cap, cur, rfl, h1, r⟩
  · exact .inl h
  · exact .inr ⟨j, off, cap, cur, rfl, hT j rfl h1, r⟩
theorem Sl.kept (h : Sl W T v L) (hk : ∀ j, v.ownBlock = some j → W'.heap[j]? = W.heap[j]?) : Sl W' T v L := by
  rcases h with h | ⟨j, off, cap, cur, rfl, h1, h2, h3, h4, h5, h6, h7⟩
  · exact .inl h
  · exact .inr ⟨j, off, cap, cur, rfl, h1, h2, h3, h4, h5, (hk j rfl).trans h6, h7⟩
theorem Sl.own (h : Sl W T v L) {j : Nat} (hj : v.ownBlock = some j) : T j ∧ j < W.heap.size := by
  rcases h with ⟨rfl, _⟩ | ⟨j', off, cap, cur, rfl, h1, h2, h3, h4, h5, h6, h7⟩
  · simp [Value.ownBlock] at hj
  · simp [Value.ownBlock] at hj
    subst hj
    exact ⟨h1, (Array.getElem?_eq_some_iff.1 h6).1⟩
/-- Read as a row that came in. -/
theorem Sl.C (h : Sl W T v L) : ∃ A c, v = .slice A L.length c ∧ L.length ≤ c ∧ Kd.C (Kd.int .i64) W A L.length L := by
  rcases h with ⟨rfl, rfl⟩ | ⟨j, off, cap, cur, rfl, h1, h2, h3, h4, h5, h6, h7⟩
  · exact ⟨none, 0, rfl, Nat.le_refl _, Kd.C_nil _ _⟩
  · refine ⟨some ⟨j, off, none⟩, cap, rfl, h3, Kd.C_of_reads (d := (0 : Int)) (h1 := fun _ => rfl) ⟨rfl, Nat.le_trans h3 h4, fun _ => ⟨_, rfl, fun i hi => ?_⟩⟩⟩
    rw [Addr.add_lit, cell_of_row W j _ cur 3 (0, 0) h6, h7 i (L.getD i 0) (by rw [List.getD_eq_getElem?_getD, List.getElem?_eq_getElem hi]; rfl)]
theorem Sl.cut {x : Int} {t : List Int} (h : Sl W T v (x :: t)) : ∃ j off cap, v = .slice (some ⟨j, off, none⟩) (t.length + 1) cap ∧ t.length + 1 ≤ cap ∧ cap ≤ maxLen ∧ W.cell? ⟨j, off, none⟩ = some (.int .i64 x) ∧ (t ≠ [] → Sl W T (.slice (some ⟨j, off + 1, none⟩) t.length (cap - 1)) t) := by
  rcases h with ⟨_, h⟩ | ⟨j, off, cap, cur, rfl, h1, h2, h3, h4, h5, h6, h7⟩
  · cases h
  · refine ⟨j, off, cap, rfl, h3, h4, ?_, fun ht => ?_⟩
    · rw [cell_of_row W j _ cur 3 (0, 0) h6]; exact h7 0 x rfl
    · have hp : 0 < t.length := List.length_pos_iff.2 ht
      simp only [List.length_cons] at h3
      refine .inr ⟨j, off + 1, cap - 1, cur, rfl, h1, hp, by omega, by omega, by omega, h6, fun i y hi => ?_⟩
      rw [show off + 1 + i = off + (i + 1) by omega]
      exact h7 (i + 1) y (by simpa using hi)
theorem info3' : (Try.prog.info? 3).map (fun i => (i.zero, i.size, i.bytes)) = some (some (.int .i64 0), 1, 8) := by kernel_rfl
/-- A new row of the call's own, as such a slice. -/
theorem Sl.of_row (h : W.ownsRow 0 3 1 v L.length (L.map (Value.int .i64))) (hp : 0 < L.length) (hT : ∀ j, v.ownBlock = some j → T j) : Sl W T v L := by
  obtain ⟨_, h0 | ⟨j, cap, cur, rfl, _, h6, h3, h4, h5, h7⟩⟩ := h
  · omega
  · refine .inr ⟨j, 0, cap, cur, rfl, hT j rfl, hp, h3, h4, by omega, h6, fun i x hi => ?_⟩
    have hi' : i < L.length := (List.getElem?_eq_some_iff.1 hi).1
    have e : (cur.toList.take (L.length * 1))[i]? = cur.toList[i]? := by rw [List.getElem?_take, if_pos (by omega)]
    rw [Nat.zero_add, ← Array.getElem?_toList, ← e, h7, List.getElem?_map, hi]; rfl
theorem ho' {W' : World} {B : Nat} {v' : Value} {x : Int} (h : W'.ownsRow B 3 1 v' (L.length + 1) (L.map (Value.int .i64) ++ [.int .i64 x])) : W'.ownsRow 0 3 1 v' (L ++ [x]).length ((L ++ [x]).map (Value.int .i64)) := by
  obtain ⟨h1, h2⟩ := h
  refine ⟨by simp, ?_⟩
  rcases h2 with ⟨_, h2⟩ | ⟨k, cap, cur, rfl, hk, r⟩
  · omega
  · exact .inr ⟨k, cap, cur, by simp, Nat.zero_le _, by simpa using r⟩
theorem Sl.append (h : Sl W T v L) {a : Addr} {c : Nat} {x : Int} (hx : W.cell? a = some (.int .i64 x)) (hl : L.length + 1 ≤ 4398046511104) (ty : TypeId) :
    ∃ v' W', (Builtin.append_ #[26, 26] ty #[v, .slice (some a) 1 c]).run Try.prog W = .ok v' W' ∧ Sl W' (fun j => T j ∨ W.heap.size ≤ j) v' (L ++ [x]) ∧ W.grownBy W' v.ownBlock ∧ (v'.ownBlock = v.ownBlock ∨ ∃ j, v'.ownBlock = some j ∧ W.heap.size ≤ j) := by
  obtain ⟨i0, hi0, hz0, hz1, hz2⟩ := info_parts info3'
  have hn : ∀ j u, ([Value.int .i64 x] : List Value)[j]? = some u → W.cell? (a.add j) = some u := fun j u hj => by
    match j, hj with
    | 0, hj => cases hj; rw [show a.add 0 = a by cases a; simp [Addr.add]]; exact hx
  have hml : (4398046511104 : Nat) ≤ maxLen := by unfold maxLen; omega
  rcases h with ⟨rfl, rfl⟩ | ⟨j, off, cap, cur, rfl, h1, h2, h3, h4, h5, h6, h7⟩
  · obtain ⟨v', W', hr, ho, hg, _, hat⟩ := run_append_own_at (P := Try.prog) W 0 26 ty 3 i0 (.int .i64 0) 1 8 Try.underlying26 hi0 hz0 hz1 hz2 rfl (by omega) (.slice none 0 0) 0 [] (World.ownsRow_nil _ _ _ _) a 1 c [.int .i64 x] rfl hn (by simp [Value.oneCell']) (by omega) (by omega) (Nat.zero_le _)
    refine ⟨v', W', hr, Sl.of_row (by simpa using ho) (by simp) (fun j hj => ?_), hg, hat.imp id (fun e => ⟨_, e, Nat.le_refl _⟩)⟩
    rcases hat with e | e
    · rw [e] at hj; simp [Value.ownBlock] at hj
    · rw [e] at hj; cases hj; exact .inr (Nat.le_refl _)
  · by_cases hroom : L.length + 1 ≤ cap
    · have hlt : off + L.length < cur.size := by omega
      have hr := run_append_room_cells (P := Try.prog) W 26 ty 3 i0 Try.underlying26 hi0 j off L.length cap a 1 c [.int .i64 x] (by rw [hz1]; rfl) hn (by simp [Value.oneCell']) hroom
        (fun k hk => by simp at hk; subst hk; rw [hz1, cell_of_row W j _ cur 3 (0, 0) h6]; simp; omega) (fun k hk => by simp [World.frozen?, h6])
      rw [hz1, Nat.mul_one] at hr
      refine ⟨_, _, hr, .inr ⟨j, off, cap, cur.setIfInBounds (off + L.length) (.int .i64 x), by simp, .inl h1, by simp, by simpa using hroom, h4, by simpa using h5, row_set h6, fun k y hk => ?_⟩, ⟨rfl, rfl, rfl, by simp [World.setCells], fun k hk hn => Below.heap_setCell W _ _ k (fun e => hn (by rw [e]; rfl))⟩, .inl rfl⟩
      rw [Array.getElem?_setIfInBounds]
      by_cases e : L.length = k
      · subst e
        rw [List.getElem?_append_right (Nat.le_refl _)] at hk
        simp at hk
        rw [if_pos rfl, if_pos hlt, hk]
      · rw [if_neg (by omega)]
        have hkl : k < L.length := by
          have := (List.getElem?_eq_some_iff.1 hk).1
          simp at this; omega
        rw [List.getElem?_append_left hkl] at hk
        exact h7 k y hk
    · have holds : ∀ k u, (L.map (Value.int .i64))[k]? = some u → W.cell? ((⟨j, off, none⟩ : Addr).add k) = some u := fun k u hk => by
        rw [List.getElem?_map] at hk
        obtain ⟨y, hy, rfl⟩ := Option.map_eq_some_iff.1 hk
        rw [Addr.add_lit, cell_of_row W j _ cur 3 (0, 0) h6]
        exact h7 k y hy
      obtain ⟨v', W', hr, ho, hg⟩ := run_append_arg_grows (P := Try.prog) W 26 ty 3 i0 (.int .i64 0) 1 8 Try.underlying26 hi0 hz0 hz1 hz2 rfl (by omega) ⟨j, off, none⟩ L.length cap (L.map (Value.int .i64)) (by simp) holds a 1 c [.int .i64 x] rfl hn (by omega) (by omega) (by omega)
      have hge : ∀ k, v'.ownBlock = some k → W.heap.size ≤ k := fun k hk => (ho.lt k hk).1
      refine ⟨v', W', hr, Sl.of_row (ho' ho) (by simp) (fun k hk => .inr (hge k hk)), ⟨hg.os, hg.tape, hg.output, hg.size, fun k hk _ => hg.block k hk (by simp)⟩, .inr ?_⟩
      obtain ⟨_, h0 | ⟨k, _, _, rfl, hk, _⟩⟩ := ho
      · omega
      · exact ⟨k, rfl, hk⟩
end Go.Proofs.Ytfcjfjmjcmanaaa.B
set_option linter.unusedVariables false
namespace Go.Proofs.Ytfcjfjmjcmanaaa.B
open Go Go.RowKit Go.Proofs.YtfcjfjmjcmanaaaW.PrintWords Go.Proofs.YtfcjfjmjcmanaaaW.PrintLast Go.Proofs.YtfcjfjmjcmanaaaW.PrintMore
structure Bd where
  l : List Hd
  q : Int → List Int
def Bd.has (B : Bd) (h : Int) : Bool := decide (0 ≤ h) && decide (h < (B.l.length : Int))
def Bd.hd (B : Bd) (h : Int) : Hd := B.l.getD h.toNat (0, 0, 0)
def Bd.rdy (B : Bd) (h : Int) : Int := if B.has h = false then 70 else if (B.hd h).1 = 0 then 71 else if (B.hd h).1 = 2 then 72 else 0
def Bd.put (B : Bd) (h : Int) (x : Hd) : Bd := ⟨B.l.set h.toNat x, B.q⟩
def Bd.start (B : Bd) (h : Int) : Bd × Int := if B.has h = false then (B, 70) else if (B.hd h).1 = 0 then (B.put h (1, 0, 0), 0) else (B, 9)
def Bd.block (B : Bd) (h on : Int) : Bd × Int := if B.rdy h = 0 then (⟨B.l.set h.toNat (2, on, 0), upd B.q on (B.q on ++ [h])⟩, 0) else (B, B.rdy h)
def Bd.finish (B : Bd) (h : Int) : Bd × Int := if B.rdy h = 0 then (B.put h (0, 0, 0), 0) else (B, B.rdy h)
def wakes : List Int → List Hd → List Hd
  | [], l => l
  | h :: t, l => wakes t (l.set h.toNat (1, 0, 0))
def Bd.wake (B : Bd) (on : Int) : Bd := ⟨wakes (B.q on) B.l, upd B.q on []⟩
def Bd.first (B : Bd) (on : Int) : Bd × Int × Bool :=
  match B.q on with
  | [] => (B, -1, false)
  | h :: t => (⟨B.l.set h.toNat (1, 0, 0), upd B.q on t⟩, h, true)
/-- The board lies at p: T its blocks, g its handlers, m its map (of at most N entries), f the map's slices. -/
structure Bat (W : World) (T : Nat → Prop) (p g m N : Nat) (B : Bd) (f : Int → Value) : Prop where
  hp : W.heap[p]? = some (.cells #[.slice (some ⟨g, 0, none⟩) B.l.length B.l.length, .map (some m)] 125 (0, 0))
  hg : HRow W g B.l
  hm : MapAt W m N f
  hf : ∀ k, (Lit.int .i64 k).wf = true → Sl W T (f k) (B.q k)
  ap : ∀ k k', (Lit.int .i64 k).wf = true → (Lit.int .i64 k').wf = true → k ≠ k' → ∀ j, (f k).ownBlock = some j → (f k').ownBlock ≠ some j
  off : ∀ k, (Lit.int .i64 k).wf = true → ∀ j, (f k).ownBlock = some j → j ≠ p ∧ j ≠ g ∧ j ≠ m
  ne : p ≠ g ∧ p ≠ m ∧ g ≠ m
  own : T p ∧ T g ∧ T m
  lt : ∀ i, T i → i < W.heap.size
variable {W W' W1 : World} {T T' : Nat → Prop} {p g m N : Nat} {B : Bd} {f : Int → Value}
theorem Bat.cells (h : Bat W T p g m N B f) : W.cell? ⟨p, 0, none⟩ = some (.slice (some ⟨g, 0, none⟩) B.l.length B.l.length) ∧ W.cell? ⟨p, 1, none⟩ = some (.map (some m)) :=
  ⟨by rw [cell_of_row W p 0 _ 125 (0, 0) h.hp]; rfl, by rw [cell_of_row W p 1 _ 125 (0, 0) h.hp]; rfl⟩
theorem Bat.turn (h : Bat W T p g m N B f) (e : ∀ i, T i → W'.heap[i]? = W.heap[i]?) (hs : W.heap.size ≤ W'.heap.size) : Bat W' T p g m N B f :=
  ⟨(e p h.own.1).trans h.hp, h.hg.of_block (e g h.own.2.1), h.hm.of_block hs (e m h.own.2.2), fun k hk => (h.hf k hk).kept (fun j hj => e j ((h.hf k hk).own hj).1), h.ap, h.off, h.ne, h.own, fun i hi => Nat.lt_of_lt_of_le (h.lt i hi) hs⟩
theorem Bat.drewN (h : Bat W T p g m N B f) (n : Nat) : Bat (W.drewN n) T p g m N B f := h.turn (fun _ _ => rfl) (Nat.le_refl _)
theorem Bat.below (h : Bat W T p g m N B f) (hb : Below W.heap.size W W') : Bat W' T p g m N B f := h.turn (fun i hi => hb.block i (h.lt i hi)) hb.size
theorem Bat.widen (h : Bat W T p g m N B f) (hT : ∀ i, T i → T' i) (hl : ∀ i, T' i → i < W.heap.size) : Bat W T' p g m N B f := ⟨h.hp, h.hg, h.hm, fun k hk => (h.hf k hk).mono (fun j _ hj => hT j hj), h.ap, h.off, h.ne, ⟨hT _ h.own.1, hT _ h.own.2.1, hT _ h.own.2.2⟩, hl⟩
theorem Bat.mono {N' : Nat} (h : Bat W T p g m N B f) (hN : N ≤ N') : Bat W T p g m N' B f := ⟨h.hp, h.hg, h.hm.mono hN, h.hf, h.ap, h.off, h.ne, h.own, h.lt⟩
theorem turn1 (A : World) (g o : Nat) (v : Value) : Turn (fun k => k = g) A (A.setCell ⟨g, o, none⟩ v) := Turn.setCell A _ v rfl
theorem Bd.get (B : Bd) {h : Int} (hh : B.has h = true) : B.l[h.toNat]? = some (B.hd h) ∧ 0 ≤ h ∧ h < (B.l.length : Int) ∧ h.toNat < B.l.length := by
  unfold Bd.has at hh
  simp only [Bool.and_eq_true, decide_eq_true_eq] at hh
  have hl : h.toNat < B.l.length := by omega
  refine ⟨?_, hh.1, hh.2, hl⟩
  unfold Bd.hd
  rw [List.getD_eq_getElem?_getD, List.getElem?_eq_getElem hl]; rfl
/-- One handler is written anew. -/
theorem Bat.put (h : Bat W T p g m N B f) (i : Nat) (x : Hd) :
    Bat (((W.setCell ⟨g, i * 3, none⟩ (.int .i64 x.1)).setCell ⟨g, i * 3 + 1, none⟩ (.int .i64 x.2.1)).setCell ⟨g, i * 3 + 2, none⟩ (.int .i64 x.2.2)) T p g m N ⟨B.l.set i x, B.q⟩ f ∧
      Turn T W (((W.setCell ⟨g, i * 3, none⟩ (.int .i64 x.1)).setCell ⟨g, i * 3 + 1, none⟩ (.int .i64 x.2.1)).setCell ⟨g, i * 3 + 2, none⟩ (.int .i64 x.2.2)) := by
  have tr : Turn (fun k => k = g) W (((W.setCell ⟨g, i * 3, none⟩ (.int .i64 x.1)).setCell ⟨g, i * 3 + 1, none⟩ (.int .i64 x.2.1)).setCell ⟨g, i * 3 + 2, none⟩ (.int .i64 x.2.2)) :=
    ((turn1 W g _ _).trans (turn1 _ g _ _) (fun _ h => .inl h)).trans (turn1 _ g _ _) (fun _ h => .inl h)
  refine ⟨⟨?_, h.hg.set i x, h.hm.of_block tr.size (tr.block m h.hm.lt (fun e => h.ne.2.2 e.symm)), fun k hk => (h.hf k hk).kept (fun j hj => tr.block j ((h.hf k hk).own hj).2 (h.off k hk j hj).2.1), h.ap, h.off, h.ne, h.own, fun j hj => Nat.lt_of_lt_of_le (h.lt j hj) tr.size⟩, tr.mono (fun k e => by rw [e]; exact h.own.2.1)⟩
  rw [tr.block p (h.lt p h.own.1) h.ne.1, h.hp, List.length_set]
theorem Bat.put3 (h : Bat W T p g m N B f) (i : Nat) {x : Hd} (hx : B.l[i]? = some x) (c : Int) :
    Bat (W.setCell ⟨g, i * 3 + 2, none⟩ (.int .i64 c)) T p g m N ⟨B.l.set i (x.1, x.2.1, c), B.q⟩ f ∧ Turn T W (W.setCell ⟨g, i * 3 + 2, none⟩ (.int .i64 c)) := by
  have tr : Turn (fun k => k = g) W (W.setCell ⟨g, i * 3 + 2, none⟩ (.int .i64 c)) := turn1 W g _ _
  refine ⟨⟨?_, h.hg.set3 i hx c, h.hm.of_block tr.size (tr.block m h.hm.lt (fun e => h.ne.2.2 e.symm)), fun k hk => (h.hf k hk).kept (fun j hj => tr.block j ((h.hf k hk).own hj).2 (h.off k hk j hj).2.1), h.ap, h.off, h.ne, h.own, fun j hj => Nat.lt_of_lt_of_le (h.lt j hj) tr.size⟩, tr.mono (fun k e => by rw [e]; exact h.own.2.1)⟩
  rw [tr.block p (h.lt p h.own.1) h.ne.1, h.hp, List.length_set]
/-- A slice of the map's turns, and is stored anew. -/
theorem Bat.store (h : Bat W T p g m N B f) (hN : N < maxLen) {k : Int} (hk : (Lit.int .i64 k).wf = true) {v' : Value} {L' : List Int} (hs : Sl W1 (fun j => T j ∨ W.heap.size ≤ j) v' L') (hg : W.grownBy W1 (f k).ownBlock)
    (hat : v'.ownBlock = (f k).ownBlock ∨ ∃ j, v'.ownBlock = some j ∧ W.heap.size ≤ j) :
    ∃ W2, (Instr.mapUpdate 123 (.map (some m)) (.int .i64 k) v').run Try.prog W1 = .ok () W2 ∧ Bat W2 (fun i => T i ∨ W.heap.size ≤ i ∧ i < W2.heap.size) p g m (N + 1) ⟨B.l, upd B.q k L'⟩ (upd f k v') ∧ Turn T W W2 := by
  have lm := h.hm.lt
  have fne : ∀ x j, (Lit.int .i64 x).wf = true → (f x).ownBlock = some j → T j ∧ j < W.heap.size := fun x j hx hj => (h.hf x hx).own hj
  have keep1 : ∀ i, i < W.heap.size → (∀ j, (f k).ownBlock = some j → i ≠ j) → W1.heap[i]? = W.heap[i]? := fun i hi hn => hg.block i hi (fun e => hn i e.symm rfl)
  have hm1 : MapAt W1 m N f := h.hm.of_block hg.size (keep1 m lm (fun j hj e => (h.off k hk j hj).2.2 e.symm))
  obtain ⟨W2, hr, hm2, hg2⟩ := hm1.store hN hk v'
  have keep2 : ∀ i, i < W1.heap.size → i ≠ m → W2.heap[i]? = W1.heap[i]? := fun i hi hn => hg2.block i hi (fun e => hn (by cases e; rfl))
  have keep : ∀ i, i < W.heap.size → i ≠ m → (∀ j, (f k).ownBlock = some j → i ≠ j) → W2.heap[i]? = W.heap[i]? := fun i hi hn hj => (keep2 i (Nat.lt_of_lt_of_le hi hg.size) hn).trans (keep1 i hi hj)
  have v'lt : ∀ j, v'.ownBlock = some j → j < W1.heap.size := fun j hj => (hs.own hj).2
  have v'off : ∀ j, v'.ownBlock = some j → j ≠ p ∧ j ≠ g ∧ j ≠ m := fun j hj => by
    rcases hat with e | ⟨j', e, hle⟩
    · rw [e] at hj; exact h.off k hk j hj
    · rw [e] at hj; cases hj
      have h1 := h.lt p h.own.1
      have h2 := h.lt g h.own.2.1
      exact ⟨by omega, by omega, by omega⟩
  have size2 : W.heap.size ≤ W2.heap.size := Nat.le_trans hg.size hg2.size
  refine ⟨W2, hr, ⟨?_, ?_, hm2, ?_, ?_, ?_, h.ne, ⟨.inl h.own.1, .inl h.own.2.1, .inl h.own.2.2⟩, fun i hi => ?_⟩, ⟨hg2.os.trans hg.os, hg2.tape.trans hg.tape, hg2.output.trans hg.output, size2, fun i hi hn => ?_⟩⟩
  · rw [keep p (h.lt p h.own.1) h.ne.2.1 (fun j hj e => (h.off k hk j hj).1 e.symm)]; exact h.hp
  · exact h.hg.of_block (keep g (h.lt g h.own.2.1) h.ne.2.2 (fun j hj e => (h.off k hk j hj).2.1 e.symm))
  · intro x hx
    show Sl W2 _ (upd f k v' x) (upd B.q k L' x)
    unfold upd
    by_cases e : x = k
    · rw [if_pos e, if_pos e]
      refine (hs.kept (fun j hj => keep2 j (v'lt j hj) (v'off j hj).2.2)).mono (fun j hj hT => hT.imp id (fun hle => ⟨hle, Nat.lt_of_lt_of_le (v'lt j hj) hg2.size⟩))
    · rw [if_neg e, if_neg e]
      refine ((h.hf x hx).kept (fun j hj => keep j (fne x j hx hj).2 (h.off x hx j hj).2.2 (fun j' hj' ej => h.ap k x hk hx (fun z => e z.symm) j' hj' (by rw [hj, ej])))).mono (fun j _ hT => .inl hT)
  · intro x y hx hy hxy j hj
    show (upd f k v' y).ownBlock ≠ some j
    have hj' : (upd f k v' x).ownBlock = some j := hj
    unfold upd at hj' ⊢
    have old : ∀ z, (Lit.int .i64 z).wf = true → z ≠ k → ∀ j, (f z).ownBlock = some j → v'.ownBlock ≠ some j := fun z hz hzk j hj e => by
      rcases hat with e2 | ⟨j2, e2, hle⟩
      · rw [e2] at e; exact h.ap z k hz hk hzk j hj e
      · rw [e2] at e; cases e; have := (fne z j hz hj).2; omega
    by_cases ex : x = k
    · rw [if_pos ex] at hj'
      rw [if_neg (fun ey => hxy (ex.trans ey.symm))]
      exact fun e => old y hy (fun ey => hxy (ex.trans ey.symm)) j e hj'
    · rw [if_neg ex] at hj'
      by_cases ey : y = k
      · rw [if_pos ey]; exact old x hx ex j hj'
      · rw [if_neg ey]; exact h.ap x y hx hy hxy j hj'
  · intro x hx j hj
    have hj' : (upd f k v' x).ownBlock = some j := hj
    unfold upd at hj'
    by_cases ex : x = k
    · rw [if_pos ex] at hj'; exact v'off j hj'
    · rw [if_neg ex] at hj'; exact h.off x hx j hj'
  · rcases hi with hi | hi
    · exact Nat.lt_of_lt_of_le (h.lt i hi) size2
    · exact hi.2
  · refine keep i hi (fun e => hn (by rw [e]; exact h.own.2.2)) (fun j hj e => hn (by rw [e]; exact (fne k j hk hj).1))
/-- A slice of the map's is handed out, and its entry is struck: the board no longer owns the slice's row. -/
theorem Bat.drop (h : Bat W T p g m N B f) {k : Int} (hk : (Lit.int .i64 k).wf = true) (ty : TypeId) :
    ∃ W2, (Builtin.delete_ #[123, 3] ty #[.map (some m), .int .i64 k]).run Try.prog W = .ok (.tuple #[]) W2 ∧ Bat W2 (fun i => T i ∧ (f k).ownBlock ≠ some i) p g m N ⟨B.l, upd B.q k []⟩ (upd f k nilv) ∧ Sl W2 (fun i => T i ∧ (f k).ownBlock = some i) (f k) (B.q k) ∧ Turn T W W2 := by
  obtain ⟨W2, hr, hm2, hg2⟩ := h.hm.drop hk ty
  have keep : ∀ i, i < W.heap.size → i ≠ m → W2.heap[i]? = W.heap[i]? := fun i hi hn => hg2.block i hi (fun e => hn (by cases e; rfl))
  have fne : ∀ x j, (Lit.int .i64 x).wf = true → (f x).ownBlock = some j → T j ∧ j < W.heap.size := fun x j hx hj => (h.hf x hx).own hj
  have hne : ∀ i, (i = p ∨ i = g ∨ i = m) → (f k).ownBlock ≠ some i := fun i hi e => by
    have := h.off k hk i e
    rcases hi with rfl | rfl | rfl
    · exact this.1 rfl
    · exact this.2.1 rfl
    · exact this.2.2 rfl
  refine ⟨W2, hr, ⟨?_, ?_, hm2, ?_, ?_, ?_, h.ne, ⟨⟨h.own.1, hne p (.inl rfl)⟩, ⟨h.own.2.1, hne g (.inr (.inl rfl))⟩, ⟨h.own.2.2, hne m (.inr (.inr rfl))⟩⟩, fun i hi => Nat.lt_of_lt_of_le (h.lt i hi.1) hg2.size⟩, ?_, Turn.of_grown hg2 (fun j hj => by cases hj; exact h.own.2.2)⟩
  · rw [keep p (h.lt p h.own.1) h.ne.2.1]; exact h.hp
  · exact h.hg.of_block (keep g (h.lt g h.own.2.1) h.ne.2.2)
  · intro x hx
    show Sl W2 _ (upd f k nilv x) (upd B.q k [] x)
    unfold upd
    by_cases e : x = k
    · rw [if_pos e, if_pos e]; exact Sl.nil _ _
    · rw [if_neg e, if_neg e]
      exact ((h.hf x hx).kept (fun j hj => keep j (fne x j hx hj).2 (h.off x hx j hj).2.2)).mono (fun j hj hT => ⟨hT, h.ap x k hx hk e j hj⟩)
  · intro x y hx hy hxy j hj
    show (upd f k nilv y).ownBlock ≠ some j
    have hj' : (upd f k nilv x).ownBlock = some j := hj
    unfold upd at hj' ⊢
    by_cases ey : y = k
    · rw [if_pos ey]; simp [nilv, Value.ownBlock]
    · rw [if_neg ey]
      by_cases ex : x = k
      · rw [if_pos ex] at hj'; simp [nilv, Value.ownBlock] at hj'
      · rw [if_neg ex] at hj'; exact h.ap x y hx hy hxy j hj'
  · intro x hx j hj
    have hj' : (upd f k nilv x).ownBlock = some j := hj
    unfold upd at hj'
    by_cases ex : x = k
    · rw [if_pos ex] at hj'; simp [nilv, Value.ownBlock] at hj'
    · rw [if_neg ex] at hj'; exact h.off x hx j hj'
  · exact ((h.hf k hk).kept (fun j hj => keep j (fne k j hk hj).2 (h.off k hk j hj).2.2)).mono (fun j hj hT => ⟨hT, hj⟩)
/-- A slice of the map's is stored anew, looked up, and struck. -/
theorem Bat.strike (h : Bat W T p g m N B f) (hN : N < maxLen) {k : Int} (hk : (Lit.int .i64 k).wf = true) (v' : Value) :
    ∃ W2, (Instr.mapUpdate 123 (.map (some m)) (.int .i64 k) v').run Try.prog W = .ok () W2 ∧ (Instr.lookup 123 (.map (some m)) (.int .i64 k) false).run Try.prog W2 = .ok v' W2 ∧ W2.cell? ⟨p, 0, none⟩ = W.cell? ⟨p, 0, none⟩ ∧ W2.cell? ⟨p, 1, none⟩ = W.cell? ⟨p, 1, none⟩ ∧
      ∃ W3, (∀ ty, (Builtin.delete_ #[123, 3] ty #[.map (some m), .int .i64 k]).run Try.prog W2 = .ok (.tuple #[]) W3) ∧ Bat W3 T p g m (N + 1) ⟨B.l, upd B.q k []⟩ (upd f k nilv) ∧ Turn T W W3 := by
  obtain ⟨W2, hr, hm2, hg2⟩ := h.hm.store hN hk v'
  obtain ⟨W3, hr3, hm3, hg3⟩ := hm2.drop hk 0
  have ty : ∀ ty, (Builtin.delete_ #[123, 3] ty #[.map (some m), .int .i64 k]).run Try.prog W2 = .ok (.tuple #[]) W3 := fun _ => hr3
  have keep2 : ∀ i, i < W.heap.size → i ≠ m → W2.heap[i]? = W.heap[i]? := fun i hi hn => hg2.block i hi (fun e => hn (by cases e; rfl))
  have keep : ∀ i, i < W.heap.size → i ≠ m → W3.heap[i]? = W.heap[i]? := fun i hi hn => (hg3.block i (Nat.lt_of_lt_of_le hi hg2.size) (fun e => hn (by cases e; rfl))).trans (keep2 i hi hn)
  have fne : ∀ x j, (Lit.int .i64 x).wf = true → (f x).ownBlock = some j → T j ∧ j < W.heap.size := fun x j hx hj => (h.hf x hx).own hj
  have ef : upd (upd f k v') k nilv = upd f k nilv := by funext x; unfold upd; by_cases e : x = k <;> simp [e]
  rw [ef] at hm3
  refine ⟨W2, hr, by rw [hm2.look hk]; unfold upd; rw [if_pos rfl], World.cell?_of_block (keep2 p (h.lt p h.own.1) h.ne.2.1), World.cell?_of_block (keep2 p (h.lt p h.own.1) h.ne.2.1), W3, ty, ⟨?_, ?_, hm3, ?_, ?_, ?_, h.ne, h.own, fun i hi => Nat.lt_of_lt_of_le (h.lt i hi) (Nat.le_trans hg2.size hg3.size)⟩, ?_⟩
  · rw [keep p (h.lt p h.own.1) h.ne.2.1]; exact h.hp
  · exact h.hg.of_block (keep g (h.lt g h.own.2.1) h.ne.2.2)
  · intro x hx
    show Sl W3 _ (upd f k nilv x) (upd B.q k [] x)
    unfold upd
    by_cases e : x = k
    · rw [if_pos e, if_pos e]; exact Sl.nil _ _
    · rw [if_neg e, if_neg e]
      exact (h.hf x hx).kept (fun j hj => keep j (fne x j hx hj).2 (h.off x hx j hj).2.2)
  · intro x y hx hy hxy j hj
    show (upd f k nilv y).ownBlock ≠ some j
    have hj' : (upd f k nilv x).ownBlock = some j := hj
    unfold upd at hj' ⊢
    by_cases ey : y = k
    · rw [if_pos ey]; simp [nilv, Value.ownBlock]
    · rw [if_neg ey]
      by_cases ex : x = k
      · rw [if_pos ex] at hj'; simp [nilv, Value.ownBlock] at hj'
      · rw [if_neg ex] at hj'; exact h.ap x y hx hy hxy j hj'
  · intro x hx j hj
    have hj' : (upd f k nilv x).ownBlock = some j := hj
    unfold upd at hj'
    by_cases ex : x = k
    · rw [if_pos ex] at hj'; simp [nilv, Value.ownBlock] at hj'
    · rw [if_neg ex] at hj'; exact h.off x hx j hj'
  · exact (Turn.of_grown (T := T) hg2 (fun j hj => by cases hj; exact h.own.2.2)).trans (Turn.of_grown (T := T) hg3 (fun j hj => by cases hj; exact h.own.2.2)) (fun _ h => .inl h)
end Go.Proofs.Ytfcjfjmjcmanaaa.B
set_option linter.unusedVariables false
namespace Go.Proofs.Ytfcjfjmjcmanaaa.B
open Go Go.RowKit Go.Proofs.YtfcjfjmjcmanaaaW.PrintWords Go.Proofs.YtfcjfjmjcmanaaaW.PrintLast Go.Proofs.YtfcjfjmjcmanaaaW.PrintMore
variable {W : World} {T : Nat → Prop} {p g m N : Nat} {B : Bd} {f : Int → Value}
set_option maxRecDepth 100000 in
set_option maxHeartbeats 4000000 in
theorem has_calls (hb : Bat W T p g m N B f) (h : Int) : Calls Try.prog 91 #[.pointer (some ⟨p, 0, none⟩), .int .i64 h] W fun e W' => e = .returned (.bool (B.has h)) ∧ Drawn0 W W' := by
  obtain ⟨c0, c1⟩ := hb.cells
  clear hb
  obtain ⟨r, hr⟩ : ∃ r, B.has h = r := ⟨_, rfl⟩
  rw [hr]
  unfold Bd.has at hr
  by_cases h0 : 0 ≤ h
  · have b0 : decide (0 ≤ h) = true := decide_eq_true h0
    rw [b0, Bool.true_and] at hr
    have p0 := eq_true h0
    clear h0
    go_enter Try.func91, Try.ntmps91
    go_wp2
    go_ret
    exact ⟨rfl, ⟨0, rfl⟩⟩
  · have b0 : decide (0 ≤ h) = false := decide_eq_false h0
    rw [b0, Bool.false_and] at hr
    have p0 := eq_false h0
    clear h0
    subst hr
    go_enter Try.func91, Try.ntmps91
    go_wp2
    go_ret
    exact ⟨rfl, ⟨0, rfl⟩⟩
set_option maxRecDepth 100000 in
set_option maxHeartbeats 4000000 in
theorem ready_calls (hb : Bat W T p g m N B f) (h : Int) : Calls Try.prog 92 #[.pointer (some ⟨p, 0, none⟩), .int .i64 h] W fun e W' => e = .returned (.int .i64 (B.rdy h)) ∧ Drawn0 W W' := by
  obtain ⟨c0, c1⟩ := hb.cells
  have hc := has_calls hb h
  unfold Bd.rdy
  cases hh : B.has h with
  | false =>
    rw [hh] at hc
    rw [if_pos rfl]
    have HC := Aside0.mk hc
    clear hb hc
    go_enter Try.func92, Try.ntmps92
    go_wp2_with (go_at_call 91; refine HC.out.mono ?_; rintro e w1 ⟨rfl, ⟨n1, rfl⟩⟩)
    go_ret
    exact ⟨rfl, ⟨n1, rfl⟩⟩
  | true =>
    rw [hh] at hc
    rw [if_neg (by simp)]
    obtain ⟨hg, h0, h1, h2⟩ := B.get hh
    obtain ⟨d0, d1, d2⟩ := hb.hg.cells hg
    obtain ⟨⟨s, o, c⟩, hx⟩ : ∃ x, B.hd h = x := ⟨_, rfl⟩
    rw [hx] at d0 d1 d2 ⊢
    replace h0 := eq_true h0
    replace h1 := eq_true h1
    have HC := Aside0.mk hc
    clear hb hc hg hx
    simp only at d0 d1 d2 ⊢
    by_cases e0 : s = 0
    · subst e0
      rw [if_pos rfl]
      go_enter Try.func92, Try.ntmps92
      go_wp2_with (go_at_call 91; refine HC.out.mono ?_; rintro e w1 ⟨rfl, ⟨n1, rfl⟩⟩)
      go_ret
      exact ⟨rfl, ⟨n1, rfl⟩⟩
    · have f0 : (s == 0) = false := beq_eq_false_iff_ne.2 e0
      rw [if_neg e0]
      by_cases e2 : s = 2
      · subst e2
        rw [if_pos rfl]
        go_enter Try.func92, Try.ntmps92
        go_wp2_with (go_at_call 91; refine HC.out.mono ?_; rintro e w1 ⟨rfl, ⟨n1, rfl⟩⟩)
        go_ret
        exact ⟨rfl, ⟨n1, rfl⟩⟩
      · have f2 : (s == 2) = false := beq_eq_false_iff_ne.2 e2
        rw [if_neg e2]
        go_enter Try.func92, Try.ntmps92
        go_wp2_with (go_at_call 91; refine HC.out.mono ?_; rintro e w1 ⟨rfl, ⟨n1, rfl⟩⟩)
        go_ret
        exact ⟨rfl, ⟨n1, rfl⟩⟩
set_option maxRecDepth 100000 in
set_option maxHeartbeats 4000000 in
theorem start_calls (hb : Bat W T p g m N B f) (h : Int) : Calls Try.prog 39 #[.pointer (some ⟨p, 0, none⟩), .int .i64 h] W fun e W' => e = .returned (.int .i64 (B.start h).2) ∧ Bat W' T p g m N (B.start h).1 f ∧ Turn T W W' := by
  obtain ⟨c0, c1⟩ := hb.cells
  have hc := has_calls hb h
  unfold Bd.start
  cases hh : B.has h with
  | false =>
    rw [hh] at hc
    rw [if_pos rfl]
    have HC := Aside0.mk hc
    have HB := Aside0.mk hb
    clear hb hc
    go_enter Try.func39, Try.ntmps39
    go_wp2_with (go_at_call 91; refine HC.out.mono ?_; rintro e w1 ⟨rfl, ⟨n1, rfl⟩⟩)
    go_ret
    exact ⟨rfl, HB.out.drewN n1, (Turn.refl _ _).drewN n1⟩
  | true =>
    rw [hh] at hc
    rw [if_neg (by simp)]
    obtain ⟨hg, h0, h1, h2⟩ := B.get hh
    obtain ⟨d0, d1, d2⟩ := hb.hg.cells hg
    have fr := hb.hg.free
    obtain ⟨⟨s, o, c⟩, hx⟩ : ∃ x, B.hd h = x := ⟨_, rfl⟩
    rw [hx] at d0 d1 d2 ⊢
    replace h0 := eq_true h0
    replace h1 := eq_true h1
    have HC := Aside0.mk hc
    have HP := fun n => Aside0.mk ((hb.drewN n).put h.toNat (1, 0, 0))
    have HB := Aside0.mk hb
    clear hb hc hg hx
    simp only at d0 d1 d2 ⊢
    by_cases e0 : s = 0
    · subst e0
      rw [if_pos rfl]
      go_enter Try.func39, Try.ntmps39
      go_wp2_with (go_at_call 91; refine HC.out.mono ?_; rintro e w1 ⟨rfl, ⟨n1, rfl⟩⟩)
      go_ret
      exact ⟨rfl, (HP n1).out.1, ((Turn.refl T W).drewN n1).trans (HP n1).out.2 (fun _ h => .inl h)⟩
    · have f0 : (s == 0) = false := beq_eq_false_iff_ne.2 e0
      rw [if_neg e0]
      go_enter Try.func39, Try.ntmps39
      go_wp2_with (go_at_call 91; refine HC.out.mono ?_; rintro e w1 ⟨rfl, ⟨n1, rfl⟩⟩)
      go_ret
      exact ⟨rfl, HB.out.drewN n1, (Turn.refl _ _).drewN n1⟩
set_option maxRecDepth 100000 in
set_option maxHeartbeats 4000000 in
theorem finish_calls (hb : Bat W T p g m N B f) (h : Int) : Calls Try.prog 48 #[.pointer (some ⟨p, 0, none⟩), .int .i64 h] W fun e W' => e = .returned (.int .i64 (B.finish h).2) ∧ Bat W' T p g m N (B.finish h).1 f ∧ Turn T W W' := by
  obtain ⟨c0, c1⟩ := hb.cells
  have hc := ready_calls hb h
  unfold Bd.finish
  by_cases hr : B.rdy h = 0
  · rw [if_pos hr]
    rw [hr] at hc
    have hh : B.has h = true := by
      cases hh : B.has h with
      | true => rfl
      | false => unfold Bd.rdy at hr; rw [if_pos hh] at hr; cases hr
    obtain ⟨hg, h0, h1, h2⟩ := B.get hh
    obtain ⟨d0, d1, d2⟩ := hb.hg.cells hg
    have fr := hb.hg.free
    replace h0 := eq_true h0
    replace h1 := eq_true h1
    have HC := Aside0.mk hc
    have HP := fun n => Aside0.mk ((hb.drewN n).put h.toNat (0, 0, 0))
    have HB := Aside0.mk hb
    clear hb hc hg hr
    go_enter Try.func48, Try.ntmps48
    go_wp2_with (go_at_call 92; refine HC.out.mono ?_; rintro e w1 ⟨rfl, ⟨n1, rfl⟩⟩)
    go_ret
    exact ⟨rfl, (HP n1).out.1, ((Turn.refl T W).drewN n1).trans (HP n1).out.2 (fun _ h => .inl h)⟩
  · rw [if_neg hr]
    obtain ⟨r, hr2⟩ : ∃ r, B.rdy h = r := ⟨_, rfl⟩
    rw [hr2] at hr hc ⊢
    have f0 : (r == 0) = false := beq_eq_false_iff_ne.2 hr
    have HC := Aside0.mk hc
    have HB := Aside0.mk hb
    clear hb hc hr hr2
    go_enter Try.func48, Try.ntmps48
    go_wp2_with (go_at_call 92; refine HC.out.mono ?_; rintro e w1 ⟨rfl, ⟨n1, rfl⟩⟩)
    go_ret
    exact ⟨rfl, HB.out.drewN n1, (Turn.refl _ _).drewN n1⟩
end Go.Proofs.Ytfcjfjmjcmanaaa.B
set_option linter.unusedVariables false
namespace Go.Proofs.Ytfcjfjmjcmanaaa.B
open Go Go.RowKit Go.Proofs.YtfcjfjmjcmanaaaW.PrintWords Go.Proofs.YtfcjfjmjcmanaaaW.PrintLast Go.Proofs.YtfcjfjmjcmanaaaW.PrintMore
variable {W : World} {T : Nat → Prop} {p g m N : Nat} {B : Bd} {f : Int → Value}
attribute [local go_sem ↓] Go.wp_at_zero Go.wp_at_succ
theorem wp_append_sl {w : World} {o : Oper} {a : Act} {K : Act → World → Prop} {Q : Exit → Act → World → Prop} (hgd : o.guard = none) (s x : Operand)
    (ho : o.op = .call { callee := .builtin .append, args := #[s, x], argTypes := #[26, 26] }) (v : Value) (L : List Int) (hs : a.eval s = v) (h : Sl w T v L) (ad : Addr) (c : Nat) (y : Int) (hx : a.eval x = .slice (some ad) 1 c) (hy : w.cell? ad = some (.int .i64 y)) (hl : L.length + 1 ≤ 4398046511104)
    (hK : ∀ v' w', Sl w' (fun j => T j ∨ w.heap.size ≤ j) v' (L ++ [y]) → w.grownBy w' v.ownBlock → (v'.ownBlock = v.ownBlock ∨ ∃ j, v'.ownBlock = some j ∧ w.heap.size ≤ j) → K (a.put o.dst v') w') : Oper.wp Try.prog o a w K Q := by
  obtain ⟨v', w', hr, h1, h2, h3⟩ := h.append (c := c) hy hl o.type
  unfold Oper.wp execOp
  simp only [ho, resolve, invoke, builtin, Sem.run_bind, Sem.run_pure, Result.andThen_ok, List.map_toArray, List.map_cons, List.map_nil, hs, hx, hr]
  exact hK v' w' h1 h2 h3
theorem step_append_sl {ops : Array Oper} {E : Prop} {w : World} {o : Oper} {a : Act} {K : Act → World → Prop} {Q : Exit → Act → World → Prop} (hgd : o.guard = none) (s x : Operand)
    (ho : o.op = .call { callee := .builtin .append, args := #[s, x], argTypes := #[26, 26] }) (v : Value) (L : List Int) (hs : a.eval s = v) (h : Sl w T v L) (ad : Addr) (c : Nat) (y : Int) (hx : a.eval x = .slice (some ad) 1 c) (hy : w.cell? ad = some (.int .i64 y)) (hl : L.length + 1 ≤ 4398046511104)
    (hK : ∀ v' w', Sl w' (fun j => T j ∨ w.heap.size ≤ j) v' (L ++ [y]) → w.grownBy w' v.ownBlock → (v'.ownBlock = v.ownBlock ∨ ∃ j, v'.ownBlock = some j ∧ w.heap.size ≤ j) → K (a.put o.dst v') w') :
    if Region.wanted o (yielded ops a.tmps) = true then Oper.wp Try.prog o a w K Q else E := by
  have hw : Region.wanted o (yielded ops a.tmps) = true := by simp [Region.wanted, hgd]
  rw [if_pos hw]
  exact wp_append_sl hgd s x ho v L hs h ad c y hx hy hl hK
/-- What the regions read of a board. -/
theorem Bat.reads (h : Bat W T p g m N B f) {k : Int} (hk : (Lit.int .i64 k).wf = true) {X : World} (hb : Below W.heap.size W X) :
    X.cell? ⟨p, 1, none⟩ = some (.map (some m)) ∧ (Instr.lookup 123 (.map (some m)) (.int .i64 k) false).run Try.prog X = .ok (f k) X := ⟨(h.below hb).cells.2, (h.below hb).hm.look hk⟩
theorem Bat.reads2 (h : Bat W T p g m N B f) {k : Int} (hk : (Lit.int .i64 k).wf = true) {X Y : World} (hb : Below W.heap.size W X) (hg : X.grownBy Y (f k).ownBlock) :
    Y.cell? ⟨p, 1, none⟩ = some (.map (some m)) ∧ (Instr.lookup 123 (.map (some m)) (.int .i64 k) false).run Try.prog Y = .ok (f k) Y := by
  have h1 := h.below hb
  have e : ∀ i, i < X.heap.size → (∀ j, (f k).ownBlock = some j → i ≠ j) → Y.heap[i]? = X.heap[i]? := fun i hi hn => hg.block i hi (fun e => hn i e.symm rfl)
  refine ⟨?_, (h1.hm.of_block hg.size (e m h1.hm.lt (fun j hj ej => (h1.off k hk j hj).2.2 ej.symm))).look hk⟩
  rw [World.cell?_of_block (e p (h1.lt p h1.own.1) (fun j hj ej => (h1.off k hk j hj).1 ej.symm))]
  exact h1.cells.2
set_option maxRecDepth 100000 in
set_option maxHeartbeats 4000000 in
theorem block_calls (hb : Bat W T p g m N B f) (hN : N + 1 < maxLen) (h on : Int) (hon : (Lit.int .i64 on).wf = true) (hq : (B.q on).length + 1 ≤ 4398046511104) :
    Calls Try.prog 40 #[.pointer (some ⟨p, 0, none⟩), .int .i64 h, .int .i64 on] W fun e W' => e = .returned (.int .i64 (B.block h on).2) ∧ ∃ f', Bat W' (fun i => T i ∨ W.heap.size ≤ i ∧ i < W'.heap.size) p g m (N + 1) (B.block h on).1 f' ∧ Turn T W W' := by
  obtain ⟨c0, c1⟩ := hb.cells
  have hc := ready_calls hb h
  unfold Bd.block
  by_cases hr : B.rdy h = 0
  · rw [if_pos hr]
    rw [hr] at hc
    have hh : B.has h = true := by
      cases hh : B.has h with
      | true => rfl
      | false => unfold Bd.rdy at hr; rw [if_pos hh] at hr; cases hr
    obtain ⟨hg, h0, h1, h2⟩ := B.get hh
    obtain ⟨d0, d1, d2⟩ := hb.hg.cells hg
    have fr := hb.hg.free
    replace h0 := eq_true h0
    replace h1 := eq_true h1
    have HC := Aside0.mk hc
    have HP := fun n => Aside0.mk ((hb.drewN n).put h.toNat (2, on, 0))
    have HB := Aside0.mk hb
    have HQ := Aside0.mk hq
    have HNN := Aside0.mk hN
    have HON := Aside0.mk hon
    clear hb hc hg hr hq hN hon
    go_enter Try.func40, Try.ntmps40
    go_wp2_with (go_at_call 92; refine HC.out.mono ?_; rintro e w1 ⟨rfl, ⟨n1, rfl⟩⟩)
    have H1 := (HP n1).out
    have H2 := Aside0.mk H1.1
    have H3 := Aside0.mk (((Turn.refl T W).drewN n1).trans H1.2 (fun _ h => .inl h))
    clear H1 HP
    generalize (((W.drewN n1).setCell _ _).setCell _ _).setCell _ _ = W1 at H2 H3 ⊢
    obtain ⟨b1, b2⟩ := H2.out.reads HON.out (Below.refl _ _)
    clear c0 c1 d0 d1 d2 fr
    have lk := fun X (hX : Below W1.heap.size W1 X) => (H2.out.reads HON.out hX).2
    have k1 := lk W1.drew (by repeat (first | exact Below.refl _ _ | apply below_drew | apply below_alloc))
    have k2 := lk (W1.alloc (.cells #[.int .i64 h] 3)) (by repeat (first | exact Below.refl _ _ | apply below_drew | apply below_alloc))
    have k3 := lk (W1.alloc (.cells #[.int .i64 h] 3)).drew (by repeat (first | exact Below.refl _ _ | apply below_drew | apply below_alloc))
    have k4 := lk (W1.drew.alloc (.cells #[.int .i64 h] 3)) (by repeat (first | exact Below.refl _ _ | apply below_drew | apply below_alloc))
    have k5 := lk (W1.drew.alloc (.cells #[.int .i64 h] 3)).drew (by repeat (first | exact Below.refl _ _ | apply below_drew | apply below_alloc))
    have LK := Aside0.mk lk
    clear lk
    go_region_held3 (fun w' => w'.cell? ⟨p, 1, none⟩ = some (.map (some m)))
      (first
        | exact hb6.cells.2
        | (refine (H2.out.reads2 HON.out ?_ hg5).1; (repeat (first | exact Below.refl _ _ | apply below_drew | apply below_alloc)); done)
        | (refine (H2.out.reads HON.out ?_).1; (repeat (first | exact Below.refl _ _ | apply below_drew | apply below_alloc)); done))
      ((refine step_append_sl rfl _ _ (by rfl) _ _ (by rfl) ((H2.out.below (by repeat (first | exact Below.refl _ _ | apply below_drew | apply below_alloc))).hf on HON.out) ⟨W1.heap.size, 0, none⟩ 1 h (by rfl) (by simp) HQ.out ?_; intro v5 w5 hs5 hg5 hat5; obtain ⟨w6, hr6, hb6, ht6⟩ := (H2.out.below (by repeat (first | exact Below.refl _ _ | apply below_drew | apply below_alloc))).store (Nat.lt_of_succ_lt HNN.out) HON.out hs5 hg5 hat5))
    all_goals go_wp2
    all_goals go_ret
    all_goals (
      have hs1 := H3.out.size
      have hs2 := ht6.size
      simp only [World.size_drew, World.size_alloc] at hs2
      exact ⟨rfl, ⟨_, hb6.widen (fun i hi => hi.imp id (fun hi => ⟨by have := hi.1; simp only [World.size_drew, World.size_alloc] at this; omega, hi.2⟩)) (fun i hi => hi.elim (fun z => by have := H2.out.lt i z; omega) (·.2))⟩,
        H3.out.trans ((Turn.of_below (T := T) (by repeat (first | exact Below.refl _ _ | apply below_drew | apply below_alloc))).trans ht6 (fun _ h => .inl h)) (fun _ h => .inl h)⟩)
  · rw [if_neg hr]
    obtain ⟨r, hr2⟩ : ∃ r, B.rdy h = r := ⟨_, rfl⟩
    rw [hr2] at hr hc ⊢
    have f0 : (r == 0) = false := beq_eq_false_iff_ne.2 hr
    have HC := Aside0.mk hc
    have HB := Aside0.mk hb
    clear hb hc hr hr2
    go_enter Try.func40, Try.ntmps40
    go_wp2_with (go_at_call 92; refine HC.out.mono ?_; rintro e w1 ⟨rfl, ⟨n1, rfl⟩⟩)
    go_ret
    have h1 := (HB.out.drewN n1).mono (Nat.le_succ N)
    exact ⟨rfl, f, h1.widen (fun _ h => .inl h) (fun i hi => hi.elim (h1.lt i) (·.2)), (Turn.refl _ _).drewN n1⟩
set_option maxRecDepth 100000 in
set_option maxHeartbeats 4000000 in
theorem waiting_calls (hb : Bat W T p g m N B f) (on : Int) (hon : (Lit.int .i64 on).wf = true) (hq : (B.q on).length ≤ 4398046511104) :
    Calls Try.prog 41 #[.pointer (some ⟨p, 0, none⟩), .int .i64 on] W fun e W' => ∃ v, e = .returned v ∧ Kd.R (Kd.int .i64) 3 W' W.heap.size (fun _ => True) v (B.q on) ∧ Below W.heap.size W W' := by
  obtain ⟨c0, c1⟩ := hb.cells
  obtain ⟨A, c, hv, hc, hC⟩ := (hb.hf on hon).C
  have hl := hb.hm.look hon
  rw [hv] at hl
  have cl := X.slices_Clone.calls A c (B.q on) (B.q on) W hC hc (by unfold X.slices_Clone.f; rw [if_pos (by omega)])
  obtain ⟨L, hL⟩ : ∃ L, B.q on = L := ⟨_, rfl⟩
  rw [hL] at hl cl ⊢
  have CL := Aside0.mk cl
  clear hb hv hc hC cl hL hq hon
  go_enter Try.func41, Try.ntmps41
  go_wp2_with (go_at_call 85; refine CL.out.mono ?_; rintro e w1 ⟨v, rfl, hr, B1⟩)
  go_ret
  exact ⟨v, rfl, hr, B1⟩
set_option maxRecDepth 100000 in
set_option maxHeartbeats 4000000 in
theorem first_calls (hb : Bat W T p g m N B f) (hN : N + 1 < maxLen) (on : Int) (hon : (Lit.int .i64 on).wf = true) (hq : ∀ h ∈ B.q on, B.has h = true) :
    Calls Try.prog 43 #[.pointer (some ⟨p, 0, none⟩), .int .i64 on] W fun e W' => e = .returned (.tuple #[.int .i64 (B.first on).2.1, .bool (B.first on).2.2]) ∧ ∃ f', Bat W' (fun i => T i ∨ W.heap.size ≤ i ∧ i < W'.heap.size) p g m (N + 1) (B.first on).1 f' ∧ Turn T W W' := by
  obtain ⟨c0, c1⟩ := hb.cells
  have hl := hb.hm.look hon
  have hs := hb.hf on hon
  unfold Bd.first
  obtain ⟨L, hL⟩ : ∃ L, B.q on = L := ⟨_, rfl⟩
  rw [hL] at hs hq ⊢
  cases L with
  | nil =>
    have hv : f on = .slice none 0 0 := by
      rcases hs with h | ⟨_, _, _, _, _, _, h, _⟩
      · exact h.1
      · exact absurd h (by simp)
    rw [hv] at hl
    have HB := Aside0.mk hb
    clear hb hs hq hL hv hon hN
    simp only
    go_enter Try.func43, Try.ntmps43
    go_wp2
    go_ret2
    exact ⟨rfl, f, (HB.out.mono (Nat.le_succ N)).widen (fun _ h => .inl h) (fun i hi => hi.elim (HB.out.lt i) (·.2)), Turn.refl _ _⟩
  | cons x t =>
    obtain ⟨j, off, cap, hv, hcap, hmax, hx, ht⟩ := hs.cut
    obtain ⟨n, hn⟩ : ∃ n, t.length + 1 = n := ⟨_, rfl⟩
    rw [hn] at hv hcap
    rw [hv] at hl
    obtain ⟨hg, h0, h1, h2⟩ := B.get (hq x (by simp))
    have HB := Aside0.mk hb
    have hn0 : ((n : Int) == 0) = false := by simp; omega
    have hn1 : ((0 : Int) < (n : Int)) = True := eq_true (by omega)
    have hn4 : (0 < n) = True := eq_true (by omega)
    have hn2 : ((1 : Int) ≤ (n : Int)) = True := eq_true (by omega)
    have hn3 : ((n : Int) ≤ (cap : Int)) = True := eq_true (by omega)
    have HT := Aside0.mk ht
    have hs0 := ht
    have k1 : (Instr.lookup 123 (.map (some m)) (.int .i64 on) false).run Try.prog W.drew = .ok (f on) W.drew := (hb.drewN 1).hm.look hon
    rw [hv] at k1
    have HV := Aside0.mk hv
    have HNN := Aside0.mk hN
    have HON := Aside0.mk hon
    obtain ⟨i03, hi03, _, hsz3, _⟩ := info_parts info3'
    have hcut := cut_from (P := Try.prog) 26 3 .i64 Try.underlying26 hi03 1 hsz3 (some ⟨j, off, none⟩) n cap 1 (by omega) (by omega)
    rw [show (1 : Int).toNat = 1 from rfl] at hcut
    have fr := hb.hg.free
    replace h0 := eq_true h0
    replace h1 := eq_true h1
    obtain ⟨d0, d1, d2⟩ := hb.hg.cells hg
    clear hi03 hsz3
    cases t with
    | nil =>
      obtain rfl : 1 = n := hn
      obtain ⟨AF, hAF⟩ : ∃ AF, (if cap = 1 then some (⟨j, off, none⟩ : Addr) else (some (⟨j, off, none⟩ : Addr)).map (·.add (1 * 1))) = AF := ⟨_, rfl⟩
      rw [hAF] at hcut
      obtain ⟨W2, s1, s2, s3, s4, W3, s5, s6, s7⟩ := (hb.drewN 1).strike (Nat.lt_of_succ_lt hN) hon (.slice AF (1 - 1) (cap - 1))
      clear hb hs hq hL hv ht hAF
      rw [show (W.drewN 1).cell? ⟨p, 0, none⟩ = W.cell? ⟨p, 0, none⟩ from rfl, c0] at s3
      rw [show (W.drewN 1).cell? ⟨p, 1, none⟩ = W.cell? ⟨p, 1, none⟩ from rfl, c1] at s4
      replace s1 : (Instr.mapUpdate 123 (.map (some m)) (.int .i64 on) (.slice AF (1 - 1) (cap - 1))).run Try.prog W.drew = .ok () W2 := s1
      have e0 := s6.cells.1
      have e1 := s6.hg.free
      obtain ⟨z0, z1, z2⟩ := s6.hg.cells hg
      have HP := Aside0.mk (s6.put x.toNat (1, 0, 0))
      have H7 := Aside0.mk s7
      clear s6 s7 hg d0 d1 d2 fr
      simp only
      go_enter Try.func43, Try.ntmps43
      go_wp2
      go_region_held3 (fun w' => w'.cell? ⟨p, 1, none⟩ = some (.map (some m)))
        (first
          | exact s4
          | (refine (HB.out.reads HON.out ?_).1; (repeat (first | exact Below.refl _ _ | apply below_drew | apply below_alloc)); done))
        (fail)
      go_wp2
      go_ret2
      have hp := HP.out
      exact ⟨rfl, _, hp.1.widen (fun _ h => .inl h) (fun i hi => hi.elim (hp.1.lt i) (·.2)), (((Turn.refl T W).drewN 1).trans H7.out (fun _ h => .inl h)).trans hp.2 (fun _ h => .inl h)⟩
    | cons y t =>
      have ht' := (hs0 (by simp) : Sl W T _ (y :: t))
      have hne : ¬ cap = 1 := by simp only [List.length_cons] at hn; omega
      rw [if_neg hne, show (some (⟨j, off, none⟩ : Addr)).map (·.add (1 * 1)) = some ⟨j, off + 1, none⟩ from rfl, show n - 1 = (y :: t).length by omega] at hcut
      have hsd : Sl W.drew (fun i => T i ∨ W.drew.heap.size ≤ i) (.slice (some ⟨j, off + 1, none⟩) (y :: t).length (cap - 1)) (y :: t) := (ht'.kept (fun _ _ => rfl)).mono (fun _ _ h => .inl h)
      obtain ⟨W2, s1, s6, s7⟩ := (hb.drewN 1).store (Nat.lt_of_succ_lt hN) hon hsd ⟨rfl, rfl, rfl, Nat.le_refl _, fun _ _ _ => rfl⟩ (.inl (by rw [hv]; rfl))
      have s2 := s6.hm.look hon
      rw [show upd f on (.slice (some ⟨j, off + 1, none⟩) (y :: t).length (cap - 1)) on = (.slice (some ⟨j, off + 1, none⟩) (y :: t).length (cap - 1) : Value) from if_pos rfl] at s2
      obtain ⟨s3, s4⟩ := s6.cells
      have e1 := s6.hg.free
      obtain ⟨z0, z1, z2⟩ := s6.hg.cells hg
      have HP := Aside0.mk (s6.put x.toNat (1, 0, 0))
      have H7 := Aside0.mk s7
      obtain ⟨n2, hn2'⟩ : ∃ n2, (y :: t).length = n2 := ⟨_, rfl⟩
      rw [hn2'] at hcut s1 s2
      have hnz : ((n2 : Int) == 0) = false := by rw [← hn2']; simp; omega
      clear hb hs hq hL hv ht s6 s7 hg d0 d1 d2 fr hn2' hn ht' hsd hs0
      simp only
      go_enter Try.func43, Try.ntmps43
      go_wp2
      go_region_held3 (fun w' => w'.cell? ⟨p, 1, none⟩ = some (.map (some m)))
        (first
          | exact s4
          | (refine (HB.out.reads HON.out ?_).1; (repeat (first | exact Below.refl _ _ | apply below_drew | apply below_alloc)); done))
        (fail)
      go_wp2
      go_ret2
      have hp := HP.out
      exact ⟨rfl, _, hp.1.widen (fun _ h => h.imp id (fun h => ⟨h.1, by simpa using h.2⟩)) (fun i hi => hi.elim (fun z => hp.1.lt i (.inl z)) (·.2)), (((Turn.refl T W).drewN 1).trans H7.out (fun _ h => .inl h)).trans hp.2 (fun _ h => h.imp id (·.1))⟩
end Go.Proofs.Ytfcjfjmjcmanaaa.B
set_option linter.unusedVariables false
namespace Go.Proofs.Ytfcjfjmjcmanaaa.B
open Go Go.RowKit Go.Proofs.YtfcjfjmjcmanaaaW.PrintWords Go.Proofs.YtfcjfjmjcmanaaaW.PrintLast Go.Proofs.YtfcjfjmjcmanaaaW.PrintMore
variable {W : World} {T : Nat → Prop} {p g m N : Nat} {B : Bd} {f : Int → Value}
theorem wakes_length : ∀ (L : List Int) (l : List Hd), (wakes L l).length = l.length
  | [], _ => rfl
  | h :: t, l => by rw [wakes, wakes_length t]; simp
theorem wakes_snoc (x : Int) : ∀ (A : List Int) (l : List Hd), wakes (A ++ [x]) l = (wakes A l).set x.toNat (1, 0, 0)
  | [], _ => rfl
  | h :: t, l => by rw [List.cons_append, wakes, wakes, wakes_snoc x t]
theorem Sl.cell {A : Option Addr} {n c : Nat} {L : List Int} (h : Sl W T (.slice A n c) L) (k : Int) (h0 : 0 ≤ k) (h1 : k < (L.length : Int)) : ∃ ad, A = some ad ∧ W.cell? (ad.add k.toNat) = some (.int .i64 (rd L k)) := by
  obtain ⟨A', c', e, _, hC⟩ := h.C
  have eA : A = A' := by injection e
  subst eA
  exact Kd.at_int hC k h0 h1
set_option maxRecDepth 100000 in
set_option maxHeartbeats 4000000 in
theorem wake_calls (hb : Bat W T p g m N B f) (on : Int) (hon : (Lit.int .i64 on).wf = true) (hq : ∀ h ∈ B.q on, B.has h = true) (hlen : (B.q on).length ≤ 4398046511104) :
    Calls Try.prog 44 #[.pointer (some ⟨p, 0, none⟩), .int .i64 on] W fun e W' => ∃ v, e = .returned v ∧ Sl W' (fun i => T i ∧ v.ownBlock = some i) v (B.q on) ∧ ∃ T' f', Bat W' T' p g m N (B.wake on) f' ∧ Turn T W W' ∧ ∀ i, T' i → T i ∧ v.ownBlock ≠ some i := by
  obtain ⟨c0, c1⟩ := hb.cells
  obtain ⟨A, c, hv, hc, _⟩ := (hb.hf on hon).C
  have hl := hb.hm.look hon
  obtain ⟨W2, hr, hb2, hs2, ht2⟩ := hb.drop hon 0
  have s5 : ∀ ty, (Builtin.delete_ #[123, 3] ty #[.map (some m), .int .i64 on]).run Try.prog W = .ok (.tuple #[]) W2 := fun _ => hr
  rw [hv] at hl hs2
  obtain ⟨L, hL⟩ : ∃ L, B.q on = L := ⟨_, rfl⟩
  unfold Bd.wake
  rw [hL] at hl hs2 hq hlen hv ⊢
  have HV := Aside0.mk hv
  have HB2 := Aside0.mk hb2
  have HS2 := Aside0.mk hs2
  have HT2 := Aside0.mk ht2
  have HQ := Aside0.mk hq
  have HL := Aside0.mk hlen
  clear hb hv hc hr hb2 hs2 ht2 hq hlen hon hL
  go_enter Try.func44, Try.ntmps44
  go_wp2
  go_loopw [23] (fun vi wr => ∃ k : Int, vi = .int .i64 k ∧ Aside0 (0 ≤ k ∧ k ≤ (L.length : Int)) ∧ Aside0 (Bat wr (fun i => T i ∧ (f on).ownBlock ≠ some i) p g m N ⟨wakes (L.take k.toNat) B.l, upd B.q on []⟩ (upd f on nilv)) ∧ Aside0 (Turn (fun i => T i ∧ (f on).ownBlock ≠ some i) W2 wr)) (fun vi _ => ((L.length : Int) - intOf vi).toNat)
  case atStart => exact ⟨0, rfl, ⟨by omega⟩, ⟨by simpa [wakes] using HB2.out⟩, ⟨Turn.refl _ _⟩⟩
  case round =>
    obtain ⟨k, rfl, Hk, HBk, HTk⟩ := hrel
    rename World => W3
    have hs3 : Sl W3 (fun i => T i ∧ (Value.slice A L.length c).ownBlock = some i) (.slice A L.length c) L := HS2.out.kept (fun j hj => HTk.out.block j (HS2.out.own hj).2 (fun h => h.2 (by rw [HV.out]; exact hj)))
    by_cases hlt : k < (L.length : Int)
    · have hltb : decide (k < (L.length : Int)) = true := decide_eq_true hlt
      have p0 := Hk.out.1
      obtain ⟨ad, rfl, hx⟩ := hs3.cell k p0 hlt
      obtain ⟨x, hxx⟩ : ∃ x, rd L k = x := ⟨_, rfl⟩
      rw [hxx] at hx
      have hkn : k.toNat < L.length := by omega
      have hgx : L[k.toNat] = x := by rw [← hxx]; unfold rd; rw [List.getD_eq_getElem?_getD, List.getElem?_eq_getElem hkn]; rfl
      obtain ⟨_, h0, h1, h2⟩ := B.get (HQ.out x (by rw [← hgx]; exact List.getElem_mem _))
      have hwl : (wakes (L.take k.toNat) B.l).length = B.l.length := wakes_length _ _
      obtain ⟨y, hy⟩ : ∃ y, (wakes (L.take k.toNat) B.l)[x.toNat]? = some y := ⟨_, List.getElem?_eq_getElem (by rw [hwl]; exact h2)⟩
      obtain ⟨d0, d1, d2⟩ := HBk.out.hg.cells hy
      have e1 := HBk.out.hg.free
      obtain ⟨e2, e3⟩ := HBk.out.cells
      simp only [hwl] at e2
      have HP := HBk.out.put x.toNat (1, 0, 0)
      have hw1 : wrap64 (k + 1) = k + 1 := X.hwrId (by omega) (by have := HL.out; omega)
      have hsn : (wakes (L.take k.toNat) B.l).set x.toNat (1, 0, 0) = wakes (L.take (k + 1).toNat) B.l := by
        rw [← wakes_snoc, show (k + 1).toNat = k.toNat + 1 by omega, List.take_add_one, List.getElem?_eq_getElem hkn, hgx]; rfl
      simp only [hsn] at HP
      have HP := Aside0.mk HP
      have HW := Aside0.mk hw1
      replace p0 := eq_true p0
      replace hlt := eq_true hlt
      replace h0 := eq_true h0
      replace h1 := eq_true h1
      clear hs3 hgx hkn hxx hw1 hsn hy hwl h2
      go_wp2
      have hp := HP.out
      exact ⟨⟨wrap64 (k + 1), rfl, ⟨by rw [HW.out]; have := Hk.out; have := of_eq_true hlt; omega⟩, ⟨by rw [HW.out]; exact hp.1⟩, ⟨HTk.out.trans hp.2 (fun _ h => .inl h)⟩⟩, by rw [HW.out]; simp only [intOf]; have := Hk.out; have := of_eq_true hlt; omega⟩
    · have hltb : decide (k < (L.length : Int)) = false := decide_eq_false hlt
      have hk : k.toNat = L.length := by have := Hk.out; omega
      have HBz := HBk.out
      rw [hk, List.take_length] at HBz
      have HBZ := Aside0.mk HBz
      have HS3 := Aside0.mk hs3
      clear hlt hk HBz hs3
      go_wp2
      go_ret
      exact ⟨.slice A L.length c, rfl, HS3.out, _, _, HBZ.out, HT2.out.trans (HTk.out.mono (fun _ h => h.1)) (fun _ h => .inl h), fun i hi => ⟨hi.1, by have h := hi.2; rw [HV.out] at h; exact h⟩⟩
end Go.Proofs.Ytfcjfjmjcmanaaa.B
set_option linter.unusedVariables false
namespace Go.Proofs.Ytfcjfjmjcmanaaa.B
open Go Go.RowKit Go.Proofs.YtfcjfjmjcmanaaaW.PrintWords Go.Proofs.YtfcjfjmjcmanaaaW.PrintLast Go.Proofs.YtfcjfjmjcmanaaaW.PrintMore
variable {W : World} {T : Nat → Prop} {p g m N : Nat} {B : Bd} {f : Int → Value}
def Bd.new (n : Int) : Bd := ⟨List.replicate n.toNat (0, 0, 0), fun _ => []⟩
theorem info127 : (Try.prog.info? 127).map (fun i => (i.zero, i.size, i.bytes)) = some (some (.agg #[.int .i64 0, .int .i64 0, .int .i64 0]), 3, 24) := by kernel_rfl
theorem make_hds (n : Int) (h1 : 1 ≤ n) (h2 : n ≤ 16) (W : World) : (Instr.makeSlice 122 (.int .i64 n) (.int .i64 n)).run Try.prog W = .ok (.slice (some ⟨W.heap.size, 0, none⟩) n.toNat n.toNat) (W.alloc (.cells (madeCells #[.int .i64 0, .int .i64 0, .int .i64 0] (n.toNat * 3)) 127)) := by
  obtain ⟨i, hi, hzz⟩ := Option.map_eq_some_iff.1 info127
  simp only [Prod.mk.injEq] at hzz
  obtain ⟨hz, hs, hb⟩ := hzz
  have hr := run_make (P := Try.prog) W 122 127 i (.agg #[.int .i64 0, .int .i64 0, .int .i64 0]) Try.underlying122 hi hz .i64 .i64 n n (by omega) (by omega) (by rw [hb]; omega) (by omega)
  rw [hs] at hr
  exact hr
theorem made_get (k j : Nat) (h : j < k * 3) : (madeCells #[.int .i64 0, .int .i64 0, .int .i64 0] (k * 3))[j]? = some (.int .i64 0) := by
  unfold madeCells
  rw [Array.getElem?_map, Array.getElem?_range, if_pos h]
  have : j % 3 = 0 ∨ j % 3 = 1 ∨ j % 3 = 2 := by omega
  rcases this with e | e | e <;> simp [e]
theorem new_Bat (n : Int) (h1 : 1 ≤ n) (W : World) :
    Bat (((W.alloc (.cells (madeCells #[.int .i64 0, .int .i64 0, .int .i64 0] (n.toNat * 3)) 127)).alloc (.map #[] 0)).alloc (.cells #[.slice (some ⟨W.heap.size, 0, none⟩) n.toNat n.toNat, .map (some (W.heap.size + 1))] 125))
      (fun i => W.heap.size ≤ i ∧ i < W.heap.size + 3) (W.heap.size + 2) W.heap.size (W.heap.size + 1) 0 (Bd.new n) (fun _ => nilv) := by
  generalize hA : Obj.cells (madeCells #[.int .i64 0, .int .i64 0, .int .i64 0] (n.toNat * 3)) 127 = oA
  generalize hC : Obj.cells #[.slice (some ⟨W.heap.size, 0, none⟩) n.toNat n.toNat, .map (some (W.heap.size + 1))] 125 = oC
  have e2 : (((W.alloc oA).alloc (.map #[] 0)).alloc oC).heap[W.heap.size + 2]? = some oC := by
    have := World.alloc_heap_new ((W.alloc oA).alloc (.map #[] 0)) oC
    simpa using this
  have e0 : (((W.alloc oA).alloc (.map #[] 0)).alloc oC).heap[W.heap.size]? = some oA := by
    rw [Below.heap_alloc _ _ _ (by simp; omega), Below.heap_alloc _ _ _ (by simp)]
    exact World.alloc_heap_new W oA
  have m1 : MapAt ((W.alloc oA).alloc (.map #[] 0)) (W.heap.size + 1) 0 (fun _ => nilv) := by
    have := MapAt.made (W.alloc oA)
    simpa using this
  have ln : (Bd.new n).l.length = n.toNat := by simp [Bd.new]
  refine ⟨?_, ⟨_, e0.trans (by rw [← hA]), ?_, ?_⟩, m1.of_block (by simp) (Below.heap_alloc _ _ _ (by simp)), fun k _ => Sl.nil _ _, fun k k' _ _ _ j hj => by simp [nilv, Value.ownBlock] at hj, fun k _ j hj => by simp [nilv, Value.ownBlock] at hj, by omega, by omega, fun i hi => by simp; omega⟩
  · rw [e2, ← hC, ln]
  · rw [size_madeCells, ln]
  · intro i x hi
    have hx : i < n.toNat ∧ x = (0, 0, 0) := by
      unfold Bd.new at hi
      rw [List.getElem?_replicate] at hi
      split at hi
      · rename_i h; cases hi; exact ⟨h, rfl⟩
      · cases hi
    rw [hx.2]
    exact ⟨made_get _ _ (by omega), made_get _ _ (by omega), made_get _ _ (by omega)⟩
set_option maxRecDepth 100000 in
set_option maxHeartbeats 4000000 in
theorem new_calls (n : Int) (h1 : 1 ≤ n) (h2 : n ≤ 16) : Calls Try.prog 38 #[.int .i64 n] W fun e W' => ∃ p T g m, e = .returned (.tuple #[.pointer (some ⟨p, 0, none⟩), .int .i64 0]) ∧ Bat W' T p g m 0 (Bd.new n) (fun _ => nilv) ∧ Below W.heap.size W W' ∧ ∀ i, T i → W.heap.size ≤ i := by
  have hmk := make_hds n h1 h2
  have hmm := @run_makeMap Try.prog
  have t1 : decide (n < 1) = false := decide_eq_false (by omega)
  have t2 : decide (16 < n) = false := decide_eq_false (by omega)
  have t3 : (16 < n) = False := eq_false (by omega)
  have HB := Aside0.mk (new_Bat n h1 W)
  clear h1 h2
  go_enter Try.func38, Try.ntmps38
  go_wp2
  go_ret2
  exact ⟨_, _, _, _, rfl, HB.out, by repeat (first | exact Below.refl _ _ | apply below_alloc), fun i hi => hi.1⟩
set_option maxRecDepth 100000 in
set_option maxHeartbeats 4000000 in
theorem new_bad (n : Int) (h : ¬ (1 ≤ n ∧ n ≤ 16)) : Calls Try.prog 38 #[.int .i64 n] W fun e W' => e = .returned (.tuple #[.pointer none, .int .i64 2]) ∧ Drawn0 W W' := by
  by_cases h1 : n < 1
  · have t1 : decide (n < 1) = true := decide_eq_true h1
    clear h
    go_enter Try.func38, Try.ntmps38
    go_wp2
    go_ret2
    exact ⟨rfl, ⟨0, rfl⟩⟩
  · have t1 : decide (n < 1) = false := decide_eq_false h1
    have h2 : 16 < n := by omega
    have t2 : decide (16 < n) = true := decide_eq_true h2
    clear h
    go_enter Try.func38, Try.ntmps38
    go_wp2
    go_ret2
    exact ⟨rfl, ⟨0, rfl⟩⟩
/-! ### Ready -/
def rdyK (l : List Hd) : Nat → List Int
  | 0 => []
  | k + 1 => if (l.getD k (0, 0, 0)).1 = 1 then rdyK l k ++ [(k : Int)] else rdyK l k
theorem rdyK_length (l : List Hd) : ∀ k, (rdyK l k).length ≤ k
  | 0 => Nat.le_refl _
  | k + 1 => by
    rw [rdyK]
    have := rdyK_length l k
    split
    · simp; exact this
    · omega
def Bd.ready (B : Bd) : List Int := rdyK B.l B.l.length
set_option maxRecDepth 100000 in
set_option maxHeartbeats 4000000 in
theorem readys_calls (hb : Bat W T p g m N B f) (hn : B.l.length ≤ 16) : Calls Try.prog 42 #[.pointer (some ⟨p, 0, none⟩)] W fun e W' => ∃ v, e = .returned v ∧ Kd.R (Kd.int .i64) 3 W' W.heap.size (fun _ => True) v B.ready ∧ Below W.heap.size W W' := by
  obtain ⟨c0, c1⟩ := hb.cells
  have HB := Aside0.mk hb
  have HN := Aside0.mk hn
  clear hb hn
  unfold Bd.ready
  obtain ⟨l, hl⟩ : ∃ l, B.l = l := ⟨_, rfl⟩
  have HG := Aside0.mk HB.out.hg
  rw [hl] at c0 HN HG ⊢
  clear hl
  go_enter Try.func42, Try.ntmps42
  go_wp2
  go_loopw [3, 13] (fun v vi wr => ∃ k : Int, vi = .int .i64 k ∧ Aside0 (0 ≤ k ∧ k ≤ (l.length : Int)) ∧ Aside0 (Kd.R (Kd.int .i64) 3 wr W.heap.size (fun _ => True) v (rdyK l k.toNat)) ∧ Aside0 (Below W.heap.size W wr)) (fun _ vi _ => ((l.length : Int) - intOf vi).toNat)
  case atStart => exact ⟨0, rfl, ⟨by omega⟩, ⟨Kd.R_nil _ _ _ _ (fun _ => True)⟩, ⟨Below.refl _ _⟩⟩
  case round =>
    obtain ⟨k, rfl, Hk, HR, HW⟩ := hrel
    rename World => W3
    by_cases hlt : k < (l.length : Int)
    · have hltb : decide (k < (l.length : Int)) = true := decide_eq_true hlt
      have p0 := Hk.out.1
      have hkn : k.toNat < l.length := by omega
      obtain ⟨⟨s, o, c⟩, hx⟩ : ∃ x, l[k.toNat]? = some x := ⟨_, List.getElem?_eq_getElem hkn⟩
      obtain ⟨d0, d1, d2⟩ := (HG.out.of_block (HW.out.block g HG.out.lt)).cells hx
      have hw1 : wrap64 (k + 1) = k + 1 := X.hwrId (by omega) (by have := HN.out; omega)
      have hkk : (k + 1).toNat = k.toNat + 1 := by omega
      have hst : rdyK l (k + 1).toNat = if s = 1 then rdyK l k.toNat ++ [k] else rdyK l k.toNat := by
        rw [hkk, rdyK, List.getD_eq_getElem?_getD, hx]
        simp only [Option.getD_some, Int.toNat_of_nonneg p0]
      have HST := Aside0.mk hst
      have HW1 := Aside0.mk hw1
      have HLEN := Aside0.mk (rdyK_length l k.toNat)
      replace p0 := eq_true p0
      replace hlt := eq_true hlt
      clear hst hx hkk hw1 hkn
      simp only at d0 d1 d2
      by_cases hs : s = 1
      · subst hs
        go_wp2_with ((with_reducible refine gate_builtin (b := .append) (xs := #[.tmp 21, .tmp 23]) rfl ?_); at_builtin; refine Kd.R_append (Kd.int .i64) (w0 := W) W.heap.size rfl (.tmp 21) (.tmp 23) 26 3 (.int .i64 0) 8 rfl Try.underlying26 info3' rfl (by decide) (by omega) _ (rdyK l k.toNat) k [.int .i64 k] (fun _ => True) (fun _ => False) rfl (by show Value.slice (some ⟨W3.heap.size + 1, 0, none⟩) 1 1 = _; simp) rfl (fun _ hk => hk.elim) (fun _ _ => trivial) (Kd.R_below HR.out (by (repeat (first | exact Below.refl _ _ | apply below_alloc | (refine Below.setCell ?_ (Nat.le_refl _) _))))) (below_step HW.out (by (repeat (first | exact Below.refl _ _ | apply below_alloc | (refine Below.setCell ?_ (Nat.le_refl _) _))))) (Nat.le_trans HW.out.size (by simp)) (by have := HLEN.out; have := HN.out; have := Hk.out; omega) ?_; intro v5 w5 ho hb hg hat; have HO5 := Aside0.mk ho; have HB5 := Aside0.mk hb; clear ho hb hg hat)
        exact ⟨⟨wrap64 (k + 1), rfl, ⟨by rw [HW1.out]; have := Hk.out; have := of_eq_true hlt; omega⟩, ⟨by rw [HW1.out, HST.out, if_pos rfl]; exact HO5.out⟩, HB5⟩, by rw [HW1.out]; simp only [intOf]; have := Hk.out; have := of_eq_true hlt; omega⟩
      · have hsb : (s == 1) = false := beq_eq_false_iff_ne.2 hs
        go_wp2
        exact ⟨⟨wrap64 (k + 1), rfl, ⟨by rw [HW1.out]; have := Hk.out; have := of_eq_true hlt; omega⟩, ⟨by rw [HW1.out, HST.out, if_neg hs]; exact Kd.R_below HR.out (by (repeat (first | exact Below.refl _ _ | apply below_alloc | (refine Below.setCell ?_ (Nat.le_refl _) _))))⟩, ⟨below_step HW.out (by (repeat (first | exact Below.refl _ _ | apply below_alloc | (refine Below.setCell ?_ (Nat.le_refl _) _))))⟩⟩, by rw [HW1.out]; simp only [intOf]; have := Hk.out; have := of_eq_true hlt; omega⟩
    · have hltb : decide (k < (l.length : Int)) = false := decide_eq_false hlt
      have hk : k.toNat = l.length := by have := Hk.out; omega
      rw [hk] at HR
      clear hlt hk
      go_wp2
      go_ret
      exact ⟨_, rfl, HR.out, HW.out⟩
end Go.Proofs.Ytfcjfjmjcmanaaa.B
set_option linter.unusedVariables false
namespace Go.Proofs.Ytfcjfjmjcmanaaa.B
open Go Go.RowKit Go.Proofs.YtfcjfjmjcmanaaaW.PrintWords Go.Proofs.YtfcjfjmjcmanaaaW.PrintLast Go.Proofs.YtfcjfjmjcmanaaaW.PrintMore
variable {W : World} {T : Nat → Prop} {p g m N : Nat} {B : Bd} {f : Int → Value}
def longK (l : List Hd) : Nat → Int × Int
  | 0 => (-1, 0)
  | k + 1 => if (l.getD k (0, 0, 0)).1 = 1 ∧ ((longK l k).1 < 0 ∨ (longK l k).2 < (l.getD k (0, 0, 0)).2.2) then ((k : Int), (l.getD k (0, 0, 0)).2.2) else longK l k
def Bd.longest (B : Bd) : Int × Int := longK B.l B.l.length
set_option maxRecDepth 100000 in
set_option maxHeartbeats 4000000 in
theorem longest_calls (hb : Bat W T p g m N B f) (hn : B.l.length ≤ 16) : Calls Try.prog 50 #[.pointer (some ⟨p, 0, none⟩)] W fun e W' => e = .returned (.tuple #[.int .i64 B.longest.1, .int .i64 B.longest.2]) ∧ Below W.heap.size W W' := by
  obtain ⟨c0, c1⟩ := hb.cells
  have HB := Aside0.mk hb
  have HN := Aside0.mk hn
  clear hb hn
  unfold Bd.longest
  obtain ⟨l, hl⟩ : ∃ l, B.l = l := ⟨_, rfl⟩
  have HG := Aside0.mk HB.out.hg
  rw [hl] at c0 HN HG ⊢
  clear hl
  go_enter Try.func50, Try.ntmps50
  go_wp2
  go_loopw [4, 5, 17] (fun v4 v5 vi wr => ∃ k : Int, vi = .int .i64 k ∧ Aside0 (0 ≤ k ∧ k ≤ (l.length : Int)) ∧ v4 = .int .i64 (longK l k.toNat).1 ∧ v5 = .int .i64 (longK l k.toNat).2 ∧ Aside0 (Below W.heap.size W wr)) (fun _ _ vi _ => ((l.length : Int) - intOf vi).toNat)
  case atStart => exact ⟨0, rfl, ⟨by omega⟩, rfl, rfl, ⟨Below.refl _ _⟩⟩
  case round =>
    obtain ⟨k, rfl, Hk, rfl, rfl, HW⟩ := hrel
    rename World => W3
    by_cases hlt : k < (l.length : Int)
    · have hltb : decide (k < (l.length : Int)) = true := decide_eq_true hlt
      have p0 := Hk.out.1
      have hkn : k.toNat < l.length := by omega
      obtain ⟨⟨s, o, c⟩, hx⟩ : ∃ x, l[k.toNat]? = some x := ⟨_, List.getElem?_eq_getElem hkn⟩
      obtain ⟨d0, d1, d2⟩ := (HG.out.of_block (HW.out.block g HG.out.lt)).cells hx
      have hw1 : wrap64 (k + 1) = k + 1 := X.hwrId (by omega) (by have := HN.out; omega)
      have hkk : (k + 1).toNat = k.toNat + 1 := by omega
      obtain ⟨⟨a, b⟩, hab⟩ : ∃ ab, longK l k.toNat = ab := ⟨_, rfl⟩
      have hst : longK l (k + 1).toNat = if s = 1 ∧ (a < 0 ∨ b < c) then (k, c) else (a, b) := by
        rw [hkk, longK, List.getD_eq_getElem?_getD, hx, hab]
        simp only [Option.getD_some, Int.toNat_of_nonneg p0]
      rw [hab]
      have HST := Aside0.mk hst
      have HW1 := Aside0.mk hw1
      replace p0 := eq_true p0
      replace hlt := eq_true hlt
      clear hst hx hkk hw1 hkn hab
      simp only at d0 d1 d2 ⊢
      have fin : ∀ (w : World) (a' b' : Int), (longK l (k + 1).toNat = (a', b')) → Below W.heap.size W w → (∃ k', Value.int .i64 (wrap64 (k + 1)) = Value.int .i64 k' ∧ Aside0 (0 ≤ k' ∧ k' ≤ (l.length : Int)) ∧ Value.int .i64 a' = .int .i64 (longK l k'.toNat).1 ∧ Value.int .i64 b' = .int .i64 (longK l k'.toNat).2 ∧ Aside0 (Below W.heap.size W w)) := fun w a' b' h1 h2 =>
        ⟨wrap64 (k + 1), rfl, ⟨by rw [HW1.out]; have := Hk.out; have := of_eq_true hlt; omega⟩, by rw [HW1.out, h1], by rw [HW1.out, h1], ⟨h2⟩⟩
      have FIN := Aside0.mk fin
      clear fin
      have msr : ((l.length : Int) - intOf (Value.int .i64 (wrap64 (k + 1)))).toNat < ((l.length : Int) - intOf (Value.int .i64 k)).toNat := by rw [HW1.out]; simp only [intOf]; have := Hk.out; have := of_eq_true hlt; omega
      have MSR := Aside0.mk msr
      clear msr
      by_cases hs : s = 1
      · subst hs
        by_cases ha : a < 0
        · have hab : decide (a < 0) = true := decide_eq_true ha
          have HS2 : Aside0 (longK l (k + 1).toNat = (k, c)) := ⟨by rw [HST.out, if_pos ⟨rfl, .inl ha⟩]⟩
          clear ha
          go_wp2
          go_quiet (fail)
          go_wp2
          exact ⟨FIN.out _ _ _ HS2.out (below_step HW.out (by (repeat (first | exact Below.refl _ _ | apply pw_below_drewN | apply below_alloc)))), MSR.out⟩
        · have hab : decide (a < 0) = false := decide_eq_false ha
          by_cases hb : b < c
          · have hbb : decide (b < c) = true := decide_eq_true hb
            have HS2 : Aside0 (longK l (k + 1).toNat = (k, c)) := ⟨by rw [HST.out, if_pos ⟨rfl, .inr hb⟩]⟩
            clear ha hb
            go_wp2
            go_quiet (fail)
            go_wp2
            exact ⟨FIN.out _ _ _ HS2.out (below_step HW.out (by (repeat (first | exact Below.refl _ _ | apply pw_below_drewN | apply below_alloc)))), MSR.out⟩
          · have hbb : decide (b < c) = false := decide_eq_false hb
            have HS2 : Aside0 (longK l (k + 1).toNat = (a, b)) := ⟨by rw [HST.out, if_neg (by rintro ⟨_, h | h⟩; exact ha h; exact hb h)]⟩
            clear ha hb
            go_wp2
            exact ⟨FIN.out _ _ _ HS2.out (below_step HW.out (by (repeat (first | exact Below.refl _ _ | apply pw_below_drewN | apply below_alloc)))), MSR.out⟩
      · have hsb : (s == 1) = false := beq_eq_false_iff_ne.2 hs
        have HS2 : Aside0 (longK l (k + 1).toNat = (a, b)) := ⟨by rw [HST.out, if_neg (fun h => hs h.1)]⟩
        clear hs
        go_wp2
        exact ⟨FIN.out _ _ _ HS2.out (below_step HW.out (by (repeat (first | exact Below.refl _ _ | apply pw_below_drewN | apply below_alloc)))), MSR.out⟩
    · have hltb : decide (k < (l.length : Int)) = false := decide_eq_false hlt
      have hk : k.toNat = l.length := by have := Hk.out; omega
      rw [hk]
      clear hlt hk
      go_wp2
      go_ret2
      exact ⟨rfl, HW.out⟩
/-! ### Pick -/
def bump (x : Hd) : Hd := if x.1 = 1 then (x.1, x.2.1, wrap64 (x.2.2 + 1)) else x
def bumpK (l : List Hd) (k : Nat) : List Hd := (l.take k).map bump ++ l.drop k
theorem bumpK_length (l : List Hd) (k : Nat) : (bumpK l k).length = l.length := by simp [bumpK]; omega
theorem bumpK_get {l : List Hd} {k : Nat} {x : Hd} (h : l[k]? = some x) : (bumpK l k)[k]? = some x := by
  have hk := (List.getElem?_eq_some_iff.1 h).1
  unfold bumpK
  rw [List.getElem?_append_right (by simp; omega)]
  simp [Nat.min_eq_left (Nat.le_of_lt hk), h]
theorem bumpK_step {l : List Hd} {k : Nat} {x : Hd} (h : l[k]? = some x) : (bumpK l k).set k (bump x) = bumpK l (k + 1) := by
  have hk := (List.getElem?_eq_some_iff.1 h).1
  have hx := (List.getElem?_eq_some_iff.1 h).2
  unfold bumpK
  have hl : ((l.take k).map bump).length = k := by simp; omega
  rw [List.set_append_right _ _ (by omega), hl, Nat.sub_self, List.drop_eq_getElem_cons hk, List.set_cons_zero, List.take_add_one, List.getElem?_eq_getElem hk, hx]
  simp
theorem bumpK_skip {l : List Hd} {k : Nat} {x : Hd} (h : l[k]? = some x) (hb : bump x = x) : bumpK l (k + 1) = bumpK l k := by
  rw [← bumpK_step h, hb]
  have hk := (List.getElem?_eq_some_iff.1 (bumpK_get h))
  rw [← hk.2, List.set_getElem_self]
theorem bumpK_all (l : List Hd) : bumpK l l.length = l.map bump := by simp [bumpK]
def pickAt (n : Nat) (k : Int) : Int := Int.tmod (Int.tmod k n + n) n
theorem pickAt_facts (n : Nat) (hn : 1 ≤ n ∧ n ≤ 16) (k : Int) : ∃ r h : Int, Int.tmod k n = r ∧ wrap64 r = r ∧ wrap64 (r + n) = r + n ∧ Int.tmod (r + n) n = h ∧ wrap64 h = h ∧ pickAt n k = h ∧ 0 ≤ h ∧ h < n := by
  have g1 := Int.tmod_lt_of_pos k (show (0 : Int) < (n : Int) by omega)
  have g2 := Int.lt_tmod_of_pos k (show (0 : Int) < (n : Int) by omega)
  unfold pickAt
  generalize Int.tmod k n = r at g1 g2
  have g3 := Int.tmod_lt_of_pos (r + n) (show (0 : Int) < (n : Int) by omega)
  have g4 := Int.tmod_nonneg (n : Int) (show 0 ≤ r + (n : Int) by omega)
  exact ⟨r, _, rfl, X.hwrId (by omega) (by omega), X.hwrId (by omega) (by omega), rfl, X.hwrId (by omega) (by omega), rfl, g4, g3⟩
def Bd.pick (B : Bd) (k : Int) : Bd × Int × Bool :=
  let h := pickAt B.l.length k
  let x := (B.l.map bump).getD h.toNat (0, 0, 0)
  (⟨(B.l.map bump).set h.toNat (x.1, x.2.1, 0), B.q⟩, h, x.1 == 1)
set_option maxRecDepth 100000 in
set_option maxHeartbeats 4000000 in
theorem pick_calls (hb : Bat W T p g m N B f) (hn : 1 ≤ B.l.length ∧ B.l.length ≤ 16) (k : Int) : Calls Try.prog 49 #[.pointer (some ⟨p, 0, none⟩), .int .i64 k] W fun e W' => e = .returned (.tuple #[.int .i64 (B.pick k).2.1, .bool (B.pick k).2.2]) ∧ Bat W' T p g m N (B.pick k).1 f ∧ Turn T W W' := by
  obtain ⟨c0, c1⟩ := hb.cells
  obtain ⟨r, h, e1, e2, e3, e4, e5, e6, h0, h1⟩ := pickAt_facts B.l.length hn k
  unfold Bd.pick
  rw [e6]
  simp only
  have HB := Aside0.mk hb
  have HN := Aside0.mk hn
  obtain ⟨l, hl⟩ : ∃ l, B.l = l := ⟨_, rfl⟩
  rw [hl] at c0 HN e1 e3 e4 h1 ⊢
  obtain ⟨n, hnn⟩ : ∃ n, l.length = n := ⟨_, rfl⟩
  have HL := Aside0.mk hl
  have HNN := Aside0.mk hnn
  have hnz : ((n : Int) = 0) = False := eq_false (by have := HN.out; omega)
  have hnz' : (n = 0) = False := eq_false (by have := HN.out; omega)
  have hn1 : ((n : Int) == 0) = false := by simp; have := HN.out; omega
  rw [hnn] at c0 e1 e3 e4 h1
  have H01 := Aside0.mk (And.intro h0 h1)
  have hml : (l.map bump).length = n := by rw [List.length_map]; exact hnn
  obtain ⟨⟨s, o, c⟩, hx⟩ : ∃ x, (l.map bump)[h.toNat]? = some x := ⟨_, List.getElem?_eq_getElem (by rw [hml]; omega)⟩
  rw [show (l.map bump).getD h.toNat (0, 0, 0) = (s, o, c) from by rw [List.getD_eq_getElem?_getD, hx]; rfl]
  simp only
  have HX := Aside0.mk hx
  have HML := Aside0.mk hml
  replace h0 := eq_true h0
  replace h1 := eq_true h1
  clear hb hn hl hnn e6 hx hml
  go_enter Try.func49, Try.ntmps49
  go_wp2
  go_loopw [28] (fun vi wr => ∃ k : Int, vi = .int .i64 k ∧ Aside0 (0 ≤ k ∧ k ≤ (n : Int)) ∧ Aside0 (Bat wr T p g m N ⟨bumpK l k.toNat, B.q⟩ f) ∧ Aside0 (Turn T W wr)) (fun vi _ => ((n : Int) - intOf vi).toNat)
  case atStart => exact ⟨0, rfl, ⟨by omega⟩, ⟨by have := HB.out; rw [← HL.out]; simpa [bumpK] using this⟩, ⟨Turn.refl _ _⟩⟩
  case round =>
    obtain ⟨k, rfl, Hk, HBk, HTk⟩ := hrel
    rename World => W3
    by_cases hlt : k < (n : Int)
    · have hltb : decide (k < (n : Int)) = true := decide_eq_true hlt
      have p0 := Hk.out.1
      have hkn : k.toNat < l.length := by have := HNN.out; omega
      obtain ⟨⟨s, o, c⟩, hx⟩ : ∃ x, l[k.toNat]? = some x := ⟨_, List.getElem?_eq_getElem hkn⟩
      obtain ⟨d0, d1, d2⟩ := HBk.out.hg.cells (bumpK_get hx)
      have e1 := HBk.out.hg.free
      obtain ⟨b0, b1⟩ := HBk.out.cells
      simp only [bumpK_length, HNN.out] at b0
      have HP := HBk.out.put3 k.toNat (bumpK_get hx) (wrap64 (c + 1))
      have hw1 : wrap64 (k + 1) = k + 1 := X.hwrId (by omega) (by have := HN.out; have := HNN.out; omega)
      have hkk : (k + 1).toNat = k.toNat + 1 := by omega
      have HW1 := Aside0.mk hw1
      have hst := bumpK_step hx
      have HSK := Aside0.mk (bumpK_skip hx)
      rw [← hkk] at hst HSK
      replace p0 := eq_true p0
      replace hlt := eq_true hlt
      clear hx hkk hw1 hkn
      simp only at d0 d1 d2 HP
      by_cases hs : s = 1
      · subst hs
        rw [show bump (1, o, c) = (1, o, wrap64 (c + 1)) from by simp [bump]] at hst
        rw [hst] at HP
        have HP := Aside0.mk HP
        clear hst
        go_wp2
        have hp := HP.out
        exact ⟨⟨wrap64 (k + 1), rfl, ⟨by rw [HW1.out]; have := Hk.out; have := of_eq_true hlt; omega⟩, ⟨by rw [HW1.out]; exact hp.1⟩, ⟨HTk.out.trans hp.2 (fun _ h => .inl h)⟩⟩, by rw [HW1.out]; simp only [intOf]; have := Hk.out; have := of_eq_true hlt; omega⟩
      · have hsb : (s == 1) = false := beq_eq_false_iff_ne.2 hs
        have hsk := HSK.out (by simp [bump, hs])
        have HSK2 := Aside0.mk hsk
        clear hst HP hsk hs
        go_wp2
        exact ⟨⟨wrap64 (k + 1), rfl, ⟨by rw [HW1.out]; have := Hk.out; have := of_eq_true hlt; omega⟩, ⟨by rw [HW1.out, HSK2.out]; exact HBk.out⟩, HTk⟩, by rw [HW1.out]; simp only [intOf]; have := Hk.out; have := of_eq_true hlt; omega⟩
    · have hltb : decide (k < (n : Int)) = false := decide_eq_false hlt
      have hk : k.toNat = l.length := by have := Hk.out; have := HNN.out; omega
      rw [hk, bumpK_all] at HBk
      have hx := HX.out
      have hml := HML.out
      obtain ⟨d0, d1, d2⟩ := HBk.out.hg.cells hx
      have e1 := HBk.out.hg.free
      obtain ⟨b0, b1⟩ := HBk.out.cells
      simp only [hml] at b0
      have HP := HBk.out.put3 h.toNat hx 0
      simp only at d0 d1 d2 HP
      have q0 : (W3.setCell ⟨g, h.toNat * 3 + 2, none⟩ (.int .i64 0)).cell? ⟨g, h.toNat * 3, none⟩ = some (.int .i64 s) := by
        have hlt := (List.getElem?_eq_some_iff.1 hx).1
        exact (HP.1.hg.cells (i := h.toNat) (x := (s, o, 0)) (List.getElem?_set_self hlt)).1
      have q1 := HP.1.cells
      simp only [List.length_set, hml] at q1
      obtain ⟨q2, q3⟩ := q1
      have HP := Aside0.mk HP
      clear hlt hk hx hml
      go_wp2
      go_quiet (fail)
      go_wp2
      go_ret2
      have hp := HP.out
      exact ⟨rfl, hp.1.drewN nq, (HTk.out.trans hp.2 (fun _ h => .inl h)).drewN nq⟩
end Go.Proofs.Ytfcjfjmjcmanaaa.B
