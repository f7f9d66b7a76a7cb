/- Boards: the board as numbers, and how it lies in memory: a row of handlers, a map of slices whose rows may begin in their midst. -/
import Derived.Test.YtfcjfjmjcmanaaaLz
import Derived.Maps.OwnSet
import Derived.Maps.AppendAt
import Derived.Maps.Views
import Derived.ArgAppend
set_option linter.unusedVariables false
namespace Go.Proofs.Ytfcjfjmjcmanaaa.B
open Go Go.RowKit Go.Proofs.YtfcjfjmjcmanaaaW.PrintWords Go.Proofs.YtfcjfjmjcmanaaaW.PrintLast Go.Proofs.YtfcjfjmjcmanaaaW.PrintMore
open Go.Maps (Keyed)
/-- A step that turns blocks of T alone, and lays new ones. -/
structure Turn (T : Nat → Prop) (A B : World) : Prop where
  os : B.os = A.os
  tape : B.tape = A.tape
  output : B.output = A.output
  size : A.heap.size ≤ B.heap.size
  block : ∀ k, k < A.heap.size → ¬ T k → B.heap[k]? = A.heap[k]?
theorem Turn.refl (T : Nat → Prop) (A : World) : Turn T A A := ⟨rfl, rfl, rfl, Nat.le_refl _, fun _ _ _ => rfl⟩
theorem Turn.trans {T T' : Nat → Prop} {A B C : World} (h : Turn T A B) (k : Turn T' B C) (hT : ∀ b, T' b → T b ∨ A.heap.size ≤ b) : Turn T A C :=
  ⟨k.os.trans h.os, k.tape.trans h.tape, k.output.trans h.output, Nat.le_trans h.size k.size, fun b hb hn => (k.block b (Nat.lt_of_lt_of_le hb h.size) (fun z => (hT b z).elim hn (fun y => by omega))).trans (h.block b hb hn)⟩
theorem Turn.mono {T T' : Nat → Prop} {A B : World} (h : Turn T A B) (k : ∀ b, T b → T' b) : Turn T' A B := ⟨h.os, h.tape, h.output, h.size, fun b hb hn => h.block b hb fun z => hn (k b z)⟩
theorem Turn.below {T : Nat → Prop} {A B : World} (h : Turn T A B) {n : Nat} (hT : ∀ b, T b → n ≤ b) (hn : n ≤ A.heap.size) : Below n A B :=
  ⟨h.os, h.tape, h.output, h.size, fun k hk => h.block k (Nat.lt_of_lt_of_le hk hn) (fun z => by have := hT k z; omega)⟩
theorem Turn.of_below {T : Nat → Prop} {A B : World} (h : Below A.heap.size A B) : Turn T A B := ⟨h.os, h.tape, h.output, h.size, fun k hk _ => h.block k hk⟩
theorem Turn.of_grown {T : Nat → Prop} {A B : World} {row : Option Nat} (h : A.grownBy B row) (hr : ∀ j, row = some j → T j) : Turn T A B :=
  ⟨h.os, h.tape, h.output, h.size, fun k hk hn => h.block k hk (fun e => hn (hr k e.symm))⟩
theorem Turn.setCell {T : Nat → Prop} (A : World) (a : Addr) (v : Value) (h : T a.block) : Turn T A (A.setCell a v) :=
  ⟨rfl, rfl, rfl, by simp, fun k _ hn => Below.heap_setCell A a v k (fun e => hn (by rw [e]; exact h))⟩
theorem Turn.drewN {T : Nat → Prop} {A B : World} (h : Turn T A B) (n : Nat) : Turn T A (B.drewN n) := ⟨h.os, h.tape, h.output, h.size, h.block⟩
theorem Turn.kept {T : Nat → Prop} {A B : World} (h : Turn T A B) : Kept A B T := ⟨h.size, h.block⟩
theorem row_set {W : World} {g o : Nat} {cur : Array Value} {t : TypeId} {fr : Nat × Nat} {v : Value} (h : W.heap[g]? = some (.cells cur t fr)) : (W.setCell ⟨g, o, none⟩ v).heap[g]? = some (.cells (cur.setIfInBounds o v) t fr) := by
  have hl := (Array.getElem?_eq_some_iff.1 h).1
  have hr' : W.heap[g] = .cells cur t fr := (Array.getElem?_eq_some_iff.1 h).2
  unfold World.setCell
  rw [Array.getElem?_eq_getElem (by simp; exact hl), Array.getElem_modify, if_pos rfl, hr']
  rfl
/-! ### the row of handlers -/
abbrev Hd := Int × Int × Int
def HRow (W : World) (g : Nat) (l : List Hd) : Prop :=
  ∃ cur, W.heap[g]? = some (.cells cur 127 (0, 0)) ∧ cur.size = l.length * 3 ∧ ∀ i h, l[i]? = some h → cur[i * 3]? = some (.int .i64 h.1) ∧ cur[i * 3 + 1]? = some (.int .i64 h.2.1) ∧ cur[i * 3 + 2]? = some (.int .i64 h.2.2)
variable {W W' : World} {g p m N : Nat} {l : List Hd} {T T' : Nat → Prop}
theorem HRow.cells (h : HRow W g l) {i : Nat} {x : Hd} (hi : l[i]? = some x) : W.cell? ⟨g, i * 3, none⟩ = some (.int .i64 x.1) ∧ W.cell? ⟨g, i * 3 + 1, none⟩ = some (.int .i64 x.2.1) ∧ W.cell? ⟨g, i * 3 + 2, none⟩ = some (.int .i64 x.2.2) := by
  obtain ⟨cur, hr, hs, hc⟩ := h
  rw [cell_of_row W g _ cur 127 (0, 0) hr, cell_of_row W g _ cur 127 (0, 0) hr, cell_of_row W g _ cur 127 (0, 0) hr]
  exact hc i x hi
theorem HRow.free (h : HRow W g l) (o : Nat) : W.frozen? ⟨g, o, none⟩ = false := by
  obtain ⟨cur, hr, _⟩ := h
  simp [World.frozen?, hr]
theorem HRow.lt (h : HRow W g l) : g < W.heap.size := by obtain ⟨cur, hr, _⟩ := h; exact (Array.getElem?_eq_some_iff.1 hr).1
theorem HRow.of_block (h : HRow W g l) (e : W'.heap[g]? = W.heap[g]?) : HRow W' g l := by obtain ⟨cur, hr, r⟩ := h; exact ⟨cur, e.trans hr, r⟩
theorem HRow.set (h : HRow W g l) (i : Nat) (x : Hd) : HRow (((W.setCell ⟨g, i * 3, none⟩ (.int .i64 x.1)).setCell ⟨g, i * 3 + 1, none⟩ (.int .i64 x.2.1)).setCell ⟨g, i * 3 + 2, none⟩ (.int .i64 x.2.2)) g (l.set i x) := by
  obtain ⟨cur, hr, hs, hc⟩ := h
  refine ⟨_, row_set (row_set (row_set hr)), by simp [hs], fun j y hj => ?_⟩
  have hjl : j < l.length := by
    have := (List.getElem?_eq_some_iff.1 hj).1
    simpa using this
  by_cases e : i = j
  · subst e
    rw [List.getElem?_set_self hjl] at hj
    cases hj
    refine ⟨?_, ?_, ?_⟩ <;> simp [Array.getElem?_setIfInBounds, hs] <;> omega
  · rw [List.getElem?_set_ne e] at hj
    obtain ⟨h1, h2, h3⟩ := hc j y hj
    refine ⟨?_, ?_, ?_⟩
    · rw [Array.getElem?_setIfInBounds, if_neg (by omega), Array.getElem?_setIfInBounds, if_neg (by omega), Array.getElem?_setIfInBounds, if_neg (by omega), h1]
    · rw [Array.getElem?_setIfInBounds, if_neg (by omega), Array.getElem?_setIfInBounds, if_neg (by omega), Array.getElem?_setIfInBounds, if_neg (by omega), h2]
    · rw [Array.getElem?_setIfInBounds, if_neg (by omega), Array.getElem?_setIfInBounds, if_neg (by omega), Array.getElem?_setIfInBounds, if_neg (by omega), h3]
theorem HRow.set3 (h : HRow W g l) (i : Nat) {x : Hd} (hx : l[i]? = some x) (c : Int) : HRow (W.setCell ⟨g, i * 3 + 2, none⟩ (.int .i64 c)) g (l.set i (x.1, x.2.1, c)) := by
  obtain ⟨cur, hr, hs, hc⟩ := h
  refine ⟨_, row_set hr, by simp [hs], fun j y hj => ?_⟩
  have hjl : j < l.length := by
    have := (List.getElem?_eq_some_iff.1 hj).1
    simpa using this
  by_cases e : i = j
  · subst e
    rw [List.getElem?_set_self hjl] at hj
    cases hj
    obtain ⟨h1, h2, h3⟩ := hc i x hx
    refine ⟨?_, ?_, ?_⟩
    · rw [Array.getElem?_setIfInBounds, if_neg (by omega), h1]
    · rw [Array.getElem?_setIfInBounds, if_neg (by omega), h2]
    · rw [Array.getElem?_setIfInBounds, if_pos rfl, if_pos (by omega)]
  · rw [List.getElem?_set_ne e] at hj
    obtain ⟨h1, h2, h3⟩ := hc j y hj
    refine ⟨?_, ?_, ?_⟩
    · rw [Array.getElem?_setIfInBounds, if_neg (by omega), h1]
    · rw [Array.getElem?_setIfInBounds, if_neg (by omega), h2]
    · rw [Array.getElem?_setIfInBounds, if_neg (by omega), h3]
/-! ### the map -/
def nilv : Value := .slice none 0 0
def RV : Value → Option (DataW Value × List MemPlace) := fun v => some (.held v, [])
def MapAt (W : World) (m N : Nat) (f : Int → Value) : Prop := ∃ D : DataW Value, W.ownsMap Try.prog 3 RV m N D ∧ ∀ k, (Lit.int .i64 k).wf = true → D.atKey (.int .i64 k) (.held nilv) = .held (f k)
def upd {α : Type} (f : Int → α) (k : Int) (v : α) : Int → α := fun x => if x = k then v else f x
theorem law3 : Keyed Try.prog 3 := Go.Maps.int_keyed Try.underlying3
theorem zero26 (w : World) : (zeroValue 26).run Try.prog w = .ok (.slice none 0 0) w := by kernel_rfl
theorem key3 {k : Int} (h : (Lit.int .i64 k).wf = true) : keyOf Try.prog 3 (.int .i64 k) = some (.int .i64 k) := Go.Maps.keyOf_int_mk Try.underlying3 h
variable {f : Int → Value}
theorem MapAt.lt (h : MapAt W m N f) : m < W.heap.size := by obtain ⟨D, h1, _⟩ := h; exact h1.lt
theorem MapAt.made (W : World) : MapAt (W.alloc (.map #[] 0)) W.heap.size 0 (fun _ => nilv) := ⟨_, World.ownsMap_made W _ _ _, fun k _ => by simp [DataW.atKey]⟩
theorem MapAt.of_block (h : MapAt W m N f) (hs : W.heap.size ≤ W'.heap.size) (e : W'.heap[m]? = W.heap[m]?) : MapAt W' m N f := by
  obtain ⟨D, ⟨es, clock, hb, r⟩, h2⟩ := h
  exact ⟨D, ⟨es, clock, e.trans hb, r⟩, h2⟩
theorem MapAt.mono {N' : Nat} (h : MapAt W m N f) (hN : N ≤ N') : MapAt W m N' f := by obtain ⟨D, h1, h2⟩ := h; exact ⟨D, h1.mono hN, h2⟩
theorem MapAt.look (h : MapAt W m N f) {k : Int} (hk : (Lit.int .i64 k).wf = true) : (Instr.lookup 123 (.map (some m)) (.int .i64 k) false).run Try.prog W = .ok (f k) W := by
  obtain ⟨D, h1, h2⟩ := h
  obtain ⟨v, ps, hr, hv⟩ := h1.lookup law3 Try.underlying123 (zero26 W) (zd := .held nilv) (zp := []) rfl (key3 hk)
  rw [h2 k hk] at hv
  simp only [RV, Option.some.injEq, Prod.mk.injEq, DataW.held.injEq] at hv
  rw [hr, hv.1]
theorem MapAt.store (h : MapAt W m N f) (hN : N < maxLen) {k : Int} (hk : (Lit.int .i64 k).wf = true) (v : Value) :
    ∃ W', (Instr.mapUpdate 123 (.map (some m)) (.int .i64 k) v).run Try.prog W = .ok () W' ∧ MapAt W' m (N + 1) (upd f k v) ∧ W.grownBy W' (some m) := by
  obtain ⟨D, h1, h2⟩ := h
  have hm : Go.Maps.IsMap D := by obtain ⟨es, clock, _, _, _, rfl⟩ := h1; exact ⟨_, rfl⟩
  obtain ⟨W', hr, ho, ht⟩ := h1.store law3 Try.underlying123 hN (key3 hk) (d := .held v) (ps := []) (val := v) rfl
  refine ⟨W', hr, ⟨_, ho, fun k' hk' => ?_⟩, ht.grown⟩
  unfold upd
  by_cases e : k' = k
  · rw [if_pos e, e, Go.Maps.atKey_put_same hm (law3.key (key3 hk))]
  · rw [if_neg e, Go.Maps.atKey_put_other (by intro h; cases h; exact e rfl)]
    exact h2 k' hk'
theorem MapAt.drop (h : MapAt W m N f) {k : Int} (hk : (Lit.int .i64 k).wf = true) (ty : TypeId) :
    ∃ W', (Builtin.delete_ #[123, 3] ty #[.map (some m), .int .i64 k]).run Try.prog W = .ok (.tuple #[]) W' ∧ MapAt W' m N (upd f k nilv) ∧ W.grownBy W' (some m) := by
  obtain ⟨D, h1, h2⟩ := h
  obtain ⟨W', hr, ho, ht⟩ := h1.drop law3 Try.underlying123 (key3 hk) ty
  refine ⟨W', hr, ⟨_, ho, fun k' hk' => ?_⟩, ht.grown⟩
  unfold upd
  by_cases e : k' = k
  · rw [if_pos e, e, Go.Maps.atKey_del_same]
  · rw [if_neg e, Go.Maps.atKey_del_other (by intro h; cases h; exact e rfl)]
    exact h2 k' hk'
/-! ### a slice of numbers in the midst of a row -/
def Sl (W : World) (T : Nat → Prop) (v : Value) (L : List Int) : Prop :=
  (v = .slice none 0 0 ∧ L = []) ∨ ∃ j off cap cur, v = .slice (some ⟨j, off, none⟩) L.length cap ∧ T j ∧ 0 < L.length ∧ L.length ≤ cap ∧ cap ≤ maxLen ∧ off + cap ≤ cur.size ∧ W.heap[j]? = some (.cells cur 3 (0, 0)) ∧ ∀ i x, L[i]? = some x → cur[off + i]? = some (.int .i64 x)
variable {v : Value} {L : List Int}
theorem Sl.nil (W : World) (T : Nat → Prop) : Sl W T nilv [] := .inl ⟨rfl, rfl⟩
theorem Sl.mono (h : Sl W T v L) (hT : ∀ j, v.ownBlock = some j → T j → T' j) : Sl W T' v L := by
  rcases h with h | ⟨j, off, cap, cur, rfl, h1, r⟩
  · exact .inl h
  · exact .inr ⟨j, off, cap, cur, rfl, hT j rfl h1, r⟩
theorem Sl.kept (h : Sl W T v L) (hk : ∀ j, v.ownBlock = some j → W'.heap[j]? = W.heap[j]?) : Sl W' T v L := by
  rcases h with h | ⟨j, off, cap, cur, rfl, h1, h2, h3, h4, h5, h6, h7⟩
  · exact .inl h
  · exact .inr ⟨j, off, cap, cur, rfl, h1, h2, h3, h4, h5, (hk j rfl).trans h6, h7⟩
theorem Sl.own (h : Sl W T v L) {j : Nat} (hj : v.ownBlock = some j) : T j ∧ j < W.heap.size := by
  rcases h with ⟨rfl, _⟩ | ⟨j', off, cap, cur, rfl, h1, h2, h3, h4, h5, h6, h7⟩
  · simp [Value.ownBlock] at hj
  · simp [Value.ownBlock] at hj
    subst hj
    exact ⟨h1, (Array.getElem?_eq_some_iff.1 h6).1⟩
/-- Read as a row that came in. -/
theorem Sl.C (h : Sl W T v L) : ∃ A c, v = .slice A L.length c ∧ L.length ≤ c ∧ Kd.C (Kd.int .i64) W A L.length L := by
  rcases h with ⟨rfl, rfl⟩ | ⟨j, off, cap, cur, rfl, h1, h2, h3, h4, h5, h6, h7⟩
  · exact ⟨none, 0, rfl, Nat.le_refl _, Kd.C_nil _ _⟩
  · refine ⟨some ⟨j, off, none⟩, cap, rfl, h3, Kd.C_of_reads (d := (0 : Int)) (h1 := fun _ => rfl) ⟨rfl, Nat.le_trans h3 h4, fun _ => ⟨_, rfl, fun i hi => ?_⟩⟩⟩
    rw [Addr.add_lit, cell_of_row W j _ cur 3 (0, 0) h6, h7 i (L.getD i 0) (by rw [List.getD_eq_getElem?_getD, List.getElem?_eq_getElem hi]; rfl)]
theorem Sl.cut {x : Int} {t : List Int} (h : Sl W T v (x :: t)) : ∃ j off cap, v = .slice (some ⟨j, off, none⟩) (t.length + 1) cap ∧ t.length + 1 ≤ cap ∧ cap ≤ maxLen ∧ W.cell? ⟨j, off, none⟩ = some (.int .i64 x) ∧ (t ≠ [] → Sl W T (.slice (some ⟨j, off + 1, none⟩) t.length (cap - 1)) t) := by
  rcases h with ⟨_, h⟩ | ⟨j, off, cap, cur, rfl, h1, h2, h3, h4, h5, h6, h7⟩
  · cases h
  · refine ⟨j, off, cap, rfl, h3, h4, ?_, fun ht => ?_⟩
    · rw [cell_of_row W j _ cur 3 (0, 0) h6]; exact h7 0 x rfl
    · have hp : 0 < t.length := List.length_pos_iff.2 ht
      simp only [List.length_cons] at h3
      refine .inr ⟨j, off + 1, cap - 1, cur, rfl, h1, hp, by omega, by omega, by omega, h6, fun i y hi => ?_⟩
      rw [show off + 1 + i = off + (i + 1) by omega]
      exact h7 (i + 1) y (by simpa using hi)
theorem info3' : (Try.prog.info? 3).map (fun i => (i.zero, i.size, i.bytes)) = some (some (.int .i64 0), 1, 8) := by kernel_rfl
/-- A new row of the call's own, as such a slice. -/
theorem Sl.of_row (h : W.ownsRow 0 3 1 v L.length (L.map (Value.int .i64))) (hp : 0 < L.length) (hT : ∀ j, v.ownBlock = some j → T j) : Sl W T v L := by
  obtain ⟨_, h0 | ⟨j, cap, cur, rfl, _, h6, h3, h4, h5, h7⟩⟩ := h
  · omega
  · refine .inr ⟨j, 0, cap, cur, rfl, hT j rfl, hp, h3, h4, by omega, h6, fun i x hi => ?_⟩
    have hi' : i < L.length := (List.getElem?_eq_some_iff.1 hi).1
    have e : (cur.toList.take (L.length * 1))[i]? = cur.toList[i]? := by rw [List.getElem?_take, if_pos (by omega)]
    rw [Nat.zero_add, ← Array.getElem?_toList, ← e, h7, List.getElem?_map, hi]; rfl
theorem ho' {W' : World} {B : Nat} {v' : Value} {x : Int} (h : W'.ownsRow B 3 1 v' (L.length + 1) (L.map (Value.int .i64) ++ [.int .i64 x])) : W'.ownsRow 0 3 1 v' (L ++ [x]).length ((L ++ [x]).map (Value.int .i64)) := by
  obtain ⟨h1, h2⟩ := h
  refine ⟨by simp, ?_⟩
  rcases h2 with ⟨_, h2⟩ | ⟨k, cap, cur, rfl, hk, r⟩
  · omega
  · exact .inr ⟨k, cap, cur, by simp, Nat.zero_le _, by simpa using r⟩
theorem Sl.append (h : Sl W T v L) {a : Addr} {c : Nat} {x : Int} (hx : W.cell? a = some (.int .i64 x)) (hl : L.length + 1 ≤ 1000) (ty : TypeId) :
    ∃ v' W', (Builtin.append_ #[26, 26] ty #[v, .slice (some a) 1 c]).run Try.prog W = .ok v' W' ∧ Sl W' (fun j => T j ∨ W.heap.size ≤ j) v' (L ++ [x]) ∧ W.grownBy W' v.ownBlock ∧ (v'.ownBlock = v.ownBlock ∨ ∃ j, v'.ownBlock = some j ∧ W.heap.size ≤ j) := by
  obtain ⟨i0, hi0, hz0, hz1, hz2⟩ := info_parts info3'
  have hn : ∀ j u, ([Value.int .i64 x] : List Value)[j]? = some u → W.cell? (a.add j) = some u := fun j u hj => by
    match j, hj with
    | 0, hj => cases hj; rw [show a.add 0 = a by cases a; simp [Addr.add]]; exact hx
  have hml : (1000 : Nat) ≤ maxLen := by unfold maxLen; omega
  rcases h with ⟨rfl, rfl⟩ | ⟨j, off, cap, cur, rfl, h1, h2, h3, h4, h5, h6, h7⟩
  · obtain ⟨v', W', hr, ho, hg, _, hat⟩ := run_append_own_at (P := Try.prog) W 0 26 ty 3 i0 (.int .i64 0) 1 8 Try.underlying26 hi0 hz0 hz1 hz2 rfl (by omega) (.slice none 0 0) 0 [] (World.ownsRow_nil _ _ _ _) a 1 c [.int .i64 x] rfl hn (by simp [Value.oneCell']) (by omega) (by omega) (Nat.zero_le _)
    refine ⟨v', W', hr, Sl.of_row (by simpa using ho) (by simp) (fun j hj => ?_), hg, hat.imp id (fun e => ⟨_, e, Nat.le_refl _⟩)⟩
    rcases hat with e | e
    · rw [e] at hj; simp [Value.ownBlock] at hj
    · rw [e] at hj; cases hj; exact .inr (Nat.le_refl _)
  · by_cases hroom : L.length + 1 ≤ cap
    · have hlt : off + L.length < cur.size := by omega
      have hr := run_append_room_cells (P := Try.prog) W 26 ty 3 i0 Try.underlying26 hi0 j off L.length cap a 1 c [.int .i64 x] (by rw [hz1]; rfl) hn (by simp [Value.oneCell']) hroom
        (fun k hk => by simp at hk; subst hk; rw [hz1, cell_of_row W j _ cur 3 (0, 0) h6]; simp; omega) (fun k hk => by simp [World.frozen?, h6])
      rw [hz1, Nat.mul_one] at hr
      refine ⟨_, _, hr, .inr ⟨j, off, cap, cur.setIfInBounds (off + L.length) (.int .i64 x), by simp, .inl h1, by simp, by simpa using hroom, h4, by simpa using h5, row_set h6, fun k y hk => ?_⟩, ⟨rfl, rfl, rfl, by simp [World.setCells], fun k hk hn => Below.heap_setCell W _ _ k (fun e => hn (by rw [e]; rfl))⟩, .inl rfl⟩
      rw [Array.getElem?_setIfInBounds]
      by_cases e : L.length = k
      · subst e
        rw [List.getElem?_append_right (Nat.le_refl _)] at hk
        simp at hk
        rw [if_pos rfl, if_pos hlt, hk]
      · rw [if_neg (by omega)]
        have hkl : k < L.length := by
          have := (List.getElem?_eq_some_iff.1 hk).1
          simp at this; omega
        rw [List.getElem?_append_left hkl] at hk
        exact h7 k y hk
    · have holds : ∀ k u, (L.map (Value.int .i64))[k]? = some u → W.cell? ((⟨j, off, none⟩ : Addr).add k) = some u := fun k u hk => by
        rw [List.getElem?_map] at hk
        obtain ⟨y, hy, rfl⟩ := Option.map_eq_some_iff.1 hk
        rw [Addr.add_lit, cell_of_row W j _ cur 3 (0, 0) h6]
        exact h7 k y hy
      obtain ⟨v', W', hr, ho, hg⟩ := run_append_arg_grows (P := Try.prog) W 26 ty 3 i0 (.int .i64 0) 1 8 Try.underlying26 hi0 hz0 hz1 hz2 rfl (by omega) ⟨j, off, none⟩ L.length cap (L.map (Value.int .i64)) (by simp) holds a 1 c [.int .i64 x] rfl hn (by omega) (by omega) (by omega)
      have hge : ∀ k, v'.ownBlock = some k → W.heap.size ≤ k := fun k hk => (ho.lt k hk).1
      refine ⟨v', W', hr, Sl.of_row (ho' ho) (by simp) (fun k hk => .inr (hge k hk)), ⟨hg.os, hg.tape, hg.output, hg.size, fun k hk _ => hg.block k hk (by simp)⟩, .inr ?_⟩
      obtain ⟨_, h0 | ⟨k, _, _, rfl, hk, _⟩⟩ := ho
      · omega
      · exact ⟨k, rfl, hk⟩
end Go.Proofs.Ytfcjfjmjcmanaaa.B
