/- SchedOwn: what answers keeps: the books, a row that grows, what stays. -/
import Derived.Test.YtfcjfjmjcmanaaaGb
set_option linter.unusedVariables false
namespace Go.Proofs.Ytfcjfjmjcmanaaa.V
open Go Go.RowKit Go.Proofs.Ytfcjfjmjcmanaaa.X Go.Proofs.Ytfcjfjmjcmanaaa.O Go.Proofs.Ytfcjfjmjcmanaaa.B Go.Proofs.YtfcjfjmjcmanaaaW.PrintWords Go.Proofs.YtfcjfjmjcmanaaaW.PrintLast Go.Proofs.YtfcjfjmjcmanaaaW.PrintMore
structure OwnS (W : World) (B0 : Nat → Prop) (b ba : Nat) (Xs : Nat → Prop) (wL : World) (vs : List Value) (Ls : List (List Int)) (L : List Int) (T T4 T5 A : Nat → Prop) (v4 v5 : Value) (us : List Value) (m : Value) (w : World) : Prop where
  bk : BkAt w T4 T5 b v4 v5 vs us Ls
  bx : Boxed w ba 26 m
  row : RI w A m L
  turn : Turn B0 W w
  keep : ∀ i, Xs i → w.heap[i]? = wL.heap[i]?
  hB : ∀ i, (T4 i ∨ T5 i ∨ i = b) → (B0 i ∨ W.heap.size ≤ i) ∧ i < w.heap.size ∧ ¬ A i ∧ ¬ Xs i ∧ ¬ T i ∧ i ≠ ba
  hA : ∀ i, A i → W.heap.size ≤ i ∧ i < w.heap.size ∧ ¬ Xs i ∧ ¬ T i ∧ i ≠ ba
  hT : ∀ i, T i → W.heap.size ≤ i ∧ i < w.heap.size ∧ ¬ Xs i ∧ i ≠ ba
  hX : ∀ i, Xs i → W.heap.size ≤ i ∧ i < w.heap.size ∧ i ≠ ba
  ba0 : W.heap.size ≤ ba
/-- The books, a row that grows, what is kept as it was. -/
def Own (W : World) (B0 : Nat → Prop) (b ba : Nat) (Xs : Nat → Prop) (wL : World) (vs : List Value) (Ls : List (List Int)) (L : List Int) (T : Nat → Prop) (w : World) : Prop :=
  ∃ T4 T5 A v4 v5 us m, OwnS W B0 b ba Xs wL vs Ls L T T4 T5 A v4 v5 us m w
variable {W w w' wL : World} {B0 Xs T T' T1 : Nat → Prop} {b ba : Nat} {vs : List Value} {Ls : List (List Int)} {L Lv : List Int} {v : Value}
/-- A step of what is free. -/
theorem Own.step (h : Own W B0 b ba Xs wL vs Ls L T w) (t : Turn T w w') (hT' : ∀ i, T' i → T i ∨ (w.heap.size ≤ i ∧ i < w'.heap.size)) : Own W B0 b ba Xs wL vs Ls L T' w' := by
  obtain ⟨T4, T5, A, v4, v5, us, m, h⟩ := h
  have hz := t.size
  have hw := h.turn.size
  have nT : ∀ i, i < w.heap.size → ¬ T i → ¬ T' i := fun i hi hn z => (hT' i z).elim hn (fun y => by omega)
  have hbal := h.bx.lt
  have hTba : ¬ T ba := fun z => (h.hT ba z).2.2.2 rfl
  exact ⟨T4, T5, A, v4, v5, us, m, h.bk.kept (fun i hi hl => t.block i hl (h.hB i hi).2.2.2.2.1) hz, (t.block _ hbal hTba).trans h.bx, h.row.kept (fun j hj => t.block j (h.row.lt hj).2 (h.hA j (h.row.2 j hj)).2.2.2.1), h.turn.trans t (fun i hi => .inr (h.hT i hi).1), fun i hi => (t.block i (h.hX i hi).2.1 (fun z => (h.hT i z).2.2.1 hi)).trans (h.keep i hi),
    fun i hi => by have q := h.hB i hi; exact ⟨q.1, by omega, q.2.2.1, q.2.2.2.1, nT i q.2.1 q.2.2.2.2.1, q.2.2.2.2.2⟩,
    fun i hi => by have q := h.hA i hi; exact ⟨q.1, by omega, q.2.2.1, nT i q.2.1 q.2.2.2.1, q.2.2.2.2⟩,
    fun i hi => by
      rcases hT' i hi with z | z
      · have q := h.hT i z; exact ⟨q.1, by omega, q.2.2⟩
      · exact ⟨by omega, z.2, fun y => by have := (h.hX i y).2.1; omega, fun y => by omega⟩,
    fun i hi => by have q := h.hX i hi; exact ⟨q.1, by omega, q.2.2⟩, h.ba0⟩
theorem Own.below (h : Own W B0 b ba Xs wL vs Ls L T w) (hb : Below w.heap.size w w') : Own W B0 b ba Xs wL vs Ls L T w' := h.step (Turn.of_below hb) (fun i hi => .inl hi)
theorem Own.abides (W : World) (B0 : Nat → Prop) (b ba : Nat) (Xs : Nat → Prop) (wL : Nat → World) (L : Nat → List Int) (p : Nat → Nat → Prop) (c0 : Nat) : AbidesS (fun (k : Nat) (T : Nat → Prop) (w : World) => p c0 k ∧ ∃ vs Ls, vs.length = c0 + k ∧ Own W B0 b ba Xs (wL k) vs Ls (L k) T w) := by
  rintro k T A B T' ⟨hp, vs, Ls, hv, h⟩ hs hT
  exact ⟨hp, vs, Ls, hv, h.step ⟨hs.os, hs.tape, hs.output, hs.size, hs.block⟩ hT⟩
theorem Own.size (h : Own W B0 b ba Xs wL vs Ls L T w) : W.heap.size ≤ w.heap.size := by
  obtain ⟨T4, T5, A, v4, v5, us, m, h⟩ := h
  exact h.turn.size
theorem Own.turn' (h : Own W B0 b ba Xs wL vs Ls L T w) : Turn B0 W w := by
  obtain ⟨T4, T5, A, v4, v5, us, m, h⟩ := h
  exact h.turn
theorem Own.kept' (h : Own W B0 b ba Xs wL vs Ls L T w) {i : Nat} (hi : Xs i) : w.heap[i]? = wL.heap[i]? := by
  obtain ⟨T4, T5, A, v4, v5, us, m, h⟩ := h
  exact h.keep i hi
theorem Own.hT' (h : Own W B0 b ba Xs wL vs Ls L T w) {i : Nat} (hi : T i) : W.heap.size ≤ i ∧ i < w.heap.size ∧ ¬ Xs i ∧ i ≠ ba := by
  obtain ⟨T4, T5, A, v4, v5, us, m, h⟩ := h
  exact h.hT i hi
theorem Own.hX' (h : Own W B0 b ba Xs wL vs Ls L T w) {i : Nat} (hi : Xs i) : W.heap.size ≤ i ∧ i < w.heap.size ∧ i ≠ ba := by
  obtain ⟨T4, T5, A, v4, v5, us, m, h⟩ := h
  exact h.hX i hi
/-- A list that was put into the books. -/
theorem Own.at (h : Own W B0 b ba Xs wL vs Ls L T w) {i : Nat} (hv : vs[i]? = some v) (hL : Ls[i]? = some Lv) : SlB w (fun _ => True) v Lv := by
  obtain ⟨T4, T5, A, v4, v5, us, m, h⟩ := h
  exact (h.bk.l4.ls i v Lv hv hL).mono (fun _ _ _ => trivial)
/-- New blocks that stay. -/
theorem Own.more (h : Own W B0 b ba Xs wL vs Ls L (fun _ => False) w) (hb : Below w.heap.size w w') : Own W B0 b ba (fun i => Xs i ∨ (w.heap.size ≤ i ∧ i < w'.heap.size)) w' vs Ls L (fun _ => False) w' := by
  obtain ⟨T4, T5, A, v4, v5, us, m, h⟩ := h
  have hz := hb.size
  have hw := h.turn.size
  have hbal := h.bx.lt
  exact ⟨T4, T5, A, v4, v5, us, m, h.bk.below hb, (hb.block _ hbal).trans h.bx, h.row.kept (fun j hj => hb.block j (h.row.lt hj).2), h.turn.trans (Turn.of_below (T := fun _ => False) hb) (fun i hi => hi.elim), fun i hi => rfl,
    fun i hi => by have q := h.hB i hi; exact ⟨q.1, by omega, q.2.2.1, fun z => by rcases z with z | z; exact q.2.2.2.1 z; omega, fun z => z, q.2.2.2.2.2⟩,
    fun i hi => by have q := h.hA i hi; exact ⟨q.1, by omega, fun z => by rcases z with z | z; exact q.2.2.1 z; omega, fun z => z, q.2.2.2.2⟩,
    fun i hi => hi.elim,
    fun i hi => by
      rcases hi with z | z
      · have q := h.hX i z; exact ⟨q.1, by omega, q.2.2⟩
      · exact ⟨by omega, z.2, by omega⟩, h.ba0⟩
/-- A mark stays; the rest is let go. -/
theorem Own.mark (h : Own W B0 b ba Xs wL vs Ls L T w) {D : Nat} (hD : T D) : Own W B0 b ba (fun i => Xs i ∨ i = D) w vs Ls L (fun _ => False) w := by
  obtain ⟨T4, T5, A, v4, v5, us, m, h⟩ := h
  have q := h.hT D hD
  exact ⟨T4, T5, A, v4, v5, us, m, h.bk, h.bx, h.row, h.turn, fun i hi => rfl,
    fun i hi => by have q := h.hB i hi; exact ⟨q.1, q.2.1, q.2.2.1, fun z => by rcases z with z | z; exact q.2.2.2.1 z; exact q.2.2.2.2.1 (by rw [z]; exact hD), fun z => z, q.2.2.2.2.2⟩,
    fun i hi => by have q := h.hA i hi; exact ⟨q.1, q.2.1, fun z => by rcases z with z | z; exact q.2.2.1 z; exact q.2.2.2.1 (by rw [z]; exact hD), fun z => z, q.2.2.2.2⟩,
    fun i hi => hi.elim,
    fun i hi => by
      rcases hi with z | z
      · exact h.hX i z
      · subst z; exact ⟨q.1, q.2.1, q.2.2.2⟩, h.ba0⟩
/-- A block that stayed is turned, and let go. -/
theorem Own.put (h : Own W B0 b ba Xs wL vs Ls L (fun _ => False) w) {D : Nat} (hD : Xs D) (o : Obj) : Own W B0 b ba (fun i => Xs i ∧ i ≠ D) wL vs Ls L (fun _ => False) (w.putObj D o) := by
  obtain ⟨T4, T5, A, v4, v5, us, m, h⟩ := h
  have q := h.hX D hD
  have k : ∀ i, i ≠ D → (w.putObj D o).heap[i]? = w.heap[i]? := fun i hi => World.putObj_heap_other hi
  have hs : (w.putObj D o).heap.size = w.heap.size := by simp
  have t : Turn (fun i => i = D) w (w.putObj D o) := ⟨rfl, rfl, rfl, by rw [hs]; exact Nat.le_refl _, fun i _ hn => k i hn⟩
  exact ⟨T4, T5, A, v4, v5, us, m, h.bk.kept (fun i hi _ => k i (fun z => (h.hB i hi).2.2.2.1 (by rw [z]; exact hD))) (by rw [hs]; exact Nat.le_refl _), (k _ (fun z => q.2.2 z.symm)).trans h.bx, h.row.kept (fun j hj => k j (fun z => (h.hA j (h.row.2 j hj)).2.2.1 (by rw [z]; exact hD))), h.turn.trans t (fun i hi => by rw [hi]; exact .inr q.1), fun i hi => (k i hi.2).trans (h.keep i hi.1),
    fun i hi => by have q := h.hB i hi; rw [hs]; exact ⟨q.1, q.2.1, q.2.2.1, fun z => q.2.2.2.1 z.1, fun z => z, q.2.2.2.2.2⟩,
    fun i hi => by have q := h.hA i hi; rw [hs]; exact ⟨q.1, q.2.1, fun z => q.2.2.1 z.1, fun z => z, q.2.2.2.2⟩,
    fun i hi => hi.elim,
    fun i hi => by rw [hs]; exact h.hX i hi.1, h.ba0⟩
/-- Some of what is free is let go. -/
theorem Own.less (h : Own W B0 b ba Xs wL vs Ls L T1 w) (hTT : ∀ i, T i → T1 i) : Own W B0 b ba Xs wL vs Ls L T w := by
  obtain ⟨T4, T5, A, v4, v5, us, m, h⟩ := h
  exact ⟨T4, T5, A, v4, v5, us, m, h.bk, h.bx, h.row, h.turn, h.keep, fun i hi => by have q := h.hB i hi; exact ⟨q.1, q.2.1, q.2.2.1, q.2.2.2.1, fun z => q.2.2.2.2.1 (hTT i z), q.2.2.2.2.2⟩, fun i hi => by have q := h.hA i hi; exact ⟨q.1, q.2.1, q.2.2.1, fun z => q.2.2.2.1 (hTT i z), q.2.2.2.2⟩, fun i hi => h.hT i (hTT i hi), h.hX, h.ba0⟩
theorem Own.lessX {Xt : Nat → Prop} (h : Own W B0 b ba Xs wL vs Ls L T w) (hX : ∀ i, Xt i → Xs i) : Own W B0 b ba Xt wL vs Ls L T w := by
  obtain ⟨T4, T5, A, v4, v5, us, m, h⟩ := h
  exact ⟨T4, T5, A, v4, v5, us, m, h.bk, h.bx, h.row, h.turn, fun i hi => h.keep i (hX i hi), fun i hi => by have q := h.hB i hi; exact ⟨q.1, q.2.1, q.2.2.1, fun z => q.2.2.2.1 (hX i z), q.2.2.2.2⟩, fun i hi => by have q := h.hA i hi; exact ⟨q.1, q.2.1, fun z => q.2.2.1 (hX i z), q.2.2.2⟩, fun i hi => by have q := h.hT i hi; exact ⟨q.1, q.2.1, fun z => q.2.2.1 (hX i z), q.2.2.2⟩, fun i hi => h.hX i (hX i hi), h.ba0⟩
/-- books.Ints: a list whose row is free goes into the books. -/
theorem Own.ints (h : Own W B0 b ba Xs wL vs Ls L T1 w) (hTT : ∀ i, T i → T1 i) (hv : SlB w (fun j => T1 j ∧ ¬ T j) v Lv) (hl : Lv.length + 10 ≤ 4398046511104) (hn : vs.length + 11 ≤ 4398046511104) :
    Calls Try.prog 27 #[.pointer (some ⟨b, 0, none⟩), v] w fun e w' => (∃ r, e = .returned r) ∧ Own W B0 b ba Xs wL (vs ++ [v]) (Ls ++ [Lv]) L T w' ∧ (∀ i, T i ∨ Xs i ∨ i = ba → w'.heap[i]? = w.heap[i]?) ∧ w.heap.size ≤ w'.heap.size := by
  obtain ⟨T4, T5, A, v4, v5, us, m, h⟩ := h
  refine (ints_calls h.bk hv (fun j hj => ?_) hl hn).mono ?_
  · have hj1 := (hv.own hj).1.1
    exact ⟨fun z => (h.hB j (.inl z)).2.2.2.2.1 hj1, fun z => (h.hB j (.inr (.inl z))).2.2.2.2.1 hj1, fun z => (h.hB j (.inr (.inr z))).2.2.2.2.1 hj1⟩
  rintro e w' ⟨hr, T4', T5', v4', v5', u, hbk, t, hsub⟩
  have hz := t.size
  have hw := h.turn.size
  have hbl := (Array.getElem?_eq_some_iff.1 h.bk.hb).1
  have nB : ∀ i, T1 i → ¬ (T4 i ∨ T5 i ∨ i = b) := fun i hi z => (h.hB i z).2.2.2.2.1 hi
  have nba : ¬ (T4 ba ∨ T5 ba ∨ ba = b) := fun z => (h.hB ba z).2.2.2.2.2 rfl
  have nX : ∀ i, Xs i → ¬ (T4 i ∨ T5 i ∨ i = b) := fun i hi z => (h.hB i z).2.2.2.1 hi
  have new : ∀ i, w.heap.size ≤ i → ¬ A i ∧ ¬ Xs i ∧ ¬ T i ∧ i ≠ ba := fun i hi => ⟨fun z => by have := (h.hA i z).2.1; omega, fun z => by have := (h.hX i z).2.1; omega, fun z => by have := (h.hT i (hTT i z)).2.1; omega, fun z => by have := h.bx.lt; omega⟩
  refine ⟨hr, ⟨T4', T5', A, v4', v5', us ++ [u], m, hbk, (t.block _ h.bx.lt nba).trans h.bx, h.row.kept (fun j hj => t.block j (h.row.lt hj).2 (fun z => (h.hB j z).2.2.1 (h.row.2 j hj))), h.turn.trans t (fun i hi => (h.hB i hi).1), fun i hi => (t.block i (h.hX i hi).2.1 (nX i hi)).trans (h.keep i hi), fun i hi => ?_, fun i hi => by have q := h.hA i hi; exact ⟨q.1, by omega, q.2.2.1, fun z => q.2.2.2.1 (hTT i z), q.2.2.2.2⟩, fun i hi => by have q := h.hT i (hTT i hi); exact ⟨q.1, by omega, q.2.2⟩, fun i hi => by have q := h.hX i hi; exact ⟨q.1, by omega, q.2.2⟩, h.ba0⟩, fun i hi => ?_, hz⟩
  · have lt' : i < w'.heap.size := by
      rcases hi with z | z | z
      · exact hbk.lt i (.inl z)
      · exact hbk.lt i (.inr z)
      · omega
    have cs : (T4 i ∨ T5 i ∨ i = b) ∨ v.ownBlock = some i ∨ w.heap.size ≤ i := by
      rcases hi with z | z | z
      · rcases hsub i (.inl z) with y | y | y
        · exact .inl (.inl y)
        · exact .inl (.inr (.inl y))
        · exact .inr y
      · rcases hsub i (.inr z) with y | y | y
        · exact .inl (.inl y)
        · exact .inl (.inr (.inl y))
        · exact .inr y
      · exact .inl (.inr (.inr z))
    rcases cs with z | z | z
    · have q := h.hB i z
      exact ⟨q.1, lt', q.2.2.1, q.2.2.2.1, fun y => q.2.2.2.2.1 (hTT i y), q.2.2.2.2.2⟩
    · have q := (hv.own z).1
      have q2 := h.hT i q.1
      exact ⟨.inr q2.1, lt', fun y => (h.hA i y).2.2.2.1 q.1, q2.2.2.1, q.2, q2.2.2.2⟩
    · exact ⟨.inr (by omega), lt', new i z⟩
  · rcases hi with z | z | z
    · exact t.block i (h.hT i (hTT i z)).2.1 (nB i (hTT i z))
    · exact t.block i (h.hX i z).2.1 (nX i z)
    · rw [z]; exact t.block _ h.bx.lt nba
/-- The row that grows lies in its box. -/
theorem Own.all (h : Own W B0 b ba Xs wL vs Ls L T w) : ∃ (A : Nat → Prop) (m : Value), RI w A m L ∧ Boxed w ba 26 m ∧ ∀ (A' : Nat → Prop) (m' : Value) (w' : World) (L' : List Int), (∀ i, A' i → A i ∨ i = w.heap.size) → RI w' A' m' L' → w.grownBy w' m.ownBlock → (m'.ownBlock = m.ownBlock ∨ m'.ownBlock = some w.heap.size) → w'.frozen? ⟨ba, 0, none⟩ = false ∧ w'.cell? ⟨ba, 0, none⟩ = some m ∧ Boxed (w'.setCell ⟨ba, 0, none⟩ m') ba 26 m' ∧ (∀ i, T i ∨ Xs i → (w'.setCell ⟨ba, 0, none⟩ m').heap[i]? = w.heap[i]?) ∧ w.heap.size ≤ w'.heap.size ∧ Own W B0 b ba Xs wL vs Ls L' T (w'.setCell ⟨ba, 0, none⟩ m') := by
  obtain ⟨T4, T5, A, v4, v5, us, m, h⟩ := h
  refine ⟨A, m, h.row, h.bx, fun A' m' w' L' hA' h1 h2 h3 => ?_⟩
  have hz := h2.size
  have hw := h.turn.size
  have hAm : ∀ j, m.ownBlock = some j → A j := fun j hj => h.row.2 j hj
  have kp : ∀ i, i < w.heap.size → ¬ A i → w'.heap[i]? = w.heap[i]? := fun i hi hn => h2.block i hi (fun z => hn (hAm i z.symm))
  have hAba : ¬ A ba := fun z => (h.hA ba z).2.2.2.2 rfl
  have bx' : Boxed w' ba 26 m := (kp ba h.bx.lt hAba).trans h.bx
  have k2 : ∀ i, i ≠ ba → (w'.setCell ⟨ba, 0, none⟩ m').heap[i]? = w'.heap[i]? := fun i hi => Below.heap_setCell w' _ _ i hi
  have kk : ∀ i, i < w.heap.size → ¬ A i → i ≠ ba → (w'.setCell ⟨ba, 0, none⟩ m').heap[i]? = w.heap[i]? := fun i hi hn hne => (k2 i hne).trans (kp i hi hn)
  have hs : (w'.setCell ⟨ba, 0, none⟩ m').heap.size = w'.heap.size := by simp
  have hbal := h.bx.lt
  refine ⟨bx'.frozen, bx'.cell, bx'.set _, fun i hi => ?_, hz, T4, T5, fun i => A' i ∧ m'.ownBlock = some i, v4, v5, us, m', h.bk.kept (fun i hi hl => kk i hl (h.hB i hi).2.2.1 (h.hB i hi).2.2.2.2.2) (by rw [hs]; omega), bx'.set _, ?_, ?_, fun i hi => (kk i (h.hX i hi).2.1 (fun z => (h.hA i z).2.2.1 hi) (h.hX i hi).2.2).trans (h.keep i hi), ?_, ?_, ?_, fun i hi => by have q := h.hX i hi; rw [hs]; exact ⟨q.1, by omega, q.2.2⟩, h.ba0⟩
  · rcases hi with z | z
    · have q := h.hT i z; exact kk i q.2.1 (fun y => (h.hA i y).2.2.2.1 z) q.2.2.2
    · have q := h.hX i z; exact kk i q.2.1 (fun y => (h.hA i y).2.2.1 z) q.2.2
  · refine (h1.mono (fun j hj z => ⟨z, hj⟩)).kept (fun j hj => k2 j ?_)
    rcases hA' j (h1.2 j hj) with z | z
    · exact (h.hA j z).2.2.2.2
    · omega
  · exact h.turn.trans (Turn.trans (T := fun i => W.heap.size ≤ i) (Turn.of_grown h2 (fun j hj => (h.hA j (hAm j hj)).1)) (Turn.setCell w' ⟨ba, 0, none⟩ m' (T := fun i => W.heap.size ≤ i) h.ba0) (fun i hi => .inl hi)) (fun i hi => .inr hi)
  · intro i hi
    have q := h.hB i hi
    rw [hs]
    refine ⟨q.1, by omega, fun z => ?_, q.2.2.2⟩
    rcases hA' i z.1 with y | y
    · exact q.2.2.1 y
    · omega
  · intro i hi
    rw [hs]
    rcases hA' i hi.1 with y | y
    · have q := h.hA i y; exact ⟨q.1, by omega, q.2.2⟩
    · exact ⟨by omega, (h1.lt hi.2).2, fun z => by have := (h.hX i z).2.1; omega, fun z => by have := (h.hT i z).2.1; omega, by omega⟩
  · intro i hi
    have q := h.hT i hi
    rw [hs]
    exact ⟨q.1, by omega, q.2.2⟩
/-- A box among what stays is set. -/
theorem Own.setX {bk : Nat} {t : TypeId} {u v v' : Value} (h : Own W B0 b ba Xs (wL.setCell ⟨bk, 0, none⟩ v) vs Ls L T w) (hk : Xs bk) (hb : Boxed wL bk t u) : Boxed w bk t v ∧ Own W B0 b ba Xs (wL.setCell ⟨bk, 0, none⟩ v') vs Ls L T (w.setCell ⟨bk, 0, none⟩ v') := by
  obtain ⟨T4, T5, A, v4, v5, us, m, h⟩ := h
  have hbw : Boxed w bk t v := (h.keep bk hk).trans (hb.set v)
  have q := h.hX bk hk
  have k : ∀ i, i ≠ bk → (w.setCell ⟨bk, 0, none⟩ v').heap[i]? = w.heap[i]? := fun i hi => Below.heap_setCell w _ _ i hi
  have hs : (w.setCell ⟨bk, 0, none⟩ v').heap.size = w.heap.size := by simp
  refine ⟨hbw, T4, T5, A, v4, v5, us, m, h.bk.kept (fun i hi _ => k i (fun z => (h.hB i hi).2.2.2.1 (by rw [z]; exact hk))) (by rw [hs]; exact Nat.le_refl _), (k _ (fun z => q.2.2 z.symm)).trans h.bx, h.row.kept (fun j hj => k j (fun z => (h.hA j (h.row.2 j hj)).2.2.1 (by rw [z]; exact hk))), h.turn.trans (Turn.setCell w ⟨bk, 0, none⟩ v' (T := fun i => i = bk) rfl) (fun i hi => by rw [hi]; exact .inr q.1), fun i hi => ?_, by rw [hs]; exact h.hB, by rw [hs]; exact h.hA, by rw [hs]; exact h.hT, by rw [hs]; exact h.hX, h.ba0⟩
  by_cases e : i = bk
  · subst e
    exact (hbw.set v').trans (hb.set v').symm
  · have e1 := h.keep i hi
    rw [Below.heap_setCell wL ⟨bk, 0, none⟩ v i e] at e1
    rw [k i e, e1, Below.heap_setCell wL ⟨bk, 0, none⟩ v' i e]
/-- From here on. -/
theorem Own.here {bk : Nat} {t : TypeId} {v : Value} (h : Own W B0 b ba Xs wL vs Ls L T w) (hb : Boxed w bk t v) : Own W B0 b ba Xs (w.setCell ⟨bk, 0, none⟩ v) vs Ls L T w := by
  obtain ⟨T4, T5, A, v4, v5, us, m, h⟩ := h
  refine ⟨T4, T5, A, v4, v5, us, m, h.bk, h.bx, h.row, h.turn, fun i hi => ?_, h.hB, h.hA, h.hT, h.hX, h.ba0⟩
  by_cases e : i = bk
  · subst e; exact hb.trans (hb.set v).symm
  · exact (Below.heap_setCell w ⟨bk, 0, none⟩ v i e).symm
end Go.Proofs.Ytfcjfjmjcmanaaa.V
