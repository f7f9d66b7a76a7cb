/- SchedLines: a board beside two rows of the law's own. -/
import Derived.Test.YtfcjfjmjcmanaaaBh
set_option linter.unusedVariables false
namespace Go.Proofs.Ytfcjfjmjcmanaaa.B
open Go Go.RowKit Go.Proofs.YtfcjfjmjcmanaaaW.PrintWords Go.Proofs.YtfcjfjmjcmanaaaW.PrintLast Go.Proofs.YtfcjfjmjcmanaaaW.PrintMore
def J (W wr : World) (p : Nat) (B : Bd) (v9 v10 : Value) (Lw Lr : List Int) (M : Nat) : Prop :=
  ∃ T g m N f, N ≤ M ∧ Bat wr T p g m N B f ∧ (∀ i, T i → W.heap.size ≤ i) ∧ Sl wr (fun j => ¬ T j ∧ W.heap.size ≤ j) v9 Lw ∧ Sl wr (fun j => ¬ T j ∧ W.heap.size ≤ j ∧ v9.ownBlock ≠ some j) v10 Lr ∧ Below W.heap.size W wr
variable {W wr : World} {p : Nat} {B : Bd} {v9 v10 : Value} {Lw Lr : List Int} {M : Nat}
theorem J.below (h : J W wr p B v9 v10 Lw Lr M) {w : World} (hb : Below wr.heap.size wr w) : J W w p B v9 v10 Lw Lr M := by
  obtain ⟨T, g, m, N, f, hN, hB, hT, h9, h10, hW⟩ := h
  exact ⟨T, g, m, N, f, hN, hB.below hb, hT, h9.kept (fun j hj => hb.block j (h9.own hj).2), h10.kept (fun j hj => hb.block j (h10.own hj).2), below_step hW hb⟩
theorem J.size (h : J W wr p B v9 v10 Lw Lr M) : W.heap.size ≤ wr.heap.size := by obtain ⟨T, g, m, N, f, hN, hB, hT, h9, h10, hW⟩ := h; exact hW.size
theorem J.base (h : J W wr p B v9 v10 Lw Lr M) : Below W.heap.size W wr := by obtain ⟨T, g, m, N, f, hN, hB, hT, h9, h10, hW⟩ := h; exact hW
theorem J.mono (h : J W wr p B v9 v10 Lw Lr M) {M' : Nat} (hM : M ≤ M') : J W wr p B v9 v10 Lw Lr M' := by
  obtain ⟨T, g, m, N, f, hN, r⟩ := h
  exact ⟨T, g, m, N, f, Nat.le_trans hN hM, r⟩
/-- Behind an operation on the board. -/
theorem J.turn {T T' : Nat → Prop} {g m N g' m' N' : Nat} {f f' : Int → Value} {B' : Bd} {w : World} (hB : Bat wr T p g m N B f) (hT : ∀ i, T i → W.heap.size ≤ i) (h9 : Sl wr (fun j => ¬ T j ∧ W.heap.size ≤ j) v9 Lw) (h10 : Sl wr (fun j => ¬ T j ∧ W.heap.size ≤ j ∧ v9.ownBlock ≠ some j) v10 Lr) (hW : Below W.heap.size W wr)
    (hB' : Bat w T' p g' m' N' B' f') (ht : Turn T wr w) (hs : ∀ i, T' i → T i ∨ wr.heap.size ≤ i) {M' : Nat} (hN : N' ≤ M') : J W w p B' v9 v10 Lw Lr M' :=
  ⟨T', g', m', N', f', hN, hB', fun i hi => (hs i hi).elim (hT i) (fun h => Nat.le_trans hW.size h),
    (h9.kept (fun j hj => ht.block j (h9.own hj).2 (h9.own hj).1.1)).mono (fun j hj h => ⟨fun z => (hs j z).elim h.1 (fun y => by have := (h9.own hj).2; omega), h.2⟩),
    (h10.kept (fun j hj => ht.block j (h10.own hj).2 (h10.own hj).1.1)).mono (fun j hj h => ⟨fun z => (hs j z).elim h.1 (fun y => by have := (h10.own hj).2; omega), h.2⟩),
    hW.trans (ht.below hT hW.size)⟩
theorem J.start (h : J W wr p B v9 v10 Lw Lr M) (x : Int) : Calls Try.prog 39 #[.pointer (some ⟨p, 0, none⟩), .int .i64 x] wr fun e W' => e = .returned (.int .i64 (B.start x).2) ∧ J W W' p (B.start x).1 v9 v10 Lw Lr M := by
  obtain ⟨T, g, m, N, f, hN, hB, hT, h9, h10, hW⟩ := h
  refine (start_calls hB x).mono ?_
  rintro e w ⟨rfl, hB', ht⟩
  exact ⟨rfl, J.turn hB hT h9 h10 hW hB' ht (fun _ h => .inl h) hN⟩
theorem J.block (h : J W wr p B v9 v10 Lw Lr M) (hM : M + 1 < maxLen) (x on : Int) (hon : (Lit.int .i64 on).wf = true) (hq : (B.q on).length + 1 ≤ 4398046511104) :
    Calls Try.prog 40 #[.pointer (some ⟨p, 0, none⟩), .int .i64 x, .int .i64 on] wr fun e W' => e = .returned (.int .i64 (B.block x on).2) ∧ J W W' p (B.block x on).1 v9 v10 Lw Lr (M + 1) := by
  obtain ⟨T, g, m, N, f, hN, hB, hT, h9, h10, hW⟩ := h
  refine (block_calls hB (by omega) x on hon hq).mono ?_
  rintro e w ⟨rfl, f', hB', ht⟩
  exact ⟨rfl, J.turn hB hT h9 h10 hW hB' ht (fun i h => h.imp id (·.1)) (by omega)⟩
theorem J.first (h : J W wr p B v9 v10 Lw Lr M) (hM : M + 1 < maxLen) (on : Int) (hon : (Lit.int .i64 on).wf = true) (hq : ∀ h ∈ B.q on, B.has h = true) :
    Calls Try.prog 43 #[.pointer (some ⟨p, 0, none⟩), .int .i64 on] wr fun e W' => e = .returned (.tuple #[.int .i64 (B.first on).2.1, .bool (B.first on).2.2]) ∧ J W W' p (B.first on).1 v9 v10 Lw Lr (M + 1) := by
  obtain ⟨T, g, m, N, f, hN, hB, hT, h9, h10, hW⟩ := h
  refine (first_calls hB (by omega) on hon hq).mono ?_
  rintro e w ⟨rfl, f', hB', ht⟩
  exact ⟨rfl, J.turn hB hT h9 h10 hW hB' ht (fun i h => h.imp id (·.1)) (by omega)⟩
theorem J.wake (h : J W wr p B v9 v10 Lw Lr M) (on : Int) (hon : (Lit.int .i64 on).wf = true) (hq : ∀ h ∈ B.q on, B.has h = true) (hl : (B.q on).length ≤ 4398046511104) :
    Calls Try.prog 44 #[.pointer (some ⟨p, 0, none⟩), .int .i64 on] wr fun e W' => ∃ A c, e = .returned (.slice A (B.q on).length c) ∧ (B.q on).length ≤ c ∧ Kd.C (Kd.int .i64) W' A (B.q on).length (B.q on) ∧ J W W' p (B.wake on) v9 v10 Lw Lr M := by
  obtain ⟨T, g, m, N, f, hN, hB, hT, h9, h10, hW⟩ := h
  refine (wake_calls hB on hon hq hl).mono ?_
  rintro e w ⟨v, rfl, hs, T', f', hB', ht, hTT⟩
  obtain ⟨A, c, rfl, hc, hC⟩ := hs.C
  exact ⟨A, c, rfl, hc, hC, J.turn hB hT h9 h10 hW hB' ht (fun i h => .inl (hTT i h).1) hN⟩
theorem J.waiting (h : J W wr p B v9 v10 Lw Lr M) (on : Int) (hon : (Lit.int .i64 on).wf = true) (hl : (B.q on).length ≤ 4398046511104) :
    Calls Try.prog 41 #[.pointer (some ⟨p, 0, none⟩), .int .i64 on] wr fun e W' => ∃ A c, e = .returned (.slice A (B.q on).length c) ∧ (B.q on).length ≤ c ∧ Kd.C (Kd.int .i64) W' A (B.q on).length (B.q on) ∧ Below wr.heap.size wr W' := by
  obtain ⟨T, g, m, N, f, hN, hB, hT, h9, h10, hW⟩ := h
  refine (waiting_calls hB on hon hl).mono ?_
  rintro e w ⟨v, rfl, hr, hb⟩
  obtain ⟨A, c, rfl, hc, hC⟩ := Kd.R_reads hr
  exact ⟨A, c, rfl, hc, hC, hb⟩
theorem J.ready (h : J W wr p B v9 v10 Lw Lr M) (hn : B.l.length ≤ 16) :
    Calls Try.prog 42 #[.pointer (some ⟨p, 0, none⟩)] wr fun e W' => ∃ A c, e = .returned (.slice A B.ready.length c) ∧ B.ready.length ≤ c ∧ Kd.C (Kd.int .i64) W' A B.ready.length B.ready ∧ Below wr.heap.size wr W' := by
  obtain ⟨T, g, m, N, f, hN, hB, hT, h9, h10, hW⟩ := h
  refine (readys_calls hB hn).mono ?_
  rintro e w ⟨v, rfl, hr, hb⟩
  obtain ⟨A, c, rfl, hc, hC⟩ := Kd.R_reads hr
  exact ⟨A, c, rfl, hc, hC, hb⟩
theorem J.read9 (h : J W wr p B v9 v10 Lw Lr M) : ∃ A c, v9 = .slice A Lw.length c ∧ Lw.length ≤ c ∧ Kd.C (Kd.int .i64) wr A Lw.length Lw := by
  obtain ⟨T, g, m, N, f, hN, hB, hT, h9, h10, hW⟩ := h; exact h9.C
theorem J.read10 (h : J W wr p B v9 v10 Lw Lr M) : ∃ A c, v10 = .slice A Lr.length c ∧ Lr.length ≤ c ∧ Kd.C (Kd.int .i64) wr A Lr.length Lr := by
  obtain ⟨T, g, m, N, f, hN, hB, hT, h9, h10, hW⟩ := h; exact h10.C
theorem J.C9 {A : Option Addr} {n c : Nat} (h : J W wr p B (.slice A n c) v10 Lw Lr M) : Kd.C (Kd.int .i64) wr A Lw.length Lw := by
  obtain ⟨A', c', e, _, hC⟩ := h.read9; injection e with e1; rw [e1]; exact hC
theorem J.C10 {A : Option Addr} {n c : Nat} (h : J W wr p B v9 (.slice A n c) Lw Lr M) : Kd.C (Kd.int .i64) wr A Lr.length Lr := by
  obtain ⟨A', c', e, _, hC⟩ := h.read10; injection e with e1; rw [e1]; exact hC
variable {ops : Array Oper} {rest : List Oper} {o : Oper} {a : Act} {Q : Exit → Act → World → Prop}
theorem wpList_append_sl {T : Nat → Prop} {w : World} (hgd : o.guard = none) (s x : Operand) (ho : o.op = .call { callee := .builtin .append, args := #[s, x], argTypes := #[26, 26] }) (v : Value) (L : List Int) (hs : a.eval s = v) (h : Sl w T v L) (ad : Addr) (c : Nat) (y : Int) (hx : a.eval x = .slice (some ad) 1 c) (hy : w.cell? ad = some (.int .i64 y)) (hl : L.length + 1 ≤ 4398046511104)
    (hK : ∀ v' w', Sl w' (fun j => T j ∨ w.heap.size ≤ j) v' (L ++ [y]) → w.grownBy w' v.ownBlock → (v'.ownBlock = v.ownBlock ∨ ∃ j, v'.ownBlock = some j ∧ w.heap.size ≤ j) → wpList Try.prog ops Q rest (a.put o.dst v') w') : wpList Try.prog ops Q (o :: rest) a w := by
  refine wpList_plain hgd fun K hK' => ?_
  refine wp_append_sl hgd s x ho v L hs h ad c y hx hy hl (fun v' w' h1 h2 h3 => hK' _ _ (hK v' w' h1 h2 h3))
theorem wpList_J9 (hgd : o.guard = none) (s x : Operand) (ho : o.op = .call { callee := .builtin .append, args := #[s, x], argTypes := #[26, 26] }) (h : J W wr p B v9 v10 Lw Lr M) (y : Int) (hs : a.eval s = v9) (hx : a.eval x = .slice (some ⟨wr.heap.size, 0, none⟩) 1 1) (hl : Lw.length + 1 ≤ 4398046511104)
    (hK : ∀ v5 w5, J W w5 p B v5 v10 (Lw ++ [y]) Lr M → wpList Try.prog ops Q rest (a.put o.dst v5) w5) : wpList Try.prog ops Q (o :: rest) a (wr.alloc (.cells #[.int .i64 y] 3)) := by
  have hb : Below wr.heap.size wr (wr.alloc (.cells #[.int .i64 y] 3)) := by repeat (first | exact Below.refl _ _ | apply below_alloc)
  obtain ⟨T, g, m, N, f, hN, hB, hT, h9, h10, hW⟩ := h.below hb
  have hsz := h.size
  refine wpList_append_sl hgd s x ho v9 Lw hs h9 ⟨wr.heap.size, 0, none⟩ 1 y hx (by simp) hl (fun v5 w5 hs5 hg5 hat5 => hK v5 w5 ?_)
  generalize wr.alloc (.cells #[.int .i64 y] 3) = X at hB h9 h10 hW hs5 hg5 hat5
  have hloc : ∀ j, v5.ownBlock = some j → (v9.ownBlock = some j ∨ X.heap.size ≤ j) := fun j hj => by
    rcases hat5 with e | ⟨k, e, hk⟩
    · exact .inl (by rw [← e]; exact hj)
    · rw [e] at hj; cases hj; exact .inr hk
  refine ⟨T, g, m, N, f, hN, hB.turn (fun i hi => hg5.block i (hB.lt i hi) (fun e => (h9.own e.symm).1.1 hi)) hg5.size, hT, hs5.mono (fun j hj hT' => ?_), (h10.kept (fun j hj => hg5.block j (h10.own hj).2 (fun e => (h10.own hj).1.2.2 e.symm))).mono (fun j hj hT' => ⟨hT'.1, hT'.2.1, fun e => ?_⟩), hW.grown hg5 hW.size (fun j hj => (h9.own hj).1.2)⟩
  · rcases hT' with hT' | hT'
    · exact hT'
    · exact ⟨fun z => by have := hB.lt j z; omega, Nat.le_trans hW.size hT'⟩
  · rcases hloc j e with e2 | e2
    · exact hT'.2.2 e2
    · have := (h10.own hj).2; omega
theorem wpList_J10 (hgd : o.guard = none) (s x : Operand) (ho : o.op = .call { callee := .builtin .append, args := #[s, x], argTypes := #[26, 26] }) (h : J W wr p B v9 v10 Lw Lr M) (y : Int) (hs : a.eval s = v10) (hx : a.eval x = .slice (some ⟨wr.heap.size, 0, none⟩) 1 1) (hl : Lr.length + 1 ≤ 4398046511104)
    (hK : ∀ v5 w5, J W w5 p B v9 v5 Lw (Lr ++ [y]) M → wpList Try.prog ops Q rest (a.put o.dst v5) w5) : wpList Try.prog ops Q (o :: rest) a (wr.alloc (.cells #[.int .i64 y] 3)) := by
  have hb : Below wr.heap.size wr (wr.alloc (.cells #[.int .i64 y] 3)) := by repeat (first | exact Below.refl _ _ | apply below_alloc)
  obtain ⟨T, g, m, N, f, hN, hB, hT, h9, h10, hW⟩ := h.below hb
  refine wpList_append_sl hgd s x ho v10 Lr hs h10 ⟨wr.heap.size, 0, none⟩ 1 y hx (by simp) hl (fun v5 w5 hs5 hg5 hat5 => hK v5 w5 ?_)
  generalize wr.alloc (.cells #[.int .i64 y] 3) = X at hB h9 h10 hW hs5 hg5 hat5
  refine ⟨T, g, m, N, f, hN, hB.turn (fun i hi => hg5.block i (hB.lt i hi) (fun e => (h10.own e.symm).1.1 hi)) hg5.size, hT, h9.kept (fun j hj => hg5.block j (h9.own hj).2 (fun e => (h10.own e.symm).1.2.2 hj)), hs5.mono (fun j hj hT' => ?_), hW.grown hg5 hW.size (fun j hj => (h10.own hj).1.2.1)⟩
  rcases hT' with hT' | hT'
  · exact hT'
  · exact ⟨fun z => by have := hB.lt j z; omega, Nat.le_trans hW.size hT', fun e => by have := (h9.own e).2; omega⟩
end Go.Proofs.Ytfcjfjmjcmanaaa.B
