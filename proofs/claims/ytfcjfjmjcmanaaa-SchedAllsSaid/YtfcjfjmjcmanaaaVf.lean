/- What a law holds while it goes over an iterator: books, the list that is wanted, whether more is wanted, how many there were. -/
import Derived.Test.YtfcjfjmjcmanaaaVe
import Derived.Test.YtfcjfjmjcmanaaaPBasex
set_option linter.unusedVariables false
namespace Go.Proofs.Ytfcjfjmjcmanaaa.V
open Go Go.RowKit Go.Proofs.Ytfcjfjmjcmanaaa.PBase Go.Proofs.Ytfcjfjmjcmanaaa.O Go.Proofs.Ytfcjfjmjcmanaaa.B Go.Proofs.YtfcjfjmjcmanaaaW.PrintWords Go.Proofs.YtfcjfjmjcmanaaaW.PrintLast Go.Proofs.YtfcjfjmjcmanaaaW.PrintMore
section
variable {F : Fence} {n : Nat} {P : Program}
/-- A round's frame: what is handed over lies in the slots i and j. -/
def axOf (a : Act) (i j : Nat) (v : Value) : Act := { tmps := (a.tmps.setIfInBounds i v).setIfInBounds j v, defers := [] }
theorem wpIn_rangeFunc_V2 {g : Operand} {assign body : Code} {Q : Exit → Act → World → Prop} {a : Act} {w : World} (i j : Nat)
    (hro : F.round = none) (h1 : 1 ≤ n) {gf : Nat} {lb : Array Value} (hg : a.eval g = .func (.func gf) #[] lb) (hFg : F.fn gf) (eg : ∀ args w, (callFunc gf args).run P w = .ok (.enter gf args) w)
    {Rd T0 : Nat → Prop} {Ls : List (List Int)} {w0 : World} (hseq : SeqV F (n - 1) P gf lb Rd T0 Ls w0)
    (hT0 : ∀ b, T0 b ∨ Rd b → b < w.heap.size) (hb0 : Below w0.heap.size w0 w) (hk0 : ∀ b, T0 b ∨ Rd b → w.heap[b]? = w0.heap[b]?)
    (I : Nat → (Nat → Prop) → World → Prop) (Ix : Code → Nat → (Nat → Prop) → World → Prop) (hI : AbidesS I) (hIx : ∀ c, AbidesS (Ix c)) (h0 : I 0 T0 w)
    (hassign : ∀ (l : Nat) (v : Value) (W : World) (K : Act → World → Prop), K (axOf a i j v) W → assign.wpIn (F.inRound l) (n - 1 - 1) P (Exit.then K (fun _ _ _ => False)) { tmps := a.tmps.setIfInBounds i v, defers := [] } W)
    (hbody : ∀ (l k : Nat) (L : List Int) (T T1 : Nat → Prop) (v : Value) (W : World), Ls[k]? = some L → I k T1 W → (∀ b, T b → T1 b) → (∀ b, T1 b ∨ Rd b → b < W.heap.size) → SlB W (fun b => T1 b ∧ ¬ T b ∧ ¬ Rd b) v L → body.wpIn (F.inRound l) (n - 1 - 1) P (postV Rd T I Ix (k + 1) W) (axOf a i j v) W)
    (hdone : ∀ (D : Nat) (T : Nat → Prop) (W : World), w.heap.size ≤ D → I Ls.length T W → W.heap[D]? = some (.deferred (some [])) → T D → Q .normal { a with defers := { target := .collected D, args := #[] } :: a.defers } W)
    (hstop : ∀ (D : Nat) (c : Code) (k : Nat) (T : Nat → Prop) (W : World), w.heap.size ≤ D → k ≤ Ls.length → Ix c k T W → W.heap[D]? = some (.deferred (some [])) → T D → c.wpIn F n P Q { a with defers := { target := .collected D, args := #[] } :: a.defers } W) :
    (Code.rangeFunc g #[i] assign body).wpIn F n P Q a w :=
  wpIn_rangeFunc_V hro h1 hg hFg eg hseq hT0 hb0 hk0 rfl I Ix hI hIx h0 (axOf a i j) (fun l v W K hK => by simpa using hassign l v W K hK) hbody hdone hstop
end
variable {W W' : World} {T T' Tv : Nat → Prop} {v m : Value} {L Lv want : List Int} {base bk bm bn bw c : Nat} {more : Bool} {nv : Int}
theorem wpListIn_cat {F : Fence} {n : Nat} {ops : Array Oper} {rest : List Oper} {o : Oper} {a : Act} {Q : Exit → Act → World → Prop} (hg : o.guard = none) (s x : Operand) (hop : o.op = .call { callee := .builtin .append, args := #[s, x], argTypes := #[26, 26] }) (h : RI W T m L) (hv : SlB W Tv v Lv) (hl : L.length + Lv.length ≤ 4398046511104) (hs : a.eval s = m) (hx : a.eval x = v)
    (hK : ∀ m' W', RI W' (fun j => T j ∨ j = W.heap.size) m' (L ++ Lv) → W.grownBy W' m.ownBlock → (m'.ownBlock = m.ownBlock ∨ m'.ownBlock = some W.heap.size) → wpListIn F n Try.prog ops Q rest (a.put o.dst m') W') : wpListIn F n Try.prog ops Q (o :: rest) a W := by
  refine wpListIn_plain hg fun K hK' => ?_
  obtain ⟨m', W', hrun, h1, h2, h3⟩ := h.cat hv hl o.type
  unfold Oper.wpIn
  refine ⟨?_, ?_⟩
  · simp [Oper.about, hop, resolve, Target.leads, Sem.run_pure]
  · rw [Oper.semAt_plain F _ _ (by rw [hop]; intro c hc'; cases hc')]
    simp [execOp, hop, resolve, invoke, builtin, hs, hx, hrun, Result.andThen]
    exact hK' _ _ (hK m' W' h1 h2 h3)
/-- The same lists: the same. -/
theorem same_calls {T' : Nat → Prop} {u : Value} (hu : SlB W T u L) (hv : SlB W T' v L) (hl : L.length ≤ 70000) : Calls Try.prog 24 #[u, v] W fun e W' => e = .returned (.bool true) ∧ Drawn0 W W' := by
  obtain ⟨A, c, rfl, h1, h2, hC⟩ := hu.C
  obtain ⟨A', c', rfl, h1', h2', hC'⟩ := hv.C
  refine (larderlaw07_same.calls (L.length + 2) A c L A' c' L true W hC h1 hC' h1' (X.hsame_self L hl)).mono ?_
  rintro e w' ⟨rfl, h⟩
  exact ⟨rfl, h⟩
structure Dst (bk bm bn bw : Nat) : Prop where
  km : bk ≠ bm
  kn : bk ≠ bn
  kw : bk ≠ bw
  mn : bm ≠ bn
  mw : bm ≠ bw
  nw : bn ≠ bw
/-- What is held: base: all of it lies at or behind; T: none of it lies there; c lists in the books. -/
def St (base bk bm bn bw : Nat) (T : Nat → Prop) (W : World) (c : Nat) (more : Bool) (nv : Int) (want : List Int) : Prop :=
  ∃ U4 U5 Tw v4 v5 vs us Ls wv, BkAt W U4 U5 bk v4 v5 vs us Ls ∧ vs.length = c ∧ Boxed W bm 4 (.bool more) ∧ Boxed W bn 3 (.int .i64 nv) ∧ Boxed W bw 26 wv ∧ SlB W Tw wv want ∧
    (∀ b, Tw b → ¬ U4 b ∧ ¬ U5 b) ∧ (∀ b, U4 b ∨ U5 b ∨ Tw b → base ≤ b ∧ b < W.heap.size ∧ ¬ T b ∧ b ≠ bk ∧ b ≠ bm ∧ b ≠ bn ∧ b ≠ bw) ∧ (∀ b, (b = bk ∨ b = bm ∨ b = bn ∨ b = bw) → base ≤ b ∧ b < W.heap.size ∧ ¬ T b)
theorem St.boxes (h : St base bk bm bn bw T W c more nv want) : ∃ wv Tw, Boxed W bm 4 (.bool more) ∧ Boxed W bn 3 (.int .i64 nv) ∧ Boxed W bw 26 wv ∧ SlB W Tw wv want := by
  obtain ⟨U4, U5, Tw, v4, v5, vs, us, Ls, wv, h1, h2, h3, h4, h5, h6, h7, h8, h9⟩ := h
  exact ⟨wv, Tw, h3, h4, h5, h6⟩
theorem St.turn (h : St base bk bm bn bw T W c more nv want) (ht : Turn (fun b => T b ∨ b < base) W W') (hT : ∀ b, T' b → T b ∨ (W.heap.size ≤ b)) : St base bk bm bn bw T' W' c more nv want := by
  obtain ⟨U4, U5, Tw, v4, v5, vs, us, Ls, wv, h1, h2, h3, h4, h5, h6, h7, h8, h9⟩ := h
  have keep : ∀ b, base ≤ b → b < W.heap.size → ¬ T b → W'.heap[b]? = W.heap[b]? := fun b hb hl hn => ht.block b hl (fun z => z.elim hn (fun y => by omega))
  have kU : ∀ b, U4 b ∨ U5 b ∨ Tw b → W'.heap[b]? = W.heap[b]? := fun b hb => have h := h8 b hb; keep b h.1 h.2.1 h.2.2.1
  have kB : ∀ b, (b = bk ∨ b = bm ∨ b = bn ∨ b = bw) → W'.heap[b]? = W.heap[b]? := fun b hb => have h := h9 b hb; keep b h.1 h.2.1 h.2.2
  have hsz := ht.size
  refine ⟨U4, U5, Tw, v4, v5, vs, us, Ls, wv, h1.kept (fun i hi _ => ?_) hsz, h2, (kB bm (by simp)).trans h3, (kB bn (by simp)).trans h4, (kB bw (by simp)).trans h5, h6.kept (fun j hj => kU j (.inr (.inr (h6.own hj).1))), h7, fun b hb => ?_, fun b hb => ?_⟩
  · rcases hi with hi | hi | hi
    · exact kU i (.inl hi)
    · exact kU i (.inr (.inl hi))
    · exact kB i (.inl hi)
  · have h := h8 b hb
    exact ⟨h.1, by omega, fun z => (hT b z).elim h.2.2.1 (fun y => by omega), h.2.2.2⟩
  · have h := h9 b hb
    exact ⟨h.1, by omega, fun z => (hT b z).elim h.2.2 (fun y => by omega)⟩
theorem St.less (h : St base bk bm bn bw T W c more nv want) (hT : ∀ b, T' b → T b) : St base bk bm bn bw T' W c more nv want :=
  h.turn (Turn.refl _ _) (fun b hb => .inl (hT b hb))
theorem St.drawn (h : St base bk bm bn bw T W c more nv want) (hd : Drawn0 W W') : St base bk bm bn bw T W' c more nv want := by
  obtain ⟨k, rfl⟩ := hd
  exact h.turn ((Turn.refl _ _).drewN k) (fun b hb => .inl hb)
/-- What a step of the law may turn. -/
abbrev Mine (base : Nat) (T : Nat → Prop) : Nat → Prop := fun b => base ≤ b ∧ ¬ T b
theorem St.setM (h : St base bk bm bn bw T W c more nv want) (hd : Dst bk bm bn bw) (x : Bool) : W.frozen? ⟨bm, 0, none⟩ = false ∧ W.cell? ⟨bm, 0, none⟩ = some (.bool more) ∧ St base bk bm bn bw T (W.setCell ⟨bm, 0, none⟩ (.bool x)) c x nv want ∧ Turn (Mine base T) W (W.setCell ⟨bm, 0, none⟩ (.bool x)) := by
  obtain ⟨U4, U5, Tw, v4, v5, vs, us, Ls, wv, h1, h2, h3, h4, h5, h6, h7, h8, h9⟩ := h
  have kp : ∀ b, b ≠ bm → (W.setCell ⟨bm, 0, none⟩ (.bool x)).heap[b]? = W.heap[b]? := fun b hb => Below.heap_setCell W _ _ b hb
  refine ⟨h3.frozen, h3.cell, ⟨U4, U5, Tw, v4, v5, vs, us, Ls, wv, h1.kept (fun i hi _ => kp i ?_) (by simp), h2, h3.set _, (kp bn hd.mn.symm).trans h4, (kp bw hd.mw.symm).trans h5, h6.kept (fun j hj => kp j ?_), h7, fun b hb => by simpa using h8 b hb, fun b hb => by simpa using h9 b hb⟩, Turn.setCell W _ _ (by have := h9 bm (by simp); exact ⟨this.1, this.2.2⟩)⟩
  · rcases hi with hi | hi | hi
    · exact (h8 i (.inl hi)).2.2.2.2.1
    · exact (h8 i (.inr (.inl hi))).2.2.2.2.1
    · rw [hi]; exact hd.km
  · exact (h8 j (.inr (.inr (h6.own hj).1))).2.2.2.2.1
theorem St.setN (h : St base bk bm bn bw T W c more nv want) (hd : Dst bk bm bn bw) (x : Int) : W.frozen? ⟨bn, 0, none⟩ = false ∧ W.cell? ⟨bn, 0, none⟩ = some (.int .i64 nv) ∧ St base bk bm bn bw T (W.setCell ⟨bn, 0, none⟩ (.int .i64 x)) c more x want ∧ Turn (Mine base T) W (W.setCell ⟨bn, 0, none⟩ (.int .i64 x)) := by
  obtain ⟨U4, U5, Tw, v4, v5, vs, us, Ls, wv, h1, h2, h3, h4, h5, h6, h7, h8, h9⟩ := h
  have kp : ∀ b, b ≠ bn → (W.setCell ⟨bn, 0, none⟩ (.int .i64 x)).heap[b]? = W.heap[b]? := fun b hb => Below.heap_setCell W _ _ b hb
  refine ⟨h4.frozen, h4.cell, ⟨U4, U5, Tw, v4, v5, vs, us, Ls, wv, h1.kept (fun i hi _ => kp i ?_) (by simp), h2, (kp bm hd.mn).trans h3, h4.set _, (kp bw hd.nw.symm).trans h5, h6.kept (fun j hj => kp j ?_), h7, fun b hb => by simpa using h8 b hb, fun b hb => by simpa using h9 b hb⟩, Turn.setCell W _ _ (by have := h9 bn (by simp); exact ⟨this.1, this.2.2⟩)⟩
  · rcases hi with hi | hi | hi
    · exact (h8 i (.inl hi)).2.2.2.2.2.1
    · exact (h8 i (.inr (.inl hi))).2.2.2.2.2.1
    · rw [hi]; exact hd.kn
  · exact (h8 j (.inr (.inr (h6.own hj).1))).2.2.2.2.2.1
/-- Another list is wanted: it lies in a row that is new. -/
theorem St.next (h : St base bk bm bn bw T W c more nv want) (hd : Dst bk bm bn bw) (hlt : ∀ b, T b → b < W.heap.size) (hbs : base ≤ W.heap.size) (hb : Below W.heap.size W W') {u : Value} (hu : SlB W' (fun j => W.heap.size ≤ j) u L) : W'.frozen? ⟨bw, 0, none⟩ = false ∧ (∃ wv, W'.cell? ⟨bw, 0, none⟩ = some wv) ∧ St base bk bm bn bw T (W'.setCell ⟨bw, 0, none⟩ u) c more nv L ∧ Turn (Mine base T) W (W'.setCell ⟨bw, 0, none⟩ u) := by
  have hsz := hb.size
  obtain ⟨U4, U5, Tw, v4, v5, vs, us, Ls, wv, h1, h2, h3, h4, h5, h6, h7, h8, h9⟩ := h
  have h5' : Boxed W' bw 26 wv := (hb.block bw h5.lt).trans h5
  have kp : ∀ b, b ≠ bw → b < W.heap.size → (W'.setCell ⟨bw, 0, none⟩ u).heap[b]? = W.heap[b]? := fun b hn hl => (Below.heap_setCell W' _ _ b hn).trans (hb.block b hl)
  have hsz' : W.heap.size ≤ (W'.setCell ⟨bw, 0, none⟩ u).heap.size := by simpa using hsz
  have l9 := h9 bw (by simp)
  refine ⟨h5'.frozen, ⟨_, h5'.cell⟩, ⟨U4, U5, fun b => u.ownBlock = some b, v4, v5, vs, us, Ls, u, h1.kept (fun i hi hl => kp i ?_ hl) hsz', h2, (kp bm hd.mw h3.lt).trans h3, (kp bn hd.nw h4.lt).trans h4, h5'.set _, (hu.mono (fun j hj _ => hj)).kept (fun j hj => Below.heap_setCell W' _ _ j (fun e => by have := (hu.own hj).1; have e2 : j = bw := e; omega)), fun b hb => ⟨fun z => ?_, fun z => ?_⟩, fun b hb => ?_, fun b hb => ?_⟩, ?_⟩
  · rcases hi with hi | hi | hi
    · exact (h8 i (.inl hi)).2.2.2.2.2.2
    · exact (h8 i (.inr (.inl hi))).2.2.2.2.2.2
    · rw [hi]; exact hd.kw
  · have := (hu.own hb).1; have := (h8 b (.inl z)).2.1; omega
  · have := (hu.own hb).1; have := (h8 b (.inr (.inl z))).2.1; omega
  · rcases hb with hb | hb | hb
    · have := h8 b (.inl hb); exact ⟨this.1, by omega, this.2.2⟩
    · have := h8 b (.inr (.inl hb)); exact ⟨this.1, by omega, this.2.2⟩
    · have h := hu.own hb
      have m1 := h3.lt
      have m2 := h4.lt
      have m3 := (Array.getElem?_eq_some_iff.1 h1.hb).1
      exact ⟨by omega, by simpa using h.2, fun z => by have := hlt b z; omega, by omega, by omega, by omega, by omega⟩
  · have := h9 b hb; exact ⟨this.1, by omega, this.2.2⟩
  · exact (Turn.of_below hb).trans (Turn.setCell (T := Mine base T) W' ⟨bw, 0, none⟩ u ⟨l9.1, l9.2.2⟩) (fun b hb => .inl hb)
/-- A list that was handed over goes into the books. -/
theorem St.ints {T1 Rd : Nat → Prop} (h : St base bk bm bn bw T1 W c more nv want) (hd : Dst bk bm bn bw) (hbs : base ≤ W.heap.size) (hTT : ∀ b, T b → T1 b) (h1b : ∀ b, T1 b → base ≤ b ∧ b < W.heap.size) (hv : SlB W (fun b => T1 b ∧ ¬ T b ∧ ¬ Rd b) v L) (hL : L.length + 10 ≤ 4398046511104) (hc : c + 11 ≤ 4398046511104) :
    Calls Try.prog 27 #[.pointer (some ⟨bk, 0, none⟩), v] W fun e W' => (∃ r, e = .returned r) ∧ St base bk bm bn bw T W' (c + 1) more nv want ∧ Turn (Mine base T) W W' := by
  obtain ⟨U4, U5, Tw, v4, v5, vs, us, Ls, wv, h1, h2, h3, h4, h5, h6, h7, h8, h9⟩ := h
  have hown : ∀ b, v.ownBlock = some b → T1 b ∧ ¬ T b := fun b hb => ⟨(hv.own hb).1.1, (hv.own hb).1.2.1⟩
  refine (ints_calls h1 hv (fun b hb => ⟨fun z => (h8 b (.inl z)).2.2.1 (hown b hb).1, fun z => (h8 b (.inr (.inl z))).2.2.1 (hown b hb).1, fun z => (h9 b (.inl z)).2.2 (hown b hb).1⟩) hL (by omega)).mono ?_
  rintro e W' ⟨hr, U4', U5', v4', v5', u, k1, k2, k3⟩
  have hsz := k2.size
  have lk := (h9 bk (by simp))
  have kp : ∀ b, b < W.heap.size → ¬ U4 b → ¬ U5 b → b ≠ bk → W'.heap[b]? = W.heap[b]? := fun b hl n4 n5 nk => k2.block b hl (fun z => by rcases z with z | z | z; exact n4 z; exact n5 z; exact nk z)
  have kpb : ∀ b, (b = bm ∨ b = bn ∨ b = bw) → W'.heap[b]? = W.heap[b]? := fun b hb => by
    have q := h9 b (by rcases hb with z | z | z <;> simp [z])
    refine kp b q.2.1 (fun z => ?_) (fun z => ?_) ?_
    · have := (h8 b (.inl z)).2.2.2
      rcases hb with y | y | y
      · exact this.2.1 y
      · exact this.2.2.1 y
      · exact this.2.2.2 y
    · have := (h8 b (.inr (.inl z))).2.2.2
      rcases hb with y | y | y
      · exact this.2.1 y
      · exact this.2.2.1 y
      · exact this.2.2.2 y
    · rcases hb with y | y | y
      · rw [y]; exact hd.km.symm
      · rw [y]; exact hd.kn.symm
      · rw [y]; exact hd.kw.symm
  -- where the books' blocks lie now
  have new : ∀ b, U4' b ∨ U5' b → base ≤ b ∧ b < W'.heap.size ∧ ¬ T b ∧ b ≠ bk ∧ b ≠ bm ∧ b ≠ bn ∧ b ≠ bw := fun b hb => by
    have hl := k1.lt b hb
    rcases k3 b hb with z | z | z | z
    · have q := h8 b (.inl z); exact ⟨q.1, hl, fun y => q.2.2.1 (hTT b y), q.2.2.2⟩
    · have q := h8 b (.inr (.inl z)); exact ⟨q.1, hl, fun y => q.2.2.1 (hTT b y), q.2.2.2⟩
    · have q := hown b z
      exact ⟨(h1b b q.1).1, hl, q.2, fun e => (h9 b (by simp [e])).2.2 q.1, fun e => (h9 b (by simp [e])).2.2 q.1, fun e => (h9 b (by simp [e])).2.2 q.1, fun e => (h9 b (by simp [e])).2.2 q.1⟩
    · have m1 := h3.lt
      have m2 := h4.lt
      have m3 := h5.lt
      have m4 := lk.2.1
      exact ⟨by omega, hl, fun y => by have := (h1b b (hTT b y)).2; omega, by omega, by omega, by omega, by omega⟩
  have kw : ∀ j, wv.ownBlock = some j → W'.heap[j]? = W.heap[j]? := fun j hj => by
    have q := h6.own hj
    exact kp j q.2 (h7 j q.1).1 (h7 j q.1).2 (h8 j (.inr (.inr q.1))).2.2.2.1
  refine ⟨hr, ⟨U4', U5', fun b => Tw b ∧ wv.ownBlock = some b, v4', v5', _, _, _, wv, k1, by simp [h2], (kpb bm (by simp)).trans h3, (kpb bn (by simp)).trans h4, (kpb bw (by simp)).trans h5, (h6.mono (fun j hj hT => ⟨hT, hj⟩)).kept kw, fun b hb => ⟨fun z => ?_, fun z => ?_⟩, fun b hb => ?_, fun b hb => ?_⟩, ?_⟩
  · have q := h6.own hb.2
    rcases k3 b (.inl z) with y | y | y | y
    · exact (h7 b q.1).1 y
    · exact (h7 b q.1).2 y
    · exact (h8 b (.inr (.inr q.1))).2.2.1 (hown b y).1
    · omega
  · have q := h6.own hb.2
    rcases k3 b (.inr z) with y | y | y | y
    · exact (h7 b q.1).1 y
    · exact (h7 b q.1).2 y
    · exact (h8 b (.inr (.inr q.1))).2.2.1 (hown b y).1
    · omega
  · rcases hb with hb | hb | hb
    · exact new b (.inl hb)
    · exact new b (.inr hb)
    · have q := h8 b (.inr (.inr hb.1))
      exact ⟨q.1, by omega, fun y => q.2.2.1 (hTT b y), q.2.2.2⟩
  · have q := h9 b hb
    exact ⟨q.1, by omega, fun y => q.2.2 (hTT b y)⟩
  · refine k2.mono (fun b hb => ?_)
    rcases hb with z | z | z
    · have q := h8 b (.inl z); exact ⟨q.1, fun y => q.2.2.1 (hTT b y)⟩
    · have q := h8 b (.inr (.inl z)); exact ⟨q.1, fun y => q.2.2.1 (hTT b y)⟩
    · rw [z]; exact ⟨lk.1, fun y => lk.2.2 (hTT bk y)⟩
/-- The books are asked. -/
theorem St.apart (h : St base bk bm bn bw T W c more nv want) : Calls Try.prog 29 #[.pointer (some ⟨bk, 0, none⟩)] W fun e W' => e = .returned (.bool true) ∧ Turn (Mine base T) W W' := by
  obtain ⟨U4, U5, Tw, v4, v5, vs, us, Ls, wv, h1, h2, h3, h4, h5, h6, h7, h8, h9⟩ := h
  refine (apart_calls h1).mono ?_
  rintro e W' ⟨rfl, ht⟩
  exact ⟨rfl, ht.mono (fun b hb => ⟨(h8 b (.inl hb)).1, (h8 b (.inl hb)).2.2.1⟩)⟩
theorem Turn.mine (h : Turn (Mine base T) W W') (hbs : base ≤ W.heap.size) : Below base W W' := h.below (fun b hb => hb.1) hbs
theorem Turn.keepsT {Rd : Nat → Prop} (h : Turn (Mine base T) W W') (hR : ∀ b, Rd b → b < base) : KeepsT (fun b => T b ∨ Rd b) W W' :=
  ⟨h.size, fun b hb hl => h.block b hl (fun z => hb.elim z.2 (fun y => by have := hR b y; have := z.1; omega))⟩
theorem Turn.cons {W2 : World} (h : Turn (Mine base T) W W') (k : Turn (Mine base T) W' W2) : Turn (Mine base T) W W2 := h.trans k (fun _ hb => .inl hb)
/-- Its start. -/
theorem St.start (W : World) (hb : W.heap[bk]? = some (.cells #[.slice none 0 0, .slice none 0 0, .slice none 0 0, .slice none 0 0, .slice none 0 0, .slice none 0 0, .slice none 0 0, .slice none 0 0, .slice none 0 0, .slice none 0 0, .slice none 0 0, .slice none 0 0, .slice none 0 0, .slice none 0 0] 42 (0, 0))) (hm : Boxed W bm 4 (.bool more)) (hn : Boxed W bn 3 (.int .i64 nv)) {wv : Value} (hw : Boxed W bw 26 wv) {Tw : Nat → Prop} (hv : SlB W Tw wv want) (hT : ∀ b, Tw b → base ≤ b ∧ b ≠ bk ∧ b ≠ bm ∧ b ≠ bn ∧ b ≠ bw) (h9 : ∀ b, (b = bk ∨ b = bm ∨ b = bn ∨ b = bw) → base ≤ b) : St base bk bm bn bw (fun _ => False) W 0 more nv want := by
  have lk := (Array.getElem?_eq_some_iff.1 hb).1
  refine ⟨fun _ => False, fun _ => False, fun b => Tw b ∧ wv.ownBlock = some b, nilv, nilv, [], [], [], wv, ⟨hb, Lists.nil _ _, Lists.nil _ _, fun _ h => h.elim, fun h => h, fun h => h, fun i h => h.elim False.elim False.elim⟩, rfl, hm, hn, hw, hv.mono (fun j hj h => ⟨h, hj⟩), fun _ _ => ⟨fun z => z, fun z => z⟩, fun b hb => ?_, fun b hb => ⟨h9 b hb, ?_, fun z => z⟩⟩
  · rcases hb with z | z | z
    · exact z.elim
    · exact z.elim
    · have q := hT b z.1
      exact ⟨q.1, (hv.own z.2).2, fun y => y, q.2⟩
  · rcases hb with z | z | z | z
    · rw [z]; exact lk
    · rw [z]; exact hm.lt
    · rw [z]; exact hn.lt
    · rw [z]; exact hw.lt
/-- What is held between two rounds. -/
def Hv (base bk bm bn bw : Nat) (W0 : World) (cs : Nat → Nat) (ms : Nat → Bool) (ws : Nat → List Int) (i : Nat) (T : Nat → Prop) (W : World) : Prop :=
  (∀ b, T b → base ≤ b ∧ b < W.heap.size) ∧ Below base W0 W ∧ base ≤ W.heap.size ∧ St base bk bm bn bw T W (cs i) (ms i) (i : Int) (ws i)
theorem hv_abides (base bk bm bn bw : Nat) (W0 : World) (cs : Nat → Nat) (ms : Nat → Bool) (ws : Nat → List Int) : AbidesS (Hv base bk bm bn bw W0 cs ms ws) := by
  rintro i T A B T' ⟨h1, h2, h3, h4⟩ hs hT
  have hsz := hs.size
  have ht : Turn T A B := ⟨hs.os, hs.tape, hs.output, hs.size, hs.block⟩
  refine ⟨fun b hb => ?_, h2.trans (ht.below (fun b hb => (h1 b hb).1) h3), by omega, h4.turn (ht.mono (fun b hb => .inl hb)) (fun b hb => (hT b hb).imp id (·.1))⟩
  rcases hT b hb with z | z
  · have := h1 b z; omega
  · omega
end Go.Proofs.Ytfcjfjmjcmanaaa.V
