/- A range over a function whose iterator keeps blocks of its own: a contract in which the iterator owns a set of blocks, and the law for the caller. -/
import Derived.RangeFuncNested
set_option linter.unusedVariables false
namespace Go.Proofs.Ytfcjfjmjcmanaaa.O
open Go Go.RowKit
/-- A step that turns blocks of T alone, and lays new ones. -/
structure StepS (T : Nat → Prop) (A B : World) : Prop where
  os : B.os = A.os
  tape : B.tape = A.tape
  output : B.output = A.output
  size : A.heap.size ≤ B.heap.size
  block : ∀ k, k < A.heap.size → ¬ T k → B.heap[k]? = A.heap[k]?
/-- What the iterator's steps leave true: T its blocks. -/
def AbidesS {β : Type} (J : β → (Nat → Prop) → World → Prop) : Prop :=
  ∀ s T A B T', J s T A → StepS T A B → (∀ b, T' b → T b ∨ (A.heap.size ≤ b ∧ b < B.heap.size)) → J s T' B
def KeepsT (T : Nat → Prop) (A B : World) : Prop := A.heap.size ≤ B.heap.size ∧ ∀ b, T b → b < A.heap.size → B.heap[b]? = A.heap[b]?
theorem KeepsT.trans {T : Nat → Prop} {A B C : World} (h : KeepsT T A B) (k : KeepsT T B C) : KeepsT T A C := ⟨Nat.le_trans h.1 k.1, fun b hb hl => (k.2 b hb (Nat.lt_of_lt_of_le hl h.1)).trans (h.2 b hb hl)⟩
theorem KeepsT.refl (T : Nat → Prop) (A : World) : KeepsT T A A := ⟨Nat.le_refl _, fun _ _ _ => rfl⟩
/-- The caller's word: it abides the iterator's steps, and the turn of a block at or behind B that is no cells. -/
def OwnS {β : Type} (B : Nat) (I : β → (Nat → Prop) → World → Prop) : Prop :=
  ∀ s T A A' T', I s T A → StepS (fun b => T b ∨ (B ≤ b ∧ ∃ o : Obj, A.heap[b]? = some o ∧ o.isCells = false)) A A' → (∀ b, T' b → T b ∨ (A.heap.size ≤ b ∧ b < A'.heap.size)) → I s T' A'
/-- The contract of an iterator that owns blocks; Rd: what it reads, and nobody writes. -/
def SeqS {α : Type} (F : Fence) (n : Nat) (P : Program) (g : Nat) (lb : Array Value) (encs : α → Array Value) (Rd T0 : Nat → Prop) (S Sp : List α → Prop) (N : Nat) (w : World) : Prop :=
  ∀ (l : Nat) (J Jx : List α → (Nat → Prop) → World → Prop) (W : World), Below w.heap.size w W → AbidesS J → AbidesS Jx →
    (∀ pre x T W1, J pre T W1 → pre.length < N → YieldAt F (n - 1) P l (encs x) W1 fun e W' =>
      (e = .returned (.bool true) ∧ J (pre ++ [x]) T W' ∧ KeepsT (fun b => T b ∨ Rd b) W1 W') ∨ (e = .returned (.bool false) ∧ Jx (pre ++ [x]) T W')) →
    J [] T0 W →
    CallsIn F n P g (#[.func (.yield l) #[] #[]] ++ lb) W fun e W' => (∃ v, e = .returned v) ∧ ((∃ xs T, S xs ∧ J xs T W') ∨ (∃ pre T, Sp pre ∧ Jx pre T W'))
/-- How a round may be left. -/
def postS {α : Type} (B : Nat) (Rd T : Nat → Prop) (I : List α → (Nat → Prop) → World → Prop) (Ix : Code → List α → (Nat → Prop) → World → Prop) (xs : List α) (W : World) : Exit → Act → World → Prop
  | .normal, _, W' => KeepsFrom B W W' ∧ KeepsT (fun b => T b ∨ Rd b) W W' ∧ I xs T W'
  | .ret, _, W' => KeepsFrom B W W' ∧ Ix .ret xs T W'
  | .exit id, _, W' => KeepsFrom B W W' ∧ Ix (.exit id) xs T W'
  | .goto t, _, W' => KeepsFrom B W W' ∧ Ix (.goto t) xs T W'
  | .panic _, _, _ => False
  | .outgrown, _, _ => False
theorem StepS.mono {T T' : Nat → Prop} {A B : World} (h : StepS T A B) (k : ∀ b, T b → T' b) : StepS T' A B := ⟨h.os, h.tape, h.output, h.size, fun b hb hn => h.block b hb fun z => hn (k b z)⟩
theorem stepS_putObj {T : Nat → Prop} (W : World) (l : Nat) (o : Obj) (h : T l) : StepS T W (W.putObj l o) :=
  have hg := grownBy_putObj' W l o
  ⟨hg.os, hg.tape, hg.output, hg.size, fun k hk hn => hg.block k hk (fun e => by cases e; exact hn h)⟩
theorem stepS_alloc {T : Nat → Prop} (W : World) (o : Obj) : StepS T W (W.alloc o) :=
  have hg := World.grownBy_alloc W o none
  ⟨hg.os, hg.tape, hg.output, hg.size, fun k hk hn => hg.block k hk (by simp)⟩
theorem OwnS.putObj {β : Type} {B : Nat} {I : β → (Nat → Prop) → World → Prop} (h : OwnS B I) {s : β} {T : Nat → Prop} {W : World} {l : Nat} {o : Obj} (o' : Obj) (hs : I s T W) (hB : B ≤ l) (hl : W.heap[l]? = some o) (ho : o.isCells = false) : I s T (W.putObj l o') :=
  h s T W _ T hs (stepS_putObj W l o' (.inr ⟨hB, o, hl, ho⟩)) (fun b hb => .inl hb)
theorem OwnS.alloc {β : Type} {B : Nat} {I : β → (Nat → Prop) → World → Prop} (h : OwnS B I) {s : β} {T : Nat → Prop} {W : World} (o : Obj) (hs : I s T W) : I s T (W.alloc o) :=
  h s T W _ T hs (stepS_alloc W o) (fun b hb => .inl hb)

variable {F : Fence} {n : Nat} {P : Program}
/-- The law. -/
theorem wpIn_rangeFunc_S {α : Type} {g : Operand} {ps : Array Tmp} {assign body : Code} {Q : Exit → Act → World → Prop} {a : Act} {w : World}
    (hro : F.round = none) (h1 : 1 ≤ n) {gf : Nat} {lb : Array Value} (hg : a.eval g = .func (.func gf) #[] lb) (hFg : F.fn gf) (eg : ∀ args w, (callFunc gf args).run P w = .ok (.enter gf args) w)
    {encs : α → Array Value} {Rd T0 : Nat → Prop} {S Sp : List α → Prop} {N : Nat} {w0 : World} (hseq : SeqS F (n - 1) P gf lb encs Rd T0 S Sp N w0)
    (hT0 : ∀ b, T0 b ∨ Rd b → b < w.heap.size) (hb0 : Below w0.heap.size w0 w) (hps : ∀ x, (encs x).size = ps.size)
    (I : List α → (Nat → Prop) → World → Prop) (Ix : Code → List α → (Nat → Prop) → World → Prop) (hI : OwnS w.heap.size I) (hIx : ∀ c, OwnS w.heap.size (Ix c)) (h0 : I [] T0 w) (Ax : α → Act → World → Prop) (hAx : ∀ x a', OwnFrom w.heap.size (fun (_ : Unit) W => Ax x a' W))
    (hassign : ∀ (l : Nat) (pre : List α) (x : α) (T : Nat → Prop) (W : World) (K : Act → World → Prop), I pre T W → (∀ a' W', KeepsFrom w.heap.size W W' → KeepsT (fun b => T b ∨ Rd b) W W' → I pre T W' → Ax x a' W' → K a' W') →
      assign.wpIn (F.inRound l) (n - 1 - 1) P (Exit.then K (fun _ _ _ => False)) { tmps := (ps.zip (encs x)).foldl (fun t (p, v) => t.setIfInBounds p v) a.tmps, defers := [] } W)
    (hbody : ∀ (l : Nat) (pre : List α) (x : α) (T : Nat → Prop) (a' : Act) (W : World), w.heap.size ≤ l → (∃ r, W.heap[l]? = some (.loop r)) → I pre T W → Ax x a' W → pre.length < N → body.wpIn (F.inRound l) (n - 1 - 1) P (postS w.heap.size Rd T I Ix (pre ++ [x]) W) a' W)
    (hdone : ∀ (D : Nat) (xs : List α) (T : Nat → Prop) (W : World), w.heap.size ≤ D → S xs → I xs T W → W.heap[D]? = some (.deferred (some [])) → Q .normal { a with defers := { target := .collected D, args := #[] } :: a.defers } W)
    (hstop : ∀ (D : Nat) (c : Code) (pre : List α) (T : Nat → Prop) (W : World), w.heap.size ≤ D → Sp pre → Ix c pre T W → W.heap[D]? = some (.deferred (some [])) → c.wpIn F n P Q { a with defers := { target := .collected D, args := #[] } :: a.defers } W) :
    (Code.rangeFunc g ps assign body).wpIn F n P Q a w := by
  refine wpIn_rangeFunc ?_
  intro fn hfn
  rw [hro]
  obtain ⟨rec, hrec⟩ : ∃ rec : LoopState → Option Code → Loop, rec = fun st pe => { state := st, pending := pe, fn, tmps := a.tmps, params := ps, assign, body, defers := w.heap.size } := ⟨_, rfl⟩
  obtain ⟨W1, hW1⟩ : ∃ W1, (w.alloc (.deferred (some []))).alloc (.loop (rec .ready none)) = W1 := ⟨_, rfl⟩
  have hL1 : W1.heap[w.heap.size + 1]? = some (.loop (rec .ready none)) := by
    rw [← hW1]; have := World.alloc_heap_new (w.alloc (.deferred (some []))) (.loop (rec .ready none)); rwa [World.size_alloc] at this
  have hK1 : W1.heap[w.heap.size]? = some (.deferred (some [])) := by
    rw [← hW1]; exact (Below.heap_alloc _ _ _ (by simp)).trans (World.alloc_heap_new w _)
  have hI1 : I [] T0 W1 := by rw [← hW1]; exact hI.alloc _ (hI.alloc _ h0)
  have hb1 : Below w0.heap.size w0 W1 := by
    rw [← hW1]; exact hb0.trans ((((Below.refl _ w).alloc (Nat.le_refl _) _).alloc (by simp) _).mono hb0.size)
  refine ⟨w.heap.size + 1, [{ target := .collected w.heap.size, args := #[] }], W1, { target := .fn (.func gf) lb, args := #[.func (.yield (w.heap.size + 1)) #[] #[]] }, W1, gf,
    #[.func (.yield (w.heap.size + 1)) #[] #[]] ++ lb, W1, ?_, ?_, ?_, ?_, fun _ => h1, ?_⟩
  · rw [← hW1, hrec]; exact run_enterLoop_outer _ _ _ _ _
  · simp only [resolve, hg]
    simp [go_sem]
  · intro f' hf'; simp [Target.leads] at hf'; subst hf'; exact hFg
  · simp [invoke, go_sem, eg]
  · -- what the iterator is handed: the caller's word, the two blocks of book-keeping, which are none of the iterator's
    have keep2 : ∀ {T T' : Nat → Prop} {A B : World} {k : Nat} {o : Obj}, StepS T A B → (∀ b, T' b → T b ∨ (A.heap.size ≤ b ∧ b < B.heap.size)) → ¬ T k → A.heap[k]? = some o → B.heap[k]? = some o ∧ ¬ T' k := fun hs hT hn hk =>
      have hlt := (Array.getElem?_eq_some_iff.1 hk).1
      ⟨(hs.block _ hlt hn).trans hk, fun z => (hT _ z).elim hn (fun y => by omega)⟩
    refine (hseq (w.heap.size + 1)
      (fun pre T W => I pre T W ∧ (W.heap[w.heap.size + 1]? = some (.loop (rec .ready none)) ∧ ¬ T (w.heap.size + 1)) ∧ (W.heap[w.heap.size]? = some (.deferred (some [])) ∧ ¬ T w.heap.size))
      (fun pre T W => ∃ c, Ix c pre T W ∧ (W.heap[w.heap.size + 1]? = some (.loop (rec .done (some c))) ∧ ¬ T (w.heap.size + 1)) ∧ (W.heap[w.heap.size]? = some (.deferred (some [])) ∧ ¬ T w.heap.size))
      W1 hb1
      (fun s T A B T' hs hg' hT => ⟨hI s T A B T' hs.1 (hg'.mono fun b hb => .inl hb) hT, keep2 hg' hT hs.2.1.2 hs.2.1.1, keep2 hg' hT hs.2.2.2 hs.2.2.1⟩)
      (fun s T A B T' hs hg' hT => by
        obtain ⟨c, hc, hl, hk⟩ := hs
        exact ⟨c, hIx c s T A B T' hc (hg'.mono fun b hb => .inl hb) hT, keep2 hg' hT hl.2 hl.1, keep2 hg' hT hk.2 hk.1⟩)
      ?_ ⟨hI1, ⟨hL1, fun z => by have := hT0 _ (.inl z); omega⟩, ⟨hK1, fun z => by have := hT0 _ (.inl z); omega⟩⟩).mono ?_
    · -- one round
      rintro pre x T W ⟨hi, ⟨hl, hnl⟩, ⟨hk, hnk⟩⟩ hlen
      have hlt : w.heap.size + 1 < W.heap.size := (Array.getElem?_eq_some_iff.1 hl).1
      have hy := run_yield (P := P) (args := encs x) hl (by rw [hrec]; exact hps x)
      rw [hrec] at hy
      refine ⟨fn, _, assign, body, hy, roundIn_of_wpIn hfn (hassign _ pre x T W _ hi ?_)⟩
      clear hy
      intro a' Wa hkfa hkpa hia hax
      replace hl := hkfa.same _ _ (by omega) hl rfl
      replace hk := hkfa.same _ _ (Nat.le_refl _) hk rfl
      replace hlt : w.heap.size + 1 < Wa.heap.size := (Array.getElem?_eq_some_iff.1 hl).1
      replace hi := hia
      clear hia
      revert hkpa hkfa
      generalize W = Wb
      intro hkfa hkpa
      obtain ⟨W, rfl⟩ : ∃ W, W = Wa := ⟨_, rfl⟩
      refine ⟨_, run_beginRound hl (by rw [hrec]), ?_⟩
      have hl2 : (W.putObj (w.heap.size + 1) (.loop { rec .ready none with state := .busy })).heap[w.heap.size + 1]? = some (.loop { rec .ready none with state := .busy }) := World.putObj_heap_same hlt
      have hk2 : (W.putObj (w.heap.size + 1) (.loop { rec .ready none with state := .busy })).heap[w.heap.size]? = some (.deferred (some [])) := (World.putObj_heap_other (by omega)).trans hk
      have hw : ∀ (X : World) (o : Obj), KeepsT (fun b => T b ∨ Rd b) X (X.putObj (w.heap.size + 1) o) := fun X o => ⟨(grownBy_putObj' X _ o).size, fun b hb _ => World.putObj_heap_other (fun e => by cases e; exact hb.elim hnl (fun z => by have := hT0 _ (.inr z); omega))⟩
      refine wpIn_mono (hbody _ pre x T a' _ (by omega) ⟨_, hl2⟩ (hI.putObj _ hi (by omega) hl rfl) ((hAx x a').putObj (s := ()) _ hax (by omega) hl rfl) hlen) ?_
      have fin : ∀ (jump : Option Code) (W3 : World), KeepsFrom w.heap.size (W.putObj (w.heap.size + 1) (.loop { rec .ready none with state := .busy })) W3 →
          (Instr.endRound (w.heap.size + 1) jump).run P W3 = .ok (.bool jump.isNone) (W3.putObj (w.heap.size + 1) (.loop (rec (if jump.isNone then .ready else .done) jump))) ∧
          W3.heap[w.heap.size + 1]? = some (.loop { rec .ready none with state := .busy }) ∧
          (W3.putObj (w.heap.size + 1) (.loop (rec (if jump.isNone then .ready else .done) jump))).heap[w.heap.size + 1]? = some (.loop (rec (if jump.isNone then .ready else .done) jump)) ∧
          (W3.putObj (w.heap.size + 1) (.loop (rec (if jump.isNone then .ready else .done) jump))).heap[w.heap.size]? = some (.deferred (some [])) := fun jump W3 hk3 => by
        have hl3 := hk3.same _ _ (by omega) hl2 rfl
        have := run_endRound (P := P) jump hl3
        rw [hrec] at this ⊢
        exact ⟨this, by rw [hrec] at hl3; exact hl3, World.putObj_heap_same (Array.getElem?_eq_some_iff.1 hl3).1, (World.putObj_heap_other (by omega)).trans (hk3.same _ _ (Nat.le_refl _) hk2 rfl)⟩
      rintro e a3 W3 hp
      cases e with
      | normal =>
        obtain ⟨hk3, hkp3, hi3⟩ := hp
        obtain ⟨hr, hl3, hl4, hk4⟩ := fin none W3 hk3
        exact ⟨_, _, hr, .inl ⟨rfl, ⟨hI.putObj _ hi3 (by omega) hl3 rfl, ⟨hl4, hnl⟩, ⟨hk4, hnk⟩⟩, hkpa.trans (((hw _ _).trans hkp3).trans (hw _ _))⟩⟩
      | ret =>
        obtain ⟨hk3, hi3⟩ := hp
        obtain ⟨hr, hl3, hl4, hk4⟩ := fin (some .ret) W3 hk3
        exact ⟨_, _, hr, .inr ⟨rfl, .ret, (hIx _).putObj _ hi3 (by omega) hl3 rfl, ⟨hl4, hnl⟩, ⟨hk4, hnk⟩⟩⟩
      | exit id =>
        obtain ⟨hk3, hi3⟩ := hp
        obtain ⟨hr, hl3, hl4, hk4⟩ := fin (some (.exit id)) W3 hk3
        exact ⟨_, _, hr, .inr ⟨rfl, .exit id, (hIx _).putObj _ hi3 (by omega) hl3 rfl, ⟨hl4, hnl⟩, ⟨hk4, hnk⟩⟩⟩
      | goto t =>
        obtain ⟨hk3, hi3⟩ := hp
        obtain ⟨hr, hl3, hl4, hk4⟩ := fin (some (.goto t)) W3 hk3
        exact ⟨_, _, hr, .inr ⟨rfl, .goto t, (hIx _).putObj _ hi3 (by omega) hl3 rfl, ⟨hl4, hnl⟩, ⟨hk4, hnk⟩⟩⟩
      | panic ch => exact hp.elim
      | outgrown => exact hp.elim
    · -- behind the iterator
      rintro e W2 ⟨⟨v, rfl⟩, (⟨xs, T, hS, hi, ⟨hl, hnl⟩, ⟨hk, hnk⟩⟩ | ⟨pre, T, hSp, c, hi, ⟨hl, hnl⟩, ⟨hk, hnk⟩⟩)⟩
      · exact ⟨none, _, by have := run_endLoop (P := P) hl (by rw [hrec]; simp); rw [hrec] at this; exact this, hdone _ xs T _ (Nat.le_refl _) hS (hI.putObj _ hi (by omega) hl rfl) ((World.putObj_heap_other (by omega)).trans hk)⟩
      · exact ⟨some c, _, by have := run_endLoop (P := P) hl (by rw [hrec]; simp); rw [hrec] at this; exact this, hstop _ c pre T _ (Nat.le_refl _) hSp ((hIx c).putObj _ hi (by omega) hl rfl) ((World.putObj_heap_other (by omega)).trans hk)⟩
end Go.Proofs.Ytfcjfjmjcmanaaa.O
