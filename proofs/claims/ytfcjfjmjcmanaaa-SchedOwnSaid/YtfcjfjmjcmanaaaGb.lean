/- A range over a function whose iterator keeps blocks of its own: a contract in which the iterator owns a set of blocks, and the law for the caller. A range over an iterator that owns blocks and hands over lists, each in a row of its own: the contract, and the law for the caller. All: how many lists; the walks of All and CanAll. All: the lists in order, and the iterator. Lists appended whole; the document's Next. All: the walk of the document's Next. What a law holds while it goes over an iterator: books, the list that is wanted, whether more is wanted, how many there were. Mixes and Few: the lists, and what the iterator holds. Mixes: the search. -/
import Derived.RangeFuncNested
import Derived.Test.YtfcjfjmjcmanaaaGa
import Derived.RangeFuncBound
import Derived.RangeFuncCalls
import Derived.RangeFuncLeaves
import Derived.OwnWalkIn
import Derived.TacticsInMore
import Derived.LoopNIn
import Derived.LoopIn
import Derived.Deep.Upon
import Derived.Maps.AppendAt
import Derived.Test.YtfcjfjmjcmanaaaGp
import Derived.Shelf.RegionOpen
set_option linter.unusedVariables false
namespace Go.Proofs.Ytfcjfjmjcmanaaa.O
open Go Go.RowKit
/-- A step that turns blocks of T alone, and lays new ones. -/
structure StepS (T : Nat → Prop) (A B : World) : Prop where
  os : B.os = A.os
  tape : B.tape = A.tape
  output : B.output = A.output
  size : A.heap.size ≤ B.heap.size
  block : ∀ k, k < A.heap.size → ¬ T k → B.heap[k]? = A.heap[k]?
/-- What the iterator's steps leave true: T its blocks. -/
def AbidesS {β : Type} (J : β → (Nat → Prop) → World → Prop) : Prop :=
  ∀ s T A B T', J s T A → StepS T A B → (∀ b, T' b → T b ∨ (A.heap.size ≤ b ∧ b < B.heap.size)) → J s T' B
def KeepsT (T : Nat → Prop) (A B : World) : Prop := A.heap.size ≤ B.heap.size ∧ ∀ b, T b → b < A.heap.size → B.heap[b]? = A.heap[b]?
theorem KeepsT.trans {T : Nat → Prop} {A B C : World} (h : KeepsT T A B) (k : KeepsT T B C) : KeepsT T A C := ⟨Nat.le_trans h.1 k.1, fun b hb hl => (k.2 b hb (Nat.lt_of_lt_of_le hl h.1)).trans (h.2 b hb hl)⟩
theorem KeepsT.refl (T : Nat → Prop) (A : World) : KeepsT T A A := ⟨Nat.le_refl _, fun _ _ _ => rfl⟩
/-- The caller's word: it abides the iterator's steps, and the turn of a block at or behind B that is no cells. -/
def OwnS {β : Type} (B : Nat) (I : β → (Nat → Prop) → World → Prop) : Prop :=
  ∀ s T A A' T', I s T A → StepS (fun b => T b ∨ (B ≤ b ∧ ∃ o : Obj, A.heap[b]? = some o ∧ o.isCells = false)) A A' → (∀ b, T' b → T b ∨ (A.heap.size ≤ b ∧ b < A'.heap.size)) → I s T' A'
/-- The contract of an iterator that owns blocks; Rd: what it reads, and nobody writes. -/
def SeqS {α : Type} (F : Fence) (n : Nat) (P : Program) (g : Nat) (lb : Array Value) (encs : α → Array Value) (Rd T0 : Nat → Prop) (S Sp : List α → Prop) (N : Nat) (w : World) : Prop :=
  ∀ (l : Nat) (J Jx : List α → (Nat → Prop) → World → Prop) (W : World), Below w.heap.size w W → AbidesS J → AbidesS Jx →
    (∀ pre x T W1, J pre T W1 → pre.length < N → YieldAt F (n - 1) P l (encs x) W1 fun e W' =>
      (e = .returned (.bool true) ∧ J (pre ++ [x]) T W' ∧ KeepsT (fun b => T b ∨ Rd b) W1 W') ∨ (e = .returned (.bool false) ∧ Jx (pre ++ [x]) T W')) →
    J [] T0 W →
    CallsIn F n P g (#[.func (.yield l) #[] #[]] ++ lb) W fun e W' => (∃ v, e = .returned v) ∧ ((∃ xs T, S xs ∧ J xs T W') ∨ (∃ pre T, Sp pre ∧ Jx pre T W'))
/-- How a round may be left. -/
def postS {α : Type} (B : Nat) (Rd T : Nat → Prop) (I : List α → (Nat → Prop) → World → Prop) (Ix : Code → List α → (Nat → Prop) → World → Prop) (xs : List α) (W : World) : Exit → Act → World → Prop
  | .normal, _, W' => KeepsFrom B W W' ∧ KeepsT (fun b => T b ∨ Rd b) W W' ∧ I xs T W'
  | .ret, _, W' => KeepsFrom B W W' ∧ Ix .ret xs T W'
  | .exit id, _, W' => KeepsFrom B W W' ∧ Ix (.exit id) xs T W'
  | .goto t, _, W' => KeepsFrom B W W' ∧ Ix (.goto t) xs T W'
  | .panic _, _, _ => False
  | .outgrown, _, _ => False
theorem StepS.mono {T T' : Nat → Prop} {A B : World} (h : StepS T A B) (k : ∀ b, T b → T' b) : StepS T' A B := ⟨h.os, h.tape, h.output, h.size, fun b hb hn => h.block b hb fun z => hn (k b z)⟩
theorem stepS_putObj {T : Nat → Prop} (W : World) (l : Nat) (o : Obj) (h : T l) : StepS T W (W.putObj l o) :=
  have hg := grownBy_putObj' W l o
  ⟨hg.os, hg.tape, hg.output, hg.size, fun k hk hn => hg.block k hk (fun e => by cases e; exact hn h)⟩
theorem stepS_alloc {T : Nat → Prop} (W : World) (o : Obj) : StepS T W (W.alloc o) :=
  have hg := World.grownBy_alloc W o none
  ⟨hg.os, hg.tape, hg.output, hg.size, fun k hk hn => hg.block k hk (by simp)⟩
theorem OwnS.putObj {β : Type} {B : Nat} {I : β → (Nat → Prop) → World → Prop} (h : OwnS B I) {s : β} {T : Nat → Prop} {W : World} {l : Nat} {o : Obj} (o' : Obj) (hs : I s T W) (hB : B ≤ l) (hl : W.heap[l]? = some o) (ho : o.isCells = false) : I s T (W.putObj l o') :=
  h s T W _ T hs (stepS_putObj W l o' (.inr ⟨hB, o, hl, ho⟩)) (fun b hb => .inl hb)
theorem OwnS.alloc {β : Type} {B : Nat} {I : β → (Nat → Prop) → World → Prop} (h : OwnS B I) {s : β} {T : Nat → Prop} {W : World} (o : Obj) (hs : I s T W) : I s T (W.alloc o) :=
  h s T W _ T hs (stepS_alloc W o) (fun b hb => .inl hb)

variable {F : Fence} {n : Nat} {P : Program}
/-- The law. -/
theorem wpIn_rangeFunc_S {α : Type} {g : Operand} {ps : Array Tmp} {assign body : Code} {Q : Exit → Act → World → Prop} {a : Act} {w : World}
    (hro : F.round = none) (h1 : 1 ≤ n) {gf : Nat} {lb : Array Value} (hg : a.eval g = .func (.func gf) #[] lb) (hFg : F.fn gf) (eg : ∀ args w, (callFunc gf args).run P w = .ok (.enter gf args) w)
    {encs : α → Array Value} {Rd T0 : Nat → Prop} {S Sp : List α → Prop} {N : Nat} {w0 : World} (hseq : SeqS F (n - 1) P gf lb encs Rd T0 S Sp N w0)
    (hT0 : ∀ b, T0 b ∨ Rd b → b < w.heap.size) (hb0 : Below w0.heap.size w0 w) (hps : ∀ x, (encs x).size = ps.size)
    (I : List α → (Nat → Prop) → World → Prop) (Ix : Code → List α → (Nat → Prop) → World → Prop) (hI : OwnS w.heap.size I) (hIx : ∀ c, OwnS w.heap.size (Ix c)) (h0 : I [] T0 w) (Ax : α → Act → World → Prop) (hAx : ∀ x a', OwnFrom w.heap.size (fun (_ : Unit) W => Ax x a' W))
    (hassign : ∀ (l : Nat) (pre : List α) (x : α) (T : Nat → Prop) (W : World) (K : Act → World → Prop), I pre T W → (∀ a' W', KeepsFrom w.heap.size W W' → KeepsT (fun b => T b ∨ Rd b) W W' → I pre T W' → Ax x a' W' → K a' W') →
      assign.wpIn (F.inRound l) (n - 1 - 1) P (Exit.then K (fun _ _ _ => False)) { tmps := (ps.zip (encs x)).foldl (fun t (p, v) => t.setIfInBounds p v) a.tmps, defers := [] } W)
    (hbody : ∀ (l : Nat) (pre : List α) (x : α) (T : Nat → Prop) (a' : Act) (W : World), w.heap.size ≤ l → (∃ r, W.heap[l]? = some (.loop r)) → I pre T W → Ax x a' W → pre.length < N → body.wpIn (F.inRound l) (n - 1 - 1) P (postS w.heap.size Rd T I Ix (pre ++ [x]) W) a' W)
    (hdone : ∀ (D : Nat) (xs : List α) (T : Nat → Prop) (W : World), w.heap.size ≤ D → S xs → I xs T W → W.heap[D]? = some (.deferred (some [])) → Q .normal { a with defers := { target := .collected D, args := #[] } :: a.defers } W)
    (hstop : ∀ (D : Nat) (c : Code) (pre : List α) (T : Nat → Prop) (W : World), w.heap.size ≤ D → Sp pre → Ix c pre T W → W.heap[D]? = some (.deferred (some [])) → c.wpIn F n P Q { a with defers := { target := .collected D, args := #[] } :: a.defers } W) :
    (Code.rangeFunc g ps assign body).wpIn F n P Q a w := by
  refine wpIn_rangeFunc ?_
  intro fn hfn
  rw [hro]
  obtain ⟨rec, hrec⟩ : ∃ rec : LoopState → Option Code → Loop, rec = fun st pe => { state := st, pending := pe, fn, tmps := a.tmps, params := ps, assign, body, defers := w.heap.size } := ⟨_, rfl⟩
  obtain ⟨W1, hW1⟩ : ∃ W1, (w.alloc (.deferred (some []))).alloc (.loop (rec .ready none)) = W1 := ⟨_, rfl⟩
  have hL1 : W1.heap[w.heap.size + 1]? = some (.loop (rec .ready none)) := by
    rw [← hW1]; have := World.alloc_heap_new (w.alloc (.deferred (some []))) (.loop (rec .ready none)); rwa [World.size_alloc] at this
  have hK1 : W1.heap[w.heap.size]? = some (.deferred (some [])) := by
    rw [← hW1]; exact (Below.heap_alloc _ _ _ (by simp)).trans (World.alloc_heap_new w _)
  have hI1 : I [] T0 W1 := by rw [← hW1]; exact hI.alloc _ (hI.alloc _ h0)
  have hb1 : Below w0.heap.size w0 W1 := by
    rw [← hW1]; exact hb0.trans ((((Below.refl _ w).alloc (Nat.le_refl _) _).alloc (by simp) _).mono hb0.size)
  refine ⟨w.heap.size + 1, [{ target := .collected w.heap.size, args := #[] }], W1, { target := .fn (.func gf) lb, args := #[.func (.yield (w.heap.size + 1)) #[] #[]] }, W1, gf,
    #[.func (.yield (w.heap.size + 1)) #[] #[]] ++ lb, W1, ?_, ?_, ?_, ?_, fun _ => h1, ?_⟩
  · rw [← hW1, hrec]; exact run_enterLoop_outer _ _ _ _ _
  · simp only [resolve, hg]
    simp [go_sem]
  · intro f' hf'; simp [Target.leads] at hf'; subst hf'; exact hFg
  · simp [invoke, go_sem, eg]
  · -- what the iterator is handed: the caller's word, the two blocks of book-keeping, which are none of the iterator's
    have keep2 : ∀ {T T' : Nat → Prop} {A B : World} {k : Nat} {o : Obj}, StepS T A B → (∀ b, T' b → T b ∨ (A.heap.size ≤ b ∧ b < B.heap.size)) → ¬ T k → A.heap[k]? = some o → B.heap[k]? = some o ∧ ¬ T' k := fun hs hT hn hk =>
      have hlt := (Array.getElem?_eq_some_iff.1 hk).1
      ⟨(hs.block _ hlt hn).trans hk, fun z => (hT _ z).elim hn (fun y => by omega)⟩
    refine (hseq (w.heap.size + 1)
      (fun pre T W => I pre T W ∧ (W.heap[w.heap.size + 1]? = some (.loop (rec .ready none)) ∧ ¬ T (w.heap.size + 1)) ∧ (W.heap[w.heap.size]? = some (.deferred (some [])) ∧ ¬ T w.heap.size))
      (fun pre T W => ∃ c, Ix c pre T W ∧ (W.heap[w.heap.size + 1]? = some (.loop (rec .done (some c))) ∧ ¬ T (w.heap.size + 1)) ∧ (W.heap[w.heap.size]? = some (.deferred (some [])) ∧ ¬ T w.heap.size))
      W1 hb1
      (fun s T A B T' hs hg' hT => ⟨hI s T A B T' hs.1 (hg'.mono fun b hb => .inl hb) hT, keep2 hg' hT hs.2.1.2 hs.2.1.1, keep2 hg' hT hs.2.2.2 hs.2.2.1⟩)
      (fun s T A B T' hs hg' hT => by
        obtain ⟨c, hc, hl, hk⟩ := hs
        exact ⟨c, hIx c s T A B T' hc (hg'.mono fun b hb => .inl hb) hT, keep2 hg' hT hl.2 hl.1, keep2 hg' hT hk.2 hk.1⟩)
      ?_ ⟨hI1, ⟨hL1, fun z => by have := hT0 _ (.inl z); omega⟩, ⟨hK1, fun z => by have := hT0 _ (.inl z); omega⟩⟩).mono ?_
    · -- one round
      rintro pre x T W ⟨hi, ⟨hl, hnl⟩, ⟨hk, hnk⟩⟩ hlen
      have hlt : w.heap.size + 1 < W.heap.size := (Array.getElem?_eq_some_iff.1 hl).1
      have hy := run_yield (P := P) (args := encs x) hl (by rw [hrec]; exact hps x)
      rw [hrec] at hy
      refine ⟨fn, _, assign, body, hy, roundIn_of_wpIn hfn (hassign _ pre x T W _ hi ?_)⟩
      clear hy
      intro a' Wa hkfa hkpa hia hax
      replace hl := hkfa.same _ _ (by omega) hl rfl
      replace hk := hkfa.same _ _ (Nat.le_refl _) hk rfl
      replace hlt : w.heap.size + 1 < Wa.heap.size := (Array.getElem?_eq_some_iff.1 hl).1
      replace hi := hia
      clear hia
      revert hkpa hkfa
      generalize W = Wb
      intro hkfa hkpa
      obtain ⟨W, rfl⟩ : ∃ W, W = Wa := ⟨_, rfl⟩
      refine ⟨_, run_beginRound hl (by rw [hrec]), ?_⟩
      have hl2 : (W.putObj (w.heap.size + 1) (.loop { rec .ready none with state := .busy })).heap[w.heap.size + 1]? = some (.loop { rec .ready none with state := .busy }) := World.putObj_heap_same hlt
      have hk2 : (W.putObj (w.heap.size + 1) (.loop { rec .ready none with state := .busy })).heap[w.heap.size]? = some (.deferred (some [])) := (World.putObj_heap_other (by omega)).trans hk
      have hw : ∀ (X : World) (o : Obj), KeepsT (fun b => T b ∨ Rd b) X (X.putObj (w.heap.size + 1) o) := fun X o => ⟨(grownBy_putObj' X _ o).size, fun b hb _ => World.putObj_heap_other (fun e => by cases e; exact hb.elim hnl (fun z => by have := hT0 _ (.inr z); omega))⟩
      refine wpIn_mono (hbody _ pre x T a' _ (by omega) ⟨_, hl2⟩ (hI.putObj _ hi (by omega) hl rfl) ((hAx x a').putObj (s := ()) _ hax (by omega) hl rfl) hlen) ?_
      have fin : ∀ (jump : Option Code) (W3 : World), KeepsFrom w.heap.size (W.putObj (w.heap.size + 1) (.loop { rec .ready none with state := .busy })) W3 →
          (Instr.endRound (w.heap.size + 1) jump).run P W3 = .ok (.bool jump.isNone) (W3.putObj (w.heap.size + 1) (.loop (rec (if jump.isNone then .ready else .done) jump))) ∧
          W3.heap[w.heap.size + 1]? = some (.loop { rec .ready none with state := .busy }) ∧
          (W3.putObj (w.heap.size + 1) (.loop (rec (if jump.isNone then .ready else .done) jump))).heap[w.heap.size + 1]? = some (.loop (rec (if jump.isNone then .ready else .done) jump)) ∧
          (W3.putObj (w.heap.size + 1) (.loop (rec (if jump.isNone then .ready else .done) jump))).heap[w.heap.size]? = some (.deferred (some [])) := fun jump W3 hk3 => by
        have hl3 := hk3.same _ _ (by omega) hl2 rfl
        have := run_endRound (P := P) jump hl3
        rw [hrec] at this ⊢
        exact ⟨this, by rw [hrec] at hl3; exact hl3, World.putObj_heap_same (Array.getElem?_eq_some_iff.1 hl3).1, (World.putObj_heap_other (by omega)).trans (hk3.same _ _ (Nat.le_refl _) hk2 rfl)⟩
      rintro e a3 W3 hp
      cases e with
      | normal =>
        obtain ⟨hk3, hkp3, hi3⟩ := hp
        obtain ⟨hr, hl3, hl4, hk4⟩ := fin none W3 hk3
        exact ⟨_, _, hr, .inl ⟨rfl, ⟨hI.putObj _ hi3 (by omega) hl3 rfl, ⟨hl4, hnl⟩, ⟨hk4, hnk⟩⟩, hkpa.trans (((hw _ _).trans hkp3).trans (hw _ _))⟩⟩
      | ret =>
        obtain ⟨hk3, hi3⟩ := hp
        obtain ⟨hr, hl3, hl4, hk4⟩ := fin (some .ret) W3 hk3
        exact ⟨_, _, hr, .inr ⟨rfl, .ret, (hIx _).putObj _ hi3 (by omega) hl3 rfl, ⟨hl4, hnl⟩, ⟨hk4, hnk⟩⟩⟩
      | exit id =>
        obtain ⟨hk3, hi3⟩ := hp
        obtain ⟨hr, hl3, hl4, hk4⟩ := fin (some (.exit id)) W3 hk3
        exact ⟨_, _, hr, .inr ⟨rfl, .exit id, (hIx _).putObj _ hi3 (by omega) hl3 rfl, ⟨hl4, hnl⟩, ⟨hk4, hnk⟩⟩⟩
      | goto t =>
        obtain ⟨hk3, hi3⟩ := hp
        obtain ⟨hr, hl3, hl4, hk4⟩ := fin (some (.goto t)) W3 hk3
        exact ⟨_, _, hr, .inr ⟨rfl, .goto t, (hIx _).putObj _ hi3 (by omega) hl3 rfl, ⟨hl4, hnl⟩, ⟨hk4, hnk⟩⟩⟩
      | panic ch => exact hp.elim
      | outgrown => exact hp.elim
    · -- behind the iterator
      rintro e W2 ⟨⟨v, rfl⟩, (⟨xs, T, hS, hi, ⟨hl, hnl⟩, ⟨hk, hnk⟩⟩ | ⟨pre, T, hSp, c, hi, ⟨hl, hnl⟩, ⟨hk, hnk⟩⟩)⟩
      · exact ⟨none, _, by have := run_endLoop (P := P) hl (by rw [hrec]; simp); rw [hrec] at this; exact this, hdone _ xs T _ (Nat.le_refl _) hS (hI.putObj _ hi (by omega) hl rfl) ((World.putObj_heap_other (by omega)).trans hk)⟩
      · exact ⟨some c, _, by have := run_endLoop (P := P) hl (by rw [hrec]; simp); rw [hrec] at this; exact this, hstop _ c pre T _ (Nat.le_refl _) hSp ((hIx c).putObj _ hi (by omega) hl rfl) ((World.putObj_heap_other (by omega)).trans hk)⟩
end Go.Proofs.Ytfcjfjmjcmanaaa.O
set_option linter.unusedVariables false
namespace Go.Proofs.Ytfcjfjmjcmanaaa.V
open Go Go.RowKit Go.Proofs.Ytfcjfjmjcmanaaa.O Go.Proofs.Ytfcjfjmjcmanaaa.B
/-- The contract: the lists Ls come in order, each in a row of its own; Rd is read, and nobody writes it; T0: the blocks that the iterator owns at the start. -/
def SeqV (F : Fence) (n : Nat) (P : Program) (g : Nat) (lb : Array Value) (Rd T0 : Nat → Prop) (Ls : List (List Int)) (w : World) : Prop :=
  ∀ (l : Nat) (J Jx : Nat → (Nat → Prop) → World → Prop) (W : World), Below w.heap.size w W → (∀ b, T0 b ∨ Rd b → W.heap[b]? = w.heap[b]?) → AbidesS J → AbidesS Jx →
    (∀ i L T T1 v W1, Ls[i]? = some L → J i T1 W1 → (∀ b, T b → T1 b) → (∀ b, T1 b ∨ Rd b → b < W1.heap.size) → SlB W1 (fun b => T1 b ∧ ¬ T b ∧ ¬ Rd b) v L → YieldAt F (n - 1) P l #[v] W1 fun e W' =>
      (e = .returned (.bool true) ∧ J (i + 1) T W' ∧ KeepsT (fun b => T b ∨ Rd b) W1 W') ∨ (e = .returned (.bool false) ∧ Jx (i + 1) T W' ∧ KeepsT T W1 W')) →
    J 0 T0 W →
    CallsIn F n P g (#[.func (.yield l) #[] #[]] ++ lb) W fun e W' => (∃ v, e = .returned v) ∧ ((∃ T, J Ls.length T W') ∨ (∃ i T, i ≤ Ls.length ∧ Jx i T W'))
/-- How a round may be left. -/
def postV (Rd T : Nat → Prop) (I : Nat → (Nat → Prop) → World → Prop) (Ix : Code → Nat → (Nat → Prop) → World → Prop) (i : Nat) (W : World) : Exit → Act → World → Prop
  | .normal, _, W' => KeepsT (fun b => T b ∨ Rd b) W W' ∧ I i T W'
  | .ret, _, W' => KeepsT T W W' ∧ Ix .ret i T W'
  | .exit id, _, W' => KeepsT T W W' ∧ Ix (.exit id) i T W'
  | .goto t, _, W' => KeepsT T W W' ∧ Ix (.goto t) i T W'
  | .panic _, _, _ => False
  | .outgrown, _, _ => False
theorem stepS_refl (T : Nat → Prop) (W : World) : StepS T W W := ⟨rfl, rfl, rfl, Nat.le_refl _, fun _ _ _ => rfl⟩
variable {F : Fence} {n : Nat} {P : Program}
theorem wpIn_rangeFunc_V {g : Operand} {ps : Array Tmp} {assign body : Code} {Q : Exit → Act → World → Prop} {a : Act} {w : World}
    (hro : F.round = none) (h1 : 1 ≤ n) {gf : Nat} {lb : Array Value} (hg : a.eval g = .func (.func gf) #[] lb) (hFg : F.fn gf) (eg : ∀ args w, (callFunc gf args).run P w = .ok (.enter gf args) w)
    {Rd T0 : Nat → Prop} {Ls : List (List Int)} {w0 : World} (hseq : SeqV F (n - 1) P gf lb Rd T0 Ls w0)
    (hT0 : ∀ b, T0 b ∨ Rd b → b < w.heap.size) (hb0 : Below w0.heap.size w0 w) (hk0 : ∀ b, T0 b ∨ Rd b → w.heap[b]? = w0.heap[b]?) (hps : ps.size = 1)
    (I : Nat → (Nat → Prop) → World → Prop) (Ix : Code → Nat → (Nat → Prop) → World → Prop) (hI : AbidesS I) (hIx : ∀ c, AbidesS (Ix c)) (h0 : I 0 T0 w) (ax : Value → Act)
    (hassign : ∀ (l : Nat) (v : Value) (W : World) (K : Act → World → Prop), K (ax v) W → assign.wpIn (F.inRound l) (n - 1 - 1) P (Exit.then K (fun _ _ _ => False)) { tmps := (ps.zip #[v]).foldl (fun t (p, v) => t.setIfInBounds p v) a.tmps, defers := [] } W)
    (hbody : ∀ (l i : Nat) (L : List Int) (T T1 : Nat → Prop) (v : Value) (W : World), Ls[i]? = some L → I i T1 W → (∀ b, T b → T1 b) → (∀ b, T1 b ∨ Rd b → b < W.heap.size) → SlB W (fun b => T1 b ∧ ¬ T b ∧ ¬ Rd b) v L → body.wpIn (F.inRound l) (n - 1 - 1) P (postV Rd T I Ix (i + 1) W) (ax v) W)
    (hdone : ∀ (D : Nat) (T : Nat → Prop) (W : World), w.heap.size ≤ D → I Ls.length T W → W.heap[D]? = some (.deferred (some [])) → T D → Q .normal { a with defers := { target := .collected D, args := #[] } :: a.defers } W)
    (hstop : ∀ (D : Nat) (c : Code) (i : Nat) (T : Nat → Prop) (W : World), w.heap.size ≤ D → i ≤ Ls.length → Ix c i T W → W.heap[D]? = some (.deferred (some [])) → T D → c.wpIn F n P Q { a with defers := { target := .collected D, args := #[] } :: a.defers } W) :
    (Code.rangeFunc g ps assign body).wpIn F n P Q a w := by
  refine wpIn_rangeFunc ?_
  intro fn hfn
  rw [hro]
  obtain ⟨rec, hrec⟩ : ∃ rec : LoopState → Option Code → Loop, rec = fun st pe => { state := st, pending := pe, fn, tmps := a.tmps, params := ps, assign, body, defers := w.heap.size } := ⟨_, rfl⟩
  obtain ⟨W1, hW1⟩ : ∃ W1, (w.alloc (.deferred (some []))).alloc (.loop (rec .ready none)) = W1 := ⟨_, rfl⟩
  obtain ⟨B, hB⟩ : ∃ B, w.heap.size = B := ⟨_, rfl⟩
  have hL1 : W1.heap[B + 1]? = some (.loop (rec .ready none)) := by
    rw [← hW1, ← hB]; have := World.alloc_heap_new (w.alloc (.deferred (some []))) (.loop (rec .ready none)); rwa [World.size_alloc] at this
  have hK1 : W1.heap[B]? = some (.deferred (some [])) := by
    rw [← hW1, ← hB]; exact (Below.heap_alloc _ _ _ (by simp)).trans (World.alloc_heap_new w _)
  have hsz1 : W1.heap.size = B + 2 := by rw [← hW1, ← hB]; simp
  have hI1 : I 0 (fun b => T0 b ∨ b = B ∨ b = B + 1) W1 := by
    refine hI 0 T0 w W1 _ h0 ?_ (fun b hb => ?_)
    · rw [← hW1]
      have a1 := stepS_alloc (T := T0) w (.deferred (some []))
      have a2 := stepS_alloc (T := T0) (w.alloc (.deferred (some []))) (.loop (rec .ready none))
      exact ⟨a2.os.trans a1.os, a2.tape.trans a1.tape, a2.output.trans a1.output, Nat.le_trans a1.size a2.size, fun k hk hn => (a2.block k (Nat.lt_of_lt_of_le hk a1.size) hn).trans (a1.block k hk hn)⟩
    · rcases hb with z | z | z
      · exact .inl z
      · exact .inr (by omega)
      · exact .inr (by omega)
  have hblk1 : ∀ k, k < B → W1.heap[k]? = w.heap[k]? := fun k hk => by
    rw [← hW1]; exact (Below.heap_alloc _ _ _ (by simp; omega)).trans (Below.heap_alloc _ _ _ (by omega))
  have hb1 : Below w0.heap.size w0 W1 := by
    rw [← hW1]; exact hb0.trans ((((Below.refl _ w).alloc (Nat.le_refl _) _).alloc (by simp) _).mono hb0.size)
  have hk1 : ∀ b, T0 b ∨ Rd b → W1.heap[b]? = w0.heap[b]? := fun b hb => (hblk1 b (by rw [← hB]; exact hT0 b hb)).trans (hk0 b hb)
  refine ⟨B + 1, [{ target := .collected B, args := #[] }], W1, { target := .fn (.func gf) lb, args := #[.func (.yield (B + 1)) #[] #[]] }, W1, gf,
    #[.func (.yield (B + 1)) #[] #[]] ++ lb, W1, ?_, ?_, ?_, ?_, fun _ => h1, ?_⟩
  · rw [← hW1, ← hB, hrec]; exact run_enterLoop_outer _ _ _ _ _
  · simp only [resolve, hg]
    simp [go_sem]
  · intro f' hf'; simp [Target.leads] at hf'; subst hf'; exact hFg
  · simp [invoke, go_sem, eg]
  · have keep2 : ∀ {T T' : Nat → Prop} {A C : World} {k : Nat} {o : Obj}, StepS T A C → (∀ b, T' b → T b ∨ (A.heap.size ≤ b ∧ b < C.heap.size)) → ¬ T k → A.heap[k]? = some o → C.heap[k]? = some o ∧ ¬ T' k := fun hs hT hn hk =>
      have hlt := (Array.getElem?_eq_some_iff.1 hk).1
      ⟨(hs.block _ hlt hn).trans hk, fun z => (hT _ z).elim hn (fun y => by omega)⟩
    have up : ∀ {T T' : Nat → Prop} {A C : World}, (∀ b, T' b → T b ∨ (A.heap.size ≤ b ∧ b < C.heap.size)) → ∀ b, (T' b ∨ b = B ∨ b = B + 1) → (T b ∨ b = B ∨ b = B + 1) ∨ (A.heap.size ≤ b ∧ b < C.heap.size) := fun hT b hb => by
      rcases hb with z | z
      · exact (hT b z).imp .inl id
      · exact .inl (.inr z)
    refine (hseq (B + 1)
      (fun i T W => I i (fun b => T b ∨ b = B ∨ b = B + 1) W ∧ (W.heap[B + 1]? = some (.loop (rec .ready none)) ∧ ¬ T (B + 1)) ∧ (W.heap[B]? = some (.deferred (some [])) ∧ ¬ T B))
      (fun i T W => ∃ c, Ix c i (fun b => T b ∨ b = B ∨ b = B + 1) W ∧ (W.heap[B + 1]? = some (.loop (rec .done (some c))) ∧ ¬ T (B + 1)) ∧ (W.heap[B]? = some (.deferred (some [])) ∧ ¬ T B))
      W1 hb1 hk1
      (fun s T A C T' hs hg' hT => ⟨hI s _ A C _ hs.1 (hg'.mono fun b hb => .inl hb) (up hT), keep2 hg' hT hs.2.1.2 hs.2.1.1, keep2 hg' hT hs.2.2.2 hs.2.2.1⟩)
      (fun s T A C T' hs hg' hT => by
        obtain ⟨c, hc, hl, hk⟩ := hs
        exact ⟨c, hIx c s _ A C _ hc (hg'.mono fun b hb => .inl hb) (up hT), keep2 hg' hT hl.2 hl.1, keep2 hg' hT hk.2 hk.1⟩)
      ?_ ⟨hI1, ⟨hL1, fun z => by have := hT0 _ (.inl z); omega⟩, ⟨hK1, fun z => by have := hT0 _ (.inl z); omega⟩⟩).mono ?_
    · -- one round
      rintro i L T T1 v W hLs ⟨hi, ⟨hl, hnl⟩, ⟨hk, hnk⟩⟩ hTT hlt1 hsl
      have hlt : B + 1 < W.heap.size := (Array.getElem?_eq_some_iff.1 hl).1
      have hy := run_yield (P := P) (args := #[v]) hl (by rw [hrec]; simp [hps])
      rw [hrec] at hy
      refine ⟨fn, _, assign, body, hy, roundIn_of_wpIn hfn (hassign _ v W _ ?_)⟩
      clear hy
      refine ⟨_, run_beginRound hl (by rw [hrec]), ?_⟩
      have hl2 : (W.putObj (B + 1) (.loop { rec .ready none with state := .busy })).heap[B + 1]? = some (.loop { rec .ready none with state := .busy }) := World.putObj_heap_same hlt
      have hk2 : (W.putObj (B + 1) (.loop { rec .ready none with state := .busy })).heap[B]? = some (.deferred (some [])) := (World.putObj_heap_other (by omega)).trans hk
      have hput : ∀ {T : Nat → Prop}, ¬ T (B + 1) → ∀ (X : World) (o : Obj), KeepsT (fun b => T b ∨ Rd b) X (X.putObj (B + 1) o) := fun hn X o => ⟨(grownBy_putObj' X _ o).size, fun b hb _ => World.putObj_heap_other (fun e => by cases e; exact hb.elim hn (fun z => by have := hT0 _ (.inr z); omega))⟩
      have hnT : ¬ T (B + 1) := fun z => hnl (hTT _ z)
      have hnT' : ¬ T B := fun z => hnk (hTT _ z)
      have hszp : (W.putObj (B + 1) (.loop { rec .ready none with state := .busy })).heap.size = W.heap.size := by simp [World.putObj]
      refine wpIn_mono (hbody _ i L (fun b => T b ∨ b = B ∨ b = B + 1) (fun b => T1 b ∨ b = B ∨ b = B + 1) v _ hLs (hI i _ W _ _ hi (stepS_putObj W (B + 1) _ (.inr (.inr rfl))) (fun b hb => .inl hb)) (fun b hb => hb.imp (hTT b) id) (fun b hb => ?_) (SlB.kept (SlB.mono hsl (fun j hj hb => ⟨.inl hb.1, fun z => ?_, hb.2.2⟩)) (fun j hj => World.putObj_heap_other (fun e => by have h := (hsl.own hj).1.1; cases e; exact hnl h)))) ?_
      · rw [hszp]
        rcases hb with (z | z | z) | z
        · exact hlt1 b (.inl z)
        · omega
        · omega
        · exact hlt1 b (.inr z)
      · rcases z with z | z | z
        · exact hb.2.1 z
        · subst z; exact hnk hb.1
        · subst z; exact hnl hb.1
      have fin : ∀ (jump : Option Code) (W3 : World), KeepsT (fun b => T b ∨ b = B ∨ b = B + 1) (W.putObj (B + 1) (.loop { rec .ready none with state := .busy })) W3 →
          (Instr.endRound (B + 1) jump).run P W3 = .ok (.bool jump.isNone) (W3.putObj (B + 1) (.loop (rec (if jump.isNone then .ready else .done) jump))) ∧
          W3.heap[B + 1]? = some (.loop { rec .ready none with state := .busy }) ∧
          (W3.putObj (B + 1) (.loop (rec (if jump.isNone then .ready else .done) jump))).heap[B + 1]? = some (.loop (rec (if jump.isNone then .ready else .done) jump)) ∧
          (W3.putObj (B + 1) (.loop (rec (if jump.isNone then .ready else .done) jump))).heap[B]? = some (.deferred (some [])) := fun jump W3 hk3 => by
        have hl3 := (hk3.2 (B + 1) (.inr (.inr rfl)) (by rw [hszp]; exact hlt)).trans hl2
        have := run_endRound (P := P) jump hl3
        rw [hrec] at this ⊢
        exact ⟨this, by rw [hrec] at hl3; exact hl3, World.putObj_heap_same (Array.getElem?_eq_some_iff.1 hl3).1, (World.putObj_heap_other (by omega)).trans ((hk3.2 B (.inr (.inl rfl)) (by rw [hszp]; omega)).trans hk2)⟩
      have kx : ∀ (o : Obj) (W3 : World), KeepsT (fun b => T b ∨ b = B ∨ b = B + 1) (W.putObj (B + 1) (.loop { rec .ready none with state := .busy })) W3 → KeepsT T W (W3.putObj (B + 1) o) := fun o W3 hk3 => by
        have e1 := hput hnT W (.loop { rec .ready none with state := .busy })
        have e2 := hput hnT W3 o
        exact (show KeepsT T _ _ from ⟨e1.1, fun b hb => e1.2 b (.inl hb)⟩).trans ((show KeepsT T _ _ from ⟨hk3.1, fun b hb => hk3.2 b (.inl hb)⟩).trans ⟨e2.1, fun b hb => e2.2 b (.inl hb)⟩)
      rintro e a3 W3 hp
      cases e with
      | normal =>
        obtain ⟨hkp3, hi3⟩ := hp
        obtain ⟨hr, hl3, hl4, hk4⟩ := fin none W3 ⟨hkp3.1, fun b hb => hkp3.2 b (.inl hb)⟩
        refine ⟨_, _, hr, .inl ⟨rfl, ⟨hI _ _ W3 _ _ hi3 (stepS_putObj W3 (B + 1) _ (.inr (.inr rfl))) (fun b hb => .inl hb), ⟨hl4, hnT⟩, ⟨hk4, hnT'⟩⟩, ?_⟩⟩
        exact ((hput hnT W _).trans ⟨hkp3.1, fun b hb => hkp3.2 b (hb.imp .inl id)⟩).trans (hput hnT _ _)
      | ret =>
        obtain ⟨hk3, hi3⟩ := hp
        obtain ⟨hr, hl3, hl4, hk4⟩ := fin (some .ret) W3 hk3
        exact ⟨_, _, hr, .inr ⟨rfl, ⟨.ret, hIx _ _ _ W3 _ _ hi3 (stepS_putObj W3 (B + 1) _ (.inr (.inr rfl))) (fun b hb => .inl hb), ⟨hl4, hnT⟩, ⟨hk4, hnT'⟩⟩, kx _ _ hk3⟩⟩
      | exit id =>
        obtain ⟨hk3, hi3⟩ := hp
        obtain ⟨hr, hl3, hl4, hk4⟩ := fin (some (.exit id)) W3 hk3
        exact ⟨_, _, hr, .inr ⟨rfl, ⟨.exit id, hIx _ _ _ W3 _ _ hi3 (stepS_putObj W3 (B + 1) _ (.inr (.inr rfl))) (fun b hb => .inl hb), ⟨hl4, hnT⟩, ⟨hk4, hnT'⟩⟩, kx _ _ hk3⟩⟩
      | goto t =>
        obtain ⟨hk3, hi3⟩ := hp
        obtain ⟨hr, hl3, hl4, hk4⟩ := fin (some (.goto t)) W3 hk3
        exact ⟨_, _, hr, .inr ⟨rfl, ⟨.goto t, hIx _ _ _ W3 _ _ hi3 (stepS_putObj W3 (B + 1) _ (.inr (.inr rfl))) (fun b hb => .inl hb), ⟨hl4, hnT⟩, ⟨hk4, hnT'⟩⟩, kx _ _ hk3⟩⟩
      | panic ch => exact hp.elim
      | outgrown => exact hp.elim
    · -- behind the iterator
      rintro e W2 ⟨⟨v, rfl⟩, (⟨T, hi, ⟨hl, hnl⟩, ⟨hk, hnk⟩⟩ | ⟨i, T, hil, c, hi, ⟨hl, hnl⟩, ⟨hk, hnk⟩⟩)⟩
      · refine ⟨none, _, by have := run_endLoop (P := P) hl (by rw [hrec]; simp); rw [hrec] at this; exact this, ?_⟩
        rw [← hB] at hi hk ⊢
        exact hdone _ _ _ (Nat.le_refl _) (hI _ _ W2 _ _ hi (stepS_putObj W2 _ _ (.inr (.inr rfl))) (fun b hb => .inl hb)) ((World.putObj_heap_other (by omega)).trans hk) (.inr (.inl rfl))
      · refine ⟨some c, _, by have := run_endLoop (P := P) hl (by rw [hrec]; simp); rw [hrec] at this; exact this, ?_⟩
        rw [← hB] at hi hk ⊢
        exact hstop _ c i _ _ (Nat.le_refl _) hil ((hIx c) _ _ W2 _ _ hi (stepS_putObj W2 _ _ (.inr (.inr rfl))) (fun b hb => .inl hb)) ((World.putObj_heap_other (by omega)).trans hk) (.inr (.inl rfl))
end Go.Proofs.Ytfcjfjmjcmanaaa.V
set_option linter.unusedVariables false
namespace Go.Proofs.Ytfcjfjmjcmanaaa.V
open Go Go.RowKit Go.Proofs.Ytfcjfjmjcmanaaa.O Go.Proofs.Ytfcjfjmjcmanaaa.B Go.Proofs.YtfcjfjmjcmanaaaW.PrintWords Go.Proofs.YtfcjfjmjcmanaaaW.PrintLast Go.Proofs.YtfcjfjmjcmanaaaW.PrintMore
def hnd (h : Int) : Bool := if 1 ≤ h then decide (h ≤ 16) else false
theorem hnd_iff (h : Int) : hnd h = true ↔ 1 ≤ h ∧ h ≤ 16 := by unfold hnd; split <;> simp <;> omega
theorem hnd_calls (h : Int) (w : World) : Calls Try.prog 70 #[.int .i64 h] w fun e w' => e = .returned (.bool (hnd h)) ∧ w' = w := by
  unfold hnd
  by_cases h1 : 1 ≤ h
  · rw [if_pos h1]
    have h1b : decide (1 ≤ h) = true := decide_eq_true h1
    go_enter Try.func70, Try.ntmps70
    go_wp2
    go_ret
    exact ⟨by first | rfl | (simp; done) | (simp [*]; done), rfl⟩
  · rw [if_neg h1]
    have h1b : decide (1 ≤ h) = false := decide_eq_false h1
    go_enter Try.func70, Try.ntmps70
    go_wp2
    go_ret
    exact ⟨by first | rfl | (simp; done) | (simp [*]; done), rfl⟩
/-- May All go over anything? -/
def okAll (h d : Int) : Prop := (1 ≤ h ∧ h ≤ 16) ∧ (0 ≤ d ∧ d ≤ 24) ∧ h.toNat ^ d.toNat ≤ 1048576
instance (h d : Int) : Decidable (okAll h d) := by unfold okAll; infer_instance
def cntAll (h d : Int) : Nat := if okAll h d then h.toNat ^ d.toNat else 0
/-- What All's loop holds: i rounds, a lists. -/
def Inv25 (h d : Int) (i a : Nat) : Prop := i ≤ d.toNat ∧ ((((1 ≤ h ∧ h ≤ 16) ∧ (0 ≤ d ∧ d ≤ 24)) ∧ a = h.toNat ^ i ∧ a ≤ 1048576) ∨ (a = 0 ∧ ¬ okAll h d))
theorem inv25_end {h d : Int} {i a : Nat} (v : Inv25 h d i a) (e : ¬ ((i : Int) < d) ∨ ¬ (0 < a)) : a = cntAll h d := by
  obtain ⟨hi, ⟨⟨hr, hd⟩, ha, hle⟩ | ⟨ha, hn⟩⟩ := v
  · have hpos : 0 < h.toNat ^ i := Nat.pow_pos (by omega)
    have hid : i = d.toNat := by omega
    unfold cntAll
    subst hid
    rw [if_pos ⟨hr, hd, by rw [← ha]; exact hle⟩, ha]
  · unfold cntAll
    rw [if_neg hn, ha]
theorem inv25_next {h d : Int} {i a : Nat} (v : Inv25 h d i a) (e : (i : Int) < d) (e2 : 0 < a) : ((1 ≤ h ∧ h ≤ 16) ∧ (0 ≤ d ∧ d ≤ 24)) ∧ i ≤ 24 ∧ wrap64 ((a : Int) * h) = ((a * h.toNat : Nat) : Int) ∧ ((a * h.toNat ≤ 1048576 ∧ Inv25 h d (i + 1) (a * h.toNat)) ∨ (1048576 < a * h.toNat ∧ Inv25 h d (i + 1) 0)) := by
  obtain ⟨hi, ⟨⟨hr, hd⟩, ha, hle⟩ | ⟨ha, hn⟩⟩ := v
  · obtain ⟨H, rfl⟩ : ∃ H : Nat, h = (H : Int) := ⟨h.toNat, by omega⟩
    rw [Int.toNat_natCast] at *
    have hH : H ≤ 16 := by omega
    have hb : a * H ≤ 1048576 * 16 := Nat.mul_le_mul hle hH
    have hc : (a : Int) * (H : Int) = ((a * H : Nat) : Int) := by rw [Int.natCast_mul]
    refine ⟨⟨hr, hd⟩, by omega, by rw [hc, X.hwrId (by omega) (by omega)], ?_⟩
    by_cases hx : a * H ≤ 1048576
    · refine .inl ⟨hx, by omega, .inl ⟨⟨hr, hd⟩, ?_, hx⟩⟩
      rw [Int.toNat_natCast, Nat.pow_succ, ← ha]
    · refine .inr ⟨by omega, by omega, .inr ⟨rfl, fun hok => ?_⟩⟩
      have h3 := hok.2.2
      rw [Int.toNat_natCast] at h3
      have h4 : H ^ (i + 1) ≤ H ^ d.toNat := Nat.pow_le_pow_right (by omega) (by omega)
      rw [Nat.pow_succ, ← ha] at h4
      omega
  · omega
theorem inv25_start (h d : Int) : (((1 ≤ h ∧ h ≤ 16) ∧ (0 ≤ d ∧ d ≤ 24)) ∧ Inv25 h d 0 1) ∨ (¬ ((1 ≤ h ∧ h ≤ 16) ∧ (0 ≤ d ∧ d ≤ 24)) ∧ Inv25 h d 0 0) := by
  by_cases hr : (1 ≤ h ∧ h ≤ 16) ∧ (0 ≤ d ∧ d ≤ 24)
  · exact .inl ⟨hr, by omega, .inl ⟨hr, rfl, by omega⟩⟩
  · exact .inr ⟨hr, by omega, .inr ⟨rfl, fun h => hr ⟨h.1, h.2.1⟩⟩⟩
set_option maxRecDepth 100000
set_option maxHeartbeats 4000000
/-- All: a closure over three boxes. -/
theorem all_calls (h d : Int) (W : World) : Calls Try.prog 25 #[.int .i64 h, .int .i64 d] W fun e W' => e = .returned (.func (.func 71) #[] #[.pointer (some ⟨W.heap.size + 2, 0, none⟩), .pointer (some ⟨W.heap.size + 1, 0, none⟩), .pointer (some ⟨W.heap.size, 0, none⟩)]) ∧
    Boxed W' (W.heap.size + 2) 3 (.int .i64 (cntAll h d : Int)) ∧ Boxed W' (W.heap.size + 1) 3 (.int .i64 d) ∧ Boxed W' W.heap.size 3 (.int .i64 h) ∧ Below W.heap.size W W' := by
  have hbx : ∀ x : Int, Boxed (((W.alloc (.cells #[.int .i64 h] 3)).alloc (.cells #[.int .i64 d] 3)).alloc (.cells #[.int .i64 x] 3)) W.heap.size 3 (.int .i64 h) ∧ Boxed (((W.alloc (.cells #[.int .i64 h] 3)).alloc (.cells #[.int .i64 d] 3)).alloc (.cells #[.int .i64 x] 3)) (W.heap.size + 1) 3 (.int .i64 d) ∧ Boxed (((W.alloc (.cells #[.int .i64 h] 3)).alloc (.cells #[.int .i64 d] 3)).alloc (.cells #[.int .i64 x] 3)) (W.heap.size + 2) 3 (.int .i64 x) ∧ Below W.heap.size W (((W.alloc (.cells #[.int .i64 h] 3)).alloc (.cells #[.int .i64 d] 3)).alloc (.cells #[.int .i64 x] 3)) := fun x => by
    have b1 := ((Boxed.new W 3 (.int .i64 h)).alloc (.cells #[.int .i64 d] 3)).alloc (.cells #[.int .i64 x] 3)
    have b2 := (Boxed.new (W.alloc (.cells #[.int .i64 h] 3)) 3 (.int .i64 d)).alloc (.cells #[.int .i64 x] 3)
    have b3 := Boxed.new ((W.alloc (.cells #[.int .i64 h] 3)).alloc (.cells #[.int .i64 d] 3)) 3 (.int .i64 x)
    simp only [World.size_alloc] at b2 b3
    exact ⟨b1, b2, b3, ((((Below.refl _ W).alloc (Nat.le_refl _) _).alloc (by simp) _).alloc (by simp; omega) _)⟩
  have HBX := Aside0.mk hbx
  have HST := Aside0.mk (inv25_start h d)
  clear hbx
  obtain ⟨B, hB⟩ : ∃ B, W.heap.size = B := ⟨_, rfl⟩
  rw [hB]
  have HB := Aside0.mk hB
  have hs : ∀ a : Nat, Inv25 h d 0 a → ∃ i a', Value.int IntKind.i64 0 = Value.int IntKind.i64 ((i : Nat) : Int) ∧ Aside0 (Inv25 h d i a') ∧ Aside0 (Boxed (((W.alloc (.cells #[.int .i64 h] 3)).alloc (.cells #[.int .i64 d] 3)).alloc (.cells #[.int .i64 (a : Int)] 3)) (B + 2) 3 (.int .i64 (a' : Int))) ∧ Aside0 (Boxed (((W.alloc (.cells #[.int .i64 h] 3)).alloc (.cells #[.int .i64 d] 3)).alloc (.cells #[.int .i64 (a : Int)] 3)) (B + 1) 3 (.int .i64 d)) ∧ Aside0 (Boxed (((W.alloc (.cells #[.int .i64 h] 3)).alloc (.cells #[.int .i64 d] 3)).alloc (.cells #[.int .i64 (a : Int)] 3)) B 3 (.int .i64 h)) ∧ Aside0 (Below B W (((W.alloc (.cells #[.int .i64 h] 3)).alloc (.cells #[.int .i64 d] 3)).alloc (.cells #[.int .i64 (a : Int)] 3))) := fun a ha => by
    have hx := HBX.out a
    rw [hB] at hx
    exact ⟨0, a, rfl, ⟨ha⟩, ⟨hx.2.2.1⟩, ⟨hx.2.1⟩, ⟨hx.1⟩, ⟨hx.2.2.2⟩⟩
  have HS := Aside0.mk hs
  clear hs
  go_enter Try.func25, Try.ntmps25
  go_wp2
  all_goals (
    go_loopw [6] (fun p wr => ∃ i a : Nat, p = .int .i64 (i : Int) ∧ Aside0 (Inv25 h d i a) ∧ Aside0 (Boxed wr (B + 2) 3 (.int .i64 (a : Int))) ∧ Aside0 (Boxed wr (B + 1) 3 (.int .i64 d)) ∧ Aside0 (Boxed wr B 3 (.int .i64 h)) ∧ Aside0 (Below B W wr)) (fun p _ => (d - intOf p).toNat)
    case atStart =>
      first
        | exact HS.out 1 (by rcases HST.out with ⟨_, z⟩ | ⟨z, _⟩; exact z; exact absurd (by omega) z)
        | exact HS.out 0 (by rcases HST.out with ⟨z, _⟩ | ⟨_, z⟩; exact absurd z (by omega); exact z)
    case round =>
      obtain ⟨i, a, rfl, HI, H5, H3, H2, HW⟩ := hrel
      have c5 := H5.out.cell
      have f5 := H5.out.frozen
      have c3 := H3.out.cell
      have c2 := H2.out.cell
      by_cases hlt : (i : Int) < d
      · by_cases ha : 0 < a
        · obtain ⟨hrr, hi24, hm, hcase⟩ := inv25_next HI.out hlt ha
          obtain ⟨q, hq⟩ : ∃ q, a * h.toNat = q := ⟨_, rfl⟩
          rw [hq] at hm hcase
          have hai : (0 < (a : Int)) = True := eq_true (by omega)
          have wi := Aside0.mk (w1 i (by omega))
          have HLT := Aside0.mk hlt
          have set5 : ∀ x : Int, Boxed (wr.setCell ⟨B + 2, 0, none⟩ (.int .i64 x)) (B + 2) 3 (.int .i64 x) ∧ Boxed (wr.setCell ⟨B + 2, 0, none⟩ (.int .i64 x)) (B + 1) 3 (.int .i64 d) ∧ Boxed (wr.setCell ⟨B + 2, 0, none⟩ (.int .i64 x)) B 3 (.int .i64 h) ∧ Below B W (wr.setCell ⟨B + 2, 0, none⟩ (.int .i64 x)) := fun x => ⟨H5.out.set _, H3.out.other (by omega) _, H2.out.other (by omega) _, HW.out.setCell (p := ⟨B + 2, 0, none⟩) (by show B ≤ B + 2; omega) _⟩
          have S5 := Aside0.mk set5
          clear set5 hq
          have hms : (d - ((i + 1 : Nat) : Int)).toNat < (d - (i : Int)).toNat := by omega
          replace hlt := eq_true hlt
          replace ha := eq_true ha
          have HRR := Aside0.mk hrr
          rcases hcase with ⟨hx, hv⟩ | ⟨hx, hv⟩
          · have HV := Aside0.mk hv
            have hx1 : ((1048576 : Int) < (q : Int)) = False := eq_false (by omega)
            have hx2 : (1048576 < q) = False := eq_false (by omega)
            clear hx hv hi24 hrr
            first
              | (exfalso; have := HRR.out; omega)
              | (go_wp2
                 exact ⟨⟨i + 1, q, by first | rfl | rw [wi.out], HV, ⟨(S5.out _).1⟩, ⟨(S5.out _).2.1⟩, ⟨(S5.out _).2.2.1⟩, ⟨(S5.out _).2.2.2⟩⟩, by first | exact hms | (rw [wi.out]; exact hms)⟩)
          · have HV := Aside0.mk hv
            have hx1 : ((1048576 : Int) < (q : Int)) = True := eq_true (by omega)
            have hx2 : (1048576 < q) = True := eq_true (by omega)
            have f5' := (S5.out (q : Int)).1.frozen
            have S6 := Aside0.mk (show Boxed ((wr.setCell ⟨B + 2, 0, none⟩ (.int .i64 (q : Int))).setCell ⟨B + 2, 0, none⟩ (.int .i64 0)) (B + 2) 3 (.int .i64 0) ∧ Boxed ((wr.setCell ⟨B + 2, 0, none⟩ (.int .i64 (q : Int))).setCell ⟨B + 2, 0, none⟩ (.int .i64 0)) (B + 1) 3 (.int .i64 d) ∧ Boxed ((wr.setCell ⟨B + 2, 0, none⟩ (.int .i64 (q : Int))).setCell ⟨B + 2, 0, none⟩ (.int .i64 0)) B 3 (.int .i64 h) ∧ Below B W ((wr.setCell ⟨B + 2, 0, none⟩ (.int .i64 (q : Int))).setCell ⟨B + 2, 0, none⟩ (.int .i64 0)) from ⟨(S5.out q).1.set _, (S5.out q).2.1.other (by omega) _, (S5.out q).2.2.1.other (by omega) _, (S5.out q).2.2.2.setCell (p := ⟨B + 2, 0, none⟩) (by show B ≤ B + 2; omega) _⟩)
            clear hx hv hi24 hrr
            first
              | (exfalso; have := HRR.out; omega)
              | (go_wp2
                 exact ⟨⟨i + 1, 0, by first | rfl | rw [wi.out], HV, ⟨S6.out.1⟩, ⟨S6.out.2.1⟩, ⟨S6.out.2.2.1⟩, ⟨S6.out.2.2.2⟩⟩, by first | exact hms | (rw [wi.out]; exact hms)⟩)
        · have HE := Aside0.mk (inv25_end HI.out (.inr ha))
          have hai : (0 < (a : Int)) = False := eq_false (by omega)
          replace hlt := eq_true hlt
          replace ha := eq_false ha
          go_wp2
          go_ret
          exact ⟨rfl, by rw [← HE.out]; exact H5.out, H3.out, H2.out, HW.out⟩
      · have HE := Aside0.mk (inv25_end HI.out (.inl hlt))
        replace hlt := eq_false hlt
        go_wp2
        go_ret
        exact ⟨rfl, by rw [← HE.out]; exact H5.out, H3.out, H2.out, HW.out⟩)
/-- CanAll of the document. -/
theorem canAll_calls (h d : Int) (W : World) : Calls Try.prog 26 #[.int .i64 h, .int .i64 d] W fun e W' => e = .returned (.bool (decide (okAll h d))) ∧ Drawn0 W W' := by
  by_cases hr : (1 ≤ h ∧ h ≤ 16) ∧ (0 ≤ d ∧ d ≤ 24)
  · have HST := Aside0.mk (inv25_start h d)
    have HR := Aside0.mk hr
    have a1 : (h < 1) = False := eq_false (by omega)
    have a2 : (16 < h) = False := eq_false (by omega)
    have a3 : (d < 0) = False := eq_false (by omega)
    have a4 : (24 < d) = False := eq_false (by omega)
    clear hr
    go_enter Try.func26, Try.ntmps26
    go_wp2
    go_loopw [5, 6] (fun q p wr => ∃ i a : Nat, q = .int .i64 (a : Int) ∧ p = .int .i64 (i : Int) ∧ Aside0 (0 < a ∧ Inv25 h d i a) ∧ Drawn0 W wr) (fun _ p _ => (d - intOf p).toNat)
    case atStart => exact ⟨0, 1, rfl, rfl, ⟨by omega, by rcases HST.out with ⟨_, z⟩ | ⟨z, _⟩; exact z; exact absurd HR.out z⟩, Drawn0.refl _⟩
    case round =>
      obtain ⟨i, a, rfl, rfl, HI, ⟨m, rfl⟩⟩ := hrel
      by_cases hlt : (i : Int) < d
      · obtain ⟨hrr, hi24, hm, hcase⟩ := inv25_next HI.out.2 hlt HI.out.1
        obtain ⟨q, hq⟩ : ∃ q, a * h.toNat = q := ⟨_, rfl⟩
        rw [hq] at hm hcase
        have wi := Aside0.mk (w1 i (by omega))
        have hms : (d - ((i + 1 : Nat) : Int)).toNat < (d - (i : Int)).toNat := by omega
        have HQ : Aside0 (0 < q) := ⟨by rw [← hq]; exact Nat.mul_pos HI.out.1 (by have := HR.out; omega)⟩
        replace hlt := eq_true hlt
        rcases hcase with ⟨hx, hv⟩ | ⟨hx, hv⟩
        · have HV := Aside0.mk hv
          have hx1 : ((1048576 : Int) < (q : Int)) = False := eq_false (by omega)
          have hx2 : (1048576 < q) = False := eq_false (by omega)
          clear hx hv hi24 hrr hq
          go_wp2
          exact ⟨⟨i + 1, q, by first | rfl | rw [hm], by first | rfl | rw [wi.out], ⟨HQ.out, HV.out⟩, ⟨_, rfl⟩⟩, by first | exact hms | (rw [wi.out]; exact hms)⟩
        · have hno : ¬ okAll h d := by
            obtain ⟨_, ⟨_, ha, _⟩ | ⟨_, hn⟩⟩ := hv
            · have := Nat.pow_pos (n := i + 1) (show 0 < h.toNat by have := HR.out; omega); omega
            · exact hn
          have HN := Aside0.mk hno
          have hx1 : ((1048576 : Int) < (q : Int)) = True := eq_true (by omega)
          have hx2 : (1048576 < q) = True := eq_true (by omega)
          clear hx hv hi24 hrr hq hno
          go_wp2
          go_ret
          exact ⟨by rw [decide_eq_false HN.out]; rfl, ⟨_, rfl⟩⟩
      · have hyes : okAll h d := by
          have e := inv25_end HI.out.2 (.inl hlt)
          unfold cntAll at e
          by_cases hok : okAll h d
          · exact hok
          · rw [if_neg hok] at e
            have := HI.out.1
            omega
        have HY := Aside0.mk hyes
        replace hlt := eq_false hlt
        clear hyes
        go_wp2
        go_ret
        exact ⟨by rw [decide_eq_true HY.out]; rfl, ⟨_, rfl⟩⟩
  · have hno : decide (okAll h d) = false := decide_eq_false fun z => hr ⟨z.1, z.2.1⟩
    rw [hno]
    by_cases h1 : h < 1
    · replace h1 := eq_true h1
      clear hr
      go_enter Try.func26, Try.ntmps26
      go_wp2
      go_ret
      exact ⟨rfl, Drawn0.refl _⟩
    · by_cases h2 : 16 < h
      · replace h1 := eq_false h1
        replace h2 := eq_true h2
        clear hr
        go_enter Try.func26, Try.ntmps26
        go_wp2
        go_ret
        exact ⟨rfl, Drawn0.refl _⟩
      · by_cases h3 : d < 0
        · replace h1 := eq_false h1
          replace h2 := eq_false h2
          replace h3 := eq_true h3
          clear hr
          go_enter Try.func26, Try.ntmps26
          go_wp2
          go_ret
          exact ⟨rfl, Drawn0.refl _⟩
        · have h4 : (24 < d) = True := eq_true (by omega)
          replace h1 := eq_false h1
          replace h2 := eq_false h2
          replace h3 := eq_false h3
          clear hr
          go_enter Try.func26, Try.ntmps26
          go_wp2
          go_ret
          exact ⟨rfl, Drawn0.refl _⟩
end Go.Proofs.Ytfcjfjmjcmanaaa.V
set_option linter.unusedVariables false
namespace Go.Proofs.Ytfcjfjmjcmanaaa.V
open Go Go.RowKit Go.Proofs.Ytfcjfjmjcmanaaa.O Go.Proofs.Ytfcjfjmjcmanaaa.B Go.Proofs.YtfcjfjmjcmanaaaW.PrintWords Go.Proofs.YtfcjfjmjcmanaaaW.PrintLast Go.Proofs.YtfcjfjmjcmanaaaW.PrintMore
attribute [local go_sem] Oper.semAt_some
/-- The digits of n to the base h, the last one behind. -/
def digs (h : Nat) : Nat → Nat → List Int
  | 0, _ => []
  | d + 1, n => digs h d (n / h) ++ [((n % h : Nat) : Int)]
theorem digs_len (h : Nat) (d n : Nat) : (digs h d n).length = d := by induction d generalizing n with
  | zero => rfl
  | succ d ih => simp [digs, ih]
/-- The lists of All. -/
def allOf (h d : Int) : List (List Int) := (List.range (cntAll h d)).map (digs h.toNat d.toNat)
theorem allOf_len (h d : Int) : (allOf h d).length = cntAll h d := by simp [allOf]
theorem allOf_get {h d : Int} {k : Nat} (hk : k < cntAll h d) : (allOf h d)[k]? = some (digs h.toNat d.toNat k) := by simp [allOf, hk]
theorem digs_front (h : Nat) (j n : Nat) : digs h (j + 1) n = ((n / h ^ j % h : Nat) : Int) :: digs h j n := by
  induction j generalizing n with
  | zero => simp [digs]
  | succ j ih =>
    show digs h (j + 1) (n / h) ++ _ = _ :: (digs h j (n / h) ++ _)
    rw [ih, Nat.div_div_eq_div_mul, Nat.pow_succ, Nat.mul_comm h]
    rfl
/-- The row behind j digits. -/
def half (H D k j : Nat) : List Int := List.replicate (D - j) 0 ++ digs H j k
theorem half_len {H D k j : Nat} (h : j ≤ D) : (half H D k j).length = D := by simp [half, digs_len]; omega
theorem half_next {H D k j x : Nat} (h : j < D) (hx : x + 1 + j = D) : (half H D k j).set x ((k / H ^ j % H : Nat) : Int) = half H D k (j + 1) := by
  unfold half
  rw [digs_front, show D - j = x + 1 by omega, show D - (j + 1) = x by omega, List.set_append_left _ _ (by simp), List.replicate_succ', List.set_append_right _ _ (by simp)]
  simp
theorem half_all (H D k : Nat) : half H D k D = digs H D k := by simp [half]
theorem info3v : (Try.prog.info? 3).map (fun i => (i.zero, i.size, i.bytes)) = some (some (.int .i64 0), 1, 8) := by kernel_rfl
theorem make_row (D : Nat) (hD : D ≤ 4096) (W : World) : (Instr.makeSlice 26 (.int .i64 (D : Int)) (.int .i64 (D : Int))).run Try.prog W = .ok (.slice (some ⟨W.heap.size, 0, none⟩) D D) (W.alloc (.cells (madeCells #[.int .i64 0] D) 3)) := by
  obtain ⟨i0, hi0, hz0, hz1, hz2⟩ := info_parts info3v
  have h := run_make (P := Try.prog) W 26 3 i0 (.int .i64 0) Try.underlying26 hi0 hz0 .i64 .i64 (D : Int) (D : Int) (by omega) (by omega) (by rw [hz2]; omega) (by omega)
  rw [h, hz1]
  simp [Value.cells]
theorem made_row (W : World) (D : Nat) (hD : D ≤ 4096) : SlB (W.alloc (.cells (madeCells #[.int .i64 0] D) 3)) (fun b => b = W.heap.size) (.slice (some ⟨W.heap.size, 0, none⟩) D D) (List.replicate D 0) := by
  refine .inr ⟨W.heap.size, 0, D, madeCells #[.int .i64 0] D, by simp, rfl, by simp, by unfold maxLen; omega, by simp [size_madeCells], World.alloc_heap_new W _, fun i x hx => ?_⟩
  have hi : i < D := by
    have := (List.getElem?_eq_some_iff.1 hx).1
    simpa using this
  simp [hi] at hx
  subst hx
  simp [madeCells, hi, Nat.mod_one]
set_option maxRecDepth 100000
set_option maxHeartbeats 4000000
/-- The iterator of All. -/
theorem all_in (n : Nat) (hn : 1 ≤ n) (l Ba Bd Bh : Nat) (h d : Int) (Rd : Nat → Prop) (ra : Rd Ba) (rd : Rd Bd) (rh : Rd Bh) (J Jx : Nat → (Nat → Prop) → World → Prop) (hJ : AbidesS J) (hJx : AbidesS Jx)
    (hY : ∀ i L T T1 v W1, (allOf h d)[i]? = some L → J i T1 W1 → (∀ b, T b → T1 b) → (∀ b, T1 b ∨ Rd b → b < W1.heap.size) → SlB W1 (fun b => T1 b ∧ ¬ T b ∧ ¬ Rd b) v L → YieldAt Fence.wide (n - 1) Try.prog l #[v] W1 fun e W' =>
      (e = .returned (.bool true) ∧ J (i + 1) T W' ∧ KeepsT (fun b => T b ∨ Rd b) W1 W') ∨ (e = .returned (.bool false) ∧ Jx (i + 1) T W' ∧ KeepsT T W1 W'))
    (W : World) (hR : ∀ b, Rd b → b < W.heap.size) (hBa : Boxed W Ba 3 (.int .i64 (cntAll h d : Int))) (hBd : Boxed W Bd 3 (.int .i64 d)) (hBh : Boxed W Bh 3 (.int .i64 h)) (h0 : J 0 (fun _ => False) W) :
    CallsIn Fence.wide n Try.prog 71 #[.func (.yield l) #[] #[], .pointer (some ⟨Ba, 0, none⟩), .pointer (some ⟨Bd, 0, none⟩), .pointer (some ⟨Bh, 0, none⟩)] W fun e W' => (∃ v, e = .returned v) ∧
      ((∃ T, J (allOf h d).length T W') ∨ (∃ i T, i ≤ (allOf h d).length ∧ Jx i T W')) := by
  have HJ := Aside0.mk hJ
  have HY := Aside0.mk hY
  clear hJ hY
  rw [allOf_len]
  refine callsIn_of_wp Try.func71 rfl trivial ?_ rfl
  simp only [Try.ntmps71, List.size_toArray, List.length_cons, List.length_nil, Nat.reduceAdd, Nat.reduceSub, Array.replicate_succ, Array.replicate_zero, List.push_toArray, List.append_toArray, List.nil_append, List.cons_append]
  have c1 := hBa.cell
  obtain ⟨N, hN⟩ : ∃ N, cntAll h d = N := ⟨_, rfl⟩
  have hN2 : N ≤ 1048576 := by rw [← hN]; unfold cntAll; split; rename_i z; exact z.2.2; omega
  have hok : 0 < N → okAll h d := fun z => by rw [← hN] at z; unfold cntAll at z; split at z; assumption; omega
  have HN := Aside0.mk hN
  have HOK := Aside0.mk hok
  rw [hN] at c1 hBa ⊢
  have HBX := Aside0.mk (And.intro hBa (And.intro hBd hBh))
  have HR := Aside0.mk hR
  clear hBa hBd hBh hR hok hN
  gi_wp2
  clear c1
  gi_loopw [9] (fun p wr => ∃ k : Nat, k ≤ N ∧ p = .int .i64 k ∧ Aside0 (J k (fun _ => False) wr) ∧ Aside0 (Boxed wr Ba 3 (.int .i64 (N : Int)) ∧ Boxed wr Bd 3 (.int .i64 d) ∧ Boxed wr Bh 3 (.int .i64 h)) ∧ Aside0 (∀ b, Rd b → b < wr.heap.size)) (fun p _ => N - (intOf p).toNat)
  case atStart => exact ⟨0, by omega, rfl, ⟨h0⟩, HBX, HR⟩
  case round =>
    obtain ⟨wo, rfl⟩ : ∃ wo : World, wo = wr := ⟨_, rfl⟩
    clear HR HBX h0
    obtain ⟨k, hk, rfl, HJ1, HB, HR⟩ := hrel
    by_cases hlt : k < N
    · have hokk := HOK.out (by omega)
      obtain ⟨D, rfl⟩ : ∃ D : Nat, d = (D : Int) := ⟨d.toNat, by have := hokk.2.1; omega⟩
      obtain ⟨H, rfl⟩ : ∃ H : Nat, h = (H : Int) := ⟨h.toNat, by have := hokk.1; omega⟩
      have hD : D ≤ 24 := by have := hokk.2.1; omega
      have hH : 1 ≤ H ∧ H ≤ 16 := by have := hokk.1; omega
      have c2 := HB.out.2.1.cell
      have hmk := make_row D (by omega) wo
      have wd : wrap64 ((D : Int) - 1) = (D : Int) - 1 := X.hwrId (by omega) (by omega)
      have HLT := Aside0.mk hlt
      have hk1 : ((k : Int) < (N : Int)) = True := eq_true (by omega)
      replace hlt := eq_true hlt
      clear hokk
      have cd2 : (wo.alloc (.cells (madeCells #[.int .i64 0] D) 3)).cell? ⟨Bd, 0, none⟩ = some (.int .i64 (D : Int)) := (HB.out.2.1.alloc _).cell
      gi_wp2
      have HS0 := Aside0.mk (show StepS (fun _ => False) wo (wo.alloc (.cells (madeCells #[.int .i64 0] D) 3)) ∧ (wo.alloc (.cells (madeCells #[.int .i64 0] D) 3)).heap.size = wo.heap.size + 1 ∧ SlB (wo.alloc (.cells (madeCells #[.int .i64 0] D) 3)) (fun b => b = wo.heap.size) (.slice (some ⟨wo.heap.size, 0, none⟩) D D) (half H D k 0) from ⟨stepS_alloc _ _, by simp, by have := made_row wo D (by omega); simpa [half, digs] using this⟩)
      generalize wo.alloc (.cells (madeCells #[.int .i64 0] D) 3) = wi at HS0 cd2 ⊢
      clear hmk c2
      gi_loopw [5, 7] (fun q p wr => ∃ j : Nat, q = .int .i64 ((k / H ^ j : Nat) : Int) ∧ p = .int .i64 ((D : Int) - 1 - (j : Int)) ∧ Aside0 (j ≤ D) ∧ Aside0 (StepS (fun _ => False) wo wr ∧ wr.heap.size = wo.heap.size + 1 ∧ SlB wr (fun b => b = wo.heap.size) (.slice (some ⟨wo.heap.size, 0, none⟩) D D) (half H D k j))) (fun _ p _ => (1 + intOf p).toNat)
      case atStart => exact ⟨0, by simp, by simp, ⟨by omega⟩, HS0⟩
      case round =>
        clear HS0
        obtain ⟨j, rfl, rfl, Hj, HS⟩ := hrel
        have ch : wr.cell? ⟨Bh, 0, none⟩ = some (.int .i64 (H : Int)) := by
          rw [Boxed.cell (show Boxed wr Bh 3 (.int .i64 (H : Int)) from (HS.out.1.block Bh HB.out.2.2.lt (fun z => z)).trans HB.out.2.2)]
        obtain ⟨q, hq⟩ : ∃ q, k / H ^ j = q := ⟨_, rfl⟩
        rw [hq]
        have HQ := Aside0.mk hq
        clear hq
        by_cases hj : j < D
        · obtain ⟨x, hx⟩ : ∃ x : Nat, D - 1 - j = x := ⟨_, rfl⟩
          have hx2 : (D : Int) - 1 - (j : Int) = (x : Int) := by omega
          rw [hx2]
          have HX := Aside0.mk (show x + 1 + j = D by omega)
          obtain ⟨hf, hs', hg⟩ := HS.out.2.2.set x (by rw [half_len Hj.out]; omega) ((q : Int) % (H : Int))
          obtain ⟨ad, ead, hcx⟩ := HS.out.2.2.cell (x : Int) (by omega) (by rw [half_len Hj.out]; omega)
          cases ead
          rw [Addr.add_lit, Nat.zero_add, Int.toNat_natCast] at hcx
          rw [Addr.add_lit, Nat.zero_add] at hf hs' hg
          have ch2 : (wr.setCell ⟨wo.heap.size, x, none⟩ (.int .i64 ((q : Int) % (H : Int)))).cell? ⟨Bh, 0, none⟩ = some (.int .i64 (H : Int)) := by
            rw [Boxed.cell (show Boxed (wr.setCell ⟨wo.heap.size, x, none⟩ (.int .i64 ((q : Int) % (H : Int)))) Bh 3 (.int .i64 (H : Int)) from (hg.block Bh (by have := HB.out.2.2.lt; have := HS.out.2.1; omega) (fun e => by have h1 := HB.out.2.2.lt; have e2 : Bh = wo.heap.size := Option.some.inj e; omega)).trans ((HS.out.1.block Bh HB.out.2.2.lt (fun z => z)).trans HB.out.2.2))]
          have HS2 := Aside0.mk (And.intro hs' hg)
          clear hs' hg
          have x0 : ((0 : Int) ≤ (x : Int)) = True := eq_true (by omega)
          have x1 : ((x : Int) < (D : Int)) = True := eq_true (by omega)
          have x2 : (x < D) = True := eq_true (by omega)
          have h0 : (H = 0) = False := eq_false (by omega)
          have hm0 : Int.tmod (q : Int) (H : Int) = ((q % H : Nat) : Int) := by rw [Int.tmod_eq_emod_of_nonneg (by omega)]; rfl
          have hd0 : Int.tdiv (q : Int) (H : Int) = ((q / H : Nat) : Int) := by rw [Int.tdiv_eq_ediv_of_nonneg (by omega)]; rfl
          clear hx hx2
          gi_wp2
          have hwq : wrap64 ((q : Int) / (H : Int)) = ((q / H : Nat) : Int) := by rw [show (q : Int) / (H : Int) = ((q / H : Nat) : Int) from rfl]; have h1 := Nat.div_le_self q H; have h2 := Nat.div_le_self k (H ^ j); rw [HQ.out] at h2; generalize q / H = y at h1 ⊢; exact X.hwrId (by omega) (by omega)
          have hqn : q / H = k / H ^ (j + 1) := by rw [← HQ.out, Nat.div_div_eq_div_mul, Nat.pow_succ]
          have hwx : wrap64 ((x : Int) - 1) = (D : Int) - 1 - ((j + 1 : Nat) : Int) := by rw [X.hwrId (by omega) (by have := HX.out; omega)]; have := HX.out; omega
          refine ⟨⟨j + 1, by rw [hwq, hqn], by rw [hwx], ⟨by omega⟩, ⟨?_, ?_, ?_⟩⟩, by rw [hwx]; simp only [intOf]; have := HX.out; omega⟩
          · have hg := HS2.out.2
            exact ⟨hg.os.trans HS.out.1.os, hg.tape.trans HS.out.1.tape, hg.output.trans HS.out.1.output, Nat.le_trans HS.out.1.size hg.size, fun b hb _ => (hg.block b (by have := HS.out.2.1; omega) (fun e => by have e2 : b = wo.heap.size := Option.some.inj e; omega)).trans (HS.out.1.block b hb (fun z => z))⟩
          · have := HS.out.2.1
            simpa using this
          · have h1 := HS2.out.1
            have h2 := half_next (H := H) (k := k) hj HX.out
            rw [HQ.out] at h2
            rw [← h2]
            exact h1
        · have hjD : j = D := by have := Hj.out; omega
          subst hjD
          rw [show (j : Int) - 1 - (j : Int) = -1 by omega]
          have hrow := HS.out.2.2
          rw [half_all] at hrow
          have hJ1 := HJ.out k (fun _ => False) wo wr (fun b => b = wo.heap.size) HJ1.out HS.out.1 (fun b hb => .inr (by have := HS.out.2.1; omega))
          have hgt : (allOf (H : Int) (j : Int))[k]? = some (digs H j k) := by
            have := allOf_get (h := (H : Int)) (d := (j : Int)) (k := k) (by rw [HN.out]; exact HLT.out)
            simpa using this
          obtain ⟨fn, tmps, assign, body, hy, hYR⟩ := HY.out k (digs H j k) (fun _ => False) (fun b => b = wo.heap.size) _ wr hgt hJ1 (fun b hb => hb.elim) (fun b hb => by have h1 := HS.out.2.1; rcases hb with z | z; omega; have := HR.out b z; omega) (hrow.mono (fun b _ hb => ⟨hb, fun z => z, fun z => by have := HR.out b z; omega⟩))
          clear hrow hJ1 hgt hj
          gi_wp2
          refine hYR.mono ?_
          have kb : Aside0 (∀ (b : Nat) (u : Value), Rd b → Boxed wo b 3 u → Boxed wr b 3 u) := ⟨fun b u hb h => (HS.out.1.block b h.lt (fun z => z)).trans h⟩
          rintro r W3 (⟨rfl, hJ4, hk4⟩ | ⟨rfl, hJx4, _⟩)
          · have HJ4 := Aside0.mk hJ4
            have HK4 := Aside0.mk hk4
            have kb4 : Aside0 (∀ (b : Nat) (u : Value), Rd b → Boxed wo b 3 u → Boxed W3 b 3 u) := ⟨fun b u hb h => (hk4.2 b (.inr hb) (kb.out b u hb h).lt).trans (kb.out b u hb h)⟩
            have wk : wrap64 ((k : Int) + 1) = ((k + 1 : Nat) : Int) := w1 k (by omega)
            have WK := Aside0.mk wk
            clear hJ4 hk4 wk
            gi_wp2
            go_roundw
            case rel => exact ⟨k + 1, by have := HLT.out; omega, by first | rfl | rw [WK.out], HJ4, ⟨kb4.out _ _ ra HB.out.1, kb4.out _ _ rd HB.out.2.1, kb4.out _ _ rh HB.out.2.2⟩, ⟨fun b hb => by have h1 := HR.out b hb; have h2 := HK4.out.1; have h3 := HS.out.2.1; omega⟩⟩
            case measure => first | rw [WK.out] | skip
                            simp only [intOf]; have := HLT.out; omega
          · gi_wp2
            go_end0
            exact ⟨⟨_, rfl⟩, .inr ⟨k + 1, _, by have := HLT.out; omega, hJx4⟩⟩
    · obtain rfl : k = N := by omega
      gi_wp2
      go_end0
      exact ⟨⟨_, rfl⟩, .inl ⟨_, HJ1.out⟩⟩
end Go.Proofs.Ytfcjfjmjcmanaaa.V
set_option linter.unusedVariables false
namespace Go.Proofs.Ytfcjfjmjcmanaaa.V
open Go Go.RowKit Go.Proofs.Ytfcjfjmjcmanaaa.O Go.Proofs.Ytfcjfjmjcmanaaa.B Go.Proofs.YtfcjfjmjcmanaaaW.PrintWords Go.Proofs.YtfcjfjmjcmanaaaW.PrintLast Go.Proofs.YtfcjfjmjcmanaaaW.PrintMore
/-- A row of numbers of one's own, from its start. -/
def RI (W : World) (T : Nat → Prop) (v : Value) (L : List Int) : Prop := W.ownsRow 0 3 1 v L.length (L.map (Value.int .i64)) ∧ ∀ j, v.ownBlock = some j → T j
variable {W W' : World} {T T' Tv : Nat → Prop} {v m : Value} {L Lv : List Int}
theorem RI.nil (W : World) (T : Nat → Prop) : RI W T (.slice none 0 0) [] := ⟨World.ownsRow_nil _ _ _ _, fun j hj => by simp [Value.ownBlock] at hj⟩
theorem RI.slB (h : RI W T v L) : SlB W T v L := SlB.of_row0 h.1 h.2
theorem RI.kept (h : RI W T v L) (hk : ∀ j, v.ownBlock = some j → W'.heap[j]? = W.heap[j]?) : RI W' T v L := by
  obtain ⟨⟨h1, h2⟩, h3⟩ := h
  refine ⟨⟨h1, ?_⟩, h3⟩
  rcases h2 with h2 | ⟨g, cap, cur, rfl, hb, hg, r⟩
  · exact .inl h2
  · exact .inr ⟨g, cap, cur, rfl, hb, (hk g rfl).trans hg, r⟩
theorem RI.mono (h : RI W T v L) (hT : ∀ j, v.ownBlock = some j → T j → T' j) : RI W T' v L := ⟨h.1, fun j hj => hT j hj (h.2 j hj)⟩
theorem RI.lt (h : RI W T v L) {j : Nat} (hj : v.ownBlock = some j) : T j ∧ j < W.heap.size := ⟨h.2 j hj, (h.1.lt j hj).2⟩
theorem RI.cat (h : RI W T m L) (hv : SlB W Tv v Lv) (hl : L.length + Lv.length ≤ 4398046511104) (ty : TypeId) :
    ∃ m' W', (Builtin.append_ #[26, 26] ty #[m, v]).run Try.prog W = .ok m' W' ∧ RI W' (fun j => T j ∨ j = W.heap.size) m' (L ++ Lv) ∧ W.grownBy W' m.ownBlock ∧ (m'.ownBlock = m.ownBlock ∨ m'.ownBlock = some W.heap.size) := by
  obtain ⟨i0, hi0, hz0, hz1, hz2⟩ := info_parts info3'
  have hml : (4398046511104 : Nat) ≤ maxLen := by unfold maxLen; omega
  rcases hv with ⟨rfl, rfl⟩ | ⟨j, off, cap, cur, rfl, h1, h3, h4, h5, h6, h7⟩
  · have hsl : ∃ A c, m = .slice A L.length c ∧ L.length ≤ c := by
      rcases h.1.2 with ⟨rfl, h0⟩ | ⟨g, c, cur, rfl, _, _, hc, _⟩
      · exact ⟨none, 0, by rw [h0], by omega⟩
      · exact ⟨_, c, rfl, hc⟩
    obtain ⟨A, c, rfl, hc⟩ := hsl
    have hr := run_append_nothing (P := Try.prog) W 26 26 ty 3 i0 Try.underlying26 hi0 A L.length c hc (.slice none 0 0) (Src.ofNil W Try.underlying26 0)
    exact ⟨_, _, hr, by rw [List.append_nil]; exact h.mono (fun j _ => .inl), ⟨rfl, rfl, rfl, Nat.le_refl _, fun _ _ _ => rfl⟩, .inl rfl⟩
  · have hc : ∀ k u, (Lv.map (Value.int .i64))[k]? = some u → W.cell? ((⟨j, off, none⟩ : Addr).add k) = some u := fun k u hk => by
      rw [List.getElem?_map] at hk
      obtain ⟨y, hy, rfl⟩ := Option.map_eq_some_iff.1 hk
      rw [Addr.add_lit, cell_of_row W j _ cur 3 (0, 0) h6]
      exact h7 k y hy
    obtain ⟨u, W', hr, ho, hgr, _, hat⟩ := run_append_own_at (P := Try.prog) W 0 26 ty 3 i0 (.int .i64 0) 1 8 Try.underlying26 hi0 hz0 hz1 hz2 rfl (by omega) m L.length (L.map (.int .i64)) h.1 ⟨j, off, none⟩ Lv.length cap (Lv.map (Value.int .i64)) (by simp) hc (by intro u hu; obtain ⟨y, _, rfl⟩ := List.mem_map.1 hu; rfl) (by omega) (by omega) (Nat.zero_le _)
    refine ⟨u, W', hr, ⟨by simpa using ho, fun k hk => ?_⟩, hgr, hat⟩
    rcases hat with e | e
    · rw [e] at hk; exact .inl (h.2 k hk)
    · rw [e] at hk; cases hk; exact .inr rfl
variable {ops : Array Oper} {rest : List Oper} {o : Oper} {a : Act} {Q : Exit → Act → World → Prop}
theorem wpList_cat (hgd : o.guard = none) (s x : Operand) (ho : o.op = .call { callee := .builtin .append, args := #[s, x], argTypes := #[26, 26] }) (h : RI W T m L) (hv : SlB W Tv v Lv) (hl : L.length + Lv.length ≤ 4398046511104) (hs : a.eval s = m) (hx : a.eval x = v)
    (hK : ∀ m' W', RI W' (fun j => T j ∨ j = W.heap.size) m' (L ++ Lv) → W.grownBy W' m.ownBlock → (m'.ownBlock = m.ownBlock ∨ m'.ownBlock = some W.heap.size) → wpList Try.prog ops Q rest (a.put o.dst m') W') : wpList Try.prog ops Q (o :: rest) a W := by
  refine wpList_plain hgd fun K hK' => ?_
  obtain ⟨m', W', hr, h1, h2, h3⟩ := h.cat hv hl o.type
  unfold Oper.wp execOp
  simp only [ho, resolve, invoke, builtin, Sem.run_bind, Sem.run_pure, Result.andThen_ok, List.map_toArray, List.map_cons, List.map_nil, hs, hx, hr]
  exact hK' _ _ (hK m' W' h1 h2 h3)
/-! ### the list behind one -/
theorem digs_zeros (h d j m : Nat) (hh : 0 < h) : digs h (d + j) (m * h ^ j) = digs h d m ++ List.replicate j 0 := by
  induction j with
  | zero => simp
  | succ j ih =>
    show digs h (d + j) (m * h ^ (j + 1) / h) ++ [((m * h ^ (j + 1) % h : Nat) : Int)] = _
    rw [Nat.pow_succ, ← Nat.mul_assoc, Nat.mul_div_cancel _ hh, Nat.mul_mod_left, ih, List.append_assoc, List.replicate_succ']
    rfl
/-- Behind j digits that came round. -/
structure Rd28 (H D k j m : Nat) : Prop where
  hj : j ≤ D
  eq : k + 1 = (m + 1) * H ^ j
theorem Rd28.next {H D k j m : Nat} (h : Rd28 H D k j m) (hj : j < D) (hH : 1 ≤ H) (e : ¬ m % H + 1 < H) : Rd28 H D k (j + 1) (m / H) := by
  refine ⟨hj, ?_⟩
  have h1 := Nat.mod_lt m (show 0 < H by omega)
  have h2 := Nat.div_add_mod m H
  have h3 : m + 1 = (m / H + 1) * H := by rw [Nat.add_mul, Nat.one_mul, Nat.mul_comm]; omega
  rw [h.eq, h3, Nat.pow_succ, Nat.mul_assoc, Nat.mul_comm H]
theorem Rd28.found {H D k j m : Nat} (h : Rd28 H D k j m) (hj : j < D) (hH : 1 ≤ H) (hk : k < H ^ D) (e : m % H + 1 < H) : k + 1 < H ^ D ∧ digs H (D - j) (m + 1) ++ List.replicate j 0 = digs H D (k + 1) ∧ digs H (D - j) m = digs H (D - j - 1) (m / H) ++ [((m % H : Nat) : Int)] ∧ digs H (D - j) (m + 1) = digs H (D - j - 1) (m / H) ++ [((m % H : Nat) : Int) + 1] := by
  obtain ⟨t, ht⟩ : ∃ t, D - j = t + 1 := ⟨D - j - 1, by omega⟩
  have h2 := Nat.div_add_mod m H
  have hd : (m + 1) / H = m / H := by
    rw [Nat.div_eq_of_lt_le (k := m / H)]
    · rw [Nat.mul_comm]; omega
    · rw [Nat.add_mul, Nat.one_mul, Nat.mul_comm]; omega
  have hm : (m + 1) % H = m % H + 1 := by
    have h3 := Nat.div_add_mod (m + 1) H
    rw [hd] at h3
    omega
  have hD : D = t + 1 + j := by omega
  refine ⟨?_, ?_, ?_, ?_⟩
  · have hp : H ^ D = H ^ (t + 1) * H ^ j := by rw [hD, Nat.pow_add]
    have hpj : 0 < H ^ j := Nat.pow_pos (by omega)
    have h4 : (m + 1) * H ^ j ≤ H ^ (t + 1) * H ^ j := by rw [← h.eq, ← hp]; omega
    have h5 : m + 1 ≤ H ^ (t + 1) := Nat.le_of_mul_le_mul_right h4 hpj
    have h6 : m + 1 ≠ H ^ (t + 1) := fun z => by
      have h7 : (m + 1) % H = 0 := by rw [z, Nat.pow_succ]; exact Nat.mul_mod_left _ _
      omega
    rw [h.eq, hp]
    exact Nat.mul_lt_mul_of_pos_right (by omega) hpj
  · rw [h.eq, ← digs_zeros _ _ _ _ (by omega), show D - j + j = D by omega]
  · rw [ht]; rfl
  · rw [ht]
    show digs H t ((m + 1) / H) ++ [(((m + 1) % H : Nat) : Int)] = _
    rw [hd, hm]; rfl
theorem Rd28.last {H D k m : Nat} (h : Rd28 H D k D m) : ¬ k + 1 < H ^ D := by
  have h1 := h.eq
  have h2 : 1 * H ^ D ≤ (m + 1) * H ^ D := Nat.mul_le_mul_right _ (by omega)
  omega
end Go.Proofs.Ytfcjfjmjcmanaaa.V
set_option linter.unusedVariables false
namespace Go.Proofs.Ytfcjfjmjcmanaaa.V
open Go Go.RowKit Go.Proofs.Ytfcjfjmjcmanaaa.O Go.Proofs.Ytfcjfjmjcmanaaa.B Go.Proofs.YtfcjfjmjcmanaaaW.PrintWords Go.Proofs.YtfcjfjmjcmanaaaW.PrintLast Go.Proofs.YtfcjfjmjcmanaaaW.PrintMore
variable {W : World} {T : Nat → Prop} {v : Value}
theorem half28_set {H D j m x : Nat} {y : Int} (hx : x + 1 + j = D) {A : List Int} {d : Int} (e : digs H (D - j) m = A ++ [d]) : (digs H (D - j) m ++ List.replicate j 0).set x y = A ++ y :: List.replicate j 0 := by
  have hA : A.length = x := by
    have := congrArg List.length e
    rw [digs_len] at this
    simp at this; omega
  rw [e, List.append_assoc, List.set_append_right _ _ (by omega), hA]
  simp
theorem half28_rd {H D j m x : Nat} (hx : x + 1 + j = D) : rd (digs H (D - j) m ++ List.replicate j 0) (x : Int) = ((m % H : Nat) : Int) := by
  have hl : x < (digs H (D - j) m ++ List.replicate j 0).length := by simp [digs_len]; omega
  rw [rd_nat _ _ hl]
  obtain ⟨t, ht⟩ : ∃ t, D - j = t + 1 := ⟨D - j - 1, by omega⟩
  have hx2 : x = t := by omega
  subst hx2
  rw [List.getElem_append_left (by rw [digs_len]; omega)]
  simp only [ht]
  have h2 : x < (digs H x (m / H) ++ [((m % H : Nat) : Int)]).length := by simp [digs_len]
  show (digs H x (m / H) ++ [((m % H : Nat) : Int)])[x]'h2 = _
  rw [List.getElem_append_right (by rw [digs_len]; exact Nat.le_refl _)]
  simp [digs_len]
theorem digs_lt (H D n : Nat) (hH : 0 < H) : ∀ x ∈ digs H D n, 0 ≤ x ∧ x < (H : Int) := by
  induction D generalizing n with
  | zero => intro x hx; cases hx
  | succ D ih =>
    intro x hx
    rcases List.mem_append.1 hx with h | h
    · exact ih _ x h
    · simp at h
      subst h
      have := Nat.mod_lt n hH
      omega
def nextOf (H D k : Nat) : Bool × List Int := if k + 1 < H ^ D then (true, digs H D (k + 1)) else (false, [])
theorem nextOf_pos {H D k : Nat} (h : k + 1 < H ^ D) : nextOf H D k = (true, digs H D (k + 1)) := if_pos h
theorem nextOf_neg {H D k : Nat} (h : ¬ k + 1 < H ^ D) : nextOf H D k = (false, []) := if_neg h
set_option maxRecDepth 100000
set_option maxHeartbeats 4000000
theorem next_calls (H D k : Nat) (hH : 1 ≤ H ∧ H ≤ 16) (hD : D ≤ 24) (hk : k < H ^ D) (hv : SlB W T v (digs H D k)) : Calls Try.prog 28 #[v, .int .i64 (H : Int)] W fun e W' =>
    ∃ v', e = .returned (.tuple #[v', .bool (nextOf H D k).1]) ∧ SlB W' (fun j => W.heap.size ≤ j) v' (nextOf H D k).2 ∧ Below W.heap.size W W' := by
  obtain ⟨A, c, eV⟩ := hv.slice
  rw [digs_len] at eV
  subst eV
  have HV := Aside0.mk hv
  have HK := Aside0.mk hk
  have wd : wrap64 ((D : Int) - 1) = (D : Int) - 1 := X.hwrId (by omega) (by omega)
  clear hv hk
  go_enter Try.func28, Try.ntmps28
  go_wp2_with ((with_reducible refine gate_builtin (b := .append) (xs := #[.tmp 8, .tmp 9]) rfl ?_); at_builtin; refine wpList_cat rfl _ _ rfl (RI.nil W (fun _ => False)) HV.out (by rw [digs_len]; simp; omega) rfl rfl ?_; intro m1 w1 h1 h2 h3; have hs1 := (h1.slB.mono (T' := fun j => W.heap.size ≤ j) (fun j _ hj => by rcases hj with z | z; exact z.elim; omega)); have hb1 : Below W.heap.size W w1 := ⟨h2.os, h2.tape, h2.output, h2.size, fun b hb => h2.block b hb (by simp [Value.ownBlock])⟩; obtain ⟨A1, c1, e1⟩ := hs1.slice; rw [List.nil_append, digs_len] at e1; subst e1; rw [List.nil_append] at hs1; have HS0 := Aside0.mk hs1; have HB0 := Aside0.mk hb1; clear h1 h2 h3 hs1 hb1)
  go_loopw [7] (fun p wr => ∃ j m : Nat, p = .int .i64 ((D : Int) - 1 - (j : Int)) ∧ Aside0 (Rd28 H D k j m) ∧ Aside0 (SlB wr (fun q => W.heap.size ≤ q) (.slice A1 D c1) (digs H (D - j) m ++ List.replicate j 0)) ∧ Aside0 (Below W.heap.size W wr)) (fun p _ => (1 + intOf p).toNat)
  case atStart => exact ⟨0, k, by simp, ⟨⟨by omega, by simp⟩⟩, ⟨by simpa using HS0.out⟩, HB0⟩
  case round =>
    clear HS0 HB0
    obtain ⟨j, m, rfl, HR, HS, HB⟩ := hrel
    by_cases hj : j < D
    · obtain ⟨x, hx⟩ : ∃ x : Nat, D - 1 - j = x := ⟨_, rfl⟩
      have hx2 : (D : Int) - 1 - (j : Int) = (x : Int) := by omega
      rw [hx2]
      have HX := Aside0.mk (show x + 1 + j = D by omega)
      have hlen : (digs H (D - j) m ++ List.replicate j 0).length = D := by simp [digs_len]; omega
      have x0 : ((0 : Int) ≤ (x : Int)) = True := eq_true (by omega)
      have x1 : ((x : Int) < (D : Int)) = True := eq_true (by omega)
      have x2 : (x < D) = True := eq_true (by omega)
      obtain ⟨ad, rfl, hcx⟩ := HS.out.cell (x : Int) (by omega) (by rw [hlen]; omega)
      rw [Int.toNat_natCast, half28_rd HX.out] at hcx
      have hyl := Nat.mod_lt m (show 0 < H by omega)
      obtain ⟨y, hy⟩ : ∃ y, m % H = y := ⟨_, rfl⟩
      rw [hy] at hcx hyl
      have HY := Aside0.mk hy
      have HJ := Aside0.mk hj
      have HLN := Aside0.mk hlen
      have wy : wrap64 ((y : Int) + 1) = (y : Int) + 1 := X.hwrId (by omega) (by omega)
      have wx := Aside0.mk (show wrap64 ((x : Int) - 1) = (D : Int) - 1 - ((j + 1 : Nat) : Int) by rw [X.hwrId (by omega) (by omega)]; omega)
      have key : ∀ z : Int, wr.frozen? (ad.add x) = false ∧ SlB (wr.setCell (ad.add x) (.int .i64 z)) (fun q => W.heap.size ≤ q) (.slice (some ad) D c1) ((digs H (D - j) m ++ List.replicate j 0).set x z) ∧ Below W.heap.size W (wr.setCell (ad.add x) (.int .i64 z)) := fun z => by
        obtain ⟨k1, k2, k3⟩ := HS.out.set x (by rw [HLN.out]; omega) z
        exact ⟨k1, k2, HB.out.trans ((Turn.of_grown k3 (T := fun q => W.heap.size ≤ q) (fun q hq => by cases hq; exact (HS.out.own (j := ad.block) rfl).1)).below (fun b hb => hb) HB.out.size)⟩
      have KEY := Aside0.mk key
      have hf := (key 0).1
      by_cases hq : y + 1 < H
      · have f := HR.out.found hj hH.1 HK.out (by rw [HY.out]; exact hq)
        have F := Aside0.mk f
        have t1 : ((y : Int) + 1 < (H : Int)) = True := eq_true (by omega)
        have t2 : (y + 1 < H) = True := eq_true hq
        clear f key hx hx2 hy hj hlen hq
        go_wp2
        go_ret2
        refine ⟨.slice (some ad) D c1, ?_, ?_, (KEY.out _).2.2⟩
        · rw [nextOf_pos F.out.1]; rfl
        rw [nextOf_pos F.out.1]
        show SlB _ _ _ (digs H D (k + 1))
        have h1 := (KEY.out ((y : Int) + 1)).2.1
        rw [half28_set HX.out F.out.2.2.1] at h1
        rw [← F.out.2.1, F.out.2.2.2, HY.out, List.append_assoc]
        exact h1
      · have f := HR.out.next hj hH.1 (by rw [HY.out]; exact hq)
        have F := Aside0.mk f
        have t1 : ((y : Int) + 1 < (H : Int)) = False := eq_false (by omega)
        have t2 : (y + 1 < H) = False := eq_false hq
        clear f key hx hx2 hy hj hlen hq
        go_wp2
        have hdg : digs H (D - j) m = digs H (D - (j + 1)) (m / H) ++ [((m % H : Nat) : Int)] := by
          obtain ⟨t, ht⟩ : ∃ t, D - j = t + 1 := ⟨D - j - 1, by have := HJ.out; omega⟩
          rw [ht, show D - (j + 1) = t by omega]; rfl
        refine ⟨⟨j + 1, m / H, by rw [wx.out], F, ⟨?_⟩, ⟨(KEY.out 0).2.2⟩⟩, by rw [wx.out]; simp only [intOf]; have := HX.out; omega⟩
        have h1 := (KEY.out 0).2.1
        rw [half28_set HX.out hdg] at h1
        exact h1
    · have hjD : j = D := by have := HR.out.hj; omega
      subst hjD
      rw [show (j : Int) - 1 - (j : Int) = -1 by omega]
      have F := Aside0.mk HR.out.last
      clear hj
      go_wp2
      go_ret2
      refine ⟨.slice none 0 0, ?_, ?_, HB.out⟩
      · rw [nextOf_neg F.out]; rfl
      rw [nextOf_neg F.out]
      exact .inl ⟨rfl, rfl⟩
end Go.Proofs.Ytfcjfjmjcmanaaa.V
set_option linter.unusedVariables false
namespace Go.Proofs.Ytfcjfjmjcmanaaa.V
open Go Go.RowKit Go.Proofs.Ytfcjfjmjcmanaaa.PBase Go.Proofs.Ytfcjfjmjcmanaaa.O Go.Proofs.Ytfcjfjmjcmanaaa.B Go.Proofs.YtfcjfjmjcmanaaaW.PrintWords Go.Proofs.YtfcjfjmjcmanaaaW.PrintLast Go.Proofs.YtfcjfjmjcmanaaaW.PrintMore
section
variable {F : Fence} {n : Nat} {P : Program}
/-- A round's frame: what is handed over lies in the slots i and j. -/
def axOf (a : Act) (i j : Nat) (v : Value) : Act := { tmps := (a.tmps.setIfInBounds i v).setIfInBounds j v, defers := [] }
theorem wpIn_rangeFunc_V2 {g : Operand} {assign body : Code} {Q : Exit → Act → World → Prop} {a : Act} {w : World} (i j : Nat)
    (hro : F.round = none) (h1 : 1 ≤ n) {gf : Nat} {lb : Array Value} (hg : a.eval g = .func (.func gf) #[] lb) (hFg : F.fn gf) (eg : ∀ args w, (callFunc gf args).run P w = .ok (.enter gf args) w)
    {Rd T0 : Nat → Prop} {Ls : List (List Int)} {w0 : World} (hseq : SeqV F (n - 1) P gf lb Rd T0 Ls w0)
    (hT0 : ∀ b, T0 b ∨ Rd b → b < w.heap.size) (hb0 : Below w0.heap.size w0 w) (hk0 : ∀ b, T0 b ∨ Rd b → w.heap[b]? = w0.heap[b]?)
    (I : Nat → (Nat → Prop) → World → Prop) (Ix : Code → Nat → (Nat → Prop) → World → Prop) (hI : AbidesS I) (hIx : ∀ c, AbidesS (Ix c)) (h0 : I 0 T0 w)
    (hassign : ∀ (l : Nat) (v : Value) (W : World) (K : Act → World → Prop), K (axOf a i j v) W → assign.wpIn (F.inRound l) (n - 1 - 1) P (Exit.then K (fun _ _ _ => False)) { tmps := a.tmps.setIfInBounds i v, defers := [] } W)
    (hbody : ∀ (l k : Nat) (L : List Int) (T T1 : Nat → Prop) (v : Value) (W : World), Ls[k]? = some L → I k T1 W → (∀ b, T b → T1 b) → (∀ b, T1 b ∨ Rd b → b < W.heap.size) → SlB W (fun b => T1 b ∧ ¬ T b ∧ ¬ Rd b) v L → body.wpIn (F.inRound l) (n - 1 - 1) P (postV Rd T I Ix (k + 1) W) (axOf a i j v) W)
    (hdone : ∀ (D : Nat) (T : Nat → Prop) (W : World), w.heap.size ≤ D → I Ls.length T W → W.heap[D]? = some (.deferred (some [])) → T D → Q .normal { a with defers := { target := .collected D, args := #[] } :: a.defers } W)
    (hstop : ∀ (D : Nat) (c : Code) (k : Nat) (T : Nat → Prop) (W : World), w.heap.size ≤ D → k ≤ Ls.length → Ix c k T W → W.heap[D]? = some (.deferred (some [])) → T D → c.wpIn F n P Q { a with defers := { target := .collected D, args := #[] } :: a.defers } W) :
    (Code.rangeFunc g #[i] assign body).wpIn F n P Q a w :=
  wpIn_rangeFunc_V hro h1 hg hFg eg hseq hT0 hb0 hk0 rfl I Ix hI hIx h0 (axOf a i j) (fun l v W K hK => by simpa using hassign l v W K hK) hbody hdone hstop
end
variable {W W' : World} {T T' Tv : Nat → Prop} {v m : Value} {L Lv want : List Int} {base bk bm bn bw c : Nat} {more : Bool} {nv : Int}
theorem wpListIn_cat {F : Fence} {n : Nat} {ops : Array Oper} {rest : List Oper} {o : Oper} {a : Act} {Q : Exit → Act → World → Prop} (hg : o.guard = none) (s x : Operand) (hop : o.op = .call { callee := .builtin .append, args := #[s, x], argTypes := #[26, 26] }) (h : RI W T m L) (hv : SlB W Tv v Lv) (hl : L.length + Lv.length ≤ 4398046511104) (hs : a.eval s = m) (hx : a.eval x = v)
    (hK : ∀ m' W', RI W' (fun j => T j ∨ j = W.heap.size) m' (L ++ Lv) → W.grownBy W' m.ownBlock → (m'.ownBlock = m.ownBlock ∨ m'.ownBlock = some W.heap.size) → wpListIn F n Try.prog ops Q rest (a.put o.dst m') W') : wpListIn F n Try.prog ops Q (o :: rest) a W := by
  refine wpListIn_plain hg fun K hK' => ?_
  obtain ⟨m', W', hrun, h1, h2, h3⟩ := h.cat hv hl o.type
  unfold Oper.wpIn
  refine ⟨?_, ?_⟩
  · simp [Oper.about, hop, resolve, Target.leads, Sem.run_pure]
  · rw [Oper.semAt_plain F _ _ (by rw [hop]; intro c hc'; cases hc')]
    simp [execOp, hop, resolve, invoke, builtin, hs, hx, hrun, Result.andThen]
    exact hK' _ _ (hK m' W' h1 h2 h3)
/-- The same lists: the same. -/
theorem same_calls {T' : Nat → Prop} {u : Value} (hu : SlB W T u L) (hv : SlB W T' v L) (hl : L.length ≤ 70000) : Calls Try.prog 24 #[u, v] W fun e W' => e = .returned (.bool true) ∧ Drawn0 W W' := by
  obtain ⟨A, c, rfl, h1, h2, hC⟩ := hu.C
  obtain ⟨A', c', rfl, h1', h2', hC'⟩ := hv.C
  refine (larderlaw07_same.calls (L.length + 2) A c L A' c' L true W hC h1 hC' h1' (X.hsame_self L hl)).mono ?_
  rintro e w' ⟨rfl, h⟩
  exact ⟨rfl, h⟩
structure Dst (bk bm bn bw : Nat) : Prop where
  km : bk ≠ bm
  kn : bk ≠ bn
  kw : bk ≠ bw
  mn : bm ≠ bn
  mw : bm ≠ bw
  nw : bn ≠ bw
/-- What is held: base: all of it lies at or behind; T: none of it lies there; c lists in the books. -/
def St (base bk bm bn bw : Nat) (T : Nat → Prop) (W : World) (c : Nat) (more : Bool) (nv : Int) (want : List Int) : Prop :=
  ∃ U4 U5 Tw v4 v5 vs us Ls wv, BkAt W U4 U5 bk v4 v5 vs us Ls ∧ vs.length = c ∧ Boxed W bm 4 (.bool more) ∧ Boxed W bn 3 (.int .i64 nv) ∧ Boxed W bw 26 wv ∧ SlB W Tw wv want ∧
    (∀ b, Tw b → ¬ U4 b ∧ ¬ U5 b) ∧ (∀ b, U4 b ∨ U5 b ∨ Tw b → base ≤ b ∧ b < W.heap.size ∧ ¬ T b ∧ b ≠ bk ∧ b ≠ bm ∧ b ≠ bn ∧ b ≠ bw) ∧ (∀ b, (b = bk ∨ b = bm ∨ b = bn ∨ b = bw) → base ≤ b ∧ b < W.heap.size ∧ ¬ T b)
theorem St.boxes (h : St base bk bm bn bw T W c more nv want) : ∃ wv Tw, Boxed W bm 4 (.bool more) ∧ Boxed W bn 3 (.int .i64 nv) ∧ Boxed W bw 26 wv ∧ SlB W Tw wv want := by
  obtain ⟨U4, U5, Tw, v4, v5, vs, us, Ls, wv, h1, h2, h3, h4, h5, h6, h7, h8, h9⟩ := h
  exact ⟨wv, Tw, h3, h4, h5, h6⟩
theorem St.turn (h : St base bk bm bn bw T W c more nv want) (ht : Turn (fun b => T b ∨ b < base) W W') (hT : ∀ b, T' b → T b ∨ (W.heap.size ≤ b)) : St base bk bm bn bw T' W' c more nv want := by
  obtain ⟨U4, U5, Tw, v4, v5, vs, us, Ls, wv, h1, h2, h3, h4, h5, h6, h7, h8, h9⟩ := h
  have keep : ∀ b, base ≤ b → b < W.heap.size → ¬ T b → W'.heap[b]? = W.heap[b]? := fun b hb hl hn => ht.block b hl (fun z => z.elim hn (fun y => by omega))
  have kU : ∀ b, U4 b ∨ U5 b ∨ Tw b → W'.heap[b]? = W.heap[b]? := fun b hb => have h := h8 b hb; keep b h.1 h.2.1 h.2.2.1
  have kB : ∀ b, (b = bk ∨ b = bm ∨ b = bn ∨ b = bw) → W'.heap[b]? = W.heap[b]? := fun b hb => have h := h9 b hb; keep b h.1 h.2.1 h.2.2
  have hsz := ht.size
  refine ⟨U4, U5, Tw, v4, v5, vs, us, Ls, wv, h1.kept (fun i hi _ => ?_) hsz, h2, (kB bm (by simp)).trans h3, (kB bn (by simp)).trans h4, (kB bw (by simp)).trans h5, h6.kept (fun j hj => kU j (.inr (.inr (h6.own hj).1))), h7, fun b hb => ?_, fun b hb => ?_⟩
  · rcases hi with hi | hi | hi
    · exact kU i (.inl hi)
    · exact kU i (.inr (.inl hi))
    · exact kB i (.inl hi)
  · have h := h8 b hb
    exact ⟨h.1, by omega, fun z => (hT b z).elim h.2.2.1 (fun y => by omega), h.2.2.2⟩
  · have h := h9 b hb
    exact ⟨h.1, by omega, fun z => (hT b z).elim h.2.2 (fun y => by omega)⟩
theorem St.less (h : St base bk bm bn bw T W c more nv want) (hT : ∀ b, T' b → T b) : St base bk bm bn bw T' W c more nv want :=
  h.turn (Turn.refl _ _) (fun b hb => .inl (hT b hb))
theorem St.drawn (h : St base bk bm bn bw T W c more nv want) (hd : Drawn0 W W') : St base bk bm bn bw T W' c more nv want := by
  obtain ⟨k, rfl⟩ := hd
  exact h.turn ((Turn.refl _ _).drewN k) (fun b hb => .inl hb)
/-- What a step of the law may turn. -/
abbrev Mine (base : Nat) (T : Nat → Prop) : Nat → Prop := fun b => base ≤ b ∧ ¬ T b
theorem St.setM (h : St base bk bm bn bw T W c more nv want) (hd : Dst bk bm bn bw) (x : Bool) : W.frozen? ⟨bm, 0, none⟩ = false ∧ W.cell? ⟨bm, 0, none⟩ = some (.bool more) ∧ St base bk bm bn bw T (W.setCell ⟨bm, 0, none⟩ (.bool x)) c x nv want ∧ Turn (Mine base T) W (W.setCell ⟨bm, 0, none⟩ (.bool x)) := by
  obtain ⟨U4, U5, Tw, v4, v5, vs, us, Ls, wv, h1, h2, h3, h4, h5, h6, h7, h8, h9⟩ := h
  have kp : ∀ b, b ≠ bm → (W.setCell ⟨bm, 0, none⟩ (.bool x)).heap[b]? = W.heap[b]? := fun b hb => Below.heap_setCell W _ _ b hb
  refine ⟨h3.frozen, h3.cell, ⟨U4, U5, Tw, v4, v5, vs, us, Ls, wv, h1.kept (fun i hi _ => kp i ?_) (by simp), h2, h3.set _, (kp bn hd.mn.symm).trans h4, (kp bw hd.mw.symm).trans h5, h6.kept (fun j hj => kp j ?_), h7, fun b hb => by simpa using h8 b hb, fun b hb => by simpa using h9 b hb⟩, Turn.setCell W _ _ (by have := h9 bm (by simp); exact ⟨this.1, this.2.2⟩)⟩
  · rcases hi with hi | hi | hi
    · exact (h8 i (.inl hi)).2.2.2.2.1
    · exact (h8 i (.inr (.inl hi))).2.2.2.2.1
    · rw [hi]; exact hd.km
  · exact (h8 j (.inr (.inr (h6.own hj).1))).2.2.2.2.1
theorem St.setN (h : St base bk bm bn bw T W c more nv want) (hd : Dst bk bm bn bw) (x : Int) : W.frozen? ⟨bn, 0, none⟩ = false ∧ W.cell? ⟨bn, 0, none⟩ = some (.int .i64 nv) ∧ St base bk bm bn bw T (W.setCell ⟨bn, 0, none⟩ (.int .i64 x)) c more x want ∧ Turn (Mine base T) W (W.setCell ⟨bn, 0, none⟩ (.int .i64 x)) := by
  obtain ⟨U4, U5, Tw, v4, v5, vs, us, Ls, wv, h1, h2, h3, h4, h5, h6, h7, h8, h9⟩ := h
  have kp : ∀ b, b ≠ bn → (W.setCell ⟨bn, 0, none⟩ (.int .i64 x)).heap[b]? = W.heap[b]? := fun b hb => Below.heap_setCell W _ _ b hb
  refine ⟨h4.frozen, h4.cell, ⟨U4, U5, Tw, v4, v5, vs, us, Ls, wv, h1.kept (fun i hi _ => kp i ?_) (by simp), h2, (kp bm hd.mn).trans h3, h4.set _, (kp bw hd.nw.symm).trans h5, h6.kept (fun j hj => kp j ?_), h7, fun b hb => by simpa using h8 b hb, fun b hb => by simpa using h9 b hb⟩, Turn.setCell W _ _ (by have := h9 bn (by simp); exact ⟨this.1, this.2.2⟩)⟩
  · rcases hi with hi | hi | hi
    · exact (h8 i (.inl hi)).2.2.2.2.2.1
    · exact (h8 i (.inr (.inl hi))).2.2.2.2.2.1
    · rw [hi]; exact hd.kn
  · exact (h8 j (.inr (.inr (h6.own hj).1))).2.2.2.2.2.1
/-- Another list is wanted: it lies in a row that is new. -/
theorem St.next (h : St base bk bm bn bw T W c more nv want) (hd : Dst bk bm bn bw) (hlt : ∀ b, T b → b < W.heap.size) (hbs : base ≤ W.heap.size) (hb : Below W.heap.size W W') {u : Value} (hu : SlB W' (fun j => W.heap.size ≤ j) u L) : W'.frozen? ⟨bw, 0, none⟩ = false ∧ (∃ wv, W'.cell? ⟨bw, 0, none⟩ = some wv) ∧ St base bk bm bn bw T (W'.setCell ⟨bw, 0, none⟩ u) c more nv L ∧ Turn (Mine base T) W (W'.setCell ⟨bw, 0, none⟩ u) := by
  have hsz := hb.size
  obtain ⟨U4, U5, Tw, v4, v5, vs, us, Ls, wv, h1, h2, h3, h4, h5, h6, h7, h8, h9⟩ := h
  have h5' : Boxed W' bw 26 wv := (hb.block bw h5.lt).trans h5
  have kp : ∀ b, b ≠ bw → b < W.heap.size → (W'.setCell ⟨bw, 0, none⟩ u).heap[b]? = W.heap[b]? := fun b hn hl => (Below.heap_setCell W' _ _ b hn).trans (hb.block b hl)
  have hsz' : W.heap.size ≤ (W'.setCell ⟨bw, 0, none⟩ u).heap.size := by simpa using hsz
  have l9 := h9 bw (by simp)
  refine ⟨h5'.frozen, ⟨_, h5'.cell⟩, ⟨U4, U5, fun b => u.ownBlock = some b, v4, v5, vs, us, Ls, u, h1.kept (fun i hi hl => kp i ?_ hl) hsz', h2, (kp bm hd.mw h3.lt).trans h3, (kp bn hd.nw h4.lt).trans h4, h5'.set _, (hu.mono (fun j hj _ => hj)).kept (fun j hj => Below.heap_setCell W' _ _ j (fun e => by have := (hu.own hj).1; have e2 : j = bw := e; omega)), fun b hb => ⟨fun z => ?_, fun z => ?_⟩, fun b hb => ?_, fun b hb => ?_⟩, ?_⟩
  · rcases hi with hi | hi | hi
    · exact (h8 i (.inl hi)).2.2.2.2.2.2
    · exact (h8 i (.inr (.inl hi))).2.2.2.2.2.2
    · rw [hi]; exact hd.kw
  · have := (hu.own hb).1; have := (h8 b (.inl z)).2.1; omega
  · have := (hu.own hb).1; have := (h8 b (.inr (.inl z))).2.1; omega
  · rcases hb with hb | hb | hb
    · have := h8 b (.inl hb); exact ⟨this.1, by omega, this.2.2⟩
    · have := h8 b (.inr (.inl hb)); exact ⟨this.1, by omega, this.2.2⟩
    · have h := hu.own hb
      have m1 := h3.lt
      have m2 := h4.lt
      have m3 := (Array.getElem?_eq_some_iff.1 h1.hb).1
      exact ⟨by omega, by simpa using h.2, fun z => by have := hlt b z; omega, by omega, by omega, by omega, by omega⟩
  · have := h9 b hb; exact ⟨this.1, by omega, this.2.2⟩
  · exact (Turn.of_below hb).trans (Turn.setCell (T := Mine base T) W' ⟨bw, 0, none⟩ u ⟨l9.1, l9.2.2⟩) (fun b hb => .inl hb)
/-- A list that was handed over goes into the books. -/
theorem St.ints {T1 Rd : Nat → Prop} (h : St base bk bm bn bw T1 W c more nv want) (hd : Dst bk bm bn bw) (hbs : base ≤ W.heap.size) (hTT : ∀ b, T b → T1 b) (h1b : ∀ b, T1 b → base ≤ b ∧ b < W.heap.size) (hv : SlB W (fun b => T1 b ∧ ¬ T b ∧ ¬ Rd b) v L) (hL : L.length + 10 ≤ 4398046511104) (hc : c + 11 ≤ 4398046511104) :
    Calls Try.prog 27 #[.pointer (some ⟨bk, 0, none⟩), v] W fun e W' => (∃ r, e = .returned r) ∧ St base bk bm bn bw T W' (c + 1) more nv want ∧ Turn (Mine base T) W W' := by
  obtain ⟨U4, U5, Tw, v4, v5, vs, us, Ls, wv, h1, h2, h3, h4, h5, h6, h7, h8, h9⟩ := h
  have hown : ∀ b, v.ownBlock = some b → T1 b ∧ ¬ T b := fun b hb => ⟨(hv.own hb).1.1, (hv.own hb).1.2.1⟩
  refine (ints_calls h1 hv (fun b hb => ⟨fun z => (h8 b (.inl z)).2.2.1 (hown b hb).1, fun z => (h8 b (.inr (.inl z))).2.2.1 (hown b hb).1, fun z => (h9 b (.inl z)).2.2 (hown b hb).1⟩) hL (by omega)).mono ?_
  rintro e W' ⟨hr, U4', U5', v4', v5', u, k1, k2, k3⟩
  have hsz := k2.size
  have lk := (h9 bk (by simp))
  have kp : ∀ b, b < W.heap.size → ¬ U4 b → ¬ U5 b → b ≠ bk → W'.heap[b]? = W.heap[b]? := fun b hl n4 n5 nk => k2.block b hl (fun z => by rcases z with z | z | z; exact n4 z; exact n5 z; exact nk z)
  have kpb : ∀ b, (b = bm ∨ b = bn ∨ b = bw) → W'.heap[b]? = W.heap[b]? := fun b hb => by
    have q := h9 b (by rcases hb with z | z | z <;> simp [z])
    refine kp b q.2.1 (fun z => ?_) (fun z => ?_) ?_
    · have := (h8 b (.inl z)).2.2.2
      rcases hb with y | y | y
      · exact this.2.1 y
      · exact this.2.2.1 y
      · exact this.2.2.2 y
    · have := (h8 b (.inr (.inl z))).2.2.2
      rcases hb with y | y | y
      · exact this.2.1 y
      · exact this.2.2.1 y
      · exact this.2.2.2 y
    · rcases hb with y | y | y
      · rw [y]; exact hd.km.symm
      · rw [y]; exact hd.kn.symm
      · rw [y]; exact hd.kw.symm
  -- where the books' blocks lie now
  have new : ∀ b, U4' b ∨ U5' b → base ≤ b ∧ b < W'.heap.size ∧ ¬ T b ∧ b ≠ bk ∧ b ≠ bm ∧ b ≠ bn ∧ b ≠ bw := fun b hb => by
    have hl := k1.lt b hb
    rcases k3 b hb with z | z | z | z
    · have q := h8 b (.inl z); exact ⟨q.1, hl, fun y => q.2.2.1 (hTT b y), q.2.2.2⟩
    · have q := h8 b (.inr (.inl z)); exact ⟨q.1, hl, fun y => q.2.2.1 (hTT b y), q.2.2.2⟩
    · have q := hown b z
      exact ⟨(h1b b q.1).1, hl, q.2, fun e => (h9 b (by simp [e])).2.2 q.1, fun e => (h9 b (by simp [e])).2.2 q.1, fun e => (h9 b (by simp [e])).2.2 q.1, fun e => (h9 b (by simp [e])).2.2 q.1⟩
    · have m1 := h3.lt
      have m2 := h4.lt
      have m3 := h5.lt
      have m4 := lk.2.1
      exact ⟨by omega, hl, fun y => by have := (h1b b (hTT b y)).2; omega, by omega, by omega, by omega, by omega⟩
  have kw : ∀ j, wv.ownBlock = some j → W'.heap[j]? = W.heap[j]? := fun j hj => by
    have q := h6.own hj
    exact kp j q.2 (h7 j q.1).1 (h7 j q.1).2 (h8 j (.inr (.inr q.1))).2.2.2.1
  refine ⟨hr, ⟨U4', U5', fun b => Tw b ∧ wv.ownBlock = some b, v4', v5', _, _, _, wv, k1, by simp [h2], (kpb bm (by simp)).trans h3, (kpb bn (by simp)).trans h4, (kpb bw (by simp)).trans h5, (h6.mono (fun j hj hT => ⟨hT, hj⟩)).kept kw, fun b hb => ⟨fun z => ?_, fun z => ?_⟩, fun b hb => ?_, fun b hb => ?_⟩, ?_⟩
  · have q := h6.own hb.2
    rcases k3 b (.inl z) with y | y | y | y
    · exact (h7 b q.1).1 y
    · exact (h7 b q.1).2 y
    · exact (h8 b (.inr (.inr q.1))).2.2.1 (hown b y).1
    · omega
  · have q := h6.own hb.2
    rcases k3 b (.inr z) with y | y | y | y
    · exact (h7 b q.1).1 y
    · exact (h7 b q.1).2 y
    · exact (h8 b (.inr (.inr q.1))).2.2.1 (hown b y).1
    · omega
  · rcases hb with hb | hb | hb
    · exact new b (.inl hb)
    · exact new b (.inr hb)
    · have q := h8 b (.inr (.inr hb.1))
      exact ⟨q.1, by omega, fun y => q.2.2.1 (hTT b y), q.2.2.2⟩
  · have q := h9 b hb
    exact ⟨q.1, by omega, fun y => q.2.2 (hTT b y)⟩
  · refine k2.mono (fun b hb => ?_)
    rcases hb with z | z | z
    · have q := h8 b (.inl z); exact ⟨q.1, fun y => q.2.2.1 (hTT b y)⟩
    · have q := h8 b (.inr (.inl z)); exact ⟨q.1, fun y => q.2.2.1 (hTT b y)⟩
    · rw [z]; exact ⟨lk.1, fun y => lk.2.2 (hTT bk y)⟩
/-- The books are asked. -/
theorem St.apart (h : St base bk bm bn bw T W c more nv want) : Calls Try.prog 29 #[.pointer (some ⟨bk, 0, none⟩)] W fun e W' => e = .returned (.bool true) ∧ Turn (Mine base T) W W' := by
  obtain ⟨U4, U5, Tw, v4, v5, vs, us, Ls, wv, h1, h2, h3, h4, h5, h6, h7, h8, h9⟩ := h
  refine (apart_calls h1).mono ?_
  rintro e W' ⟨rfl, ht⟩
  exact ⟨rfl, ht.mono (fun b hb => ⟨(h8 b (.inl hb)).1, (h8 b (.inl hb)).2.2.1⟩)⟩
theorem Turn.mine (h : Turn (Mine base T) W W') (hbs : base ≤ W.heap.size) : Below base W W' := h.below (fun b hb => hb.1) hbs
theorem Turn.keepsT {Rd : Nat → Prop} (h : Turn (Mine base T) W W') (hR : ∀ b, Rd b → b < base) : KeepsT (fun b => T b ∨ Rd b) W W' :=
  ⟨h.size, fun b hb hl => h.block b hl (fun z => hb.elim z.2 (fun y => by have := hR b y; have := z.1; omega))⟩
theorem Turn.cons {W2 : World} (h : Turn (Mine base T) W W') (k : Turn (Mine base T) W' W2) : Turn (Mine base T) W W2 := h.trans k (fun _ hb => .inl hb)
/-- Its start. -/
theorem St.start (W : World) (hb : W.heap[bk]? = some (.cells #[.slice none 0 0, .slice none 0 0, .slice none 0 0, .slice none 0 0, .slice none 0 0, .slice none 0 0, .slice none 0 0, .slice none 0 0, .slice none 0 0, .slice none 0 0, .slice none 0 0, .slice none 0 0, .slice none 0 0, .slice none 0 0] 42 (0, 0))) (hm : Boxed W bm 4 (.bool more)) (hn : Boxed W bn 3 (.int .i64 nv)) {wv : Value} (hw : Boxed W bw 26 wv) {Tw : Nat → Prop} (hv : SlB W Tw wv want) (hT : ∀ b, Tw b → base ≤ b ∧ b ≠ bk ∧ b ≠ bm ∧ b ≠ bn ∧ b ≠ bw) (h9 : ∀ b, (b = bk ∨ b = bm ∨ b = bn ∨ b = bw) → base ≤ b) : St base bk bm bn bw (fun _ => False) W 0 more nv want := by
  have lk := (Array.getElem?_eq_some_iff.1 hb).1
  refine ⟨fun _ => False, fun _ => False, fun b => Tw b ∧ wv.ownBlock = some b, nilv, nilv, [], [], [], wv, ⟨hb, Lists.nil _ _, Lists.nil _ _, fun _ h => h.elim, fun h => h, fun h => h, fun i h => h.elim False.elim False.elim⟩, rfl, hm, hn, hw, hv.mono (fun j hj h => ⟨h, hj⟩), fun _ _ => ⟨fun z => z, fun z => z⟩, fun b hb => ?_, fun b hb => ⟨h9 b hb, ?_, fun z => z⟩⟩
  · rcases hb with z | z | z
    · exact z.elim
    · exact z.elim
    · have q := hT b z.1
      exact ⟨q.1, (hv.own z.2).2, fun y => y, q.2⟩
  · rcases hb with z | z | z | z
    · rw [z]; exact lk
    · rw [z]; exact hm.lt
    · rw [z]; exact hn.lt
    · rw [z]; exact hw.lt
/-- What is held between two rounds. -/
def Hv (base bk bm bn bw : Nat) (W0 : World) (cs : Nat → Nat) (ms : Nat → Bool) (ws : Nat → List Int) (i : Nat) (T : Nat → Prop) (W : World) : Prop :=
  (∀ b, T b → base ≤ b ∧ b < W.heap.size) ∧ Below base W0 W ∧ base ≤ W.heap.size ∧ St base bk bm bn bw T W (cs i) (ms i) (i : Int) (ws i)
theorem hv_abides (base bk bm bn bw : Nat) (W0 : World) (cs : Nat → Nat) (ms : Nat → Bool) (ws : Nat → List Int) : AbidesS (Hv base bk bm bn bw W0 cs ms ws) := by
  rintro i T A B T' ⟨h1, h2, h3, h4⟩ hs hT
  have hsz := hs.size
  have ht : Turn T A B := ⟨hs.os, hs.tape, hs.output, hs.size, hs.block⟩
  refine ⟨fun b hb => ?_, h2.trans (ht.below (fun b hb => (h1 b hb).1) h3), by omega, h4.turn (ht.mono (fun b hb => .inl hb)) (fun b hb => (hT b hb).imp id (·.1))⟩
  rcases hT b hb with z | z
  · have := h1 b z; omega
  · omega
end Go.Proofs.Ytfcjfjmjcmanaaa.V
set_option linter.unusedVariables false
namespace Go.Proofs.Ytfcjfjmjcmanaaa.V
open Go Go.RowKit Go.Proofs.Ytfcjfjmjcmanaaa.O Go.Proofs.Ytfcjfjmjcmanaaa.B Go.Proofs.YtfcjfjmjcmanaaaW.PrintWords Go.Proofs.YtfcjfjmjcmanaaaW.PrintLast Go.Proofs.YtfcjfjmjcmanaaaW.PrintMore
/-- One step of a handler less. -/
def dec (left : List Nat) (h : Nat) : List Nat := left.set h (left.getD h 0 - 1)
/-- The lists of a search: nxt: what is known behind a pick; none: it is passed over. -/
def genL {σ : Type} (nxt : List Nat → σ → Nat → Option σ) : Nat → List Nat → σ → List (List Int)
  | 0, _, _ => [[]]
  | d + 1, left, s => (List.range left.length).flatMap fun h => match nxt left s h with
    | none => []
    | some s' => (genL nxt d (dec left h) s').map fun m => (h : Int) :: m
def segL {σ : Type} (nxt : List Nat → σ → Nat → Option σ) (d : Nat) (left : List Nat) (s : σ) (h : Nat) : List (List Int) := match nxt left s h with
  | none => []
  | some s' => (genL nxt d (dec left h) s').map fun m => (h : Int) :: m
theorem genL_succ {σ : Type} (nxt : List Nat → σ → Nat → Option σ) (d : Nat) (left : List Nat) (s : σ) : genL nxt (d + 1) left s = (List.range left.length).flatMap (segL nxt d left s) := rfl
/-- How many lists stand ahead of handler h. -/
def offL {σ : Type} (nxt : List Nat → σ → Nat → Option σ) (d : Nat) (left : List Nat) (s : σ) (h : Nat) : Nat := ((List.range h).flatMap (segL nxt d left s)).length
variable {σ : Type} {nxt : List Nat → σ → Nat → Option σ} {d : Nat} {left : List Nat} {s s' : σ}
theorem offL_zero : offL nxt d left s 0 = 0 := rfl
theorem offL_next (h : Nat) : offL nxt d left s (h + 1) = offL nxt d left s h + (segL nxt d left s h).length := by
  unfold offL
  rw [List.range_succ, List.flatMap_append, List.length_append]
  simp
theorem offL_all : offL nxt d left s left.length = (genL nxt (d + 1) left s).length := rfl
theorem segL_none {h : Nat} (e : nxt left s h = none) : segL nxt d left s h = [] := by unfold segL; rw [e]
theorem segL_some {h : Nat} (e : nxt left s h = some s') : segL nxt d left s h = (genL nxt d (dec left h) s').map fun m => (h : Int) :: m := by unfold segL; rw [e]
theorem genL_at {h k : Nat} (hl : h < left.length) (e : nxt left s h = some s') {L : List Int} (hk : (genL nxt d (dec left h) s')[k]? = some L) : (genL nxt (d + 1) left s)[offL nxt d left s h + k]? = some ((h : Int) :: L) := by
  have hr : List.range left.length = List.range h ++ ([h] ++ (List.range (left.length - h - 1)).map (fun x => h + 1 + x)) := by
    apply List.ext_getElem
    · simp; omega
    · intro i h1 h2
      simp only [List.getElem_range, List.getElem_append, List.length_range, List.length_singleton, List.getElem_singleton, List.getElem_map]
      split
      · rfl
      · split <;> omega
  rw [genL_succ, hr, List.flatMap_append]
  rw [List.getElem?_append_right (by unfold offL; omega)]
  have hk2 : k < (segL nxt d left s h).length := by rw [segL_some e, List.length_map]; exact (List.getElem?_eq_some_iff.1 hk).1
  rw [show offL nxt d left s h + k - ((List.range h).flatMap (segL nxt d left s)).length = k by unfold offL; omega, List.flatMap_append, List.flatMap_singleton, List.getElem?_append_left hk2, segL_some e, List.getElem?_map, hk]
  rfl
theorem dec_len (h : Nat) : (dec left h).length = left.length := by simp [dec]
theorem dec_sum {h : Nat} (hl : h < left.length) (e : left.getD h 0 ≠ 0) : (dec left h).sum + 1 = left.sum := by
  unfold dec
  induction left generalizing h with
  | nil => simp at hl
  | cons x t ih =>
    cases h with
    | zero =>
      simp at e ⊢
      omega
    | succ h =>
      have := ih (h := h) (by simpa using hl) (by simpa using e)
      simp at this ⊢
      omega
theorem getD_le_sum (left : List Nat) (h : Nat) : left.getD h 0 ≤ left.sum := by
  induction left generalizing h with
  | nil => simp
  | cons x t ih =>
    cases h with
    | zero => simp
    | succ h => have := ih h; simp at this ⊢; omega
/-! ### what the iterator holds -/
/-- A row of numbers. -/
def Rw (W : World) (r n : Nat) (L : List Int) : Prop := ∃ cur : Array Value, W.heap[r]? = some (.cells cur 3 (0, 0)) ∧ cur.size = n ∧ L.length ≤ n ∧ ∀ (i : Nat) (x : Int), L[i]? = some x → cur[i]? = some (Value.int .i64 x)
theorem Rw.lt {W : World} {r n : Nat} {L : List Int} (h : Rw W r n L) : r < W.heap.size := by obtain ⟨cur, h1, _⟩ := h; exact (Array.getElem?_eq_some_iff.1 h1).1
theorem Rw.of_block {W W' : World} {r n : Nat} {L : List Int} (h : Rw W r n L) (e : W'.heap[r]? = W.heap[r]?) : Rw W' r n L := by obtain ⟨cur, h1, q⟩ := h; exact ⟨cur, e.trans h1, q⟩
theorem Rw.cell {W : World} {r n : Nat} {L : List Int} (h : Rw W r n L) {i : Nat} {x : Int} (hi : L[i]? = some x) : W.cell? ⟨r, i, none⟩ = some (.int .i64 x) := by
  obtain ⟨cur, h1, _, _, h3⟩ := h
  rw [cell_of_row W r _ cur 3 (0, 0) h1]
  exact h3 i x hi
theorem Rw.free {W : World} {r n : Nat} {L : List Int} (h : Rw W r n L) (o : Nat) : W.frozen? ⟨r, o, none⟩ = false := by obtain ⟨cur, h1, _⟩ := h; simp [World.frozen?, h1]
theorem Rw.set {W : World} {r n : Nat} {L : List Int} (h : Rw W r n L) (k : Nat) (hk : k < L.length) (x : Int) : Rw (W.setCell ⟨r, k, none⟩ (.int .i64 x)) r n (L.set k x) := by
  obtain ⟨cur, h1, h2, h2', h3⟩ := h
  refine ⟨_, row_set h1, by simpa using h2, by simpa using h2', fun i y hi => ?_⟩
  rw [Array.getElem?_setIfInBounds]
  by_cases e : k = i
  · subst e
    rw [List.getElem?_set_self hk] at hi
    cases hi
    rw [if_pos rfl, if_pos (by omega)]
  · rw [List.getElem?_set_ne e] at hi
    rw [if_neg e]
    exact h3 i y hi
theorem Rw.push {W : World} {r n : Nat} {L : List Int} (h : Rw W r n L) (hk : L.length < n) (x : Int) : Rw (W.setCells r L.length [.int .i64 x]) r n (L ++ [x]) ∧ (∀ b, b ≠ r → (W.setCells r L.length [.int .i64 x]).heap[b]? = W.heap[b]?) := by
  obtain ⟨cur, h1, h2, h2', h3⟩ := h
  have e : W.setCells r L.length [.int .i64 x] = W.setCell ⟨r, L.length, none⟩ (.int .i64 x) := by simp [World.setCells]
  rw [e]
  refine ⟨⟨_, row_set h1, by simpa using h2, by simp; omega, fun i y hi => ?_⟩, fun b hb => Below.heap_setCell W _ _ b hb⟩
  rw [Array.getElem?_setIfInBounds]
  by_cases ei : L.length = i
  · subst ei
    simp at hi
    rw [if_pos rfl, if_pos (by omega), hi]
  · rw [if_neg ei]
    have hl := (List.getElem?_eq_some_iff.1 hi).1
    rw [List.getElem?_append_left (by simp at hl; omega)] at hi
    exact h3 i y hi
theorem Rw.take {W : World} {r n : Nat} {L : List Int} (h : Rw W r n L) (k : Nat) : Rw W r n (L.take k) := by
  obtain ⟨cur, h1, h2, h2', h3⟩ := h
  refine ⟨cur, h1, h2, by rw [List.length_take]; omega, fun i x hi => h3 i x ?_⟩
  rw [List.getElem?_take] at hi
  split at hi
  · exact hi
  · cases hi
/-- The iterator's blocks. -/
structure Blk where
  p : Nat
  y : Nat
  l : Nat
  s : Nat
  rp : Nat
  rl : Nat
def Blk.T (B : Blk) : Nat → Prop := fun b => b = B.p ∨ b = B.y ∨ b = B.l ∨ b = B.s ∨ b = B.rp ∨ b = B.rl
structure Blk.Nd (B : Blk) : Prop where
  py : B.y ≠ B.p
  pl : B.l ≠ B.p
  ps : B.s ≠ B.p
  pr : B.rp ≠ B.p
  pq : B.rl ≠ B.p
  ry : B.y ≠ B.rp
  rl : B.l ≠ B.rp
  rs : B.s ≠ B.rp
  rq : B.rl ≠ B.rp
  qy : B.y ≠ B.rl
  ql : B.l ≠ B.rl
  qs : B.s ≠ B.rl
/-- k: the picks' length as it stands in their box; P: what lies in their row; left: the steps that are left. -/
structure OM (B : Blk) (ts : TypeId) (fv : Value) (cap cl n l : Nat) (W : World) (k : Nat) (P : List Int) (left : List Nat) : Prop where
  bp : Boxed W B.p 26 (.slice (some ⟨B.rp, 0, none⟩) k cap)
  by' : Boxed W B.y 102 (.func (.yield l) #[] #[])
  bl : Boxed W B.l 26 (.slice (some ⟨B.rl, 0, none⟩) left.length cl)
  bs : Boxed W B.s ts fv
  rp : Rw W B.rp cap P
  rl : Rw W B.rl n (left.map fun x : Nat => (x : Int))
  nd : B.Nd
  cll : left.length ≤ cl
variable {B : Blk} {ts : TypeId} {fv : Value} {cap cl n l k : Nat} {W W' : World} {P : List Int}
theorem OM.lt (h : OM B ts fv cap cl n l W k P left) : ∀ b, B.T b → b < W.heap.size := by
  rintro b (e | e | e | e | e | e) <;> rw [e]
  · exact h.bp.lt
  · exact h.by'.lt
  · exact h.bl.lt
  · exact h.bs.lt
  · exact h.rp.lt
  · exact h.rl.lt
theorem OM.kept (h : OM B ts fv cap cl n l W k P left) (hk : ∀ b, B.T b → W'.heap[b]? = W.heap[b]?) : OM B ts fv cap cl n l W' k P left :=
  ⟨(hk _ (.inl rfl)).trans h.bp, (hk _ (.inr (.inl rfl))).trans h.by', (hk _ (.inr (.inr (.inl rfl)))).trans h.bl, (hk _ (.inr (.inr (.inr (.inl rfl))))).trans h.bs, h.rp.of_block (hk _ (.inr (.inr (.inr (.inr (.inl rfl)))))), h.rl.of_block (hk _ (.inr (.inr (.inr (.inr (.inr rfl)))))), h.nd, h.cll⟩
theorem OM.keeps (h : OM B ts fv cap cl n l W k P left) (hk : KeepsT B.T W W') : OM B ts fv cap cl n l W' k P left := h.kept (fun b hb => hk.2 b hb (h.lt b hb))
theorem OM.less (h : OM B ts fv cap cl n l W k P left) (j : Nat) : OM B ts fv cap cl n l W k (P.take j) left := ⟨h.bp, h.by', h.bl, h.bs, h.rp.take j, h.rl, h.nd, h.cll⟩
/-- The picks' box is set. -/
theorem OM.box (h : OM B ts fv cap cl n l W k P left) (j : Nat) : OM B ts fv cap cl n l (W.setCell ⟨B.p, 0, none⟩ (.slice (some ⟨B.rp, 0, none⟩) j cap)) j P left ∧ StepS B.T W (W.setCell ⟨B.p, 0, none⟩ (.slice (some ⟨B.rp, 0, none⟩) j cap)) := by
  have kp : ∀ b, b ≠ B.p → (W.setCell ⟨B.p, 0, none⟩ (.slice (some ⟨B.rp, 0, none⟩) j cap)).heap[b]? = W.heap[b]? := fun b hb => Below.heap_setCell W _ _ b hb
  have nd := h.nd
  exact ⟨⟨h.bp.set _, (kp _ nd.py).trans h.by', (kp _ nd.pl).trans h.bl, (kp _ nd.ps).trans h.bs, h.rp.of_block (kp _ nd.pr), h.rl.of_block (kp _ nd.pq), nd, h.cll⟩, ⟨rfl, rfl, rfl, by simp, fun b _ hn => kp b (fun e => hn (.inl e))⟩⟩
/-- A number of steps is set. -/
theorem OM.steps (h : OM B ts fv cap cl n l W k P left) (i : Nat) (hi : i < left.length) (x : Nat) : W.frozen? ⟨B.rl, i, none⟩ = false ∧ OM B ts fv cap cl n l (W.setCell ⟨B.rl, i, none⟩ (.int .i64 (x : Int))) k P (left.set i x) ∧ StepS B.T W (W.setCell ⟨B.rl, i, none⟩ (.int .i64 (x : Int))) := by
  have kp : ∀ b, b ≠ B.rl → (W.setCell ⟨B.rl, i, none⟩ (.int .i64 (x : Int))).heap[b]? = W.heap[b]? := fun b hb => Below.heap_setCell W _ _ b hb
  have nd := h.nd
  refine ⟨h.rl.free i, ⟨(kp _ nd.pq.symm).trans h.bp, (kp _ nd.qy).trans h.by', ?_, (kp _ nd.qs).trans h.bs, h.rp.of_block (kp _ nd.rq.symm), ?_, nd, by simpa using h.cll⟩, ⟨rfl, rfl, rfl, by simp, fun b _ hn => kp b (fun e => hn (.inr (.inr (.inr (.inr (.inr e))))))⟩⟩
  · rw [List.length_set]
    exact (kp _ nd.ql).trans h.bl
  · have := h.rl.set i (by simpa using hi) (x : Int)
    rw [List.map_set]
    exact this
theorem OM.step (h : OM B ts fv cap cl n l W k P left) (i : Nat) (hi : i < left.length) : W.cell? ⟨B.rl, i, none⟩ = some (.int .i64 ((left.getD i 0 : Nat) : Int)) := by
  refine h.rl.cell ?_
  rw [List.getElem?_map, List.getD_eq_getElem?_getD, List.getElem?_eq_getElem hi]
  rfl
theorem info3w : (Try.prog.info? 3).map (fun i => (i.zero, i.size, i.bytes)) = some (some (.int .i64 0), 1, 8) := by kernel_rfl
variable {ops : Array Oper} {rest : List Oper} {o : Oper} {a : Act} {Q : Exit → Act → World → Prop}
/-- A pick more: there is room. -/
theorem wpListIn_pick {F : Fence} {m : Nat} (hg : o.guard = none) (u x : Operand) (hop : o.op = .call { callee := .builtin .append, args := #[u, x], argTypes := #[26, 26] }) (h : OM B ts fv cap cl n l W k P left) (hk : P.length = k) (hr : k < cap) (z : Int) {g : Nat} (hgs : W.heap.size = g) (hu : a.eval u = .slice (some ⟨B.rp, 0, none⟩) k cap) (hx : a.eval x = .slice (some ⟨g, 0, none⟩) 1 1)
    (hK : ∀ W', OM B ts fv cap cl n l W' k (P ++ [z]) left → StepS B.T W W' → W'.frozen? ⟨B.p, 0, none⟩ = false → W'.cell? ⟨B.p, 0, none⟩ = some (.slice (some ⟨B.rp, 0, none⟩) k cap) → wpListIn F m Try.prog ops Q rest (a.put o.dst (.slice (some ⟨B.rp, 0, none⟩) (k + 1) cap)) W') : wpListIn F m Try.prog ops Q (o :: rest) a (W.alloc (.cells #[.int .i64 z] 3)) := by
  subst hgs
  obtain ⟨i0, hi0, hz0, hz1, hz2⟩ := info_parts info3w
  have hW0 : ∀ b, b < W.heap.size → (W.alloc (.cells #[.int .i64 z] 3)).heap[b]? = W.heap[b]? := fun b hb => Below.heap_alloc W _ b hb
  have h' : OM B ts fv cap cl n l (W.alloc (.cells #[.int .i64 z] 3)) k P left := h.kept (fun b hb => hW0 b (h.lt b hb))
  have hs0 : StepS B.T W (W.alloc (.cells #[.int .i64 z] 3)) := stepS_alloc W _
  have hcell : (W.alloc (.cells #[.int .i64 z] 3)).cell? ⟨W.heap.size, 0, none⟩ = some (.int .i64 z) := (Boxed.new W 3 (.int .i64 z)).cell
  generalize W.alloc (.cells #[.int .i64 z] 3) = X at h' hs0 hcell ⊢
  obtain ⟨cur, q1, q2, _, q3⟩ := h'.rp
  have hrun := run_append_room_cells (P := Try.prog) X 26 o.type 3 i0 Try.underlying26 hi0 B.rp 0 k cap ⟨W.heap.size, 0, none⟩ 1 1 [.int .i64 z] (by rw [hz1]; rfl) (fun j v hj => by
    match j, hj with
    | 0, hj => cases hj; exact hcell) (by simp [Value.oneCell']) (by omega)
    (fun j hj => by simp at hj; subst hj; rw [hz1, cell_of_row X B.rp _ cur 3 (0, 0) q1]; simp; omega) (fun j hj => by simp [World.frozen?, q1])
  rw [hz1, Nat.mul_one, Nat.zero_add] at hrun
  obtain ⟨p1, p2⟩ := h'.rp.push (by omega) z
  rw [hk] at p1 p2
  have nd := h'.nd
  have kb : Boxed (X.setCells B.rp k [.int .i64 z]) B.p 26 (.slice (some ⟨B.rp, 0, none⟩) k cap) := (p2 _ nd.pr.symm).trans h'.bp
  refine wpListIn_plain hg fun K hK' => ?_
  unfold Oper.wpIn
  refine ⟨?_, ?_⟩
  · simp [Oper.about, hop, resolve, Target.leads, Sem.run_pure]
  · rw [Oper.semAt_plain F _ _ (by rw [hop]; intro c hc'; cases hc')]
    simp [execOp, hop, resolve, invoke, builtin, hu, hx, hrun, Result.andThen]
    refine hK' _ _ (hK _ ⟨kb, (p2 _ nd.ry).trans h'.by', (p2 _ nd.rl).trans h'.bl, (p2 _ nd.rs).trans h'.bs, p1, h'.rl.of_block (p2 _ nd.rq), nd, h'.cll⟩ ?_ kb.frozen kb.cell)
    have s2 : StepS B.T X (X.setCells B.rp k [.int .i64 z]) := ⟨rfl, rfl, rfl, by simp [World.setCells], fun b _ hn => p2 b (fun e => hn (.inr (.inr (.inr (.inr (.inl e))))))⟩
    exact ⟨s2.os.trans hs0.os, s2.tape.trans hs0.tape, s2.output.trans hs0.output, Nat.le_trans hs0.size s2.size, fun b hb hn => (s2.block b (Nat.lt_of_lt_of_le hb hs0.size) hn).trans (hs0.block b hb hn)⟩
theorem stepS_trans {T : Nat → Prop} {A C D : World} (h : StepS T A C) (k : StepS T C D) : StepS T A D :=
  ⟨k.os.trans h.os, k.tape.trans h.tape, k.output.trans h.output, Nat.le_trans h.size k.size, fun b hb hn => (k.block b (Nat.lt_of_lt_of_le hb h.size) hn).trans (h.block b hb hn)⟩
theorem yieldAt_wide {P : Program} {n m l : Nat} {args : Array Value} {W : World} {R : Ending → World → Prop} (h : YieldAt Fence.wide n P l args W R) : YieldAt Fence.wide m P l args W R := by
  obtain ⟨fn, t, a, b, hy, hF, hr⟩ := h
  exact ⟨fn, t, a, b, hy, hF, fun c cs _ => hr c cs (room_wide _)⟩
theorem yieldAt_mono {P : Program} {n l : Nat} {args : Array Value} {W : World} {R R' : Ending → World → Prop} (h : YieldAt Fence.wide n P l args W R) (hr : ∀ e w, R e w → R' e w) : YieldAt Fence.wide n P l args W R' := by
  obtain ⟨fn, t, a, b, hy, h2⟩ := h
  exact ⟨fn, t, a, b, hy, h2.mono hr⟩
/-- Numbers that are read. -/
def RdS (W : World) (v : Value) (L : List Int) : Prop := ∃ A c, v = .slice A L.length c ∧ L.length ≤ c ∧ Kd.C (Kd.int .i64) W A L.length L
theorem SlB.rdS {T : Nat → Prop} {v : Value} {L : List Int} (h : SlB W T v L) : RdS W v L := by
  obtain ⟨A, c, e, h1, _, h3⟩ := h.C
  exact ⟨A, c, e, h1, h3⟩
theorem RdS.below {v : Value} {L : List Int} (h : RdS W v L) (hb : Below W.heap.size W W') : RdS W' v L := by
  obtain ⟨A, c, e, h1, h3⟩ := h
  exact ⟨A, c, e, h1, Kd.C_below h3 hb⟩
theorem RdS.slice {v : Value} {L : List Int} (h : RdS W v L) : ∃ A c, v = .slice A L.length c := by obtain ⟨A, c, e, _⟩ := h; exact ⟨A, c, e⟩
theorem clone_rd {v : Value} {L : List Int} (h : RdS W v L) (hl : L.length ≤ 17592186043904) : Calls Try.prog 85 #[v] W fun e W' => ∃ u, e = .returned u ∧ W'.ownsRow W.heap.size 3 1 u L.length (L.map (Value.int .i64)) ∧ Below W.heap.size W W' := by
  obtain ⟨A0, c0, rfl, hc0, hr0⟩ := h
  cases L with
  | nil =>
    cases A0 with
    | none =>
      refine (Try.slices_Clone_int_nil _ _ W).mono ?_
      rintro e w' ⟨rfl, rfl⟩
      exact ⟨_, rfl, World.ownsRow_nil _ _ _ _, Below.refl _ _⟩
    | some a =>
      refine (Try.slices_Clone_int_zero a c0 W).mono ?_
      rintro e w' ⟨v, rfl, ho, _, hB⟩
      exact ⟨v, rfl, ho, hB⟩
  | cons x l =>
    obtain ⟨_, _, hR⟩ := Kd.reads_of_C (d := (0 : Int)) hr0
    obtain ⟨ad, rfl, hc⟩ := hR (by simp)
    have hs : ad.spot = none := by
      have := hc 0 (by simp)
      rcases ad with ⟨b, o, s⟩
      cases s with
      | none => rfl
      | some s => simp [Addr.add, World.cell?] at this; split at this <;> simp at this
    rcases ad with ⟨b, o, s⟩
    obtain rfl : s = none := hs
    refine (Try.slices_Clone_int b o (x :: l).length c0 (x :: l) W (Nat.le_refl _) (by omega) (fun j hj => by
      have := hc j hj
      by_cases hj0 : j = 0
      · subst hj0; simpa [Addr.add] using this
      · simpa [Addr.add, hj0] using this)).mono ?_
    rintro e w' ⟨v, rfl, ho, _, hB⟩
    rw [List.take_length] at ho
    exact ⟨v, rfl, ho, hB⟩
/-- A copy: in a row that is new. -/
theorem clone_row {T : Nat → Prop} {v : Value} {L : List Int} (h : SlB W T v L) (hl : L.length ≤ 4398046511104) : Calls Try.prog 85 #[v] W fun e W' => ∃ u, e = .returned u ∧ W'.ownsRow W.heap.size 3 1 u L.length (L.map (Value.int .i64)) ∧ Below W.heap.size W W' := by
  rcases h with ⟨rfl, rfl⟩ | ⟨j, off, c, cur, rfl, h1, h3, h4, h5, h6, h7⟩
  · refine (Try.slices_Clone_int_nil 0 0 W).mono ?_
    rintro e w' ⟨rfl, rfl⟩
    exact ⟨_, rfl, World.ownsRow_nil _ _ _ _, Below.refl _ _⟩
  · refine (Try.slices_Clone_int j off L.length c L W (Nat.le_refl _) (by omega) (fun i hi => by
      rw [cell_of_row W j _ cur 3 (0, 0) h6, h7 i (L.getD i 0) (by rw [List.getD_eq_getElem?_getD, List.getElem?_eq_getElem hi]; rfl)])).mono ?_
    rintro e w' ⟨v, rfl, ho, _, hB⟩
    rw [List.take_length] at ho
    exact ⟨v, rfl, ho, hB⟩
theorem RI.of_own {v : Value} {L : List Int} {b : Nat} (h : W.ownsRow b 3 1 v L.length (L.map (Value.int .i64))) : RI W (fun j => b ≤ j ∧ j < W.heap.size) v L :=
  ⟨⟨h.1, h.2.imp id (fun ⟨g, cap, cur, e1, e2, e3⟩ => ⟨g, cap, cur, e1, Nat.zero_le _, e3⟩)⟩, fun j hj => h.lt j hj⟩
end Go.Proofs.Ytfcjfjmjcmanaaa.V
set_option linter.unusedVariables false
namespace Go.Proofs.Ytfcjfjmjcmanaaa.V
open Go Go.RowKit Go.Proofs.Ytfcjfjmjcmanaaa.O Go.Proofs.Ytfcjfjmjcmanaaa.B Go.Proofs.YtfcjfjmjcmanaaaW.PrintWords Go.Proofs.YtfcjfjmjcmanaaaW.PrintLast Go.Proofs.YtfcjfjmjcmanaaaW.PrintMore
attribute [local go_sem] Oper.semAt_some
def nxtM (left : List Nat) (_ : Unit) (h : Nat) : Option Unit := if left.getD h 0 = 0 then none else some ()
abbrev fvM (B : Blk) : Value := .func (.func 109) #[] #[.pointer (some ⟨B.p, 0, none⟩), .pointer (some ⟨B.y, 0, none⟩), .pointer (some ⟨B.l, 0, none⟩), .pointer (some ⟨B.s, 0, none⟩)]
abbrev OMM (B : Blk) (cap cl n l : Nat) (W : World) (k : Nat) (P : List Int) (left : List Nat) : Prop := OM B 46 (fvM B) cap cl n l W k P left
/-- What the caller gave. -/
structure Ctx (Ls : List (List Int)) (l : Nat) (Rd T : Nat → Prop) (J Jx : Nat → (Nat → Prop) → World → Prop) : Prop where
  hJ : AbidesS J
  hJx : AbidesS Jx
  hY : ∀ i L T' T1 v W1, Ls[i]? = some L → J i T1 W1 → (∀ b, T' b → T1 b) → (∀ b, T1 b ∨ Rd b → b < W1.heap.size) → SlB W1 (fun b => T1 b ∧ ¬ T' b ∧ ¬ Rd b) v L → YieldAt Fence.wide 2 Try.prog l #[v] W1 fun e W' =>
      (e = .returned (.bool true) ∧ J (i + 1) T' W' ∧ KeepsT (fun b => T' b ∨ Rd b) W1 W') ∨ (e = .returned (.bool false) ∧ Jx (i + 1) T' W' ∧ KeepsT T' W1 W')
/-- How a search ends. -/
def PostM (B : Blk) (cap cl n l : Nat) (Ls : List (List Int)) (J Jx : Nat → (Nat → Prop) → World → Prop) (W0 : World) (i1 : Nat) (p : List Int) (left : List Nat) (e : Ending) (W' : World) : Prop :=
  ∃ bb, e = .returned (.bool bb) ∧ OMM B cap cl n l W' p.length p left ∧ W0.heap.size ≤ W'.heap.size ∧ ((bb = true ∧ J i1 B.T W') ∨ (bb = false ∧ ∃ i, i ≤ Ls.length ∧ Jx i B.T W'))
theorem round_gate {F : Fence} {n : Nat} {P : Program} {l : Nat} {f : FuncId} {t : Array Value} {a b : Code} {w : World} {R : Ending → World → Prop} (h : RoundIn F n P l f t a b w R) : RoundIn F n P l f t a b w R := h
theorem OM.slP {B : Blk} {ts : TypeId} {fv : Value} {cap cl n l k : Nat} {W : World} {P : List Int} {left : List Nat} (h : OM B ts fv cap cl n l W k P left) (hk : P.length = k) (hm : cap ≤ 4096 := by omega) : SlB W B.T (.slice (some ⟨B.rp, 0, none⟩) k cap) P := by
  obtain ⟨cur, q1, q2, q2', q3⟩ := h.rp
  subst hk
  refine .inr ⟨B.rp, 0, cap, cur, rfl, .inr (.inr (.inr (.inr (.inl rfl)))), q2', by unfold maxLen; omega, by omega, q1, fun i x hi => ?_⟩
  rw [Nat.zero_add]
  exact q3 i x hi
theorem yield_at {Ls : List (List Int)} {l cap cl n k : Nat} {ts : TypeId} {fv : Value} {Rd : Nat → Prop} {J Jx : Nat → (Nat → Prop) → World → Prop} {B : Blk} {W w5 : World} {P p : List Int} {left : List Nat} {u : Value} {i0 : Nat} (C : Ctx Ls l Rd B.T J Jx) (hR : ∀ b, Rd b → b < W.heap.size) (o : OM B ts fv cap cl n l W k P left) (hL : Ls[i0]? = some p) (hj : J i0 B.T W)
    (ho : w5.ownsRow W.drew.heap.size 3 1 u p.length (p.map (Value.int .i64))) (hb : Below W.drew.heap.size W.drew w5) :
    YieldAt Fence.wide 2 Try.prog l #[u] w5 fun e W' => ∃ bb, e = .returned (.bool bb) ∧ KeepsT B.T w5 W' ∧ ((bb = true ∧ J (i0 + 1) B.T W' ∧ KeepsT Rd w5 W') ∨ (bb = false ∧ Jx (i0 + 1) B.T W')) := by
  have hs : W.heap.size ≤ w5.heap.size := hb.size
  have hst : StepS B.T W w5 := ⟨hb.os, hb.tape.trans rfl, hb.output, hs, fun b hl _ => hb.block b hl⟩
  have hj5 := C.hJ i0 B.T W w5 (fun b => B.T b ∨ (W.heap.size ≤ b ∧ b < w5.heap.size)) hj hst (fun b h => h)
  have hv := (RI.of_own ho).slB
  refine yieldAt_mono (C.hY i0 p B.T _ u w5 hL hj5 (fun b h => .inl h) (fun b h => ?_) (hv.mono (fun j _ hj => ⟨.inr hj, fun z => by have := o.lt j z; have h1 : W.heap.size ≤ j := hj.1; omega, fun z => by have := hR j z; have h1 : W.heap.size ≤ j := hj.1; omega⟩))) ?_
  · rcases h with (h | h) | h
    · have := o.lt b h; omega
    · exact h.2
    · have := hR b h; omega
  · rintro e W' (⟨rfl, h1, h2⟩ | ⟨rfl, h1, h2⟩)
    · exact ⟨true, rfl, ⟨h2.1, fun b hb => h2.2 b (.inl hb)⟩, .inl ⟨rfl, h1, ⟨h2.1, fun b hb => h2.2 b (.inr hb)⟩⟩⟩
    · exact ⟨false, rfl, h2, .inr ⟨rfl, h1⟩⟩
set_option maxRecDepth 100000
set_option maxHeartbeats 4000000
/-- At the end: a list is handed over. -/
theorem msearch_end {Ls : List (List Int)} {l cap cl n : Nat} {Rd : Nat → Prop} {J Jx : Nat → (Nat → Prop) → World → Prop} {B : Blk} (C : Ctx Ls l Rd B.T J Jx) (hcap : cap ≤ 24) (p : List Int) (left : List Nat) (i0 : Nat) (W : World) (hR : ∀ b, Rd b → b < W.heap.size)
    (o : OMM B cap cl n l W p.length p left) (hp : p.length = cap) (hL : Ls[i0]? = some p) (hj : J i0 B.T W) :
    Calls Try.prog 109 #[.pointer (some ⟨B.p, 0, none⟩), .pointer (some ⟨B.y, 0, none⟩), .pointer (some ⟨B.l, 0, none⟩), .pointer (some ⟨B.s, 0, none⟩)] W (PostM B cap cl n l Ls J Jx W (i0 + 1) p left) := by
  refine (callsIn_wide (n := 3)).1 ?_
  refine callsIn_of_wp Try.func109 rfl trivial ?_ rfl
  simp only [Try.ntmps109, List.size_toArray, List.length_cons, List.length_nil, Nat.reduceAdd, Nat.reduceSub, Array.replicate_succ, Array.replicate_zero, List.push_toArray, List.append_toArray, List.nil_append, List.cons_append]
  have c1 := o.bp.cell
  have c2 := o.by'.cell
  have HC := Aside0.mk C
  have HJ := Aside0.mk hj
  have HL := Aside0.mk hL
  have HR := Aside0.mk hR
  have hroE : Fence.wide.round = none := rfl
  obtain ⟨q, hq⟩ : ∃ q, p.length = q := ⟨_, rfl⟩
  rw [hq] at c1 hp o
  have HO := Aside0.mk o
  have HQ := Aside0.mk hq
  subst hp
  clear o C hj hL hR hq
  have hmo : Try.prog.follows Departure.mixedOrders = true := by kernel_rfl
  have HS := Aside0.mk (HO.out.slP HQ.out)
  gi_wp2
  gi_region_with_o (first
    | (refine ⟨trivial, ?_⟩; gi_at_call 85; go_loud (refine (callsIn_wide.2 (clone_row (HS.out.kept (W' := W.drew) (fun _ _ => rfl)) (by have := HQ.out; omega))).mono ?_; rintro e w5 ⟨u, rfl, ho, hb⟩; obtain ⟨fn, tm, asg, bd, hy, hYR⟩ := yield_at HC.out HR.out HO.out HL.out HJ.out ho hb; have HYR := Aside0.mk hYR; have HB5 := Aside0.mk hb; have O5 := Aside0.mk (HO.out.kept (W' := w5) (fun b hb => HB5.out.block b (HO.out.lt b hb))); have cy5 := O5.out.by'.cell; clear ho hb hYR))
    | ((with_reducible refine round_gate ?_); refine HYR.out.mono ?_; rintro e w6 ⟨bb, rfl, hk6, hc6⟩; have HK6 := Aside0.mk hk6; have HC6 := Aside0.mk hc6; clear hk6 hc6))
  all_goals gi_wp2
  all_goals go_ret
  all_goals (
    have h5 : W.heap.size ≤ w5.heap.size := HB5.out.size
    refine ⟨bb, rfl, ?_, Nat.le_trans h5 HK6.out.1, ?_⟩
    · rw [HQ.out]
      exact O5.out.keeps HK6.out
    · rcases HC6.out with ⟨e, h, _⟩ | ⟨e, h⟩
      · exact .inl ⟨e, h⟩
      · exact .inr ⟨e, _, by have := (List.getElem?_eq_some_iff.1 HL.out).1; omega, h⟩)
/-- Behind the search beneath: the pick is taken back, and the step. -/
theorem back_at {B : Blk} {ts : TypeId} {fv : Value} {cap cl n l q x N y z : Nat} {w7 : World} {p : List Int} {left : List Nat} (o : OM B ts fv cap cl n l w7 (p ++ [(x : Int)]).length (p ++ [(x : Int)]) (dec left x)) (hq : p.length = q) (hx : x < left.length) (hN : left.length = N) (hy : left.getD x 0 = y) (hz : y - 1 = z) (h0 : ¬ y = 0) :
    OM B ts fv cap cl n l w7 (q + 1) (p ++ [(x : Int)]) (dec left x) ∧ w7.cell? ⟨B.p, 0, none⟩ = some (.slice (some ⟨B.rp, 0, none⟩) (q + 1) cap) ∧ w7.frozen? ⟨B.p, 0, none⟩ = false ∧
    OM B ts fv cap cl n l (w7.setCell ⟨B.p, 0, none⟩ (.slice (some ⟨B.rp, 0, none⟩) q cap)) q (p ++ [(x : Int)]) (dec left x) ∧
    (w7.setCell ⟨B.p, 0, none⟩ (.slice (some ⟨B.rp, 0, none⟩) q cap)).frozen? ⟨B.rl, x, none⟩ = false ∧ (w7.setCell ⟨B.p, 0, none⟩ (.slice (some ⟨B.rp, 0, none⟩) q cap)).cell? ⟨B.rl, x, none⟩ = some (.int .i64 (z : Int)) ∧
    (w7.setCell ⟨B.p, 0, none⟩ (.slice (some ⟨B.rp, 0, none⟩) q cap)).cell? ⟨B.l, 0, none⟩ = some (.slice (some ⟨B.rl, 0, none⟩) N cl) ∧
    OM B ts fv cap cl n l ((w7.setCell ⟨B.p, 0, none⟩ (.slice (some ⟨B.rp, 0, none⟩) q cap)).setCell ⟨B.rl, x, none⟩ (.int .i64 (y : Int))) q p left ∧
    StepS B.T w7 ((w7.setCell ⟨B.p, 0, none⟩ (.slice (some ⟨B.rp, 0, none⟩) q cap)).setCell ⟨B.rl, x, none⟩ (.int .i64 (y : Int))) := by
  have o7 : OM B ts fv cap cl n l w7 (q + 1) (p ++ [(x : Int)]) (dec left x) := by simpa [hq] using o
  obtain ⟨o8, s8⟩ := o7.box q
  have hx' : x < (dec left x).length := by rw [dec_len]; exact hx
  obtain ⟨f9, o9, s9⟩ := o8.steps x hx' y
  have hst := o8.step x hx'
  have hd : (dec left x).getD x 0 = z := by unfold dec; rw [hy, hz, List.getD_eq_getElem?_getD, List.getElem?_set_self hx]; rfl
  have hb : (dec left x).set x y = left := by
    unfold dec
    rw [List.set_set, ← hy, List.getD_eq_getElem?_getD, List.getElem?_eq_getElem hx]
    exact List.set_getElem_self hx
  have hl8 := o8.bl.cell
  rw [dec_len, hN] at hl8
  rw [hd] at hst
  rw [hb] at o9
  have o10 := o9.less q
  rw [show (p ++ [(x : Int)]).take q = p by rw [← hq]; exact List.take_left' rfl] at o10
  exact ⟨o7, o7.bp.cell, o7.bp.frozen, o8, f9, hst, hl8, o10, stepS_trans s8 s9⟩
/-- The search. -/
theorem msearch {Ls : List (List Int)} {l cap cl n : Nat} {Rd : Nat → Prop} {J Jx : Nat → (Nat → Prop) → World → Prop} {B : Blk} (C : Ctx Ls l Rd B.T J Jx) (hcap : cap ≤ 24) (d : Nat) : ∀ (p : List Int) (left : List Nat) (i0 : Nat) (W : World), (∀ b, Rd b → b < W.heap.size) →
    OMM B cap cl n l W p.length p left → left.length ≤ 16 → left.sum = d → p.length + d = cap → (∀ (k : Nat) L, (genL nxtM d left ())[k]? = some L → Ls[i0 + k]? = some (p ++ L)) → J i0 B.T W →
    Calls Try.prog 109 #[.pointer (some ⟨B.p, 0, none⟩), .pointer (some ⟨B.y, 0, none⟩), .pointer (some ⟨B.l, 0, none⟩), .pointer (some ⟨B.s, 0, none⟩)] W (PostM B cap cl n l Ls J Jx W (i0 + (genL nxtM d left ()).length) p left) := by
  induction d with
  | zero =>
    intro p left i0 W hR o hll hs hp hL hj
    exact msearch_end C hcap p left i0 W hR o (by omega) (by have := hL 0 [] rfl; simpa using this) hj
  | succ d ih =>
    intro p left i0 W hR o hll hs hp hL hj
    refine (callsIn_wide (n := 3)).1 ?_
    refine callsIn_of_wp Try.func109 rfl trivial ?_ rfl
    simp only [Try.ntmps109, List.size_toArray, List.length_cons, List.length_nil, Nat.reduceAdd, Nat.reduceSub, Array.replicate_succ, Array.replicate_zero, List.push_toArray, List.append_toArray, List.nil_append, List.cons_append]
    have c1 := o.bp.cell
    have c2 := o.bl.cell
    obtain ⟨q, hq⟩ : ∃ q, p.length = q := ⟨_, rfl⟩
    rw [hq] at c1 hp o
    obtain ⟨N, hN⟩ : ∃ N, left.length = N := ⟨_, rfl⟩
    rw [hN] at c2 hll
    have HO := Aside0.mk o
    have HC := Aside0.mk C
    have HJ := Aside0.mk hj
    have HL := Aside0.mk hL
    have HQ := Aside0.mk hq
    have HN := Aside0.mk hN
    have HS := Aside0.mk hs
    have IH := Aside0.mk ih
    have HP := Aside0.mk hp
    have ne : ((q : Int) == (cap : Int)) = false := by simp; omega
    have ne2 : (q = cap) = False := eq_false (by omega)
    clear o C hj hL hq hN hs ih hp
    have hwq : wrap64 ((q : Int) + 1) = (q : Int) + 1 := X.hwrId (by have := HP.out; omega) (by have := HP.out; omega)
    gi_wp2
    gi_loopw [18] (fun h wr => ∃ x : Nat, h = .int .i64 (x : Int) ∧ Aside0 (x ≤ N) ∧ Aside0 (OMM B cap cl n l wr q p left) ∧ Aside0 (J (i0 + offL nxtM d left () x) B.T wr) ∧ Aside0 (W.heap.size ≤ wr.heap.size)) (fun h _ => N - (intOf h).toNat)
    case atStart => exact ⟨0, rfl, ⟨by omega⟩, HO, HJ, ⟨Nat.le_refl _⟩⟩
    case round =>
      clear HO HJ c1 c2
      obtain ⟨x, rfl, Hx, HO, HJ, HSZ⟩ := hrel
      have wx := Aside0.mk (w1 x (by have := Hx.out; omega))
      have c2 := HO.out.bl.cell
      rw [HN.out] at c2
      by_cases hlt : x < N
      · have cx := HO.out.step x (by rw [HN.out]; exact hlt)
        have x0 : ((0 : Int) ≤ (x : Int)) = True := eq_true (by omega)
        have x1 : ((x : Int) < (N : Int)) = True := eq_true (by omega)
        have HLT := Aside0.mk hlt
        obtain ⟨y, hy⟩ : ∃ y, left.getD x 0 = y := ⟨_, rfl⟩
        rw [hy] at cx
        by_cases h0 : y = 0
        · have y0 : ((y : Int) == 0) = true := by simp; omega
          have en : nxtM left () x = none := by unfold nxtM; rw [hy, if_pos h0]
          have ho : offL nxtM d left () (x + 1) = offL nxtM d left () x := by rw [offL_next, segL_none en]; simp
          have HOF := Aside0.mk ho
          subst h0
          clear ho en
          replace hlt := eq_true hlt
          gi_wp2
          exact ⟨⟨x + 1, by first | rfl | rw [wx.out], ⟨by have := HLT.out; omega⟩, HO, ⟨by rw [HOF.out]; exact HJ.out⟩, HSZ⟩, by first | (simp only [intOf]; have := HLT.out; omega) | (rw [wx.out]; simp only [intOf]; have := HLT.out; omega)⟩
        · have y0 : ((y : Int) == 0) = false := by simp; omega
          have en : nxtM left () x = some () := by unfold nxtM; rw [hy, if_neg h0]
          have EN := Aside0.mk en
          have hq0 : wrap64 (q : Int) = (q : Int) := X.hwrId (by have := HP.out; omega) (by have := HP.out; omega)
          have hq1 : wrap64 ((q : Int) + 1 - 1) = (q : Int) := by rw [show (q : Int) + 1 - 1 = (q : Int) by omega]; exact hq0
          have q0 : ((0 : Int) ≤ (q : Int)) = True := eq_true (by omega)
          have q1 : ((q : Int) ≤ (cap : Int)) = True := eq_true (by have := HP.out; omega)
          have q2 : (q ≤ cap) = True := eq_true (by have := HP.out; omega)
          have HY := Aside0.mk hy
          have HY0 := Aside0.mk h0
          have hys : y ≤ left.sum := by rw [← hy]; exact getD_le_sum left x
          have hy24 : y ≤ 24 := by have := HS.out; have := HP.out; omega
          have wy : wrap64 ((y : Int) - 1) = ((y - 1 : Nat) : Int) := by rw [X.hwrId (by omega) (by omega)]; omega
          obtain ⟨f1, o1, s1⟩ := HO.out.steps x (by rw [HN.out]; exact hlt) (y - 1)
          obtain ⟨z, hz⟩ : ∃ z, y - 1 = z := ⟨_, rfl⟩
          rw [hz] at wy o1 s1
          have hdec : left.set x z = dec left x := by unfold dec; rw [hy, hz]
          rw [hdec] at o1
          have HZ := Aside0.mk hz
          have wz : wrap64 ((z : Int) + 1) = (y : Int) := by rw [X.hwrId (by omega) (by omega)]; omega
          have HDEC := Aside0.mk hdec
          have O1 := Aside0.mk o1
          have S1 := Aside0.mk s1
          have d1 := o1.bp.cell
          have Hy24 := Aside0.mk hy24
          clear o1 s1 en hy h0 hys hz hdec hy24
          replace hlt := eq_true hlt
          gi_wp2_with (first
            | (gi_at_builtin; go_loud (refine wpListIn_pick rfl _ _ rfl O1.out HQ.out (by have := HP.out; omega) (x : Int) (by simp) rfl rfl ?_; intro w5 o5 s5 f5 c5; obtain ⟨o6, s6⟩ := o5.box (q + 1); have d6 := o6.bs.cell; have O6 := Aside0.mk o6; have S6 := Aside0.mk (stepS_trans (stepS_trans S1.out s5) s6); clear o5 s5 o6 s6))
            | (refine ⟨trivial, ?_⟩; gi_at_call 109; go_loud (refine (callsIn_wide.2 (IH.out (p ++ [(x : Int)]) (dec left x) (i0 + offL nxtM d left () x) _ (fun b hb => by have h1 := hR b hb; have h2 := S6.out.size; have h3 := HSZ.out; omega) (by have h := O6.out; simpa [HQ.out] using h) (by rw [dec_len, HN.out]; exact hll) (by have h1 := dec_sum (left := left) (h := x) (by rw [HN.out]; exact HLT.out) (by rw [HY.out]; exact HY0.out); have := HS.out; omega) (by have := HP.out; simp [HQ.out]; omega) (fun k L hk => by have h1 := genL_at (nxt := nxtM) (d := d) (left := left) (s := ()) (by rw [HN.out]; exact HLT.out) EN.out hk; have h2 := HL.out _ _ h1; rw [List.append_assoc, Nat.add_assoc]; exact h2) (HC.out.hJ _ _ _ _ _ HJ.out S6.out (fun b hb => .inl hb)))).mono ?_; rintro e w7 ⟨bb, rfl, o7, z7, c7⟩; obtain ⟨o7', d7, f7, o8, f9, c9, l9, o10, s10⟩ := back_at (y := y) o7 HQ.out (by rw [HN.out]; exact HLT.out) HN.out HY.out HZ.out HY0.out; have O10 := Aside0.mk o10; have S10 := Aside0.mk s10; have C7 := Aside0.mk c7; have Z7 := Aside0.mk z7; clear o7 o7' o8 o10 s10 c7 z7)))
          · go_ret
            have sz : W.heap.size ≤ ((w7.setCell ⟨B.p, 0, none⟩ (.slice (some ⟨B.rp, 0, none⟩) q cap)).setCell ⟨B.rl, x, none⟩ (.int .i64 (y : Int))).heap.size := by have h1 := HSZ.out; have h2 := S6.out.size; have h3 := Z7.out; have h4 := S10.out.size; omega
            refine ⟨false, rfl, by rw [HQ.out]; exact O10.out, sz, .inr ⟨rfl, ?_⟩⟩
            rcases C7.out with ⟨e, h⟩ | ⟨e, i, hi, h⟩
            · subst e; simp_all
            · exact ⟨i, hi, HC.out.hJx _ _ _ _ _ h S10.out (fun b hb => .inl hb)⟩
          · have sz : W.heap.size ≤ ((w7.setCell ⟨B.p, 0, none⟩ (.slice (some ⟨B.rp, 0, none⟩) q cap)).setCell ⟨B.rl, x, none⟩ (.int .i64 (y : Int))).heap.size := by have h1 := HSZ.out; have h2 := S6.out.size; have h3 := Z7.out; have h4 := S10.out.size; omega
            refine ⟨⟨x + 1, by first | rfl | rw [wx.out], ⟨by have := HLT.out; omega⟩, O10, ⟨?_⟩, ⟨sz⟩⟩, by first | (simp only [intOf]; have := HLT.out; omega) | (rw [wx.out]; simp only [intOf]; have := HLT.out; omega)⟩
            rcases C7.out with ⟨e, h⟩ | ⟨e, i, hi, h⟩
            · rw [offL_next, segL_some EN.out, List.length_map, ← Nat.add_assoc]
              exact HC.out.hJ _ _ _ _ _ h S10.out (fun b hb => .inl hb)
            · subst e; simp_all
      · obtain rfl : x = N := by have := Hx.out; omega
        have x1 : ((x : Int) < (x : Int)) = False := eq_false (by omega)
        gi_wp2
        go_ret
        refine ⟨true, rfl, by rw [HQ.out]; exact HO.out, HSZ.out, .inl ⟨rfl, ?_⟩⟩
        have := HJ.out
        rw [← HN.out, offL_all] at this
        exact this
end Go.Proofs.Ytfcjfjmjcmanaaa.V
