/- A range over an iterator that owns blocks and hands over lists, each in a row of its own: the contract, and the law for the caller. -/
import Derived.Test.YtfcjfjmjcmanaaaXo
import Derived.Test.YtfcjfjmjcmanaaaCa
set_option linter.unusedVariables false
namespace Go.Proofs.Ytfcjfjmjcmanaaa.V
open Go Go.RowKit Go.Proofs.Ytfcjfjmjcmanaaa.O Go.Proofs.Ytfcjfjmjcmanaaa.B
/-- The contract: the lists Ls come in order, each in a row of its own; Rd is read, and nobody writes it; T0: the blocks that the iterator owns at the start. -/
def SeqV (F : Fence) (n : Nat) (P : Program) (g : Nat) (lb : Array Value) (Rd T0 : Nat → Prop) (Ls : List (List Int)) (w : World) : Prop :=
  ∀ (l : Nat) (J Jx : Nat → (Nat → Prop) → World → Prop) (W : World), Below w.heap.size w W → (∀ b, T0 b ∨ Rd b → W.heap[b]? = w.heap[b]?) → AbidesS J → AbidesS Jx →
    (∀ i L T T1 v W1, Ls[i]? = some L → J i T1 W1 → (∀ b, T b → T1 b) → (∀ b, T1 b ∨ Rd b → b < W1.heap.size) → SlB W1 (fun b => T1 b ∧ ¬ T b ∧ ¬ Rd b) v L → YieldAt F (n - 1) P l #[v] W1 fun e W' =>
      (e = .returned (.bool true) ∧ J (i + 1) T W' ∧ KeepsT (fun b => T b ∨ Rd b) W1 W') ∨ (e = .returned (.bool false) ∧ Jx (i + 1) T W' ∧ KeepsT T W1 W')) →
    J 0 T0 W →
    CallsIn F n P g (#[.func (.yield l) #[] #[]] ++ lb) W fun e W' => (∃ v, e = .returned v) ∧ ((∃ T, J Ls.length T W') ∨ (∃ i T, i ≤ Ls.length ∧ Jx i T W'))
/-- How a round may be left. -/
def postV (Rd T : Nat → Prop) (I : Nat → (Nat → Prop) → World → Prop) (Ix : Code → Nat → (Nat → Prop) → World → Prop) (i : Nat) (W : World) : Exit → Act → World → Prop
  | .normal, _, W' => KeepsT (fun b => T b ∨ Rd b) W W' ∧ I i T W'
  | .ret, _, W' => KeepsT T W W' ∧ Ix .ret i T W'
  | .exit id, _, W' => KeepsT T W W' ∧ Ix (.exit id) i T W'
  | .goto t, _, W' => KeepsT T W W' ∧ Ix (.goto t) i T W'
  | .panic _, _, _ => False
  | .outgrown, _, _ => False
theorem stepS_refl (T : Nat → Prop) (W : World) : StepS T W W := ⟨rfl, rfl, rfl, Nat.le_refl _, fun _ _ _ => rfl⟩
variable {F : Fence} {n : Nat} {P : Program}
theorem wpIn_rangeFunc_V {g : Operand} {ps : Array Tmp} {assign body : Code} {Q : Exit → Act → World → Prop} {a : Act} {w : World}
    (hro : F.round = none) (h1 : 1 ≤ n) {gf : Nat} {lb : Array Value} (hg : a.eval g = .func (.func gf) #[] lb) (hFg : F.fn gf) (eg : ∀ args w, (callFunc gf args).run P w = .ok (.enter gf args) w)
    {Rd T0 : Nat → Prop} {Ls : List (List Int)} {w0 : World} (hseq : SeqV F (n - 1) P gf lb Rd T0 Ls w0)
    (hT0 : ∀ b, T0 b ∨ Rd b → b < w.heap.size) (hb0 : Below w0.heap.size w0 w) (hk0 : ∀ b, T0 b ∨ Rd b → w.heap[b]? = w0.heap[b]?) (hps : ps.size = 1)
    (I : Nat → (Nat → Prop) → World → Prop) (Ix : Code → Nat → (Nat → Prop) → World → Prop) (hI : AbidesS I) (hIx : ∀ c, AbidesS (Ix c)) (h0 : I 0 T0 w) (ax : Value → Act)
    (hassign : ∀ (l : Nat) (v : Value) (W : World) (K : Act → World → Prop), K (ax v) W → assign.wpIn (F.inRound l) (n - 1 - 1) P (Exit.then K (fun _ _ _ => False)) { tmps := (ps.zip #[v]).foldl (fun t (p, v) => t.setIfInBounds p v) a.tmps, defers := [] } W)
    (hbody : ∀ (l i : Nat) (L : List Int) (T T1 : Nat → Prop) (v : Value) (W : World), Ls[i]? = some L → I i T1 W → (∀ b, T b → T1 b) → (∀ b, T1 b ∨ Rd b → b < W.heap.size) → SlB W (fun b => T1 b ∧ ¬ T b ∧ ¬ Rd b) v L → body.wpIn (F.inRound l) (n - 1 - 1) P (postV Rd T I Ix (i + 1) W) (ax v) W)
    (hdone : ∀ (D : Nat) (T : Nat → Prop) (W : World), w.heap.size ≤ D → I Ls.length T W → W.heap[D]? = some (.deferred (some [])) → T D → Q .normal { a with defers := { target := .collected D, args := #[] } :: a.defers } W)
    (hstop : ∀ (D : Nat) (c : Code) (i : Nat) (T : Nat → Prop) (W : World), w.heap.size ≤ D → i ≤ Ls.length → Ix c i T W → W.heap[D]? = some (.deferred (some [])) → T D → c.wpIn F n P Q { a with defers := { target := .collected D, args := #[] } :: a.defers } W) :
    (Code.rangeFunc g ps assign body).wpIn F n P Q a w := by
  refine wpIn_rangeFunc ?_
  intro fn hfn
  rw [hro]
  obtain ⟨rec, hrec⟩ : ∃ rec : LoopState → Option Code → Loop, rec = fun st pe => { state := st, pending := pe, fn, tmps := a.tmps, params := ps, assign, body, defers := w.heap.size } := ⟨_, rfl⟩
  obtain ⟨W1, hW1⟩ : ∃ W1, (w.alloc (.deferred (some []))).alloc (.loop (rec .ready none)) = W1 := ⟨_, rfl⟩
  obtain ⟨B, hB⟩ : ∃ B, w.heap.size = B := ⟨_, rfl⟩
  have hL1 : W1.heap[B + 1]? = some (.loop (rec .ready none)) := by
    rw [← hW1, ← hB]; have := World.alloc_heap_new (w.alloc (.deferred (some []))) (.loop (rec .ready none)); rwa [World.size_alloc] at this
  have hK1 : W1.heap[B]? = some (.deferred (some [])) := by
    rw [← hW1, ← hB]; exact (Below.heap_alloc _ _ _ (by simp)).trans (World.alloc_heap_new w _)
  have hsz1 : W1.heap.size = B + 2 := by rw [← hW1, ← hB]; simp
  have hI1 : I 0 (fun b => T0 b ∨ b = B ∨ b = B + 1) W1 := by
    refine hI 0 T0 w W1 _ h0 ?_ (fun b hb => ?_)
    · rw [← hW1]
      have a1 := stepS_alloc (T := T0) w (.deferred (some []))
      have a2 := stepS_alloc (T := T0) (w.alloc (.deferred (some []))) (.loop (rec .ready none))
      exact ⟨a2.os.trans a1.os, a2.tape.trans a1.tape, a2.output.trans a1.output, Nat.le_trans a1.size a2.size, fun k hk hn => (a2.block k (Nat.lt_of_lt_of_le hk a1.size) hn).trans (a1.block k hk hn)⟩
    · rcases hb with z | z | z
      · exact .inl z
      · exact .inr (by omega)
      · exact .inr (by omega)
  have hblk1 : ∀ k, k < B → W1.heap[k]? = w.heap[k]? := fun k hk => by
    rw [← hW1]; exact (Below.heap_alloc _ _ _ (by simp; omega)).trans (Below.heap_alloc _ _ _ (by omega))
  have hb1 : Below w0.heap.size w0 W1 := by
    rw [← hW1]; exact hb0.trans ((((Below.refl _ w).alloc (Nat.le_refl _) _).alloc (by simp) _).mono hb0.size)
  have hk1 : ∀ b, T0 b ∨ Rd b → W1.heap[b]? = w0.heap[b]? := fun b hb => (hblk1 b (by rw [← hB]; exact hT0 b hb)).trans (hk0 b hb)
  refine ⟨B + 1, [{ target := .collected B, args := #[] }], W1, { target := .fn (.func gf) lb, args := #[.func (.yield (B + 1)) #[] #[]] }, W1, gf,
    #[.func (.yield (B + 1)) #[] #[]] ++ lb, W1, ?_, ?_, ?_, ?_, fun _ => h1, ?_⟩
  · rw [← hW1, ← hB, hrec]; exact run_enterLoop_outer _ _ _ _ _
  · simp only [resolve, hg]
    simp [go_sem]
  · intro f' hf'; simp [Target.leads] at hf'; subst hf'; exact hFg
  · simp [invoke, go_sem, eg]
  · have keep2 : ∀ {T T' : Nat → Prop} {A C : World} {k : Nat} {o : Obj}, StepS T A C → (∀ b, T' b → T b ∨ (A.heap.size ≤ b ∧ b < C.heap.size)) → ¬ T k → A.heap[k]? = some o → C.heap[k]? = some o ∧ ¬ T' k := fun hs hT hn hk =>
      have hlt := (Array.getElem?_eq_some_iff.1 hk).1
      ⟨(hs.block _ hlt hn).trans hk, fun z => (hT _ z).elim hn (fun y => by omega)⟩
    have up : ∀ {T T' : Nat → Prop} {A C : World}, (∀ b, T' b → T b ∨ (A.heap.size ≤ b ∧ b < C.heap.size)) → ∀ b, (T' b ∨ b = B ∨ b = B + 1) → (T b ∨ b = B ∨ b = B + 1) ∨ (A.heap.size ≤ b ∧ b < C.heap.size) := fun hT b hb => by
      rcases hb with z | z
      · exact (hT b z).imp .inl id
      · exact .inl (.inr z)
    refine (hseq (B + 1)
      (fun i T W => I i (fun b => T b ∨ b = B ∨ b = B + 1) W ∧ (W.heap[B + 1]? = some (.loop (rec .ready none)) ∧ ¬ T (B + 1)) ∧ (W.heap[B]? = some (.deferred (some [])) ∧ ¬ T B))
      (fun i T W => ∃ c, Ix c i (fun b => T b ∨ b = B ∨ b = B + 1) W ∧ (W.heap[B + 1]? = some (.loop (rec .done (some c))) ∧ ¬ T (B + 1)) ∧ (W.heap[B]? = some (.deferred (some [])) ∧ ¬ T B))
      W1 hb1 hk1
      (fun s T A C T' hs hg' hT => ⟨hI s _ A C _ hs.1 (hg'.mono fun b hb => .inl hb) (up hT), keep2 hg' hT hs.2.1.2 hs.2.1.1, keep2 hg' hT hs.2.2.2 hs.2.2.1⟩)
      (fun s T A C T' hs hg' hT => by
        obtain ⟨c, hc, hl, hk⟩ := hs
        exact ⟨c, hIx c s _ A C _ hc (hg'.mono fun b hb => .inl hb) (up hT), keep2 hg' hT hl.2 hl.1, keep2 hg' hT hk.2 hk.1⟩)
      ?_ ⟨hI1, ⟨hL1, fun z => by have := hT0 _ (.inl z); omega⟩, ⟨hK1, fun z => by have := hT0 _ (.inl z); omega⟩⟩).mono ?_
    · -- one round
      rintro i L T T1 v W hLs ⟨hi, ⟨hl, hnl⟩, ⟨hk, hnk⟩⟩ hTT hlt1 hsl
      have hlt : B + 1 < W.heap.size := (Array.getElem?_eq_some_iff.1 hl).1
      have hy := run_yield (P := P) (args := #[v]) hl (by rw [hrec]; simp [hps])
      rw [hrec] at hy
      refine ⟨fn, _, assign, body, hy, roundIn_of_wpIn hfn (hassign _ v W _ ?_)⟩
      clear hy
      refine ⟨_, run_beginRound hl (by rw [hrec]), ?_⟩
      have hl2 : (W.putObj (B + 1) (.loop { rec .ready none with state := .busy })).heap[B + 1]? = some (.loop { rec .ready none with state := .busy }) := World.putObj_heap_same hlt
      have hk2 : (W.putObj (B + 1) (.loop { rec .ready none with state := .busy })).heap[B]? = some (.deferred (some [])) := (World.putObj_heap_other (by omega)).trans hk
      have hput : ∀ {T : Nat → Prop}, ¬ T (B + 1) → ∀ (X : World) (o : Obj), KeepsT (fun b => T b ∨ Rd b) X (X.putObj (B + 1) o) := fun hn X o => ⟨(grownBy_putObj' X _ o).size, fun b hb _ => World.putObj_heap_other (fun e => by cases e; exact hb.elim hn (fun z => by have := hT0 _ (.inr z); omega))⟩
      have hnT : ¬ T (B + 1) := fun z => hnl (hTT _ z)
      have hnT' : ¬ T B := fun z => hnk (hTT _ z)
      have hszp : (W.putObj (B + 1) (.loop { rec .ready none with state := .busy })).heap.size = W.heap.size := by simp [World.putObj]
      refine wpIn_mono (hbody _ i L (fun b => T b ∨ b = B ∨ b = B + 1) (fun b => T1 b ∨ b = B ∨ b = B + 1) v _ hLs (hI i _ W _ _ hi (stepS_putObj W (B + 1) _ (.inr (.inr rfl))) (fun b hb => .inl hb)) (fun b hb => hb.imp (hTT b) id) (fun b hb => ?_) (SlB.kept (SlB.mono hsl (fun j hj hb => ⟨.inl hb.1, fun z => ?_, hb.2.2⟩)) (fun j hj => World.putObj_heap_other (fun e => by have h := (hsl.own hj).1.1; cases e; exact hnl h)))) ?_
      · rw [hszp]
        rcases hb with (z | z | z) | z
        · exact hlt1 b (.inl z)
        · omega
        · omega
        · exact hlt1 b (.inr z)
      · rcases z with z | z | z
        · exact hb.2.1 z
        · subst z; exact hnk hb.1
        · subst z; exact hnl hb.1
      have fin : ∀ (jump : Option Code) (W3 : World), KeepsT (fun b => T b ∨ b = B ∨ b = B + 1) (W.putObj (B + 1) (.loop { rec .ready none with state := .busy })) W3 →
          (Instr.endRound (B + 1) jump).run P W3 = .ok (.bool jump.isNone) (W3.putObj (B + 1) (.loop (rec (if jump.isNone then .ready else .done) jump))) ∧
          W3.heap[B + 1]? = some (.loop { rec .ready none with state := .busy }) ∧
          (W3.putObj (B + 1) (.loop (rec (if jump.isNone then .ready else .done) jump))).heap[B + 1]? = some (.loop (rec (if jump.isNone then .ready else .done) jump)) ∧
          (W3.putObj (B + 1) (.loop (rec (if jump.isNone then .ready else .done) jump))).heap[B]? = some (.deferred (some [])) := fun jump W3 hk3 => by
        have hl3 := (hk3.2 (B + 1) (.inr (.inr rfl)) (by rw [hszp]; exact hlt)).trans hl2
        have := run_endRound (P := P) jump hl3
        rw [hrec] at this ⊢
        exact ⟨this, by rw [hrec] at hl3; exact hl3, World.putObj_heap_same (Array.getElem?_eq_some_iff.1 hl3).1, (World.putObj_heap_other (by omega)).trans ((hk3.2 B (.inr (.inl rfl)) (by rw [hszp]; omega)).trans hk2)⟩
      have kx : ∀ (o : Obj) (W3 : World), KeepsT (fun b => T b ∨ b = B ∨ b = B + 1) (W.putObj (B + 1) (.loop { rec .ready none with state := .busy })) W3 → KeepsT T W (W3.putObj (B + 1) o) := fun o W3 hk3 => by
        have e1 := hput hnT W (.loop { rec .ready none with state := .busy })
        have e2 := hput hnT W3 o
        exact (show KeepsT T _ _ from ⟨e1.1, fun b hb => e1.2 b (.inl hb)⟩).trans ((show KeepsT T _ _ from ⟨hk3.1, fun b hb => hk3.2 b (.inl hb)⟩).trans ⟨e2.1, fun b hb => e2.2 b (.inl hb)⟩)
      rintro e a3 W3 hp
      cases e with
      | normal =>
        obtain ⟨hkp3, hi3⟩ := hp
        obtain ⟨hr, hl3, hl4, hk4⟩ := fin none W3 ⟨hkp3.1, fun b hb => hkp3.2 b (.inl hb)⟩
        refine ⟨_, _, hr, .inl ⟨rfl, ⟨hI _ _ W3 _ _ hi3 (stepS_putObj W3 (B + 1) _ (.inr (.inr rfl))) (fun b hb => .inl hb), ⟨hl4, hnT⟩, ⟨hk4, hnT'⟩⟩, ?_⟩⟩
        exact ((hput hnT W _).trans ⟨hkp3.1, fun b hb => hkp3.2 b (hb.imp .inl id)⟩).trans (hput hnT _ _)
      | ret =>
        obtain ⟨hk3, hi3⟩ := hp
        obtain ⟨hr, hl3, hl4, hk4⟩ := fin (some .ret) W3 hk3
        exact ⟨_, _, hr, .inr ⟨rfl, ⟨.ret, hIx _ _ _ W3 _ _ hi3 (stepS_putObj W3 (B + 1) _ (.inr (.inr rfl))) (fun b hb => .inl hb), ⟨hl4, hnT⟩, ⟨hk4, hnT'⟩⟩, kx _ _ hk3⟩⟩
      | exit id =>
        obtain ⟨hk3, hi3⟩ := hp
        obtain ⟨hr, hl3, hl4, hk4⟩ := fin (some (.exit id)) W3 hk3
        exact ⟨_, _, hr, .inr ⟨rfl, ⟨.exit id, hIx _ _ _ W3 _ _ hi3 (stepS_putObj W3 (B + 1) _ (.inr (.inr rfl))) (fun b hb => .inl hb), ⟨hl4, hnT⟩, ⟨hk4, hnT'⟩⟩, kx _ _ hk3⟩⟩
      | goto t =>
        obtain ⟨hk3, hi3⟩ := hp
        obtain ⟨hr, hl3, hl4, hk4⟩ := fin (some (.goto t)) W3 hk3
        exact ⟨_, _, hr, .inr ⟨rfl, ⟨.goto t, hIx _ _ _ W3 _ _ hi3 (stepS_putObj W3 (B + 1) _ (.inr (.inr rfl))) (fun b hb => .inl hb), ⟨hl4, hnT⟩, ⟨hk4, hnT'⟩⟩, kx _ _ hk3⟩⟩
      | panic ch => exact hp.elim
      | outgrown => exact hp.elim
    · -- behind the iterator
      rintro e W2 ⟨⟨v, rfl⟩, (⟨T, hi, ⟨hl, hnl⟩, ⟨hk, hnk⟩⟩ | ⟨i, T, hil, c, hi, ⟨hl, hnl⟩, ⟨hk, hnk⟩⟩)⟩
      · refine ⟨none, _, by have := run_endLoop (P := P) hl (by rw [hrec]; simp); rw [hrec] at this; exact this, ?_⟩
        rw [← hB] at hi hk ⊢
        exact hdone _ _ _ (Nat.le_refl _) (hI _ _ W2 _ _ hi (stepS_putObj W2 _ _ (.inr (.inr rfl))) (fun b hb => .inl hb)) ((World.putObj_heap_other (by omega)).trans hk) (.inr (.inl rfl))
      · refine ⟨some c, _, by have := run_endLoop (P := P) hl (by rw [hrec]; simp); rw [hrec] at this; exact this, ?_⟩
        rw [← hB] at hi hk ⊢
        exact hstop _ c i _ _ (Nat.le_refl _) hil ((hIx c) _ _ W2 _ _ hi (stepS_putObj W2 _ _ (.inr (.inr rfl))) (fun b hb => .inl hb)) ((World.putObj_heap_other (by omega)).trans hk) (.inr (.inl rfl))
end Go.Proofs.Ytfcjfjmjcmanaaa.V
