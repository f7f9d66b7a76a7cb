/- SchedOwn: the walk of answers. -/
import Derived.Test.YtfcjfjmjcmanaaaOaq
import Derived.Test.YtfcjfjmjcmanaaaLoq
import Derived.Test.YtfcjfjmjcmanaaaGc
set_option linter.unusedVariables false
namespace Go.Proofs.Ytfcjfjmjcmanaaa.V
open Go Go.RowKit Go.Proofs.Ytfcjfjmjcmanaaa.X Go.Proofs.Ytfcjfjmjcmanaaa.O Go.Proofs.Ytfcjfjmjcmanaaa.B Go.Proofs.YtfcjfjmjcmanaaaW.PrintWords Go.Proofs.YtfcjfjmjcmanaaaW.PrintLast Go.Proofs.YtfcjfjmjcmanaaaW.PrintMore
/-- Books with n lists; theirs are the blocks B at most. -/
def Bks (W : World) (b : Nat) (B : Nat → Prop) (n : Nat) : Prop := ∃ T4 T5 v4 v5 vs us Ls, BkAt W T4 T5 b v4 v5 vs us Ls ∧ vs.length = n ∧ ∀ i, (T4 i ∨ T5 i ∨ i = b) → B i
variable {W : World} {B0 : Nat → Prop} {b : Nat}
theorem Own.start {T4 T5 : Nat → Prop} {v4 v5 : Value} {vs us : List Value} {Ls : List (List Int)} (hbk : BkAt W T4 T5 b v4 v5 vs us Ls) (hB : ∀ i, (T4 i ∨ T5 i ∨ i = b) → B0 i) (pv : Value) :
    Own W B0 b (W.heap.size + 1) (fun i => i = W.heap.size) ((W.alloc (.cells #[pv] 79)).alloc (.cells #[.slice none 0 0] 26)) vs Ls [] (fun _ => False) ((W.alloc (.cells #[pv] 79)).alloc (.cells #[.slice none 0 0] 26)) := by
  have hb : Below W.heap.size W ((W.alloc (.cells #[pv] 79)).alloc (.cells #[.slice none 0 0] 26)) := ((Below.refl _ W).alloc (Nat.le_refl _) _).alloc (by simp) _
  have b2 := Boxed.new (W.alloc (.cells #[pv] 79)) 26 (.slice none 0 0)
  simp only [World.size_alloc] at b2
  have hz : ((W.alloc (.cells #[pv] 79)).alloc (.cells #[.slice none 0 0] 26)).heap.size = W.heap.size + 2 := by simp
  have hbl : ∀ i, (T4 i ∨ T5 i ∨ i = b) → i < W.heap.size := fun i hi => by
    rcases hi with z | z | z
    · exact hbk.lt i (.inl z)
    · exact hbk.lt i (.inr z)
    · rw [z]; exact (Array.getElem?_eq_some_iff.1 hbk.hb).1
  exact ⟨T4, T5, fun _ => False, v4, v5, us, _, hbk.below hb, b2, RI.nil _ _, Turn.of_below hb, fun _ _ => rfl, fun i hi => ⟨.inl (hB i hi), by have := hbl i hi; omega, fun z => z, by have := hbl i hi; omega, fun z => z, by have := hbl i hi; omega⟩, fun i hi => hi.elim, fun i hi => hi.elim, fun i hi => by rw [hi]; exact ⟨Nat.le_refl _, by omega, by omega⟩, by omega⟩
theorem Own.fin {ba : Nat} {Xs T : Nat → Prop} {wL w : World} {vs : List Value} {Ls : List (List Int)} {L : List Int} (h : Own W B0 b ba Xs wL vs Ls L T w) : ∃ m, Boxed w ba 26 m ∧ SlB w (fun j => W.heap.size ≤ j) m L ∧ ∃ B', Bks w b B' vs.length ∧ (∀ i, B' i → (B0 i ∨ W.heap.size ≤ i) ∧ i < w.heap.size ∧ m.ownBlock ≠ some i) ∧ Turn B0 W w := by
  obtain ⟨T4, T5, A, v4, v5, us, m, h⟩ := h
  exact ⟨m, h.bx, h.row.slB.mono (fun j _ z => (h.hA j z).1), fun i => T4 i ∨ T5 i ∨ i = b, ⟨T4, T5, v4, v5, vs, us, Ls, h.bk, rfl, fun i hi => hi⟩, fun i hi => by have q := h.hB i hi; exact ⟨q.1, q.2.1, fun z => q.2.2.1 (h.row.2 i z)⟩, h.turn⟩
theorem boxed_injO {W : World} {b : Nat} {t t' : TypeId} {v v' : Value} (h : Boxed W b t v) (h' : Boxed W b t' v') : v = v' := Option.some.inj (h.cell.symm.trans h'.cell)
theorem cnt33 : cntAll 3 3 = 27 := by decide +kernel
theorem results_slotO {fn : Func} {p : Tmp} (h : fn.results = #[.tmp p]) (tmps : Array Value) (w : World) (v : Value) (hp : tmps.getD p undef = v) : (results fn tmps).run Try.prog w = .ok v w := by
  have hp' : tmps[p]?.getD undef = v := by simpa using hp
  simp [results, h, hp', go_sem]
theorem eq_nilO (g : Nat) (lb : Array Value) (W : World) : (binOp BinOp.eql 31 (.func (.func g) #[] lb) .nilFunc).run Try.prog W = .ok (.bool false) W := by
  kernel_rfl
theorem wholeO (g : Nat) (lb : Array Value) (W : World) : Calls Try.prog 66 #[.func (.func g) #[] lb] W fun e W' => e = .returned (.func (.func g) #[] lb) ∧ W' = W := by
  have heq := eq_nilO g lb
  go_enter Try.func66, Try.ntmps66
  go_wp2
  go_ret
  exact ⟨rfl, rfl⟩
theorem seq_allO (h d : Int) (n : Nat) (hn : 1 ≤ n) (w0 : World) (Ba Bd Bh : Nat) (ha : Boxed w0 Ba 3 (.int .i64 (cntAll h d : Int))) (hd : Boxed w0 Bd 3 (.int .i64 d)) (hh : Boxed w0 Bh 3 (.int .i64 h)) :
    SeqV Fence.wide n Try.prog 71 #[.pointer (some ⟨Ba, 0, none⟩), .pointer (some ⟨Bd, 0, none⟩), .pointer (some ⟨Bh, 0, none⟩)] (fun b => b = Ba ∨ b = Bd ∨ b = Bh) (fun _ => False) (allOf h d) w0 := by
  intro l J Jx W hW hk hJ hJx hY h0
  have ka : Boxed W Ba 3 (.int .i64 (cntAll h d : Int)) := (hk Ba (.inr (by simp))).trans ha
  have kd : Boxed W Bd 3 (.int .i64 d) := (hk Bd (.inr (by simp))).trans hd
  have kh : Boxed W Bh 3 (.int .i64 h) := (hk Bh (.inr (by simp))).trans hh
  exact all_in n hn l Ba Bd Bh h d _ (by simp) (by simp) (by simp) J Jx hJ hJx hY W (fun b hb => by rcases hb with z | z | z <;> rw [z]; exact ka.lt; exact kd.lt; exact kh.lt) ka kd kh h0
theorem one_rowO (wr : World) (x : Int) : SlB (wr.alloc (.cells #[.int .i64 x] 3)) (fun b => b = wr.heap.size) (.slice (some ⟨wr.heap.size, 0, none⟩) 1 1) [x] := by
  refine .inr ⟨wr.heap.size, 0, 1, #[.int .i64 x], by simp, rfl, by simp, by unfold maxLen; omega, by simp, World.alloc_heap_new wr _, fun i y hy => ?_⟩
  have hi : i < 1 := by
    have := (List.getElem?_eq_some_iff.1 hy).1
    simpa using this
  have : i = 0 := by omega
  subst this
  simp at hy
  simp [hy]
/-! ### how long the lists are -/
theorem mixes_len (S : List Int) : ∀ l ∈ mixesOf S, l.length ≤ 24 := by
  intro l hl
  unfold mixesOf at hl
  split at hl
  · rename_i h
    rw [gen_len _ _ _ _ hl]
    unfold fewOk at h
    exact (of_decide_eq_true h).2.1.2.2
  · cases hl
theorem fews_len (S : List Int) (most : Int) : ∀ l ∈ fewsOf S most, l.length ≤ 24 := by
  intro l hl
  unfold fewsOf at hl
  split at hl
  · rename_i h
    unfold fewO at h
    rw [Bool.and_eq_true] at h
    have h := h.1
    rw [gen_len _ _ _ _ hl]
    unfold fewOk at h
    exact (of_decide_eq_true h).2.1.2.2
  · cases hl
theorem flat_len {Ms : List (List Int)} (h : ∀ l ∈ Ms, l.length ≤ 24) : Ms.flatten.length ≤ 24 * Ms.length := by
  induction Ms with
  | nil => simp
  | cons M Ms ih =>
    have h1 := h M (by simp)
    have h2 := ih (fun l hl => h l (by simp [hl]))
    simp only [List.flatten_cons, List.length_append, List.length_cons]
    omega
theorem take_len {Ms : List (List Int)} (h : ∀ l ∈ Ms, l.length ≤ 24) (k : Nat) : (Ms.take k).flatten.length ≤ 24 * k := by
  have h1 := flat_len (Ms := Ms.take k) (fun l hl => h l (List.mem_of_mem_take hl))
  rw [List.length_take] at h1
  omega
theorem take_next {Ms : List (List Int)} {k : Nat} {M : List Int} (h : Ms[k]? = some M) : (Ms.take (k + 1)).flatten = (Ms.take k).flatten ++ M := by
  rw [List.take_add_one, h]; simp
/-- The first three answers, one behind the other. -/
noncomputable def ans0 (S : List Int) (n : Int) (P : List Int) (ps : List (Int × Int)) : List Int := [] ++ (nthOf S n).1 ++ [-1] ++ (leastOn P ps).1
theorem ans0_len (S : List Int) (n : Int) (P : List Int) (ps : List (Int × Int)) : (ans0 S n P ps).length ≤ 537 := by
  have h1 := (nth_any S n).2
  have h2 := leastOn_len P ps
  unfold ans0
  simp only [List.length_append, List.length_nil, List.length_singleton]
  omega
/-- How many of Few are taken. -/
def fewK (S : List Int) : Nat := 10 - min 5 (mixesOf S).length
/-- What answers hands out. -/
noncomputable def ansOf (S : List Int) (n : Int) (P : List Int) (ps : List (Int × Int)) : List Int := ans0 S n P ps ++ ((mixesOf S).take 5).flatten ++ ((fewsOf S 1).take (fewK S)).flatten
theorem ansOf_len (S : List Int) (n : Int) (P : List Int) (ps : List (Int × Int)) : (ansOf S n P ps).length ≤ 1000 := by
  have h1 := ans0_len S n P ps
  have h2 := take_len (mixes_len S) 5
  have h3 := take_len (fews_len S 1) (fewK S)
  have h4 : fewK S ≤ 10 := by unfold fewK; omega
  unfold ansOf
  simp only [List.length_append]
  omega
/-! ### a range whose end is one, left or not -/
section
variable {F : Fence} {n : Nat} {P : Program}
theorem rangeOne {g : Operand} {assign body : Code} {Q : Exit → Act → World → Prop} {a : Act} {w : World} (i j ex : Nat)
    (hro : F.round = none) (h1 : 1 ≤ n) {gf : Nat} {lb : Array Value} (hg : a.eval g = .func (.func gf) #[] lb) (hFg : F.fn gf) (eg : ∀ args w, (callFunc gf args).run P w = .ok (.enter gf args) w)
    {Rd : Nat → Prop} {Ms : List (List Int)} (hseq : SeqV F (n - 1) P gf lb Rd (fun _ => False) Ms w) (hRd : ∀ b, Rd b → b < w.heap.size)
    (I Z : Nat → (Nat → Prop) → World → Prop) (hI : AbidesS I) (hZ : AbidesS Z) (h0 : I 0 (fun _ => False) w)
    (hassign : ∀ (l : Nat) (v : Value) (W : World) (K : Act → World → Prop), K (axOf a i j v) W → assign.wpIn (F.inRound l) (n - 1 - 1) P (Exit.then K (fun _ _ _ => False)) { tmps := a.tmps.setIfInBounds i v, defers := [] } W)
    (hbody : ∀ (l k : Nat) (L : List Int) (T T1 : Nat → Prop) (v : Value) (W : World), Ms[k]? = some L → I k T1 W → (∀ b, T b → T1 b) → (∀ b, T1 b ∨ Rd b → b < W.heap.size) → SlB W (fun b => T1 b ∧ ¬ T b ∧ ¬ Rd b) v L → body.wpIn (F.inRound l) (n - 1 - 1) P (postV Rd T I (fun c k T W => c = .exit ex ∧ Z k T W) (k + 1) W) (axOf a i j v) W)
    (hend : ∀ T W, I Ms.length T W → Z Ms.length T W) (hQ : ∀ a W, Q .normal a W → Q (.exit ex) a W)
    (hnext : ∀ (D k : Nat) (T : Nat → Prop) (W : World), w.heap.size ≤ D → Z k T W → W.heap[D]? = some (.deferred (some [])) → T D → Q .normal { a with defers := { target := .collected D, args := #[] } :: a.defers } W) :
    (Code.rangeFunc g #[i] assign body).wpIn F n P Q a w :=
  wpIn_rangeFunc_V2 i j hro h1 hg hFg eg hseq (fun b hb => hRd b (hb.elim False.elim id)) (Below.refl _ _) (fun _ _ => rfl) I (fun c k T W => c = .exit ex ∧ Z k T W) hI (fun c => fun s T A B T' h hs hT => ⟨h.1, hZ s T A B T' h.2 hs hT⟩) h0 hassign hbody
    (fun D T W hD h hW hT => hnext D _ T W hD (hend T W h) hW hT)
    (fun D c k T W hD hk h hW hT => by obtain ⟨rfl, h⟩ := h; exact wpIn_exit (hQ _ _ (hnext D k T W hD h hW hT)))
end
/-- Between two rounds of answers: k lists are in. -/
def Jn (W : World) (B0 : Nat → Prop) (b ba : Nat) (Xs : Nat → Prop) (wL : World) (bk c0 kv0 : Nat) (L0 : List Int) (Ms : List (List Int)) (p : Nat → Prop) (k : Nat) (T : Nat → Prop) (w : World) : Prop :=
  p k ∧ ∃ vs Ls, vs.length = c0 + k ∧ Ls.length = c0 + k ∧ Own W B0 b ba Xs (wL.setCell ⟨bk, 0, none⟩ (.int .i64 ((kv0 + k : Nat) : Int))) vs Ls (L0 ++ (Ms.take k).flatten) T w
theorem Jn.abides (W : World) (B0 : Nat → Prop) (b ba : Nat) (Xs : Nat → Prop) (wL : World) (bk c0 kv0 : Nat) (L0 : List Int) (Ms : List (List Int)) (p : Nat → Prop) : AbidesS (Jn W B0 b ba Xs wL bk c0 kv0 L0 Ms p) := by
  rintro k T A B T' ⟨hp, vs, Ls, h1, h2, h⟩ hs hT
  exact ⟨hp, vs, Ls, h1, h2, h.step ⟨hs.os, hs.tape, hs.output, hs.size, hs.block⟩ hT⟩
theorem Jn.start {ba : Nat} {Xs : Nat → Prop} {wL : World} {bk c0 kv0 : Nat} {L0 : List Int} {Ms : List (List Int)} {p : Nat → Prop} {vs : List Value} {Ls : List (List Int)} {w : World} (h : Own W B0 b ba Xs wL vs Ls L0 (fun _ => False) w) (hv : vs.length = c0) (hL : Ls.length = c0) (hb : Boxed w bk 3 (.int .i64 (kv0 : Int))) (hp : p 0) : Jn W B0 b ba Xs w bk c0 kv0 L0 Ms p 0 (fun _ => False) w :=
  ⟨hp, vs, Ls, by simpa using hv, by simpa using hL, by simpa using h.here hb⟩
end Go.Proofs.Ytfcjfjmjcmanaaa.V
