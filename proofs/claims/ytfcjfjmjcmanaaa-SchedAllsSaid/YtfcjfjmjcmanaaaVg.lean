/- SchedAlls: the law's walk. -/
import Derived.Test.YtfcjfjmjcmanaaaVf
set_option linter.unusedVariables false
namespace Go.Proofs.Ytfcjfjmjcmanaaa.V
open Go Go.RowKit Go.Proofs.Ytfcjfjmjcmanaaa.O Go.Proofs.Ytfcjfjmjcmanaaa.B Go.Proofs.YtfcjfjmjcmanaaaW.PrintWords Go.Proofs.YtfcjfjmjcmanaaaW.PrintLast Go.Proofs.YtfcjfjmjcmanaaaW.PrintMore
attribute [local go_sem] Oper.semAt_some
theorem results_cell1 {fn : Func} {p : Tmp} (h : fn.results = #[.cell p 4]) (tmps : Array Value) (w : World) (b : Nat) (v : Value) (hp : tmps.getD p undef = .pointer (some ⟨b, 0, none⟩)) (hb : Boxed w b 4 v) : (results fn tmps).run Try.prog w = .ok v w := by
  have hp' : tmps[p]?.getD undef = .pointer (some ⟨b, 0, none⟩) := by simpa using hp
  have hc := hb.cell
  simp [results, h, hp', asAddr, go_sem, hc]
theorem seq_all (h d : Int) (n : Nat) (hn : 1 ≤ n) (w0 : World) (Ba Bd Bh : Nat) (ha : Boxed w0 Ba 3 (.int .i64 (cntAll h d : Int))) (hd : Boxed w0 Bd 3 (.int .i64 d)) (hh : Boxed w0 Bh 3 (.int .i64 h)) :
    SeqV Fence.wide n Try.prog 71 #[.pointer (some ⟨Ba, 0, none⟩), .pointer (some ⟨Bd, 0, none⟩), .pointer (some ⟨Bh, 0, none⟩)] (fun b => b = Ba ∨ b = Bd ∨ b = Bh) (fun _ => False) (allOf h d) w0 := by
  intro l J Jx W hW hk hJ hJx hY h0
  have ka : Boxed W Ba 3 (.int .i64 (cntAll h d : Int)) := (hk Ba (.inr (by simp))).trans ha
  have kd : Boxed W Bd 3 (.int .i64 d) := (hk Bd (.inr (by simp))).trans hd
  have kh : Boxed W Bh 3 (.int .i64 h) := (hk Bh (.inr (by simp))).trans hh
  exact all_in n hn l Ba Bd Bh h d _ (by simp) (by simp) (by simp) J Jx hJ hJx hY W (fun b hb => by rcases hb with z | z | z <;> rw [z]; exact ka.lt; exact kd.lt; exact kh.lt) ka kd kh h0
theorem eq_nil31 (g : Nat) (lb : Array Value) (W : World) : (binOp BinOp.eql 31 (.func (.func g) #[] lb) .nilFunc).run Try.prog W = .ok (.bool false) W := by
  kernel_rfl
theorem drawn_below {w w' : World} (h : Drawn0 w w') (n : Nat) : Below n w w' := by
  obtain ⟨k, rfl⟩ := h
  exact pw_below_drewN (Below.refl _ _) k
theorem bxb {w w' : World} {n B : Nat} {t : TypeId} {v : Value} (h : Boxed w B t v) (hb : Below n w w') (hn : B < n) : Boxed w' B t v := (hb.block B hn).trans h
/-- The boxes of the law and of the iterator. -/
structure Bx (h d most : Int) (b0 bt : Nat) (t : Int) (w : World) : Prop where
  h0 : Boxed w b0 3 (.int .i64 h)
  m0 : Boxed w (b0 + 1) 3 (.int .i64 most)
  r0 : Boxed w (b0 + 2) 4 (.bool false)
  a : Boxed w (b0 + 3 + 2) 3 (.int .i64 (cntAll h d : Int))
  d : Boxed w (b0 + 3 + 1) 3 (.int .i64 d)
  h : Boxed w (b0 + 3) 3 (.int .i64 h)
  t : Boxed w bt 3 (.int .i64 t)
theorem Bx.below {h d most t : Int} {b0 bt n : Nat} {w w' : World} (x : Bx h d most b0 bt t w) (hb : Below n w w') (h1 : b0 + 5 < n) (h2 : bt < n) : Bx h d most b0 bt t w' :=
  ⟨bxb x.h0 hb (by omega), bxb x.m0 hb (by omega), bxb x.r0 hb (by omega), bxb x.a hb (by omega), bxb x.d hb (by omega), bxb x.h hb (by omega), bxb x.t hb h2⟩
abbrev bks0 : Obj := .cells #[.slice none 0 0, .slice none 0 0, .slice none 0 0, .slice none 0 0, .slice none 0 0, .slice none 0 0, .slice none 0 0, .slice none 0 0, .slice none 0 0, .slice none 0 0, .slice none 0 0, .slice none 0 0, .slice none 0 0, .slice none 0 0] 42 (0, 0)
/-- While the first list that is wanted is made. -/
structure Wn (B : Nat) (w : World) (cb : Bool) (i : Nat) (wv : Value) (wr : World) : Prop where
  hb : wr.heap[B]? = some bks0
  m : Boxed wr (B + 1) 4 (.bool cb)
  n : Boxed wr (B + 1 + 1) 3 (.int .i64 0)
  wt : Boxed wr (B + 1 + 1 + 1) 26 wv
  row : RI wr (fun j => B + 1 + 1 + 1 < j) wv (List.replicate i 0)
  below : Below B w wr
theorem Wn.start {w : World} {B : Nat} (hB : w.heap.size = B) (cb : Bool) : Wn B w cb 0 (.slice none 0 0) ((((w.alloc bks0).alloc (.cells #[.bool cb] 4)).alloc (.cells #[.int .i64 0] 3)).alloc (.cells #[.slice none 0 0] 26)) := by
  subst hB
  have b1 := (((Boxed.new (w.alloc bks0) 4 (.bool cb)).alloc (.cells #[.int .i64 0] 3)).alloc (.cells #[.slice none 0 0] 26))
  have b2 := (Boxed.new ((w.alloc bks0).alloc (.cells #[.bool cb] 4)) 3 (.int .i64 0)).alloc (.cells #[.slice none 0 0] 26)
  have b3 := Boxed.new (((w.alloc bks0).alloc (.cells #[.bool cb] 4)).alloc (.cells #[.int .i64 0] 3)) 26 (.slice none 0 0)
  simp only [World.size_alloc] at b1 b2 b3
  refine ⟨?_, b1, b2, b3, RI.nil _ _, (((((Below.refl _ w).alloc (Nat.le_refl _) _).alloc (by simp) _).alloc (by simp; omega) _).alloc (by simp; omega) _)⟩
  exact (Below.heap_alloc _ _ _ (by simp; omega)).trans ((Below.heap_alloc _ _ _ (by simp; omega)).trans ((Below.heap_alloc _ _ _ (by simp)).trans (World.alloc_heap_new w _)))
theorem Wn.app {w wr W' : World} {B i : Nat} {cb : Bool} {wv m : Value} {o : Obj} (h : Wn B w cb i wv wr) (h1 : RI W' (fun j => (B + 1 + 1 + 1 < j) ∨ j = (wr.alloc o).heap.size) m (List.replicate i 0 ++ [0])) (hg : (wr.alloc o).grownBy W' wv.ownBlock) : W'.frozen? ⟨B + 1 + 1 + 1, 0, none⟩ = false ∧ W'.cell? ⟨B + 1 + 1 + 1, 0, none⟩ = some wv ∧ Wn B w cb (i + 1) m (W'.setCell ⟨B + 1 + 1 + 1, 0, none⟩ m) := by
  have hl := h.wt.lt
  have kp : ∀ b, b ≤ B + 1 + 1 + 1 → W'.heap[b]? = wr.heap[b]? := fun b hb => (hg.block b (by simp; omega) (fun e => by have := h.row.2 b e.symm; omega)).trans (Below.heap_alloc wr o b (by omega))
  have kp2 : ∀ b, b < B + 1 + 1 + 1 → (W'.setCell ⟨B + 1 + 1 + 1, 0, none⟩ m).heap[b]? = wr.heap[b]? := fun b hb => (Below.heap_setCell W' _ _ b (by show b ≠ B + 1 + 1 + 1; omega)).trans (kp b (by omega))
  have hw : Boxed W' (B + 1 + 1 + 1) 26 wv := (kp _ (Nat.le_refl _)).trans h.wt
  refine ⟨hw.frozen, hw.cell, ⟨(kp2 B (by omega)).trans h.hb, (kp2 _ (by omega)).trans h.m, (kp2 _ (by omega)).trans h.n, hw.set _, ?_, ?_⟩⟩
  · rw [List.replicate_succ']
    refine (h1.mono (T' := fun j => B + 1 + 1 + 1 < j) (fun j hj z => by rcases z with z | z; exact z; rw [z]; simp; omega)).kept (fun j hj => Below.heap_setCell W' _ _ j ?_)
    have := h1.2 j hj
    show j ≠ B + 1 + 1 + 1
    rcases this with z | z
    · omega
    · rw [z]; simp; omega
  · refine h.below.trans ⟨hg.os.trans rfl, hg.tape.trans rfl, hg.output.trans rfl, by have := hg.size; simp at this ⊢; omega, fun b hb => ?_⟩
    exact kp2 b (by omega)
theorem Wn.hv {w wr : World} {B : Nat} {cb : Bool} {i : Nat} {wv : Value} (h : Wn B w cb i wv wr) (cs : Nat → Nat) (ms : Nat → Bool) (ws : Nat → List Int) (h1 : cs 0 = 0) (h2 : ms 0 = cb) (h3 : ws 0 = List.replicate i 0) : Hv B B (B + 1) (B + 1 + 1) (B + 1 + 1 + 1) w cs ms ws 0 (fun _ => False) wr := by
  refine ⟨fun b hb => hb.elim, h.below, by have := h.wt.lt; omega, ?_⟩
  rw [h1, h2, h3]
  exact St.start wr h.hb h.m h.n h.wt h.row.slB (fun b hb => ⟨by omega, by omega, by omega, by omega, by omega⟩) (fun b hb => by omega)
theorem dst4 (B : Nat) : Dst B (B + 1) (B + 1 + 1) (B + 1 + 1 + 1) := ⟨by omega, by omega, by omega, by omega, by omega, by omega⟩
def wsOf (h d : Int) (i : Nat) : List Int := if i < cntAll h d then digs h.toNat d.toNat i else []
def msOf (h d : Int) (i : Nat) : Bool := decide (i < cntAll h d)
def csOf (i : Nat) : Nat := if i < 40 then i else 40
theorem len_snoc (i : Nat) : (List.replicate i (0 : Int) ++ [0]).length = i + 1 := by simp
theorem digs_start (h d : Nat) : digs h d 0 = List.replicate d 0 := by
  induction d with
  | zero => rfl
  | succ d ih => simp [digs, ih, List.replicate_succ']
theorem cnt_ok {H D : Nat} (hok : okAll H D) : cntAll H D = H ^ D := by unfold cntAll; rw [if_pos hok]; simp
theorem cnt_pos {H D : Nat} (hok : okAll H D) : 0 < cntAll H D := by rw [cnt_ok hok]; exact Nat.pow_pos (by have := hok.1; omega)
theorem msOf_zero {H D : Nat} (hok : okAll H D) : msOf H D 0 = true := decide_eq_true (cnt_pos hok)
theorem wsOf_zero {H D : Nat} (hok : okAll H D) : wsOf H D 0 = List.replicate D 0 := by unfold wsOf; rw [if_pos (cnt_pos hok)]; simpa using digs_start _ _
theorem msOf_lt {H D k : Nat} (hk : k < cntAll H D) : msOf H D k = true := decide_eq_true hk
theorem wsOf_lt {H D k : Nat} (hk : k < cntAll H D) : wsOf H D k = digs H D k := by unfold wsOf; rw [if_pos hk]; simp
theorem ms_next {H D k : Nat} (hok : okAll H D) : (nextOf H D k).1 = msOf H D (k + 1) := by
  unfold nextOf msOf
  rw [cnt_ok hok]
  split <;> simp_all
theorem ws_next {H D k : Nat} (hok : okAll H D) : (nextOf H D k).2 = wsOf H D (k + 1) := by
  unfold nextOf wsOf
  rw [cnt_ok hok]
  split <;> simp
theorem cs_next {k : Nat} : csOf (k + 1) = if k < 40 then csOf k + 1 else csOf k := by unfold csOf; split <;> split <;> (try split) <;> omega
theorem cnt_le (h d : Int) : cntAll h d ≤ 1048576 := by unfold cntAll; split; rename_i z; exact z.2.2; omega
theorem cs_le (k : Nat) : csOf k ≤ 40 := by unfold csOf; split <;> omega
theorem hv_next {base bk bm bn bw : Nat} {T : Nat → Prop} {W0 W X : World} {cs : Nat → Nat} {ms : Nat → Bool} {ws : Nat → List Int} {k c : Nat} {m : Bool} {L : List Int} (hT : ∀ b, T b → base ≤ b ∧ b < W.heap.size) (hB : Below base W0 W) (hs : base ≤ W.heap.size) (t : Turn (Mine base T) W X) (s : St base bk bm bn bw T X c m ((k : Int) + 1) L) (h1 : c = cs (k + 1)) (h2 : m = ms (k + 1)) (h3 : L = ws (k + 1)) : Hv base bk bm bn bw W0 cs ms ws (k + 1) T X := by
  have := t.size
  refine ⟨fun b hb => ⟨(hT b hb).1, by have := (hT b hb).2; omega⟩, hB.trans (Turn.mine t hs), by omega, ?_⟩
  rw [← h1, ← h2, ← h3]
  exact s
theorem turn_keeps {base : Nat} {T : Nat → Prop} {W X : World} (t : Turn (Mine base T) W X) : KeepsT T W X := ⟨t.size, fun b hb hl => t.block b hl (fun z => z.2 hb)⟩
theorem and_abides {β : Type} {J : β → (Nat → Prop) → World → Prop} (h : AbidesS J) (p : Prop) : AbidesS (fun s T W => J s T W ∧ p) := fun s T A B T' hs hg hT => ⟨h s T A B T' hs.1 hg hT, hs.2⟩
/-- What a turn begins with. -/
structure Tn (h d most : Int) (b0 bt : Nat) (t : Int) (W w : World) : Prop where
  bx : Bx h d most b0 bt t w
  below : Below b0 W w
  l0 : b0 + 5 < w.heap.size
set_option maxRecDepth 100000
set_option maxHeartbeats 4000000
theorem one_row (wr : World) (x : Int) : SlB (wr.alloc (.cells #[.int .i64 x] 3)) (fun b => b = wr.heap.size) (.slice (some ⟨wr.heap.size, 0, none⟩) 1 1) [x] := by
  refine .inr ⟨wr.heap.size, 0, 1, #[.int .i64 x], by simp, rfl, by simp, by unfold maxLen; omega, by simp, World.alloc_heap_new wr _, fun i y hy => ?_⟩
  have hi : i < 1 := by
    have := (List.getElem?_eq_some_iff.1 hy).1
    simpa using this
  have : i = 0 := by omega
  subst this
  simp at hy
  simp [hy]
theorem schedAlls_ok (H D : Nat) (most : Int) (hok : okAll H D) (W : World) : CallsIn Fence.wide 3 Try.prog 4 #[.int .i64 (H : Int), .int .i64 (D : Int), .int .i64 most] W fun e W' => e = .returned (.bool true) ∧ Below W.heap.size W W' := by
  obtain ⟨h, hh⟩ : ∃ h : Int, (H : Int) = h := ⟨_, rfl⟩
  obtain ⟨d, hd⟩ : ∃ d : Int, (D : Int) = d := ⟨_, rfl⟩
  have hH : 1 ≤ H ∧ H ≤ 16 := by have := hok.1; omega
  have hD : D ≤ 24 := by have := hok.2.1; omega
  have HOK := Aside0.mk hok
  have HM0 := Aside0.mk (msOf_zero hok)
  have HW0 := Aside0.mk (wsOf_zero hok)
  rw [hh, hd] at hok ⊢
  refine callsIn_of_wp_marks Try.func4 rfl trivial ?_ rfl
  simp only [Try.ntmps4, List.size_toArray, List.length_cons, List.length_nil, Nat.reduceAdd, Nat.reduceSub, Array.replicate_succ, Array.replicate_zero, List.push_toArray, List.append_toArray, List.nil_append, List.cons_append]
  have heq := eq_nil31 71
  have hcb : decide (okAll h d) = true := decide_eq_true hok
  obtain ⟨b0, hb0⟩ : ∃ b0, W.heap.size = b0 := ⟨_, rfl⟩
  have hB : Below b0 W (((W.alloc (.cells #[.int .i64 h] 3)).alloc (.cells #[.int .i64 most] 3)).alloc (.cells #[.bool false] 4)) ∧ Boxed (((W.alloc (.cells #[.int .i64 h] 3)).alloc (.cells #[.int .i64 most] 3)).alloc (.cells #[.bool false] 4)) b0 3 (.int .i64 h) ∧ Boxed (((W.alloc (.cells #[.int .i64 h] 3)).alloc (.cells #[.int .i64 most] 3)).alloc (.cells #[.bool false] 4)) (b0 + 1) 3 (.int .i64 most) ∧ Boxed (((W.alloc (.cells #[.int .i64 h] 3)).alloc (.cells #[.int .i64 most] 3)).alloc (.cells #[.bool false] 4)) (b0 + 2) 4 (.bool false) ∧ (((W.alloc (.cells #[.int .i64 h] 3)).alloc (.cells #[.int .i64 most] 3)).alloc (.cells #[.bool false] 4)).heap.size = b0 + 3 := by
    have b1 := ((Boxed.new W 3 (.int .i64 h)).alloc (.cells #[.int .i64 most] 3)).alloc (.cells #[.bool false] 4)
    have b2 := (Boxed.new (W.alloc (.cells #[.int .i64 h] 3)) 3 (.int .i64 most)).alloc (.cells #[.bool false] 4)
    have b3 := Boxed.new ((W.alloc (.cells #[.int .i64 h] 3)).alloc (.cells #[.int .i64 most] 3)) 4 (.bool false)
    simp only [World.size_alloc] at b2 b3
    rw [← hb0]
    exact ⟨((((Below.refl _ W).alloc (Nat.le_refl _) _).alloc (by simp) _).alloc (by simp; omega) _), b1, b2, b3, by simp⟩
  generalize hW0 : (((W.alloc (.cells #[.int .i64 h] 3)).alloc (.cells #[.int .i64 most] 3)).alloc (.cells #[.bool false] 4)) = W0 at hB
  have HB0 := Aside0.mk hB
  have c0 := hB.2.1.cell
  clear hB
  gi_wp2_with (first
    | (refine ⟨trivial, ?_⟩; gi_at_call 25; refine (callsIn_wide.2 (all_calls h d _)).mono ?_; rintro e w1 ⟨rfl, ka, kd, kh, kb⟩; rw [HB0.out.2.2.2.2] at ka kd kh kb ⊢; have c3 := Boxed.cell ((kb.block b0 (by omega)).trans HB0.out.2.1); have K1 := Aside0.mk (And.intro ka (And.intro kd (And.intro kh kb))); clear ka kd kh kb)
    | (refine ⟨trivial, ?_⟩; gi_at_call 26; refine (callsIn_wide.2 (canAll_calls h d _)).mono ?_; rintro e w2 ⟨rfl, hdr⟩; have hdb := drawn_below hdr w1.heap.size; have hl5 := K1.out.1.lt; have K2 := Aside0.mk (And.intro (K1.out.2.2.2.trans (hdb.mono (by omega))) (And.intro (bxb K1.out.1 hdb hl5) (And.intro (bxb K1.out.2.1 hdb (by omega)) (bxb K1.out.2.2.1 hdb (by omega))))); rw [hcb]; clear hdr hdb hl5 c3 K1))
  have TN : Aside0 (Tn h d most b0 w2.heap.size 0 W (w2.alloc (.cells #[.int .i64 0] 3))) := by
    have q := K2.out
    have l5 := q.2.1.lt
    have hb : Below w2.heap.size w2 (w2.alloc (.cells #[.int .i64 0] 3)) := (Below.refl _ w2).alloc (Nat.le_refl _) _
    have g := HB0.out
    exact ⟨⟨bxb (bxb g.2.1 q.1 (by omega)) hb (by omega), bxb (bxb g.2.2.1 q.1 (by omega)) hb (by omega), bxb (bxb g.2.2.2.1 q.1 (by omega)) hb (by omega), bxb q.2.1 hb (by omega), bxb q.2.2.1 hb (by omega), bxb q.2.2.2 hb (by omega), Boxed.new w2 3 (.int .i64 0)⟩, (g.1.trans (q.1.mono (by omega))).trans (hb.mono (by omega)), by simp; omega⟩
  clear K2 HB0 c0 hcb hW0
  obtain ⟨bt, hbt⟩ : ∃ bt, w2.heap.size = bt := ⟨_, rfl⟩
  rw [hbt] at TN ⊢
  generalize w2.alloc (.cells #[.int .i64 0] 3) = w at TN ⊢
  clear hbt w2 w1
  subst hd
  subst hh
  refine wpIn_loop_rounds 3 ?_
  rw [roundsIn_succ]
  have ct := TN.out.bx.t.cell
  obtain ⟨B, hBs⟩ : ∃ B, w.heap.size = B := ⟨_, rfl⟩
  have HBS := Aside0.mk hBs
  have WN := Aside0.mk (Wn.start hBs true)
  gi_wp2
  gi_loopw [14] (fun p wr => ∃ (i : Nat) (wv : Value), p = .int .i64 (i : Int) ∧ Aside0 (i ≤ D) ∧ Aside0 (Wn B w true i wv wr)) (fun p _ => D - (intOf p).toNat)
  case atStart => exact ⟨0, _, rfl, ⟨by omega⟩, WN⟩
  case round =>
    clear WN ct
    obtain ⟨i, wv, rfl, Hi, WN⟩ := hrel
    by_cases hlt : i < D
    · have cw := WN.out.wt.cell
      have hlt1 : ((i : Int) < (D : Int)) = True := eq_true (by omega)
      have HLT := Aside0.mk hlt
      have wi := Aside0.mk (w1 i (by omega))
      replace hlt := eq_true hlt
      gi_wp2_with (gi_at_builtin; go_loud (refine wpListIn_cat rfl _ _ rfl (WN.out.row.kept (W' := wr.alloc (.cells #[.int .i64 0] 3)) (fun j hj => Below.heap_alloc wr _ j (WN.out.row.lt hj).2)) (one_row wr 0) (by have := HLT.out; simp; omega) rfl rfl ?_; intro m' w7 h1 h2 h3; obtain ⟨f7, c7, wn7⟩ := WN.out.app h1 h2; obtain ⟨A7, d7, e7⟩ := h1.slB.slice; rw [len_snoc] at e7; subst e7; have WN7 := Aside0.mk wn7; clear wn7 h1 h2 h3))
      exact ⟨⟨i + 1, _, by first | rfl | rw [wi.out], ⟨by have := HLT.out; omega⟩, WN7⟩, by first | (simp only [intOf]; have := HLT.out; omega) | (rw [wi.out]; simp only [intOf]; have := HLT.out; omega)⟩
    · have hiD : i = D := by have := Hi.out; omega
      rw [hiD] at WN ⊢
      clear hlt Hi hiD
      have HBX := Aside0.mk (TN.out.bx.below WN.out.below (by have := TN.out.l0; have := HBS.out; omega) (by have := TN.out.bx.t.lt; have := HBS.out; omega))
      have HV0 := Aside0.mk (WN.out.hv csOf (msOf H D) (wsOf H D) rfl HM0.out HW0.out)
      have HBB : Aside0 (b0 + 5 < B ∧ bt < B) := ⟨by have := TN.out.l0; have := HBS.out; omega, by have := TN.out.bx.t.lt; have := HBS.out; omega⟩
      gi_wp2
      refine wpIn_rangeFunc_V2 41 15 rfl (by omega) (gf := 71) rfl trivial (enters_of Try.func71 (by kernel_rfl) rfl) (seq_all H D 2 (by omega) wr _ _ _ HBX.out.a HBX.out.d HBX.out.h) (fun b hb => by rcases hb with z | z | z | z; exact z.elim; rw [z]; exact HBX.out.a.lt; rw [z]; exact HBX.out.d.lt; rw [z]; exact HBX.out.h.lt) (Below.refl _ _) (fun b hb => rfl) (Hv B B (B + 1) (B + 1 + 1) (B + 1 + 1 + 1) w csOf (msOf H D) (wsOf H D))
        (fun c k T W' => Hv B B (B + 1) (B + 1 + 1) (B + 1 + 1 + 1) w csOf (fun _ => false) (wsOf H D) k T W' ∧ c = .exit 4) (hv_abides _ _ _ _ _ _ _ _ _) (fun c => and_abides (hv_abides _ _ _ _ _ _ _ _ _) _) HV0.out ?assign0 ?body0 ?done0 ?stop0
      case assign0 =>
        intro l v W5 K hK
        simp only [axOf, List.setIfInBounds_toArray, List.set_cons_succ, List.set_cons_zero] at hK ⊢
        gi_wp2
        exact hK
      case body0 =>
        rintro l k L T T1 v W5 hL ⟨q1, q2, q3, q4⟩ hTT hlt1 hv
        have hkN : k < cntAll H D := by have := (List.getElem?_eq_some_iff.1 hL).1; rwa [allOf_len] at this
        have hLd : L = digs H D k := by rw [allOf_get hkN] at hL; cases hL; simp
        subst hLd
        rw [msOf_lt hkN, wsOf_lt hkN] at q4
        have hkM : k < 1048576 := Nat.lt_of_lt_of_le hkN (cnt_le _ _)
        have hkP : k < H ^ D := by have h1 := hkN; rw [cnt_ok HOK.out] at h1; exact h1
        obtain ⟨wv, Tw, cm, cn, cw, sw⟩ := q4.boxes
        obtain ⟨Aw, cc, eW⟩ := sw.slice
        obtain ⟨Av, cv, eV⟩ := hv.slice
        rw [digs_len] at eW eV
        subst eW eV
        have HBX5 := Aside0.mk (TN.out.bx.below q2 HBB.out.1 HBB.out.2)
        have z1 := cm.cell
        have z2 := cw.cell
        simp only [axOf, List.setIfInBounds_toArray, List.set_cons_succ, List.set_cons_zero]
        have Q4 := Aside0.mk q4
        have HVV := Aside0.mk hv
        have SW := Aside0.mk sw
        have HT1 := Aside0.mk q1
        have HTT := Aside0.mk hTT
        have HQ2 := Aside0.mk q2
        have HKN := Aside0.mk hkN
        have HKP := Aside0.mk hkP
        have HQ3 := Aside0.mk q3
        have HKM := Aside0.mk hkM
        have wk : wrap64 ((k : Int) + 1) = (k : Int) + 1 := X.hwrId (by omega) (by omega)
        have HTL : Aside0 (∀ b, T b → B ≤ b ∧ b < W5.heap.size) := ⟨fun b hb => HT1.out b (HTT.out b hb)⟩
        clear q1 q2 q3 q4 hTT hlt1 hv sw cm cn cw hL hkN hkP
        by_cases hk40 : k < 40
        · have hk1 : ((k : Int) < 40) = True := eq_true (by omega)
          have HC : Aside0 (csOf k + 1 = csOf (k + 1)) := ⟨by rw [cs_next, if_pos hk40]⟩
          replace hk40 := eq_true hk40
          by_cases hmost : most ≤ (k : Int) + 1
          · replace hmost := eq_true hmost
            gi_wp2_with (first
              | (refine ⟨trivial, ?_⟩; gi_at_call 24; refine (CallsIn.inRound l (callsIn_wide.2 (same_calls HVV.out SW.out (by rw [digs_len]; omega)))).mono ?_; rintro e w8 ⟨rfl, hdr⟩; have S8 := Aside0.mk (Q4.out.drawn hdr); have HB8 := Aside0.mk (drawn_below hdr W5.heap.size); clear hdr z1 z2; obtain ⟨wv8, Tw8, cm8, cn8, cw8, sw8⟩ := S8.out.boxes; have y1 := cn8.cell; clear cm8 cn8 cw8 sw8)
              | (refine ⟨trivial, ?_⟩; gi_at_call 27; go_loud (refine (CallsIn.inRound l (callsIn_wide.2 (St.ints (T := T) S8.out (dst4 B) (Nat.le_trans HQ3.out HB8.out.size) HTT.out (fun b hb => ⟨(HT1.out b hb).1, Nat.lt_of_lt_of_le (HT1.out b hb).2 HB8.out.size⟩) (HVV.out.kept (fun j hj => HB8.out.block j (HVV.out.own hj).2)) (by rw [digs_len]; omega) (by have := cs_le k; omega)))).mono ?_; rintro e w9 ⟨⟨r, rfl⟩, s9, t9⟩; have S9 := Aside0.mk s9; have T9 : Aside0 (Turn (Mine B T) W5 w9) := ⟨Turn.cons (Turn.of_below HB8.out) t9⟩; clear s9 t9; obtain ⟨wv9, Tw9, cm9, cn9, cw9, sw9⟩ := S9.out.boxes; obtain ⟨A9, c9, e9⟩ := sw9.slice; rw [digs_len] at e9; subst e9; have x1 := cw9.cell; have HBX9 := Aside0.mk (HBX5.out.below (Turn.mine T9.out HQ3.out) HBB.out.1 HBB.out.2); have x2 := HBX9.out.h0.cell; have SW9 := Aside0.mk sw9;  clear cm9 cw9 sw9 cn9))
              | (refine ⟨trivial, ?_⟩; gi_at_call 28; go_loud (refine (CallsIn.inRound l (callsIn_wide.2 (next_calls H D k hH hD HKP.out SW9.out))).mono ?_; rintro e w10 ⟨u, rfl, hu, hb10⟩; obtain ⟨Au, cu, eu⟩ := hu.slice; subst eu; obtain ⟨f10, ⟨wv10, c10⟩, s10, t10⟩ := S9.out.next (dst4 B) (fun b hb => Nat.lt_of_lt_of_le (HTL.out b hb).2 T9.out.size) (Nat.le_trans HQ3.out T9.out.size) hb10 hu; obtain ⟨f11, c11, s11, t11⟩ := s10.setM (dst4 B) (nextOf H D k).1; obtain ⟨f12, c12, s12, t12⟩ := s11.setN (dst4 B) ((k : Int) + 1); have t12' := Turn.cons T9.out (Turn.cons t10 (Turn.cons t11 t12)); have bx12 := HBX5.out.below (Turn.mine t12' HQ3.out) HBB.out.1 HBB.out.2; have v1 := bx12.t.cell; have v2 := bx12.m0.cell; obtain ⟨wx, Tx, bm12, bn12, bw12, sx⟩ := s12.boxes; have v3 := bn12.cell; have v4 := bm12.frozen; have v5 := bm12.cell; have S12 := Aside0.mk s12; have T12 := Aside0.mk t12'; clear s10 t10 s11 t11 s12 t12 t12' bx12 bm12 bn12 bw12 sx hu hb10)))
            obtain ⟨f13, c13, s13, t13⟩ := S12.out.setM (dst4 B) false
            exact ⟨turn_keeps (Turn.cons T12.out t13), hv_next HTL.out HQ2.out HQ3.out (Turn.cons T12.out t13) s13 HC.out rfl (ws_next HOK.out), rfl⟩
          · replace hmost := eq_false hmost
            gi_wp2_with (first
              | (refine ⟨trivial, ?_⟩; gi_at_call 24; refine (CallsIn.inRound l (callsIn_wide.2 (same_calls HVV.out SW.out (by rw [digs_len]; omega)))).mono ?_; rintro e w8 ⟨rfl, hdr⟩; have S8 := Aside0.mk (Q4.out.drawn hdr); have HB8 := Aside0.mk (drawn_below hdr W5.heap.size); clear hdr z1 z2; obtain ⟨wv8, Tw8, cm8, cn8, cw8, sw8⟩ := S8.out.boxes; have y1 := cn8.cell; clear cm8 cn8 cw8 sw8)
              | (refine ⟨trivial, ?_⟩; gi_at_call 27; go_loud (refine (CallsIn.inRound l (callsIn_wide.2 (St.ints (T := T) S8.out (dst4 B) (Nat.le_trans HQ3.out HB8.out.size) HTT.out (fun b hb => ⟨(HT1.out b hb).1, Nat.lt_of_lt_of_le (HT1.out b hb).2 HB8.out.size⟩) (HVV.out.kept (fun j hj => HB8.out.block j (HVV.out.own hj).2)) (by rw [digs_len]; omega) (by have := cs_le k; omega)))).mono ?_; rintro e w9 ⟨⟨r, rfl⟩, s9, t9⟩; have S9 := Aside0.mk s9; have T9 : Aside0 (Turn (Mine B T) W5 w9) := ⟨Turn.cons (Turn.of_below HB8.out) t9⟩; clear s9 t9; obtain ⟨wv9, Tw9, cm9, cn9, cw9, sw9⟩ := S9.out.boxes; obtain ⟨A9, c9, e9⟩ := sw9.slice; rw [digs_len] at e9; subst e9; have x1 := cw9.cell; have HBX9 := Aside0.mk (HBX5.out.below (Turn.mine T9.out HQ3.out) HBB.out.1 HBB.out.2); have x2 := HBX9.out.h0.cell; have SW9 := Aside0.mk sw9;  clear cm9 cw9 sw9 cn9))
              | (refine ⟨trivial, ?_⟩; gi_at_call 28; go_loud (refine (CallsIn.inRound l (callsIn_wide.2 (next_calls H D k hH hD HKP.out SW9.out))).mono ?_; rintro e w10 ⟨u, rfl, hu, hb10⟩; obtain ⟨Au, cu, eu⟩ := hu.slice; subst eu; obtain ⟨f10, ⟨wv10, c10⟩, s10, t10⟩ := S9.out.next (dst4 B) (fun b hb => Nat.lt_of_lt_of_le (HTL.out b hb).2 T9.out.size) (Nat.le_trans HQ3.out T9.out.size) hb10 hu; obtain ⟨f11, c11, s11, t11⟩ := s10.setM (dst4 B) (nextOf H D k).1; obtain ⟨f12, c12, s12, t12⟩ := s11.setN (dst4 B) ((k : Int) + 1); have t12' := Turn.cons T9.out (Turn.cons t10 (Turn.cons t11 t12)); have bx12 := HBX5.out.below (Turn.mine t12' HQ3.out) HBB.out.1 HBB.out.2; have v1 := bx12.t.cell; have v2 := bx12.m0.cell; obtain ⟨wx, Tx, bm12, bn12, bw12, sx⟩ := s12.boxes; have v3 := bn12.cell; have v4 := bm12.frozen; have v5 := bm12.cell; have S12 := Aside0.mk s12; have T12 := Aside0.mk t12'; clear s10 t10 s11 t11 s12 t12 t12' bx12 bm12 bn12 bw12 sx hu hb10)))
            exact ⟨Turn.keepsT T12.out (fun b hb => by have := HBB.out; rcases hb with z | z | z <;> omega), hv_next HTL.out HQ2.out HQ3.out T12.out S12.out HC.out (ms_next HOK.out) (ws_next HOK.out)⟩
        · have hk1 : ((k : Int) < 40) = False := eq_false (by omega)
          have HC : Aside0 (csOf k = csOf (k + 1)) := ⟨by rw [cs_next, if_neg hk40]⟩
          replace hk40 := eq_false hk40
          by_cases hmost : most ≤ (k : Int) + 1
          · replace hmost := eq_true hmost
            gi_wp2_with (first
              | (refine ⟨trivial, ?_⟩; gi_at_call 24; refine (CallsIn.inRound l (callsIn_wide.2 (same_calls HVV.out SW.out (by rw [digs_len]; omega)))).mono ?_; rintro e w8 ⟨rfl, hdr⟩; have S8 := Aside0.mk (Q4.out.drawn hdr); have HB8 := Aside0.mk (drawn_below hdr W5.heap.size); clear hdr z1 z2; have S9 := Aside0.mk (S8.out.less HTT.out); have T9 : Aside0 (Turn (Mine B T) W5 w8) := ⟨Turn.of_below HB8.out⟩; obtain ⟨wv9, Tw9, cm9, cn9, cw9, sw9⟩ := S9.out.boxes; obtain ⟨A9, c9, e9⟩ := sw9.slice; rw [digs_len] at e9; subst e9; have x1 := cw9.cell; have HBX9 := Aside0.mk (HBX5.out.below (Turn.mine T9.out HQ3.out) HBB.out.1 HBB.out.2); have x2 := HBX9.out.h0.cell; have SW9 := Aside0.mk sw9; have y1 := cn9.cell; clear cm9 cw9 sw9 cn9)
              | (refine ⟨trivial, ?_⟩; gi_at_call 28; go_loud (refine (CallsIn.inRound l (callsIn_wide.2 (next_calls H D k hH hD HKP.out SW9.out))).mono ?_; rintro e w10 ⟨u, rfl, hu, hb10⟩; obtain ⟨Au, cu, eu⟩ := hu.slice; subst eu; obtain ⟨f10, ⟨wv10, c10⟩, s10, t10⟩ := S9.out.next (dst4 B) (fun b hb => Nat.lt_of_lt_of_le (HTL.out b hb).2 T9.out.size) (Nat.le_trans HQ3.out T9.out.size) hb10 hu; obtain ⟨f11, c11, s11, t11⟩ := s10.setM (dst4 B) (nextOf H D k).1; obtain ⟨f12, c12, s12, t12⟩ := s11.setN (dst4 B) ((k : Int) + 1); have t12' := Turn.cons T9.out (Turn.cons t10 (Turn.cons t11 t12)); have bx12 := HBX5.out.below (Turn.mine t12' HQ3.out) HBB.out.1 HBB.out.2; have v1 := bx12.t.cell; have v2 := bx12.m0.cell; obtain ⟨wx, Tx, bm12, bn12, bw12, sx⟩ := s12.boxes; have v3 := bn12.cell; have v4 := bm12.frozen; have v5 := bm12.cell; have S12 := Aside0.mk s12; have T12 := Aside0.mk t12'; clear s10 t10 s11 t11 s12 t12 t12' bx12 bm12 bn12 bw12 sx hu hb10)))
            obtain ⟨f13, c13, s13, t13⟩ := S12.out.setM (dst4 B) false
            exact ⟨turn_keeps (Turn.cons T12.out t13), hv_next HTL.out HQ2.out HQ3.out (Turn.cons T12.out t13) s13 HC.out rfl (ws_next HOK.out), rfl⟩
          · replace hmost := eq_false hmost
            gi_wp2_with (first
              | (refine ⟨trivial, ?_⟩; gi_at_call 24; refine (CallsIn.inRound l (callsIn_wide.2 (same_calls HVV.out SW.out (by rw [digs_len]; omega)))).mono ?_; rintro e w8 ⟨rfl, hdr⟩; have S8 := Aside0.mk (Q4.out.drawn hdr); have HB8 := Aside0.mk (drawn_below hdr W5.heap.size); clear hdr z1 z2; have S9 := Aside0.mk (S8.out.less HTT.out); have T9 : Aside0 (Turn (Mine B T) W5 w8) := ⟨Turn.of_below HB8.out⟩; obtain ⟨wv9, Tw9, cm9, cn9, cw9, sw9⟩ := S9.out.boxes; obtain ⟨A9, c9, e9⟩ := sw9.slice; rw [digs_len] at e9; subst e9; have x1 := cw9.cell; have HBX9 := Aside0.mk (HBX5.out.below (Turn.mine T9.out HQ3.out) HBB.out.1 HBB.out.2); have x2 := HBX9.out.h0.cell; have SW9 := Aside0.mk sw9; have y1 := cn9.cell; clear cm9 cw9 sw9 cn9)
              | (refine ⟨trivial, ?_⟩; gi_at_call 28; go_loud (refine (CallsIn.inRound l (callsIn_wide.2 (next_calls H D k hH hD HKP.out SW9.out))).mono ?_; rintro e w10 ⟨u, rfl, hu, hb10⟩; obtain ⟨Au, cu, eu⟩ := hu.slice; subst eu; obtain ⟨f10, ⟨wv10, c10⟩, s10, t10⟩ := S9.out.next (dst4 B) (fun b hb => Nat.lt_of_lt_of_le (HTL.out b hb).2 T9.out.size) (Nat.le_trans HQ3.out T9.out.size) hb10 hu; obtain ⟨f11, c11, s11, t11⟩ := s10.setM (dst4 B) (nextOf H D k).1; obtain ⟨f12, c12, s12, t12⟩ := s11.setN (dst4 B) ((k : Int) + 1); have t12' := Turn.cons T9.out (Turn.cons t10 (Turn.cons t11 t12)); have bx12 := HBX5.out.below (Turn.mine t12' HQ3.out) HBB.out.1 HBB.out.2; have v1 := bx12.t.cell; have v2 := bx12.m0.cell; obtain ⟨wx, Tx, bm12, bn12, bw12, sx⟩ := s12.boxes; have v3 := bn12.cell; have v4 := bm12.frozen; have v5 := bm12.cell; have S12 := Aside0.mk s12; have T12 := Aside0.mk t12'; clear s10 t10 s11 t11 s12 t12 t12' bx12 bm12 bn12 bw12 sx hu hb10)))
            exact ⟨Turn.keepsT T12.out (fun b hb => by have := HBB.out; rcases hb with z | z | z <;> omega), hv_next HTL.out HQ2.out HQ3.out T12.out S12.out HC.out (ms_next HOK.out) (ws_next HOK.out)⟩
      case done0 =>
        rintro D5 T W5 hD5 hv5 hK hTD
        rw [allOf_len] at hv5
        obtain ⟨q1, q2, q3, q4⟩ := hv5
        have hmN : msOf H D (cntAll H D) = false := decide_eq_false (by omega)
        rw [hmN] at q4
        obtain ⟨wv5, Tw5, cm5, cn5, cw5, sw5⟩ := q4.boxes
        have z1 := cm5.cell
        have HBX5 := Aside0.mk (TN.out.bx.below q2 HBB.out.1 HBB.out.2)
        have HQ2 := Aside0.mk q2
        have HQ3 := Aside0.mk q3
        have HQ1 := Aside0.mk q1
        have HTD := Aside0.mk hTD
        have HK := Aside0.mk hK
        have AP := Aside0.mk q4.apart
        clear q1 q2 q3 q4 cm5 cn5 cw5 sw5 hK hTD
        gi_wp2_with (refine ⟨trivial, ?_⟩; gi_at_call 29; go_loud (refine (callsIn_wide.2 AP.out).mono ?_; rintro e w6 ⟨rfl, t6⟩; have T6 := Aside0.mk t6; have HBX6 := Aside0.mk (HBX5.out.below (Turn.mine t6 HQ3.out) HBB.out.1 HBB.out.2); have x1 := HBX6.out.t.cell; clear t6 z1))
        have TN2 : Aside0 (Tn H D most b0 w6.heap.size 1 W (w6.alloc (.cells #[.int .i64 1] 3))) := by
          have hb : Below w6.heap.size w6 (w6.alloc (.cells #[.int .i64 1] 3)) := (Below.refl _ w6).alloc (Nat.le_refl _) _
          have h5 : W5.heap.size ≤ w6.heap.size := T6.out.size
          have h6 := HQ3.out
          have h7 := HBB.out
          have q := HBX6.out
          exact ⟨⟨bxb q.h0 hb (by omega), bxb q.m0 hb (by omega), bxb q.r0 hb (by omega), bxb q.a hb (by omega), bxb q.d hb (by omega), bxb q.h hb (by omega), Boxed.new w6 3 (.int .i64 1)⟩, (TN.out.below.trans ((HQ2.out.trans (Turn.mine T6.out HQ3.out)).mono (by omega))).trans (hb.mono (by omega)), by simp; omega⟩
        have DFN : Aside0 ((w6.alloc (.cells #[.int .i64 1] 3)).heap[D5]? = some (.deferred (some []))) := by
          have hl : D5 < W5.heap.size := (Array.getElem?_eq_some_iff.1 HK.out).1
          exact ⟨(Below.heap_alloc _ _ _ (by have := T6.out.size; omega)).trans ((T6.out.block D5 hl (fun z => z.2 HTD.out)).trans HK.out)⟩
        have HD1 : Aside0 (b0 ≤ D5) := ⟨by have := (HQ1.out D5 HTD.out).1; have := HBB.out; omega⟩
        clear TN HQ1 HQ2 HQ3 HTD HK AP T6 HBX6 HBX5 HBX HV0 HBB WN HBS hBs hD5 x1
        try clear hmN hk
        generalize D5 = D1 at DFN HD1 ⊢
        have DF1 := DFN
        have TN := TN2
        clear DFN TN2
        obtain ⟨bt2, hbt2⟩ : ∃ b, w6.heap.size = b := ⟨_, rfl⟩
        rw [hbt2] at TN ⊢
        generalize w6.alloc (.cells #[.int .i64 1] 3) = w9 at TN DF1 ⊢
        clear hbt2 w6 W5
        try clear wr
        try clear w
        generalize w9 = w at TN DF1 ⊢
        try clear bt
        generalize bt2 = bt at TN ⊢
        rw [roundsIn_succ]
        have ct := TN.out.bx.t.cell
        obtain ⟨B, hBs⟩ : ∃ B, w.heap.size = B := ⟨_, rfl⟩
        have HBS := Aside0.mk hBs
        have WN := Aside0.mk (Wn.start hBs true)
        gi_wp2
        gi_loopw [14] (fun p wr => ∃ (i : Nat) (wv : Value), p = .int .i64 (i : Int) ∧ Aside0 (i ≤ D) ∧ Aside0 (Wn B w true i wv wr)) (fun p _ => D - (intOf p).toNat)
        case atStart => exact ⟨0, _, rfl, ⟨by omega⟩, WN⟩
        case round =>
          clear WN ct
          obtain ⟨i, wv, rfl, Hi, WN⟩ := hrel
          by_cases hlt : i < D
          · have cw := WN.out.wt.cell
            have hlt1 : ((i : Int) < (D : Int)) = True := eq_true (by omega)
            have HLT := Aside0.mk hlt
            have wi := Aside0.mk (w1 i (by omega))
            replace hlt := eq_true hlt
            gi_wp2_with (gi_at_builtin; go_loud (refine wpListIn_cat rfl _ _ rfl (WN.out.row.kept (W' := wr.alloc (.cells #[.int .i64 0] 3)) (fun j hj => Below.heap_alloc wr _ j (WN.out.row.lt hj).2)) (one_row wr 0) (by have := HLT.out; simp; omega) rfl rfl ?_; intro m' w7 h1 h2 h3; obtain ⟨f7, c7, wn7⟩ := WN.out.app h1 h2; obtain ⟨A7, d7, e7⟩ := h1.slB.slice; rw [len_snoc] at e7; subst e7; have WN7 := Aside0.mk wn7; clear wn7 h1 h2 h3))
            exact ⟨⟨i + 1, _, by first | rfl | rw [wi.out], ⟨by have := HLT.out; omega⟩, WN7⟩, by first | (simp only [intOf]; have := HLT.out; omega) | (rw [wi.out]; simp only [intOf]; have := HLT.out; omega)⟩
          · have hiD : i = D := by have := Hi.out; omega
            rw [hiD] at WN ⊢
            clear hlt Hi hiD
            have HBX := Aside0.mk (TN.out.bx.below WN.out.below (by have := TN.out.l0; have := HBS.out; omega) (by have := TN.out.bx.t.lt; have := HBS.out; omega))
            have HV0 := Aside0.mk (WN.out.hv csOf (msOf H D) (wsOf H D) rfl HM0.out HW0.out)
            have HBB : Aside0 (b0 + 5 < B ∧ bt < B) := ⟨by have := TN.out.l0; have := HBS.out; omega, by have := TN.out.bx.t.lt; have := HBS.out; omega⟩
            gi_wp2
            refine wpIn_rangeFunc_V2 41 15 rfl (by omega) (gf := 71) rfl trivial (enters_of Try.func71 (by kernel_rfl) rfl) (seq_all H D 2 (by omega) wr _ _ _ HBX.out.a HBX.out.d HBX.out.h) (fun b hb => by rcases hb with z | z | z | z; exact z.elim; rw [z]; exact HBX.out.a.lt; rw [z]; exact HBX.out.d.lt; rw [z]; exact HBX.out.h.lt) (Below.refl _ _) (fun b hb => rfl) (Hv B B (B + 1) (B + 1 + 1) (B + 1 + 1 + 1) w csOf (msOf H D) (wsOf H D))
              (fun c k T W' => Hv B B (B + 1) (B + 1 + 1) (B + 1 + 1 + 1) w csOf (fun _ => false) (wsOf H D) k T W' ∧ False) (hv_abides _ _ _ _ _ _ _ _ _) (fun c => and_abides (hv_abides _ _ _ _ _ _ _ _ _) _) HV0.out ?assign1 ?body1 ?done1 ?stop1
            case assign1 =>
              intro l v W5 K hK
              simp only [axOf, List.setIfInBounds_toArray, List.set_cons_succ, List.set_cons_zero] at hK ⊢
              gi_wp2
              exact hK
            case body1 =>
              rintro l k L T T1 v W5 hL ⟨q1, q2, q3, q4⟩ hTT hlt1 hv
              have hkN : k < cntAll H D := by have := (List.getElem?_eq_some_iff.1 hL).1; rwa [allOf_len] at this
              have hLd : L = digs H D k := by rw [allOf_get hkN] at hL; cases hL; simp
              subst hLd
              rw [msOf_lt hkN, wsOf_lt hkN] at q4
              have hkM : k < 1048576 := Nat.lt_of_lt_of_le hkN (cnt_le _ _)
              have hkP : k < H ^ D := by have h1 := hkN; rw [cnt_ok HOK.out] at h1; exact h1
              obtain ⟨wv, Tw, cm, cn, cw, sw⟩ := q4.boxes
              obtain ⟨Aw, cc, eW⟩ := sw.slice
              obtain ⟨Av, cv, eV⟩ := hv.slice
              rw [digs_len] at eW eV
              subst eW eV
              have HBX5 := Aside0.mk (TN.out.bx.below q2 HBB.out.1 HBB.out.2)
              have z1 := cm.cell
              have z2 := cw.cell
              simp only [axOf, List.setIfInBounds_toArray, List.set_cons_succ, List.set_cons_zero]
              have Q4 := Aside0.mk q4
              have HVV := Aside0.mk hv
              have SW := Aside0.mk sw
              have HT1 := Aside0.mk q1
              have HTT := Aside0.mk hTT
              have HQ2 := Aside0.mk q2
              have HKN := Aside0.mk hkN
              have HKP := Aside0.mk hkP
              have HQ3 := Aside0.mk q3
              have HKM := Aside0.mk hkM
              have wk : wrap64 ((k : Int) + 1) = (k : Int) + 1 := X.hwrId (by omega) (by omega)
              have HTL : Aside0 (∀ b, T b → B ≤ b ∧ b < W5.heap.size) := ⟨fun b hb => HT1.out b (HTT.out b hb)⟩
              clear q1 q2 q3 q4 hTT hlt1 hv sw cm cn cw hL hkN hkP
              by_cases hk40 : k < 40
              · have hk1 : ((k : Int) < 40) = True := eq_true (by omega)
                have HC : Aside0 (csOf k + 1 = csOf (k + 1)) := ⟨by rw [cs_next, if_pos hk40]⟩
                replace hk40 := eq_true hk40
                gi_wp2_with (first
                  | (refine ⟨trivial, ?_⟩; gi_at_call 24; refine (CallsIn.inRound l (callsIn_wide.2 (same_calls HVV.out SW.out (by rw [digs_len]; omega)))).mono ?_; rintro e w8 ⟨rfl, hdr⟩; have S8 := Aside0.mk (Q4.out.drawn hdr); have HB8 := Aside0.mk (drawn_below hdr W5.heap.size); clear hdr z1 z2; obtain ⟨wv8, Tw8, cm8, cn8, cw8, sw8⟩ := S8.out.boxes; have y1 := cn8.cell; clear cm8 cn8 cw8 sw8)
                  | (refine ⟨trivial, ?_⟩; gi_at_call 27; go_loud (refine (CallsIn.inRound l (callsIn_wide.2 (St.ints (T := T) S8.out (dst4 B) (Nat.le_trans HQ3.out HB8.out.size) HTT.out (fun b hb => ⟨(HT1.out b hb).1, Nat.lt_of_lt_of_le (HT1.out b hb).2 HB8.out.size⟩) (HVV.out.kept (fun j hj => HB8.out.block j (HVV.out.own hj).2)) (by rw [digs_len]; omega) (by have := cs_le k; omega)))).mono ?_; rintro e w9 ⟨⟨r, rfl⟩, s9, t9⟩; have S9 := Aside0.mk s9; have T9 : Aside0 (Turn (Mine B T) W5 w9) := ⟨Turn.cons (Turn.of_below HB8.out) t9⟩; clear s9 t9; obtain ⟨wv9, Tw9, cm9, cn9, cw9, sw9⟩ := S9.out.boxes; obtain ⟨A9, c9, e9⟩ := sw9.slice; rw [digs_len] at e9; subst e9; have x1 := cw9.cell; have HBX9 := Aside0.mk (HBX5.out.below (Turn.mine T9.out HQ3.out) HBB.out.1 HBB.out.2); have x2 := HBX9.out.h0.cell; have SW9 := Aside0.mk sw9;  clear cm9 cw9 sw9 cn9))
                  | (refine ⟨trivial, ?_⟩; gi_at_call 28; go_loud (refine (CallsIn.inRound l (callsIn_wide.2 (next_calls H D k hH hD HKP.out SW9.out))).mono ?_; rintro e w10 ⟨u, rfl, hu, hb10⟩; obtain ⟨Au, cu, eu⟩ := hu.slice; subst eu; obtain ⟨f10, ⟨wv10, c10⟩, s10, t10⟩ := S9.out.next (dst4 B) (fun b hb => Nat.lt_of_lt_of_le (HTL.out b hb).2 T9.out.size) (Nat.le_trans HQ3.out T9.out.size) hb10 hu; obtain ⟨f11, c11, s11, t11⟩ := s10.setM (dst4 B) (nextOf H D k).1; obtain ⟨f12, c12, s12, t12⟩ := s11.setN (dst4 B) ((k : Int) + 1); have t12' := Turn.cons T9.out (Turn.cons t10 (Turn.cons t11 t12)); have bx12 := HBX5.out.below (Turn.mine t12' HQ3.out) HBB.out.1 HBB.out.2; have v1 := bx12.t.cell; have v2 := bx12.m0.cell; obtain ⟨wx, Tx, bm12, bn12, bw12, sx⟩ := s12.boxes; have v3 := bn12.cell; have v4 := bm12.frozen; have v5 := bm12.cell; have S12 := Aside0.mk s12; have T12 := Aside0.mk t12'; clear s10 t10 s11 t11 s12 t12 t12' bx12 bm12 bn12 bw12 sx hu hb10)))
                exact ⟨Turn.keepsT T12.out (fun b hb => by have := HBB.out; rcases hb with z | z | z <;> omega), hv_next HTL.out HQ2.out HQ3.out T12.out S12.out HC.out (ms_next HOK.out) (ws_next HOK.out)⟩
              · have hk1 : ((k : Int) < 40) = False := eq_false (by omega)
                have HC : Aside0 (csOf k = csOf (k + 1)) := ⟨by rw [cs_next, if_neg hk40]⟩
                replace hk40 := eq_false hk40
                gi_wp2_with (first
                  | (refine ⟨trivial, ?_⟩; gi_at_call 24; refine (CallsIn.inRound l (callsIn_wide.2 (same_calls HVV.out SW.out (by rw [digs_len]; omega)))).mono ?_; rintro e w8 ⟨rfl, hdr⟩; have S8 := Aside0.mk (Q4.out.drawn hdr); have HB8 := Aside0.mk (drawn_below hdr W5.heap.size); clear hdr z1 z2; have S9 := Aside0.mk (S8.out.less HTT.out); have T9 : Aside0 (Turn (Mine B T) W5 w8) := ⟨Turn.of_below HB8.out⟩; obtain ⟨wv9, Tw9, cm9, cn9, cw9, sw9⟩ := S9.out.boxes; obtain ⟨A9, c9, e9⟩ := sw9.slice; rw [digs_len] at e9; subst e9; have x1 := cw9.cell; have HBX9 := Aside0.mk (HBX5.out.below (Turn.mine T9.out HQ3.out) HBB.out.1 HBB.out.2); have x2 := HBX9.out.h0.cell; have SW9 := Aside0.mk sw9; have y1 := cn9.cell; clear cm9 cw9 sw9 cn9)
                  | (refine ⟨trivial, ?_⟩; gi_at_call 28; go_loud (refine (CallsIn.inRound l (callsIn_wide.2 (next_calls H D k hH hD HKP.out SW9.out))).mono ?_; rintro e w10 ⟨u, rfl, hu, hb10⟩; obtain ⟨Au, cu, eu⟩ := hu.slice; subst eu; obtain ⟨f10, ⟨wv10, c10⟩, s10, t10⟩ := S9.out.next (dst4 B) (fun b hb => Nat.lt_of_lt_of_le (HTL.out b hb).2 T9.out.size) (Nat.le_trans HQ3.out T9.out.size) hb10 hu; obtain ⟨f11, c11, s11, t11⟩ := s10.setM (dst4 B) (nextOf H D k).1; obtain ⟨f12, c12, s12, t12⟩ := s11.setN (dst4 B) ((k : Int) + 1); have t12' := Turn.cons T9.out (Turn.cons t10 (Turn.cons t11 t12)); have bx12 := HBX5.out.below (Turn.mine t12' HQ3.out) HBB.out.1 HBB.out.2; have v1 := bx12.t.cell; have v2 := bx12.m0.cell; obtain ⟨wx, Tx, bm12, bn12, bw12, sx⟩ := s12.boxes; have v3 := bn12.cell; have v4 := bm12.frozen; have v5 := bm12.cell; have S12 := Aside0.mk s12; have T12 := Aside0.mk t12'; clear s10 t10 s11 t11 s12 t12 t12' bx12 bm12 bn12 bw12 sx hu hb10)))
                exact ⟨Turn.keepsT T12.out (fun b hb => by have := HBB.out; rcases hb with z | z | z <;> omega), hv_next HTL.out HQ2.out HQ3.out T12.out S12.out HC.out (ms_next HOK.out) (ws_next HOK.out)⟩
            case done1 =>
              rintro D5 T W5 hD5 hv5 hK hTD
              rw [allOf_len] at hv5
              obtain ⟨q1, q2, q3, q4⟩ := hv5
              have hmN : msOf H D (cntAll H D) = false := decide_eq_false (by omega)
              rw [hmN] at q4
              obtain ⟨wv5, Tw5, cm5, cn5, cw5, sw5⟩ := q4.boxes
              have z1 := cm5.cell
              have HBX5 := Aside0.mk (TN.out.bx.below q2 HBB.out.1 HBB.out.2)
              have HQ2 := Aside0.mk q2
              have HQ3 := Aside0.mk q3
              have HQ1 := Aside0.mk q1
              have HTD := Aside0.mk hTD
              have HK := Aside0.mk hK
              have AP := Aside0.mk q4.apart
              clear q1 q2 q3 q4 cm5 cn5 cw5 sw5 hK hTD
              gi_wp2_with (refine ⟨trivial, ?_⟩; gi_at_call 29; go_loud (refine (callsIn_wide.2 AP.out).mono ?_; rintro e w6 ⟨rfl, t6⟩; have T6 := Aside0.mk t6; have HBX6 := Aside0.mk (HBX5.out.below (Turn.mine t6 HQ3.out) HBB.out.1 HBB.out.2); have x1 := HBX6.out.t.cell; clear t6 z1))
              have TN2 : Aside0 (Tn H D most b0 w6.heap.size 2 W (w6.alloc (.cells #[.int .i64 2] 3))) := by
                have hb : Below w6.heap.size w6 (w6.alloc (.cells #[.int .i64 2] 3)) := (Below.refl _ w6).alloc (Nat.le_refl _) _
                have h5 : W5.heap.size ≤ w6.heap.size := T6.out.size
                have h6 := HQ3.out
                have h7 := HBB.out
                have q := HBX6.out
                exact ⟨⟨bxb q.h0 hb (by omega), bxb q.m0 hb (by omega), bxb q.r0 hb (by omega), bxb q.a hb (by omega), bxb q.d hb (by omega), bxb q.h hb (by omega), Boxed.new w6 3 (.int .i64 2)⟩, (TN.out.below.trans ((HQ2.out.trans (Turn.mine T6.out HQ3.out)).mono (by omega))).trans (hb.mono (by omega)), by simp; omega⟩
              have DFN : Aside0 ((w6.alloc (.cells #[.int .i64 2] 3)).heap[D5]? = some (.deferred (some []))) := by
                have hl : D5 < W5.heap.size := (Array.getElem?_eq_some_iff.1 HK.out).1
                exact ⟨(Below.heap_alloc _ _ _ (by have := T6.out.size; omega)).trans ((T6.out.block D5 hl (fun z => z.2 HTD.out)).trans HK.out)⟩
              have DFO : Aside0 ((w6.alloc (.cells #[.int .i64 2] 3)).heap[D1]? = some (.deferred (some []))) ∧ D1 ≠ D5 := by
                have hl : D1 < w.heap.size := (Array.getElem?_eq_some_iff.1 DF1.out).1
                have h5 : W5.heap.size ≤ w6.heap.size := T6.out.size
                have h6 := HQ3.out
                have h8 := HBS.out
                have h9 := (HQ1.out D5 HTD.out).1
                exact ⟨⟨(Below.heap_alloc _ _ _ (by omega)).trans (((HQ2.out.trans (Turn.mine T6.out HQ3.out)).block D1 (by omega)).trans DF1.out)⟩, by omega⟩
              obtain ⟨DF1', hne⟩ := DFO
              generalize w6.alloc (.cells #[.int .i64 2] 3) = w9 at TN2 DFN DF1' ⊢
              rw [roundsIn_succ]
              have ct := TN2.out.bx.t.cell
              have r1 := TN2.out.bx.r0.cell
              have r2 := TN2.out.bx.r0.frozen
              have LR := Aside0.mk (TN2.out.bx.r0.lt)
              gi_wp2
              have d5l : D5 < w9.heap.size := (Array.getElem?_eq_some_iff.1 DFN.out).1
              have n5 : b0 + 2 ≠ D5 := fun e => by have h := TN2.out.bx.r0; rw [e] at h; have := (show w9.heap[D5]? = _ from h).symm.trans DFN.out; simp at this
              have n1 : b0 + 2 ≠ D1 := fun e => by have h := TN2.out.bx.r0; rw [e] at h; have := (show w9.heap[D1]? = _ from h).symm.trans DF1'.out; simp at this
              have e5 : (w9.setCell ⟨b0 + 2, 0, none⟩ (.bool true)).heap[D5]? = some (.deferred (some [])) := (Below.heap_setCell w9 _ _ D5 (fun e => n5 e.symm)).trans DFN.out
              have e1 : (w9.setCell ⟨b0 + 2, 0, none⟩ (.bool true)).heap[D1]? = some (.deferred (some [])) := (Below.heap_setCell w9 _ _ D1 (fun e => n1 e.symm)).trans DF1'.out
              have eb := TN2.out.bx.r0.set (.bool true)
              have hbl := TN2.out.below.trans (((Below.refl b0 w9).setCell (p := ⟨b0 + 2, 0, none⟩) (by show b0 ≤ b0 + 2; omega) (.bool true)))
              have hb0D5 : b0 ≤ D5 := by have := (HQ1.out D5 HTD.out).1; have := HBB.out; omega
              have hb0D1 : b0 ≤ D1 := HD1.out
              have FIN : Aside0 (∀ (W7 : World), W7.heap[D5]? = some (.deferred (some [])) → W7.heap[D1]? = some (.deferred (some [])) → Boxed W7 (b0 + 2) 4 (.bool true) → Below b0 W W7 → D5 < W7.heap.size → D1 < W7.heap.size →
                  Boxed ((W7.putObj D5 (.deferred none)).putObj D1 (.deferred none)) (b0 + 2) 4 (.bool true) ∧ Below b0 W ((W7.putObj D5 (.deferred none)).putObj D1 (.deferred none)) ∧ (W7.putObj D5 (.deferred none)).heap[D1]? = some (.deferred (some []))) := ⟨fun W7 k5 k1 kb kl l5 l1 =>
                ⟨(World.putObj_heap_other n1).trans ((World.putObj_heap_other n5).trans kb),
                 (kl.trans ((Turn.of_grown (T := fun b => b = D5) (grownBy_putObj' W7 D5 _) (fun j hj => by cases hj; rfl)).below (fun b hb => by rw [hb]; exact hb0D5) (by omega))).trans ((Turn.of_grown (T := fun b => b = D1) (grownBy_putObj' (W7.putObj D5 (.deferred none)) D1 _) (fun j hj => by cases hj; rfl)).below (fun b hb => by rw [hb]; exact hb0D1) (by have := (grownBy_putObj' W7 D5 (.deferred none)).size; omega)),
                 (World.putObj_heap_other hne).trans k1⟩⟩
              refine ⟨by simp, .inl ⟨_, _, rfl, run_takeDeferred e5, ⟨by simp, .inl ⟨_, _, rfl, run_takeDeferred ((World.putObj_heap_other hne).trans e1), ?_⟩⟩⟩⟩
              refine ⟨_, results_cell1 rfl _ _ (b0 + 2) (.bool true) rfl ?_, rfl, ?_⟩
              · exact (FIN.out _ e5 e1 eb hbl (by simpa using d5l) (by simpa using (Array.getElem?_eq_some_iff.1 DF1'.out).1)).1
              · rw [hb0]; exact (FIN.out _ e5 e1 eb hbl (by simpa using d5l) (by simpa using (Array.getElem?_eq_some_iff.1 DF1'.out).1)).2.1
            case stop1 =>
              rintro D5 c k T W5 hD5 hk ⟨⟨q1, q2, q3, q4⟩, hf⟩ hK hTD
              exact hf.elim
      case stop0 =>
        rintro D5 c k T W5 hD5 hk ⟨⟨q1, q2, q3, q4⟩, rfl⟩ hK hTD
        obtain ⟨wv5, Tw5, cm5, cn5, cw5, sw5⟩ := q4.boxes
        have z1 := cm5.cell
        have HBX5 := Aside0.mk (TN.out.bx.below q2 HBB.out.1 HBB.out.2)
        have HQ2 := Aside0.mk q2
        have HQ3 := Aside0.mk q3
        have HQ1 := Aside0.mk q1
        have HTD := Aside0.mk hTD
        have HK := Aside0.mk hK
        have AP := Aside0.mk q4.apart
        clear q1 q2 q3 q4 cm5 cn5 cw5 sw5 hK hTD
        gi_wp2_with (refine ⟨trivial, ?_⟩; gi_at_call 29; go_loud (refine (callsIn_wide.2 AP.out).mono ?_; rintro e w6 ⟨rfl, t6⟩; have T6 := Aside0.mk t6; have HBX6 := Aside0.mk (HBX5.out.below (Turn.mine t6 HQ3.out) HBB.out.1 HBB.out.2); have x1 := HBX6.out.t.cell; clear t6 z1))
        have TN2 : Aside0 (Tn H D most b0 w6.heap.size 1 W (w6.alloc (.cells #[.int .i64 1] 3))) := by
          have hb : Below w6.heap.size w6 (w6.alloc (.cells #[.int .i64 1] 3)) := (Below.refl _ w6).alloc (Nat.le_refl _) _
          have h5 : W5.heap.size ≤ w6.heap.size := T6.out.size
          have h6 := HQ3.out
          have h7 := HBB.out
          have q := HBX6.out
          exact ⟨⟨bxb q.h0 hb (by omega), bxb q.m0 hb (by omega), bxb q.r0 hb (by omega), bxb q.a hb (by omega), bxb q.d hb (by omega), bxb q.h hb (by omega), Boxed.new w6 3 (.int .i64 1)⟩, (TN.out.below.trans ((HQ2.out.trans (Turn.mine T6.out HQ3.out)).mono (by omega))).trans (hb.mono (by omega)), by simp; omega⟩
        have DFN : Aside0 ((w6.alloc (.cells #[.int .i64 1] 3)).heap[D5]? = some (.deferred (some []))) := by
          have hl : D5 < W5.heap.size := (Array.getElem?_eq_some_iff.1 HK.out).1
          exact ⟨(Below.heap_alloc _ _ _ (by have := T6.out.size; omega)).trans ((T6.out.block D5 hl (fun z => z.2 HTD.out)).trans HK.out)⟩
        have HD1 : Aside0 (b0 ≤ D5) := ⟨by have := (HQ1.out D5 HTD.out).1; have := HBB.out; omega⟩
        clear TN HQ1 HQ2 HQ3 HTD HK AP T6 HBX6 HBX5 HBX HV0 HBB WN HBS hBs hD5 x1
        try clear hmN hk
        generalize D5 = D1 at DFN HD1 ⊢
        have DF1 := DFN
        have TN := TN2
        clear DFN TN2
        obtain ⟨bt2, hbt2⟩ : ∃ b, w6.heap.size = b := ⟨_, rfl⟩
        rw [hbt2] at TN ⊢
        generalize w6.alloc (.cells #[.int .i64 1] 3) = w9 at TN DF1 ⊢
        clear hbt2 w6 W5
        try clear wr
        try clear w
        generalize w9 = w at TN DF1 ⊢
        try clear bt
        generalize bt2 = bt at TN ⊢
        rw [roundsIn_succ]
        have ct := TN.out.bx.t.cell
        obtain ⟨B, hBs⟩ : ∃ B, w.heap.size = B := ⟨_, rfl⟩
        have HBS := Aside0.mk hBs
        have WN := Aside0.mk (Wn.start hBs true)
        gi_wp2
        gi_loopw [14] (fun p wr => ∃ (i : Nat) (wv : Value), p = .int .i64 (i : Int) ∧ Aside0 (i ≤ D) ∧ Aside0 (Wn B w true i wv wr)) (fun p _ => D - (intOf p).toNat)
        case atStart => exact ⟨0, _, rfl, ⟨by omega⟩, WN⟩
        case round =>
          clear WN ct
          obtain ⟨i, wv, rfl, Hi, WN⟩ := hrel
          by_cases hlt : i < D
          · have cw := WN.out.wt.cell
            have hlt1 : ((i : Int) < (D : Int)) = True := eq_true (by omega)
            have HLT := Aside0.mk hlt
            have wi := Aside0.mk (w1 i (by omega))
            replace hlt := eq_true hlt
            gi_wp2_with (gi_at_builtin; go_loud (refine wpListIn_cat rfl _ _ rfl (WN.out.row.kept (W' := wr.alloc (.cells #[.int .i64 0] 3)) (fun j hj => Below.heap_alloc wr _ j (WN.out.row.lt hj).2)) (one_row wr 0) (by have := HLT.out; simp; omega) rfl rfl ?_; intro m' w7 h1 h2 h3; obtain ⟨f7, c7, wn7⟩ := WN.out.app h1 h2; obtain ⟨A7, d7, e7⟩ := h1.slB.slice; rw [len_snoc] at e7; subst e7; have WN7 := Aside0.mk wn7; clear wn7 h1 h2 h3))
            exact ⟨⟨i + 1, _, by first | rfl | rw [wi.out], ⟨by have := HLT.out; omega⟩, WN7⟩, by first | (simp only [intOf]; have := HLT.out; omega) | (rw [wi.out]; simp only [intOf]; have := HLT.out; omega)⟩
          · have hiD : i = D := by have := Hi.out; omega
            rw [hiD] at WN ⊢
            clear hlt Hi hiD
            have HBX := Aside0.mk (TN.out.bx.below WN.out.below (by have := TN.out.l0; have := HBS.out; omega) (by have := TN.out.bx.t.lt; have := HBS.out; omega))
            have HV0 := Aside0.mk (WN.out.hv csOf (msOf H D) (wsOf H D) rfl HM0.out HW0.out)
            have HBB : Aside0 (b0 + 5 < B ∧ bt < B) := ⟨by have := TN.out.l0; have := HBS.out; omega, by have := TN.out.bx.t.lt; have := HBS.out; omega⟩
            gi_wp2
            refine wpIn_rangeFunc_V2 41 15 rfl (by omega) (gf := 71) rfl trivial (enters_of Try.func71 (by kernel_rfl) rfl) (seq_all H D 2 (by omega) wr _ _ _ HBX.out.a HBX.out.d HBX.out.h) (fun b hb => by rcases hb with z | z | z | z; exact z.elim; rw [z]; exact HBX.out.a.lt; rw [z]; exact HBX.out.d.lt; rw [z]; exact HBX.out.h.lt) (Below.refl _ _) (fun b hb => rfl) (Hv B B (B + 1) (B + 1 + 1) (B + 1 + 1 + 1) w csOf (msOf H D) (wsOf H D))
              (fun c k T W' => Hv B B (B + 1) (B + 1 + 1) (B + 1 + 1 + 1) w csOf (fun _ => false) (wsOf H D) k T W' ∧ False) (hv_abides _ _ _ _ _ _ _ _ _) (fun c => and_abides (hv_abides _ _ _ _ _ _ _ _ _) _) HV0.out ?assign1 ?body1 ?done1 ?stop1
            case assign1 =>
              intro l v W5 K hK
              simp only [axOf, List.setIfInBounds_toArray, List.set_cons_succ, List.set_cons_zero] at hK ⊢
              gi_wp2
              exact hK
            case body1 =>
              rintro l k L T T1 v W5 hL ⟨q1, q2, q3, q4⟩ hTT hlt1 hv
              have hkN : k < cntAll H D := by have := (List.getElem?_eq_some_iff.1 hL).1; rwa [allOf_len] at this
              have hLd : L = digs H D k := by rw [allOf_get hkN] at hL; cases hL; simp
              subst hLd
              rw [msOf_lt hkN, wsOf_lt hkN] at q4
              have hkM : k < 1048576 := Nat.lt_of_lt_of_le hkN (cnt_le _ _)
              have hkP : k < H ^ D := by have h1 := hkN; rw [cnt_ok HOK.out] at h1; exact h1
              obtain ⟨wv, Tw, cm, cn, cw, sw⟩ := q4.boxes
              obtain ⟨Aw, cc, eW⟩ := sw.slice
              obtain ⟨Av, cv, eV⟩ := hv.slice
              rw [digs_len] at eW eV
              subst eW eV
              have HBX5 := Aside0.mk (TN.out.bx.below q2 HBB.out.1 HBB.out.2)
              have z1 := cm.cell
              have z2 := cw.cell
              simp only [axOf, List.setIfInBounds_toArray, List.set_cons_succ, List.set_cons_zero]
              have Q4 := Aside0.mk q4
              have HVV := Aside0.mk hv
              have SW := Aside0.mk sw
              have HT1 := Aside0.mk q1
              have HTT := Aside0.mk hTT
              have HQ2 := Aside0.mk q2
              have HKN := Aside0.mk hkN
              have HKP := Aside0.mk hkP
              have HQ3 := Aside0.mk q3
              have HKM := Aside0.mk hkM
              have wk : wrap64 ((k : Int) + 1) = (k : Int) + 1 := X.hwrId (by omega) (by omega)
              have HTL : Aside0 (∀ b, T b → B ≤ b ∧ b < W5.heap.size) := ⟨fun b hb => HT1.out b (HTT.out b hb)⟩
              clear q1 q2 q3 q4 hTT hlt1 hv sw cm cn cw hL hkN hkP
              by_cases hk40 : k < 40
              · have hk1 : ((k : Int) < 40) = True := eq_true (by omega)
                have HC : Aside0 (csOf k + 1 = csOf (k + 1)) := ⟨by rw [cs_next, if_pos hk40]⟩
                replace hk40 := eq_true hk40
                gi_wp2_with (first
                  | (refine ⟨trivial, ?_⟩; gi_at_call 24; refine (CallsIn.inRound l (callsIn_wide.2 (same_calls HVV.out SW.out (by rw [digs_len]; omega)))).mono ?_; rintro e w8 ⟨rfl, hdr⟩; have S8 := Aside0.mk (Q4.out.drawn hdr); have HB8 := Aside0.mk (drawn_below hdr W5.heap.size); clear hdr z1 z2; obtain ⟨wv8, Tw8, cm8, cn8, cw8, sw8⟩ := S8.out.boxes; have y1 := cn8.cell; clear cm8 cn8 cw8 sw8)
                  | (refine ⟨trivial, ?_⟩; gi_at_call 27; go_loud (refine (CallsIn.inRound l (callsIn_wide.2 (St.ints (T := T) S8.out (dst4 B) (Nat.le_trans HQ3.out HB8.out.size) HTT.out (fun b hb => ⟨(HT1.out b hb).1, Nat.lt_of_lt_of_le (HT1.out b hb).2 HB8.out.size⟩) (HVV.out.kept (fun j hj => HB8.out.block j (HVV.out.own hj).2)) (by rw [digs_len]; omega) (by have := cs_le k; omega)))).mono ?_; rintro e w9 ⟨⟨r, rfl⟩, s9, t9⟩; have S9 := Aside0.mk s9; have T9 : Aside0 (Turn (Mine B T) W5 w9) := ⟨Turn.cons (Turn.of_below HB8.out) t9⟩; clear s9 t9; obtain ⟨wv9, Tw9, cm9, cn9, cw9, sw9⟩ := S9.out.boxes; obtain ⟨A9, c9, e9⟩ := sw9.slice; rw [digs_len] at e9; subst e9; have x1 := cw9.cell; have HBX9 := Aside0.mk (HBX5.out.below (Turn.mine T9.out HQ3.out) HBB.out.1 HBB.out.2); have x2 := HBX9.out.h0.cell; have SW9 := Aside0.mk sw9;  clear cm9 cw9 sw9 cn9))
                  | (refine ⟨trivial, ?_⟩; gi_at_call 28; go_loud (refine (CallsIn.inRound l (callsIn_wide.2 (next_calls H D k hH hD HKP.out SW9.out))).mono ?_; rintro e w10 ⟨u, rfl, hu, hb10⟩; obtain ⟨Au, cu, eu⟩ := hu.slice; subst eu; obtain ⟨f10, ⟨wv10, c10⟩, s10, t10⟩ := S9.out.next (dst4 B) (fun b hb => Nat.lt_of_lt_of_le (HTL.out b hb).2 T9.out.size) (Nat.le_trans HQ3.out T9.out.size) hb10 hu; obtain ⟨f11, c11, s11, t11⟩ := s10.setM (dst4 B) (nextOf H D k).1; obtain ⟨f12, c12, s12, t12⟩ := s11.setN (dst4 B) ((k : Int) + 1); have t12' := Turn.cons T9.out (Turn.cons t10 (Turn.cons t11 t12)); have bx12 := HBX5.out.below (Turn.mine t12' HQ3.out) HBB.out.1 HBB.out.2; have v1 := bx12.t.cell; have v2 := bx12.m0.cell; obtain ⟨wx, Tx, bm12, bn12, bw12, sx⟩ := s12.boxes; have v3 := bn12.cell; have v4 := bm12.frozen; have v5 := bm12.cell; have S12 := Aside0.mk s12; have T12 := Aside0.mk t12'; clear s10 t10 s11 t11 s12 t12 t12' bx12 bm12 bn12 bw12 sx hu hb10)))
                exact ⟨Turn.keepsT T12.out (fun b hb => by have := HBB.out; rcases hb with z | z | z <;> omega), hv_next HTL.out HQ2.out HQ3.out T12.out S12.out HC.out (ms_next HOK.out) (ws_next HOK.out)⟩
              · have hk1 : ((k : Int) < 40) = False := eq_false (by omega)
                have HC : Aside0 (csOf k = csOf (k + 1)) := ⟨by rw [cs_next, if_neg hk40]⟩
                replace hk40 := eq_false hk40
                gi_wp2_with (first
                  | (refine ⟨trivial, ?_⟩; gi_at_call 24; refine (CallsIn.inRound l (callsIn_wide.2 (same_calls HVV.out SW.out (by rw [digs_len]; omega)))).mono ?_; rintro e w8 ⟨rfl, hdr⟩; have S8 := Aside0.mk (Q4.out.drawn hdr); have HB8 := Aside0.mk (drawn_below hdr W5.heap.size); clear hdr z1 z2; have S9 := Aside0.mk (S8.out.less HTT.out); have T9 : Aside0 (Turn (Mine B T) W5 w8) := ⟨Turn.of_below HB8.out⟩; obtain ⟨wv9, Tw9, cm9, cn9, cw9, sw9⟩ := S9.out.boxes; obtain ⟨A9, c9, e9⟩ := sw9.slice; rw [digs_len] at e9; subst e9; have x1 := cw9.cell; have HBX9 := Aside0.mk (HBX5.out.below (Turn.mine T9.out HQ3.out) HBB.out.1 HBB.out.2); have x2 := HBX9.out.h0.cell; have SW9 := Aside0.mk sw9; have y1 := cn9.cell; clear cm9 cw9 sw9 cn9)
                  | (refine ⟨trivial, ?_⟩; gi_at_call 28; go_loud (refine (CallsIn.inRound l (callsIn_wide.2 (next_calls H D k hH hD HKP.out SW9.out))).mono ?_; rintro e w10 ⟨u, rfl, hu, hb10⟩; obtain ⟨Au, cu, eu⟩ := hu.slice; subst eu; obtain ⟨f10, ⟨wv10, c10⟩, s10, t10⟩ := S9.out.next (dst4 B) (fun b hb => Nat.lt_of_lt_of_le (HTL.out b hb).2 T9.out.size) (Nat.le_trans HQ3.out T9.out.size) hb10 hu; obtain ⟨f11, c11, s11, t11⟩ := s10.setM (dst4 B) (nextOf H D k).1; obtain ⟨f12, c12, s12, t12⟩ := s11.setN (dst4 B) ((k : Int) + 1); have t12' := Turn.cons T9.out (Turn.cons t10 (Turn.cons t11 t12)); have bx12 := HBX5.out.below (Turn.mine t12' HQ3.out) HBB.out.1 HBB.out.2; have v1 := bx12.t.cell; have v2 := bx12.m0.cell; obtain ⟨wx, Tx, bm12, bn12, bw12, sx⟩ := s12.boxes; have v3 := bn12.cell; have v4 := bm12.frozen; have v5 := bm12.cell; have S12 := Aside0.mk s12; have T12 := Aside0.mk t12'; clear s10 t10 s11 t11 s12 t12 t12' bx12 bm12 bn12 bw12 sx hu hb10)))
                exact ⟨Turn.keepsT T12.out (fun b hb => by have := HBB.out; rcases hb with z | z | z <;> omega), hv_next HTL.out HQ2.out HQ3.out T12.out S12.out HC.out (ms_next HOK.out) (ws_next HOK.out)⟩
            case done1 =>
              rintro D5 T W5 hD5 hv5 hK hTD
              rw [allOf_len] at hv5
              obtain ⟨q1, q2, q3, q4⟩ := hv5
              have hmN : msOf H D (cntAll H D) = false := decide_eq_false (by omega)
              rw [hmN] at q4
              obtain ⟨wv5, Tw5, cm5, cn5, cw5, sw5⟩ := q4.boxes
              have z1 := cm5.cell
              have HBX5 := Aside0.mk (TN.out.bx.below q2 HBB.out.1 HBB.out.2)
              have HQ2 := Aside0.mk q2
              have HQ3 := Aside0.mk q3
              have HQ1 := Aside0.mk q1
              have HTD := Aside0.mk hTD
              have HK := Aside0.mk hK
              have AP := Aside0.mk q4.apart
              clear q1 q2 q3 q4 cm5 cn5 cw5 sw5 hK hTD
              gi_wp2_with (refine ⟨trivial, ?_⟩; gi_at_call 29; go_loud (refine (callsIn_wide.2 AP.out).mono ?_; rintro e w6 ⟨rfl, t6⟩; have T6 := Aside0.mk t6; have HBX6 := Aside0.mk (HBX5.out.below (Turn.mine t6 HQ3.out) HBB.out.1 HBB.out.2); have x1 := HBX6.out.t.cell; clear t6 z1))
              have TN2 : Aside0 (Tn H D most b0 w6.heap.size 2 W (w6.alloc (.cells #[.int .i64 2] 3))) := by
                have hb : Below w6.heap.size w6 (w6.alloc (.cells #[.int .i64 2] 3)) := (Below.refl _ w6).alloc (Nat.le_refl _) _
                have h5 : W5.heap.size ≤ w6.heap.size := T6.out.size
                have h6 := HQ3.out
                have h7 := HBB.out
                have q := HBX6.out
                exact ⟨⟨bxb q.h0 hb (by omega), bxb q.m0 hb (by omega), bxb q.r0 hb (by omega), bxb q.a hb (by omega), bxb q.d hb (by omega), bxb q.h hb (by omega), Boxed.new w6 3 (.int .i64 2)⟩, (TN.out.below.trans ((HQ2.out.trans (Turn.mine T6.out HQ3.out)).mono (by omega))).trans (hb.mono (by omega)), by simp; omega⟩
              have DFN : Aside0 ((w6.alloc (.cells #[.int .i64 2] 3)).heap[D5]? = some (.deferred (some []))) := by
                have hl : D5 < W5.heap.size := (Array.getElem?_eq_some_iff.1 HK.out).1
                exact ⟨(Below.heap_alloc _ _ _ (by have := T6.out.size; omega)).trans ((T6.out.block D5 hl (fun z => z.2 HTD.out)).trans HK.out)⟩
              have DFO : Aside0 ((w6.alloc (.cells #[.int .i64 2] 3)).heap[D1]? = some (.deferred (some []))) ∧ D1 ≠ D5 := by
                have hl : D1 < w.heap.size := (Array.getElem?_eq_some_iff.1 DF1.out).1
                have h5 : W5.heap.size ≤ w6.heap.size := T6.out.size
                have h6 := HQ3.out
                have h8 := HBS.out
                have h9 := (HQ1.out D5 HTD.out).1
                exact ⟨⟨(Below.heap_alloc _ _ _ (by omega)).trans (((HQ2.out.trans (Turn.mine T6.out HQ3.out)).block D1 (by omega)).trans DF1.out)⟩, by omega⟩
              obtain ⟨DF1', hne⟩ := DFO
              generalize w6.alloc (.cells #[.int .i64 2] 3) = w9 at TN2 DFN DF1' ⊢
              rw [roundsIn_succ]
              have ct := TN2.out.bx.t.cell
              have r1 := TN2.out.bx.r0.cell
              have r2 := TN2.out.bx.r0.frozen
              have LR := Aside0.mk (TN2.out.bx.r0.lt)
              gi_wp2
              have d5l : D5 < w9.heap.size := (Array.getElem?_eq_some_iff.1 DFN.out).1
              have n5 : b0 + 2 ≠ D5 := fun e => by have h := TN2.out.bx.r0; rw [e] at h; have := (show w9.heap[D5]? = _ from h).symm.trans DFN.out; simp at this
              have n1 : b0 + 2 ≠ D1 := fun e => by have h := TN2.out.bx.r0; rw [e] at h; have := (show w9.heap[D1]? = _ from h).symm.trans DF1'.out; simp at this
              have e5 : (w9.setCell ⟨b0 + 2, 0, none⟩ (.bool true)).heap[D5]? = some (.deferred (some [])) := (Below.heap_setCell w9 _ _ D5 (fun e => n5 e.symm)).trans DFN.out
              have e1 : (w9.setCell ⟨b0 + 2, 0, none⟩ (.bool true)).heap[D1]? = some (.deferred (some [])) := (Below.heap_setCell w9 _ _ D1 (fun e => n1 e.symm)).trans DF1'.out
              have eb := TN2.out.bx.r0.set (.bool true)
              have hbl := TN2.out.below.trans (((Below.refl b0 w9).setCell (p := ⟨b0 + 2, 0, none⟩) (by show b0 ≤ b0 + 2; omega) (.bool true)))
              have hb0D5 : b0 ≤ D5 := by have := (HQ1.out D5 HTD.out).1; have := HBB.out; omega
              have hb0D1 : b0 ≤ D1 := HD1.out
              have FIN : Aside0 (∀ (W7 : World), W7.heap[D5]? = some (.deferred (some [])) → W7.heap[D1]? = some (.deferred (some [])) → Boxed W7 (b0 + 2) 4 (.bool true) → Below b0 W W7 → D5 < W7.heap.size → D1 < W7.heap.size →
                  Boxed ((W7.putObj D5 (.deferred none)).putObj D1 (.deferred none)) (b0 + 2) 4 (.bool true) ∧ Below b0 W ((W7.putObj D5 (.deferred none)).putObj D1 (.deferred none)) ∧ (W7.putObj D5 (.deferred none)).heap[D1]? = some (.deferred (some []))) := ⟨fun W7 k5 k1 kb kl l5 l1 =>
                ⟨(World.putObj_heap_other n1).trans ((World.putObj_heap_other n5).trans kb),
                 (kl.trans ((Turn.of_grown (T := fun b => b = D5) (grownBy_putObj' W7 D5 _) (fun j hj => by cases hj; rfl)).below (fun b hb => by rw [hb]; exact hb0D5) (by omega))).trans ((Turn.of_grown (T := fun b => b = D1) (grownBy_putObj' (W7.putObj D5 (.deferred none)) D1 _) (fun j hj => by cases hj; rfl)).below (fun b hb => by rw [hb]; exact hb0D1) (by have := (grownBy_putObj' W7 D5 (.deferred none)).size; omega)),
                 (World.putObj_heap_other hne).trans k1⟩⟩
              refine ⟨by simp, .inl ⟨_, _, rfl, run_takeDeferred e5, ⟨by simp, .inl ⟨_, _, rfl, run_takeDeferred ((World.putObj_heap_other hne).trans e1), ?_⟩⟩⟩⟩
              refine ⟨_, results_cell1 rfl _ _ (b0 + 2) (.bool true) rfl ?_, rfl, ?_⟩
              · exact (FIN.out _ e5 e1 eb hbl (by simpa using d5l) (by simpa using (Array.getElem?_eq_some_iff.1 DF1'.out).1)).1
              · rw [hb0]; exact (FIN.out _ e5 e1 eb hbl (by simpa using d5l) (by simpa using (Array.getElem?_eq_some_iff.1 DF1'.out).1)).2.1
            case stop1 =>
              rintro D5 c k T W5 hD5 hk ⟨⟨q1, q2, q3, q4⟩, hf⟩ hK hTD
              exact hf.elim
end Go.Proofs.Ytfcjfjmjcmanaaa.V
