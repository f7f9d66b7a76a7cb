/- 'some' of larderlaw07 over every iterator that owns blocks of its own. -/
import Derived.Test.YtfcjfjmjcmanaaaXc
import Derived.Test.YtfcjfjmjcmanaaaXo
set_option linter.unusedVariables false
namespace Go.Proofs.Ytfcjfjmjcmanaaa.X
open Go.RowKit Go.Shelf Go.Proofs.Ytfcjfjmjcmanaaa.O Go.Proofs.YtfcjfjmjcmanaaaW.PrintWords Go.Proofs.YtfcjfjmjcmanaaaW.PrintLast Go.Proofs.YtfcjfjmjcmanaaaW.PrintMore
attribute [local go_sem] Oper.semAt_some
theorem wpListIn_append_at {F : Fence} {n : Nat} {P : Program} (w : World) {ops : Array Oper} {rest : List Oper} {o : Oper} {a : Act} {Q : Exit → Act → World → Prop}
    (hg : o.guard = none) (s x : Operand) (t : TypeId) (hop : o.op = Op.call { callee := Callee.builtin Builtin.append, args := #[s, x], argTypes := #[t, t] })
    (base : Nat) (e : TypeId) (i : TypeInfo) (z : Value) (size bytes : Nat) (h1 : P.underlying t = some (.slice e)) (h2 : P.info? e = some i) (h3 : i.zero = some z) (h4 : i.size = size) (h5 : i.bytes = bytes) (h6 : z.cells.size = size) (h7 : 0 < size)
    (v : Value) (k : Nat) (xs : List Value) (hs : a.eval s = v) (hown : w.ownsRow base e size v k xs) (ad : Addr) (m c : Nat) (news : List Value) (hx : a.eval x = .slice (some ad) m c) (hn : news.length = m * size)
    (hc : ∀ j u, news[j]? = some u → w.cell? (ad.add j) = some u) (h1c : ∀ u ∈ news, u.oneCell' = true) (b1 : k + m ≤ maxLen) (b2 : (k + m) * bytes ≤ 140737488355328) (b3 : base ≤ w.heap.size)
    (hK : ∀ v' w', w'.ownsRow base e size v' (k + m) (xs ++ news) → w.grownBy w' v.ownBlock → (v' = .slice none 0 0 ↔ v = .slice none 0 0 ∧ m = 0) → (v'.ownBlock = v.ownBlock ∨ v'.ownBlock = some w.heap.size) → wpListIn F n P ops Q rest (a.put o.dst v') w') :
    wpListIn F n P ops Q (o :: rest) a w := by
  refine wpListIn_plain hg fun K hK' => ?_
  obtain ⟨v', w', hrun, r1, r2, r3, r4⟩ := run_append_own_at (P := P) w base t o.type e i z size bytes h1 h2 h3 h4 h5 h6 h7 v k xs hown ad m c news hn hc h1c b1 b2 b3
  unfold Oper.wpIn
  refine ⟨?_, ?_⟩
  · simp [Oper.about, hop, resolve, Target.leads, Sem.run_pure]
  · rw [Oper.semAt_plain F _ _ (by rw [hop]; intro c hc'; cases hc')]
    simp [execOp, hop, resolve, invoke, builtin, hs, hx, hrun, Result.andThen]
    exact hK' _ _ (hK v' w' r1 r2 r3 r4)
/-- What 'some' holds between two rounds: its box, the row in it, none of the iterator's blocks. -/
def Hold (n0 base : Nat) (W0 : World) (B : Nat) (pre : List Int) (T : Nat → Prop) (W : World) : Prop :=
  (∃ v, Boxed W B 26 v ∧ W.ownsRow n0 3 1 v pre.length (pre.map (Value.int .i64)) ∧ (v = .slice none 0 0 ↔ pre = []) ∧ ∀ b, T b → some b ≠ v.ownBlock) ∧ Below n0 W0 W ∧ (∀ b, T b → base ≤ b ∧ b < W.heap.size)
theorem own_cells {W : World} {n0 e size k : Nat} {v : Value} {xs : List Value} (h : W.ownsRow n0 e size v k xs) {b : Nat} (hb : v.ownBlock = some b) : b < W.heap.size ∧ ∀ o : Obj, W.heap[b]? = some o → o.isCells = true := by
  rcases h.2 with ⟨rfl, _⟩ | ⟨g, cap, cur, rfl, _, hh, _⟩
  · simp [Value.ownBlock] at hb
  · obtain rfl : g = b := by simpa [Value.ownBlock] using hb
    exact ⟨(Array.getElem?_eq_some_iff.1 hh).1, fun o ho => by rw [hh] at ho; cases ho; rfl⟩
theorem hold_own (n0 base : Nat) (W0 : World) (B : Nat) (hB : B < base) (hn0 : n0 ≤ base) (hW0 : base ≤ W0.heap.size) : OwnS base (Hold n0 base W0 B) := by
  rintro pre T A A' T' ⟨⟨v, hv, hr, hn, hT⟩, hB0, hT0⟩ hs hT'
  have hsz := hB0.size
  have hBk : A'.heap[B]? = A.heap[B]? := hs.block B hv.lt (by
    rintro (z | ⟨z, _⟩)
    · have := hT0 _ z; omega
    · omega)
  refine ⟨⟨v, hBk.trans hv, ?_, hn, ?_⟩, ⟨hs.os.trans hB0.os, hs.tape.trans hB0.tape, hs.output.trans hB0.output, Nat.le_trans hsz hs.size, fun k hk => ?_⟩, ?_⟩
  · refine own_move hr fun k hk => hs.block k (own_cells hr hk).1 ?_
    rintro (z | ⟨_, o, ho, hc⟩)
    · exact hT _ z hk.symm
    · rw [(own_cells hr hk).2 o ho] at hc; cases hc
  · intro b hb hk
    rcases hT' b hb with z | z
    · exact hT b z hk
    · have := (own_cells hr hk.symm).1; omega
  · refine (hs.block k (by omega) ?_).trans (hB0.block k hk)
    rintro (z | ⟨z, _⟩)
    · have := hT0 _ z; omega
    · omega
  · intro b hb
    have := hs.size
    rcases hT' b hb with z | z
    · have := hT0 b z; omega
    · omega

theorem keeps_app {n0 B base e size k : Nat} {Rd T : Nat → Prop} {W w1 : World} {v : Value} {xs : List Value} {tmp : Obj} (hB : B < base) (hRd : ∀ b, Rd b → b < n0 ∧ b < B) (hrow : W.ownsRow n0 e size v k xs) (hT : ∀ b, T b → some b ≠ v.ownBlock) (hT0 : ∀ b, T b → base ≤ b)
    (hg : (W.alloc tmp).grownBy w1 v.ownBlock) (v' : Value) : KeepsT (fun b => T b ∨ Rd b) W (w1.setCell ⟨B, 0, none⟩ v') := by
  have h1 := (World.grownBy_alloc W tmp none)
  have h2 := grownBy_setCell' w1 B v'
  refine ⟨Nat.le_trans (Nat.le_trans h1.size hg.size) h2.size, fun b hb hl => ?_⟩
  have hne : some b ≠ v.ownBlock := by
    rcases hb with z | z
    · exact hT b z
    · intro e
      rcases hrow.2 with ⟨rfl, _⟩ | ⟨g, cap, cur, rfl, hgn, _⟩
      · simp [Value.ownBlock] at e
      · have : b = g := by simpa [Value.ownBlock] using e
        have := (hRd b z).1; omega
  have hnB : b ≠ B := by
    rcases hb with z | z
    · have := hT0 b z; omega
    · have := (hRd b z).2; omega
  have e1 := h1.block b hl (by simp)
  have e2 := hg.block b (by rw [World.size_alloc]; omega) hne
  have e3 := h2.block b (by have := hg.size; rw [World.size_alloc] at this; omega) (by intro e; cases e; exact hnB rfl)
  exact e3.trans (e2.trans e1)
theorem new_app {T : Nat → Prop} {W : World} {v v' : Value} {tmp : Obj} (hT : ∀ b, T b → some b ≠ v.ownBlock) (hlt : ∀ b, T b → b ≠ (W.alloc tmp).heap.size) (hat : v'.ownBlock = v.ownBlock ∨ v'.ownBlock = some (W.alloc tmp).heap.size) : ∀ b, T b → some b ≠ v'.ownBlock := by
  intro b hb
  rcases hat with e | e
  · rw [e]; exact hT b hb
  · rw [e]; intro z; injection z with z; exact hlt b hb z
set_option maxRecDepth 100000 in
set_option maxHeartbeats 2000000 in
theorem some_inS (F : Fence) (n : Nat) (h23 : F.fn 23) (g : Nat) (lb : Array Value) (hg : F.fn g) (eg : ∀ args w, (callFunc g args).run Try.prog w = .ok (.enter g args) w) (hro : F.round = none) (hn : 3 ≤ n) (m : Int) (xs : List Int) (w : World) (Rd : Nat → Prop) (hRd : ∀ b, Rd b → b < w.heap.size)
    (hseq : ∀ W, Below w.heap.size w W → w.heap.size + 1 ≤ W.heap.size → SeqS F (n - 1) Try.prog g lb (fun x : Int => #[Value.int .i64 x]) Rd (fun _ => False) (fun ys => ys = xs) (fun pre => pre <+: xs) xs.length W) :
    CallsIn F n Try.prog 23 #[.func (.func g) #[] lb, .int .i64 m] w fun e W' => ∃ v, e = .returned v ∧ W'.ownsRow w.heap.size 3 1 v (xs.take (lim m)).length ((xs.take (lim m)).map (Value.int .i64)) ∧ (v = .slice none 0 0 ↔ xs.take (lim m) = []) ∧ Below w.heap.size w W' := by
  have h1 : 1 ≤ n := by omega
  obtain ⟨i0, hi, hz0, hz1, hz2⟩ := info_parts info3
  refine callsIn_of_wp_marks Try.func23 rfl h23 ?_ hro
  simp only [Try.ntmps23, List.size_toArray, List.length_cons, List.length_nil, Nat.reduceAdd, Nat.reduceSub, Array.replicate_succ, Array.replicate_zero, List.push_toArray, List.append_toArray, List.nil_append, List.cons_append]
  have heq := eq_nilFunc g lb
  gi_wp2
  · rename_i h0
    have hm0 : lim m = 0 := lim_zero (eq_of_beq h0)
    rw [hm0]
    refine ⟨_, results_tmp rfl _ _ _, ?_⟩
    exact ⟨_, rfl, World.ownsRow_nil _ _ _ _, by simp, ((Below.refl _ w).alloc (Nat.le_refl _) _).alloc (by simp) _⟩
  · rename_i h0 K hK0
    have hm0 : 0 < lim m := lim_pos (fun e => by subst e; simp at h0)
    have bM := (Boxed.new w 3 (.int .i64 m)).alloc (.cells #[.slice none 0 0] 26)
    have bO := Boxed.new (w.alloc (.cells #[.int .i64 m] 3)) 26 (.slice none 0 0)
    rw [World.size_alloc] at bO
    have hB0 : Below w.heap.size w ((w.alloc (.cells #[.int .i64 m] 3)).alloc (.cells #[.slice none 0 0] 26)) := ((Below.refl _ w).alloc (Nat.le_refl _) _).alloc (by simp) _
    have hB0s : ((w.alloc (.cells #[.int .i64 m] 3)).alloc (.cells #[.slice none 0 0] 26)).heap.size = w.heap.size + 2 := by simp
    obtain ⟨W0, hW0⟩ : ∃ W0, ((w.alloc (.cells #[.int .i64 m] 3)).alloc (.cells #[.slice none 0 0] 26)) = W0 := ⟨_, rfl⟩
    rw [hW0] at bM bO hB0 hB0s ⊢
    have hO := hold_own (w.heap.size + 1) W0.heap.size W0 (w.heap.size + 1) (by omega) (by omega) (Nat.le_refl _)
    refine wpIn_rangeFunc_S hro h1 (gf := g) (lb := lb) rfl hg eg
      (hseq W0 hB0 (by omega)) (fun b hb => by rcases hb with z | z; exact z.elim; have := hRd b z; omega) (Below.refl _ _) (fun _ => rfl)
      (fun pre T W => Hold (w.heap.size + 1) W0.heap.size W0 (w.heap.size + 1) pre T W ∧ pre.length < lim m)
      (fun c pre T W => Hold (w.heap.size + 1) W0.heap.size W0 (w.heap.size + 1) pre T W ∧ pre.length = lim m ∧ c = .exit 0)
      (fun s T A A' T' hs h1 h2 => ⟨hO s T A A' T' hs.1 h1 h2, hs.2⟩)
      (fun c s T A A' T' hs h1 h2 => ⟨hO s T A A' T' hs.1 h1 h2, hs.2⟩)
      ⟨⟨⟨_, bO, World.ownsRow_nil _ _ _ _, by simp, fun b hb => hb.elim⟩, Below.refl _ _, fun b hb => hb.elim⟩, hm0⟩
      (fun x a' _ => a' = { tmps := #[.func (.func g) #[] lb, .int .i64 m, undef, .pointer (some ⟨w.heap.size, 0, none⟩), .slice none 0 0, .pointer (some ⟨w.heap.size + 1, 0, none⟩), .int .i64 x, .func (.func g) #[] lb, .bool false, .bool false, .int .i64 m, .bool false, .bool false, undef, .func (.func g) #[] lb, .int .i64 x, undef, undef, undef, undef, undef, undef, undef, undef, undef, undef, undef, undef, undef, undef], defers := [] })
      (fun _ _ _ _ _ _ hs _ _ => hs) ?assign ?body ?done ?stop
    case assign =>
      intro l pre x T W K hI hK
      gi_wp2
      exact hK _ _ (KeepsFrom.refl _ _) (KeepsT.refl _ _) hI rfl
    case body =>
      rintro l pre x T a' W _ _ ⟨⟨⟨v, hv, hrow, hnil, hT⟩, hB, hT0⟩, hlm⟩ rfl hlt
      have hll := lim_le m
      have hc := hv.cell
      have hcm : W.cell? ⟨w.heap.size, 0, none⟩ = some (.int .i64 m) := (hB.cell (p := ⟨w.heap.size, 0, none⟩) (Nat.lt_succ_self _)).trans bM.cell
      have hsz := hB.size
      gi_wp2_with (gi_at_builtin; go_loud (refine wpListIn_append_at _ rfl _ _ 26 rfl (w.heap.size + 1) 3 i0 (.int .i64 0) 1 8 Try.underlying26 hi hz0 hz1 hz2 rfl (by decide) _ _ _ rfl (hrow.alloc _) ⟨W.heap.size, 0, none⟩ 1 1 [.int .i64 x] rfl rfl (cell_one_new _ _ _) (by simp [Value.oneCell']) (by unfold maxLen; omega) (by omega) (by rw [World.size_alloc]; omega) ?_; intro v' w1 hown' hgrow _ hat; obtain ⟨g', cap', rfl⟩ := ownsRow_succ hown'; obtain ⟨hv1, hv2, hr2, hk2, hb2⟩ := hv.appended (by decide) hrow (by omega) (Nat.le_refl _) hown' hgrow; have hc1 := hv1.cell; have hf1 := hv1.frozen; have hc2 := hv2.cell; have hcm2 := (hb2.cell (p := ⟨w.heap.size, 0, none⟩) (Nat.lt_succ_self _)).trans hcm))
      all_goals
        have hkT := keeps_app (n0 := w.heap.size + 1) (B := w.heap.size + 1) (base := W0.heap.size) (Rd := Rd) (T := T) (W := W) (by omega) (fun b hb => by have := hRd b hb; omega) hrow hT (fun b hb => (hT0 b hb).1) hgrow (.slice (some ⟨g', 0, none⟩) (pre.length + 1) cap')
        have hnT := new_app (W := W) hT (fun b hb => by have := hT0 b hb; rw [World.size_alloc]; omega) hat
        have hlT : ∀ b, T b → W0.heap.size ≤ b ∧ b < (w1.setCell ⟨w.heap.size + 1, 0, none⟩ (.slice (some ⟨g', 0, none⟩) (pre.length + 1) cap')).heap.size := fun b hb => ⟨(hT0 b hb).1, Nat.lt_of_lt_of_le (hT0 b hb).2 hkT.1⟩
      · rename_i h2
        exact ⟨hk2.from _, ⟨⟨_, hv2, by simpa using hr2, by simp, hnT⟩, hB.trans hb2, hlT⟩, by rw [List.length_append, List.length_singleton]; exact lim_hit hlm (by first | omega | (simp at h2; omega)), rfl⟩
      · rename_i h2
        exact ⟨hk2.from _, ⟨⟨_, hv2, by simpa using hr2, by simp, hnT⟩, hB.trans hb2, hlT⟩, by rw [List.length_append, List.length_singleton]; exact lim_hit hlm (by first | omega | (simp at h2; omega)), rfl⟩
      · rename_i h2
        exact ⟨hk2.from _, hkT, ⟨⟨_, hv2, by simpa using hr2, by simp, hnT⟩, hB.trans hb2, hlT⟩, by rw [List.length_append, List.length_singleton]; exact lim_miss hlm (by first | omega | (simp at h2; omega)) (by first | omega | (simp at h2; omega))⟩
    case done =>
      rintro D ys T W hD rfl ⟨⟨⟨v, hv, hrow, hnil, hT⟩, hB, hT0⟩, hlm⟩ hK
      have hc := hv.cell
      have ht : ys.take (lim m) = ys := List.take_of_length_le (by omega)
      gi_wp2
      refine ⟨by simp, .inl ⟨_, _, rfl, run_takeDeferred hK, ?_⟩⟩
      refine ⟨_, results_tmp rfl _ _ _, v, rfl, ?_, by rw [ht]; exact hnil, hB0.trans ((hB.mono (Nat.le_succ _)).trans (belowK_b (w := W0) (by omega) W D _ _ hD hK rfl rfl))⟩
      rw [ht]
      exact ownsRow_putObj (row_base hrow (Nat.le_succ _)) _ hK rfl
    case stop =>
      rintro D c pre T W hD hpre ⟨⟨⟨v, hv, hrow, hnil, hT⟩, hB, hT0⟩, hlm, rfl⟩ hK
      have hc := hv.cell
      have ht : xs.take (lim m) = pre := by rw [← hlm]; exact (List.prefix_iff_eq_take.1 hpre).symm
      gi_wp2
      refine ⟨by simp, .inl ⟨_, _, rfl, run_takeDeferred hK, ?_⟩⟩
      refine ⟨_, results_tmp rfl _ _ _, v, rfl, ?_, by rw [ht]; exact hnil, hB0.trans ((hB.mono (Nat.le_succ _)).trans (belowK_b (w := W0) (by omega) W D _ _ hD hK rfl rfl))⟩
      rw [ht]
      exact ownsRow_putObj (row_base hrow (Nat.le_succ _)) _ hK rfl
end Go.Proofs.Ytfcjfjmjcmanaaa.X
