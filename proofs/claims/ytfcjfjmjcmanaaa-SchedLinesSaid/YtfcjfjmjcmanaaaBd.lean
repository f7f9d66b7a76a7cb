/- Boards: the walks of Block, Waiting, First, Wake. -/
import Derived.Test.YtfcjfjmjcmanaaaBc
import Derived.Deep.RegionHeld3
import Derived.Deep.DrawnRows
set_option linter.unusedVariables false
namespace Go.Proofs.Ytfcjfjmjcmanaaa.B
open Go Go.RowKit Go.Proofs.YtfcjfjmjcmanaaaW.PrintWords Go.Proofs.YtfcjfjmjcmanaaaW.PrintLast Go.Proofs.YtfcjfjmjcmanaaaW.PrintMore
variable {W : World} {T : Nat → Prop} {p g m N : Nat} {B : Bd} {f : Int → Value}
attribute [local go_sem ↓] Go.wp_at_zero Go.wp_at_succ
theorem wp_append_sl {w : World} {o : Oper} {a : Act} {K : Act → World → Prop} {Q : Exit → Act → World → Prop} (hgd : o.guard = none) (s x : Operand)
    (ho : o.op = .call { callee := .builtin .append, args := #[s, x], argTypes := #[26, 26] }) (v : Value) (L : List Int) (hs : a.eval s = v) (h : Sl w T v L) (ad : Addr) (c : Nat) (y : Int) (hx : a.eval x = .slice (some ad) 1 c) (hy : w.cell? ad = some (.int .i64 y)) (hl : L.length + 1 ≤ 1000)
    (hK : ∀ v' w', Sl w' (fun j => T j ∨ w.heap.size ≤ j) v' (L ++ [y]) → w.grownBy w' v.ownBlock → (v'.ownBlock = v.ownBlock ∨ ∃ j, v'.ownBlock = some j ∧ w.heap.size ≤ j) → K (a.put o.dst v') w') : Oper.wp Try.prog o a w K Q := by
  obtain ⟨v', w', hr, h1, h2, h3⟩ := h.append (c := c) hy hl o.type
  unfold Oper.wp execOp
  simp only [ho, resolve, invoke, builtin, Sem.run_bind, Sem.run_pure, Result.andThen_ok, List.map_toArray, List.map_cons, List.map_nil, hs, hx, hr]
  exact hK v' w' h1 h2 h3
theorem step_append_sl {ops : Array Oper} {E : Prop} {w : World} {o : Oper} {a : Act} {K : Act → World → Prop} {Q : Exit → Act → World → Prop} (hgd : o.guard = none) (s x : Operand)
    (ho : o.op = .call { callee := .builtin .append, args := #[s, x], argTypes := #[26, 26] }) (v : Value) (L : List Int) (hs : a.eval s = v) (h : Sl w T v L) (ad : Addr) (c : Nat) (y : Int) (hx : a.eval x = .slice (some ad) 1 c) (hy : w.cell? ad = some (.int .i64 y)) (hl : L.length + 1 ≤ 1000)
    (hK : ∀ v' w', Sl w' (fun j => T j ∨ w.heap.size ≤ j) v' (L ++ [y]) → w.grownBy w' v.ownBlock → (v'.ownBlock = v.ownBlock ∨ ∃ j, v'.ownBlock = some j ∧ w.heap.size ≤ j) → K (a.put o.dst v') w') :
    if Region.wanted o (yielded ops a.tmps) = true then Oper.wp Try.prog o a w K Q else E := by
  have hw : Region.wanted o (yielded ops a.tmps) = true := by simp [Region.wanted, hgd]
  rw [if_pos hw]
  exact wp_append_sl hgd s x ho v L hs h ad c y hx hy hl hK
/-- What the regions read of a board. -/
theorem Bat.reads (h : Bat W T p g m N B f) {k : Int} (hk : (Lit.int .i64 k).wf = true) {X : World} (hb : Below W.heap.size W X) :
    X.cell? ⟨p, 1, none⟩ = some (.map (some m)) ∧ (Instr.lookup 123 (.map (some m)) (.int .i64 k) false).run Try.prog X = .ok (f k) X := ⟨(h.below hb).cells.2, (h.below hb).hm.look hk⟩
theorem Bat.reads2 (h : Bat W T p g m N B f) {k : Int} (hk : (Lit.int .i64 k).wf = true) {X Y : World} (hb : Below W.heap.size W X) (hg : X.grownBy Y (f k).ownBlock) :
    Y.cell? ⟨p, 1, none⟩ = some (.map (some m)) ∧ (Instr.lookup 123 (.map (some m)) (.int .i64 k) false).run Try.prog Y = .ok (f k) Y := by
  have h1 := h.below hb
  have e : ∀ i, i < X.heap.size → (∀ j, (f k).ownBlock = some j → i ≠ j) → Y.heap[i]? = X.heap[i]? := fun i hi hn => hg.block i hi (fun e => hn i e.symm rfl)
  refine ⟨?_, (h1.hm.of_block hg.size (e m h1.hm.lt (fun j hj ej => (h1.off k hk j hj).2.2 ej.symm))).look hk⟩
  rw [World.cell?_of_block (e p (h1.lt p h1.own.1) (fun j hj ej => (h1.off k hk j hj).1 ej.symm))]
  exact h1.cells.2
set_option maxRecDepth 100000 in
set_option maxHeartbeats 4000000 in
theorem block_calls (hb : Bat W T p g m N B f) (hN : N + 1 < maxLen) (h on : Int) (hon : (Lit.int .i64 on).wf = true) (hq : (B.q on).length + 1 ≤ 1000) :
    Calls Try.prog 40 #[.pointer (some ⟨p, 0, none⟩), .int .i64 h, .int .i64 on] W fun e W' => e = .returned (.int .i64 (B.block h on).2) ∧ ∃ f', Bat W' (fun i => T i ∨ W.heap.size ≤ i ∧ i < W'.heap.size) p g m (N + 1) (B.block h on).1 f' ∧ Turn T W W' := by
  obtain ⟨c0, c1⟩ := hb.cells
  have hc := ready_calls hb h
  unfold Bd.block
  by_cases hr : B.rdy h = 0
  · rw [if_pos hr]
    rw [hr] at hc
    have hh : B.has h = true := by
      cases hh : B.has h with
      | true => rfl
      | false => unfold Bd.rdy at hr; rw [if_pos hh] at hr; cases hr
    obtain ⟨hg, h0, h1, h2⟩ := B.get hh
    obtain ⟨d0, d1, d2⟩ := hb.hg.cells hg
    have fr := hb.hg.free
    replace h0 := eq_true h0
    replace h1 := eq_true h1
    have HC := Aside0.mk hc
    have HP := fun n => Aside0.mk ((hb.drewN n).put h.toNat (2, on, 0))
    have HB := Aside0.mk hb
    have HQ := Aside0.mk hq
    have HNN := Aside0.mk hN
    have HON := Aside0.mk hon
    clear hb hc hg hr hq hN hon
    go_enter Try.func40, Try.ntmps40
    go_wp2_with (go_at_call 92; refine HC.out.mono ?_; rintro e w1 ⟨rfl, ⟨n1, rfl⟩⟩)
    have H1 := (HP n1).out
    have H2 := Aside0.mk H1.1
    have H3 := Aside0.mk (((Turn.refl T W).drewN n1).trans H1.2 (fun _ h => .inl h))
    clear H1 HP
    generalize (((W.drewN n1).setCell _ _).setCell _ _).setCell _ _ = W1 at H2 H3 ⊢
    obtain ⟨b1, b2⟩ := H2.out.reads HON.out (Below.refl _ _)
    clear c0 c1 d0 d1 d2 fr
    have lk := fun X (hX : Below W1.heap.size W1 X) => (H2.out.reads HON.out hX).2
    have k1 := lk W1.drew (by repeat (first | exact Below.refl _ _ | apply below_drew | apply below_alloc))
    have k2 := lk (W1.alloc (.cells #[.int .i64 h] 3)) (by repeat (first | exact Below.refl _ _ | apply below_drew | apply below_alloc))
    have k3 := lk (W1.alloc (.cells #[.int .i64 h] 3)).drew (by repeat (first | exact Below.refl _ _ | apply below_drew | apply below_alloc))
    have k4 := lk (W1.drew.alloc (.cells #[.int .i64 h] 3)) (by repeat (first | exact Below.refl _ _ | apply below_drew | apply below_alloc))
    have k5 := lk (W1.drew.alloc (.cells #[.int .i64 h] 3)).drew (by repeat (first | exact Below.refl _ _ | apply below_drew | apply below_alloc))
    have LK := Aside0.mk lk
    clear lk
    go_region_held3 (fun w' => w'.cell? ⟨p, 1, none⟩ = some (.map (some m)))
      (first
        | exact hb6.cells.2
        | (refine (H2.out.reads2 HON.out ?_ hg5).1; (repeat (first | exact Below.refl _ _ | apply below_drew | apply below_alloc)); done)
        | (refine (H2.out.reads HON.out ?_).1; (repeat (first | exact Below.refl _ _ | apply below_drew | apply below_alloc)); done))
      ((refine step_append_sl rfl _ _ (by rfl) _ _ (by rfl) ((H2.out.below (by repeat (first | exact Below.refl _ _ | apply below_drew | apply below_alloc))).hf on HON.out) ⟨W1.heap.size, 0, none⟩ 1 h (by rfl) (by simp) HQ.out ?_; intro v5 w5 hs5 hg5 hat5; obtain ⟨w6, hr6, hb6, ht6⟩ := (H2.out.below (by repeat (first | exact Below.refl _ _ | apply below_drew | apply below_alloc))).store (Nat.lt_of_succ_lt HNN.out) HON.out hs5 hg5 hat5))
    all_goals go_wp2
    all_goals go_ret
    all_goals (
      have hs1 := H3.out.size
      have hs2 := ht6.size
      simp only [World.size_drew, World.size_alloc] at hs2
      exact ⟨rfl, ⟨_, hb6.widen (fun i hi => hi.imp id (fun hi => ⟨by have := hi.1; simp only [World.size_drew, World.size_alloc] at this; omega, hi.2⟩)) (fun i hi => hi.elim (fun z => by have := H2.out.lt i z; omega) (·.2))⟩,
        H3.out.trans ((Turn.of_below (T := T) (by repeat (first | exact Below.refl _ _ | apply below_drew | apply below_alloc))).trans ht6 (fun _ h => .inl h)) (fun _ h => .inl h)⟩)
  · rw [if_neg hr]
    obtain ⟨r, hr2⟩ : ∃ r, B.rdy h = r := ⟨_, rfl⟩
    rw [hr2] at hr hc ⊢
    have f0 : (r == 0) = false := beq_eq_false_iff_ne.2 hr
    have HC := Aside0.mk hc
    have HB := Aside0.mk hb
    clear hb hc hr hr2
    go_enter Try.func40, Try.ntmps40
    go_wp2_with (go_at_call 92; refine HC.out.mono ?_; rintro e w1 ⟨rfl, ⟨n1, rfl⟩⟩)
    go_ret
    have h1 := (HB.out.drewN n1).mono (Nat.le_succ N)
    exact ⟨rfl, f, h1.widen (fun _ h => .inl h) (fun i hi => hi.elim (h1.lt i) (·.2)), (Turn.refl _ _).drewN n1⟩
set_option maxRecDepth 100000 in
set_option maxHeartbeats 4000000 in
theorem waiting_calls (hb : Bat W T p g m N B f) (on : Int) (hon : (Lit.int .i64 on).wf = true) (hq : (B.q on).length ≤ 1000) :
    Calls Try.prog 41 #[.pointer (some ⟨p, 0, none⟩), .int .i64 on] W fun e W' => ∃ v, e = .returned v ∧ Kd.R (Kd.int .i64) 3 W' W.heap.size (fun _ => True) v (B.q on) ∧ Below W.heap.size W W' := by
  obtain ⟨c0, c1⟩ := hb.cells
  obtain ⟨A, c, hv, hc, hC⟩ := (hb.hf on hon).C
  have hl := hb.hm.look hon
  rw [hv] at hl
  have cl := X.slices_Clone.calls A c (B.q on) (B.q on) W hC hc (by unfold X.slices_Clone.f; rw [if_pos (by omega)])
  obtain ⟨L, hL⟩ : ∃ L, B.q on = L := ⟨_, rfl⟩
  rw [hL] at hl cl ⊢
  have CL := Aside0.mk cl
  clear hb hv hc hC cl hL hq hon
  go_enter Try.func41, Try.ntmps41
  go_wp2_with (go_at_call 85; refine CL.out.mono ?_; rintro e w1 ⟨v, rfl, hr, B1⟩)
  go_ret
  exact ⟨v, rfl, hr, B1⟩
set_option maxRecDepth 100000 in
set_option maxHeartbeats 4000000 in
theorem first_calls (hb : Bat W T p g m N B f) (hN : N + 1 < maxLen) (on : Int) (hon : (Lit.int .i64 on).wf = true) (hq : ∀ h ∈ B.q on, B.has h = true) :
    Calls Try.prog 43 #[.pointer (some ⟨p, 0, none⟩), .int .i64 on] W fun e W' => e = .returned (.tuple #[.int .i64 (B.first on).2.1, .bool (B.first on).2.2]) ∧ ∃ f', Bat W' (fun i => T i ∨ W.heap.size ≤ i ∧ i < W'.heap.size) p g m (N + 1) (B.first on).1 f' ∧ Turn T W W' := by
  obtain ⟨c0, c1⟩ := hb.cells
  have hl := hb.hm.look hon
  have hs := hb.hf on hon
  unfold Bd.first
  obtain ⟨L, hL⟩ : ∃ L, B.q on = L := ⟨_, rfl⟩
  rw [hL] at hs hq ⊢
  cases L with
  | nil =>
    have hv : f on = .slice none 0 0 := by
      rcases hs with h | ⟨_, _, _, _, _, _, h, _⟩
      · exact h.1
      · exact absurd h (by simp)
    rw [hv] at hl
    have HB := Aside0.mk hb
    clear hb hs hq hL hv hon hN
    simp only
    go_enter Try.func43, Try.ntmps43
    go_wp2
    go_ret2
    exact ⟨rfl, f, (HB.out.mono (Nat.le_succ N)).widen (fun _ h => .inl h) (fun i hi => hi.elim (HB.out.lt i) (·.2)), Turn.refl _ _⟩
  | cons x t =>
    obtain ⟨j, off, cap, hv, hcap, hmax, hx, ht⟩ := hs.cut
    obtain ⟨n, hn⟩ : ∃ n, t.length + 1 = n := ⟨_, rfl⟩
    rw [hn] at hv hcap
    rw [hv] at hl
    obtain ⟨hg, h0, h1, h2⟩ := B.get (hq x (by simp))
    have HB := Aside0.mk hb
    have hn0 : ((n : Int) == 0) = false := by simp; omega
    have hn1 : ((0 : Int) < (n : Int)) = True := eq_true (by omega)
    have hn4 : (0 < n) = True := eq_true (by omega)
    have hn2 : ((1 : Int) ≤ (n : Int)) = True := eq_true (by omega)
    have hn3 : ((n : Int) ≤ (cap : Int)) = True := eq_true (by omega)
    have HT := Aside0.mk ht
    have hs0 := ht
    have k1 : (Instr.lookup 123 (.map (some m)) (.int .i64 on) false).run Try.prog W.drew = .ok (f on) W.drew := (hb.drewN 1).hm.look hon
    rw [hv] at k1
    have HV := Aside0.mk hv
    have HNN := Aside0.mk hN
    have HON := Aside0.mk hon
    obtain ⟨i03, hi03, _, hsz3, _⟩ := info_parts info3'
    have hcut := cut_from (P := Try.prog) 26 3 .i64 Try.underlying26 hi03 1 hsz3 (some ⟨j, off, none⟩) n cap 1 (by omega) (by omega)
    rw [show (1 : Int).toNat = 1 from rfl] at hcut
    have fr := hb.hg.free
    replace h0 := eq_true h0
    replace h1 := eq_true h1
    obtain ⟨d0, d1, d2⟩ := hb.hg.cells hg
    clear hi03 hsz3
    cases t with
    | nil =>
      obtain rfl : 1 = n := hn
      obtain ⟨AF, hAF⟩ : ∃ AF, (if cap = 1 then some (⟨j, off, none⟩ : Addr) else (some (⟨j, off, none⟩ : Addr)).map (·.add (1 * 1))) = AF := ⟨_, rfl⟩
      rw [hAF] at hcut
      obtain ⟨W2, s1, s2, s3, s4, W3, s5, s6, s7⟩ := (hb.drewN 1).strike (Nat.lt_of_succ_lt hN) hon (.slice AF (1 - 1) (cap - 1))
      clear hb hs hq hL hv ht hAF
      rw [show (W.drewN 1).cell? ⟨p, 0, none⟩ = W.cell? ⟨p, 0, none⟩ from rfl, c0] at s3
      rw [show (W.drewN 1).cell? ⟨p, 1, none⟩ = W.cell? ⟨p, 1, none⟩ from rfl, c1] at s4
      replace s1 : (Instr.mapUpdate 123 (.map (some m)) (.int .i64 on) (.slice AF (1 - 1) (cap - 1))).run Try.prog W.drew = .ok () W2 := s1
      have e0 := s6.cells.1
      have e1 := s6.hg.free
      obtain ⟨z0, z1, z2⟩ := s6.hg.cells hg
      have HP := Aside0.mk (s6.put x.toNat (1, 0, 0))
      have H7 := Aside0.mk s7
      clear s6 s7 hg d0 d1 d2 fr
      simp only
      go_enter Try.func43, Try.ntmps43
      go_wp2
      go_region_held3 (fun w' => w'.cell? ⟨p, 1, none⟩ = some (.map (some m)))
        (first
          | exact s4
          | (refine (HB.out.reads HON.out ?_).1; (repeat (first | exact Below.refl _ _ | apply below_drew | apply below_alloc)); done))
        (fail)
      go_wp2
      go_ret2
      have hp := HP.out
      exact ⟨rfl, _, hp.1.widen (fun _ h => .inl h) (fun i hi => hi.elim (hp.1.lt i) (·.2)), (((Turn.refl T W).drewN 1).trans H7.out (fun _ h => .inl h)).trans hp.2 (fun _ h => .inl h)⟩
    | cons y t =>
      have ht' := (hs0 (by simp) : Sl W T _ (y :: t))
      have hne : ¬ cap = 1 := by simp only [List.length_cons] at hn; omega
      rw [if_neg hne, show (some (⟨j, off, none⟩ : Addr)).map (·.add (1 * 1)) = some ⟨j, off + 1, none⟩ from rfl, show n - 1 = (y :: t).length by omega] at hcut
      have hsd : Sl W.drew (fun i => T i ∨ W.drew.heap.size ≤ i) (.slice (some ⟨j, off + 1, none⟩) (y :: t).length (cap - 1)) (y :: t) := (ht'.kept (fun _ _ => rfl)).mono (fun _ _ h => .inl h)
      obtain ⟨W2, s1, s6, s7⟩ := (hb.drewN 1).store (Nat.lt_of_succ_lt hN) hon hsd ⟨rfl, rfl, rfl, Nat.le_refl _, fun _ _ _ => rfl⟩ (.inl (by rw [hv]; rfl))
      have s2 := s6.hm.look hon
      rw [show upd f on (.slice (some ⟨j, off + 1, none⟩) (y :: t).length (cap - 1)) on = (.slice (some ⟨j, off + 1, none⟩) (y :: t).length (cap - 1) : Value) from if_pos rfl] at s2
      obtain ⟨s3, s4⟩ := s6.cells
      have e1 := s6.hg.free
      obtain ⟨z0, z1, z2⟩ := s6.hg.cells hg
      have HP := Aside0.mk (s6.put x.toNat (1, 0, 0))
      have H7 := Aside0.mk s7
      obtain ⟨n2, hn2'⟩ : ∃ n2, (y :: t).length = n2 := ⟨_, rfl⟩
      rw [hn2'] at hcut s1 s2
      have hnz : ((n2 : Int) == 0) = false := by rw [← hn2']; simp; omega
      clear hb hs hq hL hv ht s6 s7 hg d0 d1 d2 fr hn2' hn ht' hsd hs0
      simp only
      go_enter Try.func43, Try.ntmps43
      go_wp2
      go_region_held3 (fun w' => w'.cell? ⟨p, 1, none⟩ = some (.map (some m)))
        (first
          | exact s4
          | (refine (HB.out.reads HON.out ?_).1; (repeat (first | exact Below.refl _ _ | apply below_drew | apply below_alloc)); done))
        (fail)
      go_wp2
      go_ret2
      have hp := HP.out
      exact ⟨rfl, _, hp.1.widen (fun _ h => h.imp id (fun h => ⟨h.1, by simpa using h.2⟩)) (fun i hi => hi.elim (fun z => hp.1.lt i (.inl z)) (·.2)), (((Turn.refl T W).drewN 1).trans H7.out (fun _ h => .inl h)).trans hp.2 (fun _ h => h.imp id (·.1))⟩
end Go.Proofs.Ytfcjfjmjcmanaaa.B
