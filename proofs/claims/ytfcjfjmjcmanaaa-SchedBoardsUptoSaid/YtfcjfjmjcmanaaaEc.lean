/- SchedBoards: the walks of the document's board: there, turn, ready, Start, Finish, Block, Where. -/
import Derived.Test.YtfcjfjmjcmanaaaEb
set_option linter.unusedVariables false
namespace Go.Proofs.Ytfcjfjmjcmanaaa.B
open Go Go.RowKit Go.Proofs.YtfcjfjmjcmanaaaW.PrintWords Go.Proofs.YtfcjfjmjcmanaaaW.PrintLast Go.Proofs.YtfcjfjmjcmanaaaW.PrintMore
variable {W : World} {R : Nat → Prop} {r : Nat} {a : Nat → Addr} {c : Nat → Nat} {n : Nat} {l : List Hd} {tn : List Int} {B : Bd} {u : Int}
set_option maxRecDepth 100000
set_option maxHeartbeats 4000000
theorem rthere_calls (hb : RAt W R r a c n B.l tn u) (h : Int) : Calls Try.prog 128 #[.pointer (some ⟨r, 0, none⟩), .int .i64 h] W fun e W' => e = .returned (.bool (B.has h)) ∧ Drawn0 W W' := by
  obtain ⟨c0, c1, c2, c3, c4⟩ := hb.cells
  have hn := hb.1
  clear hb
  obtain ⟨q, hq⟩ : ∃ q, B.has h = q := ⟨_, rfl⟩
  rw [hq]
  unfold Bd.has at hq
  rw [hn] at hq
  clear hn
  by_cases h0 : 0 ≤ h
  · have t0 : decide (0 ≤ h) = true := decide_eq_true h0
    rw [t0, Bool.true_and] at hq
    replace h0 := eq_true h0
    go_enter Try.func128, Try.ntmps128
    go_wp2
    go_ret
    exact ⟨by first | rfl | rw [hq], Drawn0.refl _⟩
  · have t0 : decide (0 ≤ h) = false := decide_eq_false h0
    rw [t0, Bool.false_and] at hq
    subst hq
    replace h0 := eq_false h0
    go_enter Try.func128, Try.ntmps128
    go_wp2
    go_ret
    exact ⟨rfl, Drawn0.refl _⟩
theorem rturn_calls (hb : RAt W R r a c n B.l tn u) {h : Int} (hh : B.has h = true) (s o : Int) : Calls Try.prog 129 #[.pointer (some ⟨r, 0, none⟩), .int .i64 h, .int .i64 s, .int .i64 o] W fun e W' => e = .returned (.tuple #[]) ∧ RAt W' R r a c n (B.l.set h.toNat (s, o, 0)) tn u ∧ Turn R W W' := by
  obtain ⟨c0, c1, c2, c3, c4⟩ := hb.cells
  obtain ⟨d0, d1, d2, d3, h0, h1⟩ := hb.hd hh
  obtain ⟨p1, p2, p3, ⟨y1, p4⟩, ⟨y2, p5⟩, ⟨y3, p6⟩, p7, p8, p9, p10⟩ := hb.put (i := h.toNat) (by omega) (s, o, 0)
  simp only at p1 p2 p3 p4 p5 p6 p7 p8 p9 p10
  have HP := Aside0.mk (And.intro p9 p10)
  clear hb p9 p10 d0 d1 d2 d3
  replace h0 := eq_true h0
  replace h1 := eq_true h1
  go_enter Try.func129, Try.ntmps129
  go_wp2
  go_end0
  exact ⟨rfl, HP.out⟩
theorem rready_calls (hb : RAt W R r a c n B.l tn u) (h : Int) : Calls Try.prog 130 #[.pointer (some ⟨r, 0, none⟩), .int .i64 h] W fun e W' => e = .returned (.int .i64 (B.rdy h)) ∧ Drawn0 W W' := by
  obtain ⟨c0, c1, c2, c3, c4⟩ := hb.cells
  have hc := rthere_calls hb h
  unfold Bd.rdy
  cases hh : B.has h with
  | false =>
    rw [hh] at hc
    rw [if_pos rfl]
    have HC := Aside0.mk hc
    clear hb hc
    go_enter Try.func130, Try.ntmps130
    go_wp2_with (go_at_call 128; refine HC.out.mono ?_; rintro e w1 ⟨rfl, ⟨n1, rfl⟩⟩)
    go_ret
    exact ⟨rfl, ⟨_, rfl⟩⟩
  | true =>
    rw [hh] at hc
    rw [if_neg (by simp)]
    obtain ⟨d0, d1, d2, d3, h0, h1⟩ := hb.hd hh
    obtain ⟨s, hs⟩ : ∃ s, (B.hd h).1 = s := ⟨_, rfl⟩
    rw [hs] at d0 ⊢
    have HC := Aside0.mk hc
    clear hb hc d1 d2 d3
    replace h0 := eq_true h0
    replace h1 := eq_true h1
    by_cases e0 : s = 0
    · subst e0
      rw [if_pos rfl]
      go_enter Try.func130, Try.ntmps130
      go_wp2_with (go_at_call 128; refine HC.out.mono ?_; rintro e w1 ⟨rfl, ⟨n1, rfl⟩⟩)
      go_ret
      exact ⟨rfl, ⟨_, rfl⟩⟩
    · rw [if_neg e0]
      have f0 : (s == 0) = false := beq_eq_false_iff_ne.2 e0
      by_cases e2 : s = 2
      · subst e2
        rw [if_pos rfl]
        go_enter Try.func130, Try.ntmps130
        go_wp2_with (go_at_call 128; refine HC.out.mono ?_; rintro e w1 ⟨rfl, ⟨n1, rfl⟩⟩)
        go_ret
        exact ⟨rfl, ⟨_, rfl⟩⟩
      · rw [if_neg e2]
        have f2 : (s == 2) = false := beq_eq_false_iff_ne.2 e2
        go_enter Try.func130, Try.ntmps130
        go_wp2_with (go_at_call 128; refine HC.out.mono ?_; rintro e w1 ⟨rfl, ⟨n1, rfl⟩⟩)
        go_ret
        exact ⟨rfl, ⟨_, rfl⟩⟩
theorem rstart_calls (hb : RAt W R r a c n B.l tn u) (h : Int) : Calls Try.prog 93 #[.pointer (some ⟨r, 0, none⟩), .int .i64 h] W fun e W' => e = .returned (.int .i64 (B.start h).2) ∧ RAt W' R r a c n (B.start h).1.l tn u ∧ Turn R W W' := by
  obtain ⟨c0, c1, c2, c3, c4⟩ := hb.cells
  have hc := rthere_calls hb h
  unfold Bd.start
  cases hh : B.has h with
  | false =>
    rw [hh] at hc
    rw [if_pos rfl]
    have HC := Aside0.mk hc
    have HB := Aside0.mk hb
    clear hb hc
    go_enter Try.func93, Try.ntmps93
    go_wp2_with (go_at_call 128; refine HC.out.mono ?_; rintro e w1 ⟨rfl, ⟨n1, rfl⟩⟩)
    go_ret
    exact ⟨rfl, HB.out.drewN n1, (Turn.refl _ _).drewN n1⟩
  | true =>
    rw [hh] at hc
    rw [if_neg (by simp)]
    obtain ⟨d0, d1, d2, d3, h0, h1⟩ := hb.hd hh
    obtain ⟨s, hs⟩ : ∃ s, (B.hd h).1 = s := ⟨_, rfl⟩
    rw [hs] at d0 ⊢
    have HC := Aside0.mk hc
    have HT := fun k => Aside0.mk (rturn_calls (hb.drewN k) hh 1 0)
    have HB := Aside0.mk hb
    clear hb hc d1 d2 d3 hs
    replace h0 := eq_true h0
    replace h1 := eq_true h1
    by_cases e0 : s = 0
    · subst e0
      rw [if_pos rfl]
      go_enter Try.func93, Try.ntmps93
      go_wp2_with (first
        | (go_at_call 128; refine HC.out.mono ?_; rintro e w1 ⟨rfl, ⟨n1, rfl⟩⟩)
        | (go_at_call 129; refine (HT _).out.mono ?_; rintro e w2 ⟨rfl, g1, g2⟩))
      go_ret
      exact ⟨rfl, g1, ((Turn.refl R W).drewN _).trans g2 (fun _ h => .inl h)⟩
    · have f0 : (s == 0) = false := beq_eq_false_iff_ne.2 e0
      rw [if_neg e0]
      clear HT
      go_enter Try.func93, Try.ntmps93
      go_wp2_with (go_at_call 128; refine HC.out.mono ?_; rintro e w1 ⟨rfl, ⟨n1, rfl⟩⟩)
      go_ret
      exact ⟨rfl, HB.out.drewN n1, (Turn.refl _ _).drewN n1⟩
theorem rfinish_calls (hb : RAt W R r a c n B.l tn u) (h : Int) : Calls Try.prog 97 #[.pointer (some ⟨r, 0, none⟩), .int .i64 h] W fun e W' => e = .returned (.int .i64 (B.finish h).2) ∧ RAt W' R r a c n (B.finish h).1.l tn u ∧ Turn R W W' := by
  have hc := rready_calls hb h
  unfold Bd.finish
  by_cases hr : B.rdy h = 0
  · rw [if_pos hr]
    rw [hr] at hc
    obtain ⟨hh, _⟩ := rdy_zero hr
    have HC := Aside0.mk hc
    have HT := fun k => Aside0.mk (rturn_calls (hb.drewN k) hh 0 0)
    clear hb hc hr
    go_enter Try.func97, Try.ntmps97
    go_wp2_with (first
      | (go_at_call 130; refine HC.out.mono ?_; rintro e w1 ⟨rfl, ⟨n1, rfl⟩⟩)
      | (go_at_call 129; refine (HT _).out.mono ?_; rintro e w2 ⟨rfl, g1, g2⟩))
    go_ret
    exact ⟨rfl, g1, ((Turn.refl R W).drewN _).trans g2 (fun _ h => .inl h)⟩
  · rw [if_neg hr]
    obtain ⟨q, hq⟩ : ∃ q, B.rdy h = q := ⟨_, rfl⟩
    rw [hq] at hr hc ⊢
    have f0 : (q == 0) = false := beq_eq_false_iff_ne.2 hr
    have HC := Aside0.mk hc
    have HB := Aside0.mk hb
    clear hb hc hr hq
    go_enter Try.func97, Try.ntmps97
    go_wp2_with (go_at_call 130; refine HC.out.mono ?_; rintro e w1 ⟨rfl, ⟨n1, rfl⟩⟩)
    go_ret
    exact ⟨rfl, HB.out.drewN n1, (Turn.refl _ _).drewN n1⟩
theorem rblock_calls (hb : RAt W R r a c n B.l tn u) (h on : Int) (hu : wrap64 (u + 1) = u + 1) : Calls Try.prog 94 #[.pointer (some ⟨r, 0, none⟩), .int .i64 h, .int .i64 on] W fun e W' => e = .returned (.int .i64 (B.block h on).2) ∧ RAt W' R r a c n (B.block h on).1.l (if B.rdy h = 0 then tn.set h.toNat (u + 1) else tn) (if B.rdy h = 0 then u + 1 else u) ∧ Turn R W W' := by
  have hc := rready_calls hb h
  unfold Bd.block
  by_cases hr : B.rdy h = 0
  · rw [if_pos hr, if_pos hr, if_pos hr]
    rw [hr] at hc
    obtain ⟨hh, _⟩ := rdy_zero hr
    obtain ⟨_, _, _, _, h0, h1⟩ := hb.hd hh
    have hi : h.toNat < n := by omega
    have HC := Aside0.mk hc
    have HT := fun k => Aside0.mk (rturn_calls (hb.drewN k) hh 2 on)
    have HU := Aside0.mk hu
    have HI := Aside0.mk hi
    clear hb hc hr hu hi
    replace h0 := eq_true h0
    replace h1 := eq_true h1
    go_enter Try.func94, Try.ntmps94
    go_wp2_with (go_at_call 130; refine HC.out.mono ?_; rintro e w1 ⟨rfl, ⟨n1, rfl⟩⟩)
    go_wp2_with (go_at_call 129; refine (HT _).out.mono ?_; rintro e w2 ⟨rfl, g1, g2⟩; have G1 := Aside0.mk g1; have G2 := Aside0.mk g2; obtain ⟨c0, c1, c2, c3, c4⟩ := g1.cells; obtain ⟨m1, m2, ⟨y, m3⟩, m4, m5⟩ := g1.mark HI.out (u + 1); obtain ⟨k0, k1, k2, k3, k4⟩ := m1.cells; have F4 := g1.2.2.free 4; have M4 := Aside0.mk m4; have M5 := Aside0.mk m5; have hu := HU.out; clear g1 g2 m1 m4 m5)
    go_region
    all_goals go_wp2
    all_goals go_ret
    all_goals exact ⟨rfl, M4.out.drewN _, ((((Turn.refl R W).drewN _).trans G2.out (fun _ h => .inl h)).trans M5.out (fun _ h => .inl h)).drewN _⟩
  · rw [if_neg hr, if_neg hr, if_neg hr]
    obtain ⟨q, hq⟩ : ∃ q, B.rdy h = q := ⟨_, rfl⟩
    rw [hq] at hr hc ⊢
    have f0 : (q == 0) = false := beq_eq_false_iff_ne.2 hr
    have HC := Aside0.mk hc
    have HB := Aside0.mk hb
    clear hb hc hr hq hu
    go_enter Try.func94, Try.ntmps94
    go_wp2_with (go_at_call 130; refine HC.out.mono ?_; rintro e w1 ⟨rfl, ⟨n1, rfl⟩⟩)
    go_ret
    exact ⟨rfl, HB.out.drewN n1, (Turn.refl _ _).drewN n1⟩
/-- What both boards say of one handler. -/
def Bd.at (B : Bd) (h : Int) : Int × Int := if B.has h = true then ((B.hd h).1, (B.hd h).2.1) else (-1, 0)
theorem rwhere_calls (hb : RAt W R r a c n B.l tn u) (h : Int) : Calls Try.prog 102 #[.pointer (some ⟨r, 0, none⟩), .int .i64 h] W fun e W' => e = .returned (.tuple #[.int .i64 (B.at h).1, .int .i64 (B.at h).2]) ∧ Drawn0 W W' := by
  obtain ⟨c0, c1, c2, c3, c4⟩ := hb.cells
  have hc := rthere_calls hb h
  unfold Bd.at
  cases hh : B.has h with
  | false =>
    rw [hh] at hc
    rw [if_neg (by simp)]
    have HC := Aside0.mk hc
    clear hb hc
    go_enter Try.func102, Try.ntmps102
    go_wp2_with (go_at_call 128; refine HC.out.mono ?_; rintro e w1 ⟨rfl, ⟨n1, rfl⟩⟩)
    go_ret2
    exact ⟨rfl, ⟨_, rfl⟩⟩
  | true =>
    rw [hh] at hc
    rw [if_pos rfl]
    obtain ⟨d0, d1, d2, d3, h0, h1⟩ := hb.hd hh
    have HC := Aside0.mk hc
    clear hb hc d2 d3
    replace h0 := eq_true h0
    replace h1 := eq_true h1
    go_enter Try.func102, Try.ntmps102
    go_wp2_with (go_at_call 128; refine HC.out.mono ?_; rintro e w1 ⟨rfl, ⟨n1, rfl⟩⟩)
    go_quiet (fail)
    go_wp2
    go_ret2
    exact ⟨rfl, Drawn0.step ⟨_, rfl⟩ _⟩
end Go.Proofs.Ytfcjfjmjcmanaaa.B
