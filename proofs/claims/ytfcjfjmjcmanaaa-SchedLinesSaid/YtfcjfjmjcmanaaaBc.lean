/- Boards: the walks of has, ready, Start, Finish, State. -/
import Derived.Test.YtfcjfjmjcmanaaaBb
set_option linter.unusedVariables false
namespace Go.Proofs.Ytfcjfjmjcmanaaa.B
open Go Go.RowKit Go.Proofs.YtfcjfjmjcmanaaaW.PrintWords Go.Proofs.YtfcjfjmjcmanaaaW.PrintLast Go.Proofs.YtfcjfjmjcmanaaaW.PrintMore
variable {W : World} {T : Nat → Prop} {p g m N : Nat} {B : Bd} {f : Int → Value}
set_option maxRecDepth 100000 in
set_option maxHeartbeats 4000000 in
theorem has_calls (hb : Bat W T p g m N B f) (h : Int) : Calls Try.prog 91 #[.pointer (some ⟨p, 0, none⟩), .int .i64 h] W fun e W' => e = .returned (.bool (B.has h)) ∧ Drawn0 W W' := by
  obtain ⟨c0, c1⟩ := hb.cells
  clear hb
  obtain ⟨r, hr⟩ : ∃ r, B.has h = r := ⟨_, rfl⟩
  rw [hr]
  unfold Bd.has at hr
  by_cases h0 : 0 ≤ h
  · have b0 : decide (0 ≤ h) = true := decide_eq_true h0
    rw [b0, Bool.true_and] at hr
    have p0 := eq_true h0
    clear h0
    go_enter Try.func91, Try.ntmps91
    go_wp2
    go_ret
    exact ⟨rfl, ⟨0, rfl⟩⟩
  · have b0 : decide (0 ≤ h) = false := decide_eq_false h0
    rw [b0, Bool.false_and] at hr
    have p0 := eq_false h0
    clear h0
    subst hr
    go_enter Try.func91, Try.ntmps91
    go_wp2
    go_ret
    exact ⟨rfl, ⟨0, rfl⟩⟩
set_option maxRecDepth 100000 in
set_option maxHeartbeats 4000000 in
theorem ready_calls (hb : Bat W T p g m N B f) (h : Int) : Calls Try.prog 92 #[.pointer (some ⟨p, 0, none⟩), .int .i64 h] W fun e W' => e = .returned (.int .i64 (B.rdy h)) ∧ Drawn0 W W' := by
  obtain ⟨c0, c1⟩ := hb.cells
  have hc := has_calls hb h
  unfold Bd.rdy
  cases hh : B.has h with
  | false =>
    rw [hh] at hc
    rw [if_pos rfl]
    have HC := Aside0.mk hc
    clear hb hc
    go_enter Try.func92, Try.ntmps92
    go_wp2_with (go_at_call 91; refine HC.out.mono ?_; rintro e w1 ⟨rfl, ⟨n1, rfl⟩⟩)
    go_ret
    exact ⟨rfl, ⟨n1, rfl⟩⟩
  | true =>
    rw [hh] at hc
    rw [if_neg (by simp)]
    obtain ⟨hg, h0, h1, h2⟩ := B.get hh
    obtain ⟨d0, d1, d2⟩ := hb.hg.cells hg
    obtain ⟨⟨s, o, c⟩, hx⟩ : ∃ x, B.hd h = x := ⟨_, rfl⟩
    rw [hx] at d0 d1 d2 ⊢
    replace h0 := eq_true h0
    replace h1 := eq_true h1
    have HC := Aside0.mk hc
    clear hb hc hg hx
    simp only at d0 d1 d2 ⊢
    by_cases e0 : s = 0
    · subst e0
      rw [if_pos rfl]
      go_enter Try.func92, Try.ntmps92
      go_wp2_with (go_at_call 91; refine HC.out.mono ?_; rintro e w1 ⟨rfl, ⟨n1, rfl⟩⟩)
      go_ret
      exact ⟨rfl, ⟨n1, rfl⟩⟩
    · have f0 : (s == 0) = false := beq_eq_false_iff_ne.2 e0
      rw [if_neg e0]
      by_cases e2 : s = 2
      · subst e2
        rw [if_pos rfl]
        go_enter Try.func92, Try.ntmps92
        go_wp2_with (go_at_call 91; refine HC.out.mono ?_; rintro e w1 ⟨rfl, ⟨n1, rfl⟩⟩)
        go_ret
        exact ⟨rfl, ⟨n1, rfl⟩⟩
      · have f2 : (s == 2) = false := beq_eq_false_iff_ne.2 e2
        rw [if_neg e2]
        go_enter Try.func92, Try.ntmps92
        go_wp2_with (go_at_call 91; refine HC.out.mono ?_; rintro e w1 ⟨rfl, ⟨n1, rfl⟩⟩)
        go_ret
        exact ⟨rfl, ⟨n1, rfl⟩⟩
set_option maxRecDepth 100000 in
set_option maxHeartbeats 4000000 in
theorem start_calls (hb : Bat W T p g m N B f) (h : Int) : Calls Try.prog 39 #[.pointer (some ⟨p, 0, none⟩), .int .i64 h] W fun e W' => e = .returned (.int .i64 (B.start h).2) ∧ Bat W' T p g m N (B.start h).1 f ∧ Turn T W W' := by
  obtain ⟨c0, c1⟩ := hb.cells
  have hc := has_calls hb h
  unfold Bd.start
  cases hh : B.has h with
  | false =>
    rw [hh] at hc
    rw [if_pos rfl]
    have HC := Aside0.mk hc
    have HB := Aside0.mk hb
    clear hb hc
    go_enter Try.func39, Try.ntmps39
    go_wp2_with (go_at_call 91; refine HC.out.mono ?_; rintro e w1 ⟨rfl, ⟨n1, rfl⟩⟩)
    go_ret
    exact ⟨rfl, HB.out.drewN n1, (Turn.refl _ _).drewN n1⟩
  | true =>
    rw [hh] at hc
    rw [if_neg (by simp)]
    obtain ⟨hg, h0, h1, h2⟩ := B.get hh
    obtain ⟨d0, d1, d2⟩ := hb.hg.cells hg
    have fr := hb.hg.free
    obtain ⟨⟨s, o, c⟩, hx⟩ : ∃ x, B.hd h = x := ⟨_, rfl⟩
    rw [hx] at d0 d1 d2 ⊢
    replace h0 := eq_true h0
    replace h1 := eq_true h1
    have HC := Aside0.mk hc
    have HP := fun n => Aside0.mk ((hb.drewN n).put h.toNat (1, 0, 0))
    have HB := Aside0.mk hb
    clear hb hc hg hx
    simp only at d0 d1 d2 ⊢
    by_cases e0 : s = 0
    · subst e0
      rw [if_pos rfl]
      go_enter Try.func39, Try.ntmps39
      go_wp2_with (go_at_call 91; refine HC.out.mono ?_; rintro e w1 ⟨rfl, ⟨n1, rfl⟩⟩)
      go_ret
      exact ⟨rfl, (HP n1).out.1, ((Turn.refl T W).drewN n1).trans (HP n1).out.2 (fun _ h => .inl h)⟩
    · have f0 : (s == 0) = false := beq_eq_false_iff_ne.2 e0
      rw [if_neg e0]
      go_enter Try.func39, Try.ntmps39
      go_wp2_with (go_at_call 91; refine HC.out.mono ?_; rintro e w1 ⟨rfl, ⟨n1, rfl⟩⟩)
      go_ret
      exact ⟨rfl, HB.out.drewN n1, (Turn.refl _ _).drewN n1⟩
set_option maxRecDepth 100000 in
set_option maxHeartbeats 4000000 in
theorem finish_calls (hb : Bat W T p g m N B f) (h : Int) : Calls Try.prog 48 #[.pointer (some ⟨p, 0, none⟩), .int .i64 h] W fun e W' => e = .returned (.int .i64 (B.finish h).2) ∧ Bat W' T p g m N (B.finish h).1 f ∧ Turn T W W' := by
  obtain ⟨c0, c1⟩ := hb.cells
  have hc := ready_calls hb h
  unfold Bd.finish
  by_cases hr : B.rdy h = 0
  · rw [if_pos hr]
    rw [hr] at hc
    have hh : B.has h = true := by
      cases hh : B.has h with
      | true => rfl
      | false => unfold Bd.rdy at hr; rw [if_pos hh] at hr; cases hr
    obtain ⟨hg, h0, h1, h2⟩ := B.get hh
    obtain ⟨d0, d1, d2⟩ := hb.hg.cells hg
    have fr := hb.hg.free
    replace h0 := eq_true h0
    replace h1 := eq_true h1
    have HC := Aside0.mk hc
    have HP := fun n => Aside0.mk ((hb.drewN n).put h.toNat (0, 0, 0))
    have HB := Aside0.mk hb
    clear hb hc hg hr
    go_enter Try.func48, Try.ntmps48
    go_wp2_with (go_at_call 92; refine HC.out.mono ?_; rintro e w1 ⟨rfl, ⟨n1, rfl⟩⟩)
    go_ret
    exact ⟨rfl, (HP n1).out.1, ((Turn.refl T W).drewN n1).trans (HP n1).out.2 (fun _ h => .inl h)⟩
  · rw [if_neg hr]
    obtain ⟨r, hr2⟩ : ∃ r, B.rdy h = r := ⟨_, rfl⟩
    rw [hr2] at hr hc ⊢
    have f0 : (r == 0) = false := beq_eq_false_iff_ne.2 hr
    have HC := Aside0.mk hc
    have HB := Aside0.mk hb
    clear hb hc hr hr2
    go_enter Try.func48, Try.ntmps48
    go_wp2_with (go_at_call 92; refine HC.out.mono ?_; rintro e w1 ⟨rfl, ⟨n1, rfl⟩⟩)
    go_ret
    exact ⟨rfl, HB.out.drewN n1, (Turn.refl _ _).drewN n1⟩
end Go.Proofs.Ytfcjfjmjcmanaaa.B
