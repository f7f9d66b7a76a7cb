/- SchedRanks: the law's walk. -/
import Derived.Test.YtfcjfjmjcmanaaaXq
import Derived.Test.YtfcjfjmjcmanaaaXh
import Derived.Test.YtfcjfjmjcmanaaaPTherex3
set_option linter.unusedVariables false
namespace Go.Proofs.Ytfcjfjmjcmanaaa.X
open Go.RowKit Go.Proofs.YtfcjfjmjcmanaaaW.PrintWords Go.Proofs.YtfcjfjmjcmanaaaW.PrintLast Go.Proofs.YtfcjfjmjcmanaaaW.PrintMore
theorem same_own_l0 (L : List Int) (hL : L.length ≤ 1000) : ∀ (d i k : Nat), i + d = L.length → d < k → PThere.larderlaw07_same.l0 k L L (i : Int) = some true := by
  intro d
  induction d with
  | zero =>
    intro i k hi hk
    obtain ⟨k, rfl⟩ : ∃ m, k = m + 1 := ⟨k - 1, by omega⟩
    simp only [PThere.larderlaw07_same.l0]
    rw [if_neg (by omega)]
  | succ d ih =>
    intro i k hi hk
    obtain ⟨k, rfl⟩ : ∃ m, k = m + 1 := ⟨k - 1, by omega⟩
    simp only [PThere.larderlaw07_same.l0]
    rw [if_pos (by omega), if_pos (by omega), if_pos (by omega), if_pos trivial, wn _ (by omega)]
    exact ih (i + 1) k (by omega) (by omega)
theorem same_own (L : List Int) (hL : L.length ≤ 1000) : PThere.larderlaw07_same.f 2000 L L = some true := by
  unfold PThere.larderlaw07_same.f
  rw [if_pos rfl]
  exact same_own_l0 L hL L.length 0 2000 (by omega) (by omega)
theorem V_of_C {w : World} {A : Option Addr} {c : Nat} {l : List Int} (h : Kd.C (Kd.int .i64) w A l.length l) (hc : l.length ≤ c) : Kd.V (Kd.int .i64) 3 w w.heap.size (fun _ => True) (.slice A l.length c) l :=
  Kd.V_mono ⟨A, c, rfl, hc, Kd.C_F Kd.heap_scalar h⟩ (fun _ _ => trivial)
theorem C_of_lent {w : World} {A : Option Addr} {l : List Int} (h : Kd.C (Kd.int .i64) w A (l ++ nine 0 9).length (l ++ nine 0 9)) : Kd.C (Kd.int .i64) w A l.length l := by
  have := Kd.C_take (m := l.length) h (by simp); simpa using this
set_option maxRecDepth 100000 in
set_option maxHeartbeats 4000000 in
theorem schedRanks_walk (A0 : Option Addr) (c0 : Nat) (l : List Int) {W : World} (hr0 : Kd.C (Kd.int .i64) W A0 l.length l) (hc0 : l.length ≤ c0) (y0 : l.length * 8 ≤ 140737488351232) (zw : ∀ x ∈ l, (Lit.int .i64 x).wf = true) (a1 : Int) (w1 : (Lit.int .i64 a1).wf = true)
    (A2 : Option Addr) (c2 : Nat) (p : List Int) (hr2 : Kd.C (Kd.int .i64) W A2 p.length p) (hc2 : p.length ≤ c2) (y2 : p.length * 8 ≤ 140737488351232) (zw2 : ∀ x ∈ p, (Lit.int .i64 x).wf = true) :
    Calls Try.prog 14 #[.slice A0 l.length c0, .int .i64 a1, .slice A2 p.length c2] W fun e W' => e = .returned (.bool true) ∧ Below W.heap.size W W' := by
  have hl : l.length ≤ 17592186043904 := by omega
  have hp : p.length ≤ 17592186043904 := by omega
  obtain ⟨⟨r1, r2⟩, hr24, f1, f2⟩ := nths_both l a1 1000 (Nat.le_refl _)
  obtain ⟨⟨x1, x2⟩, g1, g2⟩ := ranks_both p 3000 (Nat.le_refl _)
  obtain ⟨s1, s2, k1, k2⟩ := switches_both p (by omega)
  have cl := lent.calls 20 A0 c0 l (l ++ nine 0 9) W hr0 hc0 (lent_eq l hl)
  have HR0 := Aside0.mk hr0
  have HC0 := Aside0.mk hc0
  have HR2 := Aside0.mk hr2
  have HC2 := Aside0.mk hc2
  have HF1 := Aside0.mk f1
  have HF2 := Aside0.mk f2
  have HG1 := Aside0.mk g1
  have HG2 := Aside0.mk g2
  have HK1 := Aside0.mk k1
  have HK2 := Aside0.mk k2
  have HL := Aside0.mk hl
  have HP := Aside0.mk hp
  have H24 := Aside0.mk hr24
  clear hr0 hc0 y0 zw f1 f2 g1 g2 k1 k2 hl hp w1 hr2 hc2 y2 zw2 hr24
  have tok := True.intro
  go_enter Try.func14, Try.ntmps14
  go_wp2_with (first
    | (go_at_call 30; have _t := tok; refine cl.mono ?_; rintro e w3 ⟨A, c, rfl, hc, hC, hlc, B3⟩; have HC1 := Aside0.mk hC; have Hc := Aside0.mk hc; have HB3 := Aside0.mk B3; clear hC hc B3 hlc tok cl)
    | (go_at_call 30; refine (lent.calls 20 A2 c2 p (p ++ nine 0 9) _ (Kd.C_below HR2.out HB3.out) HC2.out (lent_eq p HP.out)).mono ?_; rintro e w4 ⟨Ap, cp, rfl, hc, hC, hlc, B4⟩; have HCp := Aside0.mk hC; have Hcp := Aside0.mk hc; have HB4 := Aside0.mk (below_step HB3.out B4); have HC1' := Aside0.mk (Kd.C_below HC1.out B4); clear hC hc B4 hlc HC1 HB3)
    | (go_at_call 52; refine (PThere.sched_Nth.calls 1000 A c l a1 r1 r2 _ (C_of_lent HC1'.out) (by have := Hc.out; simp at this; omega) HF1.out).mono ?_; rintro e w5 ⟨v5, rfl, hR, B5⟩; obtain ⟨A5, c5, rfl, hc5, hC5⟩ := Kd.R_reads hR; have H5 := Aside0.mk hC5; have Hc5 := Aside0.mk hc5; have HB5 := Aside0.mk B5; clear B5 hR hC5 hc5)
    | (go_at_call 60; refine (PRanks.larderref07_Nth.calls 1000 (fun _ => True) A0 c0 l a1 r1 r2 _ (V_of_C (Kd.C_below HR0.out (below_step HB4.out HB5.out)) HC0.out) HF2.out).mono ?_; rintro e w6 ⟨v6, rfl, hR, B6⟩; obtain ⟨A6, c6, rfl, hc6, hC6⟩ := Kd.R_reads hR; have H6 := Aside0.mk hC6; have Hc6 := Aside0.mk hc6; have HB6 := Aside0.mk B6; clear B6 hR hC6 hc6)
    | (go_at_call 54; refine (PThere.sched_Rank.calls 3000 Ap cp p x1 x2 _ (C_of_lent (Kd.C_below HCp.out (below_step HB5.out HB6.out))) (by have := Hcp.out; simp at this; omega) HG1.out).mono ?_; rintro e w7 ⟨rfl, B7⟩; have HB7 := Aside0.mk B7; clear B7)
    | (go_at_call 61; refine (PRanks.larderref07_Rank.calls 3000 A2 c2 p x1 x2 _ (Kd.C_below HR2.out (below_step (below_step (below_step HB4.out HB5.out) HB6.out) HB7.out)) HC2.out HG2.out).mono ?_; rintro e w8 ⟨rfl, B8⟩; have HB8 := Aside0.mk B8; clear B8)
    | (go_at_call 62; refine (HK1.out Ap cp _ (C_of_lent (Kd.C_below HCp.out (below_step (below_step (below_step HB5.out HB6.out) HB7.out) HB8.out))) (by have := Hcp.out; simp at this; omega)).mono ?_; rintro e w9 ⟨rfl, B9⟩; have HB9 := Aside0.mk B9; clear B9)
    | (go_at_call 63; refine (HK2.out A2 c2 _ (Kd.C_below HR2.out (below_step (below_step (below_step (below_step (below_step HB4.out HB5.out) HB6.out) HB7.out) HB8.out) HB9.out)) HC2.out).mono ?_; rintro e w10 ⟨rfl, B10⟩; have HB10 := Aside0.mk B10; clear B10)
    | (go_at_call 24; refine (PThere.larderlaw07_same.calls 2000 A5 c5 r1 A6 c6 r1 true _ (Kd.C_below H5.out (below_step (below_step (below_step (below_step HB6.out HB7.out) HB8.out) HB9.out) HB10.out)) Hc5.out (Kd.C_below H6.out (below_step (below_step (below_step HB7.out HB8.out) HB9.out) HB10.out)) Hc6.out (same_own r1 (Nat.le_trans H24.out (by omega)))).mono ?_; rintro e w11 ⟨rfl, ⟨m11, rfl⟩⟩; have tok2 := True.intro)
    | (go_at_call 33; have _t := tok2; refine (kept_calls (l.length + 20) A c (l ++ nine 0 9) A0 c0 l true _ (Kd.C_drewN (Kd.C_below HC1'.out (below_step (below_step (below_step (below_step (below_step HB5.out HB6.out) HB7.out) HB8.out) HB9.out) HB10.out)) m11) Hc.out (Kd.C_drewN (Kd.C_below HR0.out (below_step (below_step (below_step (below_step (below_step (below_step HB4.out HB5.out) HB6.out) HB7.out) HB8.out) HB9.out) HB10.out)) m11) HC0.out (by simp [nine]) (by have := HL.out; omega) (kept_loop l HL.out (l.length + 9) 0 _ (by omega) (by omega))).mono ?_; rintro e w12 ⟨rfl, ⟨m12, rfl⟩⟩; clear tok2)
    | (go_at_call 33; refine (kept_calls (p.length + 20) Ap cp (p ++ nine 0 9) A2 c2 p true _ (Kd.C_drewN (Kd.C_below HCp.out (below_step (below_step (below_step (below_step (below_step HB5.out HB6.out) HB7.out) HB8.out) HB9.out) HB10.out)) (m11 + m12)) Hcp.out (Kd.C_drewN (Kd.C_below HR2.out (below_step (below_step (below_step (below_step (below_step (below_step HB4.out HB5.out) HB6.out) HB7.out) HB8.out) HB9.out) HB10.out)) (m11 + m12)) HC2.out (by simp [nine]) (by have := HP.out; omega) (kept_loop p HP.out (p.length + 9) 0 _ (by omega) (by omega))).mono ?_; rintro e w13 ⟨rfl, ⟨m13, rfl⟩⟩))
  all_goals (go_ret; exact ⟨rfl, pw_below_drewN (below_step (below_step (below_step (below_step (below_step (below_step HB4.out HB5.out) HB6.out) HB7.out) HB8.out) HB9.out) HB10.out) _⟩)
end Go.Proofs.Ytfcjfjmjcmanaaa.X
