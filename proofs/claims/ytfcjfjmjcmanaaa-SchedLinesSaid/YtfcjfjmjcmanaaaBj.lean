/- SchedLines: the law's walk. -/
import Derived.Test.YtfcjfjmjcmanaaaBi
import Derived.Deep.RegionHeld3
import Derived.Deep.DrawnRows
set_option linter.unusedVariables false
namespace Go.Proofs.Ytfcjfjmjcmanaaa.B
open Go Go.RowKit Go.Proofs.Ytfcjfjmjcmanaaa.PBase Go.Proofs.YtfcjfjmjcmanaaaW.PrintWords Go.Proofs.YtfcjfjmjcmanaaaW.PrintLast Go.Proofs.YtfcjfjmjcmanaaaW.PrintMore
attribute [local go_sem ↓] Go.wp_at_zero Go.wp_at_succ
theorem tm3 (i : Int) (h : 0 ≤ i) : ∃ r, Int.tmod i 3 = r ∧ wrap64 r = r := by
  have g1 := Int.tmod_lt_of_pos i (show (0 : Int) < 3 by omega)
  have g2 := Int.tmod_nonneg (3 : Int) h
  exact ⟨_, rfl, X.hwrId (by omega) (by omega)⟩
theorem cut1_C {W : World} {A : Option Addr} {L : List Int} {c : Nat} (h : Kd.C (Kd.int .i64) W A L.length L) (hc : L.length ≤ c) (j : Nat) (hj : j ≤ L.length) :
    Kd.C (Kd.int .i64) W (if c = j then A else A.map (·.add (j * 1))) (L.length - j) (L.drop j) := by
  obtain ⟨h1, h2, h3⟩ := h
  refine ⟨by rw [List.length_drop], by omega, fun hn => ?_⟩
  obtain ⟨ad, rfl, hcell⟩ := h3 (by omega)
  rw [if_neg (by omega)]
  refine ⟨ad.add j, by simp, fun i p hp => ?_⟩
  rw [List.getElem?_drop] at hp
  obtain ⟨cs, hl, hk, hu⟩ := hcell (j + i) p hp
  refine ⟨cs, hl, hk, fun q u hq => ?_⟩
  have := hu q u hq
  rw [add_add]
  have e : (Kd.int .i64).sz = 1 := rfl
  rw [e] at this ⊢
  rw [show j + (i * 1 + q) = (j + i) * 1 + q by omega]
  exact this
theorem wake_q (B : Bd) (on other : Int) (h : on ≠ other) : (B.wake on).q on = [] ∧ (B.wake on).q other = B.q other := ⟨by simp [Bd.wake, upd], by simp [Bd.wake, upd, Ne.symm h]⟩
theorem first_none {B : Bd} {on : Int} (h : B.q on = []) : (B.first on).2 = (-1, false) := by unfold Bd.first; rw [h]
set_option maxRecDepth 100000
set_option maxHeartbeats 8000000
theorem lines_walk (A0 : Option Addr) (c0 : Nat) (l : List Int) {W : World} (hr0 : Kd.C (Kd.int .i64) W A0 l.length l) (hc0 : l.length ≤ c0) (y0 : l.length * 8 ≤ 140737488351232) (on : Int) (hon : (Lit.int .i64 on).wf = true) (other : Int) (hot : (Lit.int .i64 other).wf = true) :
    Calls Try.prog 9 #[.slice A0 l.length c0, .int .i64 on, .int .i64 other] W fun e W' => e = .returned (.bool true) ∧ Below W.heap.size W W' := by
  have HR0 := Aside0.mk hr0
  have HC0 := Aside0.mk hc0
  have HY0 := Aside0.mk y0
  have HON := Aside0.mk hon
  have HOT := Aside0.mk hot
  clear hr0 hc0 y0 hon hot
  by_cases hne : on = other
  · subst hne
    go_enter Try.func9, Try.ntmps9
    go_wp2
    go_ret
    exact ⟨rfl, Below.refl _ _⟩
  · have hnb : (on == other) = false := beq_eq_false_iff_ne.2 hne
    have HNE := Aside0.mk hne
    have HNW := Aside0.mk (new_calls (W := W) 16 (by omega) (by omega))
    clear hne
    have tok := True.intro
    go_enter Try.func9, Try.ntmps9
    go_wp2_with (go_at_call 38; have _t := tok; refine HNW.out.mono ?_; rintro e w1 ⟨p, T, g, m, rfl, hB, hW, hT⟩; have HJ0 : Aside0 (J W w1 p (Bd.new 16) nilv nilv [] [] 0) := ⟨⟨T, g, m, 0, _, Nat.le_refl _, hB, hT, Sl.nil _ _, Sl.nil _ _, hW⟩⟩; clear hB hW hT tok)
    go_loopw [9, 10, 11] (fun v9 v10 vi wr => ∃ (i : Int) (B : Bd) (Lw Lr : List Int), vi = .int .i64 i ∧ Aside0 (0 ≤ i ∧ i ≤ (l.length : Int)) ∧ Aside0 (Quiet B on other Lw Lr) ∧ Aside0 (J W wr p B v9 v10 Lw Lr i.toNat)) (fun _ _ vi _ => ((l.length : Int) - intOf vi).toNat)
    case atStart => exact ⟨0, _, _, _, rfl, ⟨by omega⟩, ⟨quiet_new on other⟩, HJ0⟩
    case round =>
      clear HJ0 HNW
      obtain ⟨i, B, Lw, Lr, rfl, Hi, HQ, HJ⟩ := hrel
      rename World => W3
      by_cases hlt : i < (l.length : Int)
      · have hltb : decide (i < (l.length : Int)) = true := decide_eq_true hlt
        have p0 := Hi.out.1
        obtain ⟨ad, rfl, hx⟩ := Kd.at_int (Kd.C_below HR0.out HJ.out.base) i p0 hlt
        obtain ⟨x, hxx⟩ : ∃ x, rd l i = x := ⟨_, rfl⟩
        rw [hxx] at hx
        have HRX : Aside0 (∀ w, Below W.heap.size W w → w.cell? (ad.add i.toNat) = some (.int .i64 x)) := ⟨fun w hb => by obtain ⟨ad', e, h⟩ := Kd.at_int (Kd.C_below HR0.out hb) i p0 hlt; cases e; rw [hxx] at h; exact h⟩
        have HI := Aside0.mk (And.intro p0 hlt)
        have hw1 : Aside0 (wrap64 (i + 1) = i + 1) := ⟨X.hwrId (by omega) (by have := HY0.out; omega)⟩
        obtain ⟨r, hr1, hr2⟩ := tm3 i p0
        have HS := Aside0.mk (HJ.out.start x)
        have hii : (i + 1).toNat = i.toNat + 1 := by omega
        have HII := Aside0.mk hii
        have fin : ∀ (w : World) (B' : Bd) (v9 v10 : Value) (Lw' Lr' : List Int), Quiet B' on other Lw' Lr' → J W w p B' v9 v10 Lw' Lr' (i.toNat + 1) → (∃ i' B'' Lw'' Lr'', Value.int .i64 (wrap64 (i + 1)) = .int .i64 i' ∧ Aside0 (0 ≤ i' ∧ i' ≤ (l.length : Int)) ∧ Aside0 (Quiet B'' on other Lw'' Lr'') ∧ Aside0 (J W w p B'' v9 v10 Lw'' Lr'' i'.toNat)) ∧ ((l.length : Int) - intOf (Value.int .i64 (wrap64 (i + 1)))).toNat < ((l.length : Int) - intOf (Value.int .i64 i)).toNat := fun w B' v9 v10 Lw' Lr' hq hj =>
          ⟨⟨wrap64 (i + 1), B', Lw', Lr', rfl, ⟨by rw [hw1.out]; have := HI.out; omega⟩, ⟨hq⟩, ⟨by rw [hw1.out, HII.out]; exact hj⟩⟩, by rw [hw1.out]; simp only [intOf]; have := HI.out; omega⟩
        have FIN := Aside0.mk fin
        clear fin hxx hii Hi
        replace p0 := eq_true p0
        replace hlt := eq_true hlt
        by_cases hs : (B.start x).2 = 0
        · have hq := quiet_block HQ.out HNE.out hs
          have hq2 := quiet_block HQ.out.symm (fun e => HNE.out e.symm) hs
          have HQ1 := Aside0.mk hq
          have HQ2 := Aside0.mk (And.intro hq2.1 hq2.2.symm)
          have hlen := HQ.out.len
          have HLEN := Aside0.mk hlen
          have HQ3 : Aside0 (((B.start x).1.q on).length + 1 ≤ 1000 ∧ ((B.start x).1.q other).length + 1 ≤ 1000) := ⟨by
            rw [(start_ok hs).2.2]
            show (B.q on).length + 1 ≤ 1000 ∧ (B.q other).length + 1 ≤ 1000
            rw [HQ.out.qw, HQ.out.qr]; omega⟩
          rw [hs] at HS
          clear hq hq2 hlen hs
          have HML : Aside0 (i.toNat + 1 < maxLen) := ⟨by have := HI.out; have := HY0.out; unfold maxLen; omega⟩
          have tA := True.intro
          by_cases hr : r = 2
          · subst hr
            go_wp2_with (first
              | (go_at_call 39; have _t := tA; refine HS.out.mono ?_; rintro e w4 ⟨rfl, hj⟩; have HJ4 := Aside0.mk hj; have hx4 := HRX.out _ hj.base; clear hj tA; have tB := True.intro)
              | ((with_reducible refine gate_builtin (b := .append) (xs := #[.tmp 41, .tmp 46]) rfl ?_); at_builtin; refine wpList_J10 rfl _ _ rfl HJ4.out x rfl rfl (by have := HLEN.out; omega) ?_; intro v5 w5 hj; have HJ5 := Aside0.mk hj; have hx5 := HRX.out _ hj.base; clear hj)
              | (go_at_call 40; have _t := tB; refine (HJ5.out.block HML.out x other HOT.out HQ3.out.2).mono ?_; rintro e w6 ⟨rfl, hj⟩; rw [HQ2.out.1]; have HJ6 := Aside0.mk hj; clear hj tB))
            exact FIN.out _ _ _ _ _ _ HQ2.out.2 HJ6.out
          · have hrb : (r == 2) = false := beq_eq_false_iff_ne.2 hr
            clear hr
            go_wp2_with (first
              | (go_at_call 39; have _t := tA; refine HS.out.mono ?_; rintro e w4 ⟨rfl, hj⟩; have HJ4 := Aside0.mk hj; have hx4 := HRX.out _ hj.base; clear hj tA; have tB := True.intro)
              | ((with_reducible refine gate_builtin (b := .append) (xs := #[.tmp 55, .tmp 60]) rfl ?_); at_builtin; refine wpList_J9 rfl _ _ rfl HJ4.out x rfl rfl (by have := HLEN.out; omega) ?_; intro v5 w5 hj; have HJ5 := Aside0.mk hj; have hx5 := HRX.out _ hj.base; clear hj)
              | (go_at_call 40; have _t := tB; refine (HJ5.out.block HML.out x on HON.out HQ3.out.1).mono ?_; rintro e w6 ⟨rfl, hj⟩; rw [HQ1.out.1]; have HJ6 := Aside0.mk hj; clear hj tB))
            exact FIN.out _ _ _ _ _ _ HQ1.out.2 HJ6.out
        · have hsb : ((B.start x).2 != 0) = true := bne_iff_ne.2 hs
          obtain ⟨E, hE⟩ : ∃ E, (B.start x).2 = E := ⟨_, rfl⟩
          rw [start_bad hs, hE] at HS
          rw [hE] at hsb
          clear hs hE
          go_wp2_with (go_at_call 39; refine HS.out.mono ?_; rintro e w4 ⟨rfl, hj⟩; have HJ4 := Aside0.mk hj; clear hj)
          exact FIN.out _ _ _ _ _ _ HQ.out (HJ4.out.mono (Nat.le_succ _))
      · have hltb : decide (i < (l.length : Int)) = false := decide_eq_false hlt
        have HMI : Aside0 (i.toNat + 3 < maxLen) := ⟨by have := Hi.out; have := HY0.out; unfold maxLen; omega⟩
        have hlen := HQ.out.len
        have HLEN := Aside0.mk hlen
        have HW1 := Aside0.mk (fun w (hj : J W w p B u9 u10 Lw Lr i.toNat) => hj.waiting on HON.out (by rw [HQ.out.qw]; omega))
        rw [HQ.out.qw] at HW1
        have HW2 := Aside0.mk (fun w (hj : J W w p B u9 u10 Lw Lr i.toNat) => hj.waiting other HOT.out (by rw [HQ.out.qr]; omega))
        rw [HQ.out.qr] at HW2
        have HR1 := Aside0.mk (fun w (hj : J W w p B u9 u10 Lw Lr i.toNat) => hj.ready (by rw [HQ.out.n]; omega))
        rw [HQ.out.noready] at HR1
        obtain ⟨A9, c9, rfl, hc9, _⟩ := HJ.out.read9
        obtain ⟨A10, c10, rfl, hc10, _⟩ := HJ.out.read10
        have HC9 := Aside0.mk hc9
        have HC10 := Aside0.mk hc10
        have HSW := Aside0.mk (X.hsame_self Lw (by omega))
        have HSR := Aside0.mk (X.hsame_self Lr (by omega))
        clear hlt hlen hc9 hc10 Hi
        have tA := True.intro
        cases Lw with
        | nil =>
          have HK := Aside0.mk (fun w (hj : J W w p (B) (.slice A9 ([] : List Int).length c9) (.slice A10 Lr.length c10) ([]) Lr (i.toNat)) => hj.wake on HON.out (by rw [HQ.out.qw]; simp) (by rw [HQ.out.qw]; have := HLEN.out; simp only [List.length_cons, List.length_nil] at this ⊢; omega))
          rw [HQ.out.qw] at HK
          have hwk := wake_q (B) on other HNE.out
          have HX1 := Aside0.mk (fun w (hj : J W w p (Bd.wake (B) on) (.slice A9 ([] : List Int).length c9) (.slice A10 Lr.length c10) ([]) Lr (i.toNat)) => hj.waiting on HON.out (by rw [hwk.1]; simp))
          rw [hwk.1] at HX1
          have HX2 := Aside0.mk (fun w (hj : J W w p (Bd.wake (B) on) (.slice A9 ([] : List Int).length c9) (.slice A10 Lr.length c10) ([]) Lr (i.toNat)) => hj.waiting other HOT.out (by rw [hwk.2, HQ.out.qr]; have := HLEN.out; omega))
          rw [hwk.2, HQ.out.qr] at HX2
          have HX3 := Aside0.mk (fun w (hj : J W w p (Bd.wake (B) on) (.slice A9 ([] : List Int).length c9) (.slice A10 Lr.length c10) ([]) Lr (i.toNat)) => hj.first (by have := HMI.out; omega) on HON.out (by rw [hwk.1]; simp))
          rw [first_none hwk.1] at HX3
          have HXT := Aside0.mk (X.hsame_self (([] : List Int)) (by have := HLEN.out; simp only [List.length_cons, List.length_nil] at this ⊢; omega))
          clear hwk
          go_wp2_with (first
            | (go_at_call 41; have _t := tA; refine (HW1.out _ HJ.out).mono ?_; rintro e w4 ⟨A4, c4, rfl, hc, hC, hb⟩; have HJ4 := Aside0.mk (HJ.out.below hb); have Hc4 := Aside0.mk hc; have HC4 := Aside0.mk hC; clear hc hC hb tA; have tB := True.intro)
            | (go_at_call 24; have _t := tB; refine (larderlaw07_same.calls _ A4 c4 [] A9 c9 [] true w4 HC4.out Hc4.out HJ4.out.C9 HC9.out HSW.out).mono ?_; rintro e w5 ⟨rfl, ⟨m5, rfl⟩⟩; have HJ5 := Aside0.mk (HJ4.out.below (pw_below_drewN (Below.refl _ _) m5)); clear tB; have tC := True.intro)
            | (go_at_call 41; have _t := tC; refine (HW2.out _ HJ5.out).mono ?_; rintro e w6 ⟨A6, c6, rfl, hc, hC, hb⟩; have HJ6 := Aside0.mk (HJ5.out.below hb); have Hc6 := Aside0.mk hc; have HC6 := Aside0.mk hC; clear hc hC hb tC; have tD := True.intro)
            | (go_at_call 24; have _t := tD; refine (larderlaw07_same.calls _ A6 c6 Lr A10 c10 Lr true w6 HC6.out Hc6.out HJ6.out.C10 HC10.out HSR.out).mono ?_; rintro e w7 ⟨rfl, ⟨m7, rfl⟩⟩; have HJ7 := Aside0.mk (HJ6.out.below (pw_below_drewN (Below.refl _ _) m7)); clear tD; have tE := True.intro)
            | (go_at_call 42; have _t := tE; refine (HR1.out _ HJ7.out).mono ?_; rintro e w8 ⟨A8, c8, rfl, hc, hC, hb⟩; have HJ8 := Aside0.mk (HJ7.out.below hb); clear hc hC hb tE; have tF := True.intro)
            | (go_at_call 44; have _t := tF; refine (HK.out _ HJ8.out).mono ?_; rintro e z1 ⟨B1, d1, rfl, hc, hC, hj⟩; have HZ1 := Aside0.mk hj; have Hd1 := Aside0.mk hc; have HD1 := Aside0.mk hC; clear hc hC hj tF; have tN := True.intro)
            | (go_at_call 24; have _t := tN; refine (larderlaw07_same.calls _ B1 d1 ([]) A9 c9 ([]) true z1 HD1.out Hd1.out (HZ1.out.C9) (HC9.out) HXT.out).mono ?_; rintro e z2 ⟨rfl, ⟨n2, rfl⟩⟩; have HZ2 := Aside0.mk (HZ1.out.below (pw_below_drewN (Below.refl _ _) n2)); clear tN; have tO := True.intro)
            | (go_at_call 41; have _t := tO; refine (HX1.out _ HZ2.out).mono ?_; rintro e z3 ⟨B3, d3, rfl, hc, hC, hb⟩; have HZ3 := Aside0.mk (HZ2.out.below hb); clear hc hC hb tO; have tP := True.intro)
            | (go_at_call 41; have _t := tP; refine (HX2.out _ HZ3.out).mono ?_; rintro e z4 ⟨B4, d4, rfl, hc, hC, hb⟩; have HZ4 := Aside0.mk (HZ3.out.below hb); have Hd4 := Aside0.mk hc; have HD4 := Aside0.mk hC; clear hc hC hb tP; have tR := True.intro)
            | (go_at_call 24; have _t := tR; refine (larderlaw07_same.calls _ B4 d4 Lr A10 c10 Lr true z4 HD4.out Hd4.out HZ4.out.C10 HC10.out HSR.out).mono ?_; rintro e z5 ⟨rfl, ⟨n5, rfl⟩⟩; have HZ5 := Aside0.mk (HZ4.out.below (pw_below_drewN (Below.refl _ _) n5)); clear tR; have tS := True.intro)
            | (go_at_call 43; have _t := tS; refine (HX3.out _ HZ5.out).mono ?_; rintro e z6 ⟨rfl, hj⟩; have HZ6 := Aside0.mk hj; clear hj tS))
          go_ret
          exact ⟨rfl, HZ6.out.base⟩
        | cons h t =>
          obtain ⟨q1, q2, q3, q4, q5, q6⟩ := HQ.out.first HNE.out
          have HF1 := Aside0.mk (fun w (hj : J W w p B (.slice A9 (h :: t).length c9) (.slice A10 Lr.length c10) (h :: t) Lr i.toNat) => hj.first (by have := HMI.out; omega) on HON.out (by rw [HQ.out.qw]; exact HQ.out.hw))
          rw [q1] at HF1
          obtain ⟨B1, hB1⟩ : ∃ B1, (B.first on).1 = B1 := ⟨_, rfl⟩
          rw [hB1] at q2 q3 q4 q5 q6 HF1
          have Q6 := Aside0.mk q6
          have HW5 := Aside0.mk (fun w (hj : J W w p B1 (.slice A9 (h :: t).length c9) (.slice A10 Lr.length c10) (h :: t) Lr (i.toNat + 1)) => hj.waiting on HON.out (by rw [q2]; have := HLEN.out; simp only [List.length_cons] at this; omega))
          rw [q2] at HW5
          have HR5 := Aside0.mk (fun w (hj : J W w p B1 (.slice A9 (h :: t).length c9) (.slice A10 Lr.length c10) (h :: t) Lr (i.toNat + 1)) => hj.ready (by rw [q5]; omega))
          rw [q4] at HR5
          have HS1 := Aside0.mk (X.hsame_self t (by have := HLEN.out; simp only [List.length_cons] at this; omega))
          have HS2 := Aside0.mk (X.hsame_self [h] (by simp))
          obtain ⟨ad, rfl, _⟩ := Kd.at_int HJ.out.C9 0 (by omega) (by simp)
          have HRH : Aside0 (∀ w v10 B M, J W w p B (.slice (some ad) (h :: t).length c9) v10 (h :: t) Lr M → w.cell? ad = some (.int .i64 h) ∧ w.cell? (ad.add 0) = some (.int .i64 h)) := ⟨fun w v10 B M hj => by obtain ⟨ad', e, hh⟩ := Kd.at_int hj.C9 0 (by omega) (by simp); cases e; rw [show (0 : Int).toNat = 0 from rfl] at hh; exact ⟨by rw [show ad.add 0 = ad by cases ad; simp [Addr.add]] at hh; exact hh, hh⟩⟩
          obtain ⟨i03, hi03, _, hsz3, _⟩ := info_parts info3'
          have hc9 : t.length + 1 ≤ c9 := HC9.out
          have hcut := cut_from (P := Try.prog) 26 3 .i64 Try.underlying26 hi03 1 hsz3 (some ad) (t.length + 1) c9 1 (by omega) (by omega)
          have hcut2 := cut_to (P := Try.prog) 26 3 .i64 Try.underlying26 hi03 (some ad) (t.length + 1) c9 1 (by omega) (by omega) hc9
          rw [show (1 : Int).toNat = 1 from rfl] at hcut hcut2
          have HCT : Aside0 (∀ w v10 B M, J W w p B (.slice (some ad) (h :: t).length c9) v10 (h :: t) Lr M → Kd.C (Kd.int .i64) w (if c9 = 1 then some ad else (some ad).map (·.add (1 * 1))) t.length t) := ⟨fun w v10 B M hj => cut1_C hj.C9 HC9.out 1 (by simp)⟩
          obtain ⟨AF, hAF⟩ : ∃ AF, (if c9 = 1 then some ad else (some ad).map (·.add (1 * 1))) = AF := ⟨_, rfl⟩
          rw [hAF] at hcut HCT
          rw [Nat.add_sub_cancel] at hcut
          have HCF : Aside0 (t.length ≤ c9 - 1) := ⟨by omega⟩
          have hp1 : ((0 : Int) < (t.length : Int) + 1) = True := eq_true (by omega)
          have HK := Aside0.mk (fun w (hj : J W w p (B1) (.slice (some ad) (h :: t).length c9) (.slice A10 Lr.length c10) (h :: t) Lr (i.toNat + 1)) => hj.wake on HON.out (by rw [q2]; exact q6) (by rw [q2]; have := HLEN.out; simp only [List.length_cons, List.length_nil] at this ⊢; omega))
          rw [q2] at HK
          have hwk := wake_q (B1) on other HNE.out
          have HX1 := Aside0.mk (fun w (hj : J W w p (Bd.wake (B1) on) (.slice (some ad) (h :: t).length c9) (.slice A10 Lr.length c10) (h :: t) Lr (i.toNat + 1)) => hj.waiting on HON.out (by rw [hwk.1]; simp))
          rw [hwk.1] at HX1
          have HX2 := Aside0.mk (fun w (hj : J W w p (Bd.wake (B1) on) (.slice (some ad) (h :: t).length c9) (.slice A10 Lr.length c10) (h :: t) Lr (i.toNat + 1)) => hj.waiting other HOT.out (by rw [hwk.2, q3]; have := HLEN.out; omega))
          rw [hwk.2, q3] at HX2
          have HX3 := Aside0.mk (fun w (hj : J W w p (Bd.wake (B1) on) (.slice (some ad) (h :: t).length c9) (.slice A10 Lr.length c10) (h :: t) Lr (i.toNat + 1)) => hj.first (by have := HMI.out; omega) on HON.out (by rw [hwk.1]; simp))
          rw [first_none hwk.1] at HX3
          have HXT := Aside0.mk (X.hsame_self (t) (by have := HLEN.out; simp only [List.length_cons, List.length_nil] at this ⊢; omega))
          clear hwk
          clear q1 q2 q3 q4 q5 q6 hB1 hi03 hsz3 hc9 hAF
          go_wp2_with (first
            | (go_at_call 41; have _t := tA; refine (HW1.out _ HJ.out).mono ?_; rintro e w4 ⟨A4, c4, rfl, hc, hC, hb⟩; have HJ4 := Aside0.mk (HJ.out.below hb); have Hc4 := Aside0.mk hc; have HC4 := Aside0.mk hC; clear hc hC hb tA; have tB := True.intro)
            | (go_at_call 24; have _t := tB; refine (larderlaw07_same.calls _ A4 c4 (h :: t) (some ad) c9 (h :: t) true w4 HC4.out Hc4.out HJ4.out.C9 HC9.out HSW.out).mono ?_; rintro e w5 ⟨rfl, ⟨m5, rfl⟩⟩; have HJ5 := Aside0.mk (HJ4.out.below (pw_below_drewN (Below.refl _ _) m5)); clear tB; have tC := True.intro)
            | (go_at_call 41; have _t := tC; refine (HW2.out _ HJ5.out).mono ?_; rintro e w6 ⟨A6, c6, rfl, hc, hC, hb⟩; have HJ6 := Aside0.mk (HJ5.out.below hb); have Hc6 := Aside0.mk hc; have HC6 := Aside0.mk hC; clear hc hC hb tC; have tD := True.intro)
            | (go_at_call 24; have _t := tD; refine (larderlaw07_same.calls _ A6 c6 Lr A10 c10 Lr true w6 HC6.out Hc6.out HJ6.out.C10 HC10.out HSR.out).mono ?_; rintro e w7 ⟨rfl, ⟨m7, rfl⟩⟩; have HJ7 := Aside0.mk (HJ6.out.below (pw_below_drewN (Below.refl _ _) m7)); clear tD; have tE := True.intro)
            | (go_at_call 42; have _t := tE; refine (HR1.out _ HJ7.out).mono ?_; rintro e w8 ⟨A8, c8, rfl, hc, hC, hb⟩; have HJ8 := Aside0.mk (HJ7.out.below hb); clear hc hC hb tE; have tF := True.intro)
            | (go_at_call 43; have _t := tF; refine (HF1.out _ HJ8.out).mono ?_; rintro e w9 ⟨rfl, hj⟩; have HJ9 := Aside0.mk hj; clear hj tF; have tG := True.intro))
          have hx9 := HRH.out _ _ _ _ HJ9.out
          have hbn : (h != h) = false := by simp
          go_region_held3 (fun w' => w'.cell? ad = some (.int .i64 h) ∧ w'.cell? (ad.add 0) = some (.int .i64 h)) (first
              | (refine HRH.out _ _ _ _ (HJ13.out.below ?_); (repeat (first | exact Below.refl _ _ | apply below_drew | apply pw_below_drewN | apply below_alloc)); done)
              | (refine HRH.out _ _ _ _ (HJ12.out.below ?_); (repeat (first | exact Below.refl _ _ | apply below_drew | apply pw_below_drewN | apply below_alloc)); done)
              | (refine HRH.out _ _ _ _ (HJ11.out.below ?_); (repeat (first | exact Below.refl _ _ | apply below_drew | apply pw_below_drewN | apply below_alloc)); done)
              | (refine HRH.out _ _ _ _ (HJ10.out.below ?_); (repeat (first | exact Below.refl _ _ | apply below_drew | apply pw_below_drewN | apply below_alloc)); done)
              | (refine HRH.out _ _ _ _ (HJ9.out.below ?_); (repeat (first | exact Below.refl _ _ | apply below_drew | apply pw_below_drewN | apply below_alloc)); done))
            (first
              | (go_at_call 41; have _t := tG; refine (HW5.out _ (HJ9.out.below (by (repeat (first | exact Below.refl _ _ | apply below_drew | apply pw_below_drewN | apply below_alloc))))).mono ?_; rintro e w10 ⟨A5, c5, rfl, hc, hC, hb⟩; have HJ10 := Aside0.mk ((HJ9.out.below (by (repeat (first | exact Below.refl _ _ | apply below_drew | apply pw_below_drewN | apply below_alloc)))).below hb); have Hc5 := Aside0.mk hc; have HC5 := Aside0.mk hC; clear hc hC hb tG; have tH := True.intro)
              | (go_at_call 24; have _t := tH; refine (larderlaw07_same.calls _ A5 c5 t AF (c9 - 1) t true _ (Kd.C_below HC5.out (by (repeat (first | exact Below.refl _ _ | apply below_drew | apply pw_below_drewN | apply below_alloc)))) Hc5.out (HCT.out _ _ _ _ (HJ10.out.below (by (repeat (first | exact Below.refl _ _ | apply below_drew | apply pw_below_drewN | apply below_alloc))))) HCF.out HS1.out).mono ?_; rintro e w11 ⟨rfl, ⟨m11, rfl⟩⟩; have HJ11 := Aside0.mk ((HJ10.out.below (by (repeat (first | exact Below.refl _ _ | apply below_drew | apply pw_below_drewN | apply below_alloc)))).below (pw_below_drewN (Below.refl _ _) m11)); clear tH; have tI := True.intro)
              | (go_at_call 42; have _t := tI; refine (HR5.out _ (HJ11.out.below (by (repeat (first | exact Below.refl _ _ | apply below_drew | apply pw_below_drewN | apply below_alloc))))).mono ?_; rintro e w12 ⟨A7, c7, rfl, hc, hC, hb⟩; have HJ12 := Aside0.mk ((HJ11.out.below (by (repeat (first | exact Below.refl _ _ | apply below_drew | apply pw_below_drewN | apply below_alloc)))).below hb); have Hc7 := Aside0.mk hc; have HC7 := Aside0.mk hC; clear hc hC hb tI; have tK := True.intro)
              | (go_at_call 24; have _t := tK; refine (larderlaw07_same.calls _ A7 c7 [h] (some ad) c9 [h] true _ (Kd.C_below HC7.out (by (repeat (first | exact Below.refl _ _ | apply below_drew | apply pw_below_drewN | apply below_alloc)))) Hc7.out (Kd.C_take (m := 1) (HJ12.out.below (by (repeat (first | exact Below.refl _ _ | apply below_drew | apply pw_below_drewN | apply below_alloc)))).C9 (by simp)) (Nat.le_trans (by simp) HC9.out) HS2.out).mono ?_; rintro e w13 ⟨rfl, ⟨m13, rfl⟩⟩; have HJ13 := Aside0.mk ((HJ12.out.below (by (repeat (first | exact Below.refl _ _ | apply below_drew | apply pw_below_drewN | apply below_alloc)))).below (pw_below_drewN (Below.refl _ _) m13)); clear tK))
          have tL := True.intro
          go_wp2_with (first
            | (go_at_call 44; have _t := tL; refine (HK.out _ (HJ13.out.below (by (repeat (first | exact Below.refl _ _ | apply below_drew | apply pw_below_drewN | apply below_alloc))))).mono ?_; rintro e z1 ⟨B1', d1, rfl, hc, hC, hj⟩; have HZ1 := Aside0.mk hj; have Hd1 := Aside0.mk hc; have HD1 := Aside0.mk hC; clear hc hC hj tL; have tN := True.intro)
            | (go_at_call 24; have _t := tN; refine (larderlaw07_same.calls _ B1' d1 (t) AF (c9 - 1) (t) true z1 HD1.out Hd1.out (HCT.out _ _ _ _ HZ1.out) (HCF.out) HXT.out).mono ?_; rintro e z2 ⟨rfl, ⟨n2, rfl⟩⟩; have HZ2 := Aside0.mk (HZ1.out.below (pw_below_drewN (Below.refl _ _) n2)); clear tN; have tO := True.intro)
            | (go_at_call 41; have _t := tO; refine (HX1.out _ HZ2.out).mono ?_; rintro e z3 ⟨B3, d3, rfl, hc, hC, hb⟩; have HZ3 := Aside0.mk (HZ2.out.below hb); clear hc hC hb tO; have tP := True.intro)
            | (go_at_call 41; have _t := tP; refine (HX2.out _ HZ3.out).mono ?_; rintro e z4 ⟨B4, d4, rfl, hc, hC, hb⟩; have HZ4 := Aside0.mk (HZ3.out.below hb); have Hd4 := Aside0.mk hc; have HD4 := Aside0.mk hC; clear hc hC hb tP; have tR := True.intro)
            | (go_at_call 24; have _t := tR; refine (larderlaw07_same.calls _ B4 d4 Lr A10 c10 Lr true z4 HD4.out Hd4.out HZ4.out.C10 HC10.out HSR.out).mono ?_; rintro e z5 ⟨rfl, ⟨n5, rfl⟩⟩; have HZ5 := Aside0.mk (HZ4.out.below (pw_below_drewN (Below.refl _ _) n5)); clear tR; have tS := True.intro)
            | (go_at_call 43; have _t := tS; refine (HX3.out _ HZ5.out).mono ?_; rintro e z6 ⟨rfl, hj⟩; have HZ6 := Aside0.mk hj; clear hj tS))
          go_ret
          exact ⟨rfl, HZ6.out.base⟩
/-- In the order that the row hands its facts over. -/
theorem lines_walk' (A0 : Option Addr) (c0 : Nat) (l : List Int) {W : World} (hr0 : Kd.C (Kd.int .i64) W A0 l.length l) (hc0 : l.length ≤ c0) (y0 : l.length * 8 ≤ 140737488351232) (zw : ∀ x ∈ l, (Lit.int .i64 x).wf = true) (on : Int) (hon : (Lit.int .i64 on).wf = true) (other : Int) (hot : (Lit.int .i64 other).wf = true) :
    Calls Try.prog 9 #[.slice A0 l.length c0, .int .i64 on, .int .i64 other] W fun e W' => e = .returned (.bool true) ∧ Below W.heap.size W W' := lines_walk A0 c0 l hr0 hc0 y0 on hon other hot
end Go.Proofs.Ytfcjfjmjcmanaaa.B
