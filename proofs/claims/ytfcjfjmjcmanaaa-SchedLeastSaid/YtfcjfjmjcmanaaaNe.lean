/- SchedLeast: the law's walk, the good way. -/
import Derived.Test.YtfcjfjmjcmanaaaNz
import Derived.Deep.SlicePairs
import Derived.SizedLaws
import Derived.ChangeShapes
set_option linter.unusedVariables false
namespace Go.Proofs.Ytfcjfjmjcmanaaa.X
open Go.RowKit Go.Proofs.Ytfcjfjmjcmanaaa.PBase Go.Proofs.Ytfcjfjmjcmanaaa.POnly Go.Proofs.YtfcjfjmjcmanaaaW.PrintWords Go.Proofs.YtfcjfjmjcmanaaaW.PrintLast Go.Proofs.YtfcjfjmjcmanaaaW.PrintMore
theorem R_lower_of {W : World} {b b' : Nat} {ok : Nat → Prop} {v : Value} {L : List Int} (h : Kd.R (Kd.int .i64) 3 W b ok v L) (hb : b' ≤ b) : Kd.R (Kd.int .i64) 3 W b' ok v L := by
  obtain ⟨h1, h2⟩ := Kd.own_of_R h
  refine Kd.R_of_own ⟨h1, ?_⟩ h.1
  rcases h2 with h2 | ⟨g, cap, cur, e, hg, r⟩
  · exact .inl h2
  · exact .inr ⟨g, cap, cur, e, Nat.le_trans hb hg, r⟩
set_option maxRecDepth 100000
set_option maxHeartbeats 8000000
theorem least_walk_good (A0 : Option Addr) (c0 : Nat) (l : List Int) (A1 : Option Addr) (c1 : Nat) (ps : List (Int × Int)) (A2 : Option Addr) (c2 : Nat) (sw : List Int) {W : World} (hr0 : Kd.C (Kd.int .i64) W A0 l.length l) (hc0 : l.length ≤ c0) (hr1 : Kd.C Kp W A1 ps.length ps) (hr2 : Kd.C (Kd.int .i64) W A2 sw.length sw)
    (hsw : sw.length ≤ 17592186043904) (h1 : l.length ≤ 512) (h2 : ps.length ≤ 256) (h3 : ∀ x ∈ l, Hnum x) (h4 : PairsOk ps) :
    Calls Try.prog 15 #[.slice A0 l.length c0, .slice A1 ps.length c1, .slice A2 sw.length c2] W fun e W' => e = .returned (.bool true) ∧ Below W.heap.size W W' := by
  obtain ⟨M, hM⟩ : ∃ M, lst (tab ps) l.length l = M := ⟨_, rfl⟩
  have hMl : M.length = l.length := by rw [← hM]; exact lst_length _ _ _
  have hMn : ∀ x ∈ M, Hnum x := fun x hx => h3 x (lst_mem (tab_ap ps) x l.length l rfl (by rw [hM]; exact hx))
  have cp := fun A c w a b B d e => pl_calls A c l B d ps w a b e
  rw [leastOf_good l ps h1 h2 h3 h4, hM] at cp
  have cm := fun A c w a b B d e => pl_calls A c M B d ps w a b e
  rw [leastOf_good M ps (by omega) h2 hMn h4, show lst (tab ps) M.length M = M by rw [hMl, ← hM]; exact lst_idem (tab_ap ps) _ l rfl] at cm
  have cn := fun A c w a b => pl_calls A c l none 0 [] w a b (Kd.C_nil _ _)
  rw [leastOf_good l [] h1 (by simp) h3 (by simp [PairsOk]), lst_free l l.length rfl] at cn
  have cal := fun A c B d C e w a b f g k => alike_calls A c M B d l C e ps w a b f g k (by omega) hMl (by omega) (fun x y hxy => by rw [← hM]; exact lst_filter (tab_ap ps) x y hxy l.length l rfl)
  have cb := fun A c B d w a b f g => larderlaw07_below.calls (2 * l.length + 3) A c l B d M false w a b f g (by rw [below_spec l M (by omega) hMl.symm, ← hM, lst_low (tab_ap ps) l.length l rfl])
  have HSM := Aside0.mk (hsame_self M (by omega))
  have HSL := Aside0.mk (hsame_self l (by omega))
  have co := fun (O : List Int) (hO : O.length = l.length) (hOn : ∀ x ∈ O, Hnum x) (hOe : lst (tab ps) l.length O = M) A c w a b B d e => pl_calls A c O B d ps w a b e
  have hco : ∀ O : List Int, O.length = l.length → (∀ x ∈ O, Hnum x) → lst (tab ps) l.length O = M → leastOf O ps = (M, 0) := fun O a b c => by rw [leastOf_good O ps (by omega) h2 b h4, a, c]
  have HCO := Aside0.mk hco
  have HCP := Aside0.mk cp
  have HCM := Aside0.mk cm
  have HCN := Aside0.mk cn
  have HCA := Aside0.mk cal
  have HCB := Aside0.mk cb
  have HR0 := Aside0.mk hr0
  have HC0 := Aside0.mk hc0
  have HR1 := Aside0.mk hr1
  have HR2 := Aside0.mk hr2
  have HSW := Aside0.mk hsw
  have H1 := Aside0.mk h1
  have H2 := Aside0.mk h2
  have H3 := Aside0.mk h3
  have HM := Aside0.mk hM
  have HMl := Aside0.mk hMl
  clear hr0 hc0 hr1 hr2 hsw h1 h2 h3 h4 cp cm cn cal cb co hco hM hMl hMn
  have tok := True.intro
  go_enter Try.func15, Try.ntmps15
  go_wp2_with (first
    | (go_at_call 36; have _t := tok; refine (HCP.out A0 c0 W HR0.out HC0.out A1 c1 HR1.out).mono ?_; rintro e w1 ⟨A, c, rfl, hc, hC, B1⟩; have HCa := Aside0.mk hC; have Hca := Aside0.mk hc; have HB1 := Aside0.mk B1; clear hc hC B1 tok)
    | (go_at_call 64; refine (HCA.out A c A0 c0 A1 c1 w1 HCa.out Hca.out (Kd.C_below HR0.out HB1.out) HC0.out (Kd.C_below HR1.out HB1.out)).mono ?_; rintro e w2 ⟨rfl, B2⟩; have HB2 := Aside0.mk B2; clear B2)
    | (go_at_call 55; refine (HCB.out A0 c0 A c w2 (Kd.C_below HR0.out (below_step HB1.out HB2.out)) HC0.out (Kd.C_below HCa.out HB2.out) Hca.out).mono ?_; rintro e w3 ⟨rfl, ⟨m3, rfl⟩⟩)
    | ((with_reducible refine gate_builtin (b := .append) (xs := #[.tmp 41, .tmp 42]) rfl ?_); at_builtin; have HB3 := Aside0.mk (pw_below_drewN (below_step HB1.out HB2.out) m3); refine Kd.R_append_rows (Kd.int .i64) (w0 := w2.drewN m3) (w2.drewN m3).heap.size rfl (.tmp 41) (.tmp 42) 26 3 (.int .i64 0) 8 rfl Try.underlying26 info3 rfl (by decide) (by omega) (.slice none 0 0) ([] : List Int) l _ _ _ (fun _ => True) (fun _ => False) rfl rfl (Kd.R_nil _ _ _ _ (fun _ => True)) (Kd.C_below HR0.out HB3.out) (fun _ _ h => h) (fun _ h => h.elim) (fun _ _ => trivial) (Below.refl _ _) (Nat.le_refl _) (by have := H1.out; simp only [List.length_nil]; omega) ?_; intro v4 w4 ho hb hg hat; rw [List.nil_append] at ho; obtain ⟨A4, c4, rfl⟩ := Kd.R_slice ho; have HO4 := Aside0.mk (R_lower_of ho (pw_below_drewN (Below.refl w2.heap.size w2) m3).size); have HB4 := Aside0.mk hb; clear ho hb hg hat))
  go_loopw [10] (fun vi wr => ∃ (O : List Int) (i : Int), vi = .int .i64 i ∧ Aside0 (0 ≤ i ∧ i ≤ (sw.length : Int)) ∧ Aside0 (Kd.R (Kd.int .i64) 3 wr w2.heap.size (fun _ => True) (.slice A4 l.length c4) O) ∧ Aside0 (O.length = l.length) ∧ Aside0 (∀ x ∈ O, Hnum x) ∧ Aside0 (lst (tab ps) l.length O = M) ∧ Aside0 (Below w2.heap.size w2 wr)) (fun vi _ => ((sw.length : Int) - intOf vi).toNat)
  case atStart => exact ⟨l, 0, rfl, ⟨by omega⟩, HO4, ⟨rfl⟩, H3, HM, ⟨(pw_below_drewN (Below.refl _ _) m3).trans HB4.out⟩⟩
  case round =>
    clear HO4
    obtain ⟨O, i, rfl, Hi, HO, HOl, HOn, HOe, HB⟩ := hrel
    rename World => W1
    have fin : ∀ w, Below w2.heap.size w2 w → Kd.C (Kd.int .i64) w A4 l.length O → Aside0 (Calls Try.prog 36 #[.slice A4 l.length c4, .slice A1 ps.length c1] w fun e w' => ∃ A c, e = .returned (.tuple #[.slice A M.length c, .int .i64 0]) ∧ M.length ≤ c ∧ Kd.C (Kd.int .i64) w' A M.length M ∧ Below w.heap.size w w') := fun w hb hC => ⟨by
      have hc4 := (Kd.R_reads' HO.out).2.1
      have h := pl_calls A4 c4 O A1 c1 ps w (by rw [HOl.out]; exact hC) (by rw [HOl.out]; exact hc4) (Kd.C_below HR1.out (below_step (below_step HB1.out HB2.out) hb))
      rw [HOl.out, HCO.out O HOl.out HOn.out HOe.out] at h
      exact h⟩
    have FIN := Aside0.mk fin
    clear fin
    have tA := True.intro
    have HBX := Aside0.mk (below_step HB2.out HB.out)
    have HBY := Aside0.mk (below_step HB1.out HBX.out)
    by_cases hlt : i < (sw.length : Int)
    · have hltb : decide (i < (sw.length : Int)) = true := decide_eq_true hlt
      by_cases hbig : 1 < l.length
      · have hbb : decide (1 < l.length) = true := decide_eq_true hbig
        have hbb2 : decide ((1 : Int) < (l.length : Int)) = true := decide_eq_true (by omega)
        have p0 : 0 ≤ i := Hi.out.1
        have HI := Aside0.mk (show 0 ≤ i ∧ i < (sw.length : Int) from ⟨p0, hlt⟩)
        have hwi := Aside0.mk (show wrap64 (i + 1) = i + 1 from hwrId (by omega) (by have := HSW.out; omega))
        obtain ⟨ads, rfl, hsc⟩ := Kd.at_int (Kd.C_below HR2.out HBY.out) i p0 hlt
        obtain ⟨z, hz⟩ : ∃ z, rd sw i = z := ⟨_, rfl⟩
        rw [hz] at hsc
        obtain ⟨n1, k0, hw1, hn0, hk0, hkw, hneg1, hneg2⟩ := swap_place l.length hbig H1.out z
        have hnz : (n1 = 0) = False := eq_false (by intro h; rw [h] at hn0; cases hn0)
        have HN1 := Aside0.mk hneg1
        have HN2 := Aside0.mk hneg2
        clear hneg1 hneg2
        have HOc := Aside0.mk (Kd.R_reads' HO.out).2.2
        obtain ⟨g, cap, eg, hgb, _, hgs, hcap, hcells⟩ := own_form HO.out (by rw [HOl.out]; exact Nat.lt_of_succ_lt hbig)
        have HGB := Aside0.mk hgb
        clear hgb
        obtain ⟨rfl, hll, rfl⟩ : A4 = some ⟨g, 0, none⟩ ∧ l.length = O.length ∧ c4 = cap := by injection eg with e1 e2 e3; exact ⟨e1, e2, e3⟩
        have HCELLS := Aside0.mk hcells
        have HGS := Aside0.mk hgs
        have HLL := Aside0.mk hll
        have HBIG := Aside0.mk hbig
        replace p0 := eq_true p0
        replace hlt := eq_true hlt
        clear hz Hi eg hcells hgs hcap hll hbig
        have stp : ∀ kn : Nat, kn + 1 < l.length → True := fun _ _ => trivial
        by_cases hneg : k0 < 0
        · have hnegb : decide (k0 < 0) = true := decide_eq_true hneg
          obtain ⟨hwa, kn, hwb, hkr⟩ := HN1.out hneg
          clear hneg
          have HKR := Aside0.mk hkr
          clear hkr
          obtain ⟨hwk, _, r1, _, r2⟩ := swap_next l.length kn H1.out HKR.out
          obtain ⟨k2, hk2⟩ : ∃ k2 : Nat, kn + 1 = k2 := ⟨_, rfl⟩
          rw [hk2] at hwk r2
          have hwk' : IntKind.i64.wrap ((kn : Int) + 1) = (k2 : Int) := by simp only [i64_w]; exact hwk
          have r3 : (kn < l.length) = True := eq_true (Int.ofNat_lt.1 (of_eq_true r1))
          have r4 : (k2 < l.length) = True := eq_true (Int.ofNat_lt.1 (of_eq_true r2))
          have q0 := HCELLS.out kn (by rw [← HLL.out]; exact of_eq_true r3)
          have q1 := HCELLS.out k2 (by rw [← HLL.out]; exact of_eq_true r4)
          obtain ⟨x, hx⟩ : ∃ x, rd O (kn : Int) = x := ⟨_, rfl⟩
          obtain ⟨y, hy⟩ : ∃ y, rd O (k2 : Int) = y := ⟨_, rfl⟩
          rw [hx] at q0
          rw [hy] at q1
          have car := Aside0.mk (fun w (hb : Below W1.heap.size W1 w) => are_calls x y A1 c1 ps w (Kd.C_below HR1.out (below_step HBY.out hb)) (Nat.le_trans H2.out (by decide)))
          have HX := Aside0.mk hx
          have HY := Aside0.mk hy
          have HK2 := Aside0.mk hk2
          clear hx hy hk2
          cases htab : tab ps x y
          all_goals go_wp2
          all_goals (
            have tQ := True.intro
            go_quiet ((go_at_call 65; (with_reducible refine (car.out _ (pw_below_drewN (Below.refl _ _) _)).mono ?_); rintro e w' ⟨rfl, ⟨nd, rfl⟩⟩; (try first | exact ⟨rfl, _, World.drewN_drewN _ _ _⟩ | exact ⟨rfl, _, Eq.trans (World.drewN_drewN _ _ _) (congrArg (World.drewN _) (Nat.add_assoc _ _ _))⟩)))
            have HO2 := Aside0.mk (Kd.R_drewN HO.out nq)
            have HBB := Aside0.mk (pw_below_drewN HB.out nq)
            clear q0 q1 HO HB hsc HOc HCELLS HGS car tQ
            rw [htab]
            generalize W1.drewN nq = W2 at HO2 HBB ⊢)
          · go_wp2
            exact ⟨⟨O, wrap64 (i + 1), rfl, ⟨by rw [hwi.out]; have := HI.out; omega⟩, HO2, HOl, HOn, HOe, HBB⟩, by rw [hwi.out]; simp only [intOf]; have := HI.out; omega⟩
          · have u0 := Int.natCast_nonneg kn
            have u2 := Int.natCast_nonneg k2
            obtain ⟨s0, f0⟩ := Kd.R_celln 0 HO2.out (kn : Int) u0 (of_eq_true r1)
            obtain ⟨s1, _⟩ := Kd.R_celln 0 HO2.out (k2 : Int) u2 (of_eq_true r2)
            have hg1 := Kd.R_putg HO2.out (kn : Int) y
            obtain ⟨s2, f2⟩ := Kd.R_celln 0 hg1.1 (k2 : Int) u2 (of_eq_true r2)
            have hg2 := Kd.R_putg hg1.1 (k2 : Int) x
            have HG2 := Aside0.mk hg2.1
            have HB3' := Aside0.mk ((HBB.out.grown hg1.2 HBB.out.size (fun j hj => by cases hj; exact HGB.out)).grown hg2.2 (Nat.le_trans HBB.out.size hg1.2.size) (fun j hj => by cases hj; exact HGB.out))
            have hsl := Aside0.mk (swap_lst (tab_ap ps) O l.length kn k2 x y M HOl.out HK2.out (of_eq_true r4) HX.out HY.out htab HOe.out)
            rw [show rdOf 0 O (kn : Int) = x from HX.out] at s0
            rw [show rdOf 0 O (k2 : Int) = y from HY.out] at s1
            simp only [Int.toNat_natCast] at s0 f0 s1 s2 f2 HG2 HB3'
            clear hg1 hg2 HO2 HBB u0 u2
            go_wp2
            exact ⟨⟨(O.set kn y).set k2 x, wrap64 (i + 1), rfl, ⟨by rw [hwi.out]; have := HI.out; omega⟩, HG2, ⟨hsl.out.2.1⟩, ⟨fun z hz => HOn.out z (hsl.out.2.2 z hz)⟩, ⟨hsl.out.1⟩, HB3'⟩, by rw [hwi.out]; simp only [intOf]; have := HI.out; omega⟩
        · have hnegb : decide (k0 < 0) = false := decide_eq_false hneg
          obtain ⟨kn, rfl, hkr⟩ := HN2.out hneg
          clear hneg
          have HKR := Aside0.mk hkr
          clear hkr
          obtain ⟨hwk, _, r1, _, r2⟩ := swap_next l.length kn H1.out HKR.out
          obtain ⟨k2, hk2⟩ : ∃ k2 : Nat, kn + 1 = k2 := ⟨_, rfl⟩
          rw [hk2] at hwk r2
          have hwk' : IntKind.i64.wrap ((kn : Int) + 1) = (k2 : Int) := by simp only [i64_w]; exact hwk
          have r3 : (kn < l.length) = True := eq_true (Int.ofNat_lt.1 (of_eq_true r1))
          have r4 : (k2 < l.length) = True := eq_true (Int.ofNat_lt.1 (of_eq_true r2))
          have q0 := HCELLS.out kn (by rw [← HLL.out]; exact of_eq_true r3)
          have q1 := HCELLS.out k2 (by rw [← HLL.out]; exact of_eq_true r4)
          obtain ⟨x, hx⟩ : ∃ x, rd O (kn : Int) = x := ⟨_, rfl⟩
          obtain ⟨y, hy⟩ : ∃ y, rd O (k2 : Int) = y := ⟨_, rfl⟩
          rw [hx] at q0
          rw [hy] at q1
          have car := Aside0.mk (fun w (hb : Below W1.heap.size W1 w) => are_calls x y A1 c1 ps w (Kd.C_below HR1.out (below_step HBY.out hb)) (Nat.le_trans H2.out (by decide)))
          have HX := Aside0.mk hx
          have HY := Aside0.mk hy
          have HK2 := Aside0.mk hk2
          clear hx hy hk2
          cases htab : tab ps x y
          all_goals go_wp2
          all_goals (
            have tQ := True.intro
            go_quiet ((go_at_call 65; (with_reducible refine (car.out _ (pw_below_drewN (Below.refl _ _) _)).mono ?_); rintro e w' ⟨rfl, ⟨nd, rfl⟩⟩; (try first | exact ⟨rfl, _, World.drewN_drewN _ _ _⟩ | exact ⟨rfl, _, Eq.trans (World.drewN_drewN _ _ _) (congrArg (World.drewN _) (Nat.add_assoc _ _ _))⟩)))
            have HO2 := Aside0.mk (Kd.R_drewN HO.out nq)
            have HBB := Aside0.mk (pw_below_drewN HB.out nq)
            clear q0 q1 HO HB hsc HOc HCELLS HGS car tQ
            rw [htab]
            generalize W1.drewN nq = W2 at HO2 HBB ⊢)
          · go_wp2
            exact ⟨⟨O, wrap64 (i + 1), rfl, ⟨by rw [hwi.out]; have := HI.out; omega⟩, HO2, HOl, HOn, HOe, HBB⟩, by rw [hwi.out]; simp only [intOf]; have := HI.out; omega⟩
          · have u0 := Int.natCast_nonneg kn
            have u2 := Int.natCast_nonneg k2
            obtain ⟨s0, f0⟩ := Kd.R_celln 0 HO2.out (kn : Int) u0 (of_eq_true r1)
            obtain ⟨s1, _⟩ := Kd.R_celln 0 HO2.out (k2 : Int) u2 (of_eq_true r2)
            have hg1 := Kd.R_putg HO2.out (kn : Int) y
            obtain ⟨s2, f2⟩ := Kd.R_celln 0 hg1.1 (k2 : Int) u2 (of_eq_true r2)
            have hg2 := Kd.R_putg hg1.1 (k2 : Int) x
            have HG2 := Aside0.mk hg2.1
            have HB3' := Aside0.mk ((HBB.out.grown hg1.2 HBB.out.size (fun j hj => by cases hj; exact HGB.out)).grown hg2.2 (Nat.le_trans HBB.out.size hg1.2.size) (fun j hj => by cases hj; exact HGB.out))
            have hsl := Aside0.mk (swap_lst (tab_ap ps) O l.length kn k2 x y M HOl.out HK2.out (of_eq_true r4) HX.out HY.out htab HOe.out)
            rw [show rdOf 0 O (kn : Int) = x from HX.out] at s0
            rw [show rdOf 0 O (k2 : Int) = y from HY.out] at s1
            simp only [Int.toNat_natCast] at s0 f0 s1 s2 f2 HG2 HB3'
            clear hg1 hg2 HO2 HBB u0 u2
            go_wp2
            exact ⟨⟨(O.set kn y).set k2 x, wrap64 (i + 1), rfl, ⟨by rw [hwi.out]; have := HI.out; omega⟩, HG2, ⟨hsl.out.2.1⟩, ⟨fun z hz => HOn.out z (hsl.out.2.2 z hz)⟩, ⟨hsl.out.1⟩, HB3'⟩, by rw [hwi.out]; simp only [intOf]; have := HI.out; omega⟩
      · have hbb : decide (1 < l.length) = false := decide_eq_false hbig
        have hbb2 : decide ((1 : Int) < (l.length : Int)) = false := decide_eq_false (by omega)
        clear hlt hbig
        go_wp2_with (first
          | (go_at_call 36; have _t := tA; refine (FIN.out _ HB.out (by have h := (Kd.R_reads' HO.out).2.2; rwa [HOl.out] at h)).out.mono ?_; rintro e w5 ⟨A5, c5, rfl, hc5, hC5, B5⟩; have HC5 := Aside0.mk hC5; have Hc5 := Aside0.mk hc5; have HB5 := Aside0.mk B5; clear hc5 hC5 B5 tA; have tB := True.intro)
          | (go_at_call 24; have _t := tB; refine (larderlaw07_same.calls (M.length + 2) A c M A5 c5 M true w5 (Kd.C_below HCa.out (below_step HBX.out HB5.out)) Hca.out HC5.out Hc5.out HSM.out).mono ?_; rintro e w6 ⟨rfl, ⟨m6, rfl⟩⟩; have HB6 := Aside0.mk (pw_below_drewN HB5.out m6); clear tB; have tC := True.intro)
          | (go_at_call 36; have _t := tC; refine (HCM.out A c (w5.drewN m6) (Kd.C_below HCa.out (below_step HBX.out HB6.out)) Hca.out A1 c1 (Kd.C_below HR1.out (below_step HBY.out HB6.out))).mono ?_; rintro e w7 ⟨A7, c7, rfl, hc7, hC7, B7⟩; have HC7 := Aside0.mk hC7; have Hc7 := Aside0.mk hc7; have HB7 := Aside0.mk (below_step HB6.out B7); clear hc7 hC7 B7 tC; have tD := True.intro)
          | (go_at_call 36; have _t := tD; refine (HCN.out A0 c0 w7 (Kd.C_below HR0.out (below_step HBY.out HB7.out)) HC0.out).mono ?_; rintro e w8 ⟨A8, c8, rfl, hc8, hC8, B8⟩; have HC8 := Aside0.mk hC8; have Hc8 := Aside0.mk hc8; have HB8 := Aside0.mk B8; clear hc8 hC8 B8 tD; have tE := True.intro)
          | (go_at_call 24; have _t := tE; refine (larderlaw07_same.calls (M.length + 2) A c M A7 c7 M true w8 (Kd.C_below HCa.out (below_step HBX.out (below_step HB7.out HB8.out))) Hca.out (Kd.C_below HC7.out HB8.out) Hc7.out HSM.out).mono ?_; rintro e w9 ⟨rfl, ⟨m9, rfl⟩⟩; clear tE; have tF := True.intro)
          | (go_at_call 24; have _t := tF; refine (larderlaw07_same.calls (l.length + 2) A8 c8 l A0 c0 l true (w8.drewN m9) (Kd.C_drewN HC8.out m9) Hc8.out (Kd.C_drewN (Kd.C_below HR0.out (below_step HBY.out (below_step HB7.out HB8.out))) m9) HC0.out HSL.out).mono ?_; rintro e w10 ⟨rfl, ⟨m10, rfl⟩⟩; clear tF))
        go_ret
        exact ⟨rfl, pw_below_drewN (below_step HBY.out (below_step HB7.out HB8.out)) (m9 + m10)⟩
    · have hltb : decide (i < (sw.length : Int)) = false := decide_eq_false hlt
      clear hlt
      go_wp2_with (first
        | (go_at_call 36; have _t := tA; refine (FIN.out _ HB.out (by have h := (Kd.R_reads' HO.out).2.2; rwa [HOl.out] at h)).out.mono ?_; rintro e w5 ⟨A5, c5, rfl, hc5, hC5, B5⟩; have HC5 := Aside0.mk hC5; have Hc5 := Aside0.mk hc5; have HB5 := Aside0.mk B5; clear hc5 hC5 B5 tA; have tB := True.intro)
        | (go_at_call 24; have _t := tB; refine (larderlaw07_same.calls (M.length + 2) A c M A5 c5 M true w5 (Kd.C_below HCa.out (below_step HBX.out HB5.out)) Hca.out HC5.out Hc5.out HSM.out).mono ?_; rintro e w6 ⟨rfl, ⟨m6, rfl⟩⟩; have HB6 := Aside0.mk (pw_below_drewN HB5.out m6); clear tB; have tC := True.intro)
        | (go_at_call 36; have _t := tC; refine (HCM.out A c (w5.drewN m6) (Kd.C_below HCa.out (below_step HBX.out HB6.out)) Hca.out A1 c1 (Kd.C_below HR1.out (below_step HBY.out HB6.out))).mono ?_; rintro e w7 ⟨A7, c7, rfl, hc7, hC7, B7⟩; have HC7 := Aside0.mk hC7; have Hc7 := Aside0.mk hc7; have HB7 := Aside0.mk (below_step HB6.out B7); clear hc7 hC7 B7 tC; have tD := True.intro)
        | (go_at_call 36; have _t := tD; refine (HCN.out A0 c0 w7 (Kd.C_below HR0.out (below_step HBY.out HB7.out)) HC0.out).mono ?_; rintro e w8 ⟨A8, c8, rfl, hc8, hC8, B8⟩; have HC8 := Aside0.mk hC8; have Hc8 := Aside0.mk hc8; have HB8 := Aside0.mk B8; clear hc8 hC8 B8 tD; have tE := True.intro)
        | (go_at_call 24; have _t := tE; refine (larderlaw07_same.calls (M.length + 2) A c M A7 c7 M true w8 (Kd.C_below HCa.out (below_step HBX.out (below_step HB7.out HB8.out))) Hca.out (Kd.C_below HC7.out HB8.out) Hc7.out HSM.out).mono ?_; rintro e w9 ⟨rfl, ⟨m9, rfl⟩⟩; clear tE; have tF := True.intro)
        | (go_at_call 24; have _t := tF; refine (larderlaw07_same.calls (l.length + 2) A8 c8 l A0 c0 l true (w8.drewN m9) (Kd.C_drewN HC8.out m9) Hc8.out (Kd.C_drewN (Kd.C_below HR0.out (below_step HBY.out (below_step HB7.out HB8.out))) m9) HC0.out HSL.out).mono ?_; rintro e w10 ⟨rfl, ⟨m10, rfl⟩⟩; clear tF))
      go_ret
      exact ⟨rfl, pw_below_drewN (below_step HBY.out (below_step HB7.out HB8.out)) (m9 + m10)⟩
/-- SchedLeast: the law's walk, in the order that the row hands its facts over. -/
theorem schedLeast_walk (A0 : Option Addr) (c0 : Nat) (l : List Int) {W : World} (hr0 : Kd.C (Kd.int .i64) W A0 l.length l) (hc0 : l.length ≤ c0) (y0 : l.length * 8 ≤ 140737488351232) (zw : ∀ x ∈ l, (Lit.int .i64 x).wf = true)
    (A1 : Option Addr) (c1 : Nat) (ps : List (Int × Int)) (hr1 : Kd.C Kp W A1 ps.length ps) (hc1 : ps.length ≤ c1) (y1 : ps.length * 16 ≤ 140737488351232)
    (A2 : Option Addr) (c2 : Nat) (sw : List Int) (hr2 : Kd.C (Kd.int .i64) W A2 sw.length sw) (hc2 : sw.length ≤ c2) (y2 : sw.length * 8 ≤ 140737488351232) (zs : ∀ x ∈ sw, (Lit.int .i64 x).wf = true) :
    Calls Try.prog 15 #[.slice A0 l.length c0, .slice A1 ps.length c1, .slice A2 sw.length c2] W fun e W' => e = .returned (.bool true) ∧ Below W.heap.size W W' := by
  by_cases h : l.length ≤ 512 ∧ ps.length ≤ 256 ∧ (∀ x ∈ l, Hnum x) ∧ PairsOk ps
  · exact least_walk_good A0 c0 l A1 c1 ps A2 c2 sw hr0 hc0 hr1 hr2 (by omega) h.1 h.2.1 h.2.2.1 h.2.2.2
  · exact least_walk_bad A0 c0 l A1 c1 ps A2 c2 sw hr0 hc0 hr1 h
open Go.Deep Go.ChangeShapes
/-- A slice of pairs of numbers that came in, as one list. -/
theorem open_hpairs2 {H : Type} {enc : TypeId × Value → H} {W : World} {base : Nat} {spare : Nat → Bool} {held : Bool} {a : Option Addr} {len cap : Nat} {d : DataW H} {ps : List MemPlace} {ts : List TypeId} {ds : List (DataW H)} {j : Nat}
    (hsz : (DataW.weightsEach Try.prog ts ds).all (· ≤ reachBytes) = true) (ht : ts[j]? = some 56) (hd : ds[j]? = some d) (h : DataW.Trod enc Try.prog W base spare held 56 (.slice a len cap) d ps) :
    ∃ l : List (Int × Int), l.length = len ∧ len ≤ cap ∧ Kd.C Kp W a l.length l ∧ len * 16 ≤ 140737488351232 := by
  obtain ⟨fuel, hf⟩ := h
  have hu56 := Try.underlying56
  have hu58 := Try.underlying58
  have hu3 := Try.underlying3
  rcases open_slice_pairs hu56 hu58 (by kernel_rfl) rfl rfl (by kernel_rfl) (by kernel_rfl) hf with ⟨hcs, _⟩ | ⟨x, l, c, m, n, V0, V1, D0, D1, P0, P1, hcs, _, hl, hm, hmm, hx, hc⟩
  · simp [Value.cells] at hcs
    obtain ⟨rfl, rfl, rfl⟩ := hcs
    exact ⟨[], rfl, Nat.le_refl _, ⟨rfl, by simp, fun h => absurd h (by simp)⟩, by simp⟩
  · simp [Value.cells] at hcs
    obtain ⟨rfl, rfl, rfl⟩ := hcs
    obtain ⟨hx, _⟩ := Prod.mk.inj hx
    have hlm : len ≤ m := by rw [hmm]; split <;> omega
    have each : ∀ i, i < len → ∃ p : Int × Int, W.cell? (x.add (i * 2)) = some (.int .i64 p.1) ∧ W.cell? (x.add (i * 2 + 1)) = some (.int .i64 p.2) := by
      intro i hi
      obtain ⟨c0, c1, t0, t1⟩ := hc i (by omega)
      obtain ⟨s0, e0, _, _⟩ := DataW.trod_int hu3 t0
      obtain ⟨s1, e1, _, _⟩ := DataW.trod_int hu3 t1
      simp at e0 e1
      rw [e0] at c0
      rw [e1] at c1
      exact ⟨⟨s0, s1⟩, c0, c1⟩
    obtain ⟨f, hf2⟩ := Deep.choose_lt (p := fun i (p : Int × Int) => W.cell? (x.add (i * 2)) = some (.int .i64 p.1) ∧ W.cell? (x.add (i * 2 + 1)) = some (.int .i64 p.2)) each
    have hw : len * 16 ≤ 140737488351232 := by
      subst hx
      have z := sized_slice hsz ht hd hu56
      have hB : Try.prog.bytesOf 58 = 16 := by kernel_rfl
      rw [hB] at z
      simp at z
      have : len * 16 ≤ (len + (m - len)) * 16 := Nat.mul_le_mul_right _ (by omega)
      exact Nat.le_trans this z
    refine ⟨(List.range len).map f, by simp, hl, ⟨by simp, by simp; unfold maxLen at hm; omega, fun _ => ⟨x, rfl, fun i p hp => ?_⟩⟩, hw⟩
    have hi : i < len := by
      rcases Nat.lt_or_ge i len with h | h
      · exact h
      · rw [List.getElem?_eq_none (by simpa using h)] at hp; cases hp
    rw [List.getElem?_map, List.getElem?_range hi] at hp
    obtain rfl : f i = p := by simpa using hp
    obtain ⟨c0, c1⟩ := hf2 i hi
    refine ⟨[.int .i64 (f i).1, .int .i64 (f i).2], rfl, ⟨[.int .i64 (f i).1], [.int .i64 (f i).2], rfl, rfl, rfl⟩, fun q u hu => ?_⟩
    match q, hu with
    | 0, hu => simp at hu; subst hu; exact c0
    | 1, hu => simp at hu; subst hu; exact c1
end Go.Proofs.Ytfcjfjmjcmanaaa.X
