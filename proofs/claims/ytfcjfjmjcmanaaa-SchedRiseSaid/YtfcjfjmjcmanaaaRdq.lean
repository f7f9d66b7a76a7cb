/- SchedRise: the walk. -/
import Derived.Test.YtfcjfjmjcmanaaaGd
set_option linter.unusedVariables false
namespace Go.Proofs.Ytfcjfjmjcmanaaa.V
open Go Go.RowKit Go.Proofs.Ytfcjfjmjcmanaaa.X Go.Proofs.Ytfcjfjmjcmanaaa.PThere Go.Proofs.Ytfcjfjmjcmanaaa.O Go.Proofs.Ytfcjfjmjcmanaaa.B Go.Proofs.YtfcjfjmjcmanaaaW.PrintWords Go.Proofs.YtfcjfjmjcmanaaaW.PrintLast Go.Proofs.YtfcjfjmjcmanaaaW.PrintMore
attribute [local go_sem] Oper.semAt_some
set_option maxRecDepth 100000
set_option maxHeartbeats 4000000
theorem rise_B {W : World} {v : Value} {L : List Int} (hs : RdS W v L) (hl : L.length ≤ 17592186043904) (hf : fewOk L = false) (h d most : Int) : CallsIn Fence.wide 3 Try.prog 16 #[v, .int .i64 h, .int .i64 d, .int .i64 most] W fun e W' => e = .returned (.bool true) ∧ Below W.heap.size W W' := by
  obtain ⟨A, c, rfl⟩ := hs.slice
  obtain ⟨r1, r2, hcnt, hfe, _⟩ := count_rise L
  rw [hf] at hfe
  have hcase : (r2 = 0 ∧ decide (r1 ≤ 1048576) = false) ∨ (r2 == 0) = false := by
    by_cases h2 : r2 = 0
    · subst h2
      exact .inl ⟨rfl, decide_eq_false fun z => by rw [decide_eq_true z] at hfe; simp at hfe⟩
    · exact .inr (by simpa using h2)
  clear hfe
  have hms : (decide (most < 0) = true ∧ decide (0 ≤ most) = false) ∨ (decide (most < 0) = false ∧ decide (0 ≤ most) = true) := by
    by_cases hm : most < 0
    · exact .inl ⟨decide_eq_true hm, decide_eq_false (by omega)⟩
    · exact .inr ⟨decide_eq_false hm, decide_eq_true (by omega)⟩
  rcases hcase with ⟨rfl, hr1b⟩ | hr1b
  all_goals rcases hms with ⟨m0b, m1b⟩ | ⟨m0b, m1b⟩
  all_goals (
    refine callsIn_of_wp_marks Try.func16 rfl trivial ?_ rfl
    simp only [Try.ntmps16, List.size_toArray, List.length_cons, List.length_nil, Nat.reduceAdd, Nat.reduceSub, Array.replicate_succ, Array.replicate_zero, List.push_toArray, List.append_toArray, List.nil_append, List.cons_append]
    obtain ⟨b0, hb0⟩ : ∃ b0, W.heap.size = b0 := ⟨_, rfl⟩
    have hB : Below b0 W (((W.alloc (.cells #[.int .i64 d] 3)).alloc (.cells #[.int .i64 most] 3)).alloc (.cells #[.bool false] 4)) ∧ Boxed (((W.alloc (.cells #[.int .i64 d] 3)).alloc (.cells #[.int .i64 most] 3)).alloc (.cells #[.bool false] 4)) b0 3 (.int .i64 d) ∧ Boxed (((W.alloc (.cells #[.int .i64 d] 3)).alloc (.cells #[.int .i64 most] 3)).alloc (.cells #[.bool false] 4)) (b0 + 1) 3 (.int .i64 most) ∧ Boxed (((W.alloc (.cells #[.int .i64 d] 3)).alloc (.cells #[.int .i64 most] 3)).alloc (.cells #[.bool false] 4)) (b0 + 2) 4 (.bool false) ∧ (((W.alloc (.cells #[.int .i64 d] 3)).alloc (.cells #[.int .i64 most] 3)).alloc (.cells #[.bool false] 4)).heap.size = b0 + 3 := by
      have b1 := ((Boxed.new W 3 (.int .i64 d)).alloc (.cells #[.int .i64 most] 3)).alloc (.cells #[.bool false] 4)
      have b2 := (Boxed.new (W.alloc (.cells #[.int .i64 d] 3)) 3 (.int .i64 most)).alloc (.cells #[.bool false] 4)
      have b3 := Boxed.new ((W.alloc (.cells #[.int .i64 d] 3)).alloc (.cells #[.int .i64 most] 3)) 4 (.bool false)
      simp only [World.size_alloc] at b2 b3
      rw [← hb0]
      exact ⟨((((Below.refl _ W).alloc (Nat.le_refl _) _).alloc (by simp) _).alloc (by simp; omega) _), b1, b2, b3, by simp⟩
    generalize hW0 : (((W.alloc (.cells #[.int .i64 d] 3)).alloc (.cells #[.int .i64 most] 3)).alloc (.cells #[.bool false] 4)) = W1 at hB
    have HB0 := Aside0.mk hB
    have HS := Aside0.mk hs
    have HL := Aside0.mk hl
    have HF := Aside0.mk hf
    have HC := Aside0.mk hcnt
    clear hB hs hl hf hcnt
    have HSK := Aside0.mk (fun (w : World) (hb : Below b0 W w) => HS.out.below (W' := w) (by rw [hb0]; exact hb))
    have OK := Aside0.mk (nm16_ok b0)
    gi_wp2_with (first
      | (refine ⟨trivial, ?_⟩; gi_at_call 51; go_loud (refine (callsIn_wide.2 (count_calls (HSK.out _ HB0.out.1) HC.out)).mono ?_; rintro e w2 ⟨rfl, hd⟩; obtain ⟨hz2, hr4⟩ := r0_start HB0.out.1 HB0.out.2.1 HB0.out.2.2.1 HB0.out.2.2.2.1 HB0.out.2.2.2.2 hd; have hw4 : ∃ w4, (w2.alloc (.cells #[.int .i64 0] 3)).alloc (.cells #[.slice none 0 0] 26) = w4 := ⟨_, rfl⟩; obtain ⟨w4, hw4⟩ := hw4; rw [hw4] at hr4; have R4 := Aside0.mk hr4; clear hr4 hd))
      | (refine ⟨trivial, ?_⟩; gi_at_call 56; go_loud (refine (callsIn_wide.2 (mixes_calls (HSK.out _ R4.out.below) HL.out)).mono ?_; rintro e w5 ⟨o1, s1, v1, rfl, mb, hb⟩; have R5 := Aside0.mk (R4.out.grow OK.out hb); have M5 := Aside0.mk (mb.base R4.out.sz); clear mb hb R4))
      | (refine ⟨trivial, ?_⟩; gi_at_call 57; (refine (callsIn_wide.2 (few_of (most := 24) (HSK.out _ R5.out.below) HL.out)).mono ?_; rintro e w6 ⟨o2, s2, m2, v2, rfl, mb, hb⟩; have R6 := Aside0.mk (R5.out.grow OK.out hb); have M6 := Aside0.mk (M5.out.below hb (Nat.le_refl _)); have F6 := Aside0.mk (mb.base R5.out.sz); have c6 := R6.out.bm.cell; clear mb hb R5 M5))
      | (refine ⟨trivial, ?_⟩; gi_at_call 57; go_loud (refine (callsIn_wide.2 (few_of (HSK.out _ R6.out.below) HL.out)).mono ?_; rintro e w7 ⟨o3, s3, m3, v3, rfl, mb, hb⟩; have R7 := Aside0.mk (R6.out.grow OK.out hb); have M7 := Aside0.mk (M6.out.below hb (Nat.le_refl _)); have F7 := Aside0.mk (F6.out.below hb (Nat.le_refl _)); have G7 := Aside0.mk (mb.base R6.out.sz); have c7 := R7.out.bd.cell; clear mb hb R6 M6 F6 c6))
      | (refine ⟨trivial, ?_⟩; gi_at_call 25; go_loud (refine (callsIn_wide.2 (all_calls h d _)).mono ?_; rintro e w8 ⟨rfl, ka, kd, kh, kb⟩; obtain ⟨ba, hba⟩ : ∃ ba, w7.heap.size = ba := ⟨_, rfl⟩; have R8 := Aside0.mk (R7.out.grow OK.out kb); have RS := Aside0.mk (⟨R8.out, M7.out.below kb (Nat.le_refl _), F7.out.below kb (Nat.le_refl _), G7.out.below kb (Nat.le_refl _), hba ▸ ka, hba ▸ kd, hba ▸ kh, hba ▸ R7.out.sz, (fun D hD => nomatch hD), List.nodup_nil⟩ : Rs (nm16 b0) W L h d most o1 s1 v1 o2 s2 m2 v2 o3 s3 m3 v3 ba [] [] 0 w8); clear ka kd kh kb R7 M7 F7 G7 R8 c7))
      | (refine ⟨trivial, ?_⟩; gi_at_call 66; go_loud (refine (callsIn_wide.2 (whole_calls _ _ _)).mono ?_; rintro e w9 ⟨rfl, h9⟩; have h9 := h9.symm; subst h9)))
    obtain ⟨prev1, hprev⟩ : ∃ q : List Int, q = [] := ⟨_, rfl⟩
    have RS0 : Aside0 (Rs (nm16 b0) W L h d most o1 s1 v1 o2 s2 m2 v2 o3 s3 m3 v3 ba prev1 [] 0 w8) := by rw [hprev]; exact RS
    clear RS hprev hW0 hz2 hw4
    try clear hr1b
    have RS := RS0
    clear RS0
    generalize w8 = wa1 at RS ⊢
    obtain ⟨dd, hG⟩ := mixes_good L
    have HG := Aside0.mk hG
    clear hG
    refine wpIn_rangeFunc_V2 49 18 rfl (by omega) (gf := 108) rfl trivial (enters_of Try.func108 (by kernel_rfl) rfl) (seq_mixes 2 (by omega) wa1 RS.out.mb) (RS.out.rd1 OK.out).1 (Below.refl _ _) (fun b hb => rfl) (Ri wa1 (b0 + 3) (b0 + 3 + 1) (lsOf prev1 (mixesOf L))) (fun _ _ _ _ => False) (ri_abides (RS.out.lt OK.out).1 (RS.out.lt OK.out).2) (fun c s T A B T' h _ _ => h) (RS.out.ri _) ?assign1 ?body1 ?done1 ?stop1
    case stop1 => exact fun D c k T W5 _ _ h _ _ => h.elim
    case assign1 =>
      intro l v W5 K hK
      simp only [axOf, List.setIfInBounds_toArray, List.set_cons_succ, List.set_cons_zero] at hK ⊢
      gi_wp2
      exact hK
    case body1 =>
      rintro l k M T T1 u W5 hL hri hTT hlt1 hv
      have HM5 := Aside0.mk (HG.out.at hL)
      obtain ⟨bk5, Al, cl, Tl, bl5, hsl⟩ := ri_boxed hri
      have ck5 := bk5.cell
      have cl5 := bl5.cell
      have BK := Aside0.mk bk5
      have BL := Aside0.mk bl5
      obtain ⟨Av, cv, rfl⟩ := hv.slice
      simp only [axOf, List.setIfInBounds_toArray, List.set_cons_succ, List.set_cons_zero]
      have wk : wrap64 ((k : Int) + 1) = (k : Int) + 1 := X.hwrId (by omega) (by have := HM5.out.2; omega)
      have HRI := Aside0.mk hri
      have HTT := Aside0.mk hTT
      have HVV := Aside0.mk hv
      have HLK := Aside0.mk hL
      have HSL := Aside0.mk hsl
      have bx := RS.out.boxes OK.out HRI.out (Below.refl _ _)
      have cd5 := bx.1.cell
      have cm5 := bx.2.cell
      clear hri hTT hv hL hsl hlt1 bx bk5 bl5
      by_cases hk0 : 0 < k
      · have hk0b : decide (0 < k) = true := decide_eq_true hk0
        have HP := Aside0.mk (HG.out.prev (prev := prev1) hk0 HLK.out)
        clear hk0
        gi_wp2_with (refine ⟨trivial, ?_⟩; gi_at_call 55; go_loud (refine (CallsIn.inRound l (callsIn_wide.2 (below_true HSL.out HVV.out (by have := HP.out.2; have := HG.out.small; have := HM5.out.1; omega) HP.out.2 HP.out.1))).mono ?_; rintro e w10 ⟨rfl, hd⟩; have hbw := (drawn_bel hd W5.heap.size); obtain ⟨f1, ⟨lv, c1⟩, c2, f2, kt, ri'⟩ := ri_step (x := (k : Int) + 1) (by omega) (by simp) (RS.out.lt OK.out).1 (RS.out.lt OK.out).2 (RS.out.rd1 OK.out).2.1 (RS.out.rd1 OK.out).2.2 HRI.out HTT.out HVV.out (lsOf_next HLK.out) hbw; have KT := Aside0.mk kt; have RI' := Aside0.mk ri'; clear kt ri'; have bx := RS.out.boxes OK.out HRI.out hbw; have cd10 := bx.1.cell; have cm10 := bx.2.cell; clear hd hbw bx))
        exact ⟨KT.out, RI'.out⟩
      · have hk0b : decide (0 < k) = false := decide_eq_false hk0
        clear hk0
        obtain ⟨f1, ⟨lv, c1⟩, c2, f2, kt, ri'⟩ := ri_step (x := (k : Int) + 1) (by omega) (by simp) (RS.out.lt OK.out).1 (RS.out.lt OK.out).2 (RS.out.rd1 OK.out).2.1 (RS.out.rd1 OK.out).2.2 HRI.out HTT.out HVV.out (lsOf_next HLK.out) (Below.refl W5.heap.size W5); have KT := Aside0.mk kt; have RI' := Aside0.mk ri'; clear kt ri'
        clear c1
        gi_wp2_with (refine ⟨trivial, ?_⟩; go_at_K)
        exact ⟨KT.out, RI'.out⟩
    case done1 =>
      rintro D1 T W5 hD hri hK hTD
      have rs2 := RS.out.after OK.out hri hK hTD
      clear RS hri hK hTD hD HG
      rw [show ((mixesOf L).length : Int) = 0 by rw [mixes_no HF.out]; rfl] at rs2
      have ck := rs2.r.bk.cell
      have fk := rs2.r.bk.frozen
      have RS := Aside0.mk (rs2.zero OK.out)
      clear rs2
      gi_wp2_with (refine ⟨trivial, ?_⟩; gi_at_call 66; go_loud (refine (callsIn_wide.2 (whole_calls _ _ _)).mono ?_; rintro e w9 ⟨rfl, h9⟩; have h9 := h9.symm; subst h9))
      clear ck fk
      generalize W5.setCell ⟨b0 + 3, 0, none⟩ (.int .i64 0) = wa2 at RS ⊢
      generalize lsOf prev1 _ _ = prev2 at RS
      obtain ⟨dd, hG⟩ := fews_good L 24
      have HG := Aside0.mk hG
      clear hG
      refine wpIn_rangeFunc_V2 77 19 rfl (by omega) (gf := 110) rfl trivial (enters_of Try.func110 (by kernel_rfl) rfl) (seq_few 2 (by omega) wa2 RS.out.f2) (RS.out.rd2 OK.out).1 (Below.refl _ _) (fun b hb => rfl) (Ri wa2 (b0 + 3) (b0 + 3 + 1) (lsOf prev2 (fewsOf L 24))) (fun _ _ _ _ => False) (ri_abides (RS.out.lt OK.out).1 (RS.out.lt OK.out).2) (fun c s T A B T' h _ _ => h) (RS.out.ri _) ?assign2 ?body2 ?done2 ?stop2
      case stop2 => exact fun D c k T W5 _ _ h _ _ => h.elim
      case assign2 =>
        intro l v W5 K hK
        simp only [axOf, List.setIfInBounds_toArray, List.set_cons_succ, List.set_cons_zero] at hK ⊢
        gi_wp2
        exact hK
      case body2 =>
        rintro l k M T T1 u W5 hL hri hTT hlt1 hv
        have HM5 := Aside0.mk (HG.out.at hL)
        obtain ⟨bk5, Al, cl, Tl, bl5, hsl⟩ := ri_boxed hri
        have ck5 := bk5.cell
        have cl5 := bl5.cell
        have BK := Aside0.mk bk5
        have BL := Aside0.mk bl5
        obtain ⟨Av, cv, rfl⟩ := hv.slice
        simp only [axOf, List.setIfInBounds_toArray, List.set_cons_succ, List.set_cons_zero]
        have wk : wrap64 ((k : Int) + 1) = (k : Int) + 1 := X.hwrId (by omega) (by have := HM5.out.2; omega)
        have HRI := Aside0.mk hri
        have HTT := Aside0.mk hTT
        have HVV := Aside0.mk hv
        have HLK := Aside0.mk hL
        have HSL := Aside0.mk hsl
        have bx := RS.out.boxes OK.out HRI.out (Below.refl _ _)
        have cd5 := bx.1.cell
        have cm5 := bx.2.cell
        clear hri hTT hv hL hsl hlt1 bx bk5 bl5
        by_cases hk0 : 0 < k
        · have hk0b : decide (0 < k) = true := decide_eq_true hk0
          have HP := Aside0.mk (HG.out.prev (prev := prev2) hk0 HLK.out)
          clear hk0
          gi_wp2_with (refine ⟨trivial, ?_⟩; gi_at_call 55; go_loud (refine (CallsIn.inRound l (callsIn_wide.2 (below_true HSL.out HVV.out (by have := HP.out.2; have := HG.out.small; have := HM5.out.1; omega) HP.out.2 HP.out.1))).mono ?_; rintro e w10 ⟨rfl, hd⟩; have hbw := (drawn_bel hd W5.heap.size); obtain ⟨f1, ⟨lv, c1⟩, c2, f2, kt, ri'⟩ := ri_step (x := (k : Int) + 1) (by omega) (by simp) (RS.out.lt OK.out).1 (RS.out.lt OK.out).2 (RS.out.rd2 OK.out).2.1 (RS.out.rd2 OK.out).2.2 HRI.out HTT.out HVV.out (lsOf_next HLK.out) hbw; have KT := Aside0.mk kt; have RI' := Aside0.mk ri'; clear kt ri'; have bx := RS.out.boxes OK.out HRI.out hbw; have cd10 := bx.1.cell; have cm10 := bx.2.cell; clear hd hbw bx))
          exact ⟨KT.out, RI'.out⟩
        · have hk0b : decide (0 < k) = false := decide_eq_false hk0
          clear hk0
          obtain ⟨f1, ⟨lv, c1⟩, c2, f2, kt, ri'⟩ := ri_step (x := (k : Int) + 1) (by omega) (by simp) (RS.out.lt OK.out).1 (RS.out.lt OK.out).2 (RS.out.rd2 OK.out).2.1 (RS.out.rd2 OK.out).2.2 HRI.out HTT.out HVV.out (lsOf_next HLK.out) (Below.refl W5.heap.size W5); have KT := Aside0.mk kt; have RI' := Aside0.mk ri'; clear kt ri'
          clear c1
          gi_wp2_with (refine ⟨trivial, ?_⟩; go_at_K)
          exact ⟨KT.out, RI'.out⟩
      case done2 =>
        rintro D2 T W5 hD hri hK hTD
        have rs2 := RS.out.after OK.out hri hK hTD
        clear RS hri hK hTD hD HG
        rw [show ((fewsOf L 24).length : Int) = 0 by rw [fews_no (.inl HF.out)]; rfl] at rs2
        have ck := rs2.r.bk.cell
        have fk := rs2.r.bk.frozen
        have RS := Aside0.mk (rs2.zero OK.out)
        clear rs2
        gi_wp2_with (refine ⟨trivial, ?_⟩; gi_at_call 66; go_loud (refine (callsIn_wide.2 (whole_calls _ _ _)).mono ?_; rintro e w9 ⟨rfl, h9⟩; have h9 := h9.symm; subst h9))
        clear ck fk
        generalize W5.setCell ⟨b0 + 3, 0, none⟩ (.int .i64 0) = wa3 at RS ⊢
        generalize lsOf prev2 _ _ = prev3 at RS
        obtain ⟨dd, hG⟩ := fews_good L most
        have HG := Aside0.mk hG
        clear hG
        refine wpIn_rangeFunc_V2 105 20 rfl (by omega) (gf := 110) rfl trivial (enters_of Try.func110 (by kernel_rfl) rfl) (seq_few 2 (by omega) wa3 RS.out.f3) (RS.out.rd3 OK.out).1 (Below.refl _ _) (fun b hb => rfl) (Ri wa3 (b0 + 3) (b0 + 3 + 1) (lsOf prev3 (fewsOf L most))) (fun _ _ _ _ => False) (ri_abides (RS.out.lt OK.out).1 (RS.out.lt OK.out).2) (fun c s T A B T' h _ _ => h) (RS.out.ri _) ?assign3 ?body3 ?done3 ?stop3
        case stop3 => exact fun D c k T W5 _ _ h _ _ => h.elim
        case assign3 =>
          intro l v W5 K hK
          simp only [axOf, List.setIfInBounds_toArray, List.set_cons_succ, List.set_cons_zero] at hK ⊢
          gi_wp2
          exact hK
        case body3 =>
          rintro l k M T T1 u W5 hL hri hTT hlt1 hv
          have HM5 := Aside0.mk (HG.out.at hL)
          obtain ⟨bk5, Al, cl, Tl, bl5, hsl⟩ := ri_boxed hri
          have ck5 := bk5.cell
          have cl5 := bl5.cell
          have BK := Aside0.mk bk5
          have BL := Aside0.mk bl5
          obtain ⟨Av, cv, rfl⟩ := hv.slice
          simp only [axOf, List.setIfInBounds_toArray, List.set_cons_succ, List.set_cons_zero]
          have wk : wrap64 ((k : Int) + 1) = (k : Int) + 1 := X.hwrId (by omega) (by have := HM5.out.2; omega)
          have HRI := Aside0.mk hri
          have HTT := Aside0.mk hTT
          have HVV := Aside0.mk hv
          have HLK := Aside0.mk hL
          have HSL := Aside0.mk hsl
          have bx := RS.out.boxes OK.out HRI.out (Below.refl _ _)
          have cd5 := bx.1.cell
          have cm5 := bx.2.cell
          have hms := fews_mem (List.mem_of_getElem? HLK.out)
          have hsm : decide (most < ((nsw M : Nat) : Int)) = false := decide_eq_false (by have := hms.1; omega)
          have HNU := Aside0.mk hms.2
          clear hms
          clear hri hTT hv hL hsl hlt1 bx bk5 bl5
          by_cases hk0 : 0 < k
          · have hk0b : decide (0 < k) = true := decide_eq_true hk0
            have HP := Aside0.mk (HG.out.prev (prev := prev3) hk0 HLK.out)
            clear hk0
            gi_wp2_with (first
              | (refine ⟨trivial, ?_⟩; gi_at_call 62; go_loud (refine (CallsIn.inRound l (callsIn_wide.2 (sw_true HVV.out (by have := HG.out.small; have := HM5.out.1; omega) HNU.out))).mono ?_; rintro e w9 ⟨rfl, hd⟩; have HW9 := Aside0.mk hd; have bx := RS.out.boxes OK.out HRI.out hd; have cm9 := bx.2.cell; have ck9 := cell_below BK.out hd; have cl9 := cell_below BL.out hd; clear hd bx))
              | (refine ⟨trivial, ?_⟩; gi_at_call 55; go_loud (refine (CallsIn.inRound l (callsIn_wide.2 (below_true (HSL.out.kept (fun j hj => HW9.out.block j (HSL.out.own hj).2)) (HVV.out.kept (fun j hj => HW9.out.block j (HVV.out.own hj).2)) (by have := HP.out.2; have := HG.out.small; have := HM5.out.1; omega) HP.out.2 HP.out.1))).mono ?_; rintro e w10 ⟨rfl, hd⟩; have hbw := (HW9.out.trans ((drawn_bel hd w9.heap.size).mono HW9.out.size)); obtain ⟨f1, ⟨lv, c1⟩, c2, f2, kt, ri'⟩ := ri_step (x := (k : Int) + 1) (by omega) (by simp) (RS.out.lt OK.out).1 (RS.out.lt OK.out).2 (RS.out.rd3 OK.out).2.1 (RS.out.rd3 OK.out).2.2 HRI.out HTT.out HVV.out (lsOf_next HLK.out) hbw; have KT := Aside0.mk kt; have RI' := Aside0.mk ri'; clear kt ri'; have bx := RS.out.boxes OK.out HRI.out hbw; have cd10 := bx.1.cell; have cm10 := bx.2.cell; clear hd hbw bx)))
            exact ⟨KT.out, RI'.out⟩
          · have hk0b : decide (0 < k) = false := decide_eq_false hk0
            clear hk0
            gi_wp2_with (first
              | (refine ⟨trivial, ?_⟩; gi_at_call 62; go_loud (refine (CallsIn.inRound l (callsIn_wide.2 (sw_true HVV.out (by have := HG.out.small; have := HM5.out.1; omega) HNU.out))).mono ?_; rintro e w9 ⟨rfl, hd⟩; have HW9 := Aside0.mk hd; have bx := RS.out.boxes OK.out HRI.out hd; have cm9 := bx.2.cell; have ck9 := cell_below BK.out hd; have cl9 := cell_below BL.out hd; obtain ⟨f1, ⟨lv, c1⟩, c2, f2, kt, ri'⟩ := ri_step (x := (k : Int) + 1) (by omega) (by simp) (RS.out.lt OK.out).1 (RS.out.lt OK.out).2 (RS.out.rd3 OK.out).2.1 (RS.out.rd3 OK.out).2.2 HRI.out HTT.out HVV.out (lsOf_next HLK.out) hd; have KT := Aside0.mk kt; have RI' := Aside0.mk ri'; clear kt ri'; clear c1; clear hd bx))
              | (refine ⟨trivial, ?_⟩; go_at_K))
            exact ⟨KT.out, RI'.out⟩
        case done3 =>
          rintro D3 T W5 hD hri hK hTD
          have rs2 := RS.out.after OK.out hri hK hTD
          clear RS hri hK hTD hD HG
          rw [show ((fewsOf L most).length : Int) = 0 by rw [fews_no (.inl HF.out)]; rfl] at rs2
          have cm := rs2.r.bm.cell
          have ck := rs2.r.bk.cell
          have fk := rs2.r.bk.frozen
          have RS := Aside0.mk (rs2.zero OK.out)
          clear rs2
          gi_wp2_with (refine ⟨trivial, ?_⟩; gi_at_call 66; go_loud (refine (callsIn_wide.2 (whole_calls _ _ _)).mono ?_; rintro e w9 ⟨rfl, h9⟩; have h9 := h9.symm; subst h9))
          generalize lsOf prev3 _ _ = prev4 at RS
          generalize W5.setCell ⟨b0 + 3, 0, none⟩ (.int .i64 0) = wa4 at RS ⊢
          clear ck fk cm m0b m1b
          obtain ⟨dd, hG, hGd⟩ := all_good h d
          have HG := Aside0.mk hG
          clear hG
          have HGD := Aside0.mk hGd
          clear hGd
          refine wpIn_rangeFunc_V2 150 23 rfl (by omega) (gf := 71) rfl trivial (enters_of Try.func71 (by kernel_rfl) rfl) (seq_allv h d 2 (by omega) wa4 _ _ _ RS.out.aa RS.out.ad RS.out.ah) (RS.out.rd4 OK.out).1 (Below.refl _ _) (fun b hb => rfl) (Ri wa4 (b0 + 3) (b0 + 3 + 1) (lsOf prev4 (allOf h d))) (fun _ _ _ _ => False) (ri_abides (RS.out.lt OK.out).1 (RS.out.lt OK.out).2) (fun c s T A B T' h _ _ => h) (RS.out.ri _) ?assign4 ?body4 ?done4 ?stop4
          case stop4 => exact fun D c k T W5 _ _ h _ _ => h.elim
          case assign4 =>
            intro l v W5 K hK
            simp only [axOf, List.setIfInBounds_toArray, List.set_cons_succ, List.set_cons_zero] at hK ⊢
            gi_wp2
            exact hK
          case body4 =>
            rintro l k M T T1 u W5 hL hri hTT hlt1 hv
            have HM5 := Aside0.mk (HG.out.at hL)
            obtain ⟨bk5, Al, cl, Tl, bl5, hsl⟩ := ri_boxed hri
            have ck5 := bk5.cell
            have cl5 := bl5.cell
            have BK := Aside0.mk bk5
            have BL := Aside0.mk bl5
            obtain ⟨Av, cv, rfl⟩ := hv.slice
            simp only [axOf, List.setIfInBounds_toArray, List.set_cons_succ, List.set_cons_zero]
            have wk : wrap64 ((k : Int) + 1) = (k : Int) + 1 := X.hwrId (by omega) (by have := HM5.out.2; omega)
            have HRI := Aside0.mk hri
            have HTT := Aside0.mk hTT
            have HVV := Aside0.mk hv
            have HLK := Aside0.mk hL
            have HSL := Aside0.mk hsl
            have bx := RS.out.boxes OK.out HRI.out (Below.refl _ _)
            have cd5 := bx.1.cell
            have cm5 := bx.2.cell
            have hl4 : ((M.length : Int) != d) = false := by have h1 := HGD.out (by have := (List.getElem?_eq_some_iff.1 HLK.out).1; omega); have h2 := HM5.out.1; simp; omega
            clear hri hTT hv hL hsl hlt1 bx bk5 bl5
            by_cases hk0 : 0 < k
            · have hk0b : decide (0 < k) = true := decide_eq_true hk0
              have HP := Aside0.mk (HG.out.prev (prev := prev4) hk0 HLK.out)
              clear hk0
              gi_wp2_with (refine ⟨trivial, ?_⟩; gi_at_call 55; go_loud (refine (CallsIn.inRound l (callsIn_wide.2 (below_true HSL.out HVV.out (by have := HP.out.2; have := HG.out.small; have := HM5.out.1; omega) HP.out.2 HP.out.1))).mono ?_; rintro e w10 ⟨rfl, hd⟩; have hbw := (drawn_bel hd W5.heap.size); obtain ⟨f1, ⟨lv, c1⟩, c2, f2, kt, ri'⟩ := ri_step (x := (k : Int) + 1) (by omega) (by simp) (RS.out.lt OK.out).1 (RS.out.lt OK.out).2 (RS.out.rd4 OK.out).2.1 (RS.out.rd4 OK.out).2.2 HRI.out HTT.out HVV.out (lsOf_next HLK.out) hbw; have KT := Aside0.mk kt; have RI' := Aside0.mk ri'; clear kt ri'; have bx := RS.out.boxes OK.out HRI.out hbw; have cd10 := bx.1.cell; have cm10 := bx.2.cell; clear hd hbw bx))
              exact ⟨KT.out, RI'.out⟩
            · have hk0b : decide (0 < k) = false := decide_eq_false hk0
              clear hk0
              obtain ⟨f1, ⟨lv, c1⟩, c2, f2, kt, ri'⟩ := ri_step (x := (k : Int) + 1) (by omega) (by simp) (RS.out.lt OK.out).1 (RS.out.lt OK.out).2 (RS.out.rd4 OK.out).2.1 (RS.out.rd4 OK.out).2.2 HRI.out HTT.out HVV.out (lsOf_next HLK.out) (Below.refl W5.heap.size W5); have KT := Aside0.mk kt; have RI' := Aside0.mk ri'; clear kt ri'
              clear c1
              gi_wp2_with (refine ⟨trivial, ?_⟩; go_at_K)
              exact ⟨KT.out, RI'.out⟩
          case done4 =>
            rintro D4 T W5 hD hri hK hTD
            have rs2 := RS.out.after OK.out hri hK hTD
            clear RS hri hK hTD hD HG
            rw [allOf_len] at rs2
            have cd := rs2.r.bd.cell
            have ck := rs2.r.bk.cell
            have fr := rs2.r.br.frozen
            have cr := rs2.r.br.cell
            have RF := Aside0.mk rs2
            clear rs2
            gi_wp2
            gi_loop [24, 25] (fun a i => ∃ x y : Nat, a = .int .i64 (x : Int) ∧ i = .int .i64 (y : Int) ∧ Aside0 (Wnt h d y x)) (fun _ i => 25 - (intOf i).toNat)
            case atStart => exact ⟨1, 0, rfl, rfl, ⟨wnt_start h d⟩⟩
            case round =>
              obtain ⟨x, y, rfl, rfl, HW⟩ := hrel
              have wy := Aside0.mk (show wrap64 ((y : Int) + 1) = ((y + 1 : Nat) : Int) by rw [X.hwrId (by omega) (by have := HW.out.y25; omega)]; omega)
              by_cases c1 : (y : Int) < d
              · have c1b : decide ((y : Int) < d) = true := decide_eq_true c1
                by_cases c2 : y ≤ 24
                · have c2b : decide ((y : Int) ≤ 24) = true := decide_eq_true (by omega)
                  by_cases c3 : x ≤ 1048576
                  · have c3b : decide ((x : Int) ≤ 1048576) = true := decide_eq_true (by omega)
                    have HWN := Aside0.mk (HW.out.next c1 c2 c3)
                    have HC2 := Aside0.mk c2
                    clear c1 c2 c3
                    gi_wp2
                    exact ⟨⟨x * Hn h, y + 1, by rw [HWN.out.mul], by rw [wy.out], HWN⟩, by rw [wy.out]; simp only [intOf]; have := HC2.out; omega⟩
                  · have c3b : decide ((x : Int) ≤ 1048576) = false := decide_eq_false (by omega)
                    have HD := Aside0.mk (HW.out.done (.inr (.inr c3)))
                    have hd0 : 0 < d := by have := HW.out.pos c3; omega
                    by_cases g1 : h < 1
                    · have g1b : decide (h < 1) = true := decide_eq_true (by omega)
                      have hz : cntAll h d = 0 := by rw [← HD.out, if_pos (by omega)]
                      rw [hz] at ck
                      clear hz
                      try clear g1
                      try clear g2
                      try clear g3
                      try clear g4
                      try clear g5
                      gi_wp2
                      obtain ⟨e4, e3, e2, e1, hb, hbl⟩ := fin16 RF.out
                      refine ⟨by simp, .inl ⟨_, _, rfl, run_takeDeferred e4, ⟨by simp, .inl ⟨_, _, rfl, run_takeDeferred e3, ⟨by simp, .inl ⟨_, _, rfl, run_takeDeferred e2, ⟨by simp, .inl ⟨_, _, rfl, run_takeDeferred e1, ?_⟩⟩⟩⟩⟩⟩⟩⟩
                      refine ⟨_, results_cellv rfl _ _ (b0 + 1 + 1) (.bool true) rfl hb, rfl, ?_⟩
                      first | exact hbl | (rw [hb0]; exact hbl)
                    · have g1b : decide (h < 1) = false := decide_eq_false (by omega)
                      by_cases g2 : 16 < h
                      · have g2b : decide (16 < h) = true := decide_eq_true (by omega)
                        have hz : cntAll h d = 0 := by rw [← HD.out, if_pos (by omega)]
                        rw [hz] at ck
                        clear hz
                        try clear g1
                        try clear g2
                        try clear g3
                        try clear g4
                        try clear g5
                        gi_wp2
                        obtain ⟨e4, e3, e2, e1, hb, hbl⟩ := fin16 RF.out
                        refine ⟨by simp, .inl ⟨_, _, rfl, run_takeDeferred e4, ⟨by simp, .inl ⟨_, _, rfl, run_takeDeferred e3, ⟨by simp, .inl ⟨_, _, rfl, run_takeDeferred e2, ⟨by simp, .inl ⟨_, _, rfl, run_takeDeferred e1, ?_⟩⟩⟩⟩⟩⟩⟩⟩
                        refine ⟨_, results_cellv rfl _ _ (b0 + 1 + 1) (.bool true) rfl hb, rfl, ?_⟩
                        first | exact hbl | (rw [hb0]; exact hbl)
                      · have g2b : decide (16 < h) = false := decide_eq_false (by omega)
                        have g3 : ¬ d < 0 := by omega
                        have g3b : decide (d < 0) = false := decide_eq_false (by omega)
                        by_cases g4 : 24 < d
                        · have g4b : decide (24 < d) = true := decide_eq_true (by omega)
                          have hz : cntAll h d = 0 := by rw [← HD.out, if_pos (by omega)]
                          rw [hz] at ck
                          clear hz
                          try clear g1
                          try clear g2
                          try clear g3
                          try clear g4
                          try clear g5
                          gi_wp2
                          obtain ⟨e4, e3, e2, e1, hb, hbl⟩ := fin16 RF.out
                          refine ⟨by simp, .inl ⟨_, _, rfl, run_takeDeferred e4, ⟨by simp, .inl ⟨_, _, rfl, run_takeDeferred e3, ⟨by simp, .inl ⟨_, _, rfl, run_takeDeferred e2, ⟨by simp, .inl ⟨_, _, rfl, run_takeDeferred e1, ?_⟩⟩⟩⟩⟩⟩⟩⟩
                          refine ⟨_, results_cellv rfl _ _ (b0 + 1 + 1) (.bool true) rfl hb, rfl, ?_⟩
                          first | exact hbl | (rw [hb0]; exact hbl)
                        · have g4b : decide (24 < d) = false := decide_eq_false (by omega)
                          have g5 : 1048576 < x := by omega
                          have g5b : decide (1048576 < (x : Int)) = true := decide_eq_true (by omega)
                          have hz : cntAll h d = 0 := by rw [← HD.out, if_pos (by omega)]
                          rw [hz] at ck
                          clear hz
                          try clear g1
                          try clear g2
                          try clear g3
                          try clear g4
                          try clear g5
                          gi_wp2
                          obtain ⟨e4, e3, e2, e1, hb, hbl⟩ := fin16 RF.out
                          refine ⟨by simp, .inl ⟨_, _, rfl, run_takeDeferred e4, ⟨by simp, .inl ⟨_, _, rfl, run_takeDeferred e3, ⟨by simp, .inl ⟨_, _, rfl, run_takeDeferred e2, ⟨by simp, .inl ⟨_, _, rfl, run_takeDeferred e1, ?_⟩⟩⟩⟩⟩⟩⟩⟩
                          refine ⟨_, results_cellv rfl _ _ (b0 + 1 + 1) (.bool true) rfl hb, rfl, ?_⟩
                          first | exact hbl | (rw [hb0]; exact hbl)
                · have c2b : decide ((y : Int) ≤ 24) = false := decide_eq_false (by omega)
                  have HD := Aside0.mk (HW.out.done (.inr (.inl c2)))
                  by_cases g1 : h < 1
                  · have g1b : decide (h < 1) = true := decide_eq_true (by omega)
                    have hz : cntAll h d = 0 := by rw [← HD.out, if_pos (by omega)]
                    rw [hz] at ck
                    clear hz
                    try clear g1
                    try clear g2
                    try clear g3
                    try clear g4
                    try clear g5
                    gi_wp2
                    obtain ⟨e4, e3, e2, e1, hb, hbl⟩ := fin16 RF.out
                    refine ⟨by simp, .inl ⟨_, _, rfl, run_takeDeferred e4, ⟨by simp, .inl ⟨_, _, rfl, run_takeDeferred e3, ⟨by simp, .inl ⟨_, _, rfl, run_takeDeferred e2, ⟨by simp, .inl ⟨_, _, rfl, run_takeDeferred e1, ?_⟩⟩⟩⟩⟩⟩⟩⟩
                    refine ⟨_, results_cellv rfl _ _ (b0 + 1 + 1) (.bool true) rfl hb, rfl, ?_⟩
                    first | exact hbl | (rw [hb0]; exact hbl)
                  · have g1b : decide (h < 1) = false := decide_eq_false (by omega)
                    by_cases g2 : 16 < h
                    · have g2b : decide (16 < h) = true := decide_eq_true (by omega)
                      have hz : cntAll h d = 0 := by rw [← HD.out, if_pos (by omega)]
                      rw [hz] at ck
                      clear hz
                      try clear g1
                      try clear g2
                      try clear g3
                      try clear g4
                      try clear g5
                      gi_wp2
                      obtain ⟨e4, e3, e2, e1, hb, hbl⟩ := fin16 RF.out
                      refine ⟨by simp, .inl ⟨_, _, rfl, run_takeDeferred e4, ⟨by simp, .inl ⟨_, _, rfl, run_takeDeferred e3, ⟨by simp, .inl ⟨_, _, rfl, run_takeDeferred e2, ⟨by simp, .inl ⟨_, _, rfl, run_takeDeferred e1, ?_⟩⟩⟩⟩⟩⟩⟩⟩
                      refine ⟨_, results_cellv rfl _ _ (b0 + 1 + 1) (.bool true) rfl hb, rfl, ?_⟩
                      first | exact hbl | (rw [hb0]; exact hbl)
                    · have g2b : decide (16 < h) = false := decide_eq_false (by omega)
                      have g3 : ¬ d < 0 := by omega
                      have g3b : decide (d < 0) = false := decide_eq_false (by omega)
                      have g4 : 24 < d := by omega
                      have g4b : decide (24 < d) = true := decide_eq_true (by omega)
                      have hz : cntAll h d = 0 := by rw [← HD.out, if_pos (by omega)]
                      rw [hz] at ck
                      clear hz
                      try clear g1
                      try clear g2
                      try clear g3
                      try clear g4
                      try clear g5
                      gi_wp2
                      obtain ⟨e4, e3, e2, e1, hb, hbl⟩ := fin16 RF.out
                      refine ⟨by simp, .inl ⟨_, _, rfl, run_takeDeferred e4, ⟨by simp, .inl ⟨_, _, rfl, run_takeDeferred e3, ⟨by simp, .inl ⟨_, _, rfl, run_takeDeferred e2, ⟨by simp, .inl ⟨_, _, rfl, run_takeDeferred e1, ?_⟩⟩⟩⟩⟩⟩⟩⟩
                      refine ⟨_, results_cellv rfl _ _ (b0 + 1 + 1) (.bool true) rfl hb, rfl, ?_⟩
                      first | exact hbl | (rw [hb0]; exact hbl)
              · have c1b : decide ((y : Int) < d) = false := decide_eq_false c1
                have HD := Aside0.mk (HW.out.done (.inl c1))
                by_cases g1 : h < 1
                · have g1b : decide (h < 1) = true := decide_eq_true (by omega)
                  have hz : cntAll h d = 0 := by rw [← HD.out, if_pos (by omega)]
                  rw [hz] at ck
                  clear hz
                  try clear g1
                  try clear g2
                  try clear g3
                  try clear g4
                  try clear g5
                  gi_wp2
                  obtain ⟨e4, e3, e2, e1, hb, hbl⟩ := fin16 RF.out
                  refine ⟨by simp, .inl ⟨_, _, rfl, run_takeDeferred e4, ⟨by simp, .inl ⟨_, _, rfl, run_takeDeferred e3, ⟨by simp, .inl ⟨_, _, rfl, run_takeDeferred e2, ⟨by simp, .inl ⟨_, _, rfl, run_takeDeferred e1, ?_⟩⟩⟩⟩⟩⟩⟩⟩
                  refine ⟨_, results_cellv rfl _ _ (b0 + 1 + 1) (.bool true) rfl hb, rfl, ?_⟩
                  first | exact hbl | (rw [hb0]; exact hbl)
                · have g1b : decide (h < 1) = false := decide_eq_false (by omega)
                  by_cases g2 : 16 < h
                  · have g2b : decide (16 < h) = true := decide_eq_true (by omega)
                    have hz : cntAll h d = 0 := by rw [← HD.out, if_pos (by omega)]
                    rw [hz] at ck
                    clear hz
                    try clear g1
                    try clear g2
                    try clear g3
                    try clear g4
                    try clear g5
                    gi_wp2
                    obtain ⟨e4, e3, e2, e1, hb, hbl⟩ := fin16 RF.out
                    refine ⟨by simp, .inl ⟨_, _, rfl, run_takeDeferred e4, ⟨by simp, .inl ⟨_, _, rfl, run_takeDeferred e3, ⟨by simp, .inl ⟨_, _, rfl, run_takeDeferred e2, ⟨by simp, .inl ⟨_, _, rfl, run_takeDeferred e1, ?_⟩⟩⟩⟩⟩⟩⟩⟩
                    refine ⟨_, results_cellv rfl _ _ (b0 + 1 + 1) (.bool true) rfl hb, rfl, ?_⟩
                    first | exact hbl | (rw [hb0]; exact hbl)
                  · have g2b : decide (16 < h) = false := decide_eq_false (by omega)
                    by_cases g3 : d < 0
                    · have g3b : decide (d < 0) = true := decide_eq_true (by omega)
                      have hz : cntAll h d = 0 := by rw [← HD.out, if_pos (by omega)]
                      rw [hz] at ck
                      clear hz
                      try clear g1
                      try clear g2
                      try clear g3
                      try clear g4
                      try clear g5
                      gi_wp2
                      obtain ⟨e4, e3, e2, e1, hb, hbl⟩ := fin16 RF.out
                      refine ⟨by simp, .inl ⟨_, _, rfl, run_takeDeferred e4, ⟨by simp, .inl ⟨_, _, rfl, run_takeDeferred e3, ⟨by simp, .inl ⟨_, _, rfl, run_takeDeferred e2, ⟨by simp, .inl ⟨_, _, rfl, run_takeDeferred e1, ?_⟩⟩⟩⟩⟩⟩⟩⟩
                      refine ⟨_, results_cellv rfl _ _ (b0 + 1 + 1) (.bool true) rfl hb, rfl, ?_⟩
                      first | exact hbl | (rw [hb0]; exact hbl)
                    · have g3b : decide (d < 0) = false := decide_eq_false (by omega)
                      by_cases g4 : 24 < d
                      · have g4b : decide (24 < d) = true := decide_eq_true (by omega)
                        have hz : cntAll h d = 0 := by rw [← HD.out, if_pos (by omega)]
                        rw [hz] at ck
                        clear hz
                        try clear g1
                        try clear g2
                        try clear g3
                        try clear g4
                        try clear g5
                        gi_wp2
                        obtain ⟨e4, e3, e2, e1, hb, hbl⟩ := fin16 RF.out
                        refine ⟨by simp, .inl ⟨_, _, rfl, run_takeDeferred e4, ⟨by simp, .inl ⟨_, _, rfl, run_takeDeferred e3, ⟨by simp, .inl ⟨_, _, rfl, run_takeDeferred e2, ⟨by simp, .inl ⟨_, _, rfl, run_takeDeferred e1, ?_⟩⟩⟩⟩⟩⟩⟩⟩
                        refine ⟨_, results_cellv rfl _ _ (b0 + 1 + 1) (.bool true) rfl hb, rfl, ?_⟩
                        first | exact hbl | (rw [hb0]; exact hbl)
                      · have g4b : decide (24 < d) = false := decide_eq_false (by omega)
                        by_cases g5 : 1048576 < x
                        · have g5b : decide (1048576 < (x : Int)) = true := decide_eq_true (by omega)
                          have hz : cntAll h d = 0 := by rw [← HD.out, if_pos (by omega)]
                          rw [hz] at ck
                          clear hz
                          try clear g1
                          try clear g2
                          try clear g3
                          try clear g4
                          try clear g5
                          gi_wp2
                          obtain ⟨e4, e3, e2, e1, hb, hbl⟩ := fin16 RF.out
                          refine ⟨by simp, .inl ⟨_, _, rfl, run_takeDeferred e4, ⟨by simp, .inl ⟨_, _, rfl, run_takeDeferred e3, ⟨by simp, .inl ⟨_, _, rfl, run_takeDeferred e2, ⟨by simp, .inl ⟨_, _, rfl, run_takeDeferred e1, ?_⟩⟩⟩⟩⟩⟩⟩⟩
                          refine ⟨_, results_cellv rfl _ _ (b0 + 1 + 1) (.bool true) rfl hb, rfl, ?_⟩
                          first | exact hbl | (rw [hb0]; exact hbl)
                        · have g5b : decide (1048576 < (x : Int)) = false := decide_eq_false (by omega)
                          have hz : cntAll h d = x := by rw [← HD.out, if_neg (by omega)]
                          rw [hz] at ck
                          clear hz
                          try clear g1
                          try clear g2
                          try clear g3
                          try clear g4
                          try clear g5
                          gi_wp2
                          obtain ⟨e4, e3, e2, e1, hb, hbl⟩ := fin16 RF.out
                          refine ⟨by simp, .inl ⟨_, _, rfl, run_takeDeferred e4, ⟨by simp, .inl ⟨_, _, rfl, run_takeDeferred e3, ⟨by simp, .inl ⟨_, _, rfl, run_takeDeferred e2, ⟨by simp, .inl ⟨_, _, rfl, run_takeDeferred e1, ?_⟩⟩⟩⟩⟩⟩⟩⟩
                          refine ⟨_, results_cellv rfl _ _ (b0 + 1 + 1) (.bool true) rfl hb, rfl, ?_⟩
                          first | exact hbl | (rw [hb0]; exact hbl))
end Go.Proofs.Ytfcjfjmjcmanaaa.V
