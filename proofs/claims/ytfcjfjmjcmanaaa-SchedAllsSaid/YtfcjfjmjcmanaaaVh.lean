/- SchedAlls: the law's walk where All goes over nothing; the law. -/
import Derived.Test.YtfcjfjmjcmanaaaVg
set_option linter.unusedVariables false
namespace Go.Proofs.Ytfcjfjmjcmanaaa.V
open Go Go.RowKit Go.Proofs.Ytfcjfjmjcmanaaa.O Go.Proofs.Ytfcjfjmjcmanaaa.B Go.Proofs.YtfcjfjmjcmanaaaW.PrintWords Go.Proofs.YtfcjfjmjcmanaaaW.PrintLast Go.Proofs.YtfcjfjmjcmanaaaW.PrintMore
attribute [local go_sem] Oper.semAt_some
theorem cnt_no {h d : Int} (hn : ¬ okAll h d) : cntAll h d = 0 := by unfold cntAll; rw [if_neg hn]
set_option maxRecDepth 100000
set_option maxHeartbeats 4000000
theorem schedAlls_no (h d most : Int) (hno : ¬ okAll h d) (W : World) : CallsIn Fence.wide 3 Try.prog 4 #[.int .i64 h, .int .i64 d, .int .i64 most] W fun e W' => e = .returned (.bool true) ∧ Below W.heap.size W W' := by
  have HNO := Aside0.mk hno
  have HM0 : Aside0 (msOf h d 0 = false) := ⟨by unfold msOf; rw [cnt_no hno]; simp⟩
  have HW0 : Aside0 (wsOf h d 0 = List.replicate 0 0) := ⟨by unfold wsOf; rw [cnt_no hno]; simp⟩
  refine callsIn_of_wp_marks Try.func4 rfl trivial ?_ rfl
  simp only [Try.ntmps4, List.size_toArray, List.length_cons, List.length_nil, Nat.reduceAdd, Nat.reduceSub, Array.replicate_succ, Array.replicate_zero, List.push_toArray, List.append_toArray, List.nil_append, List.cons_append]
  have heq := eq_nil31 71
  have hcb : decide (okAll h d) = false := decide_eq_false hno
  obtain ⟨b0, hb0⟩ : ∃ b0, W.heap.size = b0 := ⟨_, rfl⟩
  have hB : Below b0 W (((W.alloc (.cells #[.int .i64 h] 3)).alloc (.cells #[.int .i64 most] 3)).alloc (.cells #[.bool false] 4)) ∧ Boxed (((W.alloc (.cells #[.int .i64 h] 3)).alloc (.cells #[.int .i64 most] 3)).alloc (.cells #[.bool false] 4)) b0 3 (.int .i64 h) ∧ Boxed (((W.alloc (.cells #[.int .i64 h] 3)).alloc (.cells #[.int .i64 most] 3)).alloc (.cells #[.bool false] 4)) (b0 + 1) 3 (.int .i64 most) ∧ Boxed (((W.alloc (.cells #[.int .i64 h] 3)).alloc (.cells #[.int .i64 most] 3)).alloc (.cells #[.bool false] 4)) (b0 + 2) 4 (.bool false) ∧ (((W.alloc (.cells #[.int .i64 h] 3)).alloc (.cells #[.int .i64 most] 3)).alloc (.cells #[.bool false] 4)).heap.size = b0 + 3 := by
    have b1 := ((Boxed.new W 3 (.int .i64 h)).alloc (.cells #[.int .i64 most] 3)).alloc (.cells #[.bool false] 4)
    have b2 := (Boxed.new (W.alloc (.cells #[.int .i64 h] 3)) 3 (.int .i64 most)).alloc (.cells #[.bool false] 4)
    have b3 := Boxed.new ((W.alloc (.cells #[.int .i64 h] 3)).alloc (.cells #[.int .i64 most] 3)) 4 (.bool false)
    simp only [World.size_alloc] at b2 b3
    rw [← hb0]
    exact ⟨((((Below.refl _ W).alloc (Nat.le_refl _) _).alloc (by simp) _).alloc (by simp; omega) _), b1, b2, b3, by simp⟩
  generalize hW0 : (((W.alloc (.cells #[.int .i64 h] 3)).alloc (.cells #[.int .i64 most] 3)).alloc (.cells #[.bool false] 4)) = W0 at hB
  have HB0 := Aside0.mk hB
  have c0 := hB.2.1.cell
  clear hB
  gi_wp2_with (first
    | (refine ⟨trivial, ?_⟩; gi_at_call 25; refine (callsIn_wide.2 (all_calls h d _)).mono ?_; rintro e w1 ⟨rfl, ka, kd, kh, kb⟩; rw [HB0.out.2.2.2.2] at ka kd kh kb ⊢; have c3 := Boxed.cell ((kb.block b0 (by omega)).trans HB0.out.2.1); have K1 := Aside0.mk (And.intro ka (And.intro kd (And.intro kh kb))); clear ka kd kh kb)
    | (refine ⟨trivial, ?_⟩; gi_at_call 26; refine (callsIn_wide.2 (canAll_calls h d _)).mono ?_; rintro e w2 ⟨rfl, hdr⟩; have hdb := drawn_below hdr w1.heap.size; have hl5 := K1.out.1.lt; have K2 := Aside0.mk (And.intro (K1.out.2.2.2.trans (hdb.mono (by omega))) (And.intro (bxb K1.out.1 hdb hl5) (And.intro (bxb K1.out.2.1 hdb (by omega)) (bxb K1.out.2.2.1 hdb (by omega))))); rw [hcb]; clear hdr hdb hl5 c3 K1))
  have TN : Aside0 (Tn h d most b0 w2.heap.size 0 W (w2.alloc (.cells #[.int .i64 0] 3))) := by
    have q := K2.out
    have l5 := q.2.1.lt
    have hb : Below w2.heap.size w2 (w2.alloc (.cells #[.int .i64 0] 3)) := (Below.refl _ w2).alloc (Nat.le_refl _) _
    have g := HB0.out
    exact ⟨⟨bxb (bxb g.2.1 q.1 (by omega)) hb (by omega), bxb (bxb g.2.2.1 q.1 (by omega)) hb (by omega), bxb (bxb g.2.2.2.1 q.1 (by omega)) hb (by omega), bxb q.2.1 hb (by omega), bxb q.2.2.1 hb (by omega), bxb q.2.2.2 hb (by omega), Boxed.new w2 3 (.int .i64 0)⟩, (g.1.trans (q.1.mono (by omega))).trans (hb.mono (by omega)), by simp; omega⟩
  clear K2 HB0 c0 hcb hW0
  obtain ⟨bt, hbt⟩ : ∃ bt, w2.heap.size = bt := ⟨_, rfl⟩
  rw [hbt] at TN ⊢
  generalize w2.alloc (.cells #[.int .i64 0] 3) = w at TN ⊢
  clear hbt w2 w1
  refine wpIn_loop_rounds 3 ?_
  rw [roundsIn_succ]
  have ct := TN.out.bx.t.cell
  obtain ⟨B, hBs⟩ : ∃ B, w.heap.size = B := ⟨_, rfl⟩
  have HBS := Aside0.mk hBs
  have WN := Aside0.mk (Wn.start hBs false)
  gi_wp2
  gi_loopw [14] (fun p wr => ∃ (wv : Value), p = .int .i64 0 ∧ Aside0 (Wn B w false 0 wv wr)) (fun p _ => 0)
  case atStart => exact ⟨_, rfl, WN⟩
  case round =>
    clear WN ct
    obtain ⟨wv, rfl, WN⟩ := hrel
    · have tt : True := trivial
      have HBX := Aside0.mk (TN.out.bx.below WN.out.below (by have := TN.out.l0; have := HBS.out; omega) (by have := TN.out.bx.t.lt; have := HBS.out; omega))
      have HV0 := Aside0.mk (WN.out.hv csOf (msOf h d) (wsOf h d) rfl HM0.out HW0.out)
      have HBB : Aside0 (b0 + 5 < B ∧ bt < B) := ⟨by have := TN.out.l0; have := HBS.out; omega, by have := TN.out.bx.t.lt; have := HBS.out; omega⟩
      gi_wp2
      refine wpIn_rangeFunc_V2 41 15 rfl (by omega) (gf := 71) rfl trivial (enters_of Try.func71 (by kernel_rfl) rfl) (seq_all h d 2 (by omega) wr _ _ _ HBX.out.a HBX.out.d HBX.out.h) (fun b hb => by rcases hb with z | z | z | z; exact z.elim; rw [z]; exact HBX.out.a.lt; rw [z]; exact HBX.out.d.lt; rw [z]; exact HBX.out.h.lt) (Below.refl _ _) (fun b hb => rfl) (Hv B B (B + 1) (B + 1 + 1) (B + 1 + 1 + 1) w csOf (msOf h d) (wsOf h d))
        (fun c k T W' => Hv B B (B + 1) (B + 1 + 1) (B + 1 + 1 + 1) w csOf (fun _ => false) (wsOf h d) k T W' ∧ c = .exit 4) (hv_abides _ _ _ _ _ _ _ _ _) (fun c => and_abides (hv_abides _ _ _ _ _ _ _ _ _) _) HV0.out ?assign0 ?body0 ?done0 ?stop0
      case assign0 =>
        intro l v W5 K hK
        simp only [axOf, List.setIfInBounds_toArray, List.set_cons_succ, List.set_cons_zero] at hK ⊢
        gi_wp2
        exact hK
      case body0 =>
        rintro l k L T T1 v W5 hL ⟨q1, q2, q3, q4⟩ hTT hlt1 hv
        have hkN : k < cntAll h d := by have := (List.getElem?_eq_some_iff.1 hL).1; rwa [allOf_len] at this
        rw [cnt_no HNO.out] at hkN
        omega
      case done0 =>
        rintro D5 T W5 hD5 hv5 hK hTD
        rw [allOf_len] at hv5
        obtain ⟨q1, q2, q3, q4⟩ := hv5
        have hmN : msOf h d (cntAll h d) = false := decide_eq_false (by omega)
        rw [hmN] at q4
        obtain ⟨wv5, Tw5, cm5, cn5, cw5, sw5⟩ := q4.boxes
        have z1 := cm5.cell
        have HBX5 := Aside0.mk (TN.out.bx.below q2 HBB.out.1 HBB.out.2)
        have HQ2 := Aside0.mk q2
        have HQ3 := Aside0.mk q3
        have HQ1 := Aside0.mk q1
        have HTD := Aside0.mk hTD
        have HK := Aside0.mk hK
        have AP := Aside0.mk q4.apart
        clear q1 q2 q3 q4 cm5 cn5 cw5 sw5 hK hTD
        gi_wp2_with (refine ⟨trivial, ?_⟩; gi_at_call 29; go_loud (refine (callsIn_wide.2 AP.out).mono ?_; rintro e w6 ⟨rfl, t6⟩; have T6 := Aside0.mk t6; have HBX6 := Aside0.mk (HBX5.out.below (Turn.mine t6 HQ3.out) HBB.out.1 HBB.out.2); have x1 := HBX6.out.t.cell; clear t6 z1))
        have TN2 : Aside0 (Tn h d most b0 w6.heap.size 1 W (w6.alloc (.cells #[.int .i64 1] 3))) := by
          have hb : Below w6.heap.size w6 (w6.alloc (.cells #[.int .i64 1] 3)) := (Below.refl _ w6).alloc (Nat.le_refl _) _
          have h5 : W5.heap.size ≤ w6.heap.size := T6.out.size
          have h6 := HQ3.out
          have h7 := HBB.out
          have q := HBX6.out
          exact ⟨⟨bxb q.h0 hb (by omega), bxb q.m0 hb (by omega), bxb q.r0 hb (by omega), bxb q.a hb (by omega), bxb q.d hb (by omega), bxb q.h hb (by omega), Boxed.new w6 3 (.int .i64 1)⟩, (TN.out.below.trans ((HQ2.out.trans (Turn.mine T6.out HQ3.out)).mono (by omega))).trans (hb.mono (by omega)), by simp; omega⟩
        have DFN : Aside0 ((w6.alloc (.cells #[.int .i64 1] 3)).heap[D5]? = some (.deferred (some []))) := by
          have hl : D5 < W5.heap.size := (Array.getElem?_eq_some_iff.1 HK.out).1
          exact ⟨(Below.heap_alloc _ _ _ (by have := T6.out.size; omega)).trans ((T6.out.block D5 hl (fun z => z.2 HTD.out)).trans HK.out)⟩
        have HD1 : Aside0 (b0 ≤ D5) := ⟨by have := (HQ1.out D5 HTD.out).1; have := HBB.out; omega⟩
        clear TN HQ1 HQ2 HQ3 HTD HK AP T6 HBX6 HBX5 HBX HV0 HBB WN HBS hBs hD5 x1
        try clear hmN hk
        generalize D5 = D1 at DFN HD1 ⊢
        have DF1 := DFN
        have TN := TN2
        clear DFN TN2
        obtain ⟨bt2, hbt2⟩ : ∃ b, w6.heap.size = b := ⟨_, rfl⟩
        rw [hbt2] at TN ⊢
        generalize w6.alloc (.cells #[.int .i64 1] 3) = w9 at TN DF1 ⊢
        clear hbt2 w6 W5
        try clear wr
        try clear w
        generalize w9 = w at TN DF1 ⊢
        try clear bt
        generalize bt2 = bt at TN ⊢
        rw [roundsIn_succ]
        have ct := TN.out.bx.t.cell
        obtain ⟨B, hBs⟩ : ∃ B, w.heap.size = B := ⟨_, rfl⟩
        have HBS := Aside0.mk hBs
        have WN := Aside0.mk (Wn.start hBs false)
        gi_wp2
        gi_loopw [14] (fun p wr => ∃ (wv : Value), p = .int .i64 0 ∧ Aside0 (Wn B w false 0 wv wr)) (fun p _ => 0)
        case atStart => exact ⟨_, rfl, WN⟩
        case round =>
          clear WN ct
          obtain ⟨wv, rfl, WN⟩ := hrel
          · have tt : True := trivial
            have HBX := Aside0.mk (TN.out.bx.below WN.out.below (by have := TN.out.l0; have := HBS.out; omega) (by have := TN.out.bx.t.lt; have := HBS.out; omega))
            have HV0 := Aside0.mk (WN.out.hv csOf (msOf h d) (wsOf h d) rfl HM0.out HW0.out)
            have HBB : Aside0 (b0 + 5 < B ∧ bt < B) := ⟨by have := TN.out.l0; have := HBS.out; omega, by have := TN.out.bx.t.lt; have := HBS.out; omega⟩
            gi_wp2
            refine wpIn_rangeFunc_V2 41 15 rfl (by omega) (gf := 71) rfl trivial (enters_of Try.func71 (by kernel_rfl) rfl) (seq_all h d 2 (by omega) wr _ _ _ HBX.out.a HBX.out.d HBX.out.h) (fun b hb => by rcases hb with z | z | z | z; exact z.elim; rw [z]; exact HBX.out.a.lt; rw [z]; exact HBX.out.d.lt; rw [z]; exact HBX.out.h.lt) (Below.refl _ _) (fun b hb => rfl) (Hv B B (B + 1) (B + 1 + 1) (B + 1 + 1 + 1) w csOf (msOf h d) (wsOf h d))
              (fun c k T W' => Hv B B (B + 1) (B + 1 + 1) (B + 1 + 1 + 1) w csOf (fun _ => false) (wsOf h d) k T W' ∧ False) (hv_abides _ _ _ _ _ _ _ _ _) (fun c => and_abides (hv_abides _ _ _ _ _ _ _ _ _) _) HV0.out ?assign1 ?body1 ?done1 ?stop1
            case assign1 =>
              intro l v W5 K hK
              simp only [axOf, List.setIfInBounds_toArray, List.set_cons_succ, List.set_cons_zero] at hK ⊢
              gi_wp2
              exact hK
            case body1 =>
              rintro l k L T T1 v W5 hL ⟨q1, q2, q3, q4⟩ hTT hlt1 hv
              have hkN : k < cntAll h d := by have := (List.getElem?_eq_some_iff.1 hL).1; rwa [allOf_len] at this
              rw [cnt_no HNO.out] at hkN
              omega
            case done1 =>
              rintro D5 T W5 hD5 hv5 hK hTD
              rw [allOf_len] at hv5
              obtain ⟨q1, q2, q3, q4⟩ := hv5
              have hmN : msOf h d (cntAll h d) = false := decide_eq_false (by omega)
              rw [hmN] at q4
              obtain ⟨wv5, Tw5, cm5, cn5, cw5, sw5⟩ := q4.boxes
              have z1 := cm5.cell
              have HBX5 := Aside0.mk (TN.out.bx.below q2 HBB.out.1 HBB.out.2)
              have HQ2 := Aside0.mk q2
              have HQ3 := Aside0.mk q3
              have HQ1 := Aside0.mk q1
              have HTD := Aside0.mk hTD
              have HK := Aside0.mk hK
              have AP := Aside0.mk q4.apart
              clear q1 q2 q3 q4 cm5 cn5 cw5 sw5 hK hTD
              gi_wp2_with (refine ⟨trivial, ?_⟩; gi_at_call 29; go_loud (refine (callsIn_wide.2 AP.out).mono ?_; rintro e w6 ⟨rfl, t6⟩; have T6 := Aside0.mk t6; have HBX6 := Aside0.mk (HBX5.out.below (Turn.mine t6 HQ3.out) HBB.out.1 HBB.out.2); have x1 := HBX6.out.t.cell; clear t6 z1))
              have TN2 : Aside0 (Tn h d most b0 w6.heap.size 2 W (w6.alloc (.cells #[.int .i64 2] 3))) := by
                have hb : Below w6.heap.size w6 (w6.alloc (.cells #[.int .i64 2] 3)) := (Below.refl _ w6).alloc (Nat.le_refl _) _
                have h5 : W5.heap.size ≤ w6.heap.size := T6.out.size
                have h6 := HQ3.out
                have h7 := HBB.out
                have q := HBX6.out
                exact ⟨⟨bxb q.h0 hb (by omega), bxb q.m0 hb (by omega), bxb q.r0 hb (by omega), bxb q.a hb (by omega), bxb q.d hb (by omega), bxb q.h hb (by omega), Boxed.new w6 3 (.int .i64 2)⟩, (TN.out.below.trans ((HQ2.out.trans (Turn.mine T6.out HQ3.out)).mono (by omega))).trans (hb.mono (by omega)), by simp; omega⟩
              have DFN : Aside0 ((w6.alloc (.cells #[.int .i64 2] 3)).heap[D5]? = some (.deferred (some []))) := by
                have hl : D5 < W5.heap.size := (Array.getElem?_eq_some_iff.1 HK.out).1
                exact ⟨(Below.heap_alloc _ _ _ (by have := T6.out.size; omega)).trans ((T6.out.block D5 hl (fun z => z.2 HTD.out)).trans HK.out)⟩
              have DFO : Aside0 ((w6.alloc (.cells #[.int .i64 2] 3)).heap[D1]? = some (.deferred (some []))) ∧ D1 ≠ D5 := by
                have hl : D1 < w.heap.size := (Array.getElem?_eq_some_iff.1 DF1.out).1
                have h5 : W5.heap.size ≤ w6.heap.size := T6.out.size
                have h6 := HQ3.out
                have h8 := HBS.out
                have h9 := (HQ1.out D5 HTD.out).1
                exact ⟨⟨(Below.heap_alloc _ _ _ (by omega)).trans (((HQ2.out.trans (Turn.mine T6.out HQ3.out)).block D1 (by omega)).trans DF1.out)⟩, by omega⟩
              obtain ⟨DF1', hne⟩ := DFO
              generalize w6.alloc (.cells #[.int .i64 2] 3) = w9 at TN2 DFN DF1' ⊢
              rw [roundsIn_succ]
              have ct := TN2.out.bx.t.cell
              have r1 := TN2.out.bx.r0.cell
              have r2 := TN2.out.bx.r0.frozen
              have LR := Aside0.mk (TN2.out.bx.r0.lt)
              gi_wp2
              have d5l : D5 < w9.heap.size := (Array.getElem?_eq_some_iff.1 DFN.out).1
              have n5 : b0 + 2 ≠ D5 := fun e => by have h := TN2.out.bx.r0; rw [e] at h; have := (show w9.heap[D5]? = _ from h).symm.trans DFN.out; simp at this
              have n1 : b0 + 2 ≠ D1 := fun e => by have h := TN2.out.bx.r0; rw [e] at h; have := (show w9.heap[D1]? = _ from h).symm.trans DF1'.out; simp at this
              have e5 : (w9.setCell ⟨b0 + 2, 0, none⟩ (.bool true)).heap[D5]? = some (.deferred (some [])) := (Below.heap_setCell w9 _ _ D5 (fun e => n5 e.symm)).trans DFN.out
              have e1 : (w9.setCell ⟨b0 + 2, 0, none⟩ (.bool true)).heap[D1]? = some (.deferred (some [])) := (Below.heap_setCell w9 _ _ D1 (fun e => n1 e.symm)).trans DF1'.out
              have eb := TN2.out.bx.r0.set (.bool true)
              have hbl := TN2.out.below.trans (((Below.refl b0 w9).setCell (p := ⟨b0 + 2, 0, none⟩) (by show b0 ≤ b0 + 2; omega) (.bool true)))
              have hb0D5 : b0 ≤ D5 := by have := (HQ1.out D5 HTD.out).1; have := HBB.out; omega
              have hb0D1 : b0 ≤ D1 := HD1.out
              have FIN : Aside0 (∀ (W7 : World), W7.heap[D5]? = some (.deferred (some [])) → W7.heap[D1]? = some (.deferred (some [])) → Boxed W7 (b0 + 2) 4 (.bool true) → Below b0 W W7 → D5 < W7.heap.size → D1 < W7.heap.size →
                  Boxed ((W7.putObj D5 (.deferred none)).putObj D1 (.deferred none)) (b0 + 2) 4 (.bool true) ∧ Below b0 W ((W7.putObj D5 (.deferred none)).putObj D1 (.deferred none)) ∧ (W7.putObj D5 (.deferred none)).heap[D1]? = some (.deferred (some []))) := ⟨fun W7 k5 k1 kb kl l5 l1 =>
                ⟨(World.putObj_heap_other n1).trans ((World.putObj_heap_other n5).trans kb),
                 (kl.trans ((Turn.of_grown (T := fun b => b = D5) (grownBy_putObj' W7 D5 _) (fun j hj => by cases hj; rfl)).below (fun b hb => by rw [hb]; exact hb0D5) (by omega))).trans ((Turn.of_grown (T := fun b => b = D1) (grownBy_putObj' (W7.putObj D5 (.deferred none)) D1 _) (fun j hj => by cases hj; rfl)).below (fun b hb => by rw [hb]; exact hb0D1) (by have := (grownBy_putObj' W7 D5 (.deferred none)).size; omega)),
                 (World.putObj_heap_other hne).trans k1⟩⟩
              refine ⟨by simp, .inl ⟨_, _, rfl, run_takeDeferred e5, ⟨by simp, .inl ⟨_, _, rfl, run_takeDeferred ((World.putObj_heap_other hne).trans e1), ?_⟩⟩⟩⟩
              refine ⟨_, results_cell1 rfl _ _ (b0 + 2) (.bool true) rfl ?_, rfl, ?_⟩
              · exact (FIN.out _ e5 e1 eb hbl (by simpa using d5l) (by simpa using (Array.getElem?_eq_some_iff.1 DF1'.out).1)).1
              · rw [hb0]; exact (FIN.out _ e5 e1 eb hbl (by simpa using d5l) (by simpa using (Array.getElem?_eq_some_iff.1 DF1'.out).1)).2.1
            case stop1 =>
              rintro D5 c k T W5 hD5 hk ⟨⟨q1, q2, q3, q4⟩, hf⟩ hK hTD
              exact hf.elim
      case stop0 =>
        rintro D5 c k T W5 hD5 hk ⟨⟨q1, q2, q3, q4⟩, rfl⟩ hK hTD
        obtain ⟨wv5, Tw5, cm5, cn5, cw5, sw5⟩ := q4.boxes
        have z1 := cm5.cell
        have HBX5 := Aside0.mk (TN.out.bx.below q2 HBB.out.1 HBB.out.2)
        have HQ2 := Aside0.mk q2
        have HQ3 := Aside0.mk q3
        have HQ1 := Aside0.mk q1
        have HTD := Aside0.mk hTD
        have HK := Aside0.mk hK
        have AP := Aside0.mk q4.apart
        clear q1 q2 q3 q4 cm5 cn5 cw5 sw5 hK hTD
        gi_wp2_with (refine ⟨trivial, ?_⟩; gi_at_call 29; go_loud (refine (callsIn_wide.2 AP.out).mono ?_; rintro e w6 ⟨rfl, t6⟩; have T6 := Aside0.mk t6; have HBX6 := Aside0.mk (HBX5.out.below (Turn.mine t6 HQ3.out) HBB.out.1 HBB.out.2); have x1 := HBX6.out.t.cell; clear t6 z1))
        have TN2 : Aside0 (Tn h d most b0 w6.heap.size 1 W (w6.alloc (.cells #[.int .i64 1] 3))) := by
          have hb : Below w6.heap.size w6 (w6.alloc (.cells #[.int .i64 1] 3)) := (Below.refl _ w6).alloc (Nat.le_refl _) _
          have h5 : W5.heap.size ≤ w6.heap.size := T6.out.size
          have h6 := HQ3.out
          have h7 := HBB.out
          have q := HBX6.out
          exact ⟨⟨bxb q.h0 hb (by omega), bxb q.m0 hb (by omega), bxb q.r0 hb (by omega), bxb q.a hb (by omega), bxb q.d hb (by omega), bxb q.h hb (by omega), Boxed.new w6 3 (.int .i64 1)⟩, (TN.out.below.trans ((HQ2.out.trans (Turn.mine T6.out HQ3.out)).mono (by omega))).trans (hb.mono (by omega)), by simp; omega⟩
        have DFN : Aside0 ((w6.alloc (.cells #[.int .i64 1] 3)).heap[D5]? = some (.deferred (some []))) := by
          have hl : D5 < W5.heap.size := (Array.getElem?_eq_some_iff.1 HK.out).1
          exact ⟨(Below.heap_alloc _ _ _ (by have := T6.out.size; omega)).trans ((T6.out.block D5 hl (fun z => z.2 HTD.out)).trans HK.out)⟩
        have HD1 : Aside0 (b0 ≤ D5) := ⟨by have := (HQ1.out D5 HTD.out).1; have := HBB.out; omega⟩
        clear TN HQ1 HQ2 HQ3 HTD HK AP T6 HBX6 HBX5 HBX HV0 HBB WN HBS hBs hD5 x1
        try clear hmN hk
        generalize D5 = D1 at DFN HD1 ⊢
        have DF1 := DFN
        have TN := TN2
        clear DFN TN2
        obtain ⟨bt2, hbt2⟩ : ∃ b, w6.heap.size = b := ⟨_, rfl⟩
        rw [hbt2] at TN ⊢
        generalize w6.alloc (.cells #[.int .i64 1] 3) = w9 at TN DF1 ⊢
        clear hbt2 w6 W5
        try clear wr
        try clear w
        generalize w9 = w at TN DF1 ⊢
        try clear bt
        generalize bt2 = bt at TN ⊢
        rw [roundsIn_succ]
        have ct := TN.out.bx.t.cell
        obtain ⟨B, hBs⟩ : ∃ B, w.heap.size = B := ⟨_, rfl⟩
        have HBS := Aside0.mk hBs
        have WN := Aside0.mk (Wn.start hBs false)
        gi_wp2
        gi_loopw [14] (fun p wr => ∃ (wv : Value), p = .int .i64 0 ∧ Aside0 (Wn B w false 0 wv wr)) (fun p _ => 0)
        case atStart => exact ⟨_, rfl, WN⟩
        case round =>
          clear WN ct
          obtain ⟨wv, rfl, WN⟩ := hrel
          · have tt : True := trivial
            have HBX := Aside0.mk (TN.out.bx.below WN.out.below (by have := TN.out.l0; have := HBS.out; omega) (by have := TN.out.bx.t.lt; have := HBS.out; omega))
            have HV0 := Aside0.mk (WN.out.hv csOf (msOf h d) (wsOf h d) rfl HM0.out HW0.out)
            have HBB : Aside0 (b0 + 5 < B ∧ bt < B) := ⟨by have := TN.out.l0; have := HBS.out; omega, by have := TN.out.bx.t.lt; have := HBS.out; omega⟩
            gi_wp2
            refine wpIn_rangeFunc_V2 41 15 rfl (by omega) (gf := 71) rfl trivial (enters_of Try.func71 (by kernel_rfl) rfl) (seq_all h d 2 (by omega) wr _ _ _ HBX.out.a HBX.out.d HBX.out.h) (fun b hb => by rcases hb with z | z | z | z; exact z.elim; rw [z]; exact HBX.out.a.lt; rw [z]; exact HBX.out.d.lt; rw [z]; exact HBX.out.h.lt) (Below.refl _ _) (fun b hb => rfl) (Hv B B (B + 1) (B + 1 + 1) (B + 1 + 1 + 1) w csOf (msOf h d) (wsOf h d))
              (fun c k T W' => Hv B B (B + 1) (B + 1 + 1) (B + 1 + 1 + 1) w csOf (fun _ => false) (wsOf h d) k T W' ∧ False) (hv_abides _ _ _ _ _ _ _ _ _) (fun c => and_abides (hv_abides _ _ _ _ _ _ _ _ _) _) HV0.out ?assign1 ?body1 ?done1 ?stop1
            case assign1 =>
              intro l v W5 K hK
              simp only [axOf, List.setIfInBounds_toArray, List.set_cons_succ, List.set_cons_zero] at hK ⊢
              gi_wp2
              exact hK
            case body1 =>
              rintro l k L T T1 v W5 hL ⟨q1, q2, q3, q4⟩ hTT hlt1 hv
              have hkN : k < cntAll h d := by have := (List.getElem?_eq_some_iff.1 hL).1; rwa [allOf_len] at this
              rw [cnt_no HNO.out] at hkN
              omega
            case done1 =>
              rintro D5 T W5 hD5 hv5 hK hTD
              rw [allOf_len] at hv5
              obtain ⟨q1, q2, q3, q4⟩ := hv5
              have hmN : msOf h d (cntAll h d) = false := decide_eq_false (by omega)
              rw [hmN] at q4
              obtain ⟨wv5, Tw5, cm5, cn5, cw5, sw5⟩ := q4.boxes
              have z1 := cm5.cell
              have HBX5 := Aside0.mk (TN.out.bx.below q2 HBB.out.1 HBB.out.2)
              have HQ2 := Aside0.mk q2
              have HQ3 := Aside0.mk q3
              have HQ1 := Aside0.mk q1
              have HTD := Aside0.mk hTD
              have HK := Aside0.mk hK
              have AP := Aside0.mk q4.apart
              clear q1 q2 q3 q4 cm5 cn5 cw5 sw5 hK hTD
              gi_wp2_with (refine ⟨trivial, ?_⟩; gi_at_call 29; go_loud (refine (callsIn_wide.2 AP.out).mono ?_; rintro e w6 ⟨rfl, t6⟩; have T6 := Aside0.mk t6; have HBX6 := Aside0.mk (HBX5.out.below (Turn.mine t6 HQ3.out) HBB.out.1 HBB.out.2); have x1 := HBX6.out.t.cell; clear t6 z1))
              have TN2 : Aside0 (Tn h d most b0 w6.heap.size 2 W (w6.alloc (.cells #[.int .i64 2] 3))) := by
                have hb : Below w6.heap.size w6 (w6.alloc (.cells #[.int .i64 2] 3)) := (Below.refl _ w6).alloc (Nat.le_refl _) _
                have h5 : W5.heap.size ≤ w6.heap.size := T6.out.size
                have h6 := HQ3.out
                have h7 := HBB.out
                have q := HBX6.out
                exact ⟨⟨bxb q.h0 hb (by omega), bxb q.m0 hb (by omega), bxb q.r0 hb (by omega), bxb q.a hb (by omega), bxb q.d hb (by omega), bxb q.h hb (by omega), Boxed.new w6 3 (.int .i64 2)⟩, (TN.out.below.trans ((HQ2.out.trans (Turn.mine T6.out HQ3.out)).mono (by omega))).trans (hb.mono (by omega)), by simp; omega⟩
              have DFN : Aside0 ((w6.alloc (.cells #[.int .i64 2] 3)).heap[D5]? = some (.deferred (some []))) := by
                have hl : D5 < W5.heap.size := (Array.getElem?_eq_some_iff.1 HK.out).1
                exact ⟨(Below.heap_alloc _ _ _ (by have := T6.out.size; omega)).trans ((T6.out.block D5 hl (fun z => z.2 HTD.out)).trans HK.out)⟩
              have DFO : Aside0 ((w6.alloc (.cells #[.int .i64 2] 3)).heap[D1]? = some (.deferred (some []))) ∧ D1 ≠ D5 := by
                have hl : D1 < w.heap.size := (Array.getElem?_eq_some_iff.1 DF1.out).1
                have h5 : W5.heap.size ≤ w6.heap.size := T6.out.size
                have h6 := HQ3.out
                have h8 := HBS.out
                have h9 := (HQ1.out D5 HTD.out).1
                exact ⟨⟨(Below.heap_alloc _ _ _ (by omega)).trans (((HQ2.out.trans (Turn.mine T6.out HQ3.out)).block D1 (by omega)).trans DF1.out)⟩, by omega⟩
              obtain ⟨DF1', hne⟩ := DFO
              generalize w6.alloc (.cells #[.int .i64 2] 3) = w9 at TN2 DFN DF1' ⊢
              rw [roundsIn_succ]
              have ct := TN2.out.bx.t.cell
              have r1 := TN2.out.bx.r0.cell
              have r2 := TN2.out.bx.r0.frozen
              have LR := Aside0.mk (TN2.out.bx.r0.lt)
              gi_wp2
              have d5l : D5 < w9.heap.size := (Array.getElem?_eq_some_iff.1 DFN.out).1
              have n5 : b0 + 2 ≠ D5 := fun e => by have h := TN2.out.bx.r0; rw [e] at h; have := (show w9.heap[D5]? = _ from h).symm.trans DFN.out; simp at this
              have n1 : b0 + 2 ≠ D1 := fun e => by have h := TN2.out.bx.r0; rw [e] at h; have := (show w9.heap[D1]? = _ from h).symm.trans DF1'.out; simp at this
              have e5 : (w9.setCell ⟨b0 + 2, 0, none⟩ (.bool true)).heap[D5]? = some (.deferred (some [])) := (Below.heap_setCell w9 _ _ D5 (fun e => n5 e.symm)).trans DFN.out
              have e1 : (w9.setCell ⟨b0 + 2, 0, none⟩ (.bool true)).heap[D1]? = some (.deferred (some [])) := (Below.heap_setCell w9 _ _ D1 (fun e => n1 e.symm)).trans DF1'.out
              have eb := TN2.out.bx.r0.set (.bool true)
              have hbl := TN2.out.below.trans (((Below.refl b0 w9).setCell (p := ⟨b0 + 2, 0, none⟩) (by show b0 ≤ b0 + 2; omega) (.bool true)))
              have hb0D5 : b0 ≤ D5 := by have := (HQ1.out D5 HTD.out).1; have := HBB.out; omega
              have hb0D1 : b0 ≤ D1 := HD1.out
              have FIN : Aside0 (∀ (W7 : World), W7.heap[D5]? = some (.deferred (some [])) → W7.heap[D1]? = some (.deferred (some [])) → Boxed W7 (b0 + 2) 4 (.bool true) → Below b0 W W7 → D5 < W7.heap.size → D1 < W7.heap.size →
                  Boxed ((W7.putObj D5 (.deferred none)).putObj D1 (.deferred none)) (b0 + 2) 4 (.bool true) ∧ Below b0 W ((W7.putObj D5 (.deferred none)).putObj D1 (.deferred none)) ∧ (W7.putObj D5 (.deferred none)).heap[D1]? = some (.deferred (some []))) := ⟨fun W7 k5 k1 kb kl l5 l1 =>
                ⟨(World.putObj_heap_other n1).trans ((World.putObj_heap_other n5).trans kb),
                 (kl.trans ((Turn.of_grown (T := fun b => b = D5) (grownBy_putObj' W7 D5 _) (fun j hj => by cases hj; rfl)).below (fun b hb => by rw [hb]; exact hb0D5) (by omega))).trans ((Turn.of_grown (T := fun b => b = D1) (grownBy_putObj' (W7.putObj D5 (.deferred none)) D1 _) (fun j hj => by cases hj; rfl)).below (fun b hb => by rw [hb]; exact hb0D1) (by have := (grownBy_putObj' W7 D5 (.deferred none)).size; omega)),
                 (World.putObj_heap_other hne).trans k1⟩⟩
              refine ⟨by simp, .inl ⟨_, _, rfl, run_takeDeferred e5, ⟨by simp, .inl ⟨_, _, rfl, run_takeDeferred ((World.putObj_heap_other hne).trans e1), ?_⟩⟩⟩⟩
              refine ⟨_, results_cell1 rfl _ _ (b0 + 2) (.bool true) rfl ?_, rfl, ?_⟩
              · exact (FIN.out _ e5 e1 eb hbl (by simpa using d5l) (by simpa using (Array.getElem?_eq_some_iff.1 DF1'.out).1)).1
              · rw [hb0]; exact (FIN.out _ e5 e1 eb hbl (by simpa using d5l) (by simpa using (Array.getElem?_eq_some_iff.1 DF1'.out).1)).2.1
            case stop1 =>
              rintro D5 c k T W5 hD5 hk ⟨⟨q1, q2, q3, q4⟩, hf⟩ hK hTD
              exact hf.elim
theorem schedAlls_walk (h : Int) (_ : (Lit.int .i64 h).wf = true) (d : Int) (_ : (Lit.int .i64 d).wf = true) (most : Int) (_ : (Lit.int .i64 most).wf = true) {W : World} : Calls Try.prog 4 #[.int .i64 h, .int .i64 d, .int .i64 most] W fun e W' => e = .returned (.bool true) ∧ Below W.heap.size W W' := by
  refine (callsIn_wide (n := 3)).1 ?_
  by_cases hok : okAll h d
  · obtain ⟨D, rfl⟩ : ∃ D : Nat, d = (D : Int) := ⟨d.toNat, by have := hok.2.1; omega⟩
    obtain ⟨H, rfl⟩ : ∃ H : Nat, h = (H : Int) := ⟨h.toNat, by have := hok.1; omega⟩
    exact schedAlls_ok H D most hok W
  · exact schedAlls_no h d most hok W
end Go.Proofs.Ytfcjfjmjcmanaaa.V
