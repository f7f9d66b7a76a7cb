/- SchedMixes: the walk of goes, where it goes over nothing; goes. -/
import Derived.Test.YtfcjfjmjcmanaaaSgq
set_option linter.unusedVariables false
namespace Go.Proofs.Ytfcjfjmjcmanaaa.V
open Go Go.RowKit Go.Proofs.Ytfcjfjmjcmanaaa.X Go.Proofs.Ytfcjfjmjcmanaaa.O Go.Proofs.Ytfcjfjmjcmanaaa.B Go.Proofs.YtfcjfjmjcmanaaaW.PrintWords Go.Proofs.YtfcjfjmjcmanaaaW.PrintLast Go.Proofs.YtfcjfjmjcmanaaaW.PrintMore
attribute [local go_sem] Oper.semAt_some
set_option maxRecDepth 100000
set_option maxHeartbeats 4000000
theorem goes_no {W : World} {sv : Value} {L : List Int} {most stop : Int} (hno : fewOk L = false ∨ most < 0) (hs : RdS W sv L) (g : Nat) (lb : Array Value) (Rd : Nat → Prop) (hFg : Fence.wide.fn g) (eg : ∀ args w, (callFunc g args).run Try.prog w = .ok (.enter g args) w) (hR : ∀ b, Rd b → b < W.heap.size) (hseq : SeqV Fence.wide 2 Try.prog g lb Rd (fun _ => False) (fewsOf L most) W) :
    CallsIn Fence.wide 3 Try.prog 59 #[.func (.func g) #[] lb, sv, .int .i64 most, .int .i64 stop] W fun e W' => e = .returned (.bool true) ∧ Below W.heap.size W W' := by
  obtain ⟨A, c, rfl⟩ := hs.slice
  rw [fews_no hno] at hseq
  have hcan := fun w h => can_calls (W := w) (v := .slice A L.length c) (L := L) h
  have hcase : (decide (0 ≤ most) = true ∧ fewOk L = false) ∨ decide (0 ≤ most) = false := by
    by_cases hm : 0 ≤ most
    · exact .inl ⟨decide_eq_true hm, hno.elim id (fun h => by omega)⟩
    · exact .inr (decide_eq_false hm)
  clear hno
  refine callsIn_of_wp_marks Try.func59 rfl trivial ?_ rfl
  simp only [Try.ntmps59, List.size_toArray, List.length_cons, List.length_nil, Nat.reduceAdd, Nat.reduceSub, Array.replicate_succ, Array.replicate_zero, List.push_toArray, List.append_toArray, List.nil_append, List.cons_append]
  obtain ⟨b0, hb0⟩ : ∃ b0, W.heap.size = b0 := ⟨_, rfl⟩
  have hB : Below b0 W (((W.alloc (.cells #[.int .i64 most] 3)).alloc (.cells #[.int .i64 stop] 3)).alloc (.cells #[.bool false] 4)) ∧ Boxed (((W.alloc (.cells #[.int .i64 most] 3)).alloc (.cells #[.int .i64 stop] 3)).alloc (.cells #[.bool false] 4)) b0 3 (.int .i64 most) ∧ Boxed (((W.alloc (.cells #[.int .i64 most] 3)).alloc (.cells #[.int .i64 stop] 3)).alloc (.cells #[.bool false] 4)) (b0 + 1) 3 (.int .i64 stop) ∧ Boxed (((W.alloc (.cells #[.int .i64 most] 3)).alloc (.cells #[.int .i64 stop] 3)).alloc (.cells #[.bool false] 4)) (b0 + 1 + 1) 4 (.bool false) ∧ (((W.alloc (.cells #[.int .i64 most] 3)).alloc (.cells #[.int .i64 stop] 3)).alloc (.cells #[.bool false] 4)).heap.size = b0 + 3 := by
    have b1 := ((Boxed.new W 3 (.int .i64 most)).alloc (.cells #[.int .i64 stop] 3)).alloc (.cells #[.bool false] 4)
    have b2 := (Boxed.new (W.alloc (.cells #[.int .i64 most] 3)) 3 (.int .i64 stop)).alloc (.cells #[.bool false] 4)
    have b3 := Boxed.new ((W.alloc (.cells #[.int .i64 most] 3)).alloc (.cells #[.int .i64 stop] 3)) 4 (.bool false)
    simp only [World.size_alloc] at b2 b3
    rw [← hb0]
    exact ⟨((((Below.refl _ W).alloc (Nat.le_refl _) _).alloc (by simp) _).alloc (by simp; omega) _), b1, b2, b3, by simp⟩
  generalize hW0 : (((W.alloc (.cells #[.int .i64 most] 3)).alloc (.cells #[.int .i64 stop] 3)).alloc (.cells #[.bool false] 4)) = W1 at hB
  have HB0 := Aside0.mk hB
  have HSQ := Aside0.mk hseq
  have HFG := Aside0.mk hFg
  have EG := Aside0.mk eg
  have HRD := Aside0.mk hR
  have HCAN := Aside0.mk hcan
  have HSK := Aside0.mk (fun (w : World) (hb : Below b0 W w) => hs.below (W' := w) (by rw [hb0]; exact hb))
  have cM := (hB.2.1.alloc bksV).cell
  obtain ⟨B0, hB0⟩ : ∃ B0, W1.heap.size = B0 := ⟨_, rfl⟩
  have HB0E : Aside0 (B0 = b0 + 3) := ⟨by rw [← hB0, hB.2.2.2.2]⟩
  clear hB hs hseq hFg eg hR hcan
  have HPRE := Aside0.mk (fun (w2 : World) (hd : Drawn0 (W1.alloc bksV) w2) => (goes_pre false hB0 hd : _))
  have HSTN : Aside0 (∀ w2, Drawn0 (W1.alloc bksV) w2 → Hw [] (PM most) (bk59 B0 (B0 + 3)) W1 false 0 (fun _ => False) ((((w2.alloc (.cells #[.bool false] 4)).alloc (.cells #[.slice none 0 0] 26)).alloc (.cells #[.int .i64 0] 3)).alloc (.cells #[.bool false] 4))) := ⟨fun w2 hd => by
    obtain ⟨hz2, hz4, p4, k1, k2, k3⟩ := goes_pre false hB0 hd
    have := goes_start (F := []) (P := PM most) (W1 := W1) (B0 := B0) (u := .slice none 0 0) p4 k1 k2 k3 (.inl ⟨rfl, rfl⟩)
    rwa [hz4] at this⟩
  rcases hcase with ⟨m0, hfw⟩ | m0
  · have hcan := HCAN.out
    rw [hfw] at hcan
    have HCAN := Aside0.mk hcan
    clear hcan hfw
    gi_wp2_with (refine ⟨trivial, ?_⟩; gi_at_call 114; go_loud (refine (callsIn_wide.2 (HCAN.out _ (HSK.out _ (HB0.out.1.alloc (by rw [HB0.out.2.2.2.2]; omega) bksV)))).mono ?_; rintro e w2 ⟨rfl, hd⟩; have hz2 := (HPRE.out w2 hd).1; have c4 := (HPRE.out w2 hd).2.2.2.2.1.cell; have HST := Aside0.mk (HSTN.out w2 hd); clear hd))
    generalize ((((w2.alloc (.cells #[.bool false] 4)).alloc (.cells #[.slice none 0 0] 26)).alloc (.cells #[.int .i64 0] 3)).alloc (.cells #[.bool false] 4)) = w6 at HST ⊢
    have HBW : Aside0 (Below b0 W w6) := ⟨HB0.out.1.trans (HST.out.2.1.mono (by show b0 ≤ B0; have := HB0E.out; omega))⟩
    obtain ⟨z, hzz⟩ : ∃ z, B0 + 3 = z := ⟨_, rfl⟩
    refine wpIn_rangeFunc_V2 29 14 rfl (by omega) (gf := g) rfl HFG.out EG.out HSQ.out (fun b hb => Nat.lt_of_lt_of_le (HRD.out b (hb.elim False.elim id)) (by rw [hb0]; exact HBW.out.size |> fun h => by rw [← hb0]; exact h)) (by rw [hb0]; exact HBW.out) (fun b hb => HBW.out.block b (by rw [← hb0]; exact HRD.out b (hb.elim False.elim id))) (Hw [] (PM most) (bk59 B0 (B0 + 3)) W1 false) (fun c i T W' => False) (hw_abides _ _ _ _ _) (fun c s T A B T' h _ _ => h) HST.out ?assignX ?bodyX ?doneX ?stopX
    case stopX => exact fun D c k T W5 _ _ h _ _ => h.elim
    case assignX =>
      intro l v W5 K hK
      simp only [axOf, List.setIfInBounds_toArray, List.set_cons_succ, List.set_cons_zero] at hK ⊢
      gi_wp2
      exact hK
    case bodyX => exact fun l k M T T1 u W5 hL _ _ _ _ => nomatch hL
    case doneX =>
      rintro D T W5 hD ⟨q1, q2, q3, q4, q5, q6, p, hp, st⟩ hK hTD
      have HK := Aside0.mk hK
      have HTD := Aside0.mk hTD
      have HT1 := Aside0.mk q1
      have HBB := Aside0.mk (And.intro q2 q3)
      have KR := Aside0.mk (const_in HB0.out.2.2.2.1 q2 (show b0 + 1 + 1 < B0 by have := HB0E.out; omega))
      have KM := Aside0.mk (const_in HB0.out.2.1 q2 (show b0 < B0 by have := HB0E.out; omega))
      have KL := Aside0.mk q6
      have HPP := Aside0.mk hp
      have ST0 := Aside0.mk st
      have HNL := Aside0.mk q5
      clear q1 q2 q3 q4 q5 q6 hp st hK hTD hD HST
      gi_wp2
      gi_loopw [] (fun wr => Aside0 ((bk59 B0 (B0 + 3)).S T wr (cs40 0) false ((0 : Nat) : Int) (wt [] p)) ∧ Aside0 (Turn (Mine B0 ((bk59 B0 (B0 + 3)).T T)) W5 wr)) (fun wr => 0)
      case atStart => exact ⟨by have h := ST0; exact h, ⟨Turn.refl _ _⟩⟩
      case round =>
        clear ST0 HPP
        obtain ⟨ST, TN⟩ := hrel
        obtain ⟨wv, Tw, cm, cn, cw, sw⟩ := ST.out.boxes
        have z1 := cm.cell
        clear cm cn cw sw
        gi_wp2_with (refine ⟨trivial, ?_⟩; gi_at_call 29; go_loud (refine (callsIn_wide.2 ST.out.apart).mono ?_; rintro e w6 ⟨rfl, t6⟩; have T6 : Aside0 (Turn (Mine B0 ((bk59 B0 (B0 + 3)).T T)) W5 w6) := ⟨Turn.cons TN.out t6⟩; have kr := const_at KR.out T6.out (show b0 + 1 + 1 < B0 by have := HB0E.out; omega); have rf := kr.frozen; have rc := kr.cell; have KR6 := Aside0.mk kr; clear t6 kr))
        have hd6 : w6.heap[D]? = some (.deferred (some [])) := (T6.out.block D (Array.getElem?_eq_some_iff.1 HK.out).1 (fun y => y.2 (.inl HTD.out))).trans HK.out
        have hne : D ≠ b0 + 1 + 1 := fun e => by have h := KR6.out; rw [← e] at h; have := (show w6.heap[D]? = _ from h).symm.trans hd6; simp at this
        have e7 : (w6.setCell ⟨b0 + 1 + 1, 0, none⟩ (.bool true)).heap[D]? = some (.deferred (some [])) := (Below.heap_setCell w6 _ _ D hne).trans hd6
        have hbD : b0 ≤ D := by have := (HT1.out D HTD.out).1; have := HB0E.out; omega
        have hbl : Below b0 W (w6.setCell ⟨b0 + 1 + 1, 0, none⟩ (.bool true)) := ((HB0.out.1.trans (HBB.out.1.mono (by show b0 ≤ B0; have := HB0E.out; omega))).trans ((T6.out.below (fun b hb => hb.1) HBB.out.2).mono (by have := HB0E.out; omega))).setCell (by show b0 ≤ b0 + 1 + 1; omega) _
        have hg := grownBy_putObj' (w6.setCell ⟨b0 + 1 + 1, 0, none⟩ (.bool true)) D (.deferred none)
        refine ⟨by simp, .inl ⟨_, _, rfl, run_takeDeferred e7, ?_⟩⟩
        refine ⟨_, results_cellW rfl _ _ (b0 + 1 + 1) (.bool true) rfl ((World.putObj_heap_other hne.symm).trans (KR6.out.set (.bool true))), rfl, ?_⟩
        have hfin := hbl.trans ((Turn.of_grown (T := fun b => b = D) hg (fun j hj => by cases hj; rfl)).below (n := b0) (fun b hb => by rw [hb]; exact hbD) (by have h1 := (Array.getElem?_eq_some_iff.1 hd6).1; simp; omega))
        first | exact hfin | (rw [hb0]; exact hfin)
  · have hd := Drawn0.refl (W1.alloc bksV)
    obtain ⟨w2, hw2⟩ : ∃ w2, W1.alloc bksV = w2 := ⟨_, rfl⟩
    have hz2 := (HPRE.out _ hd).1
    have c4 := (HPRE.out _ hd).2.2.2.2.1.cell
    have HST := Aside0.mk (HSTN.out _ hd)
    rw [hw2] at hz2 c4 HST cM
    clear hd
    gi_wp2_with (refine ⟨trivial, ?_⟩; go_at_K)
    generalize ((((w2.alloc (.cells #[.bool false] 4)).alloc (.cells #[.slice none 0 0] 26)).alloc (.cells #[.int .i64 0] 3)).alloc (.cells #[.bool false] 4)) = w6 at HST ⊢
    have HBW : Aside0 (Below b0 W w6) := ⟨HB0.out.1.trans (HST.out.2.1.mono (by show b0 ≤ B0; have := HB0E.out; omega))⟩
    obtain ⟨z, hzz⟩ : ∃ z, B0 + 3 = z := ⟨_, rfl⟩
    refine wpIn_rangeFunc_V2 29 14 rfl (by omega) (gf := g) rfl HFG.out EG.out HSQ.out (fun b hb => Nat.lt_of_lt_of_le (HRD.out b (hb.elim False.elim id)) (by rw [hb0]; exact HBW.out.size |> fun h => by rw [← hb0]; exact h)) (by rw [hb0]; exact HBW.out) (fun b hb => HBW.out.block b (by rw [← hb0]; exact HRD.out b (hb.elim False.elim id))) (Hw [] (PM most) (bk59 B0 (B0 + 3)) W1 false) (fun c i T W' => False) (hw_abides _ _ _ _ _) (fun c s T A B T' h _ _ => h) HST.out ?assignX ?bodyX ?doneX ?stopX
    case stopX => exact fun D c k T W5 _ _ h _ _ => h.elim
    case assignX =>
      intro l v W5 K hK
      simp only [axOf, List.setIfInBounds_toArray, List.set_cons_succ, List.set_cons_zero] at hK ⊢
      gi_wp2
      exact hK
    case bodyX => exact fun l k M T T1 u W5 hL _ _ _ _ => nomatch hL
    case doneX =>
      rintro D T W5 hD ⟨q1, q2, q3, q4, q5, q6, p, hp, st⟩ hK hTD
      have HK := Aside0.mk hK
      have HTD := Aside0.mk hTD
      have HT1 := Aside0.mk q1
      have HBB := Aside0.mk (And.intro q2 q3)
      have KR := Aside0.mk (const_in HB0.out.2.2.2.1 q2 (show b0 + 1 + 1 < B0 by have := HB0E.out; omega))
      have KM := Aside0.mk (const_in HB0.out.2.1 q2 (show b0 < B0 by have := HB0E.out; omega))
      have KL := Aside0.mk q6
      have HPP := Aside0.mk hp
      have ST0 := Aside0.mk st
      have HNL := Aside0.mk q5
      clear q1 q2 q3 q4 q5 q6 hp st hK hTD hD HST
      gi_wp2
      gi_loopw [] (fun wr => Aside0 ((bk59 B0 (B0 + 3)).S T wr (cs40 0) false ((0 : Nat) : Int) (wt [] p)) ∧ Aside0 (Turn (Mine B0 ((bk59 B0 (B0 + 3)).T T)) W5 wr)) (fun wr => 0)
      case atStart => exact ⟨by have h := ST0; exact h, ⟨Turn.refl _ _⟩⟩
      case round =>
        clear ST0 HPP
        obtain ⟨ST, TN⟩ := hrel
        obtain ⟨wv, Tw, cm, cn, cw, sw⟩ := ST.out.boxes
        have z1 := cm.cell
        clear cm cn cw sw
        gi_wp2_with (refine ⟨trivial, ?_⟩; gi_at_call 29; go_loud (refine (callsIn_wide.2 ST.out.apart).mono ?_; rintro e w6 ⟨rfl, t6⟩; have T6 : Aside0 (Turn (Mine B0 ((bk59 B0 (B0 + 3)).T T)) W5 w6) := ⟨Turn.cons TN.out t6⟩; have kr := const_at KR.out T6.out (show b0 + 1 + 1 < B0 by have := HB0E.out; omega); have rf := kr.frozen; have rc := kr.cell; have KR6 := Aside0.mk kr; clear t6 kr))
        have hd6 : w6.heap[D]? = some (.deferred (some [])) := (T6.out.block D (Array.getElem?_eq_some_iff.1 HK.out).1 (fun y => y.2 (.inl HTD.out))).trans HK.out
        have hne : D ≠ b0 + 1 + 1 := fun e => by have h := KR6.out; rw [← e] at h; have := (show w6.heap[D]? = _ from h).symm.trans hd6; simp at this
        have e7 : (w6.setCell ⟨b0 + 1 + 1, 0, none⟩ (.bool true)).heap[D]? = some (.deferred (some [])) := (Below.heap_setCell w6 _ _ D hne).trans hd6
        have hbD : b0 ≤ D := by have := (HT1.out D HTD.out).1; have := HB0E.out; omega
        have hbl : Below b0 W (w6.setCell ⟨b0 + 1 + 1, 0, none⟩ (.bool true)) := ((HB0.out.1.trans (HBB.out.1.mono (by show b0 ≤ B0; have := HB0E.out; omega))).trans ((T6.out.below (fun b hb => hb.1) HBB.out.2).mono (by have := HB0E.out; omega))).setCell (by show b0 ≤ b0 + 1 + 1; omega) _
        have hg := grownBy_putObj' (w6.setCell ⟨b0 + 1 + 1, 0, none⟩ (.bool true)) D (.deferred none)
        refine ⟨by simp, .inl ⟨_, _, rfl, run_takeDeferred e7, ?_⟩⟩
        refine ⟨_, results_cellW rfl _ _ (b0 + 1 + 1) (.bool true) rfl ((World.putObj_heap_other hne.symm).trans (KR6.out.set (.bool true))), rfl, ?_⟩
        have hfin := hbl.trans ((Turn.of_grown (T := fun b => b = D) hg (fun j hj => by cases hj; rfl)).below (n := b0) (fun b hb => by rw [hb]; exact hbD) (by have h1 := (Array.getElem?_eq_some_iff.1 hd6).1; simp; omega))
        first | exact hfin | (rw [hb0]; exact hfin)
end Go.Proofs.Ytfcjfjmjcmanaaa.V
