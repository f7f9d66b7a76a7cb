/- SchedMixes: the walk of goes, where it goes over mixes. -/
import Derived.Test.YtfcjfjmjcmanaaaGs
import Derived.Test.YtfcjfjmjcmanaaaUcq
set_option linter.unusedVariables false
namespace Go.Proofs.Ytfcjfjmjcmanaaa.V
open Go Go.RowKit Go.Proofs.Ytfcjfjmjcmanaaa.X Go.Proofs.Ytfcjfjmjcmanaaa.O Go.Proofs.Ytfcjfjmjcmanaaa.B Go.Proofs.YtfcjfjmjcmanaaaW.PrintWords Go.Proofs.YtfcjfjmjcmanaaaW.PrintLast Go.Proofs.YtfcjfjmjcmanaaaW.PrintMore
attribute [local go_sem] Oper.semAt_some
/-- All mixes, in order. -/
structure Full (F : List (List Int)) : Prop where
  rise : F.Pairwise (fun a b => blw a b = true)
  small : ∀ X ∈ F, X.length ≤ 24 ∧ ∀ x ∈ X, Hnum x
  nx : ∀ (q : Nat) (X : List Int) (b : Bool) (M : List Int), F[q]? = some X → Nx X b M → b = mr F (q + 1) ∧ M = wt F (q + 1)
  num : F.length ≤ 1048576
theorem full_mixes {s : List Nat} (hok : Okm s) : Full (mixesOf (lift s)) ∧ wt (mixesOf (lift s)) 0 = runs 0 s ∧ mr (mixesOf (lift s)) 0 = true := by
  have hF : mixesOf (lift s) = genL nxtM s.sum s () := by unfold mixesOf; rw [if_pos (few_lift hok), toN_lift]
  rw [hF]
  have h0 := wt_at (mix_first s)
  refine ⟨⟨gen_rise _ _ _, fun X hX => ⟨?_, fun x hx => ?_⟩, fun q X b M hq h => nx_at hq h, by rw [mixes_count _ _ rfl]; exact hok.2⟩, h0.1, h0.2⟩
  · rw [gen_len _ _ _ _ hX]; exact hok.1.2.2
  · have h1 := gen_num _ _ _ _ hX x hx
    have h2 := hok.1.2.1
    exact ⟨h1.1, by omega⟩
theorem const_at {base b : Nat} {T : Nat → Prop} {W W' : World} {t : TypeId} {v : Value} (h : Boxed W b t v) (ht : Turn (Mine base T) W W') (hb : b < base) : Boxed W' b t v :=
  (ht.block b h.lt (fun z => by have := z.1; omega)).trans h
theorem const_in {base b : Nat} {W W' : World} {t : TypeId} {v : Value} (h : Boxed W b t v) (hB : Below base W W') (hb : b < base) : Boxed W' b t v := (hB.block b hb).trans h
theorem goes_pre {W1 w2 : World} {B0 : Nat} (b : Bool) (hz : W1.heap.size = B0) (hd : Drawn0 (W1.alloc bksV) w2) : w2.heap.size = B0 + 1 ∧ ((w2.alloc (.cells #[.bool b] 4)).alloc (.cells #[.slice none 0 0] 26)).heap.size = B0 + 3 ∧ Below B0 W1 ((w2.alloc (.cells #[.bool b] 4)).alloc (.cells #[.slice none 0 0] 26)) ∧ ((w2.alloc (.cells #[.bool b] 4)).alloc (.cells #[.slice none 0 0] 26)).heap[B0]? = some bksV ∧ Boxed ((w2.alloc (.cells #[.bool b] 4)).alloc (.cells #[.slice none 0 0] 26)) (B0 + 1) 4 (.bool b) ∧ Boxed ((w2.alloc (.cells #[.bool b] 4)).alloc (.cells #[.slice none 0 0] 26)) (B0 + 1 + 1) 26 (.slice none 0 0) := by
  have hz2 : w2.heap.size = B0 + 1 := by obtain ⟨k, rfl⟩ := hd; simp [hz]
  have hb := drawn_bel hd (W1.alloc bksV).heap.size
  have b1 := (Boxed.new w2 4 (.bool b)).alloc (.cells #[.slice none 0 0] 26)
  have b2 := Boxed.new (w2.alloc (.cells #[.bool b] 4)) 26 (.slice none 0 0)
  rw [World.size_alloc] at b2
  rw [hz2] at b1 b2
  have hg : Below w2.heap.size w2 ((w2.alloc (.cells #[.bool b] 4)).alloc (.cells #[.slice none 0 0] 26)) := ((Below.refl _ w2).alloc (Nat.le_refl _) _).alloc (by simp) _
  have h0 : Below B0 W1 (W1.alloc bksV) := (Below.refl _ W1).alloc (by omega) _
  refine ⟨hz2, by simp [hz2], (h0.trans (hb.mono (by simp; omega))).trans (hg.mono (by omega)), (hg.block _ (by omega)).trans ((hb.block _ (by simp; omega)).trans ?_), b1, b2⟩
  rw [← hz]; exact World.alloc_heap_new W1 _
theorem results_cellW {fn : Func} {p : Tmp} (h : fn.results = #[.cell p 4]) (tmps : Array Value) (w : World) (b : Nat) (v : Value) (hp : tmps.getD p undef = .pointer (some ⟨b, 0, none⟩)) (hb : Boxed w b 4 v) : (results fn tmps).run Try.prog w = .ok v w := by
  have hp' : tmps[p]?.getD undef = .pointer (some ⟨b, 0, none⟩) := by simpa using hp
  have hc := hb.cell
  simp [results, h, hp', asAddr, go_sem, hc]
theorem turn_keepsV {base : Nat} {T : Nat → Prop} {W X : World} (t : Turn (Mine base T) W X) : KeepsT T W X := ⟨t.size, fun b hb hl => t.block b hl (fun z => z.2 hb)⟩
theorem turn_lessV {B : Bk5} {base : Nat} {T : Nat → Prop} {W X : World} (t : Turn (Mine base (B.T T)) W X) : Turn (Mine base T) W X := t.mono (fun b hb => ⟨hb.1, fun z => hb.2 (.inl z)⟩)
theorem keeps_of {B : Bk5} {base : Nat} {T Rd : Nat → Prop} {W X : World} (t : Turn (Mine base (B.T T)) W X) (hR : ∀ b, Rd b → b < base) : KeepsT (fun b => T b ∨ Rd b) W X :=
  ⟨t.size, fun b hb hl => t.block b hl (fun z => hb.elim (fun y => z.2 (.inl y)) (fun y => by have := hR b y; have := z.1; omega))⟩
theorem boxed_inj {W : World} {b : Nat} {t t' : TypeId} {v v' : Value} (h : Boxed W b t v) (h' : Boxed W b t' v') : v = v' := Option.some.inj (h.cell.symm.trans h'.cell)
theorem and_abV {β : Type} {J : β → (Nat → Prop) → World → Prop} (h : AbidesS J) (p : Prop) : AbidesS (fun s T W => J s T W ∧ p) := fun s T A B T' hs hg hT => ⟨h s T A B T' hs.1 hg hT, hs.2⟩
def PM (most : Int) : List Int → Bool := fun l => decide ((nsw l : Int) ≤ most)
set_option maxRecDepth 100000
set_option maxHeartbeats 4000000
theorem goes_yes {W : World} {sv : Value} {s : List Nat} {most stop : Int} (hok : Okm s) (hm : 0 ≤ most) (hs : RdS W sv (lift s)) (g : Nat) (lb : Array Value) (Rd : Nat → Prop) (hFg : Fence.wide.fn g) (eg : ∀ args w, (callFunc g args).run Try.prog w = .ok (.enter g args) w) (hR : ∀ b, Rd b → b < W.heap.size) (hseq : SeqV Fence.wide 2 Try.prog g lb Rd (fun _ => False) (fewsOf (lift s) most) W) :
    CallsIn Fence.wide 3 Try.prog 59 #[.func (.func g) #[] lb, sv, .int .i64 most, .int .i64 stop] W fun e W' => e = .returned (.bool true) ∧ Below W.heap.size W W' := by
  obtain ⟨A, c, rfl⟩ := hs.slice
  obtain ⟨hF, hF0, hF1⟩ := full_mixes hok
  rw [fews_eq (few_lift hok) hm, show (fun l => decide ((nsw l : Int) ≤ most)) = PM most from rfl] at hseq
  have hcan := fun w h => can_calls (W := w) (v := .slice A (lift s).length c) (L := lift s) h
  rw [few_lift hok] at hcan
  generalize hFF : mixesOf (lift s) = F at hF hF0 hF1 hseq
  have m0 : decide (0 ≤ most) = true := decide_eq_true hm
  refine callsIn_of_wp_marks Try.func59 rfl trivial ?_ rfl
  simp only [Try.ntmps59, List.size_toArray, List.length_cons, List.length_nil, Nat.reduceAdd, Nat.reduceSub, Array.replicate_succ, Array.replicate_zero, List.push_toArray, List.append_toArray, List.nil_append, List.cons_append]
  obtain ⟨b0, hb0⟩ : ∃ b0, W.heap.size = b0 := ⟨_, rfl⟩
  have hB : Below b0 W (((W.alloc (.cells #[.int .i64 most] 3)).alloc (.cells #[.int .i64 stop] 3)).alloc (.cells #[.bool false] 4)) ∧ Boxed (((W.alloc (.cells #[.int .i64 most] 3)).alloc (.cells #[.int .i64 stop] 3)).alloc (.cells #[.bool false] 4)) b0 3 (.int .i64 most) ∧ Boxed (((W.alloc (.cells #[.int .i64 most] 3)).alloc (.cells #[.int .i64 stop] 3)).alloc (.cells #[.bool false] 4)) (b0 + 1) 3 (.int .i64 stop) ∧ Boxed (((W.alloc (.cells #[.int .i64 most] 3)).alloc (.cells #[.int .i64 stop] 3)).alloc (.cells #[.bool false] 4)) (b0 + 1 + 1) 4 (.bool false) ∧ (((W.alloc (.cells #[.int .i64 most] 3)).alloc (.cells #[.int .i64 stop] 3)).alloc (.cells #[.bool false] 4)).heap.size = b0 + 3 := by
    have b1 := ((Boxed.new W 3 (.int .i64 most)).alloc (.cells #[.int .i64 stop] 3)).alloc (.cells #[.bool false] 4)
    have b2 := (Boxed.new (W.alloc (.cells #[.int .i64 most] 3)) 3 (.int .i64 stop)).alloc (.cells #[.bool false] 4)
    have b3 := Boxed.new ((W.alloc (.cells #[.int .i64 most] 3)).alloc (.cells #[.int .i64 stop] 3)) 4 (.bool false)
    simp only [World.size_alloc] at b2 b3
    rw [← hb0]
    exact ⟨((((Below.refl _ W).alloc (Nat.le_refl _) _).alloc (by simp) _).alloc (by simp; omega) _), b1, b2, b3, by simp⟩
  generalize hW0 : (((W.alloc (.cells #[.int .i64 most] 3)).alloc (.cells #[.int .i64 stop] 3)).alloc (.cells #[.bool false] 4)) = W1 at hB
  have HB0 := Aside0.mk hB
  have HF := Aside0.mk hF
  have HF0 := Aside0.mk hF0
  have HF1 := Aside0.mk hF1
  have HOK := Aside0.mk hok
  have HSQ := Aside0.mk hseq
  have HFG := Aside0.mk hFg
  have EG := Aside0.mk eg
  have HRD := Aside0.mk hR
  have HCAN := Aside0.mk hcan
  have HSK := Aside0.mk (fun (w : World) (hb : Below b0 W w) => hs.below (W' := w) (by rw [hb0]; exact hb))
  have cM := (hB.2.1.alloc bksV).cell
  obtain ⟨B0, hB0⟩ : ∃ B0, W1.heap.size = B0 := ⟨_, rfl⟩
  have HB0E : Aside0 (B0 = b0 + 3) := ⟨by rw [← hB0, hB.2.2.2.2]⟩
  clear hB hF hF0 hF1 hok hm hs hseq hFg eg hR hcan hFF
  gi_wp2_with (first
    | (refine ⟨trivial, ?_⟩; gi_at_call 114; go_loud (refine (callsIn_wide.2 (HCAN.out _ (HSK.out _ (HB0.out.1.alloc (by rw [HB0.out.2.2.2.2]; omega) bksV)))).mono ?_; rintro e w2 ⟨rfl, hd⟩; obtain ⟨hz2, hz4, p4, k1, k2, k3⟩ := goes_pre true hB0 hd; have c4 := k2.cell; have K4 := Aside0.mk (And.intro hz4 (And.intro p4 (And.intro k1 (And.intro k2 k3)))); clear hd hz4 p4 k1 k2 k3))
    | (refine ⟨trivial, ?_⟩; gi_at_call 115; go_loud (refine (callsIn_wide.2 (firstMix_calls HOK.out.1 (HSK.out _ (HB0.out.1.trans (K4.out.2.1.mono (by have := HB0E.out; omega)))))).mono ?_; rintro e w5 ⟨v', rfl, hv', hb5⟩; obtain ⟨A5, c5, e5⟩ := hv'.slice; subst e5; have b5 : Boxed w5 (B0 + 1 + 1) 26 (.slice none 0 0) := (hb5.block _ (by rw [K4.out.1]; omega)).trans K4.out.2.2.2.2; have f5 := b5.frozen; have c5' := b5.cell; obtain ⟨z, hz5⟩ : ∃ z, w5.heap.size = z := ⟨_, rfl⟩; have hz3 : B0 + 2 < z := (by have h1 := hb5.size; rw [K4.out.1, hz5] at h1; omega); obtain ⟨w5s, hw5s⟩ : ∃ w5s, w5.setCell ⟨B0 + 1 + 1, 0, none⟩ (.slice A5 (runs 0 s).length c5) = w5s := ⟨_, rfl⟩; have hz5s : w5s.heap.size = z := (by rw [← hw5s]; simpa using hz5); have HST := Aside0.mk (goes_start (F := F) (P := PM most) (W1 := W1) (w5 := w5s) (B0 := B0) (u := .slice A5 (runs 0 s).length c5) (by rw [← hw5s]; exact (K4.out.2.1.trans (hb5.mono (by rw [K4.out.1]; omega))).setCell (by show B0 ≤ B0 + 1 + 1; omega) _) (by rw [← hw5s]; exact (Below.heap_setCell w5 _ _ _ (by show B0 ≠ B0 + 1 + 1; omega)).trans ((hb5.block _ (by rw [K4.out.1]; omega)).trans K4.out.2.2.1)) (by rw [← hw5s, HF1.out]; exact (Below.heap_setCell w5 _ _ _ (by show B0 + 1 ≠ B0 + 1 + 1; omega)).trans ((hb5.block _ (by rw [K4.out.1]; omega)).trans K4.out.2.2.2.1)) (by rw [← hw5s]; exact b5.set _) (by rw [← hw5s, HF0.out]; exact (hv'.mono (T' := fun j => B0 + 2 < j) (fun j _ hj => by rw [K4.out.1] at hj; omega)).kept (fun j hj => Below.heap_setCell w5 _ _ j (by have := (hv'.own hj).1; rw [K4.out.1] at this; show j ≠ B0 + 1 + 1; omega)))); rw [hz5s] at HST; have HZ3 := Aside0.mk hz3; clear hv' hb5 b5 hz3 K4)))
  generalize (w5s.alloc (.cells #[.int .i64 0] 3)).alloc (.cells #[.bool false] 4) = w6 at HST ⊢
  have HBW : Aside0 (Below b0 W w6) := ⟨HB0.out.1.trans (HST.out.2.1.mono (by show b0 ≤ B0; have := HB0E.out; omega))⟩
  clear f5 c5' c4 cM m0 hz5s hz5 hw5s hz2 hW0 hB0
  refine wpIn_rangeFunc_V2 29 14 rfl (by omega) (gf := g) rfl HFG.out EG.out HSQ.out (fun b hb => Nat.lt_of_lt_of_le (HRD.out b (hb.elim False.elim id)) (by rw [hb0]; exact HBW.out.size |> fun h => by rw [← hb0]; exact h)) (by rw [hb0]; exact HBW.out) (fun b hb => HBW.out.block b (by rw [← hb0]; exact HRD.out b (hb.elim False.elim id))) (Hw F (PM most) (bk59 B0 z) W1 false) (fun c i T W' => Hw F (PM most) (bk59 B0 z) W1 true i T W' ∧ c = .exit 0) (hw_abides _ _ _ _ _) (fun c => and_abV (hw_abides _ _ _ _ _) _) HST.out ?assign0 ?body0 ?done0 ?stop0
  case assign0 =>
    intro l v W5 K hK
    simp only [axOf, List.setIfInBounds_toArray, List.set_cons_succ, List.set_cons_zero] at hK ⊢
    gi_wp2
    exact hK
  case body0 =>
    rintro l k M T T1 u W5 hL ⟨q1, q2, q3, q4, q5, q6, p, hp, st⟩ hTT hlt1 hv
    have hpF := hp.has hL
    obtain ⟨X, hX⟩ : ∃ X, F[p]? = some X := ⟨_, List.getElem?_eq_getElem hpF⟩
    have hwt := wt_at hX
    rw [hwt.1, hwt.2] at st
    have hXs := HF.out.small X (List.mem_of_getElem? hX)
    have hMF : M ∈ F := (List.mem_filter.1 (List.mem_of_getElem? hL)).1
    have hk20 : k < 1048576 := by have h1 := (List.getElem?_eq_some_iff.1 hL).1; have h2 := List.length_filter_le (PM most) F; have h3 := HF.out.num; omega
    obtain ⟨wv, Tw, cm, cn, cw, sw⟩ := st.boxes
    obtain ⟨Aw, cc, eW⟩ := sw.slice
    obtain ⟨Av, cv, eV⟩ := hv.slice
    subst eW eV
    have cw5 := cw.cell
    simp only [axOf, List.setIfInBounds_toArray, List.set_cons_succ, List.set_cons_zero]
    have KM := Aside0.mk (const_in HB0.out.2.1 q2 (show b0 < B0 by have := HB0E.out; omega))
    have KS := Aside0.mk (const_in HB0.out.2.2.1 q2 (show b0 + 1 < B0 by have := HB0E.out; omega))
    have ST5 := Aside0.mk st
    have SW5 := Aside0.mk sw
    have HVV := Aside0.mk hv
    have HX := Aside0.mk hX
    have HXS := Aside0.mk hXs
    have HPOS := Aside0.mk hp
    have HTT := Aside0.mk hTT
    have HT1 := Aside0.mk q1
    have HBL := Aside0.mk (And.intro q2 (And.intro q3 (And.intro q5 q6)))
    have HLL := Aside0.mk hL
    have HMF := Aside0.mk (HF.out.small M hMF)
    have HK20 := Aside0.mk hk20
    clear q1 q2 q3 q4 q5 q6 hp st hTT hlt1 hv hpF hwt hX hXs hMF hL cm cn cw sw hk20 HST
    gi_wp2_with (refine ⟨trivial, ?_⟩; gi_at_call 63; go_loud (have hA := rsw_true SW5.out (by have := HXS.out.1; omega) HXS.out.2; refine (CallsIn.inRound l (callsIn_wide.2 hA)).mono ?_; rintro e w8 ⟨rfl, hb8⟩; have T8 : Aside0 (Turn (Mine B0 ((bk59 B0 z).T T1)) W5 w8) := ⟨Turn.of_below hb8⟩; have S8 := Aside0.mk (ST5.out.turn (Turn.of_below hb8) (fun b hb => .inl hb)); clear hb8))
    gi_loopw [15] (fun sv wr => ∃ (q : Nat) (Y : List Int), sv = .int .i64 ((nsw Y : Nat) : Int) ∧ Aside0 (F[q]? = some Y ∧ Pos F (PM most) k q) ∧ Aside0 ((bk59 B0 z).S T1 wr (cs40 k) true (k : Int) Y) ∧ Aside0 (Turn (Mine B0 ((bk59 B0 z).T T1)) W5 wr)) (fun _ wr => muW F (bk59 B0 z) wr)
    case atStart => exact ⟨p, X, rfl, ⟨HX.out, HPOS.out⟩, S8, T8⟩
    case round =>
      clear S8 T8 cw5
      obtain ⟨q, Y, rfl, HQ, ST, TN⟩ := hrel
      obtain ⟨wv, Tw, cm, cn, cw, sw⟩ := ST.out.boxes
      obtain ⟨Ay, cy, eY⟩ := sw.slice
      subst eY
      have z1 := cm.cell
      have z2 := cw.cell
      have kM := const_at KM.out TN.out (show b0 < B0 by have := HB0E.out; omega)
      have z3 := kM.cell
      have SWY := Aside0.mk sw
      have hYs := HF.out.small Y (List.mem_of_getElem? HQ.out.1)
      have HYS := Aside0.mk hYs
      have CN := Aside0.mk cn
      have CW := Aside0.mk cw
      clear cm cn cw sw kM hYs
      by_cases hgt : most < ((nsw Y : Nat) : Int)
      · have g1 : decide (most < ((nsw Y : Nat) : Int)) = true := decide_eq_true hgt
        have hPY : PM most Y = false := decide_eq_false (by omega)
        have hp2 := HQ.out.2.skip HQ.out.1 hPY
        have hq2 := hp2.has HLL.out
        obtain ⟨Z, hZ⟩ : ∃ Z, F[q + 1]? = some Z := ⟨_, List.getElem?_eq_getElem hq2⟩
        have HZ := Aside0.mk hZ
        have HP2 := Aside0.mk hp2
        have HZS := Aside0.mk (HF.out.small Z (List.mem_of_getElem? hZ))
        clear hgt hPY hp2 hq2 hZ
        gi_wp2_with (first
          | (refine ⟨trivial, ?_⟩; gi_at_call 116; go_loud (refine (CallsIn.inRound l (callsIn_wide.2 (nextMix_calls SWY.out (by have := HYS.out.1; omega)))).mono ?_; rintro e w10 ⟨v', b, M', rfl, hM, hb10, hnx⟩; obtain ⟨eb, eM⟩ := HF.out.nx q Y b M' HQ.out.1 hnx; rw [(wt_at HZ.out).2] at eb; rw [(wt_at HZ.out).1] at eM; subst eb eM; obtain ⟨A10, c10, e10⟩ := hM.slice; subst e10; obtain ⟨f10, ⟨wv10, x10⟩, s10, t10⟩ := ST.out.next (dst59 HZ3.out) (fun b hb => by rcases hb with y | y; exact Nat.lt_of_lt_of_le (HT1.out b y).2 TN.out.size; rw [y]; exact Nat.lt_of_lt_of_le HBL.out.2.2.2.lt TN.out.size) (Nat.le_trans HBL.out.2.1 TN.out.size) hb10 hM; obtain ⟨f11, c11, s11, t11⟩ := s10.setM (dst59 HZ3.out) true; have b12 : Boxed _ (B0 + 1 + 1) 26 (.slice A10 M'.length c10) := (Below.heap_setCell _ ⟨B0 + 1, 0, none⟩ (.bool true) (B0 + 1 + 1) (by show B0 + 1 + 1 ≠ B0 + 1; omega)).trans ((show Boxed w10 (B0 + 1 + 1) 26 _ from (hb10.block _ CW.out.lt).trans CW.out).set (.slice A10 M'.length c10)); have x12 := b12.cell; obtain ⟨wv11, Tw11, cm11, cn11, cw11, sw11⟩ := s11.boxes; obtain rfl := boxed_inj b12 cw11; have S12 := Aside0.mk s11; have SW12 := Aside0.mk sw11; have T12 : Aside0 (Turn (Mine B0 ((bk59 B0 z).T T1)) W5 _) := ⟨Turn.cons TN.out (Turn.cons t10 t11)⟩; clear hM hb10 hnx s10 t10 s11 t11 cm11 cn11 cw11 sw11 b12))
          | (refine ⟨trivial, ?_⟩; gi_at_call 63; go_loud (refine (CallsIn.inRound l (callsIn_wide.2 (rsw_true SW12.out (by have := HZS.out.1; omega) HZS.out.2))).mono ?_; rintro e w13 ⟨rfl, hb13⟩; have S13 := Aside0.mk (S12.out.turn (Turn.of_below hb13) (fun b hb => .inl hb)); have T13 : Aside0 (Turn (Mine B0 ((bk59 B0 z).T T1)) W5 w13) := ⟨Turn.cons T12.out (Turn.of_below hb13)⟩; clear hb13)))
        refine ⟨⟨q + 1, M', rfl, ⟨HZ.out, HP2.out⟩, S13, T13⟩, ?_⟩
        have e1 := wt_at HZ.out
        have e2 := wt_at HQ.out.1
        have l1 := (List.getElem?_eq_some_iff.1 HZ.out).1
        rw [mu_of (q := q + 1) HF.out.rise (by omega) (by rw [e1.1, e1.2]; exact S13.out), mu_of (q := q) HF.out.rise (by omega) (by rw [e2.1, e2.2]; exact ST.out)]
        omega
      · have g1 : decide (most < ((nsw Y : Nat) : Int)) = false := decide_eq_false hgt
        have hPY : PM most Y = true := decide_eq_true (by omega)
        obtain ⟨hk1, hk2⟩ := HQ.out.2.take HQ.out.1 hPY
        obtain rfl : M = Y := Option.some.inj (HLL.out.symm.trans hk1)
        have HP2 := Aside0.mk hk2
        have HTL : Aside0 (∀ b, T b → B0 ≤ b ∧ b < W5.heap.size) := ⟨fun b hb => HT1.out b (HTT.out b hb)⟩
        have HVW := Aside0.mk (HVV.out.kept (fun j hj => TN.out.block j (HVV.out.own hj).2 (fun y => y.2 (.inl (HVV.out.own hj).1.1))))
        have TNT : Aside0 (Turn (Mine B0 ((bk59 B0 z).T T)) W5 wr) := ⟨TN.out.mono (fun b hb => ⟨hb.1, fun y => hb.2 (y.imp (HTT.out b) id)⟩)⟩
        have wk : wrap64 ((k : Int) + 1) = (k : Int) + 1 := hwrId (by omega) (by have := HK20.out; omega)
        have hLE : F[q]? = some M := HQ.out.1
        clear hgt hPY hk1 hk2 hLE
        by_cases hst : (k : Int) + 1 = stop
        · have s1 : ((k : Int) + 1 == stop) = true := by simpa using hst
          clear hst
          by_cases hk40 : k < 40
          · have hk1 : ((k : Int) < 40) = True := eq_true (by omega)
            have HCK : Aside0 (cs40 k + 1 = cs40 (k + 1)) := ⟨(cs40_lt hk40).symm⟩
            replace hk40 := eq_true hk40
            gi_wp2_with (first
              | (refine ⟨trivial, ?_⟩; gi_at_call 24; go_loud (refine (CallsIn.inRound l (callsIn_wide.2 (same_calls HVW.out SWY.out (by have := HYS.out.1; omega)))).mono ?_; rintro e w14 ⟨rfl, hdr⟩; have S14 := Aside0.mk (ST.out.drawn hdr); have HB14 := Aside0.mk (drawn_bel hdr wr.heap.size); have T14 : Aside0 (Turn (Mine B0 ((bk59 B0 z).T T)) W5 w14) := ⟨Turn.cons TNT.out (Turn.of_below HB14.out)⟩; obtain ⟨wv14, Tw14, cm14, cn14, cw14, sw14⟩ := S14.out.boxes; have y1 := cn14.cell; clear hdr z1 z2 cm14 cn14 cw14 sw14))
              | (refine ⟨trivial, ?_⟩; gi_at_call 27; go_loud (refine (CallsIn.inRound l (callsIn_wide.2 (St.ints (T := (bk59 B0 z).T T) (Rd := Rd) S14.out (dst59 HZ3.out) (Nat.le_trans HBL.out.2.1 T14.out.size) (fun b hb => hb.imp (HTT.out b) id) (fun b hb => by rcases hb with y | y; exact ⟨(HT1.out b y).1, Nat.lt_of_lt_of_le (HT1.out b y).2 T14.out.size⟩; rw [y]; exact ⟨by show B0 ≤ z + 1; have := HZ3.out; omega, Nat.lt_of_lt_of_le HBL.out.2.2.2.lt T14.out.size⟩) ((HVW.out.kept (fun j hj => HB14.out.block j (HVW.out.own hj).2)).mono (fun j _ hj => ⟨.inl hj.1, fun y => by rcases y with y | y; exact hj.2.1 y; (have hj1 := hj.1; rw [y] at hj1; exact HBL.out.2.2.1 hj1), hj.2.2⟩)) (by have := HYS.out.1; omega) (by have := cs40_le k; omega)))).mono ?_; rintro e w9 ⟨⟨r, rfl⟩, s9, t9⟩; have S9 := Aside0.mk s9; have T9 : Aside0 (Turn (Mine B0 ((bk59 B0 z).T T)) W5 w9) := ⟨Turn.cons T14.out t9⟩; clear s9 t9; obtain ⟨wv9, Tw9, cm9, cn9, cw9, sw9⟩ := S9.out.boxes; obtain ⟨A9, c9, e9⟩ := sw9.slice; subst e9; have x1 := cw9.cell; have y9 := cn9.cell; have SW9 := Aside0.mk sw9; have CW9 := Aside0.mk cw9; have ks9 := const_at KS.out T9.out (show b0 + 1 < B0 by have := HB0E.out; omega); have KS9 := Aside0.mk ks9; clear cm9 cw9 sw9 cn9 ks9))
              | (refine ⟨trivial, ?_⟩; gi_at_call 116; go_loud (refine (CallsIn.inRound l (callsIn_wide.2 (nextMix_calls SW9.out (by have := HYS.out.1; omega)))).mono ?_; rintro e w10 ⟨v', b, M', rfl, hM, hb10, hnx⟩; obtain ⟨eb, eM⟩ := HF.out.nx q M b M' HQ.out.1 hnx; have EB := Aside0.mk (And.intro eb eM); obtain ⟨A10, c10, e10⟩ := hM.slice; subst e10; obtain ⟨f10, ⟨wv10, x10⟩, s10, t10⟩ := S9.out.next (dst59 HZ3.out) (fun b hb => by rcases hb with y | y; exact Nat.lt_of_lt_of_le (HT1.out b (HTT.out b y)).2 T9.out.size; rw [y]; exact Nat.lt_of_lt_of_le HBL.out.2.2.2.lt T9.out.size) (Nat.le_trans HBL.out.2.1 T9.out.size) hb10 hM; obtain ⟨f11, c11, s11, t11⟩ := s10.setM (dst59 HZ3.out) b; obtain ⟨f12, c12, s12, t12⟩ := s11.setN (dst59 HZ3.out) ((k : Int) + 1); have T12 : Aside0 (Turn (Mine B0 ((bk59 B0 z).T T)) W5 _) := ⟨Turn.cons T9.out (Turn.cons t10 (Turn.cons t11 t12))⟩; have v2 := (const_at KS.out T12.out (show b0 + 1 < B0 by have := HB0E.out; omega)).cell; obtain ⟨wv12, Tw12, cm12, cn12, cw12, sw12⟩ := s12.boxes; have v3 := cn12.cell; have HW12 := Aside0.mk (hw_next (B := bk59 B0 z) (i := k + 1) (p := q + 1) (lf := false) HTL.out HBL.out.1 HBL.out.2.1 (by show B0 ≤ z + 1; have := HZ3.out; omega) (fun y => HBL.out.2.2.1 (HTT.out _ y)) T12.out HBL.out.2.2.2 HP2.out s12 HCK.out eb eM (by omega)); obtain ⟨f13, c13, hw13, t13⟩ := hw_left (x := true) HW12.out; have HW13 := Aside0.mk hw13; have T13 := Aside0.mk t13; clear hM hb10 hnx s10 t10 s11 t11 s12 t12 cm12 cn12 cw12 sw12 eb eM hw13 t13)))
            exact ⟨turn_keepsV (Turn.cons (turn_lessV T12.out) T13.out), HW13.out, rfl⟩
          · have hk1 : ((k : Int) < 40) = False := eq_false (by omega)
            have HCK : Aside0 (cs40 k = cs40 (k + 1)) := ⟨(cs40_ge hk40).symm⟩
            replace hk40 := eq_false hk40
            gi_wp2_with (first
              | (refine ⟨trivial, ?_⟩; gi_at_call 24; go_loud (refine (CallsIn.inRound l (callsIn_wide.2 (same_calls HVW.out SWY.out (by have := HYS.out.1; omega)))).mono ?_; rintro e w14 ⟨rfl, hdr⟩; have S14 := Aside0.mk (ST.out.drawn hdr); have HB14 := Aside0.mk (drawn_bel hdr wr.heap.size); have T14 : Aside0 (Turn (Mine B0 ((bk59 B0 z).T T)) W5 w14) := ⟨Turn.cons TNT.out (Turn.of_below HB14.out)⟩; obtain ⟨wv14, Tw14, cm14, cn14, cw14, sw14⟩ := S14.out.boxes; have y1 := cn14.cell; have S9 := Aside0.mk (S14.out.less (T' := (bk59 B0 z).T T) (fun b hb => hb.imp (HTT.out b) id)); have T9 := T14; obtain ⟨wv9, Tw9, cm9, cn9, cw9, sw9⟩ := S9.out.boxes; obtain ⟨A9, c9, e9⟩ := sw9.slice; subst e9; have x1 := cw9.cell; have y9 := cn9.cell; have SW9 := Aside0.mk sw9; have CW9 := Aside0.mk cw9; have ks9 := const_at KS.out T9.out (show b0 + 1 < B0 by have := HB0E.out; omega); have KS9 := Aside0.mk ks9; clear cm9 cw9 sw9 cn9 ks9; clear hdr z1 z2 cm14 cn14 cw14 sw14))
              | (refine ⟨trivial, ?_⟩; gi_at_call 116; go_loud (refine (CallsIn.inRound l (callsIn_wide.2 (nextMix_calls SW9.out (by have := HYS.out.1; omega)))).mono ?_; rintro e w10 ⟨v', b, M', rfl, hM, hb10, hnx⟩; obtain ⟨eb, eM⟩ := HF.out.nx q M b M' HQ.out.1 hnx; have EB := Aside0.mk (And.intro eb eM); obtain ⟨A10, c10, e10⟩ := hM.slice; subst e10; obtain ⟨f10, ⟨wv10, x10⟩, s10, t10⟩ := S9.out.next (dst59 HZ3.out) (fun b hb => by rcases hb with y | y; exact Nat.lt_of_lt_of_le (HT1.out b (HTT.out b y)).2 T9.out.size; rw [y]; exact Nat.lt_of_lt_of_le HBL.out.2.2.2.lt T9.out.size) (Nat.le_trans HBL.out.2.1 T9.out.size) hb10 hM; obtain ⟨f11, c11, s11, t11⟩ := s10.setM (dst59 HZ3.out) b; obtain ⟨f12, c12, s12, t12⟩ := s11.setN (dst59 HZ3.out) ((k : Int) + 1); have T12 : Aside0 (Turn (Mine B0 ((bk59 B0 z).T T)) W5 _) := ⟨Turn.cons T9.out (Turn.cons t10 (Turn.cons t11 t12))⟩; have v2 := (const_at KS.out T12.out (show b0 + 1 < B0 by have := HB0E.out; omega)).cell; obtain ⟨wv12, Tw12, cm12, cn12, cw12, sw12⟩ := s12.boxes; have v3 := cn12.cell; have HW12 := Aside0.mk (hw_next (B := bk59 B0 z) (i := k + 1) (p := q + 1) (lf := false) HTL.out HBL.out.1 HBL.out.2.1 (by show B0 ≤ z + 1; have := HZ3.out; omega) (fun y => HBL.out.2.2.1 (HTT.out _ y)) T12.out HBL.out.2.2.2 HP2.out s12 HCK.out eb eM (by omega)); obtain ⟨f13, c13, hw13, t13⟩ := hw_left (x := true) HW12.out; have HW13 := Aside0.mk hw13; have T13 := Aside0.mk t13; clear hM hb10 hnx s10 t10 s11 t11 s12 t12 cm12 cn12 cw12 sw12 eb eM hw13 t13)))
            exact ⟨turn_keepsV (Turn.cons (turn_lessV T12.out) T13.out), HW13.out, rfl⟩
        · have s1 : ((k : Int) + 1 == stop) = false := by simpa using hst
          clear hst
          by_cases hk40 : k < 40
          · have hk1 : ((k : Int) < 40) = True := eq_true (by omega)
            have HCK : Aside0 (cs40 k + 1 = cs40 (k + 1)) := ⟨(cs40_lt hk40).symm⟩
            replace hk40 := eq_true hk40
            gi_wp2_with (first
              | (refine ⟨trivial, ?_⟩; gi_at_call 24; go_loud (refine (CallsIn.inRound l (callsIn_wide.2 (same_calls HVW.out SWY.out (by have := HYS.out.1; omega)))).mono ?_; rintro e w14 ⟨rfl, hdr⟩; have S14 := Aside0.mk (ST.out.drawn hdr); have HB14 := Aside0.mk (drawn_bel hdr wr.heap.size); have T14 : Aside0 (Turn (Mine B0 ((bk59 B0 z).T T)) W5 w14) := ⟨Turn.cons TNT.out (Turn.of_below HB14.out)⟩; obtain ⟨wv14, Tw14, cm14, cn14, cw14, sw14⟩ := S14.out.boxes; have y1 := cn14.cell; clear hdr z1 z2 cm14 cn14 cw14 sw14))
              | (refine ⟨trivial, ?_⟩; gi_at_call 27; go_loud (refine (CallsIn.inRound l (callsIn_wide.2 (St.ints (T := (bk59 B0 z).T T) (Rd := Rd) S14.out (dst59 HZ3.out) (Nat.le_trans HBL.out.2.1 T14.out.size) (fun b hb => hb.imp (HTT.out b) id) (fun b hb => by rcases hb with y | y; exact ⟨(HT1.out b y).1, Nat.lt_of_lt_of_le (HT1.out b y).2 T14.out.size⟩; rw [y]; exact ⟨by show B0 ≤ z + 1; have := HZ3.out; omega, Nat.lt_of_lt_of_le HBL.out.2.2.2.lt T14.out.size⟩) ((HVW.out.kept (fun j hj => HB14.out.block j (HVW.out.own hj).2)).mono (fun j _ hj => ⟨.inl hj.1, fun y => by rcases y with y | y; exact hj.2.1 y; (have hj1 := hj.1; rw [y] at hj1; exact HBL.out.2.2.1 hj1), hj.2.2⟩)) (by have := HYS.out.1; omega) (by have := cs40_le k; omega)))).mono ?_; rintro e w9 ⟨⟨r, rfl⟩, s9, t9⟩; have S9 := Aside0.mk s9; have T9 : Aside0 (Turn (Mine B0 ((bk59 B0 z).T T)) W5 w9) := ⟨Turn.cons T14.out t9⟩; clear s9 t9; obtain ⟨wv9, Tw9, cm9, cn9, cw9, sw9⟩ := S9.out.boxes; obtain ⟨A9, c9, e9⟩ := sw9.slice; subst e9; have x1 := cw9.cell; have y9 := cn9.cell; have SW9 := Aside0.mk sw9; have CW9 := Aside0.mk cw9; have ks9 := const_at KS.out T9.out (show b0 + 1 < B0 by have := HB0E.out; omega); have KS9 := Aside0.mk ks9; clear cm9 cw9 sw9 cn9 ks9))
              | (refine ⟨trivial, ?_⟩; gi_at_call 116; go_loud (refine (CallsIn.inRound l (callsIn_wide.2 (nextMix_calls SW9.out (by have := HYS.out.1; omega)))).mono ?_; rintro e w10 ⟨v', b, M', rfl, hM, hb10, hnx⟩; obtain ⟨eb, eM⟩ := HF.out.nx q M b M' HQ.out.1 hnx; have EB := Aside0.mk (And.intro eb eM); obtain ⟨A10, c10, e10⟩ := hM.slice; subst e10; obtain ⟨f10, ⟨wv10, x10⟩, s10, t10⟩ := S9.out.next (dst59 HZ3.out) (fun b hb => by rcases hb with y | y; exact Nat.lt_of_lt_of_le (HT1.out b (HTT.out b y)).2 T9.out.size; rw [y]; exact Nat.lt_of_lt_of_le HBL.out.2.2.2.lt T9.out.size) (Nat.le_trans HBL.out.2.1 T9.out.size) hb10 hM; obtain ⟨f11, c11, s11, t11⟩ := s10.setM (dst59 HZ3.out) b; obtain ⟨f12, c12, s12, t12⟩ := s11.setN (dst59 HZ3.out) ((k : Int) + 1); have T12 : Aside0 (Turn (Mine B0 ((bk59 B0 z).T T)) W5 _) := ⟨Turn.cons T9.out (Turn.cons t10 (Turn.cons t11 t12))⟩; have v2 := (const_at KS.out T12.out (show b0 + 1 < B0 by have := HB0E.out; omega)).cell; obtain ⟨wv12, Tw12, cm12, cn12, cw12, sw12⟩ := s12.boxes; have v3 := cn12.cell; have HW12 := Aside0.mk (hw_next (B := bk59 B0 z) (i := k + 1) (p := q + 1) (lf := false) HTL.out HBL.out.1 HBL.out.2.1 (by show B0 ≤ z + 1; have := HZ3.out; omega) (fun y => HBL.out.2.2.1 (HTT.out _ y)) T12.out HBL.out.2.2.2 HP2.out s12 HCK.out eb eM (by omega)); obtain ⟨f13, c13, hw13, t13⟩ := hw_left (x := true) HW12.out; have HW13 := Aside0.mk hw13; have T13 := Aside0.mk t13; clear hM hb10 hnx s10 t10 s11 t11 s12 t12 cm12 cn12 cw12 sw12 eb eM hw13 t13)))
            exact ⟨keeps_of T12.out (fun b hb => by have := HRD.out b hb; have := HB0E.out; omega), HW12.out⟩
          · have hk1 : ((k : Int) < 40) = False := eq_false (by omega)
            have HCK : Aside0 (cs40 k = cs40 (k + 1)) := ⟨(cs40_ge hk40).symm⟩
            replace hk40 := eq_false hk40
            gi_wp2_with (first
              | (refine ⟨trivial, ?_⟩; gi_at_call 24; go_loud (refine (CallsIn.inRound l (callsIn_wide.2 (same_calls HVW.out SWY.out (by have := HYS.out.1; omega)))).mono ?_; rintro e w14 ⟨rfl, hdr⟩; have S14 := Aside0.mk (ST.out.drawn hdr); have HB14 := Aside0.mk (drawn_bel hdr wr.heap.size); have T14 : Aside0 (Turn (Mine B0 ((bk59 B0 z).T T)) W5 w14) := ⟨Turn.cons TNT.out (Turn.of_below HB14.out)⟩; obtain ⟨wv14, Tw14, cm14, cn14, cw14, sw14⟩ := S14.out.boxes; have y1 := cn14.cell; have S9 := Aside0.mk (S14.out.less (T' := (bk59 B0 z).T T) (fun b hb => hb.imp (HTT.out b) id)); have T9 := T14; obtain ⟨wv9, Tw9, cm9, cn9, cw9, sw9⟩ := S9.out.boxes; obtain ⟨A9, c9, e9⟩ := sw9.slice; subst e9; have x1 := cw9.cell; have y9 := cn9.cell; have SW9 := Aside0.mk sw9; have CW9 := Aside0.mk cw9; have ks9 := const_at KS.out T9.out (show b0 + 1 < B0 by have := HB0E.out; omega); have KS9 := Aside0.mk ks9; clear cm9 cw9 sw9 cn9 ks9; clear hdr z1 z2 cm14 cn14 cw14 sw14))
              | (refine ⟨trivial, ?_⟩; gi_at_call 116; go_loud (refine (CallsIn.inRound l (callsIn_wide.2 (nextMix_calls SW9.out (by have := HYS.out.1; omega)))).mono ?_; rintro e w10 ⟨v', b, M', rfl, hM, hb10, hnx⟩; obtain ⟨eb, eM⟩ := HF.out.nx q M b M' HQ.out.1 hnx; have EB := Aside0.mk (And.intro eb eM); obtain ⟨A10, c10, e10⟩ := hM.slice; subst e10; obtain ⟨f10, ⟨wv10, x10⟩, s10, t10⟩ := S9.out.next (dst59 HZ3.out) (fun b hb => by rcases hb with y | y; exact Nat.lt_of_lt_of_le (HT1.out b (HTT.out b y)).2 T9.out.size; rw [y]; exact Nat.lt_of_lt_of_le HBL.out.2.2.2.lt T9.out.size) (Nat.le_trans HBL.out.2.1 T9.out.size) hb10 hM; obtain ⟨f11, c11, s11, t11⟩ := s10.setM (dst59 HZ3.out) b; obtain ⟨f12, c12, s12, t12⟩ := s11.setN (dst59 HZ3.out) ((k : Int) + 1); have T12 : Aside0 (Turn (Mine B0 ((bk59 B0 z).T T)) W5 _) := ⟨Turn.cons T9.out (Turn.cons t10 (Turn.cons t11 t12))⟩; have v2 := (const_at KS.out T12.out (show b0 + 1 < B0 by have := HB0E.out; omega)).cell; obtain ⟨wv12, Tw12, cm12, cn12, cw12, sw12⟩ := s12.boxes; have v3 := cn12.cell; have HW12 := Aside0.mk (hw_next (B := bk59 B0 z) (i := k + 1) (p := q + 1) (lf := false) HTL.out HBL.out.1 HBL.out.2.1 (by show B0 ≤ z + 1; have := HZ3.out; omega) (fun y => HBL.out.2.2.1 (HTT.out _ y)) T12.out HBL.out.2.2.2 HP2.out s12 HCK.out eb eM (by omega)); obtain ⟨f13, c13, hw13, t13⟩ := hw_left (x := true) HW12.out; have HW13 := Aside0.mk hw13; have T13 := Aside0.mk t13; clear hM hb10 hnx s10 t10 s11 t11 s12 t12 cm12 cn12 cw12 sw12 eb eM hw13 t13)))
            exact ⟨keeps_of T12.out (fun b hb => by have := HRD.out b hb; have := HB0E.out; omega), HW12.out⟩
  case done0 =>
    rintro D T W5 hD ⟨q1, q2, q3, q4, q5, q6, p, hp, st⟩ hK hTD
    have HK := Aside0.mk hK
    have HTD := Aside0.mk hTD
    have HT1 := Aside0.mk q1
    have HBB := Aside0.mk (And.intro q2 q3)
    have KR := Aside0.mk (const_in HB0.out.2.2.2.1 q2 (show b0 + 1 + 1 < B0 by have := HB0E.out; omega))
    have KM := Aside0.mk (const_in HB0.out.2.1 q2 (show b0 < B0 by have := HB0E.out; omega))
    have KL := Aside0.mk q6
    have HPP := Aside0.mk hp
    have ST0 := Aside0.mk st
    have HNL := Aside0.mk q5
    clear q1 q2 q3 q4 q5 q6 hp st hK hTD hD HST
    gi_wp2
    gi_loopw [] (fun wr => ∃ q : Nat, Aside0 (Pos F (PM most) (F.filter (PM most)).length q) ∧ Aside0 ((bk59 B0 z).S T wr (cs40 (F.filter (PM most)).length) (mr F q) (((F.filter (PM most)).length : Nat) : Int) (wt F q)) ∧ Aside0 (Turn (Mine B0 ((bk59 B0 z).T T)) W5 wr)) (fun wr => muW F (bk59 B0 z) wr)
    case atStart => exact ⟨p, HPP, ST0, ⟨Turn.refl _ _⟩⟩
    case round =>
      clear ST0 HPP
      obtain ⟨q, HQ, ST, TN⟩ := hrel
      have kL : Boxed wr (z + 1) 4 (.bool false) := (TN.out.block _ KL.out.lt (fun y => y.2 (.inr rfl))).trans KL.out
      have z4 := kL.cell
      clear kL
      by_cases hq : q < F.length
      · obtain ⟨Y, hY⟩ : ∃ Y, F[q]? = some Y := ⟨_, List.getElem?_eq_getElem hq⟩
        have hwt := wt_at hY
        have st := ST.out
        rw [hwt.1, hwt.2] at st
        obtain ⟨wv, Tw, cm, cn, cw, sw⟩ := st.boxes
        obtain ⟨Ay, cy, eY⟩ := sw.slice
        subst eY
        have z1 := cm.cell
        have z2 := cw.cell
        have SWY := Aside0.mk sw
        have STY := Aside0.mk st
        have HYS := Aside0.mk (HF.out.small Y (List.mem_of_getElem? hY))
        have HY := Aside0.mk hY
        have hPY := HQ.out.rest hY
        have g1 : decide (((nsw Y : Nat) : Int) ≤ most) = false := hPY
        have HP2 := Aside0.mk (HQ.out.skip hY hPY)
        clear hq hY hwt st cm cn cw sw hPY
        gi_wp2_with (first
          | (refine ⟨trivial, ?_⟩; gi_at_call 63; go_loud (refine (callsIn_wide.2 (rsw_true SWY.out (by have := HYS.out.1; omega) HYS.out.2)).mono ?_; rintro e w8 ⟨rfl, hb8⟩; have S8 := Aside0.mk (STY.out.turn (Turn.of_below hb8) (fun b hb => .inl hb)); have T8 : Aside0 (Turn (Mine B0 ((bk59 B0 z).T T)) W5 w8) := ⟨Turn.cons TN.out (Turn.of_below hb8)⟩; have k8 := const_at KM.out T8.out (show b0 < B0 by have := HB0E.out; omega); have x8 := k8.cell; obtain ⟨wv8, Tw8, cm8, cn8, cw8, sw8⟩ := S8.out.boxes; obtain ⟨A8, c8, e8⟩ := sw8.slice; subst e8; have y8 := cw8.cell; have SW8 := Aside0.mk sw8; clear hb8 k8 cm8 cn8 cw8 sw8))
          | (refine ⟨trivial, ?_⟩; gi_at_call 116; go_loud (refine (callsIn_wide.2 (nextMix_calls SW8.out (by have := HYS.out.1; omega))).mono ?_; rintro e w10 ⟨v', b, M', rfl, hM, hb10, hnx⟩; obtain ⟨eb, eM⟩ := HF.out.nx q Y b M' HY.out hnx; have EB := Aside0.mk (And.intro eb eM); obtain ⟨A10, c10, e10⟩ := hM.slice; subst e10; obtain ⟨f10, ⟨wv10, x10⟩, s10, t10⟩ := S8.out.next (dst59 HZ3.out) (fun b hb => by rcases hb with y | y; exact Nat.lt_of_lt_of_le (HT1.out b y).2 T8.out.size; rw [y]; exact Nat.lt_of_lt_of_le KL.out.lt T8.out.size) (Nat.le_trans HBB.out.2 T8.out.size) hb10 hM; obtain ⟨f11, c11, s11, t11⟩ := s10.setM (dst59 HZ3.out) b; have S11 := Aside0.mk s11; have T11 : Aside0 (Turn (Mine B0 ((bk59 B0 z).T T)) W5 _) := ⟨Turn.cons T8.out (Turn.cons t10 t11)⟩; clear hM hb10 hnx s10 t10 s11 t11 eb eM)))
        have l1 := (List.getElem?_eq_some_iff.1 HY.out).1
        obtain ⟨rfl, rfl⟩ := EB.out
        exact ⟨⟨q + 1, HP2, S11, T11⟩, by rw [mu_of (B := bk59 B0 z) (T := T) (q := q + 1) HF.out.rise (by omega) S11.out, mu_of (B := bk59 B0 z) (T := T) (q := q) HF.out.rise (by omega) ST.out]; omega⟩
      · have hmq : mr F q = false := decide_eq_false hq
        have st := ST.out
        rw [hmq] at st
        obtain ⟨wv, Tw, cm, cn, cw, sw⟩ := st.boxes
        have z1 := cm.cell
        clear hq hmq st cm cn cw sw
        gi_wp2_with (refine ⟨trivial, ?_⟩; gi_at_call 29; go_loud (refine (callsIn_wide.2 ST.out.apart).mono ?_; rintro e w6 ⟨rfl, t6⟩; have T6 : Aside0 (Turn (Mine B0 ((bk59 B0 z).T T)) W5 w6) := ⟨Turn.cons TN.out t6⟩; have kr := const_at KR.out T6.out (show b0 + 1 + 1 < B0 by have := HB0E.out; omega); have rf := kr.frozen; have rc := kr.cell; have KR6 := Aside0.mk kr; clear t6 kr))
        have hd6 : w6.heap[D]? = some (.deferred (some [])) := (T6.out.block D (Array.getElem?_eq_some_iff.1 HK.out).1 (fun y => y.2 (.inl HTD.out))).trans HK.out
        have hne : D ≠ b0 + 1 + 1 := fun e => by have h := KR6.out; rw [← e] at h; have := (show w6.heap[D]? = _ from h).symm.trans hd6; simp at this
        have e7 : (w6.setCell ⟨b0 + 1 + 1, 0, none⟩ (.bool true)).heap[D]? = some (.deferred (some [])) := (Below.heap_setCell w6 _ _ D hne).trans hd6
        have hbD : b0 ≤ D := by have := (HT1.out D HTD.out).1; have := HB0E.out; omega
        have hbl : Below b0 W (w6.setCell ⟨b0 + 1 + 1, 0, none⟩ (.bool true)) := ((HB0.out.1.trans (HBB.out.1.mono (by show b0 ≤ B0; have := HB0E.out; omega))).trans ((T6.out.below (fun b hb => hb.1) HBB.out.2).mono (by have := HB0E.out; omega))).setCell (by show b0 ≤ b0 + 1 + 1; omega) _
        have hg := grownBy_putObj' (w6.setCell ⟨b0 + 1 + 1, 0, none⟩ (.bool true)) D (.deferred none)
        refine ⟨by simp, .inl ⟨_, _, rfl, run_takeDeferred e7, ?_⟩⟩
        refine ⟨_, results_cellW rfl _ _ (b0 + 1 + 1) (.bool true) rfl ((World.putObj_heap_other hne.symm).trans (KR6.out.set (.bool true))), rfl, ?_⟩
        have hfin := hbl.trans ((Turn.of_grown (T := fun b => b = D) hg (fun j hj => by cases hj; rfl)).below (n := b0) (fun b hb => by rw [hb]; exact hbD) (by have h1 := (Array.getElem?_eq_some_iff.1 hd6).1; simp; omega))
        first | exact hfin | (rw [hb0]; exact hfin)
  case stop0 =>
    rintro D c k T W5 hD hkl ⟨⟨q1, q2, q3, q4, q5, q6, p, hp, st⟩, rfl⟩ hK hTD
    have HK := Aside0.mk hK
    have HTD := Aside0.mk hTD
    have HT1 := Aside0.mk q1
    have HBB := Aside0.mk (And.intro q2 q3)
    have KR := Aside0.mk (const_in HB0.out.2.2.2.1 q2 (show b0 + 1 + 1 < B0 by have := HB0E.out; omega))
    have KM := Aside0.mk (const_in HB0.out.2.1 q2 (show b0 < B0 by have := HB0E.out; omega))
    have KL := Aside0.mk q6
    have HPP := Aside0.mk hp
    have ST0 := Aside0.mk st
    have HNL := Aside0.mk q5
    clear q1 q2 q3 q4 q5 q6 hp st hK hTD hD HST
    gi_wp2
    gi_loopw [] (fun wr => Aside0 ((bk59 B0 z).S T wr (cs40 k) (mr F p) (k : Int) (wt F p)) ∧ Aside0 (Turn (Mine B0 ((bk59 B0 z).T T)) W5 wr)) (fun wr => 0)
    case atStart => exact ⟨ST0, ⟨Turn.refl _ _⟩⟩
    case round =>
      clear ST0 HPP
      obtain ⟨ST, TN⟩ := hrel
      have kL : Boxed wr (z + 1) 4 (.bool true) := (TN.out.block _ KL.out.lt (fun y => y.2 (.inr rfl))).trans KL.out
      have z4 := kL.cell
      clear kL
      obtain ⟨wv, Tw, cm, cn, cw, sw⟩ := ST.out.boxes
      by_cases hq : p < F.length
      · have hmq : mr F p = true := decide_eq_true hq
        rw [hmq] at cm
        have z1 := cm.cell
        clear hq hmq cm cn cw sw
        gi_wp2_with (refine ⟨trivial, ?_⟩; gi_at_call 29; go_loud (refine (callsIn_wide.2 ST.out.apart).mono ?_; rintro e w6 ⟨rfl, t6⟩; have T6 : Aside0 (Turn (Mine B0 ((bk59 B0 z).T T)) W5 w6) := ⟨Turn.cons TN.out t6⟩; have kr := const_at KR.out T6.out (show b0 + 1 + 1 < B0 by have := HB0E.out; omega); have rf := kr.frozen; have rc := kr.cell; have KR6 := Aside0.mk kr; clear t6 kr))
        have hd6 : w6.heap[D]? = some (.deferred (some [])) := (T6.out.block D (Array.getElem?_eq_some_iff.1 HK.out).1 (fun y => y.2 (.inl HTD.out))).trans HK.out
        have hne : D ≠ b0 + 1 + 1 := fun e => by have h := KR6.out; rw [← e] at h; have := (show w6.heap[D]? = _ from h).symm.trans hd6; simp at this
        have e7 : (w6.setCell ⟨b0 + 1 + 1, 0, none⟩ (.bool true)).heap[D]? = some (.deferred (some [])) := (Below.heap_setCell w6 _ _ D hne).trans hd6
        have hbD : b0 ≤ D := by have := (HT1.out D HTD.out).1; have := HB0E.out; omega
        have hbl : Below b0 W (w6.setCell ⟨b0 + 1 + 1, 0, none⟩ (.bool true)) := ((HB0.out.1.trans (HBB.out.1.mono (by show b0 ≤ B0; have := HB0E.out; omega))).trans ((T6.out.below (fun b hb => hb.1) HBB.out.2).mono (by have := HB0E.out; omega))).setCell (by show b0 ≤ b0 + 1 + 1; omega) _
        have hg := grownBy_putObj' (w6.setCell ⟨b0 + 1 + 1, 0, none⟩ (.bool true)) D (.deferred none)
        refine ⟨by simp, .inl ⟨_, _, rfl, run_takeDeferred e7, ?_⟩⟩
        refine ⟨_, results_cellW rfl _ _ (b0 + 1 + 1) (.bool true) rfl ((World.putObj_heap_other hne.symm).trans (KR6.out.set (.bool true))), rfl, ?_⟩
        have hfin := hbl.trans ((Turn.of_grown (T := fun b => b = D) hg (fun j hj => by cases hj; rfl)).below (n := b0) (fun b hb => by rw [hb]; exact hbD) (by have h1 := (Array.getElem?_eq_some_iff.1 hd6).1; simp; omega))
        first | exact hfin | (rw [hb0]; exact hfin)
      · have hmq : mr F p = false := decide_eq_false hq
        rw [hmq] at cm
        have z1 := cm.cell
        clear hq hmq cm cn cw sw
        gi_wp2_with (refine ⟨trivial, ?_⟩; gi_at_call 29; go_loud (refine (callsIn_wide.2 ST.out.apart).mono ?_; rintro e w6 ⟨rfl, t6⟩; have T6 : Aside0 (Turn (Mine B0 ((bk59 B0 z).T T)) W5 w6) := ⟨Turn.cons TN.out t6⟩; have kr := const_at KR.out T6.out (show b0 + 1 + 1 < B0 by have := HB0E.out; omega); have rf := kr.frozen; have rc := kr.cell; have KR6 := Aside0.mk kr; clear t6 kr))
        have hd6 : w6.heap[D]? = some (.deferred (some [])) := (T6.out.block D (Array.getElem?_eq_some_iff.1 HK.out).1 (fun y => y.2 (.inl HTD.out))).trans HK.out
        have hne : D ≠ b0 + 1 + 1 := fun e => by have h := KR6.out; rw [← e] at h; have := (show w6.heap[D]? = _ from h).symm.trans hd6; simp at this
        have e7 : (w6.setCell ⟨b0 + 1 + 1, 0, none⟩ (.bool true)).heap[D]? = some (.deferred (some [])) := (Below.heap_setCell w6 _ _ D hne).trans hd6
        have hbD : b0 ≤ D := by have := (HT1.out D HTD.out).1; have := HB0E.out; omega
        have hbl : Below b0 W (w6.setCell ⟨b0 + 1 + 1, 0, none⟩ (.bool true)) := ((HB0.out.1.trans (HBB.out.1.mono (by show b0 ≤ B0; have := HB0E.out; omega))).trans ((T6.out.below (fun b hb => hb.1) HBB.out.2).mono (by have := HB0E.out; omega))).setCell (by show b0 ≤ b0 + 1 + 1; omega) _
        have hg := grownBy_putObj' (w6.setCell ⟨b0 + 1 + 1, 0, none⟩ (.bool true)) D (.deferred none)
        refine ⟨by simp, .inl ⟨_, _, rfl, run_takeDeferred e7, ?_⟩⟩
        refine ⟨_, results_cellW rfl _ _ (b0 + 1 + 1) (.bool true) rfl ((World.putObj_heap_other hne.symm).trans (KR6.out.set (.bool true))), rfl, ?_⟩
        have hfin := hbl.trans ((Turn.of_grown (T := fun b => b = D) hg (fun j hj => by cases hj; rfl)).below (n := b0) (fun b hb => by rw [hb]; exact hbD) (by have h1 := (Array.getElem?_eq_some_iff.1 hd6).1; simp; omega))
        first | exact hfin | (rw [hb0]; exact hfin)
end Go.Proofs.Ytfcjfjmjcmanaaa.V
