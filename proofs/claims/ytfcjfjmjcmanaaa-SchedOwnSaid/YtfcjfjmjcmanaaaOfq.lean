/- SchedOwn: the walk of answers. -/
import Derived.Test.YtfcjfjmjcmanaaaOdq
set_option linter.unusedVariables false
namespace Go.Proofs.Ytfcjfjmjcmanaaa.V
open Go Go.RowKit Go.Proofs.Ytfcjfjmjcmanaaa.X Go.Proofs.Ytfcjfjmjcmanaaa.O Go.Proofs.Ytfcjfjmjcmanaaa.B Go.Proofs.YtfcjfjmjcmanaaaW.PrintWords Go.Proofs.YtfcjfjmjcmanaaaW.PrintLast Go.Proofs.YtfcjfjmjcmanaaaW.PrintMore
attribute [local go_sem] Oper.semAt_some
set_option maxRecDepth 100000
set_option maxHeartbeats 4000000
theorem answers_in {W : World} {B0 : Nat → Prop} {b n0 : Nat} (hB : Bks W b B0 n0) (hlt : ∀ i, B0 i → i < W.heap.size) {sv pv : Value} {S P : List Int} {A2 : Option Addr} {c2 : Nat} {ps : List (Int × Int)} (hs : ∀ w, Turn B0 W w → RdS w sv S) (hp : ∀ w, Turn B0 W w → RdS w pv P) (hq : ∀ w, Turn B0 W w → Kd.C Kp w A2 ps.length ps) (hl : S.length ≤ 17592186043904) (hn0 : n0 ≤ 1000000) (n : Int) :
    CallsIn Fence.wide 3 Try.prog 67 #[.pointer (some ⟨b, 0, none⟩), sv, .int .i64 n, pv, .slice A2 ps.length c2] W fun e W' => ∃ v, e = .returned v ∧ SlB W' (fun j => W.heap.size ≤ j) v (ansOf S n P ps) ∧ ∃ B' n1, Bks W' b B' n1 ∧ n1 ≤ n0 + 44 ∧ (∀ i, B' i → (B0 i ∨ W.heap.size ≤ i) ∧ i < W'.heap.size ∧ v.ownBlock ≠ some i) ∧ Turn B0 W W' := by
  obtain ⟨T4, T5, v4, v5, vs0, us, Ls0, hbk, hvl, hBB⟩ := hB
  have HO := Aside0.mk (Own.start hbk hBB (.pointer (some ⟨b, 0, none⟩)))
  have HVL := Aside0.mk hvl
  have HLS := Aside0.mk (show Ls0.length = vs0.length from hbk.l4.len)
  obtain ⟨As, cs, rfl⟩ := (hs W (Turn.refl _ _)).slice
  obtain ⟨Ap, cp, rfl⟩ := (hp W (Turn.refl _ _)).slice
  have HS := Aside0.mk hs
  have HP := Aside0.mk hp
  have HQ := Aside0.mk hq
  have HL := Aside0.mk hl
  have HN := Aside0.mk hn0
  clear hbk hvl hBB hs hp hq hl hn0
  refine callsIn_of_wp_marks Try.func67 rfl trivial ?_ rfl
  simp only [Try.ntmps67, List.size_toArray, List.length_cons, List.length_nil, Nat.reduceAdd, Nat.reduceSub, Array.replicate_succ, Array.replicate_zero, List.push_toArray, List.append_toArray, List.nil_append, List.cons_append]
  obtain ⟨b5, hb5⟩ : ∃ b5, W.heap.size = b5 := ⟨_, rfl⟩
  obtain ⟨wB, hwB⟩ : ∃ wB, (W.alloc (.cells #[.pointer (some ⟨b, 0, none⟩)] 79)).alloc (.cells #[.slice none 0 0] 26) = wB := ⟨_, rfl⟩
  have hx5 : Boxed wB b5 79 (.pointer (some ⟨b, 0, none⟩)) := by
    have := (Boxed.new W 79 (.pointer (some ⟨b, 0, none⟩))).alloc (.cells #[.slice none 0 0] 26)
    rw [hwB, hb5] at this
    exact this
  rw [hwB, hb5] at HO
  have X5 := Aside0.mk (fun (w : World) (e : w.heap[b5]? = wB.heap[b5]?) => (show Boxed w b5 79 (.pointer (some ⟨b, 0, none⟩)) from e.trans hx5))
  have HB5 := Aside0.mk hb5
  have HLT := Aside0.mk hlt
  clear hx5 hlt
  have tok1 := True.intro
  have tok2 := True.intro
  gi_wp2_with (first
    | (refine ⟨trivial, ?_⟩; gi_at_call 52; go_loud (refine (callsIn_wide.2 (nth_own (HS.out _ HO.out.turn') n)).mono ?_; rintro e w3 ⟨u1, rfl, s1, hb3⟩; have O3 := Aside0.mk (HO.out.step (T' := fun i => wB.heap.size ≤ i ∧ i < w3.heap.size) (Turn.of_below hb3) (fun i hi => .inr hi)); have S1 := Aside0.mk s1; have HSB := Aside0.mk hb3.size; clear s1 hb3 HO hwB))
    | (refine ⟨trivial, ?_⟩; gi_at_call 36; go_loud (obtain ⟨A7, c7, e7, h71, h7C⟩ := HP.out _ O3.out.turn'; obtain ⟨rfl, _, rfl⟩ : Ap = A7 ∧ P.length = P.length ∧ cp = c7 := (by simpa using e7); refine (callsIn_wide.2 (pl_own Ap cp P A2 c2 ps w3 h7C h71 (HQ.out _ O3.out.turn'))).mono ?_; rintro e w4 ⟨u2, rfl, s2, hb4⟩; have O4 := Aside0.mk (O3.out.step (T' := fun i => wB.heap.size ≤ i ∧ i < w4.heap.size) (Turn.of_below hb4) (fun i hi => (Nat.lt_or_ge i w3.heap.size).elim (fun z => .inl ⟨hi.1, z⟩) (fun z => .inr ⟨z, hi.2⟩))); have S14 := Aside0.mk ((S1.out.mono (T' := fun j => (wB.heap.size ≤ j ∧ j < w4.heap.size) ∧ ¬ (w3.heap.size ≤ j ∧ j < w4.heap.size)) (fun j hj z => ⟨⟨z, Nat.lt_of_lt_of_le (S1.out.own hj).2 hb4.size⟩, fun y => Nat.not_le_of_lt (S1.out.own hj).2 y.1⟩)).kept (fun j hj => hb4.block j (S1.out.own hj).2)); have S2 := Aside0.mk s2; have HSZ := Aside0.mk hb4.size; have c5 := (X5.out _ (O4.out.kept' rfl)).cell; clear s2 hb4 O3 S1 e7 h71 h7C))
    | (refine ⟨trivial, ?_⟩; gi_at_call 27; refine (callsIn_wide.2 (O4.out.ints (T := fun i => w3.heap.size ≤ i ∧ i < w4.heap.size) (fun i hi => ⟨Nat.le_trans HSB.out hi.1, hi.2⟩) S14.out (by have := (nth_any S n).2; omega) (by have := HVL.out; have := HN.out; omega))).mono ?_; go_loud (rintro e w5 ⟨⟨r5, rfl⟩, o5, k5, z5⟩; have O5 := Aside0.mk o5; have S25 := Aside0.mk ((S2.out.mono (T' := fun j => (w3.heap.size ≤ j ∧ j < w4.heap.size) ∧ ¬ False) (fun j hj z => ⟨⟨z, (S2.out.own hj).2⟩, fun y => y⟩)).kept (fun j hj => k5 j (.inl ⟨(S2.out.own hj).1, (S2.out.own hj).2⟩))); clear c5; have c5 := (X5.out _ (O5.out.kept' rfl)).cell; clear o5 k5 z5 O4 S14 S2))
    | (refine ⟨trivial, ?_⟩; gi_at_call 27; refine (callsIn_wide.2 (O5.out.ints (T := fun _ => False) (fun i hi => hi.elim) S25.out (by have := leastOn_len P ps; omega) (by have := HVL.out; have := HN.out; simp; omega))).mono ?_; go_loud (rintro e w6 ⟨⟨r6, rfl⟩, o6, k6, z6⟩; have O6 := Aside0.mk o6; obtain ⟨A6, m6, ri6, bx6, cl6⟩ := o6.all; have CL6 := Aside0.mk cl6; have RI6 := Aside0.mk ri6; have i1 : ((vs0 ++ [u1]) ++ [u2])[vs0.length]? = some u1 := (by simp); have i2 : ((Ls0 ++ [(nthOf S n).1]) ++ [(leastOn P ps).1])[vs0.length]? = some (nthOf S n).1 := (by rw [← HLS.out]; simp); have i3 : ((vs0 ++ [u1]) ++ [u2])[vs0.length + 1]? = some u2 := (by simp); have i4 : ((Ls0 ++ [(nthOf S n).1]) ++ [(leastOn P ps).1])[vs0.length + 1]? = some (leastOn P ps).1 := (by rw [← HLS.out]; simp); have IX := Aside0.mk (And.intro i1 (And.intro i2 (And.intro i3 i4))); clear c5; have c6 := bx6.cell; clear k6 z6 O5 S25 i1 i2 i3 i4 ri6 bx6 cl6 o6))
    | (gi_at_builtin; refine wpListIn_cat rfl _ _ rfl RI6.out (O6.out.at IX.out.1 IX.out.2.1) (by have := (nth_any S n).2; simp; omega) rfl rfl ?_; go_loud (intro m7 w7 h1 h2 h3; obtain ⟨f7, g7, bx7, _, _, o7⟩ := CL6.out _ m7 w7 _ (fun i hi => hi) h1 h2 h3; obtain ⟨A7, d7, e7⟩ := h1.slB.slice; obtain ⟨n7, hn7⟩ : ∃ n7, ([] ++ (nthOf S n).1).length = n7 := ⟨_, rfl⟩; rw [hn7] at e7; subst e7; obtain ⟨x7, hx7⟩ : ∃ x7, w7.setCell ⟨b5 + 1, 0, none⟩ (.slice A7 n7 d7) = x7 := ⟨_, rfl⟩; rw [hx7] at bx7 o7; have c7 := bx7.cell; have O7 := Aside0.mk o7; have BX7 := Aside0.mk bx7; clear h1 h2 h3 o7 bx7 hn7 O6 CL6 RI6 c6))
    | (gi_at_builtin; go_loud (obtain ⟨A8, m8, ri8, bx8, cl8⟩ := (O7.out.below ((Below.refl _ _).alloc (Nat.le_refl _) (.cells #[.int .i64 (-1)] 3))).all; obtain rfl := boxed_injO bx8 (BX7.out.alloc _); refine wpListIn_cat rfl _ _ rfl ri8 (one_rowO x7 (-1)) (by have := (nth_any S n).2; simp; omega) rfl rfl ?_; (intro m9 w9 h1 h2 h3; obtain ⟨f9, g9, bx9, _, _, o9⟩ := cl8 _ m9 w9 _ (fun i hi => hi) h1 h2 h3; obtain ⟨A9, d9, e9⟩ := h1.slB.slice; obtain ⟨n9, hn9⟩ : ∃ n9, ([] ++ (nthOf S n).1 ++ [-1]).length = n9 := ⟨_, rfl⟩; rw [hn9] at e9; subst e9; obtain ⟨x9, hx9⟩ : ∃ x9, w9.setCell ⟨b5 + 1, 0, none⟩ (.slice A9 n9 d9) = x9 := ⟨_, rfl⟩; rw [hx9] at bx9 o9; have c9 := bx9.cell; have O9 := Aside0.mk o9; have BX9 := Aside0.mk bx9; clear h1 h2 h3 o9 bx9 hn9 O7 BX7 c7 ri8 cl8 f7 g7 hx7)))
    | (gi_at_builtin; obtain ⟨A8, m8, ri8, bx8, cl8⟩ := O9.out.all; obtain rfl := boxed_injO bx8 BX9.out; refine wpListIn_cat rfl _ _ rfl ri8 (O9.out.at IX.out.2.2.1 IX.out.2.2.2) (by have := (nth_any S n).2; have := leastOn_len P ps; simp; omega) rfl rfl ?_; go_loud (intro ma wa h1 h2 h3; obtain ⟨fa, ga, bxa, _, _, oa⟩ := cl8 _ ma wa _ (fun i hi => hi) h1 h2 h3; obtain ⟨Aa, da, ea⟩ := h1.slB.slice; obtain ⟨na, hna⟩ : ∃ na, ([] ++ (nthOf S n).1 ++ [-1] ++ (leastOn P ps).1).length = na := ⟨_, rfl⟩; rw [hna] at ea; subst ea; obtain ⟨xa, hxa⟩ : ∃ xa, wa.setCell ⟨b5 + 1, 0, none⟩ (.slice Aa na da) = xa := ⟨_, rfl⟩; rw [hxa] at bxa oa; have OA := Aside0.mk oa; clear h1 h2 h3 oa bxa hna O9 BX9 c9 ri8 cl8 f9 g9 hx9))
    | (refine ⟨trivial, ?_⟩; gi_at_call 56; go_loud (have bz : Below xa.heap.size xa (xa.alloc (.cells #[.int .i64 0] 3)) := (Below.refl _ xa).alloc (Nat.le_refl _) _; refine (callsIn_wide.2 (mixes_calls (HS.out _ (OA.out.below bz).turn') HL.out)).mono ?_; rintro e wc ⟨o1, s1, t1, rfl, mb, hbc⟩; have HXL := Aside0.mk ((OA.out.hX' (i := b5) rfl).2.1); have OC := Aside0.mk ((OA.out.more bz).more hbc); have MBC := Aside0.mk mb; have BKC : Aside0 (Boxed wc xa.heap.size 3 (.int .i64 0)) := ⟨(hbc.block _ (by simp)).trans (Boxed.new xa 3 (.int .i64 0))⟩; have BXC : Aside0 (Boxed wc b5 79 (.pointer (some ⟨b, 0, none⟩))) := ⟨(hbc.block _ (by have := (OA.out.hX' (i := b5) rfl).2.1; simp; omega)).trans ((X5.out xa (OA.out.kept' rfl)).alloc _)⟩; have HZC := Aside0.mk (And.intro bz.size hbc.size); clear mb hbc bz OA hxa fa ga))
    | (refine ⟨trivial, ?_⟩; gi_at_call 57; go_loud (refine (callsIn_wide.2 (few_of (most := 1) (HS.out _ OC.out.turn') HL.out)).mono ?_; rintro e wd ⟨o2, s2, m2, t2, rfl, fb, hbd⟩; have OD := Aside0.mk (OC.out.more hbd); have MBD := Aside0.mk (MBC.out.below hbd (Nat.le_refl _)); have FBD := Aside0.mk fb; have BKD : Aside0 (Boxed wd xa.heap.size 3 (.int .i64 0)) := ⟨(hbd.block _ BKC.out.lt).trans BKC.out⟩; have BXD : Aside0 (Boxed wd b5 79 (.pointer (some ⟨b, 0, none⟩))) := ⟨(hbd.block _ BXC.out.lt).trans BXC.out⟩; have HZD := Aside0.mk hbd.size; clear fb hbd OC MBC BKC))
    | (refine ⟨trivial, ?_⟩; gi_at_call 25; go_loud (refine (callsIn_wide.2 (all_calls 3 3 wd)).mono ?_; rintro e wL ⟨rfl, ka, kd, kh, hbe⟩; have OE := Aside0.mk (OD.out.more hbe); have MBE := Aside0.mk (MBD.out.below hbe (Nat.le_refl _)); have FBE := Aside0.mk (FBD.out.below hbe (Nat.le_refl _)); have BKE : Aside0 (Boxed wL xa.heap.size 3 (.int .i64 0)) := ⟨(hbe.block _ BKD.out.lt).trans BKD.out⟩; have ALE := Aside0.mk (And.intro ka (And.intro kd kh)); have BXE : Aside0 (Boxed wL b5 79 (.pointer (some ⟨b, 0, none⟩))) := ⟨(hbe.block _ BXD.out.lt).trans BXD.out⟩; have HZE := Aside0.mk hbe.size; clear ka kd kh hbe OD MBD FBD BKD))
    | (refine ⟨trivial, ?_⟩; gi_at_call 66; go_loud (refine (callsIn_wide.2 (wholeO _ _ _)).mono ?_; rintro e w9 ⟨rfl, h9⟩; have h9 := h9.symm; subst h9)))
  have tokR := True.intro
  clear tokR tok1 tok2
  obtain ⟨bk, hbk⟩ : ∃ bk, xa.heap.size = bk := ⟨_, rfl⟩
  have hz1 : (xa.alloc (.cells #[.int .i64 0] 3)).heap.size = bk + 1 := by simp [hbk]
  rw [hz1, hbk] at HZC
  rw [hbk] at BKE HXL
  rw [hbk]
  obtain ⟨vs2, hvs2⟩ : ∃ vs2, ((vs0 ++ [u1]) ++ [u2]) = vs2 := ⟨_, rfl⟩
  obtain ⟨Ls2, hLs2⟩ : ∃ Ls2, ((Ls0 ++ [(nthOf S n).1]) ++ [(leastOn P ps).1]) = Ls2 := ⟨_, rfl⟩
  have HV2 : Aside0 (vs2.length = n0 + 2 ∧ Ls2.length = n0 + 2) := ⟨by rw [← hvs2, ← hLs2]; have := HVL.out; have := HLS.out; simp; omega⟩
  rw [hvs2, hLs2] at OE
  have OX : Aside0 (Own W B0 b (b5 + 1) (fun i => i = b5 ∨ (bk ≤ i ∧ i < wL.heap.size)) wL vs2 Ls2 (ans0 S n P ps) (fun _ => False) wL) := ⟨OE.out.lessX (fun i hi => by
    rcases hi with z | ⟨z1, z2⟩
    · exact .inl (.inl (.inl (.inl z)))
    · rw [hz1, hbk]
      by_cases y1 : i < bk + 1
      · exact .inl (.inl (.inl (.inr ⟨z1, y1⟩)))
      · by_cases y2 : i < wc.heap.size
        · exact .inl (.inl (.inr ⟨by omega, y2⟩))
        · by_cases y3 : i < wd.heap.size
          · exact .inl (.inr ⟨by omega, y3⟩)
          · exact .inr ⟨by omega, z2⟩)⟩
  have HBK5 : Aside0 (b5 < bk ∧ bk < wL.heap.size) := ⟨by have h1 := HXL.out; have h2 := HZC.out; have h3 := HZD.out; have h4 := HZE.out; omega⟩
  have HMB := Aside0.mk hz1
  have HZ := Aside0.mk (show bk + 1 ≤ wc.heap.size ∧ wc.heap.size ≤ wd.heap.size ∧ wd.heap.size ≤ wL.heap.size from by have h2 := HZC.out; have h3 := HZD.out; have h4 := HZE.out; omega)
  clear hvs2 hLs2 OE HZC HZD HZE IX HVL HLS hz1 hbk X5
  have HJ0 := Aside0.mk (Jn.start (p := fun k => k < 5) (Ms := mixesOf S) (kv0 := 0) OX.out HV2.out.1 HV2.out.2 (by simpa using BKE.out) (by omega))
  refine rangeOne 57 20 0 rfl (by omega) (gf := 108) rfl trivial (enters_of Try.func108 (by kernel_rfl) rfl) (seq_mixes 2 (by omega) wL MBE.out) (fun b hb => (MBE.out.lt b hb).2) _ (Jn W B0 b (b5 + 1) (fun i => i = b5 ∨ (bk ≤ i ∧ i < wL.heap.size)) wL bk (n0 + 2) 0 (ans0 S n P ps) (mixesOf S) (fun k => k = min 5 (mixesOf S).length)) (Jn.abides _ _ _ _ _ _ _ _ _ _ _ _) (Jn.abides _ _ _ _ _ _ _ _ _ _ _ _) HJ0.out ?assign1 ?body1 ?end1 (fun a W h => h) ?next1
  case assign1 =>
    intro l v W5 K hK
    simp only [axOf, List.setIfInBounds_toArray, List.set_cons_succ, List.set_cons_zero] at hK ⊢
    gi_wp2
    exact hK
  case body1 =>
    rintro l7 k M T T1 v W5 hL ⟨hp5, vs5, Ls5, hv5, hL5, h5⟩ hTT hlt1 hv
    obtain ⟨Av, cv, rfl⟩ := hv.slice
    obtain ⟨q, hq⟩ : ∃ q, 0 + k = q := ⟨_, rfl⟩
    rw [hq] at h5
    have HQ5 := Aside0.mk hq
    have HM := Aside0.mk hL
    have HML : Aside0 (M.length ≤ 24) := ⟨mixes_len S M (List.mem_of_getElem? hL)⟩
    have HP5 := Aside0.mk hp5
    have HQB : Aside0 (q < 10) := ⟨by have := HQ5.out; have := HP5.out; omega⟩
    have HV5 := Aside0.mk (And.intro hv5 hL5)
    have HO5 := Aside0.mk h5
    have HTT := Aside0.mk hTT
    have HV := Aside0.mk (hv.mono (T' := fun b => T1 b ∧ ¬ T b) (fun j _ z => ⟨z.1, z.2.1⟩))
    have cx5 := (show Boxed W5 b5 79 (.pointer (some ⟨b, 0, none⟩)) from ((h5.kept' (i := b5) (.inl rfl)).trans (Below.heap_setCell _ _ _ b5 (by have := HBK5.out; show b5 ≠ bk; omega))).trans BXE.out).cell
    clear hp5 hv5 hL5 h5 hTT hlt1 hv hq hL
    simp only [axOf, List.setIfInBounds_toArray, List.set_cons_succ, List.set_cons_zero]
    have e5 : (wrap64 ((q : Int) + 1) == 5) = true ∨ (wrap64 ((q : Int) + 1) == 5) = false := by cases wrap64 ((q : Int) + 1) == 5 <;> simp
    rcases e5 with e5 | e5
    all_goals (
      gi_wp2_with (first
        | (refine ⟨trivial, ?_⟩; gi_at_call 27; go_loud (refine (CallsIn.inRound l7 (callsIn_wide.2 (HO5.out.ints HTT.out HV.out (by have := HML.out; omega) (by have := HV5.out.1; have := HQ5.out; have := HQB.out; have := HN.out; omega)))).mono ?_; rintro e w6 ⟨⟨r6, rfl⟩, o6, k6, z6⟩; have O6 := Aside0.mk o6; have K6 := Aside0.mk k6; have Z6 := Aside0.mk z6; obtain ⟨A6, m6, ri6, bx6, cl6⟩ := o6.all; have CL6 := Aside0.mk cl6; have RI6 := Aside0.mk ri6; have c6 := bx6.cell; clear k6 z6 o6 bx6 cl6 ri6 cx5))
        | (gi_at_builtin; go_loud (refine wpListIn_cat rfl _ _ rfl RI6.out (O6.out.at (i := vs5.length) (v := .slice Av M.length cv) (Lv := M) (by simp) (by rw [HV5.out.1, ← HV5.out.2]; simp)) (by have h1 := take_len (mixes_len S) k; have h2 := ans0_len S n P ps; have := HML.out; have := HQ5.out; have := HQB.out; rw [List.length_append]; omega) rfl rfl ?_; intro m7 w7 h1 h2 h3; obtain ⟨f7, g7, bx7, kk7, zz7, o7⟩ := CL6.out _ m7 w7 _ (fun i hi => hi) h1 h2 h3; obtain ⟨A7, d7, e7⟩ := h1.slB.slice; obtain ⟨n7, hn7⟩ : ∃ n7, (ans0 S n P ps ++ (List.take k (mixesOf S)).flatten ++ M).length = n7 := ⟨_, rfl⟩; rw [hn7] at e7; subst e7; obtain ⟨x7, hx7⟩ : ∃ x7, w7.setCell ⟨b5 + 1, 0, none⟩ (.slice A7 n7 d7) = x7 := ⟨_, rfl⟩; have zs7 : x7.heap.size = w7.heap.size := (by rw [← hx7]; simp); rw [hx7] at kk7 o7; obtain ⟨bk7, o8⟩ := o7.setX (v' := .int .i64 (wrap64 ((q : Int) + 1))) (.inr ⟨Nat.le_refl _, HBK5.out.2⟩) BKE.out; have f8 := bk7.frozen; have g8 := bk7.cell; obtain ⟨x8, hx8⟩ : ∃ x8, x7.setCell ⟨bk, 0, none⟩ (.int .i64 (wrap64 ((q : Int) + 1))) = x8 := ⟨_, rfl⟩; have bk8 := bk7.set (.int .i64 (wrap64 ((q : Int) + 1))); have zs8 : x8.heap.size = x7.heap.size := (by rw [← hx8]; simp); have kk8 : ∀ i, i ≠ bk → x8.heap[i]? = x7.heap[i]? := (fun i hi => by rw [← hx8]; exact Below.heap_setCell x7 _ _ i hi); rw [hx8] at o8 bk8; have g9 := bk8.cell; have O8 := Aside0.mk o8; have K8 : Aside0 (∀ i, (T i ∨ (fun i => i = b5 ∨ (bk ≤ i ∧ i < wL.heap.size)) i) → i ≠ bk → x8.heap[i]? = W5.heap[i]?) := ⟨fun i hi hne => ((kk8 i hne).trans (kk7 i hi)).trans (K6.out i (hi.elim .inl (fun z => .inr (.inl z))))⟩; have Z8 : Aside0 (W5.heap.size ≤ x8.heap.size) := ⟨by have := Z6.out; omega⟩; have TX : Aside0 (∀ i, T i → i ≠ bk) := ⟨fun i hi z => (O6.out.hT' hi).2.2.1 (by rw [z]; exact (.inr ⟨Nat.le_refl _, HBK5.out.2⟩))⟩; clear h1 h2 h3 o7 bx7 zz7 hn7 O6 CL6 RI6 c6 K6 Z6 kk7 kk8 zs7 zs8 bk7 bk8 o8)))
      have hw : wrap64 ((q : Int) + 1) = ((0 + (k + 1) : Nat) : Int) := by rw [X.hwrId (by omega) (by have := HQB.out; omega)]; have := HQ5.out; omega
      have HJ := O8.out
      rw [hw, List.append_assoc, ← take_next HM.out] at HJ
      rw [hw] at e5)
    · exact ⟨⟨Z8.out, fun i hi hl => K8.out i (.inl hi) (TX.out i hi)⟩, rfl, (by have := of_decide_eq_true e5; have h3 := (List.getElem?_eq_some_iff.1 HM.out).1; have := HP5.out; show k + 1 = min 5 (mixesOf S).length; omega), _, _, by simp; have := HV5.out.1; omega, by simp; have := HV5.out.2; omega, HJ⟩
    · exact ⟨⟨Z8.out, fun i hi hl => hi.elim (fun z => K8.out i (.inl z) (TX.out i z)) (fun z => K8.out i (.inr ((show (i = b5 ∨ (bk ≤ i ∧ i < wL.heap.size)) ∧ i ≠ bk from by have y1 := MBE.out.lt i z; have y2 := HMB.out; exact ⟨.inr ⟨by omega, y1.2⟩, by omega⟩)).1) ((show (i = b5 ∨ (bk ≤ i ∧ i < wL.heap.size)) ∧ i ≠ bk from by have y1 := MBE.out.lt i z; have y2 := HMB.out; exact ⟨.inr ⟨by omega, y1.2⟩, by omega⟩)).2)⟩, (by have := HP5.out; show k + 1 < 5; have := of_decide_eq_false e5; omega), _, _, by simp; have := HV5.out.1; omega, by simp; have := HV5.out.2; omega, HJ⟩
  case end1 =>
    rintro T w' ⟨hp, r⟩
    exact ⟨by show (mixesOf S).length = min 5 (mixesOf S).length; have : (mixesOf S).length < 5 := hp; omega, r⟩
  case next1 =>
    rintro D1 k1 T w1' hD1 ⟨hp, vs3, Ls3, hv3, hL3, h3⟩ hdf hTD
    obtain ⟨q1, hq1⟩ : ∃ q1, 0 + k1 = q1 := ⟨_, rfl⟩
    rw [hq1] at h3
    have kp : ∀ i, (bk ≤ i ∧ i < wL.heap.size) → i ≠ bk → w1'.heap[i]? = wL.heap[i]? := fun i hi hne => (h3.kept' (.inr hi)).trans (Below.heap_setCell _ _ _ i hne)
    have FB1 := Aside0.mk (FBE.out.kept (W' := w1') (fun i hi => kp i (by have y := FBE.out.lt i hi; have := HZ.out; omega) (by have y := FBE.out.lt i hi; have := HZ.out; omega)))
    have FBL := Aside0.mk (fun i (hi : FB.Rd o2 s2 m2 t2 i) => (FBE.out.lt i hi).2)
    have ALL := Aside0.mk (show wd.heap.size + 2 < wL.heap.size from ALE.out.1.lt)
    have AL1 : Aside0 (Boxed w1' (wd.heap.size + 2) 3 (.int .i64 (cntAll 3 3 : Int)) ∧ Boxed w1' (wd.heap.size + 1) 3 (.int .i64 3) ∧ Boxed w1' wd.heap.size 3 (.int .i64 3)) := ⟨by
      have hz := HZ.out
      have l1 := ALE.out.1.lt
      exact ⟨(kp _ (by omega) (by omega)).trans ALE.out.1, (kp _ (by omega) (by omega)).trans ALE.out.2.1, (kp _ (by omega) (by omega)).trans ALE.out.2.2⟩⟩
    have BX1 : Aside0 (Boxed w1' b5 79 (.pointer (some ⟨b, 0, none⟩))) := ⟨((h3.kept' (i := b5) (.inl rfl)).trans (Below.heap_setCell _ _ _ b5 (by have := HBK5.out; show b5 ≠ bk; omega))).trans BXE.out⟩
    have BK1 : Aside0 (Boxed w1' bk 3 (.int .i64 (q1 : Int))) := ⟨(h3.kept' (i := bk) (.inr ⟨Nat.le_refl _, HBK5.out.2⟩)).trans (BKE.out.set _)⟩
    have HD1 := Aside0.mk (h3.hT' hTD)
    have O1 := Aside0.mk (h3.mark hTD)
    have hk1 : k1 = min 5 (mixesOf S).length := hp
    have hfl : (List.take k1 (mixesOf S)).flatten = ((mixesOf S).take 5).flatten := by
      rw [hk1]
      rcases Nat.lt_or_ge (mixesOf S).length 5 with z | z
      · rw [Nat.min_eq_right (by omega), List.take_of_length_le (Nat.le_refl _), List.take_of_length_le (by omega)]
      · rw [Nat.min_eq_left z]
    rw [hfl] at O1
    obtain ⟨L1, hL1⟩ : ∃ L1, ans0 S n P ps ++ ((mixesOf S).take 5).flatten = L1 := ⟨_, rfl⟩
    have HL1 : Aside0 (L1.length ≤ 657) := ⟨by rw [← hL1, List.length_append]; have h1 := ans0_len S n P ps; have h2 := take_len (mixes_len S) 5; omega⟩
    rw [hL1] at O1
    have HLE := Aside0.mk hL1
    have HK1 := Aside0.mk (show k1 ≤ 5 ∧ q1 = k1 ∧ 10 - q1 = fewK S from by unfold fewK; omega)
    have DF1 := Aside0.mk hdf
    have HV3 := Aside0.mk (And.intro hv3 hL3)
    have HZ1 := Aside0.mk (Own.size h3)
    clear hp hv3 hL3 h3 hdf hTD kp hk1 hfl hL1 hq1 OX HJ0 FBE ALE BXE BKE MBE hD1
    simp only [Exit.inBlock, Exit.then]
    gi_wp2_with (refine ⟨trivial, ?_⟩; gi_at_call 66; go_loud (refine (callsIn_wide.2 (wholeO _ _ _)).mono ?_; rintro e w9 ⟨rfl, h9⟩; have h9 := h9.symm; subst h9))
    have HJ1 := Aside0.mk (Jn.start (p := fun k => q1 + k < 10) (Ms := fewsOf S 1) (kv0 := q1) O1.out HV3.out.1 HV3.out.2 BK1.out (by have := HK1.out; omega))
    refine rangeOne 70 21 2 rfl (by omega) (gf := 110) rfl trivial (enters_of Try.func110 (by kernel_rfl) rfl) (seq_few 2 (by omega) w1' FB1.out) (fun b hb => (FB1.out.lt b hb).2) _ (Jn W B0 b (b5 + 1) (fun i => (i = b5 ∨ (bk ≤ i ∧ i < wL.heap.size)) ∨ i = D1) w1' bk (n0 + 2 + k1) q1 L1 (fewsOf S 1) (fun k => k = min (fewK S) (fewsOf S 1).length)) (Jn.abides _ _ _ _ _ _ _ _ _ _ _ _) (Jn.abides _ _ _ _ _ _ _ _ _ _ _ _) HJ1.out ?assign2 ?body2 ?end2 (fun a W h => h) ?next2
    case assign2 =>
      intro l v W5 K hK
      simp only [axOf, List.setIfInBounds_toArray, List.set_cons_succ, List.set_cons_zero] at hK ⊢
      gi_wp2
      exact hK
    case body2 =>
      rintro l7 k M T T1 v W5 hL ⟨hp5, vs5, Ls5, hv5, hL5, h5⟩ hTT hlt1 hv
      obtain ⟨Av, cv, rfl⟩ := hv.slice
      obtain ⟨q, hq⟩ : ∃ q, q1 + k = q := ⟨_, rfl⟩
      rw [hq] at h5
      have HQ5 := Aside0.mk hq
      have HM := Aside0.mk hL
      have HML : Aside0 (M.length ≤ 24) := ⟨fews_len S 1 M (List.mem_of_getElem? hL)⟩
      have HP5 := Aside0.mk hp5
      have HQB : Aside0 (q < 10) := ⟨by have := HQ5.out; have := HP5.out; omega⟩
      have HV5 := Aside0.mk (And.intro hv5 hL5)
      have HO5 := Aside0.mk h5
      have HTT := Aside0.mk hTT
      have HV := Aside0.mk (hv.mono (T' := fun b => T1 b ∧ ¬ T b) (fun j _ z => ⟨z.1, z.2.1⟩))
      have cx5 := (show Boxed W5 b5 79 (.pointer (some ⟨b, 0, none⟩)) from ((h5.kept' (i := b5) (.inl (.inl rfl))).trans (Below.heap_setCell _ _ _ b5 (by have := HBK5.out; show b5 ≠ bk; omega))).trans BX1.out).cell
      clear hp5 hv5 hL5 h5 hTT hlt1 hv hq hL
      simp only [axOf, List.setIfInBounds_toArray, List.set_cons_succ, List.set_cons_zero]
      have e5 : (decide (10 ≤ wrap64 ((q : Int) + 1))) = true ∨ (decide (10 ≤ wrap64 ((q : Int) + 1))) = false := by cases decide (10 ≤ wrap64 ((q : Int) + 1)) <;> simp
      rcases e5 with e5 | e5
      all_goals (
        gi_wp2_with (first
          | (refine ⟨trivial, ?_⟩; gi_at_call 27; go_loud (refine (CallsIn.inRound l7 (callsIn_wide.2 (HO5.out.ints HTT.out HV.out (by have := HML.out; omega) (by have := HV5.out.1; have := HQ5.out; have := HQB.out; have := HN.out; have := HK1.out; omega)))).mono ?_; rintro e w6 ⟨⟨r6, rfl⟩, o6, k6, z6⟩; have O6 := Aside0.mk o6; have K6 := Aside0.mk k6; have Z6 := Aside0.mk z6; obtain ⟨A6, m6, ri6, bx6, cl6⟩ := o6.all; have CL6 := Aside0.mk cl6; have RI6 := Aside0.mk ri6; have c6 := bx6.cell; clear k6 z6 o6 bx6 cl6 ri6 cx5))
          | (gi_at_builtin; go_loud (refine wpListIn_cat rfl _ _ rfl RI6.out (O6.out.at (i := vs5.length) (v := .slice Av M.length cv) (Lv := M) (by simp) (by rw [HV5.out.1, ← HV5.out.2]; simp)) (by have h1 := take_len (fews_len S 1) k; have h2 := HL1.out; have := HML.out; have := HQ5.out; have := HQB.out; rw [List.length_append]; omega) rfl rfl ?_; intro m7 w7 h1 h2 h3; obtain ⟨f7, g7, bx7, kk7, zz7, o7⟩ := CL6.out _ m7 w7 _ (fun i hi => hi) h1 h2 h3; obtain ⟨A7, d7, e7⟩ := h1.slB.slice; obtain ⟨n7, hn7⟩ : ∃ n7, (L1 ++ (List.take k (fewsOf S 1)).flatten ++ M).length = n7 := ⟨_, rfl⟩; rw [hn7] at e7; subst e7; obtain ⟨x7, hx7⟩ : ∃ x7, w7.setCell ⟨b5 + 1, 0, none⟩ (.slice A7 n7 d7) = x7 := ⟨_, rfl⟩; have zs7 : x7.heap.size = w7.heap.size := (by rw [← hx7]; simp); rw [hx7] at kk7 o7; obtain ⟨bk7, o8⟩ := o7.setX (v' := .int .i64 (wrap64 ((q : Int) + 1))) (.inl (.inr ⟨Nat.le_refl _, HBK5.out.2⟩)) BK1.out; have f8 := bk7.frozen; have g8 := bk7.cell; obtain ⟨x8, hx8⟩ : ∃ x8, x7.setCell ⟨bk, 0, none⟩ (.int .i64 (wrap64 ((q : Int) + 1))) = x8 := ⟨_, rfl⟩; have bk8 := bk7.set (.int .i64 (wrap64 ((q : Int) + 1))); have zs8 : x8.heap.size = x7.heap.size := (by rw [← hx8]; simp); have kk8 : ∀ i, i ≠ bk → x8.heap[i]? = x7.heap[i]? := (fun i hi => by rw [← hx8]; exact Below.heap_setCell x7 _ _ i hi); rw [hx8] at o8 bk8; have g9 := bk8.cell; have O8 := Aside0.mk o8; have K8 : Aside0 (∀ i, (T i ∨ (fun i => (i = b5 ∨ (bk ≤ i ∧ i < wL.heap.size)) ∨ i = D1) i) → i ≠ bk → x8.heap[i]? = W5.heap[i]?) := ⟨fun i hi hne => ((kk8 i hne).trans (kk7 i hi)).trans (K6.out i (hi.elim .inl (fun z => .inr (.inl z))))⟩; have Z8 : Aside0 (W5.heap.size ≤ x8.heap.size) := ⟨by have := Z6.out; omega⟩; have TX : Aside0 (∀ i, T i → i ≠ bk) := ⟨fun i hi z => (O6.out.hT' hi).2.2.1 (by rw [z]; exact (.inl (.inr ⟨Nat.le_refl _, HBK5.out.2⟩)))⟩; clear h1 h2 h3 o7 bx7 zz7 hn7 O6 CL6 RI6 c6 K6 Z6 kk7 kk8 zs7 zs8 bk7 bk8 o8)))
        have hw : wrap64 ((q : Int) + 1) = ((q1 + (k + 1) : Nat) : Int) := by rw [X.hwrId (by omega) (by have := HQB.out; omega)]; have := HQ5.out; omega
        have HJ := O8.out
        rw [hw, List.append_assoc, ← take_next HM.out] at HJ
        rw [hw] at e5)
      · exact ⟨⟨Z8.out, fun i hi hl => K8.out i (.inl hi) (TX.out i hi)⟩, rfl, (by have := of_decide_eq_true e5; have h3 := (List.getElem?_eq_some_iff.1 HM.out).1; have := HP5.out; have := HK1.out; have := HQ5.out; show k + 1 = min (fewK S) (fewsOf S 1).length; omega), _, _, by simp; have := HV5.out.1; omega, by simp; have := HV5.out.2; omega, HJ⟩
      · exact ⟨⟨Z8.out, fun i hi hl => hi.elim (fun z => K8.out i (.inl z) (TX.out i z)) (fun z => K8.out i (.inr ((show ((i = b5 ∨ (bk ≤ i ∧ i < wL.heap.size)) ∨ i = D1) ∧ i ≠ bk from by have y1 := FB1.out.lt i z; have y3 := FBL.out i z; have y2 := HZ.out; exact ⟨.inl (.inr (by omega)), by omega⟩)).1) ((show ((i = b5 ∨ (bk ≤ i ∧ i < wL.heap.size)) ∨ i = D1) ∧ i ≠ bk from by have y1 := FB1.out.lt i z; have y3 := FBL.out i z; have y2 := HZ.out; exact ⟨.inl (.inr (by omega)), by omega⟩)).2)⟩, (by have := HP5.out; show q1 + (k + 1) < 10; have := of_decide_eq_false e5; have := HQ5.out; omega), _, _, by simp; have := HV5.out.1; omega, by simp; have := HV5.out.2; omega, HJ⟩
    case end2 =>
      rintro T w' ⟨hp, r⟩
      exact ⟨by show (fewsOf S 1).length = min (fewK S) (fewsOf S 1).length; have h1 : q1 + (fewsOf S 1).length < 10 := hp; have := HK1.out; omega, r⟩
    case next2 =>
      rintro D2 k2 T w2' hD2 ⟨hp, vs4, Ls4, hv4, hL4, h4⟩ hdf hTD
      have kp : ∀ i, ((i = b5 ∨ (bk ≤ i ∧ i < wL.heap.size)) ∨ i = D1) → i ≠ bk → w2'.heap[i]? = w1'.heap[i]? := fun i hi hne => (h4.kept' hi).trans (Below.heap_setCell _ _ _ i hne)
      have AL2 : Aside0 (Boxed w2' (wd.heap.size + 2) 3 (.int .i64 (cntAll 3 3 : Int)) ∧ Boxed w2' (wd.heap.size + 1) 3 (.int .i64 3) ∧ Boxed w2' wd.heap.size 3 (.int .i64 3)) := ⟨by
        have hz := HZ.out
        have l1 := ALL.out
        exact ⟨(kp _ (by omega) (by omega)).trans AL1.out.1, (kp _ (by omega) (by omega)).trans AL1.out.2.1, (kp _ (by omega) (by omega)).trans AL1.out.2.2⟩⟩
      have BX2 : Aside0 (Boxed w2' b5 79 (.pointer (some ⟨b, 0, none⟩))) := ⟨(kp b5 (.inl (.inl rfl)) (by have := HBK5.out; omega)).trans BX1.out⟩
      have hd1 : D1 ≠ bk := fun z => HD1.out.2.2.1 (by rw [z]; exact .inr ⟨Nat.le_refl _, HBK5.out.2⟩)
      have DF12 : Aside0 (w2'.heap[D1]? = some (.deferred (some []))) := ⟨(kp D1 (.inr rfl) hd1).trans DF1.out⟩
      have DF2 := Aside0.mk hdf
      have HD2 := Aside0.mk (h4.hT' hTD)
      have O2 := Aside0.mk (h4.mark hTD)
      have hk2 : k2 = min (fewK S) (fewsOf S 1).length := hp
      have hfl : (List.take k2 (fewsOf S 1)).flatten = ((fewsOf S 1).take (fewK S)).flatten := by
        rw [hk2]
        rcases Nat.lt_or_ge (fewsOf S 1).length (fewK S) with z | z
        · rw [Nat.min_eq_right (by omega), List.take_of_length_le (Nat.le_refl _), List.take_of_length_le (by omega)]
        · rw [Nat.min_eq_left z]
      rw [hfl, ← HLE.out] at O2
      have HK2 := Aside0.mk (show k2 ≤ 10 from by have : fewK S ≤ 10 := (by unfold fewK; omega); omega)
      have HV4 := Aside0.mk (And.intro hv4 hL4)
      clear hp hv4 hL4 h4 hdf hTD kp hk2 hfl hd1 hD2 HJ1 AL1 BX1 BK1 DF1 FB1
      simp only [Exit.inBlock, Exit.then]
      gi_wp2_with (refine ⟨trivial, ?_⟩; gi_at_call 66; go_loud (refine (callsIn_wide.2 (wholeO _ _ _)).mono ?_; rintro e w9 ⟨rfl, h9⟩; have h9 := h9.symm; subst h9))
      have HJ2 : Aside0 (True ∧ ∃ vs Ls, vs.length = (n0 + 2 + k1 + k2) + 0 ∧ Own W B0 b (b5 + 1) (fun i => ((i = b5 ∨ (bk ≤ i ∧ i < wL.heap.size)) ∨ i = D1) ∨ i = D2) w2' vs Ls (ans0 S n P ps ++ (List.take 5 (mixesOf S)).flatten ++ (List.take (fewK S) (fewsOf S 1)).flatten) (fun _ => False) w2') := ⟨trivial, vs4, Ls4, HV4.out.1, O2.out⟩
      refine wpIn_rangeFunc_V2 83 22 rfl (by omega) (gf := 71) rfl trivial (enters_of Try.func71 (by kernel_rfl) rfl) (seq_allO 3 3 2 (by omega) w2' _ _ _ AL2.out.1 AL2.out.2.1 AL2.out.2.2) (fun i hi => by rcases hi with z | z | z | z; exact z.elim; rw [z]; exact AL2.out.1.lt; rw [z]; exact AL2.out.2.1.lt; rw [z]; exact AL2.out.2.2.lt) (Below.refl _ _) (fun i hi => rfl) (fun (k : Nat) (T : Nat → Prop) (w : World) => True ∧ ∃ vs Ls, vs.length = (n0 + 2 + k1 + k2) + k ∧ Own W B0 b (b5 + 1) (fun i => ((i = b5 ∨ (bk ≤ i ∧ i < wL.heap.size)) ∨ i = D1) ∨ i = D2) w2' vs Ls (ans0 S n P ps ++ (List.take 5 (mixesOf S)).flatten ++ (List.take (fewK S) (fewsOf S 1)).flatten) T w)
        (fun c i T W' => False) (Own.abides W B0 b (b5 + 1) _ (fun _ => w2') (fun _ => _) (fun _ _ => True) _) (fun c s T A B T' h _ _ => h) HJ2.out ?assign3 ?body3 ?done3 ?stop3
      case stop3 => exact fun D c k T W5 _ _ h _ _ => h.elim
      case assign3 =>
        intro l v W5 K hK
        simp only [axOf, List.setIfInBounds_toArray, List.set_cons_succ, List.set_cons_zero] at hK ⊢
        gi_wp2
        exact hK
      case body3 =>
        rintro l7 k M T T1 v W5 hL ⟨_, vs5, Ls5, hv5, h5⟩ hTT hlt1 hv
        have hk27 : k < 27 := by have h1 := (List.getElem?_eq_some_iff.1 hL).1; rw [allOf_len, cnt33] at h1; omega
        have hM : M.length ≤ 24 := by
          rw [allOf_get (by rw [cnt33]; omega)] at hL
          obtain rfl := Option.some.inj hL
          rw [digs_len]; decide
        have cx5 := (show Boxed W5 b5 79 (.pointer (some ⟨b, 0, none⟩)) from (h5.kept' (i := b5) (.inl (.inl (.inl rfl)))).trans BX2.out).cell
        have HV5 := Aside0.mk hv5
        have HIN := Aside0.mk (h5.ints hTT (hv.mono (T' := fun b => T1 b ∧ ¬ T b) (fun j _ z => ⟨z.1, z.2.1⟩)) (by omega) (by have := HK1.out; have := HK2.out; have := HN.out; omega))
        clear hTT hlt1 hv hL h5 hv5 hM
        simp only [axOf, List.setIfInBounds_toArray, List.set_cons_succ, List.set_cons_zero]
        gi_wp2_with (refine ⟨trivial, ?_⟩; gi_at_call 27; go_loud (refine (CallsIn.inRound l7 (callsIn_wide.2 HIN.out)).mono ?_; rintro e w6 ⟨⟨r6, rfl⟩, o6, k6, z6⟩; have O6 := Aside0.mk o6; have K6 := Aside0.mk k6; have Z6 := Aside0.mk z6; clear o6 k6 z6))
        refine ⟨⟨Z6.out, fun i hi hl => K6.out i (hi.elim .inl (fun z => .inr (.inl ?_)))⟩, trivial, _, _, by simp; have := HV5.out; omega, O6.out⟩
        have l1 := ALL.out
        have hz := HZ.out
        refine .inl (.inl (.inr ?_))
        rcases z with z | z | z <;> omega
      case done3 =>
        rintro D3 T w3' hD3 ⟨_, vs5, Ls5, hv5, h5⟩ hdf hTD
        rw [allOf_len, cnt33] at hv5
        obtain ⟨m, bm, _, _, _, _, _⟩ := h5.fin
        have cm := bm.cell
        have hd3 := h5.hT' hTD
        have d32 : D3 ≠ D2 := fun z => hd3.2.2.1 (.inr z)
        have d31 : D3 ≠ D1 := fun z => hd3.2.2.1 (.inl (.inr z))
        have d21 : D2 ≠ D1 := fun z => HD2.out.2.2.1 (.inr z)
        have e3 : w3'.heap[D3]? = some (.deferred (some [])) := hdf
        have e2 : (w3'.putObj D3 (.deferred none)).heap[D2]? = some (.deferred (some [])) := (World.putObj_heap_other (fun z => d32 z.symm)).trans ((h5.kept' (.inr rfl)).trans DF2.out)
        have e1 : ((w3'.putObj D3 (.deferred none)).putObj D2 (.deferred none)).heap[D1]? = some (.deferred (some [])) := (World.putObj_heap_other (fun z => d21 z.symm)).trans ((World.putObj_heap_other (fun z => d31 z.symm)).trans ((h5.kept' (.inl (.inr rfl))).trans DF12.out))
        have of := (((h5.mark hTD).put (.inr rfl) (.deferred none)).put (D := D2) ⟨.inl (.inr rfl), fun z => d32 z.symm⟩ (.deferred none)).put (D := D1) ⟨⟨.inl (.inl (.inr rfl)), fun z => d31 z.symm⟩, fun z => d21 z.symm⟩ (.deferred none)
        obtain ⟨m', bm', hs', B', hB', hb', ht'⟩ := of.fin
        have bmk : Boxed (((w3'.putObj D3 (.deferred none)).putObj D2 (.deferred none)).putObj D1 (.deferred none)) (b5 + 1) 26 m := (World.putObj_heap_other (fun z => HD1.out.2.2.2 z.symm)).trans ((World.putObj_heap_other (fun z => HD2.out.2.2.2 z.symm)).trans ((World.putObj_heap_other (fun z => hd3.2.2.2 z.symm)).trans bm))
        obtain rfl := boxed_injO bm' bmk
        have FIN := Aside0.mk (And.intro hs' (And.intro hB' (And.intro hb' ht')))
        have E := Aside0.mk (And.intro e3 (And.intro e2 e1))
        have HV5 := Aside0.mk hv5
        clear bm bm' bmk hs' hB' hb' ht' of e1 e2 e3 d32 d31 d21 hd3 h5 hv5 hdf hTD
        simp only [Exit.inBlock, Exit.then]
        gi_wp2
        refine ⟨by simp, .inl ⟨_, _, rfl, run_takeDeferred E.out.1, ⟨by simp, .inl ⟨_, _, rfl, run_takeDeferred E.out.2.1, ⟨by simp, .inl ⟨_, _, rfl, run_takeDeferred E.out.2.2, ?_⟩⟩⟩⟩⟩⟩
        refine ⟨m', results_slotO (p := 10) rfl _ _ _ rfl, m', rfl, FIN.out.1, B', vs5.length, FIN.out.2.1, by have := HV5.out; have := HK1.out; have := HK2.out; omega, FIN.out.2.2.1, FIN.out.2.2.2⟩
end Go.Proofs.Ytfcjfjmjcmanaaa.V
