/- SchedBoards: the law's walk. -/
import Derived.Test.YtfcjfjmjcmanaaaEj
import Derived.Test.YtfcjfjmjcmanaaaBk
set_option linter.unusedVariables false
namespace Go.Proofs.Ytfcjfjmjcmanaaa.B
open Go Go.RowKit Go.Proofs.YtfcjfjmjcmanaaaW.PrintWords Go.Proofs.YtfcjfjmjcmanaaaW.PrintLast Go.Proofs.YtfcjfjmjcmanaaaW.PrintMore
theorem add_nx2 (ad : Addr) (k j : Nat) : ad.add (k + (j + 1)) = ⟨(ad.add k).block, (ad.add k).off + (j + 1), none⟩ := by
  unfold Addr.add
  rw [if_neg (by omega)]
  split
  · rename_i h; subst h
    simp
  · simp only [Nat.add_assoc]
/-- Both boards. -/
structure So (W0 : World) (bp rp : Value) (N : Nat) (tn : List Int) (u : Int) (o : Option Bd) (T R : Nat → Prop) (W : World) : Prop where
  sb : SBo W T N bp o
  rb : RBo W R tn u rp o
  t0 : ∀ i, T i → W0.heap.size ≤ i ∧ i < W.heap.size ∧ ¬ R i
  r0 : ∀ i, R i → W0.heap.size ≤ i ∧ i < W.heap.size
  bel : Below W0.heap.size W0 W
variable {W0 W W' : World} {b N : Nat} {bp rp v : Value} {tn : List Int} {u : Int} {o : Option Bd} {T R Bk : Nat → Prop} {vs : List Value} {Ls : List (List Int)}
theorem So.made (h : So W0 bp rp N tn u o T R W) : Sa W0 W.heap.size bp rp N tn u o o T R (fun i => i = W.heap.size) [] [] (W.alloc (.cells #[.slice none 0 0, .slice none 0 0, .slice none 0 0, .slice none 0 0, .slice none 0 0, .slice none 0 0, .slice none 0 0, .slice none 0 0, .slice none 0 0, .slice none 0 0, .slice none 0 0, .slice none 0 0, .slice none 0 0, .slice none 0 0] 42)) := by
  have hb := (Below.refl W.heap.size W).alloc (Nat.le_refl _) (.cells #[.slice none 0 0, .slice none 0 0, .slice none 0 0, .slice none 0 0, .slice none 0 0, .slice none 0 0, .slice none 0 0, .slice none 0 0, .slice none 0 0, .slice none 0 0, .slice none 0 0, .slice none 0 0, .slice none 0 0, .slice none 0 0] 42)
  have hz := hb.size
  have hw := h.bel.size
  refine ⟨h.sb.kept (fun i hi => hb.block i (h.t0 i hi).2.1) hz, h.rb.kept (fun i hi => hb.block i (h.r0 i hi).2) hz, ⟨_, _, _, _, _, BkAt.new W, fun i hi => by rcases hi with z | z | z; exact z.elim; exact z.elim; exact z⟩, fun i hi => ?_, fun i hi => ?_, fun i hi => ?_, h.bel.trans (hb.mono hw)⟩
  · have q := h.t0 i hi; exact ⟨q.1, by omega, q.2.2, by omega⟩
  · have q := h.r0 i hi; exact ⟨q.1, by omega, by omega⟩
  · rw [hi]; exact ⟨hw, by simp⟩
theorem Sa.apart (h : Sa W0 b bp rp N tn u o o T R Bk vs Ls W) : Calls Try.prog 29 #[.pointer (some ⟨b, 0, none⟩)] W fun e W' => e = .returned (.bool true) ∧ So W0 bp rp N tn u o T R W' := by
  obtain ⟨T4, T5, v4, v5, us, hbk, hB⟩ := h.bk
  refine (apart_calls hbk).mono ?_
  rintro e w ⟨rfl, t⟩
  have t := t.mono (fun i hi => hB i (.inl hi))
  have hz := t.size
  exact ⟨rfl, h.sb.kept (fun i hi => t.block i (h.t0 i hi).2.1 (h.t0 i hi).2.2.2) hz, h.rb.kept (fun i hi => t.block i (h.r0 i hi).2.1 (h.r0 i hi).2.2) hz, fun i hi => by have q := h.t0 i hi; exact ⟨q.1, by omega, q.2.2.1⟩, fun i hi => by have q := h.r0 i hi; exact ⟨q.1, by omega⟩, h.bel.trans (t.below (fun i hi => (h.b0 i hi).1) h.bel.size)⟩
theorem So.good {w1 w2 : World} {p g m n r : Nat} {f : Int → Value} {ar : Nat → Addr} {cr : Nat → Nat} {B : Bd} (hb : Bat w1 T p g m 0 B f) (b1 : Below W0.heap.size W0 w1) (hT : ∀ i, T i → W0.heap.size ≤ i) (hr : RAt w2 R r ar cr n B.l tn 0) (b2 : Below w1.heap.size w1 w2) (hR : ∀ i, R i → w1.heap.size ≤ i) : So W0 (.pointer (some ⟨p, 0, none⟩)) (.pointer (some ⟨r, 0, none⟩)) 0 tn 0 (some B) T R w2 := by
  have s1 := b1.size
  have s2 := b2.size
  refine ⟨show ∃ _, _ from ⟨p, g, m, f, rfl, hb.below b2⟩, show ∃ _, _ from ⟨r, ar, cr, n, rfl, hr⟩, fun i hi => ?_, fun i hi => ?_, b1.trans (b2.mono s1)⟩
  · have q := hb.lt i hi
    exact ⟨hT i hi, by omega, fun z => by have := hR i z; omega⟩
  · have q := hR i hi
    exact ⟨by omega, hr.2.2.lt i hi⟩
theorem So.bad {w1 w2 : World} (b1 : Below W0.heap.size W0 w1) (b2 : Below w1.heap.size w1 w2) : So W0 (.pointer none) (.pointer none) 0 [] 0 none (fun _ => False) (fun _ => False) w2 :=
  ⟨(rfl : Value.pointer none = .pointer none), (rfl : Value.pointer none = .pointer none), fun i hi => hi.elim, fun i hi => hi.elim, b1.trans (b2.mono b1.size)⟩
theorem wf0 : (Lit.int .i64 0).wf = true := by decide
set_option maxRecDepth 100000
set_option maxHeartbeats 16000000
theorem schedBoards_walk (h : Int) (_ : (Lit.int .i64 h).wf = true) (A : Option Addr) (c : Nat) (l : List Op3) {W : World} (hA : OpsAt W A l ∧ ∀ x ∈ l, (Lit.int .i64 x.2.2).wf = true) (hc : l.length ≤ c) (hl : l.length ≤ 1048576) :
    Calls Try.prog 10 #[.int .i64 h, .slice A l.length c] W fun e W' => e = .returned (.bool true) ∧ Below W.heap.size W W' := by
  have HA := Aside0.mk hA
  have HL := Aside0.mk hl
  obtain ⟨n, hn⟩ : ∃ n, l.length = n := ⟨_, rfl⟩
  rw [hn] at HL ⊢
  have HNN := Aside0.mk hn
  clear hA hc hl hn
  by_cases hh : 1 ≤ h ∧ h ≤ 16
  · have X := Aside0.mk (new_calls (W := W) h hh.1 hh.2)
    have HH := Aside0.mk hh
    clear hh
    go_enter Try.func10, Try.ntmps10
    go_wp2_with (go_at_call 38; go_loud ((with_reducible refine X.out.mono ?_); rintro e w1 ⟨p, T, g, m, rfl, hb, b1, hT⟩; have HB := Aside0.mk hb; have B1 := Aside0.mk b1; have HT := Aside0.mk hT; clear hb b1 hT))
    clear X
    have X := Aside0.mk (rnew_calls h HH.out.1 HH.out.2 w1)
    go_wp2_with (go_at_call 45; go_loud ((with_reducible refine X.out.mono ?_); rintro e w2 ⟨R, r, ar, cr, rfl, hr, b2, hR⟩; have SO := Aside0.mk (So.good HB.out B1.out HT.out hr b2 hR); clear hr b2 hR))
    clear X HB B1 HT
    have SA := Aside0.mk SO.out.made
    have OI0 : Aside0 (OI (List.replicate h.toNat 0) 0 (some (Bd.new h))) := ⟨tinv_new h HH.out.1 HH.out.2⟩
    clear SO
    go_loopw [10] (fun vi wr => ∃ i : Nat, vi = .int .i64 (i : Int) ∧ Aside0 (i ≤ n) ∧ ∃ o tn u T Bk vs Ls, Aside0 (Sa W w2.heap.size (.pointer (some ⟨p, 0, none⟩)) (.pointer (some ⟨r, 0, none⟩)) i tn u o o T R Bk vs Ls wr) ∧ Aside0 (OI tn u o) ∧ Aside0 (0 ≤ u ∧ u ≤ (i : Int)) ∧ Aside0 (vs.length ≤ 3 * i)) (fun vi _ => n - (intOf vi).toNat)
    case atStart => exact ⟨0, rfl, ⟨Nat.zero_le _⟩, _, _, _, _, _, _, _, SA, OI0, ⟨by omega⟩, ⟨by simp⟩⟩
    case round =>
      clear SA OI0
      obtain ⟨i, rfl, Hi, o, tn, u, T1, Bk, vs, Ls, SS, OO, HU, HV⟩ := hrel
      rename World => W3
      by_cases hlt : i < n
      · have q1 : decide (i < n) = true := decide_eq_true hlt
        have q2 : decide ((i : Int) < (n : Int)) = true := decide_eq_true (by omega)
        have p0 : ((0 : Int) ≤ (i : Int)) = True := eq_true (by omega)
        have p1 : ((i : Int) < (n : Int)) = True := eq_true (by omega)
        obtain ⟨⟨kd, x, on⟩, hx⟩ : ∃ x, l[i]? = some x := ⟨_, List.getElem?_eq_getElem (by have := HNN.out; omega)⟩
        obtain ⟨ad, rfl, d0, d1, d2⟩ := (HA.out.1.below SS.out.bel) i _ hx
        have HON := Aside0.mk (HA.out.2 _ (List.mem_of_getElem? hx))
        simp only at d0 d1 d2 HON
        have d1' : W3.cell? ⟨(ad.add (i * 3)).block, (ad.add (i * 3)).off + 1, none⟩ = some (.int .i64 x) := by rw [← add_nx2]; exact d1
        have d2' : W3.cell? ⟨(ad.add (i * 3)).block, (ad.add (i * 3)).off + 2, none⟩ = some (.int .i64 on) := by rw [← add_nx2]; exact d2
        have HX2 : Aside0 (∀ w, Below W.heap.size W w → w.cell? (ad.add (i * 3 + 2)) = some (.int .i64 on) ∧ w.cell? ⟨(ad.add (i * 3)).block, (ad.add (i * 3)).off + 2, none⟩ = some (.int .i64 on)) := ⟨fun w hb => by
          obtain ⟨ad2, e2, z0, z1, z2⟩ := (HA.out.1.below hb) i _ hx
          cases e2
          exact ⟨z2, by rw [← add_nx2]; exact z2⟩⟩
        have HLT := Aside0.mk hlt
        have HW1 := Aside0.mk (show wrap64 ((i : Int) + 1) = ((i + 1 : Nat) : Int) by rw [X.hwrId (by omega) (by have := HL.out; omega)]; omega)
        have X := Aside0.mk (does_calls SS.out OO.out (by have := HL.out; unfold maxLen; omega) (X.hwrId (by have := HU.out; omega) (by have := HU.out; have := HL.out; omega)) (by have := HV.out; have := HL.out; omega) kd x on HON.out)
        clear hx hlt
        go_wp2_with (go_at_call 46; go_loud ((with_reducible refine X.out.mono ?_); rintro e w4 ⟨rfl, hd⟩; obtain ⟨o4, tn4, u4, T4, Bk4, vs4, Ls4, s4, i4, u4a, v4a⟩ := hd; obtain ⟨y2, y2'⟩ := HX2.out w4 s4.bel; have S4 := Aside0.mk s4; have I4 := Aside0.mk i4; have U4 := Aside0.mk u4a; have V4 := Aside0.mk v4a; clear s4 i4 u4a v4a))
        clear X d0 d1 d2 d1' d2'
        have X := Aside0.mk (asks_calls S4.out I4.out on HON.out (by have := V4.out; have := HV.out; have := HL.out; have := HLT.out; omega))
        go_wp2_with (go_at_call 47; go_loud ((with_reducible refine X.out.mono ?_); rintro e w5 ⟨rfl, Bk5, vs5, Ls5, s5, v5a⟩; have S5 := Aside0.mk s5; have V5 := Aside0.mk v5a; clear s5 v5a))
        exact ⟨⟨i + 1, by rw [HW1.out], ⟨HLT.out⟩, o4, tn4, u4, T4, Bk5, vs5, Ls5, S5, I4, ⟨by have := U4.out; have := HU.out; omega⟩, ⟨by have := V5.out; have := V4.out; have := HV.out; omega⟩⟩, by rw [HW1.out]; simp only [intOf]; have := HLT.out; omega⟩
      · have q1 : decide (i < n) = false := decide_eq_false hlt
        have q2 : decide ((i : Int) < (n : Int)) = false := decide_eq_false (by omega)
        have X := Aside0.mk (asks_calls SS.out OO.out 0 wf0 (by have := HV.out; have := HL.out; have := Hi.out; omega))
        clear hlt
        go_wp2_with (go_at_call 47; go_loud ((with_reducible refine X.out.mono ?_); rintro e w5 ⟨rfl, Bk5, vs5, Ls5, s5, v5a⟩; have S5 := Aside0.mk s5; clear s5 v5a))
        clear X
        have X := Aside0.mk S5.out.apart
        go_wp2_with (go_at_call 29; go_loud ((with_reducible refine X.out.mono ?_); rintro e w6 ⟨rfl, s6⟩; have S6 := Aside0.mk s6.made; clear s6))
        clear X
        have X := Aside0.mk (asks_calls S6.out OO.out 0 wf0 (by simp))
        go_wp2_with (go_at_call 47; go_loud ((with_reducible refine X.out.mono ?_); rintro e w7 ⟨rfl, Bk7, vs7, Ls7, s7, v7a⟩; have E7 := Aside0.mk s7.bel; clear s7 v7a))
        go_ret
        exact ⟨rfl, E7.out⟩
  · have X := Aside0.mk (new_bad (W := W) h hh)
    have HH := Aside0.mk (show h < 1 ∨ 16 < h by omega)
    clear hh
    go_enter Try.func10, Try.ntmps10
    go_wp2_with (go_at_call 38; go_loud ((with_reducible refine X.out.mono ?_); rintro e w1 ⟨rfl, b1⟩; have B1 := Aside0.mk b1.below; clear b1))
    clear X
    have X := Aside0.mk (rnew_bad h HH.out w1)
    go_wp2_with (go_at_call 45; go_loud ((with_reducible refine X.out.mono ?_); rintro e w2 ⟨rfl, b2⟩; have SO := Aside0.mk (So.bad B1.out b2); clear b2))
    clear X B1
    have SA := Aside0.mk SO.out.made
    have OI0 : Aside0 (OI [] 0 none) := ⟨trivial⟩
    clear SO
    go_loopw [10] (fun vi wr => ∃ i : Nat, vi = .int .i64 (i : Int) ∧ Aside0 (i ≤ n) ∧ ∃ o tn u T Bk vs Ls, Aside0 (Sa W w2.heap.size (.pointer none) (.pointer none) i tn u o o T (fun _ => False) Bk vs Ls wr) ∧ Aside0 (OI tn u o) ∧ Aside0 (0 ≤ u ∧ u ≤ (i : Int)) ∧ Aside0 (vs.length ≤ 3 * i)) (fun vi _ => n - (intOf vi).toNat)
    case atStart => exact ⟨0, rfl, ⟨Nat.zero_le _⟩, _, _, _, _, _, _, _, SA, OI0, ⟨by omega⟩, ⟨by simp⟩⟩
    case round =>
      clear SA OI0
      obtain ⟨i, rfl, Hi, o, tn, u, T1, Bk, vs, Ls, SS, OO, HU, HV⟩ := hrel
      rename World => W3
      by_cases hlt : i < n
      · have q1 : decide (i < n) = true := decide_eq_true hlt
        have q2 : decide ((i : Int) < (n : Int)) = true := decide_eq_true (by omega)
        have p0 : ((0 : Int) ≤ (i : Int)) = True := eq_true (by omega)
        have p1 : ((i : Int) < (n : Int)) = True := eq_true (by omega)
        obtain ⟨⟨kd, x, on⟩, hx⟩ : ∃ x, l[i]? = some x := ⟨_, List.getElem?_eq_getElem (by have := HNN.out; omega)⟩
        obtain ⟨ad, rfl, d0, d1, d2⟩ := (HA.out.1.below SS.out.bel) i _ hx
        have HON := Aside0.mk (HA.out.2 _ (List.mem_of_getElem? hx))
        simp only at d0 d1 d2 HON
        have d1' : W3.cell? ⟨(ad.add (i * 3)).block, (ad.add (i * 3)).off + 1, none⟩ = some (.int .i64 x) := by rw [← add_nx2]; exact d1
        have d2' : W3.cell? ⟨(ad.add (i * 3)).block, (ad.add (i * 3)).off + 2, none⟩ = some (.int .i64 on) := by rw [← add_nx2]; exact d2
        have HX2 : Aside0 (∀ w, Below W.heap.size W w → w.cell? (ad.add (i * 3 + 2)) = some (.int .i64 on) ∧ w.cell? ⟨(ad.add (i * 3)).block, (ad.add (i * 3)).off + 2, none⟩ = some (.int .i64 on)) := ⟨fun w hb => by
          obtain ⟨ad2, e2, z0, z1, z2⟩ := (HA.out.1.below hb) i _ hx
          cases e2
          exact ⟨z2, by rw [← add_nx2]; exact z2⟩⟩
        have HLT := Aside0.mk hlt
        have HW1 := Aside0.mk (show wrap64 ((i : Int) + 1) = ((i + 1 : Nat) : Int) by rw [X.hwrId (by omega) (by have := HL.out; omega)]; omega)
        have X := Aside0.mk (does_calls SS.out OO.out (by have := HL.out; unfold maxLen; omega) (X.hwrId (by have := HU.out; omega) (by have := HU.out; have := HL.out; omega)) (by have := HV.out; have := HL.out; omega) kd x on HON.out)
        clear hx hlt
        go_wp2_with (go_at_call 46; go_loud ((with_reducible refine X.out.mono ?_); rintro e w4 ⟨rfl, hd⟩; obtain ⟨o4, tn4, u4, T4, Bk4, vs4, Ls4, s4, i4, u4a, v4a⟩ := hd; obtain ⟨y2, y2'⟩ := HX2.out w4 s4.bel; have S4 := Aside0.mk s4; have I4 := Aside0.mk i4; have U4 := Aside0.mk u4a; have V4 := Aside0.mk v4a; clear s4 i4 u4a v4a))
        clear X d0 d1 d2 d1' d2'
        have X := Aside0.mk (asks_calls S4.out I4.out on HON.out (by have := V4.out; have := HV.out; have := HL.out; have := HLT.out; omega))
        go_wp2_with (go_at_call 47; go_loud ((with_reducible refine X.out.mono ?_); rintro e w5 ⟨rfl, Bk5, vs5, Ls5, s5, v5a⟩; have S5 := Aside0.mk s5; have V5 := Aside0.mk v5a; clear s5 v5a))
        exact ⟨⟨i + 1, by rw [HW1.out], ⟨HLT.out⟩, o4, tn4, u4, T4, Bk5, vs5, Ls5, S5, I4, ⟨by have := U4.out; have := HU.out; omega⟩, ⟨by have := V5.out; have := V4.out; have := HV.out; omega⟩⟩, by rw [HW1.out]; simp only [intOf]; have := HLT.out; omega⟩
      · have q1 : decide (i < n) = false := decide_eq_false hlt
        have q2 : decide ((i : Int) < (n : Int)) = false := decide_eq_false (by omega)
        have X := Aside0.mk (asks_calls SS.out OO.out 0 wf0 (by have := HV.out; have := HL.out; have := Hi.out; omega))
        clear hlt
        go_wp2_with (go_at_call 47; go_loud ((with_reducible refine X.out.mono ?_); rintro e w5 ⟨rfl, Bk5, vs5, Ls5, s5, v5a⟩; have S5 := Aside0.mk s5; clear s5 v5a))
        clear X
        have X := Aside0.mk S5.out.apart
        go_wp2_with (go_at_call 29; go_loud ((with_reducible refine X.out.mono ?_); rintro e w6 ⟨rfl, s6⟩; have S6 := Aside0.mk s6.made; clear s6))
        clear X
        have X := Aside0.mk (asks_calls S6.out OO.out 0 wf0 (by simp))
        go_wp2_with (go_at_call 47; go_loud ((with_reducible refine X.out.mono ?_); rintro e w7 ⟨rfl, Bk7, vs7, Ls7, s7, v7a⟩; have E7 := Aside0.mk s7.bel; clear s7 v7a))
        go_ret
        exact ⟨rfl, E7.out⟩
end Go.Proofs.Ytfcjfjmjcmanaaa.B
