/- SchedMixes: the law. -/
import Derived.Test.YtfcjfjmjcmanaaaShq
import Derived.Test.YtfcjfjmjcmanaaaGx
set_option linter.unusedVariables false
namespace Go.Proofs.Ytfcjfjmjcmanaaa.V
open Go Go.RowKit Go.Proofs.Ytfcjfjmjcmanaaa.X Go.Proofs.Ytfcjfjmjcmanaaa.PThere Go.Proofs.Ytfcjfjmjcmanaaa.O Go.Proofs.Ytfcjfjmjcmanaaa.B Go.Proofs.YtfcjfjmjcmanaaaW.PrintWords Go.Proofs.YtfcjfjmjcmanaaaW.PrintLast Go.Proofs.YtfcjfjmjcmanaaaW.PrintMore
theorem goes_calls {W : World} {sv : Value} {L : List Int} {most stop : Int} (hs : RdS W sv L) (g : Nat) (lb : Array Value) (Rd : Nat → Prop) (hFg : Fence.wide.fn g) (eg : ∀ args w, (callFunc g args).run Try.prog w = .ok (.enter g args) w) (hR : ∀ b, Rd b → b < W.heap.size) (hseq : SeqV Fence.wide 2 Try.prog g lb Rd (fun _ => False) (fewsOf L most) W) :
    Calls Try.prog 59 #[.func (.func g) #[] lb, sv, .int .i64 most, .int .i64 stop] W fun e W' => e = .returned (.bool true) ∧ Below W.heap.size W W' := by
  refine (callsIn_wide (n := 3)).1 ?_
  by_cases h : fewOk L = true ∧ 0 ≤ most
  · obtain ⟨s, rfl, hok, _⟩ := few_yes h.1
    exact goes_yes hok h.2 hs g lb Rd hFg eg hR hseq
  · refine goes_no ?_ hs g lb Rd hFg eg hR hseq
    by_cases hf : fewOk L = true
    · exact .inr (by have : ¬ 0 ≤ most := fun z => h ⟨hf, z⟩; omega)
    · exact .inl (by simpa using hf)
theorem seq_mixes24 {base Bo Bs : Nat} {sv : Value} {L : List Int} {w0 : World} (h : MB base Bo Bs sv L w0) : SeqV Fence.wide 2 Try.prog 108 #[.pointer (some ⟨Bo, 0, none⟩), .pointer (some ⟨Bs, 0, none⟩)] (MB.Rd Bo Bs sv) (fun _ => False) (fewsOf L 24) w0 := by
  have e : fewsOf L 24 = mixesOf L := by
    by_cases hf : fewOk L = true
    · exact fews_all hf
    · have hf : fewOk L = false := by simpa using hf
      rw [fews_no (.inl hf)]
      unfold mixesOf
      rw [hf]; rfl
  rw [e]
  exact seq_mixes 2 (by omega) w0 h
theorem count_callsR {W : World} {v : Value} {L : List Int} {r1 r2 : Int} (h : RdS W v L) (hc : sched_Count.f 80 L = some (r1, r2)) : Calls Try.prog 51 #[v] W fun e W' => e = .returned (.tuple #[.int .i64 r1, .int .i64 r2]) ∧ Drawn0 W W' := by
  obtain ⟨A, c, rfl, h1, hC⟩ := h
  exact sched_Count.calls 80 A c L r1 r2 W hC h1 hc
theorem eq_nilS (g : Nat) (lb : Array Value) (W : World) : (binOp BinOp.eql 31 (.func (.func g) #[] lb) .nilFunc).run Try.prog W = .ok (.bool false) W := by
  kernel_rfl
/-- What was lent: the row is the call's own. -/
theorem lent_row {W : World} {v : Value} {L : List Int} (h : RdS W v L) (hl : L.length ≤ 17592186043904) : Calls Try.prog 30 #[v] W fun e W' => ∃ A c, e = .returned (.slice A L.length c) ∧ SlB W' (fun j => W.heap.size ≤ j) (.slice A (L ++ Z.nine 0 9).length c) (L ++ Z.nine 0 9) ∧ Below W.heap.size W W' := by
  obtain ⟨A, c, rfl, h1, hC⟩ := h
  refine (X.lentO_calls 20 A c L (L ++ Z.nine 0 9) W hC h1 (Z.lent_eq L hl)).mono ?_
  rintro e w' ⟨A', c', rfl, hR, hB⟩
  exact ⟨A', c', rfl, slB_of_R hR, hB⟩
theorem rdS_front {W : World} {T : Nat → Prop} {A : Option Addr} {c : Nat} {L M : List Int} (h : SlB W T (.slice A (L ++ M).length c) (L ++ M)) : RdS W (.slice A L.length c) L := by
  obtain ⟨A', c', e, h1, _, hC⟩ := h.C
  obtain ⟨rfl, _, rfl⟩ : A = A' ∧ (L ++ M).length = (L ++ M).length ∧ c = c' := by simpa using e
  refine ⟨A, c, rfl, by rw [List.length_append] at h1; omega, ?_⟩
  have := Kd.C_take (m := L.length) hC (by simp)
  simpa using this
theorem kept_row {W : World} {T : Nat → Prop} {A : Option Addr} {c : Nat} {v : Value} {L : List Int} (h : SlB W T (.slice A (L ++ Z.nine 0 9).length c) (L ++ Z.nine 0 9)) (hv : RdS W v L) (hl : L.length ≤ 17592186043904) : Calls Try.prog 33 #[.slice A L.length c, v] W fun e W' => e = .returned (.bool true) ∧ Drawn0 W W' := by
  obtain ⟨A', c', e, h1, _, hC⟩ := h.C
  obtain ⟨rfl, _, rfl⟩ : A = A' ∧ (L ++ Z.nine 0 9).length = (L ++ Z.nine 0 9).length ∧ c = c' := by simpa using e
  obtain ⟨A1, c1, rfl, h2, hC1⟩ := hv
  exact kept_calls (L.length + 20) A c (L ++ Z.nine 0 9) A1 c1 L true W hC h1 hC1 h2 (by simp [Z.nine]) (by omega) (Z.kept_loop L hl (L.length + 9) 0 _ (by omega) (by omega))
/-- While what was lent is written over. -/
structure Sx (W : World) (b1 b2 : Nat) (sv : Value) (L : List Int) (most : Int) (o1 s1 : Nat) (v1 : Value) (o2 s2 m2 : Nat) (v2 : Value) (u : Value) (N : Nat) (w : World) : Prop where
  row : ∃ R, SlB w (fun j => W.heap.size ≤ j ∧ j < b1) u R ∧ R.length = N
  mb : MB b1 o1 s1 v1 L w
  fb : FB b2 o2 s2 m2 v2 L most w
  b12 : b1 ≤ b2
  st : RdS w sv L
  below : Below W.heap.size W w
theorem Sx.grow {W : World} {b1 b2 : Nat} {sv : Value} {L : List Int} {most : Int} {o1 s1 : Nat} {v1 : Value} {o2 s2 m2 : Nat} {v2 : Value} {u : Value} {N : Nat} {w w' : World} (x : Sx W b1 b2 sv L most o1 s1 v1 o2 s2 m2 v2 u N w) (hb : Below w.heap.size w w') : Sx W b1 b2 sv L most o1 s1 v1 o2 s2 m2 v2 u N w' := by
  obtain ⟨R, hR, hN⟩ := x.row
  exact ⟨⟨R, hR.kept (fun j hj => hb.block j (hR.own hj).2), hN⟩, x.mb.below hb (Nat.le_refl _), x.fb.below hb (Nat.le_refl _), x.b12, x.st.below hb, x.below.trans (hb.mono x.below.size)⟩
theorem Sx.set {W : World} {b1 b2 : Nat} {sv : Value} {L : List Int} {most : Int} {o1 s1 : Nat} {v1 : Value} {o2 s2 m2 : Nat} {v2 : Value} {ad : Addr} {c N : Nat} {w : World} (x : Sx W b1 b2 sv L most o1 s1 v1 o2 s2 m2 v2 (.slice (some ad) N c) N w) (hs : RdS W sv L) (i : Nat) (hi : i < N) : w.frozen? (ad.add i) = false ∧ (∃ y, w.cell? (ad.add i) = some y) ∧ Sx W b1 b2 sv L most o1 s1 v1 o2 s2 m2 v2 (.slice (some ad) N c) N (w.setCell (ad.add i) (.int .i64 1)) := by
  obtain ⟨R, hR, hN⟩ := x.row
  have hown := hR.own (j := ad.block) rfl
  obtain ⟨ad2, e2, hc⟩ := hR.cell (i : Int) (by omega) (by omega)
  obtain rfl := Option.some.inj e2
  obtain ⟨k1, k2, k3⟩ := hR.set i (by omega) 1
  have kp : ∀ b, b1 ≤ b → b < w.heap.size → (w.setCell (ad.add i) (.int .i64 1)).heap[b]? = w.heap[b]? := fun b h1 h2 => k3.block b h2 (fun e => by cases e; have := hown.1.2; omega)
  have b12 := x.b12
  have hbl := x.below.trans ((Turn.of_grown k3 (T := fun q => W.heap.size ≤ q) (fun q hq => by cases hq; exact hown.1.1)).below (fun b hb => hb) x.below.size)
  exact ⟨k1, ⟨_, by simpa using hc⟩, ⟨⟨_, k2, by simpa using hN⟩, x.mb.kept (fun b hb => kp b (x.mb.lt b hb).1 (x.mb.lt b hb).2), x.fb.kept (fun b hb => kp b (by have := (x.fb.lt b hb).1; omega) (x.fb.lt b hb).2), x.b12, hs.below hbl, hbl⟩⟩
set_option maxRecDepth 100000
set_option maxHeartbeats 4000000
theorem schedMixes_walk (A0 : Option Addr) (c0 : Nat) (L : List Int) {W : World} (hr0 : Kd.C (Kd.int .i64) W A0 L.length L) (hc0 : L.length ≤ c0) (y0 : L.length * 8 ≤ 140737488351232) (zw : ∀ x ∈ L, (Lit.int .i64 x).wf = true)
    (most : Int) (_ : (Lit.int .i64 most).wf = true) (stop : Int) (_ : (Lit.int .i64 stop).wf = true) :
    Calls Try.prog 13 #[.slice A0 L.length c0, .int .i64 most, .int .i64 stop] W fun e W' => e = .returned (.bool true) ∧ Below W.heap.size W W' := by
  have hs : RdS W (.slice A0 L.length c0) L := ⟨A0, c0, rfl, hc0, hr0⟩
  have hl : L.length ≤ 17592186043904 := by omega
  obtain ⟨r1, r2, hcnt, _⟩ := count_few L
  have HS := Aside0.mk hs
  have HL := Aside0.mk hl
  have HC := Aside0.mk hcnt
  have heq8 := eq_nilS 108
  have heq10 := eq_nilS 110
  have HB0 := Aside0.mk (Below.refl W.heap.size W)
  clear hs hl hcnt hr0 hc0 y0 zw
  have hE8 := Aside0.mk (enters_of Try.func108 (by kernel_rfl) rfl : Enters Try.prog 108)
  have hE10 := Aside0.mk (enters_of Try.func110 (by kernel_rfl) rfl : Enters Try.prog 110)
  go_enter Try.func13, Try.ntmps13
  go_wp2_with (first
    | (go_at_call 30; go_loud (refine (lent_row HS.out HL.out).mono ?_; rintro e w3 ⟨A, c, rfl, hrow, hb⟩; have B3 := Aside0.mk hb; have R3 := Aside0.mk hrow; clear hrow hb))
    | (go_at_call 56; go_loud (refine (mixes_calls (rdS_front R3.out) HL.out).mono ?_; rintro e w4 ⟨o1, s1, v1, rfl, mb, hb⟩; have B4 := Aside0.mk (below_step B3.out hb); have HZ4 := Aside0.mk hb.size; have M4 := Aside0.mk mb; have R4 := Aside0.mk (R3.out.kept (fun j hj => hb.block j (R3.out.own hj).2)); have Z4 := Aside0.mk (fun j (hj : Value.ownBlock (.slice A (L ++ Z.nine 0 9).length c) = some j) => (R3.out.own hj).2); clear mb hb))
    | (go_at_call 57; go_loud (refine (few_of (rdS_front R4.out) HL.out).mono ?_; rintro e w5 ⟨o2, s2, m2, v2, rfl, fb, hb⟩; have B5 := Aside0.mk (below_step B4.out hb); have M5 := Aside0.mk (M4.out.below hb (Nat.le_refl _)); have F5 := Aside0.mk fb; have R5 := Aside0.mk (R4.out.kept (fun j hj => hb.block j (R4.out.own hj).2)); have Z5 := Aside0.mk (fun j (hj : Value.ownBlock (.slice A (L ++ Z.nine 0 9).length c) = some j) => (R4.out.own hj).2); clear fb hb))
    | (go_at_call 51; go_loud (refine (count_callsR (rdS_front R5.out) HC.out).mono ?_; rintro e w6 ⟨rfl, hd⟩; have D6 := Aside0.mk hd; clear hd))
    | (go_at_call 58; go_loud (refine (rcount_calls (HS.out.below (below_step B5.out (drawn_bel D6.out w5.heap.size))) HC.out).mono ?_; rintro e w7 ⟨rfl, hd⟩; have D7 := Aside0.mk ((drawn_bel D6.out w5.heap.size).trans ((drawn_bel hd w6.heap.size).mono (drawn_bel D6.out w5.heap.size).size)); clear hd D6))
    | (go_at_call 33; go_loud (refine (kept_row (R5.out.kept (fun j hj => D7.out.block j (R5.out.own hj).2)) (HS.out.below (below_step B5.out D7.out)) HL.out).mono ?_; rintro e w8 ⟨rfl, hd⟩; have D8 := Aside0.mk (D7.out.trans ((drawn_bel hd w7.heap.size).mono D7.out.size)); clear hd)))
  have RZ := Aside0.mk (R5.out.kept (fun j hj => D8.out.block j (R5.out.own hj).2))
  have hN9 : (L ++ Z.nine 0 9).length = L.length + 9 := by simp [Z.nine]
  obtain ⟨ad, rfl, _⟩ := RZ.out.cell 0 (by omega) (by rw [hN9]; omega)
  obtain ⟨N, hN⟩ : ∃ N, (L ++ Z.nine 0 9).length = N := ⟨_, rfl⟩
  have HN := Aside0.mk (show L.length < N by omega)
  have SX := Aside0.mk (Sx.mk (W := W) (b1 := w3.heap.size) (b2 := w4.heap.size) (sv := .slice A0 L.length c0) (L := L) (most := most) (u := .slice (some ad) N c) (N := N) ⟨_, by rw [← hN]; exact RZ.out.mono (fun j hj hT => ⟨hT, Z4.out j hj⟩), hN⟩ (M5.out.below D8.out (Nat.le_refl _)) (F5.out.below D8.out (Nat.le_refl _)) (by have h1 := B4.out.size; have h2 := B3.out.size; exact HZ4.out) (HS.out.below (below_step B5.out D8.out)) (below_step B5.out D8.out))
  clear RZ hN9 hN B3 R3 B4 M4 R4 Z4 B5 M5 F5 R5 Z5 D7 D8 HZ4
  go_loopw [14] (fun p wr => ∃ i : Nat, p = .int .i64 (i : Int) ∧ Aside0 (i ≤ L.length) ∧ Aside0 (Sx W w3.heap.size w4.heap.size (.slice A0 L.length c0) L most o1 s1 v1 o2 s2 m2 v2 (.slice (some ad) N c) N wr)) (fun p _ => L.length - (intOf p).toNat)
  case atStart => exact ⟨0, rfl, ⟨by omega⟩, SX⟩
  case round =>
    clear SX
    obtain ⟨i, rfl, Hi, SX⟩ := hrel
    have wi := Aside0.mk (show wrap64 ((i : Int) + 1) = ((i + 1 : Nat) : Int) by rw [hwrId (by omega) (by have := Hi.out; have := HL.out; omega)]; omega)
    by_cases hlt : i < L.length
    · have q1 : decide (i < L.length) = true := decide_eq_true hlt
      have q2 : decide ((i : Int) < (L.length : Int)) = true := decide_eq_true (by omega)
      have p0 : ((0 : Int) ≤ (i : Int)) = True := eq_true (by omega)
      have p1 : ((i : Int) < (L.length : Int)) = True := eq_true (by omega)
      obtain ⟨f1, ⟨y1, x1⟩, s2⟩ := SX.out.set HS.out i (by have := HN.out; omega)
      have S2 := Aside0.mk s2
      have HLT := Aside0.mk hlt
      clear s2
      replace hlt := eq_true hlt
      go_wp2
      exact ⟨⟨i + 1, by first | rfl | rw [wi.out], ⟨by have := HLT.out; omega⟩, S2⟩, by first | (simp only [intOf]; have := HLT.out; omega) | (rw [wi.out]; simp only [intOf]; have := HLT.out; omega)⟩
    · have q1 : decide (i < L.length) = false := decide_eq_false hlt
      have q2 : decide ((i : Int) < (L.length : Int)) = false := decide_eq_false (by omega)
      clear hlt
      have GA := Aside0.mk (fun (st : Int) (w : World) (sx : Sx W w3.heap.size w4.heap.size (.slice A0 L.length c0) L most o1 s1 v1 o2 s2 m2 v2 (.slice (some ad) N c) N w) => goes_calls (most := 24) (stop := st) sx.st 108 _ (MB.Rd o1 s1 v1) trivial hE8.out (fun b hb => (sx.mb.lt b hb).2) (seq_mixes24 sx.mb))
      have GF := Aside0.mk (fun (st : Int) (w : World) (sx : Sx W w3.heap.size w4.heap.size (.slice A0 L.length c0) L most o1 s1 v1 o2 s2 m2 v2 (.slice (some ad) N c) N w) => goes_calls (most := most) (stop := st) sx.st 110 _ (FB.Rd o2 s2 m2 v2) trivial hE10.out (fun b hb => (sx.fb.lt b hb).2) (seq_few 2 (by omega) w sx.fb))
      clear hE8 hE10
      go_wp2_with (first
        | (go_at_call 59; (refine (GA.out stop _ SX.out).mono ?_; rintro e w11 ⟨rfl, hb⟩; have S11 := Aside0.mk (SX.out.grow hb); clear hb SX))
        | (go_at_call 59; (refine (GF.out stop _ S11.out).mono ?_; rintro e w12 ⟨rfl, hb⟩; have S12 := Aside0.mk (S11.out.grow hb); clear hb S11))
        | (go_at_call 59; (refine (GA.out 0 _ S12.out).mono ?_; rintro e w13 ⟨rfl, hb⟩; have S13 := Aside0.mk (S12.out.grow hb); clear hb S12))
        | (go_at_call 59; (refine (GF.out 0 _ S13.out).mono ?_; rintro e w14 ⟨rfl, hb⟩; have S14 := Aside0.mk (S13.out.grow hb); clear hb S13)))
      go_ret
      exact ⟨rfl, S14.out.below⟩
end Go.Proofs.Ytfcjfjmjcmanaaa.V
