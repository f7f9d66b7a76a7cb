/- SchedBoards: all that a board can be asked. -/
import Derived.Test.YtfcjfjmjcmanaaaEh
set_option linter.unusedVariables false
namespace Go.Proofs.Ytfcjfjmjcmanaaa.B
open Go Go.RowKit Go.Proofs.YtfcjfjmjcmanaaaW.PrintWords Go.Proofs.YtfcjfjmjcmanaaaW.PrintLast Go.Proofs.YtfcjfjmjcmanaaaW.PrintMore Go.Proofs.Ytfcjfjmjcmanaaa.PBase
/-- The books, theirs are the blocks Bk at most. -/
def Bk2 (W : World) (b : Nat) (Bk : Nat → Prop) (vs : List Value) (Ls : List (List Int)) : Prop := ∃ T4 T5 v4 v5 us, BkAt W T4 T5 b v4 v5 vs us Ls ∧ ∀ i, (T4 i ∨ T5 i ∨ i = b) → Bk i
/-- Both boards and the books, apart from each other. -/
structure Sa (W0 : World) (b : Nat) (bp rp : Value) (N : Nat) (tn : List Int) (u : Int) (o o2 : Option Bd) (T R Bk : Nat → Prop) (vs : List Value) (Ls : List (List Int)) (W : World) : Prop where
  sb : SBo W T N bp o
  rb : RBo W R tn u rp o2
  bk : Bk2 W b Bk vs Ls
  t0 : ∀ i, T i → W0.heap.size ≤ i ∧ i < W.heap.size ∧ ¬ R i ∧ ¬ Bk i
  r0 : ∀ i, R i → W0.heap.size ≤ i ∧ i < W.heap.size ∧ ¬ Bk i
  b0 : ∀ i, Bk i → W0.heap.size ≤ i ∧ i < W.heap.size
  bel : Below W0.heap.size W0 W
variable {W0 W W' : World} {b N : Nat} {bp rp v v' : Value} {tn : List Int} {u : Int} {o o2 : Option Bd} {T R Bk Tv Tw : Nat → Prop} {vs : List Value} {Ls : List (List Int)} {L : List Int}
theorem Sa.below (h : Sa W0 b bp rp N tn u o o2 T R Bk vs Ls W) (hb : Below W.heap.size W W') : Sa W0 b bp rp N tn u o o2 T R Bk vs Ls W' := by
  obtain ⟨T4, T5, v4, v5, us, hbk, hB⟩ := h.bk
  have hz := hb.size
  exact ⟨h.sb.kept (fun i hi => hb.block i (h.t0 i hi).2.1) hz, h.rb.kept (fun i hi => hb.block i (h.r0 i hi).2.1) hz, ⟨T4, T5, v4, v5, us, hbk.below hb, hB⟩, fun i hi => by have q := h.t0 i hi; exact ⟨q.1, by omega, q.2.2⟩, fun i hi => by have q := h.r0 i hi; exact ⟨q.1, by omega, q.2.2⟩, fun i hi => by have q := h.b0 i hi; exact ⟨q.1, by omega⟩, h.bel.trans (hb.mono h.bel.size)⟩
theorem Sa.at (h : Sa W0 b bp rp N tn u o o2 T R Bk vs Ls W) {i : Nat} (hv : vs[i]? = some v) (hL : Ls[i]? = some L) : SlB W (fun _ => True) v L := by
  obtain ⟨T4, T5, v4, v5, us, hbk, hB⟩ := h.bk
  exact (hbk.l4.ls i v L hv hL).mono (fun _ _ _ => trivial)
theorem Sa.len (h : Sa W0 b bp rp N tn u o o2 T R Bk vs Ls W) : Ls.length = vs.length := by
  obtain ⟨T4, T5, v4, v5, us, hbk, hB⟩ := h.bk
  exact hbk.l4.len
/-- books.Ints. -/
theorem Sa.ints (h : Sa W0 b bp rp N tn u o o2 T R Bk vs Ls W) (hv : SlB W Tv v L) (hvn : ∀ j, v.ownBlock = some j → W0.heap.size ≤ j ∧ ¬ T j ∧ ¬ R j ∧ ¬ Bk j) (hl : L.length ≤ 16) (hn : vs.length + 11 ≤ 4398046511104) :
    Calls Try.prog 27 #[.pointer (some ⟨b, 0, none⟩), v] W fun e W' => (∃ r, e = .returned r) ∧ ∃ Bk', Sa W0 b bp rp N tn u o o2 T R Bk' (vs ++ [v]) (Ls ++ [L]) W' ∧ Turn Bk W W' ∧ ∀ i, Bk' i → Bk i ∨ v.ownBlock = some i ∨ W.heap.size ≤ i := by
  obtain ⟨T4, T5, v4, v5, us, hbk, hB⟩ := h.bk
  refine (ints_calls hbk hv (fun j hj => ?_) (by omega) hn).mono ?_
  · have q := (hvn j hj).2.2.2
    exact ⟨fun z => q (hB j (.inl z)), fun z => q (hB j (.inr (.inl z))), fun z => q (hB j (.inr (.inr z)))⟩
  rintro e w' ⟨hr, T4', T5', v4', v5', u', hbk', t, hsub⟩
  have t := t.mono hB
  have hz := t.size
  have hw := h.bel.size
  have sub : ∀ i, (T4' i ∨ T5' i ∨ i = b) → Bk i ∨ v.ownBlock = some i ∨ W.heap.size ≤ i := fun i hi => by
    rcases hi with z | z | z
    · rcases hsub i (.inl z) with y | y | y
      · exact .inl (hB i (.inl y))
      · exact .inl (hB i (.inr (.inl y)))
      · exact .inr y
    · rcases hsub i (.inr z) with y | y | y
      · exact .inl (hB i (.inl y))
      · exact .inl (hB i (.inr (.inl y)))
      · exact .inr y
    · exact .inl (hB i (.inr (.inr z)))
  have lt' : ∀ i, (T4' i ∨ T5' i ∨ i = b) → i < w'.heap.size := fun i hi => by
    rcases hi with z | z | z
    · exact hbk'.lt i (.inl z)
    · exact hbk'.lt i (.inr z)
    · rw [z]; exact (Array.getElem?_eq_some_iff.1 hbk'.hb).1
  refine ⟨hr, fun i => T4' i ∨ T5' i ∨ i = b, ⟨h.sb.kept (fun i hi => t.block i (h.t0 i hi).2.1 (h.t0 i hi).2.2.2) hz, h.rb.kept (fun i hi => t.block i (h.r0 i hi).2.1 (h.r0 i hi).2.2) hz, ⟨T4', T5', v4', v5', us ++ [u'], hbk', fun i hi => hi⟩, fun i hi => ?_, fun i hi => ?_, fun i hi => ?_, h.bel.trans (t.below (fun i hi => (h.b0 i hi).1) hw)⟩, t, sub⟩
  · have q := h.t0 i hi
    refine ⟨q.1, by omega, q.2.2.1, fun z => ?_⟩
    rcases sub i z with y | y | y
    · exact q.2.2.2 y
    · exact (hvn i y).2.1 hi
    · omega
  · have q := h.r0 i hi
    refine ⟨q.1, by omega, fun z => ?_⟩
    rcases sub i z with y | y | y
    · exact q.2.2 y
    · exact (hvn i y).2.2.1 hi
    · omega
  · refine ⟨?_, lt' i hi⟩
    rcases sub i hi with y | y | y
    · exact (h.b0 i y).1
    · exact (hvn i y).1
    · omega
theorem same2 (hu : SlB W Tv v L) (hv : SlB W Tw v' L) (hl : L.length ≤ 70000) : Calls Try.prog 24 #[v, v'] W fun e W' => e = .returned (.bool true) ∧ Below W.heap.size W W' := by
  obtain ⟨A, c, rfl, h1, h2, hC⟩ := hu.C
  obtain ⟨A', c', rfl, h1', h2', hC'⟩ := hv.C
  refine (larderlaw07_same.calls (L.length + 2) A c L A' c' L true W hC h1 hC' h1' (X.hsame_self L hl)).mono ?_
  rintro e w' ⟨rfl, h⟩
  exact ⟨rfl, h.below⟩
/-- What is new is nobody's. -/
theorem Sa.new (h : Sa W0 b bp rp N tn u o o2 T R Bk vs Ls W) {W2 : World} {v : Value} {L : List Int} (hv : SlB W2 (fun j => W.heap.size ≤ j) v L) {j : Nat} (hj : v.ownBlock = some j) : W0.heap.size ≤ j ∧ ¬ T j ∧ ¬ R j ∧ ¬ Bk j := by
  have q := (hv.own hj).1
  have hw := h.bel.size
  exact ⟨by omega, fun z => by have := (h.t0 j z).2.1; omega, fun z => by have := (h.r0 j z).2.1; omega, fun z => by have := (h.b0 j z).2; omega⟩
theorem oi_len (I : OI tn u o) (on : Int) : (oReady o).length ≤ 16 ∧ (oWait o on).length ≤ 16 := by
  cases o with
  | none => exact ⟨by simp [oReady], by simp [oWait]⟩
  | some B => exact ⟨Nat.le_trans (rdyK_length _ _) I.n.2, TInv.q_len I on⟩
theorem below_of (hd : Drawn0 W W') : Below W.heap.size W W' := hd.below
set_option maxRecDepth 100000
set_option maxHeartbeats 8000000
theorem asks_calls (h : Sa W0 b bp rp N tn u o o T R Bk vs Ls W) (I : OI tn u o) (on : Int) (hon : (Lit.int .i64 on).wf = true) (hn : vs.length + 12 ≤ 4398046511104) : Calls Try.prog 47 #[bp, rp, .int .i64 on, .pointer (some ⟨b, 0, none⟩)] W fun e W' => e = .returned (.bool true) ∧ ∃ Bk' vs' Ls', Sa W0 b bp rp N tn u o o T R Bk' vs' Ls' W' ∧ vs'.length = vs.length + 2 := by
  have HN := Aside0.mk hn
  have HON := Aside0.mk hon
  have LEN := Aside0.mk (oi_len I on)
  have HW := Aside0.mk h
  have HI := Aside0.mk I
  clear h hn hon I
  go_enter Try.func47, Try.ntmps47
  have X := Aside0.mk (s_ready HW.out.sb HI.out)
  go_wp2_with (go_at_call 42; go_loud (with_reducible refine X.out.mono ?_; rintro e w1 ⟨v1, rfl, h1, hb⟩; have S1 := Aside0.mk (HW.out.below hb); have V1 := Aside0.mk h1; clear h1 hb))
  clear X
  have X := Aside0.mk (s_wait S1.out.sb HI.out on HON.out)
  go_wp2_with (go_at_call 41; go_loud (with_reducible refine X.out.mono ?_; rintro e w2 ⟨v2, rfl, h2, hb⟩; have S2 := Aside0.mk (S1.out.below hb); have V2 := Aside0.mk h2; have V1' := Aside0.mk (V1.out.kept (fun j hj => hb.block j (V1.out.own hj).2)); clear h2 hb))
  clear X
  have N1 := Aside0.mk (fun j (hj : v1.ownBlock = some j) => (And.intro (HW.out.new V1.out hj) (V1.out.own hj).2))
  have N2 := Aside0.mk (fun j (hj : v2.ownBlock = some j) => (And.intro (S1.out.new V2.out hj) (V2.out.own hj)))
  have X := Aside0.mk (S2.out.ints V1'.out (fun j hj => (N1.out j hj).1) LEN.out.1 (by have := HN.out; omega))
  go_wp2_with (go_at_call 27; go_loud (with_reducible refine X.out.mono ?_; rintro e w3 ⟨⟨r3, rfl⟩, B3, s3, t3, b3⟩; have S3 := Aside0.mk s3; have V2' := Aside0.mk (V2.out.kept (fun j hj => t3.block j (V2.out.own hj).2 (N2.out j hj).1.2.2.2)); have B3H := Aside0.mk b3; clear s3 t3 b3))
  clear X
  have X := Aside0.mk (S3.out.ints V2'.out (fun j hj => by
    have q := N2.out j hj
    refine ⟨q.1.1, q.1.2.1, q.1.2.2.1, fun z => ?_⟩
    rcases B3H.out j z with y | y | y
    · exact q.1.2.2.2 y
    · have := (N1.out j y).2; have := q.2.1; omega
    · have := q.2.2; omega) LEN.out.2 (by have := HN.out; simp; omega))
  go_wp2_with (go_at_call 27; go_loud (with_reducible refine X.out.mono ?_; rintro e w4 ⟨⟨r4, rfl⟩, B4, s4, t4, b4⟩; have S4 := Aside0.mk s4; clear s4 t4 b4))
  clear X S1 S2 S3 V1 V1' V2 V2' N1 N2 B3H
  have X := Aside0.mk (s_long S4.out.sb HI.out)
  obtain ⟨⟨q1, q2⟩, hq⟩ : ∃ q, oLong o = q := ⟨_, rfl⟩
  rw [hq] at X
  go_wp2_with (go_at_call 50; go_loud (with_reducible refine X.out.mono ?_; rintro e w5 ⟨rfl, hb⟩; have S5 := Aside0.mk (S4.out.below hb); clear hb))
  clear X
  have X := Aside0.mk (r_long S5.out.rb HI.out)
  rw [hq] at X
  clear hq
  go_wp2_with (go_at_call 99; go_loud (with_reducible refine X.out.mono ?_; rintro e w6 ⟨rfl, hb⟩; have S6 := Aside0.mk (S5.out.below hb); clear hb))
  clear X S4 S5
  have X := Aside0.mk (r_ready S6.out.rb HI.out)
  go_wp2_with (go_at_call 100; go_loud (with_reducible refine X.out.mono ?_; rintro e w7 ⟨v7, rfl, h7, hb⟩; have S7 := Aside0.mk (S6.out.below hb); have V7 := Aside0.mk h7; clear h7 hb))
  clear X S6
  have i1 : (vs ++ [v1] ++ [v2])[vs.length]? = some v1 := by simp
  have i2 : (vs ++ [v1] ++ [v2])[vs.length + 1]? = some v2 := by
    rw [List.getElem?_append_right (by simp)]; simp
  have hL := S7.out.len
  have l1 : (Ls ++ [oReady o] ++ [oWait o on])[vs.length]? = some (oReady o) := by
    have : Ls.length = vs.length := by simpa using hL
    rw [← this]; simp
  have l2 : (Ls ++ [oReady o] ++ [oWait o on])[vs.length + 1]? = some (oWait o on) := by
    have : Ls.length = vs.length := by simpa using hL
    rw [← this, List.getElem?_append_right (by simp)]; simp
  have IL := Aside0.mk (And.intro i2 l2)
  have X := Aside0.mk (same2 (S7.out.at i1 l1) V7.out (by have := LEN.out.1; omega))
  clear i1 i2 l1 l2 hL
  go_wp2_with (go_at_call 24; go_loud (with_reducible refine X.out.mono ?_; rintro e w8 ⟨rfl, hb⟩; have S8 := Aside0.mk (S7.out.below hb); clear hb))
  clear X S7 V7
  have X := Aside0.mk (r_wait S8.out.rb HI.out on)
  go_wp2_with (go_at_call 101; go_loud (with_reducible refine X.out.mono ?_; rintro e w9 ⟨v9, rfl, h9, hb⟩; have S9 := Aside0.mk (S8.out.below hb); have V9 := Aside0.mk h9; clear h9 hb))
  clear X S8
  have X := Aside0.mk (same2 (S9.out.at IL.out.1 IL.out.2) V9.out (by have := LEN.out.2; omega))
  go_wp2_with (go_at_call 24; go_loud (with_reducible refine X.out.mono ?_; rintro e w10 ⟨rfl, hb⟩; have S10 := Aside0.mk (S9.out.below hb); clear hb))
  clear X S9 V9 IL LEN
  go_loopw [15, 16, 17, 18, 19] (fun vi _ _ _ _ wr => ∃ i : Int, vi = .int .i64 i ∧ Aside0 (-1 ≤ i ∧ i ≤ 17) ∧ Aside0 (Sa W0 b bp rp N tn u o o T R B4 (vs ++ [v1] ++ [v2]) (Ls ++ [oReady o] ++ [oWait o on]) wr)) (fun vi _ _ _ _ _ => (17 - intOf vi).toNat)
  case atStart => exact ⟨-1, rfl, ⟨by omega⟩, S10⟩
  case round =>
    clear S10
    obtain ⟨i, rfl, Hi, SS⟩ := hrel
    rename World => W3
    by_cases hlt : i ≤ 16
    · have t1 : decide (i ≤ 16) = true := decide_eq_true hlt
      have HWI := Aside0.mk (show wrap64 (i + 1) = i + 1 from X.hwrId (by have := Hi.out; omega) (by omega))
      have HLT := Aside0.mk hlt
      obtain ⟨⟨a1, a2⟩, ha⟩ : ∃ q, oAt o i = q := ⟨_, rfl⟩
      have X := Aside0.mk (s_at SS.out.sb i)
      rw [ha] at X
      clear hlt
      go_wp2_with (go_at_call 68; go_loud (with_reducible refine X.out.mono ?_; rintro e w11 ⟨rfl, hd⟩; have S1 := Aside0.mk (SS.out.below hd.below); clear hd))
      clear X
      have X := Aside0.mk (r_at S1.out.rb i)
      rw [ha] at X
      clear ha
      go_wp2_with (go_at_call 102; go_loud (with_reducible refine X.out.mono ?_; rintro e w12 ⟨rfl, hd⟩; have S2 := Aside0.mk (S1.out.below hd.below); clear hd))
      exact ⟨⟨i + 1, by rw [HWI.out], ⟨by have := Hi.out; have := HLT.out; omega⟩, S2⟩, by rw [HWI.out]; simp only [intOf]; have := Hi.out; have := HLT.out; omega⟩
    · have t1 : decide (i ≤ 16) = false := decide_eq_false hlt
      clear hlt
      go_wp2
      go_ret
      exact ⟨rfl, _, _, _, SS.out, by simp⟩
end Go.Proofs.Ytfcjfjmjcmanaaa.B
