/- SchedBoards: one call on both boards. -/
import Derived.Test.YtfcjfjmjcmanaaaEi
import Derived.Deep.RegionHeld3
set_option linter.unusedVariables false
namespace Go.Proofs.Ytfcjfjmjcmanaaa.B
open Go Go.RowKit Go.Proofs.YtfcjfjmjcmanaaaW.PrintWords Go.Proofs.YtfcjfjmjcmanaaaW.PrintLast Go.Proofs.YtfcjfjmjcmanaaaW.PrintMore
/-- A call, as it lies in its box. -/
def Ob (W : World) (z : Nat) (k x on : Int) : Prop := W.heap[z]? = some (.cells #[.int .i64 k, .int .i64 x, .int .i64 on] 78 (0, 0))
theorem Ob.cells {W : World} {z : Nat} {k x on : Int} (h : Ob W z k x on) : W.cell? ⟨z, 0, none⟩ = some (.int .i64 k) ∧ W.cell? ⟨z, 1, none⟩ = some (.int .i64 x) ∧ W.cell? ⟨z, 2, none⟩ = some (.int .i64 on) := by
  refine ⟨?_, ?_, ?_⟩ <;> (rw [cell_of_row W z _ _ 78 (0, 0) h]; rfl)
/-- The boards, the books, the call in its box. -/
structure Sb (W0 : World) (b : Nat) (bp rp : Value) (N : Nat) (tn : List Int) (u : Int) (o o2 : Option Bd) (T R Bk : Nat → Prop) (vs : List Value) (Ls : List (List Int)) (z : Nat) (k x on : Int) (W : World) : Prop where
  sa : Sa W0 b bp rp N tn u o o2 T R Bk vs Ls W
  ob : Ob W z k x on
  zt : ¬ T z
  zr : ¬ R z
  zb : ¬ Bk z
  zl : z < W.heap.size
variable {W0 W W' : World} {b N z : Nat} {bp rp v : Value} {tn tn' : List Int} {u u' k x on : Int} {o o' o2 o2' : Option Bd} {T R Bk Tv : Nat → Prop} {vs : List Value} {Ls : List (List Int)} {L : List Int}
theorem Sb.start (h : Sa W0 b bp rp N tn u o o2 T R Bk vs Ls W) (k x on : Int) : Sb W0 b bp rp N tn u o o2 T R Bk vs Ls W.heap.size k x on (W.alloc (.cells #[.int .i64 k, .int .i64 x, .int .i64 on] 78)) :=
  ⟨h.below ((Below.refl _ W).alloc (Nat.le_refl _) _), World.alloc_heap_new W _, fun y => by have := (h.t0 _ y).2.1; omega, fun y => by have := (h.r0 _ y).2.1; omega, fun y => by have := (h.b0 _ y).2; omega, by simp⟩
theorem Sb.below (h : Sb W0 b bp rp N tn u o o2 T R Bk vs Ls z k x on W) (hb : Below W.heap.size W W') : Sb W0 b bp rp N tn u o o2 T R Bk vs Ls z k x on W' :=
  ⟨h.sa.below hb, (hb.block z h.zl).trans h.ob, h.zt, h.zr, h.zb, Nat.lt_of_lt_of_le h.zl hb.size⟩
theorem Sb.sopT {T' : Nat → Prop} (h : Sb W0 b bp rp N tn u o o2 T R Bk vs Ls z k x on W) (sb : SBo W' T' (N + 1) bp o') (t : Turn T W W') (hT : ∀ i, T' i → T i ∨ (W.heap.size ≤ i ∧ i < W'.heap.size)) : Sb W0 b bp rp (N + 1) tn u o' o2 T' R Bk vs Ls z k x on W' := by
  have hz := t.size
  have hw := h.sa.bel.size
  obtain ⟨T4, T5, v4, v5, us, hbk, hB⟩ := h.sa.bk
  have nR : ∀ i, R i → ¬ T i := fun i hi y => (h.sa.t0 i y).2.2.1 hi
  have nB : ∀ i, Bk i → ¬ T i := fun i hi y => (h.sa.t0 i y).2.2.2 hi
  have bk' : Bk2 W' b Bk vs Ls := ⟨T4, T5, v4, v5, us, hbk.kept (fun i hi hl => t.block i hl (nB i (hB i (hi.elim (fun y => .inl y) (fun y => y.elim (fun y => .inr (.inl y)) (fun y => .inr (.inr y))))))) hz, hB⟩
  refine ⟨⟨sb, h.sa.rb.kept (fun i hi => t.block i (h.sa.r0 i hi).2.1 (nR i hi)) hz, bk', fun i hi => ?_, fun i hi => by have q := h.sa.r0 i hi; exact ⟨q.1, by omega, q.2.2⟩, fun i hi => by have q := h.sa.b0 i hi; exact ⟨q.1, by omega⟩, h.sa.bel.trans (t.below (fun i hi => (h.sa.t0 i hi).1) hw)⟩, (t.block z h.zl h.zt).trans h.ob, fun y => ?_, h.zr, h.zb, Nat.lt_of_lt_of_le h.zl hz⟩
  · rcases hT i hi with y | y
    · have q := h.sa.t0 i y; exact ⟨q.1, by omega, q.2.2⟩
    · exact ⟨by omega, y.2, fun q => by have := (h.sa.r0 i q).2.1; omega, fun q => by have := (h.sa.b0 i q).2; omega⟩
  · rcases hT z y with y | y
    · exact h.zt y
    · have := h.zl; omega
theorem Sb.sop (h : Sb W0 b bp rp N tn u o o2 T R Bk vs Ls z k x on W) (hs : SAft W T (N + 1) bp o' W') : ∃ T', Sb W0 b bp rp (N + 1) tn u o' o2 T' R Bk vs Ls z k x on W' := by
  obtain ⟨T', sb, t, hT⟩ := hs
  exact ⟨T', h.sopT sb t hT⟩
theorem Sb.ints (h : Sb W0 b bp rp N tn u o o2 T R Bk vs Ls z k x on W) (hv : SlB W Tv v L) (hvn : ∀ j, v.ownBlock = some j → W0.heap.size ≤ j ∧ ¬ T j ∧ ¬ R j ∧ ¬ Bk j ∧ j ≠ z) (hl : L.length ≤ 16) (hn : vs.length + 11 ≤ 4398046511104) :
    Calls Try.prog 27 #[.pointer (some ⟨b, 0, none⟩), v] W fun e W' => (∃ r, e = .returned r) ∧ ∃ Bk', Sb W0 b bp rp N tn u o o2 T R Bk' (vs ++ [v]) (Ls ++ [L]) z k x on W' := by
  refine (h.sa.ints hv (fun j hj => by have q := hvn j hj; exact ⟨q.1, q.2.1, q.2.2.1, q.2.2.2.1⟩) hl hn).mono ?_
  rintro e w' ⟨hr, Bk', s, t, sub⟩
  refine ⟨hr, Bk', s, (t.block z h.zl h.zb).trans h.ob, h.zt, h.zr, fun y => ?_, Nat.lt_of_lt_of_le h.zl t.size⟩
  rcases sub z y with q | q | q
  · exact h.zb q
  · exact (hvn z q).2.2.2.2 rfl
  · have := h.zl; omega
theorem SBo.mono (h : SBo W T N bp o) : SBo W T (N + 1) bp o := by
  cases o with
  | none => exact h
  | some B => obtain ⟨p, g, m, f, e1, h1⟩ := h; exact ⟨p, g, m, f, e1, h1.mono (Nat.le_succ N)⟩
theorem Sa.mono (h : Sa W0 b bp rp N tn u o o2 T R Bk vs Ls W) : Sa W0 b bp rp (N + 1) tn u o o2 T R Bk vs Ls W := ⟨h.sb.mono, h.rb, h.bk, h.t0, h.r0, h.b0, h.bel⟩
theorem Sb.rop (h : Sb W0 b bp rp N tn u o o2 T R Bk vs Ls z k x on W) (hr : RBo W' R tn' u' rp o2') (t : Turn R W W') : Sb W0 b bp rp N tn' u' o o2' T R Bk vs Ls z k x on W' := by
  have hz := t.size
  have hw := h.sa.bel.size
  obtain ⟨T4, T5, v4, v5, us, hbk, hB⟩ := h.sa.bk
  have nT : ∀ i, T i → ¬ R i := fun i hi => (h.sa.t0 i hi).2.2.1
  have nB : ∀ i, Bk i → ¬ R i := fun i hi y => (h.sa.r0 i y).2.2 hi
  exact ⟨⟨h.sa.sb.kept (fun i hi => t.block i (h.sa.t0 i hi).2.1 (nT i hi)) hz, hr, ⟨T4, T5, v4, v5, us, hbk.kept (fun i hi hl => t.block i hl (nB i (hB i (hi.elim (fun y => .inl y) (fun y => y.elim (fun y => .inr (.inl y)) (fun y => .inr (.inr y))))))) hz, hB⟩, fun i hi => by have q := h.sa.t0 i hi; exact ⟨q.1, by omega, q.2.2⟩, fun i hi => by have q := h.sa.r0 i hi; exact ⟨q.1, by omega, q.2.2⟩, fun i hi => by have q := h.sa.b0 i hi; exact ⟨q.1, by omega⟩, h.sa.bel.trans (t.below (fun i hi => (h.sa.r0 i hi).1) hw)⟩, (t.block z h.zl h.zr).trans h.ob, h.zt, h.zr, h.zb, Nat.lt_of_lt_of_le h.zl hz⟩
theorem oU_ge (o : Option Bd) (h u : Int) : u ≤ oU o h u := by
  cases o with
  | none => simp only [oU]; omega
  | some B => simp only [oU]; split <;> omega
/-- Behind does. -/
def DAft (W0 : World) (b : Nat) (bp rp : Value) (N : Nat) (tn : List Int) (u : Int) (o : Option Bd) (T R Bk : Nat → Prop) (vs : List Value) (W' : World) : Prop :=
  ∃ o' tn' u' T' Bk' vs' Ls', Sa W0 b bp rp (N + 1) tn' u' o' o' T' R Bk' vs' Ls' W' ∧ OI tn' u' o' ∧ (u ≤ u' ∧ u' ≤ u + 1) ∧ vs'.length ≤ vs.length + 1
set_option maxRecDepth 100000
set_option maxHeartbeats 8000000
theorem does0 (h : Sa W0 b bp rp N tn u o o T R Bk vs Ls W) (I : OI tn u o) (x on : Int) : Calls Try.prog 46 #[bp, rp, .agg #[.int .i64 0, .int .i64 x, .int .i64 on], .pointer (some ⟨b, 0, none⟩)] W fun e W' => e = .returned (.bool true) ∧ DAft W0 b bp rp N tn u o T R Bk vs W' := by
  have s0 := Sb.start h 0 x on
  obtain ⟨q, hq⟩ : ∃ q, (oStart o x).2 = q := ⟨_, rfl⟩
  have HS := Aside0.mk (fun (w : World) (hb : Below (W.alloc (.cells #[.int .i64 0, .int .i64 x, .int .i64 on] 78)).heap.size (W.alloc (.cells #[.int .i64 0, .int .i64 x, .int .i64 on] 78)) w) => (show Calls Try.prog 39 #[bp, .int .i64 x] w (fun e w' => e = .returned (.int .i64 q) ∧ ∃ T', Sb W0 b bp rp (N + 1) tn u (oStart o x).1 o T' R Bk vs Ls W.heap.size 0 x on w') from (s_start (s0.below hb).sa.sb x).mono (by rintro e w' ⟨rfl, hs⟩; exact ⟨by rw [hq], (s0.below hb).sop hs⟩)))
  have HR := Aside0.mk (fun (T' : Nat → Prop) (w2 w : World) (hs : Sb W0 b bp rp (N + 1) tn u (oStart o x).1 o T' R Bk vs Ls W.heap.size 0 x on w2) (hb : Below w2.heap.size w2 w) => (show Calls Try.prog 93 #[rp, .int .i64 x] w (fun e w' => e = .returned (.int .i64 q) ∧ Sb W0 b bp rp (N + 1) tn u (oStart o x).1 (oStart o x).1 T' R Bk vs Ls W.heap.size 0 x on w') from (r_start (hs.below hb).sa.rb x).mono (by rintro e w' ⟨rfl, hr, t⟩; exact ⟨by rw [hq], (hs.below hb).rop hr t⟩)))
  have OC := Aside0.mk s0.ob.cells.2.1
  have HI := Aside0.mk (I.start x)
  have hqq : (q == q) = true := by simp
  have tA := True.intro
  clear h I s0 hq
  go_enter Try.func46, Try.ntmps46
  go_wp2
  go_region_held3 (fun w' => w'.cell? ⟨W.heap.size, 1, none⟩ = some (.int .i64 x))
    (first | exact OC.out | exact S2.out.ob.cells.2.1 | exact S3.out.ob.cells.2.1)
    ((first
      | (go_at_call 39; have _t := tA; go_loud (refine (HS.out _ (by repeat (first | exact Below.refl _ _ | apply below_drew | apply pw_below_drewN | apply below_alloc))).mono ?_; rintro e w2 ⟨rfl, T2, s2⟩; have S2 := Aside0.mk s2; clear s2 tA; have tB := True.intro))
      | (go_at_call 93; have _t := tB; go_loud (refine (HR.out _ _ _ S2.out (by repeat (first | exact Below.refl _ _ | apply below_drew | apply pw_below_drewN | apply below_alloc))).mono ?_; rintro e w3 ⟨rfl, s3⟩; have S3 := Aside0.mk s3; clear s3 tB; have tC := True.intro))))
  all_goals go_wp2
  all_goals go_ret
  all_goals exact ⟨rfl, _, _, _, _, _, _, _, S3.out.sa, HI.out, ⟨by omega, by omega⟩, by omega⟩
theorem does4 (h : Sa W0 b bp rp N tn u o o T R Bk vs Ls W) (I : OI tn u o) (x on : Int) : Calls Try.prog 46 #[bp, rp, .agg #[.int .i64 4, .int .i64 x, .int .i64 on], .pointer (some ⟨b, 0, none⟩)] W fun e W' => e = .returned (.bool true) ∧ DAft W0 b bp rp N tn u o T R Bk vs W' := by
  have s0 := Sb.start h 4 x on
  obtain ⟨q, hq⟩ : ∃ q, (oFinish o x).2 = q := ⟨_, rfl⟩
  have HS := Aside0.mk (fun (w : World) (hb : Below (W.alloc (.cells #[.int .i64 4, .int .i64 x, .int .i64 on] 78)).heap.size (W.alloc (.cells #[.int .i64 4, .int .i64 x, .int .i64 on] 78)) w) => (show Calls Try.prog 48 #[bp, .int .i64 x] w (fun e w' => e = .returned (.int .i64 q) ∧ ∃ T', Sb W0 b bp rp (N + 1) tn u (oFinish o x).1 o T' R Bk vs Ls W.heap.size 4 x on w') from (s_finish (s0.below hb).sa.sb x).mono (by rintro e w' ⟨rfl, hs⟩; exact ⟨by rw [hq], (s0.below hb).sop hs⟩)))
  have HR := Aside0.mk (fun (T' : Nat → Prop) (w2 w : World) (hs : Sb W0 b bp rp (N + 1) tn u (oFinish o x).1 o T' R Bk vs Ls W.heap.size 4 x on w2) (hb : Below w2.heap.size w2 w) => (show Calls Try.prog 97 #[rp, .int .i64 x] w (fun e w' => e = .returned (.int .i64 q) ∧ Sb W0 b bp rp (N + 1) tn u (oFinish o x).1 (oFinish o x).1 T' R Bk vs Ls W.heap.size 4 x on w') from (r_finish (hs.below hb).sa.rb x).mono (by rintro e w' ⟨rfl, hr, t⟩; exact ⟨by rw [hq], (hs.below hb).rop hr t⟩)))
  have OC := Aside0.mk s0.ob.cells.2.1
  have HI := Aside0.mk (I.finish x)
  have hqq : (q == q) = true := by simp
  have tA := True.intro
  clear h I s0 hq
  go_enter Try.func46, Try.ntmps46
  go_wp2
  go_region_held3 (fun w' => w'.cell? ⟨W.heap.size, 1, none⟩ = some (.int .i64 x))
    (first | exact OC.out | exact S2.out.ob.cells.2.1 | exact S3.out.ob.cells.2.1)
    ((first
      | (go_at_call 48; have _t := tA; go_loud (refine (HS.out _ (by repeat (first | exact Below.refl _ _ | apply below_drew | apply pw_below_drewN | apply below_alloc))).mono ?_; rintro e w2 ⟨rfl, T2, s2⟩; have S2 := Aside0.mk s2; clear s2 tA; have tB := True.intro))
      | (go_at_call 97; have _t := tB; go_loud (refine (HR.out _ _ _ S2.out (by repeat (first | exact Below.refl _ _ | apply below_drew | apply pw_below_drewN | apply below_alloc))).mono ?_; rintro e w3 ⟨rfl, s3⟩; have S3 := Aside0.mk s3; clear s3 tB; have tC := True.intro))))
  all_goals go_wp2
  all_goals go_ret
  all_goals exact ⟨rfl, _, _, _, _, _, _, _, S3.out.sa, HI.out, ⟨by omega, by omega⟩, by omega⟩
theorem does1 (h : Sa W0 b bp rp N tn u o o T R Bk vs Ls W) (I : OI tn u o) (hN : N + 1 < maxLen) (hu : wrap64 (u + 1) = u + 1) (x on : Int) (hon : (Lit.int .i64 on).wf = true) : Calls Try.prog 46 #[bp, rp, .agg #[.int .i64 1, .int .i64 x, .int .i64 on], .pointer (some ⟨b, 0, none⟩)] W fun e W' => e = .returned (.bool true) ∧ DAft W0 b bp rp N tn u o T R Bk vs W' := by
  have s0 := Sb.start h 1 x on
  obtain ⟨q, hq⟩ : ∃ q, (oBlock o x on).2 = q := ⟨_, rfl⟩
  have HS := Aside0.mk (fun (w : World) (hb : Below (W.alloc (.cells #[.int .i64 1, .int .i64 x, .int .i64 on] 78)).heap.size (W.alloc (.cells #[.int .i64 1, .int .i64 x, .int .i64 on] 78)) w) => (show Calls Try.prog 40 #[bp, .int .i64 x, .int .i64 on] w (fun e w' => e = .returned (.int .i64 q) ∧ ∃ T', Sb W0 b bp rp (N + 1) tn u (oBlock o x on).1 o T' R Bk vs Ls W.heap.size 1 x on w') from (s_block (s0.below hb).sa.sb I hN x on hon).mono (by rintro e w' ⟨rfl, hs⟩; exact ⟨by rw [hq], (s0.below hb).sop hs⟩)))
  have HR := Aside0.mk (fun (T' : Nat → Prop) (w2 w : World) (hs : Sb W0 b bp rp (N + 1) tn u (oBlock o x on).1 o T' R Bk vs Ls W.heap.size 1 x on w2) (hb : Below w2.heap.size w2 w) => (show Calls Try.prog 94 #[rp, .int .i64 x, .int .i64 on] w (fun e w' => e = .returned (.int .i64 q) ∧ Sb W0 b bp rp (N + 1) (oTn o x tn u) (oU o x u) (oBlock o x on).1 (oBlock o x on).1 T' R Bk vs Ls W.heap.size 1 x on w') from (r_block (hs.below hb).sa.rb x on hu).mono (by rintro e w' ⟨rfl, hr, t⟩; exact ⟨by rw [hq], (hs.below hb).rop hr t⟩)))
  have OC := Aside0.mk s0.ob.cells.2
  have HI := Aside0.mk (I.block x on)
  have hqq : (q == q) = true := by simp
  have tA := True.intro
  clear h I s0 hq hN hu hon
  go_enter Try.func46, Try.ntmps46
  go_wp2
  go_region_held3 (fun w' => w'.cell? ⟨W.heap.size, 1, none⟩ = some (.int .i64 x) ∧ w'.cell? ⟨W.heap.size, 2, none⟩ = some (.int .i64 on))
    (first | exact OC.out | exact S2.out.ob.cells.2 | exact S3.out.ob.cells.2)
    ((first
      | (go_at_call 40; have _t := tA; go_loud (refine (HS.out _ (by repeat (first | exact Below.refl _ _ | apply below_drew | apply pw_below_drewN | apply below_alloc))).mono ?_; rintro e w2 ⟨rfl, T2, s2⟩; have S2 := Aside0.mk s2; clear s2 tA; have tB := True.intro))
      | (go_at_call 94; have _t := tB; go_loud (refine (HR.out _ _ _ S2.out (by repeat (first | exact Below.refl _ _ | apply below_drew | apply pw_below_drewN | apply below_alloc))).mono ?_; rintro e w3 ⟨rfl, s3⟩; have S3 := Aside0.mk s3; clear s3 tB; have tC := True.intro))))
  all_goals go_wp2
  all_goals go_ret
  all_goals exact ⟨rfl, _, _, _, _, _, _, _, S3.out.sa, HI.out, ⟨oU_ge _ _ _, oU_le _ _ _⟩, by omega⟩
theorem does3 (h : Sa W0 b bp rp N tn u o o T R Bk vs Ls W) (I : OI tn u o) (hN : N + 1 < maxLen) (x on : Int) (hon : (Lit.int .i64 on).wf = true) : Calls Try.prog 46 #[bp, rp, .agg #[.int .i64 3, .int .i64 x, .int .i64 on], .pointer (some ⟨b, 0, none⟩)] W fun e W' => e = .returned (.bool true) ∧ DAft W0 b bp rp N tn u o T R Bk vs W' := by
  have s0 := Sb.start h 3 x on
  obtain ⟨⟨q1, q2⟩, hq⟩ : ∃ q, (oFirst o on).2 = q := ⟨_, rfl⟩
  have X := Aside0.mk (s_first s0.sa.sb I hN on hon)
  rw [hq] at X
  have S0 := Aside0.mk s0
  have HI := Aside0.mk I
  have HQ := Aside0.mk hq
  clear h I s0 hq hN hon
  go_enter Try.func46, Try.ntmps46
  go_wp2_with (go_at_call 43; go_loud (with_reducible refine X.out.mono ?_; rintro e w2 ⟨rfl, hs⟩; obtain ⟨T2, s2⟩ := S0.out.sop hs; have k2 := s2.ob.cells.2.2; have S2 := Aside0.mk s2; clear s2 hs))
  clear X
  have X := Aside0.mk (r_first S2.out.sa.rb HI.out on)
  rw [HQ.out] at X
  go_wp2_with (go_at_call 96; go_loud (with_reducible refine X.out.mono ?_; rintro e w3 ⟨rfl, hr, t⟩; have S3 := Aside0.mk (S2.out.rop hr t); clear hr t))
  go_ret
  exact ⟨rfl, _, _, _, _, _, _, _, S3.out.sa, HI.out.first on, ⟨by omega, by omega⟩, by omega⟩
theorem does5 (h : Sa W0 b bp rp N tn u o o T R Bk vs Ls W) (I : OI tn u o) (x on : Int) : Calls Try.prog 46 #[bp, rp, .agg #[.int .i64 5, .int .i64 x, .int .i64 on], .pointer (some ⟨b, 0, none⟩)] W fun e W' => e = .returned (.bool true) ∧ DAft W0 b bp rp N tn u o T R Bk vs W' := by
  have s0 := Sb.start h 5 x on
  obtain ⟨⟨q1, q2⟩, hq⟩ : ∃ q, (oPick o x).2 = q := ⟨_, rfl⟩
  have X := Aside0.mk (s_pick s0.sa.sb I x)
  rw [hq] at X
  have S0 := Aside0.mk s0
  have HI := Aside0.mk I
  have HQ := Aside0.mk hq
  clear h I s0 hq
  go_enter Try.func46, Try.ntmps46
  go_wp2_with (go_at_call 49; go_loud (with_reducible refine X.out.mono ?_; rintro e w2 ⟨rfl, hs⟩; obtain ⟨T2, s2⟩ := S0.out.sop hs; have k2 := s2.ob.cells.2.1; have S2 := Aside0.mk s2; clear s2 hs))
  clear X
  have X := Aside0.mk (r_pick S2.out.sa.rb HI.out x)
  rw [HQ.out] at X
  go_wp2_with (go_at_call 98; go_loud (with_reducible refine X.out.mono ?_; rintro e w3 ⟨rfl, hr, t⟩; have S3 := Aside0.mk (S2.out.rop hr t); clear hr t))
  go_ret
  exact ⟨rfl, _, _, _, _, _, _, _, S3.out.sa, HI.out.pick x, ⟨by omega, by omega⟩, by omega⟩
theorem does2 (h : Sa W0 b bp rp N tn u o o T R Bk vs Ls W) (I : OI tn u o) (x on : Int) (hon : (Lit.int .i64 on).wf = true) (hn : vs.length + 12 ≤ 4398046511104) : Calls Try.prog 46 #[bp, rp, .agg #[.int .i64 2, .int .i64 x, .int .i64 on], .pointer (some ⟨b, 0, none⟩)] W fun e W' => e = .returned (.bool true) ∧ DAft W0 b bp rp N tn u o T R Bk vs W' := by
  have s0 := Sb.start h 2 x on
  have X := Aside0.mk (s_wake s0.sa.sb I (fun i hi => (s0.sa.t0 i hi).2.1) on hon)
  have LEN := Aside0.mk (oi_len I on)
  have S0 := Aside0.mk s0
  have HI := Aside0.mk I
  have HN := Aside0.mk hn
  clear h I s0 hn hon
  go_enter Try.func46, Try.ntmps46
  go_wp2_with (go_at_call 44; go_loud (with_reducible refine X.out.mono ?_; rintro e w2 ⟨v, rfl, T2, hv, sb, t, hT⟩; have s2 := S0.out.sopT sb t (fun i hi => .inl (hT i hi)); have V2 := Aside0.mk hv; have S2 := Aside0.mk s2; clear s2 sb t hT hv))
  clear X
  have X := Aside0.mk (S2.out.ints V2.out (fun j hj => by
    have q := (V2.out.own hj).1
    have q2 := S0.out.sa.t0 j q.1
    exact ⟨q2.1, q.2, q2.2.2.1, q2.2.2.2, fun e => S0.out.zt (by rw [← e]; exact q.1)⟩) LEN.out.2 (by have := HN.out; omega))
  go_wp2_with (go_at_call 27; go_loud (with_reducible refine X.out.mono ?_; rintro e w3 ⟨⟨r3, rfl⟩, B3, s3⟩; have k3 := s3.ob.cells.2.2; have S3 := Aside0.mk s3; clear s3))
  clear X
  have X := Aside0.mk (r_wake S3.out.sa.rb HI.out on)
  go_wp2_with (go_at_call 95; go_loud (with_reducible refine X.out.mono ?_; rintro e w4 ⟨v4, rfl, h4, hr, t⟩; have S4 := Aside0.mk (S3.out.rop hr t); have V4 := Aside0.mk h4; clear h4 hr t))
  clear X
  have hL : Ls.length = vs.length := by have := S4.out.sa.len; simpa using this
  have X := Aside0.mk (same2 (S4.out.sa.at (i := vs.length) (v := v) (L := oWait o on) (by simp) (by rw [← hL]; simp)) V4.out (by have := LEN.out.2; omega))
  clear hL
  go_wp2_with (go_at_call 24; go_loud (with_reducible refine X.out.mono ?_; rintro e w5 ⟨rfl, hb⟩; have S5 := Aside0.mk (S4.out.below hb); clear hb))
  go_ret
  exact ⟨rfl, _, _, _, _, _, _, _, S5.out.sa, HI.out.wake on, ⟨by omega, by omega⟩, by simp⟩
theorem does_other (h : Sa W0 b bp rp N tn u o o T R Bk vs Ls W) (I : OI tn u o) (k x on : Int) (h0 : k ≠ 0) (h1 : k ≠ 1) (h2 : k ≠ 2) (h3 : k ≠ 3) (h4 : k ≠ 4) (h5 : k ≠ 5) : Calls Try.prog 46 #[bp, rp, .agg #[.int .i64 k, .int .i64 x, .int .i64 on], .pointer (some ⟨b, 0, none⟩)] W fun e W' => e = .returned (.bool true) ∧ DAft W0 b bp rp N tn u o T R Bk vs W' := by
  have S0 := Aside0.mk (Sb.start h k x on)
  have HI := Aside0.mk I
  have f0 : (k == 0) = false := beq_eq_false_iff_ne.2 h0
  have f1 : (k == 1) = false := beq_eq_false_iff_ne.2 h1
  have f2 : (k == 2) = false := beq_eq_false_iff_ne.2 h2
  have f3 : (k == 3) = false := beq_eq_false_iff_ne.2 h3
  have f4 : (k == 4) = false := beq_eq_false_iff_ne.2 h4
  have f5 : (k == 5) = false := beq_eq_false_iff_ne.2 h5
  clear h I h0 h1 h2 h3 h4 h5
  go_enter Try.func46, Try.ntmps46
  go_wp2
  go_ret
  exact ⟨rfl, _, _, _, _, _, _, _, S0.out.sa.mono, HI.out, ⟨by omega, by omega⟩, by omega⟩
theorem does_calls (h : Sa W0 b bp rp N tn u o o T R Bk vs Ls W) (I : OI tn u o) (hN : N + 1 < maxLen) (hu : wrap64 (u + 1) = u + 1) (hn : vs.length + 12 ≤ 4398046511104) (k x on : Int) (hon : (Lit.int .i64 on).wf = true) : Calls Try.prog 46 #[bp, rp, .agg #[.int .i64 k, .int .i64 x, .int .i64 on], .pointer (some ⟨b, 0, none⟩)] W fun e W' => e = .returned (.bool true) ∧ DAft W0 b bp rp N tn u o T R Bk vs W' := by
  by_cases h0 : k = 0
  · subst h0; exact does0 h I x on
  by_cases h1 : k = 1
  · subst h1; exact does1 h I hN hu x on hon
  by_cases h2 : k = 2
  · subst h2; exact does2 h I x on hon hn
  by_cases h3 : k = 3
  · subst h3; exact does3 h I hN x on hon
  by_cases h4 : k = 4
  · subst h4; exact does4 h I x on
  by_cases h5 : k = 5
  · subst h5; exact does5 h I x on
  exact does_other h I k x on h0 h1 h2 h3 h4 h5
end Go.Proofs.Ytfcjfjmjcmanaaa.B
