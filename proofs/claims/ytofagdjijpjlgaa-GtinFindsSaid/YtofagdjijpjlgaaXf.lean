/- The contracts of larderlaw02.twin and larderlaw02.kept with the room behind a list: lines that the printer wrote, turned by hand. -/
import Derived.Test.YtofagdjijpjlgaaPGtinFindsx
set_option linter.unusedVariables false
set_option linter.unusedSimpArgs false
namespace Go.Proofs.Ytofagdjijpjlgaa.X
open Go.RowKit Go.Proofs.YtofagdjijpjlgaaW.PrintWords Go.Proofs.YtofagdjijpjlgaaW.PrintLast Go.Proofs.YtofagdjijpjlgaaW.PrintMore Go.Proofs.Ytofagdjijpjlgaa.PGtinFinds
attribute [local go_sem] max2_int min2_int max_two min_two max_three min_three max_four min_four
attribute [local go_sem high] eqA46

def marks : List S46 := [(⟨(⟨#[109, 97, 114, 107]⟩ : ByteArray), (⟨#[111, 110, 101]⟩ : ByteArray)⟩ : S46), (⟨(⟨#[109, 97, 114, 107]⟩ : ByteArray), (⟨#[116, 119, 111]⟩ : ByteArray)⟩ : S46)]
set_option maxHeartbeats 8000000 in
set_option maxRecDepth 100000 in
theorem twin_calls (A0 : Option Addr) (c0 : Nat) (l0 : List (S46)) (r : List (S46)) (w : World) (hr0 : Kd.C k46 w A0 l0.length l0) (hc0 : l0.length ≤ c0) (h : larderlaw02_twin.f l0 = some r) :
    Calls Try.prog 12 #[.slice A0 l0.length c0] w fun e w' => ∃ (A : Option Addr) (c : Nat), e = .returned (.slice A r.length c) ∧ l0.length + 2 ≤ c ∧ Kd.C k46 w' A (l0 ++ marks).length (l0 ++ marks) ∧ Below w.heap.size w w' := by
  have hu46 := Try.underlying46
  have HR0 := Aside0.mk hr0
  have HC0 := Aside0.mk hc0
  clear hr0 hc0
  have HB := Aside0.mk (Below.refl w.heap.size w)
  have H : (if ([] : List (S46)).length + l0.length < 4398046511104 then ((some (([] : List (S46)) ++ l0 : List (S46))).bind fun y101 => ((some (([(⟨(⟨#[109, 97, 114, 107]⟩ : ByteArray), (⟨#[111, 110, 101]⟩ : ByteArray)⟩ : S46), (⟨(⟨#[109, 97, 114, 107]⟩ : ByteArray), (⟨#[116, 119, 111]⟩ : ByteArray)⟩ : S46)] : List (S46)) : List (S46))).bind fun y104 => (if y101.length + y104.length < 4398046511104 then ((some (y101 ++ y104 : List (S46))).bind fun y107 => (if 0 ≤ (l0.length : Int) then (if (l0.length : Int) ≤ (y107.length : Int) then (some (y107.take ((l0.length : Int) : Int).toNat)) else (none)) else (none))) else (none)))) else (none)) = some r := h
  clear h
  by_cases c2 : ([] : List (S46)).length + l0.length < 4398046511104
  · rw [if_pos c2] at H
    have LMc2 := Aside0.mk c2
    clear c2
    obtain ⟨y101, hy101⟩ : ∃ y_ : List (S46), y_ = (([] : List (S46)) ++ l0) := ⟨_, rfl⟩
    replace H : ((some (([(⟨(⟨#[109, 97, 114, 107]⟩ : ByteArray), (⟨#[111, 110, 101]⟩ : ByteArray)⟩ : S46), (⟨(⟨#[109, 97, 114, 107]⟩ : ByteArray), (⟨#[116, 119, 111]⟩ : ByteArray)⟩ : S46)] : List (S46)) : List (S46))).bind fun y104 => (if y101.length + y104.length < 4398046511104 then ((some (y101 ++ y104 : List (S46))).bind fun y107 => (if 0 ≤ (l0.length : Int) then (if (l0.length : Int) ≤ (y107.length : Int) then (some (y107.take ((l0.length : Int) : Int).toNat)) else (none)) else (none))) else (none))) = some r := by first | (rw [hy101]; with_reducible exact H) | (have H2_ := (Option.bind_some _ _).symm.trans H; rw [hy101]; with_reducible exact H2_) | (have H2_ := (Option.bind_some _ _).symm.trans H; with_reducible exact H2_) | with_reducible exact H | (rw [hy101]; exact H) | exact H
    have Ny101 := Aside0.mk hy101
    clear hy101
    obtain ⟨y104, hy104⟩ : ∃ y_ : List (S46), y_ = (([(⟨(⟨#[109, 97, 114, 107]⟩ : ByteArray), (⟨#[111, 110, 101]⟩ : ByteArray)⟩ : S46), (⟨(⟨#[109, 97, 114, 107]⟩ : ByteArray), (⟨#[116, 119, 111]⟩ : ByteArray)⟩ : S46)] : List (S46))) := ⟨_, rfl⟩
    replace H : (if y101.length + y104.length < 4398046511104 then ((some (y101 ++ y104 : List (S46))).bind fun y107 => (if 0 ≤ (l0.length : Int) then (if (l0.length : Int) ≤ (y107.length : Int) then (some (y107.take ((l0.length : Int) : Int).toNat)) else (none)) else (none))) else (none)) = some r := by first | (rw [hy104]; with_reducible exact H) | (have H2_ := (Option.bind_some _ _).symm.trans H; rw [hy104]; with_reducible exact H2_) | (have H2_ := (Option.bind_some _ _).symm.trans H; with_reducible exact H2_) | with_reducible exact H | (rw [hy104]; exact H) | exact H
    have Ny104 := Aside0.mk hy104
    clear hy104
    by_cases c3 : y101.length + y104.length < 4398046511104
    · rw [if_pos c3] at H
      have LMc3 := Aside0.mk c3
      clear c3
      obtain ⟨y107, hy107⟩ : ∃ y_ : List (S46), y_ = (y101 ++ y104) := ⟨_, rfl⟩
      replace H : (if 0 ≤ (l0.length : Int) then (if (l0.length : Int) ≤ (y107.length : Int) then (some (y107.take ((l0.length : Int) : Int).toNat)) else (none)) else (none)) = some r := by first | (rw [hy107]; with_reducible exact H) | (have H2_ := (Option.bind_some _ _).symm.trans H; rw [hy107]; with_reducible exact H2_) | (have H2_ := (Option.bind_some _ _).symm.trans H; with_reducible exact H2_) | with_reducible exact H | (rw [hy107]; exact H) | exact H
      have Ny107 := Aside0.mk hy107
      clear hy107
      by_cases c4 : 0 ≤ (l0.length : Int)
      · rw [if_pos c4] at H
        have c4b0 := eq_true c4
        have c4b1 : decide (0 ≤ (l0.length : Int)) = true := decide_eq_true c4
        clear c4
        by_cases c5 : (l0.length : Int) ≤ (y107.length : Int)
        · rw [if_pos c5] at H
          have c5b0 := eq_true c5
          have c5b1 : decide ((l0.length : Int) ≤ (y107.length : Int)) = true := decide_eq_true c5
          clear c5
          obtain ⟨y110, hy110⟩ : ∃ y_ : List (S46), y_ = (y107.take ((l0.length : Int) : Int).toNat) := ⟨_, rfl⟩
          replace H : (some y110) = some r := by first | (rw [hy110]; with_reducible exact H) | (have H2_ := (Option.bind_some _ _).symm.trans H; rw [hy110]; with_reducible exact H2_) | (have H2_ := (Option.bind_some _ _).symm.trans H; with_reducible exact H2_) | with_reducible exact H | (rw [hy110]; exact H) | exact H
          have Ny110 := Aside0.mk hy110
          clear hy110
          obtain rfl := Option.some.inj H
          go_enter Try.func12, Try.ntmps12
          go_wp2_with (first | ((with_reducible refine gate_builtin (b := .append) (xs := #[.tmp 4, .tmp 5]) rfl ?_); at_builtin; refine Kd.R_append_rows k46 (w0 := w) w.heap.size rfl (.tmp 4) (.tmp 5) 22 46 (.agg #[(.string ⟨#[]⟩), (.string ⟨#[]⟩)]) 32 rfl Try.underlying22 info46 rfl (by decide) (by omega) (.slice none 0 0) ([] : List (S46)) l0 _ _ _ (fun _ => True) (fun _ => False) rfl rfl ?aO ?aR (fun _ _ h => h) (fun _ h => h.elim) ?aF ?aB ?aS ?aL ?_; (case aR => repeat (first | exact HR0.out | (with_reducible refine Kd.C_alloc ?_ _) | (with_reducible refine Kd.C_drewN ?_ _) | (with_reducible refine Kd.C_drew ?_))); (case aB => exact (by repeat (first | (with_reducible first | exact HB.out | apply below_alloc | apply pw_below_drewN | apply below_drew1) | exact HB.out))); (case aF => exact (fun _ _ => trivial)); (case aO => exact ((Kd.R_nil _ _ _ _ (fun _ => True)))); (case aS => exact (below_size (by repeat (first | (with_reducible first | exact HB.out | apply below_alloc | apply pw_below_drewN | apply below_drew1) | exact HB.out)))); (case aL => have := LMc2.out; omega); intro v102 w6 ho hb hg hat; rw [← Ny101.out] at ho; have n0_ := Aside0.mk (hb); have n1_ := Aside0.mk (ho); clear HB; have HB := n0_; have HO103 := n1_; clear n0_ n1_; clear ho hb hg hat) | ((with_reducible refine gate_dst (N := 10) rfl ?_); refine Kd.R_lit k46 _ 46 ?hg (N := 10) ?hd (xs := ([(⟨(⟨#[109, 97, 114, 107]⟩ : ByteArray), (⟨#[111, 110, 101]⟩ : ByteArray)⟩ : S46), (⟨(⟨#[109, 97, 114, 107]⟩ : ByteArray), (⟨#[116, 119, 111]⟩ : ByteArray)⟩ : S46)] : List (S46))) (inner := [.string (⟨#[109, 97, 114, 107]⟩ : ByteArray), .string (⟨#[111, 110, 101]⟩ : ByteArray), .string (⟨#[109, 97, 114, 107]⟩ : ByteArray), .string (⟨#[116, 119, 111]⟩ : ByteArray)]) (ok := fun _ => True) (okp := fun _ => True) ?hr ?hp (fun _ hk => hk) trivial (Below.refl _ _) (Nat.le_refl _) (by simp) ?_; (case hd => rfl); (case hg => rfl); (case hr => first | (go_simp; done) | (go_simp; rfl)); (case hp => exact (Reps.c2 (show Kd.M k46 _ _ _ (⟨(⟨#[109, 97, 114, 107]⟩ : ByteArray), (⟨#[111, 110, 101]⟩ : ByteArray)⟩ : S46) [.string (⟨#[109, 97, 114, 107]⟩ : ByteArray), .string (⟨#[111, 110, 101]⟩ : ByteArray)] from (k46_mkM _ _ _ (⟨(⟨#[109, 97, 114, 107]⟩ : ByteArray), (⟨#[111, 110, 101]⟩ : ByteArray)⟩ : S46) )) (Reps.c2 (show Kd.M k46 _ _ _ (⟨(⟨#[109, 97, 114, 107]⟩ : ByteArray), (⟨#[116, 119, 111]⟩ : ByteArray)⟩ : S46) [.string (⟨#[109, 97, 114, 107]⟩ : ByteArray), .string (⟨#[116, 119, 111]⟩ : ByteArray)] from (k46_mkM _ _ _ (⟨(⟨#[109, 97, 114, 107]⟩ : ByteArray), (⟨#[116, 119, 111]⟩ : ByteArray)⟩ : S46) )) (Reps.none _ _)))); intro v105 w7 ho8 hb hg_ hnew_; clear hg_ hnew_; (first | rw [← Ny104.out] at ho8 | (simp only [Int.reduceToNat] at ho8; rw [← Ny104.out] at ho8)); have n0_ := Aside0.mk (Kd.R_elder' (by (with_reducible repeat (first | apply Kd.R_alloc | apply Kd.R_drewN | apply Kd.R_drew)); exact HO103.out) (Kd.R_base ho8) hb); have n1_ := Aside0.mk (Kd.R_lower (Kd.R_new' ho8 (Kd.R_lt (by (with_reducible repeat (first | apply Kd.R_alloc | apply Kd.R_drewN | apply Kd.R_drew)); exact HO103.out))) (below_size (by repeat (first | (with_reducible first | exact HB.out | apply below_alloc | apply pw_below_drewN | apply below_drew1) | exact HB.out)))); have n2_ := Aside0.mk (below_step (by repeat (first | (with_reducible first | exact HB.out | apply below_alloc | apply pw_below_drewN | apply below_drew1) | exact HB.out)) hb); clear HO103; clear HB; have HO103 := n0_; have HO106 := n1_; have HB := n2_; clear n0_ n1_ n2_; clear hb ho8; obtain ⟨Ao10, co10, eo10⟩ := Kd.R_slice HO106.out; subst eo10) | ((with_reducible refine gate_builtin (b := .append) (xs := #[.tmp 7, .tmp 10]) rfl ?_); at_builtin; refine Kd.R_append_rows k46 (w0 := w) w.heap.size rfl (.tmp 7) (.tmp 10) 22 46 (.agg #[(.string ⟨#[]⟩), (.string ⟨#[]⟩)]) 32 rfl Try.underlying22 info46 rfl (by decide) (by omega) v102 y101 y104 _ _ _ (fun k_ => some k_ ≠ (.slice Ao10 y104.length co10 : Value).ownBlock) (fun _ => False) rfl rfl ?aO ?aR (fun _ _ h => h) (fun _ h => h.elim) ?aF ?aB ?aS ?aL ?_; (case aR => repeat (first | exact (Kd.R_reads' HO106.out).2.2 | (with_reducible refine Kd.C_alloc ?_ _) | (with_reducible refine Kd.C_drewN ?_ _) | (with_reducible refine Kd.C_drew ?_))); (case aB => exact (by repeat (first | (with_reducible first | exact HB.out | apply below_alloc | apply pw_below_drewN | apply below_drew1) | exact HB.out))); (case aF => exact (fun k_ hk => Kd.fresh' (Kd.R_lt (by (with_reducible repeat (first | apply Kd.R_alloc | apply Kd.R_drewN | apply Kd.R_drew)); exact HO106.out)) k_ hk)); (case aO => exact (by (with_reducible repeat (first | apply Kd.R_alloc | apply Kd.R_drewN | apply Kd.R_drew)); exact Kd.R_mono HO103.out (fun _ hk => hk.2))); (case aS => exact (below_size (by repeat (first | (with_reducible first | exact HB.out | apply below_alloc | apply pw_below_drewN | apply below_drew1) | exact HB.out)))); (case aL => have := LMc3.out; omega); intro v108 w9 ho hb hg hat; rw [← Ny107.out] at ho; have n0_ := Aside0.mk (Kd.R_after (ok := (fun _ => True)) (by (with_reducible repeat (first | apply Kd.R_alloc | apply Kd.R_drewN | apply Kd.R_drew)); exact HO106.out) hg hat); have n1_ := Aside0.mk (hb); have n2_ := Aside0.mk (ho); clear HO106; clear HB; clear HO103; have HO106 := n0_; have HB := n1_; have HO109 := n2_; clear n0_ n1_ n2_; clear ho hb hg hat; obtain ⟨Ao11, co11, eo11⟩ := Kd.R_slice HO109.out; subst eo11; have q12 : ((l0.length : Int) : Int) ≤ ((y107.length : Int) : Int) := of_decide_eq_true (by first | (with_reducible assumption) | assumption); obtain ⟨i012, hi012, _, hsz12, _⟩ := info_parts info46; have hcut12 := cut_to (P := Try.prog) 22 46 .i64 Try.underlying22 hi012 Ao11 y107.length co11 (l0.length : Int) (of_decide_eq_true (by first | (with_reducible assumption) | assumption)) q12 (Kd.R_reads' HO109.out).2.1; have hr12 := Kd.R_take (m := ((l0.length : Int) : Int).toNat) HO109.out (by omega); have hy12 : y110.length = ((l0.length : Int) : Int).toNat := (by rw [Ny110.out, List.length_take]; omega); rw [← Ny110.out] at hr12; rw [← hy12] at hr12 hcut12; have HRC_ := Aside0.mk (Kd.R_reads' HO109.out); clear hy12 hi012 hsz12 HO109; have HO112 := Aside0.mk hr12; clear hr12; replace q12 := eq_true q12))
          go_ret
          exact ⟨_, _, rfl, by have h1 := HRC_.out.2.1; rw [Ny107.out, Ny101.out, Ny104.out] at h1; simpa using h1, by have h1 := HRC_.out.2.2; rw [Ny107.out, Ny101.out, Ny104.out, List.nil_append] at h1; have h2 : Kd.C k46 _ Ao11 (l0 ++ marks).length (l0 ++ marks) := h1; simpa using h2, by repeat (first | (with_reducible first | exact HB.out | apply below_alloc | apply pw_below_drewN | apply below_drew1) | exact HB.out)⟩
        · rw [if_neg c5] at H
          exact absurd H (by simp)
      · rw [if_neg c4] at H
        exact absurd H (by simp)
    · rw [if_neg c3] at H
      exact absurd H (by simp)
  · rw [if_neg c2] at H
    exact absurd H (by simp)


theorem cut_over {P : Program} (t e : TypeId) (kh : IntKind) {i : TypeInfo} (ht : P.underlying t = some (.slice e)) (hi : P.info? e = some i) (A : Option Addr) (n c : Nat) (j : Int) (h0 : 0 ≤ j) (hm : j ≤ c) :
    ∀ W : World, (Instr.slice t (.slice A n c) none (some (.int kh j)) none).run P W = .ok (.slice A j.toNat c) W := by
  intro W
  have hel : P.elem t = e := by simp [Program.elem, ht]
  have hu : P.underlying t = some (.slice (P.elem t)) := by rw [hel]; exact ht
  have ha : (A.map fun x => x.add 0) = A := by cases A <;> simp [Addr.add]
  rw [run_slice_h W t A n c hu kh j h0 (by omega), hel]
  simp [sizeOf, typeInfo, hi, sliced, Result.andThen, ha]
set_option maxHeartbeats 8000000 in
set_option maxRecDepth 100000 in
theorem kept_calls (k : Nat) (A0 : Option Addr) (c0 : Nat) (l0 : List (S46)) (A1 : Option Addr) (c1 : Nat) (l1 : List S46) (w : World) (hr0 : Kd.C k46 w A0 (l0 ++ marks).length (l0 ++ marks)) (hc0 : l0.length + 2 ≤ c0) (hr1 : Kd.C k46 w A1 l1.length l1) (hc1 : l1.length ≤ c1)
    (hz : l0.length ≤ 4398046510976) (h : larderlaw02_same.f k l0 l1 = some true) :
    Calls Try.prog 15 #[.slice A0 l0.length c0, .slice A1 l1.length c1] w fun e w' => e = .returned (.bool true) ∧ Drawn0 w w' := by
  obtain ⟨y119, hy⟩ : ∃ y, y = l0 ++ marks := ⟨_, rfl⟩
  have hyl : y119.length = l0.length + 2 := by rw [hy]; simp [marks]
  rw [← hy] at hr0
  have hr00 : Kd.C k46 w A0 l0.length l0 := by
    have := Kd.C_take (m := l0.length) hr0 (by omega)
    rw [show y119.take l0.length = l0 from by rw [hy]; simp] at this
    exact this
  have HR0 := Aside0.mk hr00
  have HC0 := Aside0.mk (show l0.length ≤ c0 by omega)
  have HR1 := Aside0.mk hr1
  have HC1 := Aside0.mk hc1
  have A6 := Aside0.mk h
  have g1 : rd_T46 y119 (l0.length : Int) = rd_T46 marks 0 := by
    unfold rd_T46
    rw [hy, List.getD_eq_getElem?_getD, List.getElem?_append_right (by omega)]; simp [List.getD_eq_getElem?_getD]
  have g2 : rd_T46 y119 ((l0.length : Int) + 1) = rd_T46 marks 1 := by
    unfold rd_T46
    rw [show ((l0.length : Int) + 1).toNat = l0.length + 1 from by omega, hy, List.getD_eq_getElem?_getD, List.getElem?_append_right (by omega)]; simp [List.getD_eq_getElem?_getD]
  obtain ⟨ji3, hji3⟩ : ∃ j_ : Int, (wrap64 ((l0.length : Int) + 2)) = j_ := ⟨_, rfl⟩
  have hji3w : (IntKind.i64.wrap ((l0.length : Int) + 2)) = ji3 := (i64_w _).trans hji3
  have e3 : ji3 = (l0.length : Int) + 2 := by rw [← hji3]; unfold wrap64; omega
  have c4b0 := eq_true (show 0 ≤ ji3 by omega)
  have c4b1 : decide (0 ≤ (ji3)) = true := decide_eq_true (by omega)
  have c8b0 : decide (0 ≤ (l0.length : Int)) = true := decide_eq_true (by omega)
  have c8b1 : decide (0 ≤ l0.length) = true := decide_eq_true (by omega)
  have c9b0 : decide ((l0.length : Int) < (y119.length : Int)) = true := decide_eq_true (by omega)
  have c9b1 : decide (l0.length < y119.length) = true := decide_eq_true (by omega)
  have c10 : ((rd_T46 y119 (l0.length : Int)).f1).toList = ([111, 110, 101] : List UInt8) := by rw [g1]; decide +kernel
  have c10b0 : (((rd_T46 y119 (l0.length : Int)).f1).toList == ([111, 110, 101] : List UInt8)) = true := beq_iff_eq.mpr c10
  have c10b1 : (((rd_T46 y119 (l0.length : Int)).f1).toList != ([111, 110, 101] : List UInt8)) = false := bne_eq_false_iff_eq.mpr c10
  obtain ⟨ji11, hji11⟩ : ∃ j_ : Int, (wrap64 ((l0.length : Int) + 1)) = j_ := ⟨_, rfl⟩
  have hji11w : (IntKind.i64.wrap ((l0.length : Int) + 1)) = ji11 := (i64_w _).trans hji11
  have e11 : ji11 = (l0.length : Int) + 1 := by rw [← hji11]; unfold wrap64; omega
  have c12b0 : decide (0 ≤ (ji11)) = true := decide_eq_true (by omega)
  have c13b0 : decide ((ji11) < (y119.length : Int)) = true := decide_eq_true (by omega)
  have c14 : ((rd_T46 y119 (ji11)).f1).toList = ([116, 119, 111] : List UInt8) := by rw [e11, g2]; decide +kernel
  have c14b0 : (((rd_T46 y119 (ji11)).f1).toList == ([116, 119, 111] : List UInt8)) = true := beq_iff_eq.mpr c14
  have c14b1 : (((rd_T46 y119 (ji11)).f1).toList != ([116, 119, 111] : List UInt8)) = false := bne_eq_false_iff_eq.mpr c14
  have c15 : (((rd_T46 y119 (l0.length : Int)).f0).toList == ([109, 97, 114, 107] : List UInt8)) = true := by rw [g1]; decide +kernel
  obtain ⟨i015, hi015, _, hsz15, _⟩ := info_parts info46
  have hcut15 := cut_over (P := Try.prog) 22 46 .i64 Try.underlying22 hi015 A0 l0.length c0 (ji3) (by omega) (by omega)
  have hj : ji3.toNat = y119.length := by omega
  rw [hj] at hcut15
  have HR122 := Aside0.mk hr0
  have HC122 := Aside0.mk (show y119.length ≤ c0 from by omega)
  clear hr0 hr00 hr1 hc1 hc0 hz h hy hyl e3 e11 hi015 hsz15 hj c10 c14 g1 g2
  go_enter Try.func15, Try.ntmps15
  go_wp2_with (first | ((with_reducible refine gate_callee (f := 31) rfl ?_); refine goesL_ (some 13) rfl rfl Try.func31 (by kernel_rfl) rfl #[.slice A0 l0.length c0, .slice A1 l1.length c1] rfl (by (try simp only [List.map_toArray, List.map_cons, List.map_nil]); first | done | rfl | (simp only [List.length_drop, List.length_take]; rfl)) ?_; (with_reducible refine (larderlaw02_same.calls k _ _ l0 _ _ l1 true _ ?side1 ?side2 ?side3 ?side4 A6.out).mono ?_); (case side1 => repeat (first | exact HR0.out | (with_reducible refine Kd.C_alloc ?_ _) | (with_reducible refine Kd.C_drewN ?_ _) | (with_reducible refine Kd.C_drew ?_))); (case side2 => exact HC0.out); (case side3 => repeat (first | exact HR1.out | (with_reducible refine Kd.C_alloc ?_ _) | (with_reducible refine Kd.C_drewN ?_ _) | (with_reducible refine Kd.C_drew ?_))); (case side4 => exact HC1.out); rintro e w' ⟨rfl, ⟨nd, rfl⟩⟩; refine ⟨_, rfl, ?_⟩; have p124 : 0 ≤ ((l0.length : Int) : Int) := of_decide_eq_true (by first | (with_reducible assumption) | assumption); have q124 : (l0.length : Int) < (y119.length : Int) := of_decide_eq_true (by first | (with_reducible assumption) | assumption); obtain ⟨ad124, e124, hx124_0, hx124_1⟩ := at_T46 HR122.out (l0.length : Int) p124 q124; cases e124; (try simp only [Go.IntWalk.toNatUp] at hx124_0); (try simp only [Go.IntWalk.toNatUp] at hx124_1); replace p124 := eq_true p124; replace q124 := eq_true q124; have p125 : 0 ≤ ((ji11) : Int) := of_decide_eq_true (by first | (with_reducible assumption) | assumption); have q125 : (ji11) < (y119.length : Int) := of_decide_eq_true (by first | (with_reducible assumption) | assumption); obtain ⟨ad125, e125, hx125_0, hx125_1⟩ := at_T46 HR122.out (ji11) p125 q125; obtain rfl : ad124 = ad125 := (by injection e125); replace p125 := eq_true p125; replace q125 := eq_true q125; have p126 : 0 ≤ ((l0.length : Int) : Int) := of_decide_eq_true (by first | (with_reducible assumption) | assumption); have q126 : (l0.length : Int) < (y119.length : Int) := of_decide_eq_true (by first | (with_reducible assumption) | assumption); obtain ⟨ad126, e126, hx126_0, hx126_1⟩ := at_T46 HR122.out (l0.length : Int) p126 q126; obtain rfl : ad124 = ad126 := (by injection e126); (try simp only [Go.IntWalk.toNatUp] at hx126_0); (try simp only [Go.IntWalk.toNatUp] at hx126_1); replace p126 := eq_true p126; replace q126 := eq_true q126))
  go_ret
  exact ⟨rfl, by repeat (first | exact Drawn0.refl _ | apply Drawn0.step)⟩

theorem twin_front {w : World} {A : Option Addr} {l0 : List S46} (h : Kd.C k46 w A (l0 ++ marks).length (l0 ++ marks)) : Kd.C k46 w A l0.length l0 := by
  have := Kd.C_take (m := l0.length) h (by simp)
  rwa [show (l0 ++ marks).take l0.length = l0 from by simp] at this
set_option maxHeartbeats 8000000 in
set_option maxRecDepth 100000 in
theorem finds_walk (k : Nat) (A0 : Option Addr) (c0 : Nat) (l0 : List S46) (a1 v : ByteArray) (ok : Bool) (w : World) (hr0 : Kd.C k46 w A0 l0.length l0) (hc0 : l0.length ≤ c0) (hz : l0.length ≤ 4398046510976)
    (h1 : gtin_Find.f k l0 a1 = some (v, ok)) (h2 : larderref02_Find.f k l0 a1 = some (v, ok)) (h3 : larderlaw02_same.f k l0 l0 = some true) (h4 : larderlaw02_twin.f l0 = some l0) :
    Calls Try.prog 3 #[.slice A0 l0.length c0, .string a1] w fun e w' => e = .returned (.bool true) ∧ Below w.heap.size w w' := by
  have H1 := Aside0.mk h1
  have H2 := Aside0.mk h2
  have H3 := Aside0.mk h3
  have H4 := Aside0.mk h4
  have HR0 := Aside0.mk hr0
  have HC0 := Aside0.mk hc0
  have HZ := Aside0.mk hz
  clear h1 h2 h3 h4 hr0 hc0 hz
  go_enter Try.func3, Try.ntmps3
  go_wp2_with (first | (go_at_call 12; (with_reducible refine (twin_calls A0 c0 l0 l0 _ HR0.out HC0.out H4.out).mono ?_); rintro e w1 ⟨A, c, rfl, hc, hk, hb⟩; have HC := Aside0.mk hc; have HK := Aside0.mk hk; have HB := Aside0.mk hb; clear hc hk hb) | (go_at_call 13; (with_reducible refine (gtin_Find.calls k A c l0 a1 v ok _ (twin_front HK.out) (by have := HC.out; omega) H1.out).mono ?_); rintro e w2 ⟨rfl, hb⟩; have n0_ := Aside0.mk (Kd.C_below HK.out hb); have n1_ := Aside0.mk (below_step HB.out hb); clear HK HB hb; have HK := n0_; have HB := n1_; clear n0_ n1_) | (go_at_call 14; (with_reducible refine (larderref02_Find.calls k A0 c0 l0 a1 v ok _ (Kd.C_below HR0.out HB.out) HC0.out H2.out).mono ?_); rintro e w' ⟨rfl, ⟨nd, rfl⟩⟩) | (go_at_call 15; (with_reducible refine (kept_calls k A c l0 A0 c0 l0 _ (Kd.C_drewN HK.out _) HC.out (Kd.C_drewN (Kd.C_below HR0.out HB.out) _) HC0.out HZ.out H3.out).mono ?_); rintro e w' ⟨rfl, ⟨nd2, rfl⟩⟩))
  go_ret
  exact ⟨rfl, by repeat (first | exact HB.out | apply pw_below_drewN)⟩
end Go.Proofs.Ytofagdjijpjlgaa.X
