/- Mixes: the iterator. Mixes: the iterator's walk. Mixes: what it answers. Few: the search. Few: the search, by recursion. Few: the iterator's walk. Few: what it answers. -/
import Derived.Test.YtfcjfjmjcmanaaaGb
import Derived.Test.YtfcjfjmjcmanaaaGm
import Derived.Laws.EntriesVeiled
import Derived.Test.YtfcjfjmjcmanaaaUaq
import Derived.Sort.BigQuietIn
set_option linter.unusedVariables false
namespace Go.Proofs.Ytfcjfjmjcmanaaa.V
open Go Go.RowKit Go.Proofs.Ytfcjfjmjcmanaaa.X Go.Proofs.Ytfcjfjmjcmanaaa.PThere Go.Proofs.Ytfcjfjmjcmanaaa.O Go.Proofs.Ytfcjfjmjcmanaaa.B Go.Proofs.YtfcjfjmjcmanaaaW.PrintWords Go.Proofs.YtfcjfjmjcmanaaaW.PrintLast Go.Proofs.YtfcjfjmjcmanaaaW.PrintMore
attribute [local go_sem] Oper.semAt_some
/-- Steps whose mixes are gone over. -/
def Okm (s : List Nat) : Prop := Right s ∧ Mu.M s ≤ 1048576
instance (s : List Nat) : Decidable (Okm s) := by unfold Okm Right; infer_instance
def toN (L : List Int) : List Nat := L.map Int.toNat
theorem toN_lift (s : List Nat) : toN (lift s) = s := by
  unfold toN lift
  rw [List.map_map]
  conv => rhs; rw [← List.map_id s]
  rfl
/-- Is there anything to go over? -/
def fewOk (L : List Int) : Bool := decide (lift (toN L) = L ∧ Okm (toN L))
theorem few_yes {L : List Int} (h : fewOk L = true) : ∃ s, L = lift s ∧ Okm s ∧ toN L = s := by
  have := of_decide_eq_true h
  exact ⟨toN L, this.1.symm, this.2, rfl⟩
theorem few_lift {s : List Nat} (h : Okm s) : fewOk (lift s) = true := by
  unfold fewOk
  rw [toN_lift]
  exact decide_eq_true ⟨rfl, h⟩
theorem le_mil (m : Nat) : decide (((m : Nat) : Int) ≤ 1048576) = decide (m ≤ 1048576) := decide_eq_decide.2 (by omega)
/-- What Count tells of it. -/
theorem count_few (L : List Int) : ∃ r1 r2 : Int, sched_Count.f 80 L = some (r1, r2) ∧ fewOk L = (decide (r2 = 0) && decide (r1 ≤ 1048576)) := by
  rcases Count_any L 80 (Nat.le_refl _) with ⟨s, rfl, h1, h2, h3⟩ | ⟨e, h1, h2⟩
  · refine ⟨_, _, h3, ?_⟩
    unfold fewOk
    rw [toN_lift, le_mil]
    simp [Okm, h1]
  · refine ⟨_, _, h2, ?_⟩
    rw [decide_eq_false h1, Bool.false_and]
    refine decide_eq_false ?_
    rintro ⟨h3, h4⟩
    have hm : Mu.M (toN L) ≤ 4611686018427387904 := Nat.le_trans h4.2 (by decide)
    have := Count_spec (toN L) h4.1 80 (Nat.le_refl _)
    rw [if_pos hm, h3, h2] at this
    injection this with this
    injection this with _ this
    exact h1 this
variable {W W' : World} {T : Nat → Prop} {v : Value} {L : List Int}
theorem few_calls (h : RdS W v L) : Calls Try.prog 107 #[v] W fun e W' => e = .returned (.bool (fewOk L)) ∧ Drawn0 W W' := by
  obtain ⟨r1, r2, hc, hf⟩ := count_few L
  obtain ⟨A, c, rfl, h1, hC⟩ := h
  have hk := sched_Count.calls 80 A c L r1 r2 W hC h1 hc
  rw [hf]
  have HK := Aside0.mk hk
  clear hc hf hk hC h1
  by_cases e2 : r2 = 0
  · subst e2
    by_cases e1 : r1 ≤ 1048576
    · have e1b : decide (r1 ≤ 1048576) = true := decide_eq_true e1
      go_enter Try.func107, Try.ntmps107
      go_wp2_with (go_at_call 51; refine HK.out.mono ?_; rintro e w2 ⟨rfl, hd⟩)
      go_ret
      exact ⟨by first | rfl | (simp; done) | (simp [*]; done), hd⟩
    · have e1b : decide (r1 ≤ 1048576) = false := decide_eq_false e1
      go_enter Try.func107, Try.ntmps107
      go_wp2_with (go_at_call 51; refine HK.out.mono ?_; rintro e w2 ⟨rfl, hd⟩)
      go_ret
      exact ⟨by first | rfl | (simp; done) | (simp [*]; done), hd⟩
  · have e2b : (r2 == 0) = false := by simpa using e2
    rw [decide_eq_false e2, Bool.false_and]
    go_enter Try.func107, Try.ntmps107
    go_wp2_with (go_at_call 51; refine HK.out.mono ?_; rintro e w2 ⟨rfl, hd⟩)
    go_ret
    exact ⟨by first | rfl | (simp; done) | (simp [*]; done), hd⟩
/-- The lists of Mixes. -/
def mixesOf (L : List Int) : List (List Int) := if fewOk L = true then genL nxtM (toN L).sum (toN L) () else []
theorem own_rw {b : Nat} (h : W.ownsRow b 3 1 v L.length (L.map (Value.int .i64))) (hL : L ≠ []) : ∃ g cap, v = .slice (some ⟨g, 0, none⟩) L.length cap ∧ b ≤ g ∧ L.length ≤ cap ∧ cap ≤ maxLen ∧ Rw W g cap L := by
  obtain ⟨_, ⟨_, h0⟩ | ⟨g, cap, cur, rfl, hb, hg, hc, hm, hs, ht⟩⟩ := h
  · exact absurd (List.length_eq_zero_iff.1 h0) hL
  · refine ⟨g, cap, rfl, hb, hc, hm, cur, hg, by omega, hc, fun i x hi => ?_⟩
    have hl := (List.getElem?_eq_some_iff.1 hi).1
    have := congrArg (fun l => l[i]?) ht
    simp only [Nat.mul_one] at this
    rw [List.getElem?_take_of_lt hl, List.getElem?_map, hi] at this
    simpa using this
theorem Rw.slB {r n cap : Nat} (h : Rw W r n L) (hc : L.length ≤ cap) (hn : cap ≤ n) (hm : cap ≤ maxLen) : SlB W (fun b => b = r) (.slice (some ⟨r, 0, none⟩) L.length cap) L := by
  obtain ⟨cur, h1, h2, h3, h4⟩ := h
  exact .inr ⟨r, 0, cap, cur, rfl, rfl, hc, hm, by omega, h1, fun i x hi => by rw [Nat.zero_add]; exact h4 i x hi⟩
theorem sum_calls {s : List Nat} (hr : Right s) (h : SlB W T v (lift s)) : Calls Try.prog 105 #[v] W fun e W' => e = .returned (.int .i64 ((s.sum : Nat) : Int)) ∧ Drawn0 W W' := by
  obtain ⟨A, c, rfl, h1, h2, hC⟩ := h.C
  exact sched_sum.calls 80 A c (lift s) _ W hC h1 (sum_spec s hr 80 (Nat.le_refl _))
theorem make_zero (S : Nat) (hS : S ≤ 4096) (W : World) : (Instr.makeSlice 26 (.int .i64 0) (.int .i64 (S : Int))).run Try.prog W = .ok (.slice (some ⟨W.heap.size, 0, none⟩) 0 S) (W.alloc (.cells (madeCells #[.int .i64 0] S) 3)) := by
  obtain ⟨i0, hi0, hz0, hz1, hz2⟩ := info_parts info3v
  have h := run_make (P := Try.prog) W 26 3 i0 (.int .i64 0) Try.underlying26 hi0 hz0 .i64 .i64 (0 : Int) (S : Int) (by omega) (by omega) (by rw [hz2]; omega) (by omega)
  rw [h, hz1]
  simp [Value.cells]
/-- The six blocks laid. -/
theorem m_start {By Bl rl cl n l S Z : Nat} {fv : Value} {ts : TypeId} {s : List Nat} {w4 : World} (hy : Boxed w4 By 102 (.func (.yield l) #[] #[])) (hl : Boxed w4 Bl 26 (.slice (some ⟨rl, 0, none⟩) s.length cl)) (hrl : Rw w4 rl n (s.map fun x : Nat => (x : Int))) (cll : s.length ≤ cl) (h1 : By ≠ rl) (h2 : Bl ≠ rl) (hZ : w4.heap.size = Z) :
    (((w4.alloc (.cells (madeCells #[.int .i64 0] S) 3)).alloc (.cells #[.slice (some ⟨Z, 0, none⟩) 0 S] 26)).alloc (.cells #[fv] ts)).frozen? ⟨Z + 1 + 1, 0, none⟩ = false ∧
    (((w4.alloc (.cells (madeCells #[.int .i64 0] S) 3)).alloc (.cells #[.slice (some ⟨Z, 0, none⟩) 0 S] 26)).alloc (.cells #[fv] ts)).cell? ⟨Z + 1 + 1, 0, none⟩ = some fv ∧
    OM ⟨Z + 1, By, Bl, Z + 1 + 1, Z, rl⟩ ts fv S cl n l (((w4.alloc (.cells (madeCells #[.int .i64 0] S) 3)).alloc (.cells #[.slice (some ⟨Z, 0, none⟩) 0 S] 26)).alloc (.cells #[fv] ts)) 0 [] s ∧
    StepS (fun _ => False) w4 (((w4.alloc (.cells (madeCells #[.int .i64 0] S) 3)).alloc (.cells #[.slice (some ⟨Z, 0, none⟩) 0 S] 26)).alloc (.cells #[fv] ts)) ∧
    (((w4.alloc (.cells (madeCells #[.int .i64 0] S) 3)).alloc (.cells #[.slice (some ⟨Z, 0, none⟩) 0 S] 26)).alloc (.cells #[fv] ts)).heap.size = Z + 3 := by
  subst hZ
  have bs := Boxed.new ((w4.alloc (.cells (madeCells #[.int .i64 0] S) 3)).alloc (.cells #[.slice (some ⟨w4.heap.size, 0, none⟩) 0 S] 26)) ts fv
  have bp := (Boxed.new (w4.alloc (.cells (madeCells #[.int .i64 0] S) 3)) 26 (.slice (some ⟨w4.heap.size, 0, none⟩) 0 S)).alloc (.cells #[fv] ts)
  simp only [World.size_alloc] at bs bp
  have br : (((w4.alloc (.cells (madeCells #[.int .i64 0] S) 3)).alloc (.cells #[.slice (some ⟨w4.heap.size, 0, none⟩) 0 S] 26)).alloc (.cells #[fv] ts)).heap[w4.heap.size]? = some (.cells (madeCells #[.int .i64 0] S) 3 (0, 0)) :=
    (Below.heap_alloc _ _ _ (by simp; omega)).trans ((Below.heap_alloc _ _ _ (by simp)).trans (World.alloc_heap_new w4 _))
  have kb : ∀ b, b < w4.heap.size → (((w4.alloc (.cells (madeCells #[.int .i64 0] S) 3)).alloc (.cells #[.slice (some ⟨w4.heap.size, 0, none⟩) 0 S] 26)).alloc (.cells #[fv] ts)).heap[b]? = w4.heap[b]? := fun b hb =>
    (Below.heap_alloc _ _ _ (by simp; omega)).trans ((Below.heap_alloc _ _ _ (by simp; omega)).trans (Below.heap_alloc _ _ _ hb))
  have hsz : (((w4.alloc (.cells (madeCells #[.int .i64 0] S) 3)).alloc (.cells #[.slice (some ⟨w4.heap.size, 0, none⟩) 0 S] 26)).alloc (.cells #[fv] ts)).heap.size = w4.heap.size + 3 := by simp
  have hst : StepS (fun _ => False) w4 (((w4.alloc (.cells (madeCells #[.int .i64 0] S) 3)).alloc (.cells #[.slice (some ⟨w4.heap.size, 0, none⟩) 0 S] 26)).alloc (.cells #[fv] ts)) := stepS_trans (stepS_trans (stepS_alloc _ _) (stepS_alloc _ _)) (stepS_alloc _ _)
  generalize (((w4.alloc (.cells (madeCells #[.int .i64 0] S) 3)).alloc (.cells #[.slice (some ⟨w4.heap.size, 0, none⟩) 0 S] 26)).alloc (.cells #[fv] ts)) = X at *
  have ly := hy.lt
  have ll := hl.lt
  have lr := hrl.lt
  exact ⟨bs.frozen, bs.cell, ⟨bp, (kb _ ly).trans hy, (kb _ ll).trans hl, bs, ⟨_, br, by simp [size_madeCells], by simp, fun i x hi => by simp at hi⟩, hrl.of_block (kb _ lr), ⟨by simp; omega, by simp; omega, by simp, by simp, by simp; omega, by simp; omega, by simp; omega, by simp; omega, by simp; omega, h1, h2, by simp; omega⟩, cll⟩, hst, hsz⟩
theorem below_step0 {n : Nat} {A B : World} (h : Below n A B) (hn : A.heap.size ≤ n) : StepS (fun _ => False) A B := ⟨h.os, h.tape, h.output, h.size, fun k hk _ => h.block k (by omega)⟩
theorem drawn_step0 {A B : World} (h : Drawn0 A B) : StepS (fun _ => False) A B ∧ B.heap = A.heap := by
  obtain ⟨k, rfl⟩ := h
  exact ⟨below_step0 (pw_below_drewN (Below.refl A.heap.size A) k) (Nat.le_refl _), by simp⟩
/-- A copy of steps. -/
theorem clone_lift {s : List Nat} (hr : Right s) (h : SlB W T v (lift s)) : Calls Try.prog 85 #[v] W fun e W' => ∃ rl cl, e = .returned (.slice (some ⟨rl, 0, none⟩) s.length cl) ∧ W.heap.size ≤ rl ∧ s.length ≤ cl ∧ cl ≤ maxLen ∧ Rw W' rl cl (s.map fun x : Nat => (x : Int)) ∧ Below W.heap.size W W' := by
  have hl := hr.2.1
  have h1 := hr.1
  refine (clone_row h (by rw [lift_length]; omega)).mono ?_
  rintro e W' ⟨u, rfl, ho, hB⟩
  obtain ⟨g, cap, rfl, q1, q2, q3, q4⟩ := own_rw ho (by intro z; have h2 := congrArg List.length z; rw [lift_length] at h2; have h3 : s.length = 0 := h2; omega)
  rw [lift_length] at q2 ⊢
  exact ⟨g, cap, rfl, q1, q2, q3, q4, hB⟩
end Go.Proofs.Ytfcjfjmjcmanaaa.V
set_option linter.unusedVariables false
namespace Go.Proofs.Ytfcjfjmjcmanaaa.V
open Go Go.RowKit Go.Proofs.Ytfcjfjmjcmanaaa.X Go.Proofs.Ytfcjfjmjcmanaaa.PThere Go.Proofs.Ytfcjfjmjcmanaaa.O Go.Proofs.Ytfcjfjmjcmanaaa.B Go.Proofs.YtfcjfjmjcmanaaaW.PrintWords Go.Proofs.YtfcjfjmjcmanaaaW.PrintLast Go.Proofs.YtfcjfjmjcmanaaaW.PrintMore
attribute [local go_sem] Oper.semAt_some
set_option maxRecDepth 100000
set_option maxHeartbeats 4000000
/-- The iterator of Mixes. -/
theorem mixes_in (n : Nat) (hn : 1 ≤ n) (l Bo Bs : Nat) (L : List Int) (sv : Value) (Rd : Nat → Prop) (J Jx : Nat → (Nat → Prop) → World → Prop) (hJ : AbidesS J) (hJx : AbidesS Jx)
    (hY : ∀ i L' T T1 v W1, (mixesOf L)[i]? = some L' → J i T1 W1 → (∀ b, T b → T1 b) → (∀ b, T1 b ∨ Rd b → b < W1.heap.size) → SlB W1 (fun b => T1 b ∧ ¬ T b ∧ ¬ Rd b) v L' → YieldAt Fence.wide (n - 1) Try.prog l #[v] W1 fun e W' =>
      (e = .returned (.bool true) ∧ J (i + 1) T W' ∧ KeepsT (fun b => T b ∨ Rd b) W1 W') ∨ (e = .returned (.bool false) ∧ Jx (i + 1) T W' ∧ KeepsT T W1 W'))
    (W : World) (hR : ∀ b, Rd b → b < W.heap.size) (hBo : Boxed W Bo 4 (.bool (fewOk L))) (hBs : Boxed W Bs 26 sv) (hsv : SlB W Rd sv L) (h0 : J 0 (fun _ => False) W) :
    CallsIn Fence.wide n Try.prog 108 #[.func (.yield l) #[] #[], .pointer (some ⟨Bo, 0, none⟩), .pointer (some ⟨Bs, 0, none⟩)] W fun e W' => (∃ v, e = .returned v) ∧
      ((∃ T, J (mixesOf L).length T W') ∨ (∃ i T, i ≤ (mixesOf L).length ∧ Jx i T W')) := by
  by_cases hf : fewOk L = true
  · obtain ⟨s, rfl, hok, hs⟩ := few_yes hf
    have hm : mixesOf (lift s) = genL nxtM s.sum s () := by unfold mixesOf; rw [if_pos hf, toN_lift]
    rw [hm] at hY ⊢
    have C := fun (B : Blk) => (⟨hJ, hJx, fun i L' T' T1 v W1 h1 h2 h3 h4 h5 => yieldAt_wide (hY i L' T' T1 v W1 h1 h2 h3 h4 h5)⟩ : Ctx (genL nxtM s.sum s ()) l Rd B.T J Jx)
    have HC := Aside0.mk C
    have HJ := Aside0.mk h0
    have HOK := Aside0.mk hok
    have HSV := Aside0.mk hsv
    have HR := Aside0.mk hR
    clear hJ hJx hY C h0 hok hsv hm hs hR
    rw [hf] at hBo
    refine callsIn_of_wp Try.func108 rfl trivial ?_ rfl
    simp only [Try.ntmps108, List.size_toArray, List.length_cons, List.length_nil, Nat.reduceAdd, Nat.reduceSub, Array.replicate_succ, Array.replicate_zero, List.push_toArray, List.append_toArray, List.nil_append, List.cons_append]
    have hy1 := Boxed.new W 102 (.func (.yield l) #[] #[])
    have kw : ∀ b, b < W.heap.size → (W.alloc (.cells #[.func (.yield l) #[] #[]] 102)).heap[b]? = W.heap[b]? := fun b hb => Below.heap_alloc W _ b hb
    have co := Boxed.cell (show Boxed (W.alloc (.cells #[.func (.yield l) #[] #[]] 102)) Bo 4 (.bool true) from (kw Bo hBo.lt).trans hBo)
    have cs := Boxed.cell (show Boxed (W.alloc (.cells #[.func (.yield l) #[] #[]] 102)) Bs 26 sv from (kw Bs hBs.lt).trans hBs)
    have hst0 : StepS (fun _ => False) W (W.alloc (.cells #[.func (.yield l) #[] #[]] 102)) := stepS_alloc _ _
    have hsz0 : (W.alloc (.cells #[.func (.yield l) #[] #[]] 102)).heap.size = W.heap.size + 1 := by simp
    have HSV1 := Aside0.mk (HSV.out.kept (W' := W.alloc (.cells #[.func (.yield l) #[] #[]] 102)) (fun j hj => kw j (HSV.out.own hj).2))
    obtain ⟨By, hBy⟩ : ∃ By, W.heap.size = By := ⟨_, rfl⟩
    rw [hBy] at hy1 hsz0
    gi_wp2_with (first
      | (refine ⟨trivial, ?_⟩; gi_at_call 85; go_loud (refine (callsIn_wide.2 (clone_lift HOK.out.1 HSV1.out)).mono ?_; rintro e w2 ⟨rl, cl, rfl, hrl, hcl, hcm, hrw, hB⟩; rw [hsz0] at hB hrl; have hyl := (show Boxed (w2.alloc (.cells #[.slice (some ⟨rl, 0, none⟩) s.length cl] 26)) By 102 (.func (.yield l) #[] #[]) from (Below.heap_alloc w2 _ _ (by have := hB.size; omega)).trans ((hB.block By (by omega)).trans hy1)); have hll := Boxed.new w2 26 (.slice (some ⟨rl, 0, none⟩) s.length cl); have hrw2 : Rw (w2.alloc (.cells #[.slice (some ⟨rl, 0, none⟩) s.length cl] 26)) rl cl (s.map fun x : Nat => (x : Int)) := hrw.of_block (Below.heap_alloc w2 _ _ hrw.lt); have hcl2 := hll.cell; have HL3 := Aside0.mk (And.intro hyl (And.intro hll (And.intro hrw2 (And.intro hcl (And.intro hcm (And.intro hrl hrw.lt)))))); have HS3 := Aside0.mk (stepS_trans (stepS_trans hst0 (below_step0 hB (by omega))) (stepS_alloc w2 (.cells #[.slice (some ⟨rl, 0, none⟩) s.length cl] 26))); have HZ3 := Aside0.mk hB.size; clear hrw hrw2 hyl hll hB hrl hcl hcm))
      | (refine ⟨trivial, ?_⟩; gi_at_call 105; go_loud (refine (callsIn_wide.2 (sum_calls HOK.out.1 (by have := HL3.out.2.2.1.slB (by simpa using HL3.out.2.2.2.1) (Nat.le_refl _) HL3.out.2.2.2.2.1; rw [List.length_map] at this; exact this))).mono ?_; rintro e w4 ⟨rfl, hd⟩; obtain ⟨Z, hZ⟩ : ∃ Z, w4.heap.size = Z := ⟨_, rfl⟩; obtain ⟨st4, hp4⟩ := drawn_step0 hd; have hp5 : ∀ b : Nat, w4.heap[b]? = (w2.alloc (.cells #[.slice (some ⟨rl, 0, none⟩) s.length cl] 26)).heap[b]? := fun b => (by rw [hp4]); have HZ4 := Aside0.mk (show w2.heap.size + 1 = Z by rw [← hZ, hp4]; simp); clear hp4 hd; have hmk := make_zero s.sum (by have := HOK.out.1.2.2; omega) w4; rw [hZ] at hmk; have ms := fun fv : Value => m_start (ts := 46) (S := s.sum) (Z := Z) (fv := fv) ((hp5 By).trans HL3.out.1) ((hp5 w2.heap.size).trans HL3.out.2.1) (HL3.out.2.2.1.of_block (hp5 rl)) HL3.out.2.2.2.1 (by have := HL3.out.2.2.2.2.2.1; omega) (by have := HL3.out.2.2.2.2.2.2; omega) hZ; have m1 := (ms .nilFunc).1; have m2 := (ms .nilFunc).2.1; obtain ⟨_, m3, m4, m5, m6⟩ := ms (fvM ⟨Z + 1, By, w2.heap.size, Z + 1 + 1, Z, rl⟩); clear ms; have HM := Aside0.mk (And.intro m4 (And.intro (stepS_trans (stepS_trans HS3.out st4) m5) m6)); clear m4 m5 m6 hp5 st4))
      | (refine ⟨trivial, ?_⟩; gi_at_call 109; go_loud (refine (callsIn_wide.2 (msearch (HC.out ⟨Z + 1, By, w2.heap.size, Z + 1 + 1, Z, rl⟩) HOK.out.1.2.2 s.sum [] s 0 _ (fun b hb => Nat.lt_of_lt_of_le (HR.out b hb) HM.out.2.1.size) HM.out.1 HOK.out.1.2.1 rfl (by simp) (fun k L hk => by simpa using hk) ((HC.out ⟨Z + 1, By, w2.heap.size, Z + 1 + 1, Z, rl⟩).hJ 0 _ W _ _ HJ.out HM.out.2.1 (fun b hb => .inr ⟨by have h1 := HZ3.out; have h2 := HZ4.out; have h3 := HL3.out.2.2.2.2.2.1; rcases hb with e | e | e | e | e | e <;> (simp only at e; omega), HM.out.1.lt b hb⟩)))).mono ?_; rintro e w7 ⟨bb, rfl, o7, z7, c7⟩; have C7 := Aside0.mk c7; clear o7 z7 c7)))
    refine bodyPost_end (results_none rfl _ _ _) rfl ?_
    refine ⟨⟨_, rfl⟩, ?_⟩
    rcases C7.out with ⟨_, h⟩ | ⟨_, i, hi, h⟩
    · rw [Nat.zero_add] at h
      exact .inl ⟨_, h⟩
    · exact .inr ⟨i, _, hi, h⟩
  · have hf' : fewOk L = false := by simpa using hf
    have hm : mixesOf L = [] := by unfold mixesOf; rw [if_neg hf]
    rw [hm]
    have HJ := Aside0.mk (hJ 0 _ W (W.alloc (.cells #[.func (.yield l) #[] #[]] 102)) (fun _ => False) h0 (stepS_alloc _ _) (fun b hb => .inl hb))
    rw [hf'] at hBo
    clear hY hJ hJx h0 hsv hBs hR hm hf
    refine callsIn_of_wp Try.func108 rfl trivial ?_ rfl
    simp only [Try.ntmps108, List.size_toArray, List.length_cons, List.length_nil, Nat.reduceAdd, Nat.reduceSub, Array.replicate_succ, Array.replicate_zero, List.push_toArray, List.append_toArray, List.nil_append, List.cons_append]
    have co := Boxed.cell (show Boxed (W.alloc (.cells #[.func (.yield l) #[] #[]] 102)) Bo 4 (.bool false) from (Below.heap_alloc W _ _ hBo.lt).trans hBo)
    gi_wp2
    refine bodyPost_ret (results_none rfl _ _ _) rfl ?_
    exact ⟨⟨_, rfl⟩, .inl ⟨_, HJ.out⟩⟩
end Go.Proofs.Ytfcjfjmjcmanaaa.V
set_option linter.unusedVariables false
namespace Go.Proofs.Ytfcjfjmjcmanaaa.V
open Go Go.RowKit Go.Proofs.Ytfcjfjmjcmanaaa.X Go.Proofs.Ytfcjfjmjcmanaaa.PThere Go.Proofs.Ytfcjfjmjcmanaaa.O Go.Proofs.Ytfcjfjmjcmanaaa.B Go.Proofs.YtfcjfjmjcmanaaaW.PrintWords Go.Proofs.YtfcjfjmjcmanaaaW.PrintLast Go.Proofs.YtfcjfjmjcmanaaaW.PrintMore
variable {W W' : World} {T : Nat → Prop} {v : Value} {L : List Int}
theorem drawn_bel {w w' : World} (h : Drawn0 w w') (n : Nat) : Below n w w' := by
  obtain ⟨k, rfl⟩ := h
  exact pw_below_drewN (Below.refl _ _) k
/-- What an iterator of Mixes reads. -/
structure MB (base Bo Bs : Nat) (sv : Value) (L : List Int) (W : World) : Prop where
  o0 : base ≤ Bo
  s0 : base ≤ Bs
  bo : Boxed W Bo 4 (.bool (fewOk L))
  bs : Boxed W Bs 26 sv
  row : SlB W (fun b => base ≤ b ∧ b ≠ Bo ∧ b ≠ Bs) sv L
def MB.Rd (Bo Bs : Nat) (sv : Value) : Nat → Prop := fun b => b = Bo ∨ b = Bs ∨ sv.ownBlock = some b
variable {base Bo Bs : Nat} {sv : Value}
theorem MB.lt (h : MB base Bo Bs sv L W) : ∀ b, MB.Rd Bo Bs sv b → base ≤ b ∧ b < W.heap.size := by
  rintro b (e | e | e)
  · rw [e]; exact ⟨h.o0, h.bo.lt⟩
  · rw [e]; exact ⟨h.s0, h.bs.lt⟩
  · exact ⟨(h.row.own e).1.1, (h.row.own e).2⟩
theorem MB.kept (h : MB base Bo Bs sv L W) (hk : ∀ b, MB.Rd Bo Bs sv b → W'.heap[b]? = W.heap[b]?) : MB base Bo Bs sv L W' :=
  ⟨h.o0, h.s0, (hk _ (.inl rfl)).trans h.bo, (hk _ (.inr (.inl rfl))).trans h.bs, h.row.kept (fun j hj => hk j (.inr (.inr hj)))⟩
theorem MB.below {n : Nat} (h : MB base Bo Bs sv L W) (hb : Below n W W') (hn : W.heap.size ≤ n) : MB base Bo Bs sv L W' :=
  h.kept (fun b hb2 => hb.block b (Nat.lt_of_lt_of_le (h.lt b hb2).2 hn))
theorem seq_mixes (n : Nat) (hn : 1 ≤ n) (w0 : World) (h : MB base Bo Bs sv L w0) : SeqV Fence.wide n Try.prog 108 #[.pointer (some ⟨Bo, 0, none⟩), .pointer (some ⟨Bs, 0, none⟩)] (MB.Rd Bo Bs sv) (fun _ => False) (mixesOf L) w0 := by
  intro l J Jx W hW hk hJ hJx hY h0
  have h' : MB base Bo Bs sv L W := h.kept (fun b hb => hk b (.inr hb))
  exact mixes_in n hn l Bo Bs L sv _ J Jx hJ hJx hY W (fun b hb => (h'.lt b hb).2) h'.bo h'.bs (h'.row.mono (fun j hj _ => .inr (.inr hj))) h0
set_option maxRecDepth 100000 in
set_option maxHeartbeats 4000000 in
theorem mixes_calls (h : RdS W v L) (hl : L.length ≤ 17592186043904) : Calls Try.prog 56 #[v] W fun e W' => ∃ Bo Bs sv, e = .returned (.func (.func 108) #[] #[.pointer (some ⟨Bo, 0, none⟩), .pointer (some ⟨Bs, 0, none⟩)]) ∧ MB W.heap.size Bo Bs sv L W' ∧ Below W.heap.size W W' := by
  obtain ⟨A, c, rfl⟩ := h.slice
  have kw : ∀ b, b < W.heap.size → (W.alloc (.cells #[.slice A L.length c] 26)).heap[b]? = W.heap[b]? := fun b hb => Below.heap_alloc W _ b hb
  have hs1 := Boxed.new W 26 (.slice A L.length c)
  have HSV := Aside0.mk (h.below ((Below.refl W.heap.size W).alloc (Nat.le_refl _) (.cells #[.slice A L.length c] 26)))
  have HL := Aside0.mk hl
  have c1 := hs1.cell
  have hsz : (W.alloc (.cells #[.slice A L.length c] 26)).heap.size = W.heap.size + 1 := by simp
  have HB1 := Aside0.mk ((Below.refl W.heap.size W).alloc (Nat.le_refl _) (.cells #[.slice A L.length c] 26))
  obtain ⟨Bs, hBs⟩ : ∃ Bs, W.heap.size = Bs := ⟨_, rfl⟩
  rw [hBs] at hs1 hsz c1
  have HS1 := Aside0.mk hs1
  have HZ := Aside0.mk hsz
  clear h hl hs1 hsz kw
  go_enter Try.func56, Try.ntmps56
  go_wp2_with (first
    | (go_at_call 107; go_loud (refine (few_calls HSV.out).mono ?_; rintro e w2 ⟨rfl, hd⟩; obtain ⟨st2, hp2⟩ := drawn_step0 hd; have HP2 := Aside0.mk hp2; have hz2 : w2.heap.size = Bs + 1 := (by rw [hp2]; exact HZ.out); have bo := Boxed.new w2 4 (.bool (fewOk L)); rw [hz2] at bo; have HBO := Aside0.mk bo; have hs3 : Boxed (w2.alloc (.cells #[.bool (fewOk L)] 4)) Bs 26 (.slice A L.length c) := (Below.heap_alloc w2 _ _ (by omega)).trans (by rw [hp2]; exact HS1.out); have HS3 := Aside0.mk hs3; have c3 := hs3.cell; have HD2 := Aside0.mk (drawn_bel hd W.heap.size); have HD3 := Aside0.mk (drawn_bel hd (W.alloc (.cells #[.slice A L.length c] 26)).heap.size); clear bo hd st2 hp2 hs3))
    | (go_at_call 85; go_loud (refine (clone_rd (HSV.out.below (HD3.out.alloc (by rw [hz2, HZ.out]; exact Nat.le_refl _) (.cells #[.bool (fewOk L)] 4))) HL.out).mono ?_; rintro e w4 ⟨u, rfl, ho, hB⟩; obtain ⟨A2, c2, rfl⟩ := (RI.of_own ho).slB.slice; have HO := Aside0.mk ho; have HB4 := Aside0.mk hB; have hs4 : Boxed w4 Bs 26 (.slice A L.length c) := (hB.block Bs (by simp; omega)).trans HS3.out; have HS4 := Aside0.mk hs4; have f4 := hs4.frozen; have c4 := hs4.cell; clear ho hB hs4)))
  go_ret
  have h4 := HB4.out.size
  simp only [World.size_alloc] at h4
  refine ⟨Bs + 1, Bs, .slice A2 L.length c2, rfl, ⟨by omega, by omega, ?_, HS4.out.set _, ?_⟩, ?_⟩
  · exact (Below.heap_setCell w4 _ _ _ (by simp)).trans ((HB4.out.block _ (by simp; omega)).trans HBO.out)
  · have hr := (RI.of_own HO.out).slB
    refine (hr.mono (T' := fun b => W.heap.size ≤ b ∧ b ≠ Bs + 1 ∧ b ≠ Bs) (fun j hj hT => ?_)).kept (fun j hj => ?_)
    · have := hT.1
      simp at this
      omega
    · have := (hr.own hj).1.1
      simp at this
      exact Below.heap_setCell w4 _ _ _ (by show j ≠ Bs; omega)
  · have b2 := HB1.out.trans HD2.out
    have b3 := b2.alloc (by rw [hz2]; omega) (.cells #[.bool (fewOk L)] 4)
    have b4 := b3.trans (HB4.out.mono (by simp; omega))
    exact b4.setCell (by show W.heap.size ≤ Bs; omega) _
end Go.Proofs.Ytfcjfjmjcmanaaa.V
set_option linter.unusedVariables false
namespace Go.Proofs.Ytfcjfjmjcmanaaa.V
open Go Go.RowKit Go.Proofs.Ytfcjfjmjcmanaaa.O Go.Proofs.Ytfcjfjmjcmanaaa.B Go.Proofs.YtfcjfjmjcmanaaaW.PrintWords Go.Proofs.YtfcjfjmjcmanaaaW.PrintLast Go.Proofs.YtfcjfjmjcmanaaaW.PrintMore
attribute [local go_sem] Oper.semAt_some
abbrev fvF (B : Blk) (Bm : Nat) : Value := .func (.func 111) #[] #[.pointer (some ⟨B.p, 0, none⟩), .pointer (some ⟨B.y, 0, none⟩), .pointer (some ⟨B.l, 0, none⟩), .pointer (some ⟨Bm, 0, none⟩), .pointer (some ⟨B.s, 0, none⟩)]
abbrev OMF (B : Blk) (Bm cap cl n l : Nat) (W : World) (k : Nat) (P : List Int) (left : List Nat) : Prop := OM B 101 (fvF B Bm) cap cl n l W k P left
/-- How a search ends. -/
def PostF (B : Blk) (Bm : Nat) (most : Int) (cap cl n l : Nat) (Ls : List (List Int)) (J Jx : Nat → (Nat → Prop) → World → Prop) (W0 : World) (i1 : Nat) (p : List Int) (left : List Nat) (e : Ending) (W' : World) : Prop :=
  ∃ bb, e = .returned (.bool bb) ∧ OMF B Bm cap cl n l W' p.length p left ∧ W0.heap.size ≤ W'.heap.size ∧ ((bb = true ∧ J i1 B.T W' ∧ Boxed W' Bm 3 (.int .i64 most)) ∨ (bb = false ∧ ∃ i, i ≤ Ls.length ∧ Jx i B.T W'))
/-- The last pick. -/
def LastOf (p : List Int) (last : Option Nat) (N : Nat) : Prop := match last with
  | none => p = []
  | some h => ∃ p0, p = p0 ++ [(h : Int)] ∧ h < N
set_option maxRecDepth 100000
set_option maxHeartbeats 4000000
/-- At the end: a list is handed over. -/
theorem fsearch_end {Ls : List (List Int)} {l cap cl n Bm : Nat} {most sw : Int} {Rd : Nat → Prop} {J Jx : Nat → (Nat → Prop) → World → Prop} {B : Blk} (C : Ctx Ls l Rd B.T J Jx) (hRm : Rd Bm) (hcap : cap ≤ 24) (p : List Int) (left : List Nat) (i0 : Nat) (W : World) (hR : ∀ b, Rd b → b < W.heap.size)
    (o : OMF B Bm cap cl n l W p.length p left) (hm : Boxed W Bm 3 (.int .i64 most)) (hp : p.length = cap) (hL : Ls[i0]? = some p) (hj : J i0 B.T W) :
    Calls Try.prog 111 #[.int .i64 sw, .pointer (some ⟨B.p, 0, none⟩), .pointer (some ⟨B.y, 0, none⟩), .pointer (some ⟨B.l, 0, none⟩), .pointer (some ⟨Bm, 0, none⟩), .pointer (some ⟨B.s, 0, none⟩)] W (PostF B Bm most cap cl n l Ls J Jx W (i0 + 1) p left) := by
  refine (callsIn_wide (n := 3)).1 ?_
  refine callsIn_of_wp Try.func111 rfl trivial ?_ rfl
  simp only [Try.ntmps111, List.size_toArray, List.length_cons, List.length_nil, Nat.reduceAdd, Nat.reduceSub, Array.replicate_succ, Array.replicate_zero, List.push_toArray, List.append_toArray, List.nil_append, List.cons_append]
  have c1 := o.bp.cell
  have c2 := o.by'.cell
  have HC := Aside0.mk C
  have HJ := Aside0.mk hj
  have HL := Aside0.mk hL
  have HR := Aside0.mk hR
  have HM := Aside0.mk hm
  have HRM := Aside0.mk hRm
  have hroE : Fence.wide.round = none := rfl
  obtain ⟨q, hq⟩ : ∃ q, p.length = q := ⟨_, rfl⟩
  rw [hq] at c1 hp o
  have HO := Aside0.mk o
  have HQ := Aside0.mk hq
  subst hp
  clear o C hj hL hR hq hm hRm
  have hmo : Try.prog.follows Departure.mixedOrders = true := by kernel_rfl
  have HS := Aside0.mk (HO.out.slP HQ.out)
  gi_wp2
  gi_region_with_o (first
    | (refine ⟨trivial, ?_⟩; gi_at_call 85; go_loud (refine (callsIn_wide.2 (clone_row (HS.out.kept (W' := W.drew) (fun _ _ => rfl)) (by have := HQ.out; omega))).mono ?_; rintro e w5 ⟨u, rfl, ho, hb⟩; obtain ⟨fn, tm, asg, bd, hy, hYR⟩ := yield_at HC.out HR.out HO.out HL.out HJ.out ho hb; have HYR := Aside0.mk hYR; have HB5 := Aside0.mk hb; have O5 := Aside0.mk (HO.out.kept (W' := w5) (fun b hb => HB5.out.block b (HO.out.lt b hb))); have cy5 := O5.out.by'.cell; clear ho hb hYR))
    | ((with_reducible refine round_gate ?_); refine HYR.out.mono ?_; rintro e w6 ⟨bb, rfl, hk6, hc6⟩; have HK6 := Aside0.mk hk6; have HC6 := Aside0.mk hc6; clear hk6 hc6))
  all_goals gi_wp2
  all_goals go_ret
  all_goals (
    have h5 : W.heap.size ≤ w5.heap.size := HB5.out.size
    refine ⟨bb, rfl, ?_, Nat.le_trans h5 HK6.out.1, ?_⟩
    · rw [HQ.out]
      exact O5.out.keeps HK6.out
    · rcases HC6.out with ⟨e, h, hk⟩ | ⟨e, h⟩
      · exact .inl ⟨e, h, (hk.2 Bm HRM.out (Nat.lt_of_lt_of_le HM.out.lt h5)).trans ((HB5.out.block Bm HM.out.lt).trans HM.out)⟩
      · exact .inr ⟨e, _, by have := (List.getElem?_eq_some_iff.1 HL.out).1; omega, h⟩)
/-- What the guard of a switch reads. -/
theorem guard_cases {p : List Int} {left : List Nat} {last : Option Nat} {q N x sw nn : Nat} (hl : LastOf p last left.length) (hq : p.length = q) (hN : left.length = N) (hnn : sw + swAt left last x = nn) :
    (q = 0 ∧ nn = sw) ∨ ∃ qq lp, q = qq + 1 ∧ p[qq]? = some ((lp : Nat) : Int) ∧ lp < N ∧ ((lp = x ∧ nn = sw) ∨ (lp ≠ x ∧ left.getD lp 0 = 0 ∧ nn = sw) ∨ (lp ≠ x ∧ 0 < left.getD lp 0 ∧ nn = sw + 1)) := by
  cases last with
  | none =>
    have : p = [] := hl
    subst this
    exact .inl ⟨hq.symm, hnn.symm⟩
  | some h =>
    obtain ⟨p0, rfl, hh⟩ := hl
    refine .inr ⟨p0.length, h, by rw [← hq]; simp, by simp, by omega, ?_⟩
    have hs : swAt left (some h) x = if h ≠ x ∧ 0 < left.getD h 0 then 1 else 0 := rfl
    rw [hs] at hnn
    by_cases e : h = x
    · rw [if_neg (fun z => z.1 e)] at hnn
      exact .inl ⟨e, hnn.symm⟩
    · by_cases e2 : 0 < left.getD h 0
      · rw [if_pos ⟨e, e2⟩] at hnn
        exact .inr (.inr ⟨e, e2, hnn.symm⟩)
      · rw [if_neg (fun z => e2 z.2)] at hnn
        exact .inr (.inl ⟨e, by omega, hnn.symm⟩)
end Go.Proofs.Ytfcjfjmjcmanaaa.V
set_option linter.unusedVariables false
namespace Go.Proofs.Ytfcjfjmjcmanaaa.V
open Go Go.RowKit Go.Proofs.Ytfcjfjmjcmanaaa.O Go.Proofs.Ytfcjfjmjcmanaaa.B Go.Proofs.YtfcjfjmjcmanaaaW.PrintWords Go.Proofs.YtfcjfjmjcmanaaaW.PrintLast Go.Proofs.YtfcjfjmjcmanaaaW.PrintMore
attribute [local go_sem] Oper.semAt_some
theorem drawn_step0' {A B : World} (h : Drawn0 A B) : StepS (fun _ => False) A B := by
  obtain ⟨k, rfl⟩ := h
  have := pw_below_drewN (Below.refl A.heap.size A) k
  exact ⟨this.os, this.tape, this.output, this.size, fun j hj _ => this.block j hj⟩
set_option maxRecDepth 100000
set_option maxHeartbeats 4000000
/-- The search. -/
theorem fsearch {Ls : List (List Int)} {l cap cl n Bm : Nat} {most : Int} {Rd : Nat → Prop} {J Jx : Nat → (Nat → Prop) → World → Prop} {B : Blk} (C : Ctx Ls l Rd B.T J Jx) (hRm : Rd Bm) (hTm : ¬ B.T Bm) (hcap : cap ≤ 24) (d : Nat) : ∀ (p : List Int) (left : List Nat) (last : Option Nat) (sw i0 : Nat) (W : World), (∀ b, Rd b → b < W.heap.size) →
    OMF B Bm cap cl n l W p.length p left → Boxed W Bm 3 (.int .i64 most) → left.length ≤ 16 → left.sum = d → p.length + d = cap → sw ≤ p.length → LastOf p last left.length → (∀ (k : Nat) L, (genL (nxtF most) d left (last, sw))[k]? = some L → Ls[i0 + k]? = some (p ++ L)) → J i0 B.T W →
    Calls Try.prog 111 #[.int .i64 (sw : Int), .pointer (some ⟨B.p, 0, none⟩), .pointer (some ⟨B.y, 0, none⟩), .pointer (some ⟨B.l, 0, none⟩), .pointer (some ⟨Bm, 0, none⟩), .pointer (some ⟨B.s, 0, none⟩)] W (PostF B Bm most cap cl n l Ls J Jx W (i0 + (genL (nxtF most) d left (last, sw)).length) p left) := by
  induction d with
  | zero =>
    intro p left last sw i0 W hR o hm hll hs hp hsw hla hL hj
    exact fsearch_end C hRm hcap p left i0 W hR o hm (by omega) (by have := hL 0 [] rfl; simpa using this) hj
  | succ d ih =>
    intro p left last sw i0 W hR o hm hll hs hp hsw hla hL hj
    refine (callsIn_wide (n := 3)).1 ?_
    refine callsIn_of_wp Try.func111 rfl trivial ?_ rfl
    simp only [Try.ntmps111, List.size_toArray, List.length_cons, List.length_nil, Nat.reduceAdd, Nat.reduceSub, Array.replicate_succ, Array.replicate_zero, List.push_toArray, List.append_toArray, List.nil_append, List.cons_append]
    have c1 := o.bp.cell
    have c2 := o.bl.cell
    obtain ⟨q, hq⟩ : ∃ q, p.length = q := ⟨_, rfl⟩
    rw [hq] at c1 hp o hsw
    obtain ⟨N, hN⟩ : ∃ N, left.length = N := ⟨_, rfl⟩
    rw [hN] at c2 hll
    have HO := Aside0.mk o
    have HM := Aside0.mk hm
    have HC := Aside0.mk C
    have HJ := Aside0.mk hj
    have HL := Aside0.mk hL
    have HQ := Aside0.mk hq
    have HN := Aside0.mk hN
    have HS := Aside0.mk hs
    have IH := Aside0.mk ih
    have HP := Aside0.mk hp
    have HSW := Aside0.mk hsw
    have HLA := Aside0.mk hla
    have HRM := Aside0.mk (And.intro hRm hTm)
    have ne : ((q : Int) == (cap : Int)) = false := by simp; omega
    have ne2 : (q = cap) = False := eq_false (by omega)
    clear o C hj hL hq hN hs ih hp hm hsw hla hRm hTm
    have hwq : wrap64 ((q : Int) + 1) = (q : Int) + 1 := X.hwrId (by have := HP.out; omega) (by have := HP.out; omega)
    gi_wp2
    gi_loopw [23] (fun h wr => ∃ x : Nat, h = .int .i64 (x : Int) ∧ Aside0 (x ≤ N) ∧ Aside0 (OMF B Bm cap cl n l wr q p left) ∧ Aside0 (Boxed wr Bm 3 (.int .i64 most)) ∧ Aside0 (J (i0 + offL (nxtF most) d left (last, sw) x) B.T wr) ∧ Aside0 (W.heap.size ≤ wr.heap.size)) (fun h _ => N - (intOf h).toNat)
    case atStart => exact ⟨0, rfl, ⟨by omega⟩, HO, HM, HJ, ⟨Nat.le_refl _⟩⟩
    case round =>
      clear HO HJ HM c1 c2
      obtain ⟨x, rfl, Hx, HO, HM, HJ, HSZ⟩ := hrel
      have wx := Aside0.mk (w1 x (by have := Hx.out; omega))
      have c2 := HO.out.bl.cell
      rw [HN.out] at c2
      by_cases hlt : x < N
      · have cx := HO.out.step x (by rw [HN.out]; exact hlt)
        have x0 : ((0 : Int) ≤ (x : Int)) = True := eq_true (by omega)
        have x1 : ((x : Int) < (N : Int)) = True := eq_true (by omega)
        have HLT := Aside0.mk hlt
        obtain ⟨y, hy⟩ : ∃ y, left.getD x 0 = y := ⟨_, rfl⟩
        rw [hy] at cx
        by_cases h0 : y = 0
        · have y0 : ((y : Int) == 0) = true := by simp; omega
          have en : nxtF most left (last, sw) x = none := by unfold nxtF; rw [hy, if_pos h0]
          have ho : offL (nxtF most) d left (last, sw) (x + 1) = offL (nxtF most) d left (last, sw) x := by rw [offL_next, segL_none en]; simp
          have HOF := Aside0.mk ho
          subst h0
          clear ho en
          replace hlt := eq_true hlt
          gi_wp2
          exact ⟨⟨x + 1, by first | rfl | rw [wx.out], ⟨by have := HLT.out; omega⟩, HO, HM, ⟨by rw [HOF.out]; exact HJ.out⟩, HSZ⟩, by first | (simp only [intOf]; have := HLT.out; omega) | (rw [wx.out]; simp only [intOf]; have := HLT.out; omega)⟩
        · have y0 : ((y : Int) == 0) = false := by simp; omega
          obtain ⟨nn, hnn⟩ : ∃ nn, sw + swAt left last x = nn := ⟨_, rfl⟩
          have gc := guard_cases HLA.out HQ.out HN.out hnn
          have HNN := Aside0.mk hnn
          have c1 := HO.out.bp.cell
          have cm := HM.out.cell
          have HY := Aside0.mk hy
          have HY0 := Aside0.mk h0
          clear hnn hy h0
          replace hlt := eq_true hlt
          have G : (decide (0 < q) = false ∧ Aside0 (nn = sw)) ∨ ∃ qq lp yp : Nat, wrap64 ((q : Int) - 1) = (qq : Int) ∧ ((0 : Int) ≤ (qq : Int)) = True ∧ ((qq : Int) < (q : Int)) = True ∧ decide (0 < q) = true ∧ wr.cell? ⟨B.rp, qq, none⟩ = some (.int .i64 (lp : Int)) ∧ wr.cell? ⟨B.rl, lp, none⟩ = some (.int .i64 (yp : Int)) ∧ ((0 : Int) ≤ (lp : Int)) = True ∧ ((lp : Int) < (N : Int)) = True ∧ ((((lp : Int) != (x : Int)) = false ∧ Aside0 (nn = sw)) ∨ (((lp : Int) != (x : Int)) = true ∧ ((decide (0 < yp) = false ∧ Aside0 (nn = sw)) ∨ (decide (0 < yp) = true ∧ wrap64 ((sw : Int) + 1) = (nn : Int))))) := by
            rcases gc with ⟨g1, g2⟩ | ⟨qq, lp, rfl, g1, g2, g3⟩
            · exact .inl ⟨decide_eq_false (by omega), ⟨g2⟩⟩
            · refine .inr ⟨qq, lp, left.getD lp 0, ?_, eq_true (by omega), eq_true (by omega), decide_eq_true (by omega), HO.out.rp.cell g1, HO.out.step lp (by rw [HN.out]; exact g2), eq_true (by omega), eq_true (by omega), ?_⟩
              · rw [X.hwrId (by omega) (by have := HP.out; omega)]; omega
              · rcases g3 with ⟨g3, g4⟩ | ⟨g3, g5, g4⟩ | ⟨g3, g5, g4⟩
                · exact .inl ⟨by simp; omega, ⟨g4⟩⟩
                · exact .inr ⟨by simp; omega, .inl ⟨decide_eq_false (by omega), ⟨g4⟩⟩⟩
                · exact .inr ⟨by simp; omega, .inr ⟨decide_eq_true (by omega), by rw [X.hwrId (by omega) (by have := HSW.out; have := HP.out; omega)]; omega⟩⟩
          have Hy24 := Aside0.mk (show y ≤ 24 by have h1 : y ≤ left.sum := by rw [← HY.out]; exact getD_le_sum left x
                                                 have := HS.out; have := HP.out; omega)
          have HNQ := Aside0.mk (show nn ≤ q + 1 by have := HSW.out; have := HNN.out; have h1 : swAt left last x ≤ 1 := by unfold swAt; split <;> (try split) <;> omega
                                                    omega)
          clear gc
          have hq0 : wrap64 (q : Int) = (q : Int) := X.hwrId (by have := HP.out; omega) (by have := HP.out; omega)
          by_cases hle : (nn : Int) ≤ most
          · have le1 : decide (most < (nn : Int)) = false := decide_eq_false (by omega)
            have en : nxtF most left (last, sw) x = some (some x, nn) := by unfold nxtF; rw [HY.out, if_neg HY0.out, if_pos (by show ((sw + swAt left last x : Nat) : Int) ≤ most; rw [HNN.out]; exact hle)]; show some (some x, sw + swAt left last x) = _; rw [HNN.out]
            have EN := Aside0.mk en
            clear en hle
            have hq1 : wrap64 ((q : Int) + 1 - 1) = (q : Int) := by rw [show (q : Int) + 1 - 1 = (q : Int) by omega]; exact hq0
            have q0 : ((0 : Int) ≤ (q : Int)) = True := eq_true (by omega)
            have q1 : ((q : Int) ≤ (cap : Int)) = True := eq_true (by have := HP.out; omega)
            have q2 : (q ≤ cap) = True := eq_true (by have := HP.out; omega)
            have wy : wrap64 ((y : Int) - 1) = ((y - 1 : Nat) : Int) := by rw [X.hwrId (by omega) (by have := Hy24.out; omega)]; have := HY0.out; omega
            obtain ⟨z, hz⟩ : ∃ z, y - 1 = z := ⟨_, rfl⟩
            rw [hz] at wy
            have HZ := Aside0.mk hz
            have wz : wrap64 ((z : Int) + 1) = (y : Int) := by rw [X.hwrId (by omega) (by have := Hy24.out; omega)]; have := HY0.out; omega
            have hdec : left.set x z = dec left x := by unfold dec; rw [HY.out, hz]
            have HDEC := Aside0.mk hdec
            have key : ∀ k : Nat, ∃ W2, W2 = wr.drewN k ∧ Aside0 (OMF B Bm cap cl n l W2 q p left) ∧ W2.frozen? ⟨B.rl, x, none⟩ = false ∧ Aside0 (OMF B Bm cap cl n l (W2.setCell ⟨B.rl, x, none⟩ (.int .i64 (z : Int))) q p (dec left x)) ∧ Aside0 (StepS B.T wr (W2.setCell ⟨B.rl, x, none⟩ (.int .i64 (z : Int)))) ∧ (W2.setCell ⟨B.rl, x, none⟩ (.int .i64 (z : Int))).cell? ⟨B.p, 0, none⟩ = some (.slice (some ⟨B.rp, 0, none⟩) q cap) ∧ W2.cell? ⟨Bm, 0, none⟩ = some (.int .i64 most) ∧ W2.cell? ⟨B.l, 0, none⟩ = some (.slice (some ⟨B.rl, 0, none⟩) N cl) ∧ W2.cell? ⟨B.rl, x, none⟩ = some (.int .i64 (y : Int)) := fun k => by
              have o0 := HO.out.kept (W' := wr.drewN k) (fun _ _ => by simp)
              obtain ⟨f1, o1, s1⟩ := o0.steps x (by rw [HN.out]; exact HLT.out) z
              rw [hdec] at o1
              exact ⟨_, rfl, ⟨o0⟩, f1, ⟨o1⟩, ⟨stepS_trans ((drawn_step0' ⟨k, rfl⟩).mono (fun _ h => h.elim)) s1⟩, o1.bp.cell, by simpa using cm, by simpa using c2, by simpa using cx⟩
            clear hdec hz
            rcases G with ⟨g4, ⟨g⟩⟩ | ⟨qq, lp, yp, g1, g2, g3, g4, g5, g6, g7, g8, ⟨g9, ⟨g⟩⟩ | ⟨g9, ⟨g10, ⟨g⟩⟩ | ⟨g10, g11⟩⟩⟩
            all_goals (first | subst g | skip)
            all_goals gi_wp2
            all_goals gi_big_quiet_th (fail)
            all_goals (
              obtain ⟨W2, eW2, O0, f1, O1, S1, d1, cm2, cl2, cx2⟩ := key nq
              rw [← eW2]
              clear key eW2 c1 c2 cm cx
              gi_wp2_with (first
                | (gi_at_builtin; go_loud (refine wpListIn_pick rfl _ _ rfl O1.out HQ.out (by have := HP.out; omega) (x : Int) (by simp) rfl rfl ?_; intro w5 o5 s5 f5 c5; obtain ⟨o6, s6⟩ := o5.box (q + 1); have d6 := o6.bs.cell; have O6 := Aside0.mk o6; have S6 := Aside0.mk (stepS_trans (stepS_trans S1.out s5) s6); clear o5 s5 o6 s6))
                | (refine ⟨trivial, ?_⟩; gi_at_call 111; go_loud (refine (callsIn_wide.2 (IH.out (p ++ [(x : Int)]) (dec left x) (some x) nn _ _ (fun b hb => by have h1 := hR b hb; have h2 := S6.out.size; have h3 := HSZ.out; omega) (by have h := O6.out; simpa [HQ.out] using h) ((S6.out.block Bm HM.out.lt HRM.out.2).trans HM.out) (by rw [dec_len, HN.out]; exact hll) (by have h1 := dec_sum (left := left) (h := x) (by rw [HN.out]; exact HLT.out) (by rw [HY.out]; exact HY0.out); have := HS.out; omega) (by have := HP.out; simp [HQ.out]; omega) (by simp [HQ.out]; exact HNQ.out) ⟨p, rfl, by rw [dec_len, HN.out]; exact HLT.out⟩ (fun k L hk => by have h1 := genL_at (nxt := nxtF most) (d := d) (left := left) (by rw [HN.out]; exact HLT.out) EN.out hk; have h2 := HL.out _ _ h1; rw [List.append_assoc, Nat.add_assoc]; exact h2) (HC.out.hJ _ _ _ _ _ HJ.out S6.out (fun b hb => .inl hb)))).mono ?_; rintro e w7 ⟨bb, rfl, o7, z7, c7⟩; obtain ⟨o7', d7, f7, o8, f9, c9, l9, o10, s10⟩ := back_at (y := y) o7 HQ.out (by rw [HN.out]; exact HLT.out) HN.out HY.out HZ.out HY0.out; have O10 := Aside0.mk o10; have S10 := Aside0.mk s10; have C7 := Aside0.mk c7; have Z7 := Aside0.mk z7; clear o7 o7' o8 o10 s10 c7 z7)))
              · go_ret
                have sz : W.heap.size ≤ ((w7.setCell ⟨B.p, 0, none⟩ (.slice (some ⟨B.rp, 0, none⟩) q cap)).setCell ⟨B.rl, x, none⟩ (.int .i64 (y : Int))).heap.size := by have h1 := HSZ.out; have h2 := S6.out.size; have h3 := Z7.out; have h4 := S10.out.size; omega
                refine ⟨false, rfl, by rw [HQ.out]; exact O10.out, sz, .inr ⟨rfl, ?_⟩⟩
                rcases C7.out with ⟨e, h⟩ | ⟨e, i, hi, h⟩
                · subst e; simp_all
                · exact ⟨i, hi, HC.out.hJx _ _ _ _ _ h S10.out (fun b hb => .inl hb)⟩
              · have sz : W.heap.size ≤ ((w7.setCell ⟨B.p, 0, none⟩ (.slice (some ⟨B.rp, 0, none⟩) q cap)).setCell ⟨B.rl, x, none⟩ (.int .i64 (y : Int))).heap.size := by have h1 := HSZ.out; have h2 := S6.out.size; have h3 := Z7.out; have h4 := S10.out.size; omega
                rcases C7.out with ⟨e, h, hm7⟩ | ⟨e, i, hi, h⟩
                · refine ⟨⟨x + 1, by first | rfl | rw [wx.out], ⟨by have := HLT.out; omega⟩, O10, ⟨(S10.out.block Bm hm7.lt HRM.out.2).trans hm7⟩, ⟨?_⟩, ⟨sz⟩⟩, by first | (simp only [intOf]; have := HLT.out; omega) | (rw [wx.out]; simp only [intOf]; have := HLT.out; omega)⟩
                  rw [offL_next, segL_some EN.out, List.length_map, ← Nat.add_assoc]
                  exact HC.out.hJ _ _ _ _ _ h S10.out (fun b hb => .inl hb)
                · subst e; simp_all)
          · have le1 : decide (most < (nn : Int)) = true := decide_eq_true (by omega)
            have en : nxtF most left (last, sw) x = none := by unfold nxtF; rw [HY.out, if_neg HY0.out, if_neg (by show ¬ ((sw + swAt left last x : Nat) : Int) ≤ most; rw [HNN.out]; exact hle)]
            have ho : offL (nxtF most) d left (last, sw) (x + 1) = offL (nxtF most) d left (last, sw) x := by rw [offL_next, segL_none en]; simp
            have HOF := Aside0.mk ho
            clear ho en hle
            rcases G with ⟨g4, ⟨g⟩⟩ | ⟨qq, lp, yp, g1, g2, g3, g4, g5, g6, g7, g8, ⟨g9, ⟨g⟩⟩ | ⟨g9, ⟨g10, ⟨g⟩⟩ | ⟨g10, g11⟩⟩⟩
            all_goals (first | subst g | skip)
            all_goals gi_wp2
            all_goals gi_big_quiet_th (fail)
            all_goals gi_wp2
            all_goals exact ⟨⟨x + 1, by first | rfl | rw [wx.out], ⟨by have := HLT.out; omega⟩, ⟨HO.out.kept (fun _ _ => by simp)⟩, ⟨by simpa [Boxed] using HM.out⟩, ⟨by rw [HOF.out]; exact HC.out.hJ _ _ _ _ _ HJ.out ((drawn_step0' ⟨_, rfl⟩).mono (fun _ h => h.elim)) (fun b hb => .inl hb)⟩, ⟨by simpa using HSZ.out⟩⟩, by first | (simp only [intOf]; have := HLT.out; omega) | (rw [wx.out]; simp only [intOf]; have := HLT.out; omega)⟩
      · obtain rfl : x = N := by have := Hx.out; omega
        have x1 : ((x : Int) < (x : Int)) = False := eq_false (by omega)
        gi_wp2
        go_ret
        refine ⟨true, rfl, by rw [HQ.out]; exact HO.out, HSZ.out, .inl ⟨rfl, ?_, HM.out⟩⟩
        have := HJ.out
        rw [← HN.out, offL_all] at this
        exact this
end Go.Proofs.Ytfcjfjmjcmanaaa.V
set_option linter.unusedVariables false
namespace Go.Proofs.Ytfcjfjmjcmanaaa.V
open Go Go.RowKit Go.Proofs.Ytfcjfjmjcmanaaa.X Go.Proofs.Ytfcjfjmjcmanaaa.PThere Go.Proofs.Ytfcjfjmjcmanaaa.O Go.Proofs.Ytfcjfjmjcmanaaa.B Go.Proofs.YtfcjfjmjcmanaaaW.PrintWords Go.Proofs.YtfcjfjmjcmanaaaW.PrintLast Go.Proofs.YtfcjfjmjcmanaaaW.PrintMore
attribute [local go_sem] Oper.semAt_some
set_option maxRecDepth 100000
set_option maxHeartbeats 4000000
/-- May Few go over anything? -/
def fewO (L : List Int) (most : Int) : Bool := fewOk L && decide (0 ≤ most)
/-- The lists of Few. -/
def fewsOf (L : List Int) (most : Int) : List (List Int) := if fewO L most = true then genL (nxtF most) (toN L).sum (toN L) (none, 0) else []
/-- The iterator of Few. -/
theorem few_in (n : Nat) (hn : 1 ≤ n) (l Bo Bs Bm : Nat) (L : List Int) (most : Int) (sv : Value) (Rd : Nat → Prop) (J Jx : Nat → (Nat → Prop) → World → Prop) (hJ : AbidesS J) (hJx : AbidesS Jx)
    (hY : ∀ i L' T T1 v W1, (fewsOf L most)[i]? = some L' → J i T1 W1 → (∀ b, T b → T1 b) → (∀ b, T1 b ∨ Rd b → b < W1.heap.size) → SlB W1 (fun b => T1 b ∧ ¬ T b ∧ ¬ Rd b) v L' → YieldAt Fence.wide (n - 1) Try.prog l #[v] W1 fun e W' =>
      (e = .returned (.bool true) ∧ J (i + 1) T W' ∧ KeepsT (fun b => T b ∨ Rd b) W1 W') ∨ (e = .returned (.bool false) ∧ Jx (i + 1) T W' ∧ KeepsT T W1 W'))
    (W : World) (hR : ∀ b, Rd b → b < W.heap.size) (hBo : Boxed W Bo 4 (.bool (fewO L most))) (hBm : Boxed W Bm 3 (.int .i64 most)) (hRm : Rd Bm) (hBs : Boxed W Bs 26 sv) (hsv : SlB W Rd sv L) (h0 : J 0 (fun _ => False) W) :
    CallsIn Fence.wide n Try.prog 110 #[.func (.yield l) #[] #[], .pointer (some ⟨Bo, 0, none⟩), .pointer (some ⟨Bs, 0, none⟩), .pointer (some ⟨Bm, 0, none⟩)] W fun e W' => (∃ v, e = .returned v) ∧
      ((∃ T, J (fewsOf L most).length T W') ∨ (∃ i T, i ≤ (fewsOf L most).length ∧ Jx i T W')) := by
  by_cases hf : fewO L most = true
  · have hf2 : fewOk L = true ∧ 0 ≤ most := by unfold fewO at hf; rw [Bool.and_eq_true] at hf; exact ⟨hf.1, of_decide_eq_true hf.2⟩
    obtain ⟨s, rfl, hok, hs⟩ := few_yes hf2.1
    have hm : fewsOf (lift s) most = genL (nxtF most) s.sum s (none, 0) := by unfold fewsOf; rw [if_pos hf, toN_lift]
    rw [hm] at hY ⊢
    have C := fun (B : Blk) => (⟨hJ, hJx, fun i L' T' T1 v W1 h1 h2 h3 h4 h5 => yieldAt_wide (hY i L' T' T1 v W1 h1 h2 h3 h4 h5)⟩ : Ctx (genL (nxtF most) s.sum s (none, 0)) l Rd B.T J Jx)
    have HC := Aside0.mk C
    have HJ := Aside0.mk h0
    have HOK := Aside0.mk hok
    have HSV := Aside0.mk hsv
    have HR := Aside0.mk hR
    have HBM := Aside0.mk hBm
    have HRM := Aside0.mk hRm
    clear hJ hJx hY C h0 hok hsv hm hs hR hRm hf2
    rw [hf] at hBo
    refine callsIn_of_wp Try.func110 rfl trivial ?_ rfl
    simp only [Try.ntmps110, List.size_toArray, List.length_cons, List.length_nil, Nat.reduceAdd, Nat.reduceSub, Array.replicate_succ, Array.replicate_zero, List.push_toArray, List.append_toArray, List.nil_append, List.cons_append]
    have hy1 := Boxed.new W 102 (.func (.yield l) #[] #[])
    have kw : ∀ b, b < W.heap.size → (W.alloc (.cells #[.func (.yield l) #[] #[]] 102)).heap[b]? = W.heap[b]? := fun b hb => Below.heap_alloc W _ b hb
    have co := Boxed.cell (show Boxed (W.alloc (.cells #[.func (.yield l) #[] #[]] 102)) Bo 4 (.bool true) from (kw Bo hBo.lt).trans hBo)
    clear hf
    have cs := Boxed.cell (show Boxed (W.alloc (.cells #[.func (.yield l) #[] #[]] 102)) Bs 26 sv from (kw Bs hBs.lt).trans hBs)
    have hst0 : StepS (fun _ => False) W (W.alloc (.cells #[.func (.yield l) #[] #[]] 102)) := stepS_alloc _ _
    have hsz0 : (W.alloc (.cells #[.func (.yield l) #[] #[]] 102)).heap.size = W.heap.size + 1 := by simp
    have HSV1 := Aside0.mk (HSV.out.kept (W' := W.alloc (.cells #[.func (.yield l) #[] #[]] 102)) (fun j hj => kw j (HSV.out.own hj).2))
    obtain ⟨By, hBy⟩ : ∃ By, W.heap.size = By := ⟨_, rfl⟩
    rw [hBy] at hy1 hsz0
    gi_wp2_with (first
      | (refine ⟨trivial, ?_⟩; gi_at_call 85; go_loud (refine (callsIn_wide.2 (clone_lift HOK.out.1 HSV1.out)).mono ?_; rintro e w2 ⟨rl, cl, rfl, hrl, hcl, hcm, hrw, hB⟩; rw [hsz0] at hB hrl; have hyl := (show Boxed (w2.alloc (.cells #[.slice (some ⟨rl, 0, none⟩) s.length cl] 26)) By 102 (.func (.yield l) #[] #[]) from (Below.heap_alloc w2 _ _ (by have := hB.size; omega)).trans ((hB.block By (by omega)).trans hy1)); have hll := Boxed.new w2 26 (.slice (some ⟨rl, 0, none⟩) s.length cl); have hrw2 : Rw (w2.alloc (.cells #[.slice (some ⟨rl, 0, none⟩) s.length cl] 26)) rl cl (s.map fun x : Nat => (x : Int)) := hrw.of_block (Below.heap_alloc w2 _ _ hrw.lt); have hcl2 := hll.cell; have HL3 := Aside0.mk (And.intro hyl (And.intro hll (And.intro hrw2 (And.intro hcl (And.intro hcm (And.intro hrl hrw.lt)))))); have HS3 := Aside0.mk (stepS_trans (stepS_trans hst0 (below_step0 hB (by omega))) (stepS_alloc w2 (.cells #[.slice (some ⟨rl, 0, none⟩) s.length cl] 26))); have HZ3 := Aside0.mk hB.size; clear hrw hrw2 hyl hll hB hrl hcl hcm))
      | (refine ⟨trivial, ?_⟩; gi_at_call 105; go_loud (refine (callsIn_wide.2 (sum_calls HOK.out.1 (by have := HL3.out.2.2.1.slB (by simpa using HL3.out.2.2.2.1) (Nat.le_refl _) HL3.out.2.2.2.2.1; rw [List.length_map] at this; exact this))).mono ?_; rintro e w4 ⟨rfl, hd⟩; obtain ⟨Z, hZ⟩ : ∃ Z, w4.heap.size = Z := ⟨_, rfl⟩; obtain ⟨st4, hp4⟩ := drawn_step0 hd; have hp5 : ∀ b : Nat, w4.heap[b]? = (w2.alloc (.cells #[.slice (some ⟨rl, 0, none⟩) s.length cl] 26)).heap[b]? := fun b => (by rw [hp4]); have HZ4 := Aside0.mk (show w2.heap.size + 1 = Z by rw [← hZ, hp4]; simp); clear hp4 hd; have hmk := make_zero s.sum (by have := HOK.out.1.2.2; omega) w4; rw [hZ] at hmk; have ms := fun fv : Value => m_start (ts := 101) (S := s.sum) (Z := Z) (fv := fv) ((hp5 By).trans HL3.out.1) ((hp5 w2.heap.size).trans HL3.out.2.1) (HL3.out.2.2.1.of_block (hp5 rl)) HL3.out.2.2.2.1 (by have := HL3.out.2.2.2.2.2.1; omega) (by have := HL3.out.2.2.2.2.2.2; omega) hZ; have m1 := (ms .nilFunc).1; have m2 := (ms .nilFunc).2.1; obtain ⟨_, m3, m4, m5, m6⟩ := ms (fvF ⟨Z + 1, By, w2.heap.size, Z + 1 + 1, Z, rl⟩ Bm); clear ms; have HM := Aside0.mk (And.intro m4 (And.intro (stepS_trans (stepS_trans HS3.out st4) m5) m6)); clear m4 m5 m6 hp5 st4))
      | (refine ⟨trivial, ?_⟩; gi_at_call 111; go_loud (refine (callsIn_wide.2 (fsearch (HC.out ⟨Z + 1, By, w2.heap.size, Z + 1 + 1, Z, rl⟩) HRM.out (fun z => by have h0 := HBM.out.lt; have h1 := HZ3.out; have h2 := HZ4.out; have h3 := HL3.out.2.2.2.2.2.1; rcases z with e | e | e | e | e | e <;> (simp only at e; omega)) HOK.out.1.2.2 s.sum [] s none 0 0 _ (fun b hb => Nat.lt_of_lt_of_le (HR.out b hb) HM.out.2.1.size) HM.out.1 ((HM.out.2.1.block Bm HBM.out.lt (fun z => z)).trans HBM.out) HOK.out.1.2.1 rfl (by simp) (by simp) rfl (fun k L hk => by simpa using hk) ((HC.out ⟨Z + 1, By, w2.heap.size, Z + 1 + 1, Z, rl⟩).hJ 0 _ W _ _ HJ.out HM.out.2.1 (fun b hb => .inr ⟨by have h1 := HZ3.out; have h2 := HZ4.out; have h3 := HL3.out.2.2.2.2.2.1; rcases hb with e | e | e | e | e | e <;> (simp only at e; omega), HM.out.1.lt b hb⟩)))).mono ?_; rintro e w7 ⟨bb, rfl, o7, z7, c7⟩; have C7 := Aside0.mk c7; clear o7 z7 c7)))
    refine bodyPost_end (results_none rfl _ _ _) rfl ?_
    refine ⟨⟨_, rfl⟩, ?_⟩
    rcases C7.out with ⟨_, h, _⟩ | ⟨_, i, hi, h⟩
    · rw [Nat.zero_add] at h
      exact .inl ⟨_, h⟩
    · exact .inr ⟨i, _, hi, h⟩
  · have hf' : fewO L most = false := by simpa using hf
    have hm : fewsOf L most = [] := by unfold fewsOf; rw [if_neg hf]
    rw [hm]
    have HJ := Aside0.mk (hJ 0 _ W (W.alloc (.cells #[.func (.yield l) #[] #[]] 102)) (fun _ => False) h0 (stepS_alloc _ _) (fun b hb => .inl hb))
    rw [hf'] at hBo
    clear hY hJ hJx h0 hsv hBs hR hm hf hBm hRm
    refine callsIn_of_wp Try.func110 rfl trivial ?_ rfl
    simp only [Try.ntmps110, List.size_toArray, List.length_cons, List.length_nil, Nat.reduceAdd, Nat.reduceSub, Array.replicate_succ, Array.replicate_zero, List.push_toArray, List.append_toArray, List.nil_append, List.cons_append]
    have co := Boxed.cell (show Boxed (W.alloc (.cells #[.func (.yield l) #[] #[]] 102)) Bo 4 (.bool false) from (Below.heap_alloc W _ _ hBo.lt).trans hBo)
    gi_wp2
    refine bodyPost_ret (results_none rfl _ _ _) rfl ?_
    exact ⟨⟨_, rfl⟩, .inl ⟨_, HJ.out⟩⟩
end Go.Proofs.Ytfcjfjmjcmanaaa.V
set_option linter.unusedVariables false
namespace Go.Proofs.Ytfcjfjmjcmanaaa.V
open Go Go.RowKit Go.Proofs.Ytfcjfjmjcmanaaa.X Go.Proofs.Ytfcjfjmjcmanaaa.PThere Go.Proofs.Ytfcjfjmjcmanaaa.O Go.Proofs.Ytfcjfjmjcmanaaa.B Go.Proofs.YtfcjfjmjcmanaaaW.PrintWords Go.Proofs.YtfcjfjmjcmanaaaW.PrintLast Go.Proofs.YtfcjfjmjcmanaaaW.PrintMore
variable {W W' : World} {T : Nat → Prop} {v : Value} {L : List Int} {most : Int}
/-- What an iterator of Few reads. -/
structure FB (base Bo Bs Bm : Nat) (sv : Value) (L : List Int) (most : Int) (W : World) : Prop where
  o0 : base ≤ Bo
  s0 : base ≤ Bs
  m0 : base ≤ Bm
  bo : Boxed W Bo 4 (.bool (fewO L most))
  bs : Boxed W Bs 26 sv
  bm : Boxed W Bm 3 (.int .i64 most)
  row : SlB W (fun b => base ≤ b) sv L
def FB.Rd (Bo Bs Bm : Nat) (sv : Value) : Nat → Prop := fun b => b = Bo ∨ b = Bs ∨ b = Bm ∨ sv.ownBlock = some b
variable {base Bo Bs Bm : Nat} {sv : Value}
theorem FB.lt (h : FB base Bo Bs Bm sv L most W) : ∀ b, FB.Rd Bo Bs Bm sv b → base ≤ b ∧ b < W.heap.size := by
  rintro b (e | e | e | e)
  · rw [e]; exact ⟨h.o0, h.bo.lt⟩
  · rw [e]; exact ⟨h.s0, h.bs.lt⟩
  · rw [e]; exact ⟨h.m0, h.bm.lt⟩
  · exact h.row.own e
theorem FB.kept (h : FB base Bo Bs Bm sv L most W) (hk : ∀ b, FB.Rd Bo Bs Bm sv b → W'.heap[b]? = W.heap[b]?) : FB base Bo Bs Bm sv L most W' :=
  ⟨h.o0, h.s0, h.m0, (hk _ (.inl rfl)).trans h.bo, (hk _ (.inr (.inl rfl))).trans h.bs, (hk _ (.inr (.inr (.inl rfl)))).trans h.bm, h.row.kept (fun j hj => hk j (.inr (.inr (.inr hj))))⟩
theorem FB.below {n : Nat} (h : FB base Bo Bs Bm sv L most W) (hb : Below n W W') (hn : W.heap.size ≤ n) : FB base Bo Bs Bm sv L most W' :=
  h.kept (fun b hb2 => hb.block b (Nat.lt_of_lt_of_le (h.lt b hb2).2 hn))
theorem seq_few (n : Nat) (hn : 1 ≤ n) (w0 : World) (h : FB base Bo Bs Bm sv L most w0) : SeqV Fence.wide n Try.prog 110 #[.pointer (some ⟨Bo, 0, none⟩), .pointer (some ⟨Bs, 0, none⟩), .pointer (some ⟨Bm, 0, none⟩)] (FB.Rd Bo Bs Bm sv) (fun _ => False) (fewsOf L most) w0 := by
  intro l J Jx W hW hk hJ hJx hY h0
  have h' : FB base Bo Bs Bm sv L most W := h.kept (fun b hb => hk b (.inr hb))
  exact few_in n hn l Bo Bs Bm L most sv _ J Jx hJ hJx hY W (fun b hb => (h'.lt b hb).2) h'.bo h'.bm (.inr (.inr (.inl rfl))) h'.bs (h'.row.mono (fun j hj _ => .inr (.inr (.inr hj)))) h0
set_option maxRecDepth 100000 in
set_option maxHeartbeats 4000000 in
theorem few57 (h : RdS W v L) (hl : L.length ≤ 17592186043904) (b m : Bool) (hb : fewOk L = b) (hm : decide (0 ≤ most) = m) : Calls Try.prog 57 #[v, .int .i64 most] W fun e W' => ∃ Bo Bs Bm sv, e = .returned (.func (.func 110) #[] #[.pointer (some ⟨Bo, 0, none⟩), .pointer (some ⟨Bs, 0, none⟩), .pointer (some ⟨Bm, 0, none⟩)]) ∧ FB W.heap.size Bo Bs Bm sv L most W' ∧ Below W.heap.size W W' := by
  obtain ⟨A, c, rfl⟩ := h.slice
  have ho : fewO L most = (b && m) := by unfold fewO; rw [hb, hm]
  obtain ⟨w1, hw1⟩ : ∃ w1, (W.alloc (.cells #[.slice A L.length c] 26)).alloc (.cells #[.int .i64 most] 3) = w1 := ⟨_, rfl⟩
  have kw : ∀ j, j < W.heap.size → w1.heap[j]? = W.heap[j]? := fun j hj => by rw [← hw1]; exact (Below.heap_alloc _ _ _ (by simp; omega)).trans (Below.heap_alloc W _ j hj)
  have hs1 : Boxed w1 W.heap.size 26 (.slice A L.length c) := by rw [← hw1]; exact (Boxed.new W 26 (.slice A L.length c)).alloc _
  have hm1 : Boxed w1 (W.heap.size + 1) 3 (.int .i64 most) := by rw [← hw1]; have := Boxed.new (W.alloc (.cells #[.slice A L.length c] 26)) 3 (.int .i64 most); rwa [World.size_alloc] at this
  have hbw1 : Below W.heap.size W w1 := by rw [← hw1]; exact ((Below.refl W.heap.size W).alloc (Nat.le_refl _) _).alloc (by simp) _
  have HSV := Aside0.mk (h.below hbw1)
  have hk := few_calls HSV.out
  rw [hb] at hk
  have HK := Aside0.mk hk
  have HL := Aside0.mk hl
  have hsz : w1.heap.size = W.heap.size + 2 := by rw [← hw1]; simp
  have HB1 := Aside0.mk (show Below W.heap.size W w1 by rw [← hw1]; exact ((Below.refl W.heap.size W).alloc (Nat.le_refl _) _).alloc (by simp) _)
  obtain ⟨Bs, hBs⟩ : ∃ Bs, W.heap.size = Bs := ⟨_, rfl⟩
  rw [hBs] at hs1 hsz hm1
  have c1 := hs1.cell
  have HS1 := Aside0.mk hs1
  have HM1 := Aside0.mk hm1
  have HZ := Aside0.mk hsz
  have HBS := Aside0.mk hBs
  rw [← hw1] at c1
  have HW := Aside0.mk hw1
  have HO := Aside0.mk ho
  clear h hl hs1 hm1 hsz kw hk hb hw1 ho hbw1
  cases b <;> cases m
  all_goals (
    go_enter Try.func57, Try.ntmps57
    go_wp2_with (first
      | (go_at_call 107; rw [HW.out]; go_loud (refine HK.out.mono ?_; rintro e w2 ⟨rfl, hd⟩; obtain ⟨st2, hp2⟩ := drawn_step0 hd; have HP2 := Aside0.mk hp2; have hz2 : w2.heap.size = Bs + 2 := (by rw [hp2]; exact HZ.out); have HZ2 := Aside0.mk hz2; have hm2 : Boxed w2 (Bs + 1) 3 (.int .i64 most) := (by have := HM1.out; unfold Boxed at this ⊢; rw [hp2]; exact this); have HM2 := Aside0.mk hm2; have cm2 := hm2.cell; have bo := Boxed.new w2 4 (.bool (fewO L most)); rw [HO.out, hz2] at bo; simp only [Bool.and_true, Bool.and_false] at bo; have HBO := Aside0.mk bo; have hs2 : Boxed w2 Bs 26 (.slice A L.length c) := (by have := HS1.out; unfold Boxed at this ⊢; rw [hp2]; exact this); have HS2 := Aside0.mk hs2; have c2 := hs2.cell; have HD2 := Aside0.mk (drawn_bel hd W.heap.size); have HD3 := Aside0.mk (drawn_bel hd w1.heap.size); clear bo hd st2 hp2 hs2 hm2))
      | (go_at_call 85; go_loud (refine (clone_rd (HSV.out.below (HD3.out.alloc (by rw [HZ2.out, HZ.out]; exact Nat.le_refl _) _)) HL.out).mono ?_; rintro e w4 ⟨u, rfl, ho, hB⟩; obtain ⟨A2, c2, rfl⟩ := (RI.of_own ho).slB.slice; have HOW := Aside0.mk ho; have HB4 := Aside0.mk hB; have hs4 : Boxed w4 Bs 26 (.slice A L.length c) := (hB.block Bs (by simp; omega)).trans ((Below.heap_alloc w2 _ _ (by rw [HZ2.out]; omega)).trans HS2.out); have HS4 := Aside0.mk hs4; have f4 := hs4.frozen; have c4 := hs4.cell; clear ho hB hs4)))
    go_ret
    have h4 := HB4.out.size
    have hz2 := HZ2.out
    have hBs := HBS.out
    simp only [World.size_alloc] at h4
    refine ⟨Bs + 2, Bs, Bs + 1, .slice A2 L.length c2, rfl, ⟨by omega, by omega, by omega, ?_, HS4.out.set _, ?_, ?_⟩, ?_⟩
    · rw [HO.out]
      exact (Below.heap_setCell w4 _ _ _ (by show Bs + 2 ≠ Bs; omega)).trans ((HB4.out.block _ (by simp; omega)).trans HBO.out)
    · exact (Below.heap_setCell w4 _ _ _ (by show Bs + 1 ≠ Bs; omega)).trans ((HB4.out.block _ (by simp; omega)).trans ((Below.heap_alloc w2 _ _ (by omega)).trans HM2.out))
    · have hr := (RI.of_own HOW.out).slB
      refine (hr.mono (T' := fun b => W.heap.size ≤ b) (fun j hj hT => ?_)).kept (fun j hj => ?_)
      · have := hT.1
        simp at this
        omega
      · have := (hr.own hj).1.1
        simp at this
        exact Below.heap_setCell w4 _ _ _ (by show j ≠ Bs; omega)
    · have b2 := HB1.out.trans HD2.out
      have b4 := (b2.alloc (by omega) _).trans (HB4.out.mono (by simp; omega))
      exact b4.setCell (by show W.heap.size ≤ Bs; omega) _)
theorem few_of (h : RdS W v L) (hl : L.length ≤ 17592186043904) : Calls Try.prog 57 #[v, .int .i64 most] W fun e W' => ∃ Bo Bs Bm sv, e = .returned (.func (.func 110) #[] #[.pointer (some ⟨Bo, 0, none⟩), .pointer (some ⟨Bs, 0, none⟩), .pointer (some ⟨Bm, 0, none⟩)]) ∧ FB W.heap.size Bo Bs Bm sv L most W' ∧ Below W.heap.size W W' :=
  few57 h hl _ _ rfl rfl
end Go.Proofs.Ytfcjfjmjcmanaaa.V
