/- 'some' of larderlaw07: the first picks of a sequence: the contract over every iterator that reads below where the call began. -/
import Derived.RangeFuncNested
import Derived.RangeFuncBound
import Derived.RangeFuncCalls
import Derived.RangeFuncLeaves
import Derived.RangeFuncBox
import Derived.Shelf.Abstract
import Derived.Shelf.RegionOpen
import Derived.WalkKit
import Derived.OwnWalkIn
import Derived.TacticsInMore
import Derived.LoopNIn
import Derived.LoopIn
import Derived.Maps.AppendAt
import Derived.Test.YtfcjfjmjcmanaaaRows
set_option linter.unusedVariables false
namespace Go.Proofs.Ytfcjfjmjcmanaaa.X
open Go.RowKit Go.Shelf
attribute [local go_sem] Oper.semAt_some

theorem info3 : (Try.prog.info? 3).map (fun i => (i.zero, i.size, i.bytes)) = some (some (.int .i64 0), 1, 8) := by kernel_rfl
/-- How many 'some' takes at most. -/
def lim (m : Int) : Nat := if 0 ≤ m ∧ m ≤ 65537 then m.toNat else 65537

theorem eq_nilFunc (g : Nat) (lb : Array Value) (W : World) : (binOp BinOp.eql 24 (.func (.func g) #[] lb) .nilFunc).run Try.prog W = .ok (.bool false) W := by
  kernel_rfl
theorem row_base {w : World} {b b' e size n : Nat} {v : Value} {xs : List Value} (h : w.ownsRow b e size v n xs) (hb : b' ≤ b) : w.ownsRow b' e size v n xs := by
  refine ⟨h.1, h.2.imp id ?_⟩
  rintro ⟨g, cap, cur, e1, e2, e3⟩
  exact ⟨g, cap, cur, e1, Nat.le_trans hb e2, e3⟩
theorem lim_zero {m : Int} (h : m = 0) : lim m = 0 := by unfold lim; rw [if_pos (by omega)]; omega
theorem lim_pos {m : Int} (h : m ≠ 0) : 0 < lim m := by unfold lim; split <;> omega
theorem lim_le (m : Int) : lim m ≤ 65537 := by unfold lim; split <;> omega
theorem lim_hit {m : Int} {k : Nat} (h : k < lim m) (e : ((k + 1 : Nat) : Int) = m ∨ 65536 < ((k + 1 : Nat) : Int)) : k + 1 = lim m := by
  unfold lim at *; split at h <;> rename_i c
  · rw [if_pos c]; omega
  · rw [if_neg c]; omega
theorem lim_miss {m : Int} {k : Nat} (h : k < lim m) (e : ¬ ((k + 1 : Nat) : Int) = m) (e2 : ¬ 65536 < ((k + 1 : Nat) : Int)) : k + 1 < lim m := by
  unfold lim at *; split at h <;> rename_i c
  · rw [if_pos c]; omega
  · rw [if_neg c]; omega

set_option maxRecDepth 100000 in
set_option maxHeartbeats 2000000 in
theorem some_in (F : Fence) (n : Nat) (h23 : F.fn 23) (g : Nat) (lb : Array Value) (hg : F.fn g) (eg : ∀ args w, (callFunc g args).run Try.prog w = .ok (.enter g args) w) (hro : F.round = none) (hn : 3 ≤ n) (m : Int) (xs : List Int) (w : World)
    (hseq : ∀ W, Below w.heap.size w W → w.heap.size + 1 ≤ W.heap.size → SeqStopsK F (n - 1) Try.prog g lb (fun x : Int => #[Value.int .i64 x]) (Below (w.heap.size + 1)) (fun ys => ys = xs) (fun pre => pre <+: xs) xs.length W) :
    CallsIn F n Try.prog 23 #[.func (.func g) #[] lb, .int .i64 m] w fun e W' => ∃ v, e = .returned v ∧ W'.ownsRow w.heap.size 3 1 v (xs.take (lim m)).length ((xs.take (lim m)).map (Value.int .i64)) ∧ (v = .slice none 0 0 ↔ xs.take (lim m) = []) ∧ Below w.heap.size w W' := by
  have h1 : 1 ≤ n := by omega
  obtain ⟨i0, hi, hz0, hz1, hz2⟩ := info_parts info3
  refine callsIn_of_wp_marks Try.func23 rfl h23 ?_ hro
  simp only [Try.ntmps23, List.size_toArray, List.length_cons, List.length_nil, Nat.reduceAdd, Nat.reduceSub, Array.replicate_succ, Array.replicate_zero, List.push_toArray, List.append_toArray, List.nil_append, List.cons_append]
  have heq := eq_nilFunc g lb
  gi_wp2
  · rename_i h0
    have hm0 : lim m = 0 := lim_zero (eq_of_beq h0)
    rw [hm0]
    refine ⟨_, results_tmp rfl _ _ _, ?_⟩
    exact ⟨_, rfl, World.ownsRow_nil _ _ _ _, by simp, ((Below.refl _ w).alloc (Nat.le_refl _) _).alloc (by simp) _⟩
  · rename_i h0 K hK0
    have hm0 : 0 < lim m := lim_pos (fun e => by subst e; simp at h0)
    have bM := (Boxed.new w 3 (.int .i64 m)).alloc (.cells #[.slice none 0 0] 26)
    have bO := Boxed.new (w.alloc (.cells #[.int .i64 m] 3)) 26 (.slice none 0 0)
    rw [World.size_alloc] at bO
    have hB0 : Below w.heap.size w ((w.alloc (.cells #[.int .i64 m] 3)).alloc (.cells #[.slice none 0 0] 26)) := ((Below.refl _ w).alloc (Nat.le_refl _) _).alloc (by simp) _
    have hB0s : ((w.alloc (.cells #[.int .i64 m] 3)).alloc (.cells #[.slice none 0 0] 26)).heap.size = w.heap.size + 2 := by simp
    obtain ⟨W0, hW0⟩ : ∃ W0, ((w.alloc (.cells #[.int .i64 m] 3)).alloc (.cells #[.slice none 0 0] 26)) = W0 := ⟨_, rfl⟩
    rw [hW0] at bM bO hB0 hB0s ⊢
    refine wpIn_rangeFunc_ownG hro h1 (gf := g) (lb := lb) rfl hg eg
      (hseq W0 hB0 (by omega)) belowK_t (belowK_b (by omega)) (Below.refl _ _) (fun _ => rfl)
      (fun pre W => ((∃ v, Boxed W (w.heap.size + 1) 26 v ∧ W.ownsRow (w.heap.size + 1) 3 1 v pre.length (pre.map (Value.int .i64)) ∧ (v = .slice none 0 0 ↔ pre = [])) ∧ Below (w.heap.size + 1) W0 W) ∧ pre.length < lim m)
      (fun c pre W => (((∃ v, Boxed W (w.heap.size + 1) 26 v ∧ W.ownsRow (w.heap.size + 1) 3 1 v pre.length (pre.map (Value.int .i64)) ∧ (v = .slice none 0 0 ↔ pre = [])) ∧ Below (w.heap.size + 1) W0 W) ∧ pre.length = lim m) ∧ c = .exit 0)
      (OwnFrom.and (OwnFrom.and (Own.from (holdsRow_own (w.heap.size + 1) (w.heap.size + 1) 26 3 1 (fun pre : List Int => pre.length) (fun pre => pre.map (Value.int .i64)) (fun pre v => v = .slice none 0 0 ↔ pre = [])) _) (ownFrom_below (by omega) (by omega))) (ownFrom_pure _ _))
      (fun c => OwnFrom.and (OwnFrom.and (OwnFrom.and (Own.from (holdsRow_own (w.heap.size + 1) (w.heap.size + 1) 26 3 1 (fun pre : List Int => pre.length) (fun pre => pre.map (Value.int .i64)) (fun pre v => v = .slice none 0 0 ↔ pre = [])) _) (ownFrom_below (by omega) (by omega))) (ownFrom_pure _ _)) (ownFrom_pure _ _))
      ⟨⟨⟨_, bO, World.ownsRow_nil _ _ _ _, by simp⟩, Below.refl _ _⟩, hm0⟩
      (fun x => { tmps := #[.func (.func g) #[] lb, .int .i64 m, undef, .pointer (some ⟨w.heap.size, 0, none⟩), .slice none 0 0, .pointer (some ⟨w.heap.size + 1, 0, none⟩), .int .i64 x, .func (.func g) #[] lb, .bool false, .bool false, .int .i64 m, .bool false, .bool false, undef, .func (.func g) #[] lb, .int .i64 x, undef, undef, undef, undef, undef, undef, undef, undef, undef, undef, undef, undef, undef, undef], defers := [] }) ?assign ?body ?done ?stop
    case assign =>
      intro l x W K hK
      gi_wp2
      exact hK
    case body =>
      rintro l pre x W ⟨⟨⟨v, hv, hrow, hnil⟩, hB⟩, hlm⟩ hlt
      have hll := lim_le m
      have hc := hv.cell
      have hcm : W.cell? ⟨w.heap.size, 0, none⟩ = some (.int .i64 m) := (hB.cell (p := ⟨w.heap.size, 0, none⟩) (Nat.lt_succ_self _)).trans bM.cell
      have hsz := hB.size
      gi_wp2_with (gi_at_builtin; go_loud (refine wpListIn_append_own _ rfl _ _ 26 rfl (w.heap.size + 1) 3 i0 (.int .i64 0) 1 8 Try.underlying26 hi hz0 hz1 hz2 rfl (by decide) _ _ _ rfl (hrow.alloc _) ⟨W.heap.size, 0, none⟩ 1 1 [.int .i64 x] rfl rfl (cell_one_new _ _ _) (by simp [Value.oneCell']) (by unfold maxLen; omega) (by omega) (by rw [World.size_alloc]; omega) ?_; intro v' w1 hown' hgrow _; obtain ⟨g', cap', rfl⟩ := ownsRow_succ hown'; obtain ⟨hv1, hv2, hr2, hk2, hb2⟩ := hv.appended (by decide) hrow (by omega) (Nat.le_refl _) hown' hgrow; have hc1 := hv1.cell; have hf1 := hv1.frozen; have hc2 := hv2.cell; have hcm2 := (hb2.cell (p := ⟨w.heap.size, 0, none⟩) (Nat.lt_succ_self _)).trans hcm))
      · rename_i h2
        exact ⟨hk2.from _, ⟨⟨⟨_, hv2, by simpa using hr2, by simp⟩, hB.trans hb2⟩, by rw [List.length_append, List.length_singleton]; exact lim_hit hlm (by first | omega | (simp at h2; omega))⟩, rfl⟩
      · rename_i h2
        exact ⟨hk2.from _, ⟨⟨⟨_, hv2, by simpa using hr2, by simp⟩, hB.trans hb2⟩, by rw [List.length_append, List.length_singleton]; exact lim_hit hlm (by first | omega | (simp at h2; omega))⟩, rfl⟩
      · rename_i h2
        exact ⟨hk2.from _, hb2, ⟨⟨_, hv2, by simpa using hr2, by simp⟩, hB.trans hb2⟩, by rw [List.length_append, List.length_singleton]; exact lim_miss hlm (by first | omega | (simp at h2; omega)) (by first | omega | (simp at h2; omega))⟩
    case done =>
      rintro D ys W hD rfl ⟨⟨⟨v, hv, hrow, hnil⟩, hB⟩, hlm⟩ hK
      have hc := hv.cell
      have ht : ys.take (lim m) = ys := List.take_of_length_le (by omega)
      gi_wp2
      refine ⟨by simp, .inl ⟨_, _, rfl, run_takeDeferred hK, ?_⟩⟩
      refine ⟨_, results_tmp rfl _ _ _, v, rfl, ?_, by rw [ht]; exact hnil, hB0.trans ((hB.mono (Nat.le_succ _)).trans (belowK_b (w := W0) (by omega) W D _ _ hD hK rfl rfl))⟩
      rw [ht]
      exact ownsRow_putObj (row_base hrow (Nat.le_succ _)) _ hK rfl
    case stop =>
      rintro D c pre W hD hpre ⟨⟨⟨⟨v, hv, hrow, hnil⟩, hB⟩, hlm⟩, rfl⟩ hK
      have hc := hv.cell
      have ht : xs.take (lim m) = pre := by rw [← hlm]; exact (List.prefix_iff_eq_take.1 hpre).symm
      gi_wp2
      refine ⟨by simp, .inl ⟨_, _, rfl, run_takeDeferred hK, ?_⟩⟩
      refine ⟨_, results_tmp rfl _ _ _, v, rfl, ?_, by rw [ht]; exact hnil, hB0.trans ((hB.mono (Nat.le_succ _)).trans (belowK_b (w := W0) (by omega) W D _ _ hD hK rfl rfl))⟩
      rw [ht]
      exact ownsRow_putObj (row_base hrow (Nat.le_succ _)) _ hK rfl
end Go.Proofs.Ytfcjfjmjcmanaaa.X
