/- Rounds: the iterator. -/
import Derived.Test.YtfcjfjmjcmanaaaXa
import Derived.Test.YtfcjfjmjcmanaaaPBasex
set_option linter.unusedVariables false
namespace Go.Proofs.Ytfcjfjmjcmanaaa.X
open Go.RowKit Go.Shelf Go.Proofs.Ytfcjfjmjcmanaaa.PBase
attribute [local go_sem] Oper.semAt_some

theorem wrap_id {x : Int} (h1 : -9223372036854775808 ≤ x) (h2 : x < 9223372036854775808) : wrap64 x = x := by
  unfold wrap64; omega
def handRight (h : Int) : Bool := if h ≥ 1 then decide (h ≤ 16) else false
theorem handRight_iff (h : Int) : handRight h = true ↔ 1 ≤ h ∧ h ≤ 16 := by unfold handRight; split <;> simp <;> omega
theorem handRight_calls (n : Nat) (h : Int) (w : World) : CallsIn Fence.wide n Try.prog 70 #[.int .i64 h] w fun e w' => e = .returned (.bool (handRight h)) ∧ w' = w := by
  refine callsIn_wide.2 ?_
  unfold handRight
  by_cases h1 : h ≥ 1
  · rw [if_pos h1]
    have h1b : decide (1 ≤ h) = true := decide_eq_true h1
    go_enter Try.func70, Try.ntmps70
    go_wp2
    go_ret
    exact ⟨by first | rfl | (simp; done) | (simp [*]; done), rfl⟩
  · rw [if_neg h1]
    have h1b : decide (1 ≤ h) = false := decide_eq_false h1
    go_enter Try.func70, Try.ntmps70
    go_wp2
    go_ret
    exact ⟨by first | rfl | (simp; done) | (simp [*]; done), rfl⟩
/-- What Rounds gives. -/
def roundsOf (h : Int) : List Int := if handRight h = true then (List.range 65536).map (fun i : Nat => (i : Int) % h) else []
theorem rounds_length {h : Int} (hr : handRight h = true) : (roundsOf h).length = 65536 := by unfold roundsOf; rw [if_pos hr]; simp
theorem rounds_get {h : Int} (hr : handRight h = true) {i : Nat} (hi : i < 65536) : (roundsOf h)[i]? = some ((i : Int) % h) := by
  unfold roundsOf; rw [if_pos hr, List.getElem?_map, List.getElem?_range hi]; rfl
theorem rounds_take {h : Int} (hr : handRight h = true) {i : Nat} (hi : i < 65536) : (roundsOf h).take (i + 1) = (roundsOf h).take i ++ [(i : Int) % h] := by
  rw [List.take_add_one, rounds_get hr hi]; rfl

set_option maxRecDepth 100000 in
set_option maxHeartbeats 2000000 in
theorem rounds_in (n : Nat) (hn : 1 ≤ n) (l Bn n₀ : Nat) (h : Int) (J Jx : List Int → World → Prop)
    (hY : ∀ pre x W, J pre W → pre.length < (roundsOf h).length → YieldAt Fence.wide (n - 1) Try.prog l #[.int .i64 x] W fun e W' =>
      (e = .returned (.bool true) ∧ J (pre ++ [x]) W' ∧ Below n₀ W W') ∨ (e = .returned (.bool false) ∧ Jx (pre ++ [x]) W'))
    (W : World) (hBn : W.cell? ⟨Bn, 0, none⟩ = some (.int .i64 h)) (hlt0 : Bn < n₀) (h0 : J [] W) :
    CallsIn Fence.wide n Try.prog 69 #[.func (.yield l) #[] #[], .pointer (some ⟨Bn, 0, none⟩)] W fun e W' => (∃ v, e = .returned v) ∧
      ((∃ ys, ys = roundsOf h ∧ J ys W') ∨ (∃ pre, pre <+: roundsOf h ∧ Jx pre W')) := by
  refine callsIn_of_wp Try.func69 rfl trivial ?_ rfl
  simp only [Try.ntmps69, List.size_toArray, List.length_cons, List.length_nil, Nat.reduceAdd, Nat.reduceSub, Array.replicate_succ, Array.replicate_zero, List.push_toArray, List.append_toArray, List.nil_append, List.cons_append]
  gi_wp2_with (refine ⟨trivial, ?_⟩; gi_at_call 70; refine (handRight_calls _ h _).mono ?_; rintro e w' ⟨rfl, rfl⟩)
  · rename_i hb
    have hr : ¬ handRight h = true := by simpa using hb
    have hx : roundsOf h = [] := by unfold roundsOf; rw [if_neg hr]
    refine bodyPost_ret (results_none rfl _ _ _) rfl ?_
    exact ⟨⟨_, rfl⟩, .inl ⟨_, rfl, by rw [hx]; exact h0⟩⟩
  · rename_i hb
    have hr : handRight h = true := by simpa using hb
    have hh := (handRight_iff h).1 hr
    have hlen := rounds_length hr
    have h0z : h ≠ 0 := by omega
    have h0b : (h == 0) = false := by simpa using h0z
    rw [hr, Bool.not_true]
    gi_loopw [7] (fun p wr => ∃ k : Nat, k ≤ 65536 ∧ p = .int .i64 k ∧ J ((roundsOf h).take k) wr ∧ wr.cell? ⟨Bn, 0, none⟩ = some (.int .i64 h)) (fun p _ => 65536 - (intOf p).toNat)
    case atStart => exact ⟨0, by omega, rfl, h0, hBn⟩
    case round =>
      obtain ⟨k, hk, rfl, hJs, hc⟩ := hrel
      by_cases hlt : k < 65536
      · obtain ⟨fn, tmps, assign, body, hy, hR⟩ := hY _ ((k : Int) % h) wr hJs (by rw [List.length_take, hlen]; omega)
        have hk1 : ((k : Int) < 65536) := by omega
        gi_wp2
        refine hR.mono ?_
        rintro e W3 (⟨rfl, hJ3, hk3⟩ | ⟨rfl, hJx3⟩)
        · have hc3 := (hk3.cell (p := ⟨Bn, 0, none⟩) hlt0).trans hc
          gi_wp2
          go_roundw
          case rel => exact ⟨k + 1, by omega, by simp, by rw [rounds_take hr hlt]; exact hJ3, hc3⟩
          case measure => simp [intOf]; omega
        · gi_wp2
          go_end0
          exact ⟨⟨_, rfl⟩, .inr ⟨_, by rw [← rounds_take hr hlt]; exact List.take_prefix _ _, hJx3⟩⟩
      · obtain rfl : k = 65536 := by omega
        gi_wp2
        go_end0
        exact ⟨⟨_, rfl⟩, .inl ⟨_, rfl, by rw [List.take_of_length_le (by omega)] at hJs; exact hJs⟩⟩
end Go.Proofs.Ytfcjfjmjcmanaaa.X
