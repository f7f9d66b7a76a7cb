/- Least: what both answer. -/
import Derived.Test.YtfcjfjmjcmanaaaLg
import Derived.Test.YtfcjfjmjcmanaaaLj
set_option linter.unusedVariables false
namespace Go.Proofs.Ytfcjfjmjcmanaaa.X
open Go.RowKit Go.Proofs.YtfcjfjmjcmanaaaW.PrintWords Go.Proofs.YtfcjfjmjcmanaaaW.PrintLast Go.Proofs.YtfcjfjmjcmanaaaW.PrintMore
instance (h : Int) : Decidable (Hnum h) := by unfold Hnum; infer_instance
open Classical in
/-- What Least answers. -/
noncomputable def leastOf (l : List Int) (ps : List (Int × Int)) : List Int × Int :=
  if ¬ (l.length ≤ 512 ∧ ps.length ≤ 256) then ([], 1) else if ¬ (∀ x ∈ l, Hnum x) then ([], 2) else if ¬ PairsOk ps then ([], 2) else (lst (tab ps) l.length l, 0)
theorem least_calls (f : Nat) (A0 : Option Addr) (c0 : Nat) (l : List Int) (A1 : Option Addr) (c1 : Nat) (ps : List (Int × Int)) (w : World)
    (h1 : ¬ (l.length ≤ 512 ∧ ps.length ≤ 256) → Calls Try.prog f #[.slice A0 l.length c0, .slice A1 ps.length c1] w fun e w' => e = .returned (.tuple #[.slice none 0 0, .int .i64 1]) ∧ Below w.heap.size w w')
    (h2 : l.length ≤ 512 → ps.length ≤ 256 → (¬ ∀ x ∈ l, Hnum x) → Calls Try.prog f #[.slice A0 l.length c0, .slice A1 ps.length c1] w fun e w' => e = .returned (.tuple #[.slice none 0 0, .int .i64 2]) ∧ Below w.heap.size w w')
    (h3 : l.length ≤ 512 → ps.length ≤ 256 → (∀ x ∈ l, Hnum x) → ¬ PairsOk ps → Calls Try.prog f #[.slice A0 l.length c0, .slice A1 ps.length c1] w fun e w' => e = .returned (.tuple #[.slice none 0 0, .int .i64 2]) ∧ Below w.heap.size w w')
    (h4 : l.length ≤ 512 → ps.length ≤ 256 → (∀ x ∈ l, Hnum x) → PairsOk ps → Calls Try.prog f #[.slice A0 l.length c0, .slice A1 ps.length c1] w fun e w' => ∃ A c, e = .returned (.tuple #[.slice A l.length c, .int .i64 0]) ∧ l.length ≤ c ∧ Kd.C (Kd.int .i64) w' A l.length (lst (tab ps) l.length l) ∧ Below w.heap.size w w') :
    Calls Try.prog f #[.slice A0 l.length c0, .slice A1 ps.length c1] w fun e w' => ∃ A c, e = .returned (.tuple #[.slice A (leastOf l ps).1.length c, .int .i64 (leastOf l ps).2]) ∧ (leastOf l ps).1.length ≤ c ∧ Kd.C (Kd.int .i64) w' A (leastOf l ps).1.length (leastOf l ps).1 ∧ Below w.heap.size w w' := by
  unfold leastOf
  by_cases c1 : l.length ≤ 512 ∧ ps.length ≤ 256
  · rw [if_neg (by simpa using c1)]
    by_cases c2 : ∀ x ∈ l, Hnum x
    · rw [if_neg (by simpa using c2)]
      by_cases c3 : PairsOk ps
      · rw [if_neg (by simpa using c3)]
        refine (h4 c1.1 c1.2 c2 c3).mono ?_
        rintro e w' ⟨A, c, rfl, hc, hC, hB⟩
        refine ⟨A, c, ?_, ?_, ?_, hB⟩
        · rw [lst_length]
        · rw [lst_length]; exact hc
        · rw [lst_length]; exact hC
      · rw [if_pos c3]
        refine (h3 c1.1 c1.2 c2 c3).mono ?_
        rintro e w' ⟨rfl, hB⟩
        exact ⟨none, 0, rfl, Nat.le_refl _, Kd.C_nil _ _, hB⟩
    · rw [if_pos c2]
      refine (h2 c1.1 c1.2 c2).mono ?_
      rintro e w' ⟨rfl, hB⟩
      exact ⟨none, 0, rfl, Nat.le_refl _, Kd.C_nil _ _, hB⟩
  · rw [if_pos c1]
    refine (h1 c1).mono ?_
    rintro e w' ⟨rfl, hB⟩
    exact ⟨none, 0, rfl, Nat.le_refl _, Kd.C_nil _ _, hB⟩
theorem pl_calls (A0 : Option Addr) (c0 : Nat) (l : List Int) (A1 : Option Addr) (c1 : Nat) (ps : List (Int × Int)) (w : World) (hr0 : Kd.C (Kd.int .i64) w A0 l.length l) (hc0 : l.length ≤ c0) (hr1 : Kd.C Kp w A1 ps.length ps) :
    Calls Try.prog 36 #[.slice A0 l.length c0, .slice A1 ps.length c1] w fun e w' => ∃ A c, e = .returned (.tuple #[.slice A (leastOf l ps).1.length c, .int .i64 (leastOf l ps).2]) ∧ (leastOf l ps).1.length ≤ c ∧ Kd.C (Kd.int .i64) w' A (leastOf l ps).1.length (leastOf l ps).1 ∧ Below w.heap.size w w' :=
  least_calls 36 A0 c0 l A1 c1 ps w (fun h => pl_long A0 c0 l A1 c1 ps w h) (fun a b c => pl_num A0 c0 l A1 c1 ps w hr0 hc0 a b c) (fun a b c d => pl_pair A0 c0 l A1 c1 ps w hr0 hc0 hr1 a b c d) (fun a b c d => pl_good A0 c0 l A1 c1 ps w hr0 hc0 hr1 a b c d)
theorem rl_calls (A0 : Option Addr) (c0 : Nat) (l : List Int) (A1 : Option Addr) (c1 : Nat) (ps : List (Int × Int)) (w : World) (hr0 : Kd.C (Kd.int .i64) w A0 l.length l) (hc0 : l.length ≤ c0) (hr1 : Kd.C Kp w A1 ps.length ps) :
    Calls Try.prog 37 #[.slice A0 l.length c0, .slice A1 ps.length c1] w fun e w' => ∃ A c, e = .returned (.tuple #[.slice A (leastOf l ps).1.length c, .int .i64 (leastOf l ps).2]) ∧ (leastOf l ps).1.length ≤ c ∧ Kd.C (Kd.int .i64) w' A (leastOf l ps).1.length (leastOf l ps).1 ∧ Below w.heap.size w w' :=
  least_calls 37 A0 c0 l A1 c1 ps w (fun h => rl_long A0 c0 l A1 c1 ps w h) (fun a b c => rl_num A0 c0 l A1 c1 ps w hr0 hc0 a b c) (fun a b c d => rl_pair A0 c0 l A1 c1 ps w hr0 hc0 hr1 a b c d) (fun a b c d => rl_good A0 c0 l A1 c1 ps w hr0 hc0 hr1 a b c d)
theorem leastOf_len (l : List Int) (ps : List (Int × Int)) : (leastOf l ps).1.length ≤ 512 := by
  unfold leastOf
  split
  · simp
  · rename_i h
    have h : l.length ≤ 512 ∧ ps.length ≤ 256 := Classical.not_not.1 h
    split
    · simp
    · split
      · simp
      · rw [lst_length]; exact h.1
end Go.Proofs.Ytfcjfjmjcmanaaa.X
