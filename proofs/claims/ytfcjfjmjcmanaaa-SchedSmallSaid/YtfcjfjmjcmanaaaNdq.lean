/- SchedLeast: the law's walk. -/
import Derived.Test.YtfcjfjmjcmanaaaGh
import Derived.Test.YtfcjfjmjcmanaaaGk
import Derived.Test.YtfcjfjmjcmanaaaPTherex3
set_option linter.unusedVariables false
namespace Go.Proofs.Ytfcjfjmjcmanaaa.X
open Go.RowKit Go.Proofs.Ytfcjfjmjcmanaaa.PBase Go.Proofs.Ytfcjfjmjcmanaaa.POnly Go.Proofs.YtfcjfjmjcmanaaaW.PrintWords Go.Proofs.YtfcjfjmjcmanaaaW.PrintLast Go.Proofs.YtfcjfjmjcmanaaaW.PrintMore
theorem leastOf_good (l : List Int) (ps : List (Int × Int)) (h1 : l.length ≤ 512) (h2 : ps.length ≤ 256) (h3 : ∀ x ∈ l, Hnum x) (h4 : PairsOk ps) : leastOf l ps = (lst (tab ps) l.length l, 0) := by
  unfold leastOf
  rw [if_neg (by simpa using ⟨h1, h2⟩), if_neg (by simpa using h3), if_neg (by simpa using h4)]
theorem leastOf_bad (l : List Int) (ps : List (Int × Int)) (h : ¬ (l.length ≤ 512 ∧ ps.length ≤ 256 ∧ (∀ x ∈ l, Hnum x) ∧ PairsOk ps)) : (leastOf l ps).1 = [] ∧ (leastOf l ps).2 ≠ 0 := by
  unfold leastOf
  split
  · exact ⟨rfl, by simp⟩
  · rename_i a
    split
    · exact ⟨rfl, by simp⟩
    · rename_i b
      split
      · exact ⟨rfl, by simp⟩
      · rename_i c
        have a := Classical.not_not.1 a
        exact absurd ⟨a.1, a.2, Classical.not_not.1 b, Classical.not_not.1 c⟩ h
set_option maxRecDepth 100000
set_option maxHeartbeats 8000000
theorem least_walk_bad (A0 : Option Addr) (c0 : Nat) (l : List Int) (A1 : Option Addr) (c1 : Nat) (ps : List (Int × Int)) (A2 : Option Addr) (c2 : Nat) (sw : List Int) {W : World} (hr0 : Kd.C (Kd.int .i64) W A0 l.length l) (hc0 : l.length ≤ c0) (hr1 : Kd.C Kp W A1 ps.length ps)
    (h : ¬ (l.length ≤ 512 ∧ ps.length ≤ 256 ∧ (∀ x ∈ l, Hnum x) ∧ PairsOk ps)) :
    Calls Try.prog 15 #[.slice A0 l.length c0, .slice A1 ps.length c1, .slice A2 sw.length c2] W fun e W' => e = .returned (.bool true) ∧ Below W.heap.size W W' := by
  have cp := pl_calls A0 c0 l A1 c1 ps W hr0 hc0 hr1
  obtain ⟨h1, h2⟩ := leastOf_bad l ps h
  rw [h1] at cp
  obtain ⟨E, hE⟩ : ∃ E, (leastOf l ps).2 = E := ⟨_, rfl⟩
  rw [hE] at cp h2
  have hb : (E != 0) = true := bne_iff_ne.2 h2
  have hlv := Go.Proofs.Ytfcjfjmjcmanaaa.PThere.larderlaw07_lives.calls 30 true
  have HLV := fun w => Aside0.mk (hlv w (by decide +kernel))
  clear hr0 hc0 hr1 h h1 h2 hE hlv
  go_enter Try.func15, Try.ntmps15
  go_wp2_with (first
    | (go_at_call 36; refine cp.mono ?_; rintro e w1 ⟨A, c, rfl, hc, hC, B1⟩; have HB1 := Aside0.mk B1; clear hc hC B1)
    | (go_at_call 53; refine (HLV _).out.mono ?_; rintro e w2 ⟨rfl, B2⟩; have HB2 := Aside0.mk B2; clear B2))
  go_ret
  exact ⟨rfl, below_step HB1.out HB2.out⟩
end Go.Proofs.Ytfcjfjmjcmanaaa.X
