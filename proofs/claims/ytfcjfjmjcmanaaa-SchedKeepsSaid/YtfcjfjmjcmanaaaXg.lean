/- SchedFairs: the plain part: Fair and the document's Fair answer alike, for every input. -/
import Derived.Test.YtfcjfjmjcmanaaaXf
set_option linter.unusedVariables false
namespace Go.Proofs.Ytfcjfjmjcmanaaa.X
open Go.RowKit Go.Proofs.YtfcjfjmjcmanaaaW.PrintWords Go.Proofs.YtfcjfjmjcmanaaaW.PrintLast Go.Proofs.Ytfcjfjmjcmanaaa.PSchedFairs

def OkFrom (l : List Int) (n : Int) (i : Nat) : Prop := ∀ j, i ≤ j → j < l.length → 0 ≤ l.getD j 0 ∧ l.getD j 0 < n
theorem OkFrom.step {l : List Int} {n : Int} {i : Nat} (h : 0 ≤ l.getD i 0 ∧ l.getD i 0 < n) : OkFrom l n i ↔ OkFrom l n (i + 1) := by
  constructor
  · intro hh j h1 h2; exact hh j (by omega) h2
  · intro hh j h1 h2
    rcases Nat.lt_or_ge i j with h3 | h3
    · exact hh j h3 h2
    · obtain rfl : j = i := by omega
      exact h
theorem look_loop (l : List Int) (n kk : Int) (hn : 1 ≤ n ∧ n ≤ 16) (hlen : l.length ≤ 65536) (e : Nat) : ∀ (i k1 k2 : Nat), i + e = l.length → e < k1 → e < k2 →
    (OkFrom l n i → sched_Fair.l0 k1 l n kk l l.length i = sched_Fair.l1 (k1 - e - 1) l kk (List.replicate n.toNat 0) n l l.length 0 ∧ larderref07_Fair.l0 k2 l n kk i = larderref07_Fair.l1 (k2 - e - 1) l n kk (List.replicate n.toNat 0) 0) ∧
    (¬ OkFrom l n i → sched_Fair.l0 k1 l n kk l l.length i = some (false, -1) ∧ larderref07_Fair.l0 k2 l n kk i = some (false, -1)) := by
  have hn1 : (0 : Int) ≤ n := by omega
  have hn2 : n.toNat ≤ 35184372088832 := by omega
  induction e with
  | zero =>
    intro i k1 k2 hi h1 h2
    obtain ⟨k1, rfl⟩ : ∃ m, k1 = m + 1 := ⟨k1 - 1, by omega⟩
    obtain ⟨k2, rfl⟩ : ∃ m, k2 = m + 1 := ⟨k2 - 1, by omega⟩
    simp only [sched_Fair.l0, larderref07_Fair.l0]
    have hlt : ¬ (i : Int) < (l.length : Int) := by omega
    simp only [if_neg hlt, if_pos hn1, if_pos hn2]
    exact ⟨fun _ => ⟨rfl, rfl⟩, fun hh => absurd (fun j h3 h4 => by omega) hh⟩
  | succ e ih =>
    intro i k1 k2 hi h1 h2
    obtain ⟨k1, rfl⟩ : ∃ m, k1 = m + 1 := ⟨k1 - 1, by omega⟩
    obtain ⟨k2, rfl⟩ : ∃ m, k2 = m + 1 := ⟨k2 - 1, by omega⟩
    have hlt : (i : Int) < (l.length : Int) := by omega
    have h0i : (0 : Int) ≤ (i : Int) := by omega
    have hw := wsucc (i := i) (by omega)
    simp only [sched_Fair.l0, larderref07_Fair.l0]
    simp only [if_pos hlt, if_pos h0i, rd_nat, hw]
    have ih' := ih (i + 1) k1 k2 (by omega) (by omega) (by omega)
    by_cases c1 : l.getD i 0 < 0
    · rw [if_pos c1, if_pos c1]
      exact ⟨fun hh => absurd (hh i (Nat.le_refl _) (by omega)).1 (by omega), fun _ => ⟨rfl, rfl⟩⟩
    · rw [if_neg c1, if_neg c1]
      by_cases c2 : l.getD i 0 ≥ n
      · rw [if_pos c2, if_pos c2]
        exact ⟨fun hh => absurd (hh i (Nat.le_refl _) (by omega)).2 (by omega), fun _ => ⟨rfl, rfl⟩⟩
      · rw [if_neg c2, if_neg c2, OkFrom.step (l := l) (n := n) (i := i) ⟨by omega, by omega⟩]
        rw [show k1 + 1 - (e + 1) - 1 = k1 - e - 1 from by omega, show k2 + 1 - (e + 1) - 1 = k2 - e - 1 from by omega]
        exact ih'
theorem win_none (l : List Int) (a : Nat) (h : Int) : win l a 0 h = 0 := by unfold win; simp
theorem fair_eq (l : List Int) (n kk : Int) (hkk : kk ≤ 9223372036854775807) : ∃ r, sched_Fair.f 2000000 l n kk = some r ∧ larderref07_Fair.f 2000000 l n kk = some r := by
  obtain ⟨K, hK⟩ : ∃ K : Nat, 2000000 = K + 1 := ⟨1999999, rfl⟩
  have hKb : K = 1999999 := by omega
  have gj : ∀ b, sched_Fair.j0 (K + 1) l n kk b = if b = true then some (false, -1) else sched_Fair.l0 K l n kk l l.length 0 := fun b => by simp only [sched_Fair.j0]
  have rj : ∀ b, larderref07_Fair.j0 (K + 1) l n kk b = if b = true then some (false, -1) else larderref07_Fair.l0 K l n kk 0 := fun b => by simp only [larderref07_Fair.j0]
  rw [hK]
  unfold sched_Fair.f larderref07_Fair.f sched_handlersRight.f
  simp only [gj, rj]
  by_cases c1 : n < 1
  · rw [if_neg (show ¬ n ≥ 1 by omega), if_pos c1]
    simp only [Option.bind_some]
    exact ⟨_, if_neg (by simp), if_pos trivial⟩
  · rw [if_pos (show n ≥ 1 by omega), if_neg c1]
    simp only [Option.bind_some]
    by_cases c2 : n > 16
    · rw [if_pos c2, decide_eq_false (show ¬ n ≤ 16 by omega)]
      exact ⟨_, if_neg (by simp), if_pos trivial⟩
    · rw [if_neg c2, decide_eq_true (show n ≤ 16 by omega), if_pos rfl]
      by_cases c3 : kk < 1
      · rw [if_pos c3, if_pos c3]; exact ⟨_, if_pos trivial, if_pos trivial⟩
      · rw [if_neg c3, if_neg c3]
        by_cases c4 : (l.length : Int) > 65536
        · rw [decide_eq_true c4]; exact ⟨_, if_pos rfl, if_pos rfl⟩
        · rw [decide_eq_false c4, if_neg (by simp), if_neg (by simp)]
          have hl : l.length ≤ 65536 := by omega
          have hL := look_loop l n kk ⟨by omega, by omega⟩ hl l.length 0 K K (by omega) (by omega) (by omega)
          by_cases hok : OkFrom l n 0
          · obtain ⟨g, r⟩ := hL.1 hok
            rw [show ((0 : Nat) : Int) = 0 from rfl] at g r
            rw [g, r]
            obtain ⟨N, hN⟩ : ∃ N : Nat, n = (N : Int) := ⟨n.toNat, by omega⟩
            subst hN
            rw [Int.toNat_natCast]
            have hf := fair_loop l N kk (by omega) hl (by omega) hkk (fun j hj => ⟨(l.getD j 0).toNat, by have := hok j (Nat.zero_le _) hj; omega, by have := hok j (Nat.zero_le _) hj; omega⟩) l.length 0 (K - l.length - 1) (K - l.length - 1) (List.replicate N 0) N (List.replicate N 0) (by omega) (by omega) (by omega)
              ⟨by simp, fun h hh => by rw [win_none]; simp [List.getD_eq_getElem?_getD, hh], by simp⟩
              ⟨by simp, fun h hh f => ⟨fun _ j h1 h2 => by omega, fun _ => by simp [List.getD_eq_getElem?_getD, hh]⟩⟩
            exact hf
          · obtain ⟨g, r⟩ := hL.2 hok
            exact ⟨_, g, r⟩
end Go.Proofs.Ytfcjfjmjcmanaaa.X
