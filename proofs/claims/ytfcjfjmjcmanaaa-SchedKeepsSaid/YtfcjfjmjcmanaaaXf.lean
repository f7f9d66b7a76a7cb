/- SchedFairs: the plain part, the loops. -/
import Derived.Test.YtfcjfjmjcmanaaaXe
set_option linter.unusedVariables false
namespace Go.Proofs.Ytfcjfjmjcmanaaa.X
open Go.RowKit Go.Proofs.YtfcjfjmjcmanaaaW.PrintWords Go.Proofs.YtfcjfjmjcmanaaaW.PrintLast Go.Proofs.Ytfcjfjmjcmanaaa.PSchedFairs

theorem r2_bad (l : List Int) (n : Nat) (kk : Int) (c : List Int) (i : Int) (f : Nat) (hc : c.length = n) (hn : n ≤ 16) : ∀ (d k h : Nat), h + d = n → d < k → (∃ q, h ≤ q ∧ q < n ∧ c.getD q 0 ≤ (f : Int)) →
    larderref07_Fair.l2 k l n kk c i f h = some (false, (f : Int))
  | 0, k, h, hd, hk, ⟨q, h1, h2, _⟩ => by omega
  | d + 1, k, h, hd, hk, ⟨q, h1, h2, h3⟩ => by
    obtain ⟨k, rfl⟩ : ∃ m, k = m + 1 := ⟨k - 1, by omega⟩
    simp only [larderref07_Fair.l2]
    rw [if_pos (by omega), if_pos (by omega), if_pos (by omega), rd_nat]
    by_cases e : c.getD h 0 ≤ (f : Int)
    · rw [if_pos e]
    · rw [if_neg e, wsucc (by omega)]
      exact r2_bad l n kk c i f hc hn d k (h + 1) (by omega) (by omega) ⟨q, by
        rcases Nat.lt_or_ge h q with h4 | h4
        · omega
        · obtain rfl : q = h := by omega
          exact absurd h3 e, h2, h3⟩
theorem r2_good (l : List Int) (n : Nat) (kk : Int) (c : List Int) (i : Int) (f : Nat) (hc : c.length = n) (hn : n ≤ 16) : ∀ (d k h : Nat), h + d = n → d < k → (∀ q, h ≤ q → q < n → ¬ c.getD q 0 ≤ (f : Int)) →
    larderref07_Fair.l2 k l n kk c i f h = larderref07_Fair.l1 (k - d - 1) l n kk c (wrap64 (i + 1))
  | 0, k, h, hd, hk, hq => by
    obtain ⟨k, rfl⟩ : ∃ m, k = m + 1 := ⟨k - 1, by omega⟩
    simp only [larderref07_Fair.l2]
    rw [if_neg (by omega)]
    rfl
  | d + 1, k, h, hd, hk, hq => by
    obtain ⟨k, rfl⟩ : ∃ m, k = m + 1 := ⟨k - 1, by omega⟩
    simp only [larderref07_Fair.l2]
    rw [if_pos (by omega), if_pos (by omega), if_pos (by omega), rd_nat, if_neg (hq h (by omega) (by omega)), wsucc (by omega), r2_good l n kk c i f hc hn d k (h + 1) (by omega) (by omega) (fun q h1 h2 => hq q (by omega) h2)]
    rw [show k + 1 - (d + 1) - 1 = k - d - 1 from by omega]

theorem win_le (l : List Int) (a i : Nat) (h : Int) : win l a i h ≤ i := by
  unfold win
  refine Nat.le_trans List.count_le_length ?_
  rw [List.length_drop, List.length_take]
  exact Nat.le_trans (Nat.sub_le _ _) (Nat.min_le_left _ _)
theorem CountIs.range {l : List Int} {n a i : Nat} {c : List Int} {m : Int} (h : CountIs l n a i c m) (hn : n ≤ 16) : 0 ≤ m ∧ m ≤ 16 := by
  obtain ⟨h1, _, rfl⟩ := h
  have := List.count_le_length (a := (0 : Int)) (l := c)
  omega
theorem from_le {i : Nat} {kk : Int} (h1 : 1 ≤ kk) : ((i : Int) + 1 - kk).toNat ≤ i := by omega
theorem lt_of_split {i e m : Nat} (h : i + (e + 1) = m) : i < m := by omega
theorem fuel_g {e k : Nat} (h : 2 * (e + 1) < k + 2) : 2 * e < k := by omega
theorem fuel_r {e k n : Nat} (h : 20 * (e + 1) < k + 1) (hn : n ≤ 16) : 20 * e < k ∧ 20 * e < k - n - 1 ∧ n < k := by omega
theorem wid_win {x : Int} {w : Nat} (h : x = (w : Int)) (hw : w ≤ 65537) : wrap64 (x + 1) = x + 1 ∧ wrap64 (x - 1) = x - 1 := ⟨wid (by omega) (by omega), wid (by omega) (by omega)⟩
theorem wid_m {m : Int} (h : 0 ≤ m ∧ m ≤ 16) : wrap64 (m - 1) = m - 1 ∧ wrap64 (m + 1) = m + 1 := ⟨wid (by omega) (by omega), wid (by omega) (by omega)⟩
theorem wid_from {i : Nat} {kk : Int} (hi : i ≤ 65537) (h1 : 1 ≤ kk) (h2 : kk ≤ 9223372036854775807) : wrap64 ((i : Int) - kk) = (i : Int) - kk := wid (by omega) (by omega)
set_option maxHeartbeats 1000000 in
theorem fair_loop (l : List Int) (n : Nat) (kk : Int) (hn : n ≤ 16) (hlen : l.length ≤ 65536) (hk1 : 1 ≤ kk) (hk2 : kk ≤ 9223372036854775807) (hok : ∀ j, j < l.length → ∃ p : Nat, p < n ∧ l.getD j 0 = (p : Int)) (e : Nat) :
    ∀ (i k1 k2 : Nat) (c : List Int) (m : Int) (c' : List Int), i + e = l.length → 2 * e < k1 → 20 * e < k2 → CountIs l n ((i : Int) + 1 - kk).toNat i c m → LastIs l n i c' →
    ∃ r, sched_Fair.l1 k1 l kk c m l l.length i = some r ∧ larderref07_Fair.l1 k2 l n kk c' i = some r := by
  induction e with
  | zero =>
    intro i k1 k2 c m c' hi h1 h2 hC hL
    obtain ⟨k1, rfl⟩ : ∃ m, k1 = m + 1 := ⟨k1 - 1, by omega⟩
    obtain ⟨k2, rfl⟩ : ∃ m, k2 = m + 1 := ⟨k2 - 1, by omega⟩
    simp only [sched_Fair.l1, larderref07_Fair.l1]
    exact ⟨_, if_neg (by omega), by rw [if_neg (by omega)]⟩
  | succ e ih =>
    intro i k1 k2 c m c' hi h1 h2 hC hL
    obtain ⟨k1, rfl⟩ : ∃ m, k1 = m + 2 := ⟨k1 - 2, by omega⟩
    obtain ⟨k2, rfl⟩ : ∃ m, k2 = m + 1 := ⟨k2 - 1, by omega⟩
    obtain ⟨p, hpn, hp⟩ := hok i (lt_of_split hi)
    have FG := Aside0.mk (fuel_g h1)
    have FR := Aside0.mk (fuel_r h2 hn)
    have hi' : i + 1 + e = l.length := by rw [Nat.add_assoc, Nat.add_comm 1 e]; exact hi
    clear h1 h2
    have hcl := hC.1
    have hll := hL.1
    have hlt : (i : Int) < (l.length : Int) := by omega
    have h0i : (0 : Int) ≤ (i : Int) := by omega
    have h0p : (0 : Int) ≤ (p : Int) := by omega
    have hpc : (p : Int) < (c.length : Int) := by omega
    have hpc' : (p : Int) < (c'.length : Int) := by omega
    have hwi : wrap64 ((i : Int) + 1) = ((i + 1 : Nat) : Int) := wsucc (by omega)
    have hvw := hC.2.1 p hpn
    have hil2 : i < l.length := lt_of_split hi
    have hil : i + 1 ≤ 65537 := Nat.succ_le_succ (Nat.le_trans (Nat.le_of_lt hil2) hlen)
    have hai : ((i : Int) + 1 - kk).toNat ≤ i := from_le hk1
    have hwle : win l ((i : Int) + 1 - kk).toNat i (p : Int) ≤ 65537 := Nat.le_trans (win_le l _ i (p : Int)) (Nat.le_trans (Nat.le_succ i) hil)
    have hmle : 0 ≤ m ∧ m ≤ 16 := hC.range hn
    have hP := hC.push hai hil2 hp hpn
    have hQ := hL.push hp hpn
    have hwv := (wid_win hvw hwle).1
    have hwm := (wid_m hmle).1
    obtain ⟨c1, hc1⟩ : ∃ c1, c.set p (c.getD p 0 + 1) = c1 := ⟨_, rfl⟩
    obtain ⟨m1, hm1⟩ : ∃ m1, (if c.getD p 0 + 1 = 1 then m - 1 else m) = m1 := ⟨_, rfl⟩
    obtain ⟨d1, hd1⟩ : ∃ d1, c'.set p ((i + 1 : Nat) : Int) = d1 := ⟨_, rfl⟩
    have hg1 : c1.getD p 0 = c.getD p 0 + 1 := by rw [← hc1, getD_set c p _ (by rw [hcl]; exact hpn), if_pos rfl]
    have hG : sched_Fair.l1 (k1 + 2) l kk c m l l.length i = sched_Fair.j3 (k1 + 1) l kk c1 m1 i l l.length i := by
      simp only [sched_Fair.l1]
      rw [if_pos hlt, if_pos h0i, if_pos hlt]
      simp only [rd_nat, hp]
      rw [if_pos h0p, if_pos hpc]
      simp only [Option.bind_some, Int.toNat_natCast, hwv, hwm, hc1, hg1]
      by_cases hh : c.getD p 0 + 1 = 1
      · rw [if_pos hh] at hm1 ⊢; rw [hm1]
      · rw [if_neg hh] at hm1 ⊢; rw [hm1]
    have hR : larderref07_Fair.l1 (k2 + 1) l n kk c' i = if wrap64 (((i + 1 : Nat) : Int) - kk) < 0 then larderref07_Fair.l1 k2 l n kk d1 ((i + 1 : Nat) : Int) else larderref07_Fair.l2 k2 l n kk d1 i (wrap64 (((i + 1 : Nat) : Int) - kk)) 0 := by
      simp only [larderref07_Fair.l1]
      rw [if_pos hlt, if_pos h0i]
      simp only [rd_nat, hp]
      rw [if_pos h0p, if_pos hpc']
      simp only [Option.bind_some, Int.toNat_natCast, hwi, hd1]
    rw [hc1, hm1] at hP
    rw [hd1] at hQ
    have hwf : wrap64 (((i + 1 : Nat) : Int) - kk) = ((i + 1 : Nat) : Int) - kk := wid_from hil hk1 hk2
    rw [hG, hR, hwf]
    simp only [sched_Fair.j3]
    rw [hwi, hwf]
    by_cases hlk : ((i + 1 : Nat) : Int) < kk
    · rw [if_pos hlk, if_pos (by omega)]
      refine ih (i + 1) k1 k2 c1 m1 d1 hi' FG.out FR.out.1 ?_ hQ
      rw [show (((i + 1 : Nat) : Int) + 1 - kk).toNat = ((i : Int) + 1 - kk).toNat from by omega]
      exact hP
    · rw [if_neg hlk, if_neg (show ¬ ((i + 1 : Nat) : Int) - kk < 0 by omega)]
      obtain ⟨f, hf⟩ : ∃ f : Nat, ((i + 1 : Nat) : Int) - kk = (f : Int) := ⟨(((i + 1 : Nat) : Int) - kk).toNat, by omega⟩
      have hfa : ((i : Int) + 1 - kk).toNat = f := by omega
      rw [hfa] at hP
      rw [hf]
      have hfi : f < i + 1 := by omega
      have hmis := hP.missing (by omega)
      by_cases hm : m1 > 0
      · rw [if_pos hm]
        refine ⟨_, rfl, ?_⟩
        obtain ⟨q, hq1, hq2⟩ := hmis.1 hm
        exact r2_bad l n kk d1 i f hQ.1 hn n k2 0 (Nat.zero_add n) FR.out.2.2 ⟨q, Nat.zero_le q, hq1, (hQ.2 q hq1 f).2 hq2⟩
      · rw [if_neg hm]
        obtain ⟨q, hqn, hq⟩ := hok f (by omega)
        have hc1l := hP.1
        have hvq := hP.2.1 q hqn
        have hwleq : win l f (i + 1) (q : Int) ≤ 65537 := Nat.le_trans (win_le l f (i + 1) (q : Int)) hil
        have hO := hP.pop hfi (by omega) hq hqn
        have hm1le : 0 ≤ m1 ∧ m1 ≤ 16 := hP.range hn
        have hwq := (wid_win hvq hwleq).2
        have hwm1 := (wid_m hm1le).2
        rw [if_pos (show (0 : Int) ≤ (f : Int) by omega), if_pos (show (f : Int) < (l.length : Int) by omega)]
        simp only [rd_nat, hq]
        rw [if_pos (show (0 : Int) ≤ (q : Int) by omega), if_pos (show (q : Int) < (c1.length : Int) by omega)]
        simp only [Int.toNat_natCast, hwq, hwm1]
        have hr := r2_good l n kk d1 i f hQ.1 hn n k2 0 (Nat.zero_add n) FR.out.2.2 (fun q _ hq1 hle => hm (hmis.2 ⟨q, hq1, (hQ.2 q hq1 f).1 hle⟩))
        rw [hwi] at hr
        have hr' : larderref07_Fair.l2 k2 l n kk d1 i f 0 = larderref07_Fair.l1 (k2 - n - 1) l n kk d1 ((i + 1 : Nat) : Int) := hr
        rw [hr']
        have hfa2 : (((i + 1 : Nat) : Int) + 1 - kk).toNat = f + 1 := by omega
        obtain ⟨r, g1, g2⟩ := ih (i + 1) k1 (k2 - n - 1) (c1.set q (c1.getD q 0 - 1)) (if c1.getD q 0 = 1 then m1 + 1 else m1) d1 hi' FG.out FR.out.2.1 (by rw [hfa2]; exact hO) hQ
        refine ⟨r, ?_, g2⟩
        by_cases hh : c1.getD q 0 = 1
        · rw [if_pos hh] at g1 ⊢; exact g1
        · rw [if_neg hh] at g1 ⊢; exact g1
end Go.Proofs.Ytfcjfjmjcmanaaa.X
