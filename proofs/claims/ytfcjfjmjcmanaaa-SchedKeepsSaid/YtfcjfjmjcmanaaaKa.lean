/- SchedKeeps: plain: rounds and mixed streams are fair. -/
import Derived.Test.YtfcjfjmjcmanaaaXg
import Derived.Test.YtfcjfjmjcmanaaaYe
set_option linter.unusedVariables false
namespace Go.Proofs.Ytfcjfjmjcmanaaa.X
open Go.RowKit Go.Proofs.YtfcjfjmjcmanaaaW.PrintWords Go.Proofs.YtfcjfjmjcmanaaaW.PrintLast Go.Proofs.Ytfcjfjmjcmanaaa.PSchedFairs
/-- Each of the n handlers stands in each window of kk picks. -/
def Wfair (l : List Int) (n : Nat) (kk : Int) : Prop := ∀ i : Nat, i < l.length → kk ≤ (i : Int) + 1 → ∀ g : Nat, g < n → ∃ j : Nat, ((i : Int) + 1 - kk).toNat ≤ j ∧ j < i + 1 ∧ l.getD j 0 = (g : Int)
set_option maxHeartbeats 1000000 in
theorem ref_loop_ok (l : List Int) (n : Nat) (kk : Int) (hn : n ≤ 16) (hlen : l.length ≤ 65536) (hk1 : 1 ≤ kk) (hk2 : kk ≤ 9223372036854775807) (hok : ∀ j, j < l.length → ∃ p : Nat, p < n ∧ l.getD j 0 = (p : Int)) (hw : Wfair l n kk) (e : Nat) :
    ∀ (i k2 : Nat) (c' : List Int), i + e = l.length → 20 * e < k2 → LastIs l n i c' → larderref07_Fair.l1 k2 l n kk c' i = some (true, 0) := by
  induction e with
  | zero =>
    intro i k2 c' hi h2 hL
    obtain ⟨k2, rfl⟩ : ∃ m, k2 = m + 1 := ⟨k2 - 1, by omega⟩
    simp only [larderref07_Fair.l1]
    rw [if_neg (by omega)]
  | succ e ih =>
    intro i k2 c' hi h2 hL
    obtain ⟨k2, rfl⟩ : ∃ m, k2 = m + 1 := ⟨k2 - 1, by omega⟩
    obtain ⟨p, hpn, hp⟩ := hok i (lt_of_split hi)
    have FR := Aside0.mk (fuel_r h2 hn)
    have hi' : i + 1 + e = l.length := by rw [Nat.add_assoc, Nat.add_comm 1 e]; exact hi
    clear h2
    have hll := hL.1
    have hlt : (i : Int) < (l.length : Int) := by omega
    have h0i : (0 : Int) ≤ (i : Int) := by omega
    have h0p : (0 : Int) ≤ (p : Int) := by omega
    have hpc' : (p : Int) < (c'.length : Int) := by omega
    have hwi : wrap64 ((i : Int) + 1) = ((i + 1 : Nat) : Int) := wsucc (by omega)
    have hil2 : i < l.length := lt_of_split hi
    have hil : i + 1 ≤ 65537 := Nat.succ_le_succ (Nat.le_trans (Nat.le_of_lt hil2) hlen)
    have hQ := hL.push hp hpn
    obtain ⟨d1, hd1⟩ : ∃ d1, c'.set p ((i + 1 : Nat) : Int) = d1 := ⟨_, rfl⟩
    have hR : larderref07_Fair.l1 (k2 + 1) l n kk c' i = if wrap64 (((i + 1 : Nat) : Int) - kk) < 0 then larderref07_Fair.l1 k2 l n kk d1 ((i + 1 : Nat) : Int) else larderref07_Fair.l2 k2 l n kk d1 i (wrap64 (((i + 1 : Nat) : Int) - kk)) 0 := by
      simp only [larderref07_Fair.l1]
      rw [if_pos hlt, if_pos h0i]
      simp only [rd_nat, hp]
      rw [if_pos h0p, if_pos hpc']
      simp only [Option.bind_some, Int.toNat_natCast, hwi, hd1]
    rw [hd1] at hQ
    have hwf : wrap64 (((i + 1 : Nat) : Int) - kk) = ((i + 1 : Nat) : Int) - kk := wid_from hil hk1 hk2
    rw [hR, hwf]
    by_cases hlk : ((i + 1 : Nat) : Int) < kk
    · rw [if_pos (by omega)]
      exact ih (i + 1) k2 d1 hi' FR.out.1 hQ
    · rw [if_neg (show ¬ ((i + 1 : Nat) : Int) - kk < 0 by omega)]
      obtain ⟨f, hf⟩ : ∃ f : Nat, ((i + 1 : Nat) : Int) - kk = (f : Int) := ⟨(((i + 1 : Nat) : Int) - kk).toNat, by omega⟩
      rw [hf]
      have hr := r2_good l n kk d1 i f hQ.1 hn n k2 0 (Nat.zero_add n) FR.out.2.2 (fun q _ hq1 hle => by
        obtain ⟨j, j1, j2, j3⟩ := hw i hil2 (by omega) q hq1
        exact (hQ.2 q hq1 f).1 hle j (by omega) j2 j3)
      rw [hwi] at hr
      have hr' : larderref07_Fair.l2 k2 l n kk d1 i f 0 = larderref07_Fair.l1 (k2 - n - 1) l n kk d1 ((i + 1 : Nat) : Int) := hr
      rw [hr']
      exact ih (i + 1) (k2 - n - 1) d1 hi' FR.out.2.1 hQ
theorem fair_ok (l : List Int) (N : Nat) (kk : Int) (hn1 : 1 ≤ N) (hn : N ≤ 16) (hlen : l.length ≤ 65536) (hk1 : 1 ≤ kk) (hk2 : kk ≤ 9223372036854775807) (hnum : ∀ x ∈ l, 0 ≤ x ∧ x < (N : Int)) (hw : Wfair l N kk) : sched_Fair.f 2000000 l N kk = some (true, 0) := by
  obtain ⟨r, g1, g2⟩ := fair_eq l N kk hk2
  rw [g1, ← g2]
  clear g1 g2
  have hnum' : ∀ j, j < l.length → 0 ≤ l.getD j 0 ∧ l.getD j 0 < (N : Int) := fun j hj => by
    rw [List.getD_eq_getElem?_getD, List.getElem?_eq_getElem hj]
    exact hnum _ (List.getElem_mem _)
  obtain ⟨K, hK⟩ : ∃ K : Nat, 2000000 = K + 1 := ⟨1999999, rfl⟩
  have hKb : K = 1999999 := by omega
  have rj : ∀ b, larderref07_Fair.j0 (K + 1) l N kk b = if b = true then some (false, -1) else larderref07_Fair.l0 K l N kk 0 := fun b => by simp only [larderref07_Fair.j0]
  rw [hK]
  unfold larderref07_Fair.f
  simp only [rj]
  rw [if_neg (by omega), if_neg (by omega), if_neg (by omega), decide_eq_false (by omega), if_neg (by simp)]
  obtain ⟨_, r⟩ := (look_loop l N kk ⟨by omega, by omega⟩ hlen l.length 0 K K (by omega) (by omega) (by omega)).1 (fun j _ h2 => hnum' j h2)
  rw [show ((0 : Nat) : Int) = 0 from rfl] at r
  rw [r, Int.toNat_natCast]
  exact ref_loop_ok l N kk hn hlen hk1 hk2 (fun j hj => ⟨(l.getD j 0).toNat, by have := hnum' j hj; omega, by have := hnum' j hj; omega⟩) hw l.length 0 (K - l.length - 1) (List.replicate N 0) (by omega) (by omega)
    ⟨by simp, fun h hh f => ⟨fun _ j h1 h2 => by omega, fun _ => by simp [List.getD_eq_getElem?_getD, hh]⟩⟩
theorem getD_take (l : List Int) (m j : Nat) (hj : j < m) : (l.take m).getD j 0 = l.getD j 0 := by
  rw [List.getD_eq_getElem?_getD, List.getD_eq_getElem?_getD, List.getElem?_take, if_pos hj]
theorem rounds_fair (N m : Nat) (h1 : 1 ≤ N) (h2 : N ≤ 16) (hm : m ≤ 65536) : sched_Fair.f 2000000 ((roundsOf N).take m) N N = some (true, 0) ∧ ((roundsOf N).take m).length = m := by
  have hr : handRight (N : Int) = true := (handRight_iff _).2 (by omega)
  have hlen : ((roundsOf N).take m).length = m := by rw [List.length_take, rounds_length hr]; omega
  have hget : ∀ j : Nat, j < m → ((roundsOf N).take m).getD j 0 = (j : Int) % (N : Int) := fun j hj => by
    rw [getD_take _ _ _ hj, List.getD_eq_getElem?_getD, rounds_get hr (by omega)]; rfl
  refine ⟨fair_ok _ N N h1 h2 (by omega) (by omega) (by omega) (fun x hx => ?_) ?_, hlen⟩
  · obtain ⟨j, hj, rfl⟩ := List.getElem_of_mem hx
    have := hget j (by omega)
    rw [List.getD_eq_getElem?_getD, List.getElem?_eq_getElem hj] at this
    have e : ((roundsOf N).take m)[j] = (j : Int) % (N : Int) := this
    rw [e]
    exact ⟨Int.emod_nonneg _ (by omega), Int.emod_lt_of_pos _ (by omega)⟩
  · intro i hi hk g hg
    rw [hlen] at hi
    have r0 : 0 ≤ ((i : Int) - g) % (N : Int) := Int.emod_nonneg _ (by omega)
    have r1 : ((i : Int) - g) % (N : Int) < N := Int.emod_lt_of_pos _ (by omega)
    have r2 := Int.emod_add_mul_ediv ((i : Int) - g) (N : Int)
    generalize ((i : Int) - g) % (N : Int) = r at r0 r1 r2
    generalize ((i : Int) - g) / (N : Int) = q at r2
    refine ⟨i - r.toNat, by omega, by omega, ?_⟩
    rw [hget _ (by omega), show ((i - r.toNat : Nat) : Int) = g + N * q by omega, Int.add_mul_emod_self_left, Int.emod_eq_of_lt (by omega) (by omega)]
theorem gen_num (h m : Nat) (h1 : 1 ≤ h) (h2 : h ≤ 16) (hm : 1 ≤ m) (hm2 : m ≤ 1000) (s : Int) : ∀ j, ∀ x ∈ (gen h m s j).1, 0 ≤ x ∧ x < (h : Int)
  | 0, x, hx => by simp [gen] at hx
  | j + 1, x, hx => by
    rcases List.mem_append.1 (show x ∈ (gen h m s j).1 ++ (blk h m (gen h m s j).2).1 from hx) with h3 | h3
    · exact gen_num h m h1 h2 hm hm2 s j x h3
    · exact blk_num h m h1 h2 hm hm2 _ x h3
theorem gen_has (h m : Nat) (hm : h ≤ m) (hm1 : 1 ≤ m) (hm2 : m ≤ 1000) (s : Int) (b : Nat) (hb : b < 65536) (g : Nat) (hg : g < h) : ∃ t, t < m ∧ (gen h m s 65536).1.getD (b * m + t) 0 = (g : Int) := by
  obtain ⟨t, ht, he⟩ := List.getElem_of_mem (blk_all h m hm hm1 hm2 (gen h m s b).2 g hg)
  rw [blk_length] at ht
  refine ⟨t, ht, ?_⟩
  obtain ⟨d, hd⟩ : ∃ d, 65536 = (b + 1) + d := ⟨65536 - (b + 1), by omega⟩
  obtain ⟨r, hr⟩ := gen_prefix h m s (b + 1) d
  rw [hd, ← hr]
  have hl : (gen h m s (b + 1)).1 = (gen h m s b).1 ++ (blk h m (gen h m s b).2).1 := rfl
  rw [hl, List.append_assoc, List.getD_eq_getElem?_getD, List.getElem?_append_right (by rw [gen_length]; omega), gen_length, Nat.add_sub_cancel_left, List.getElem?_append_left (by rw [blk_length]; exact ht), List.getElem?_eq_getElem (by rw [blk_length]; exact ht), he]
  rfl
theorem mixed_fair (h m : Nat) (s : Int) (k : Int) (h1 : 1 ≤ h) (h2 : h ≤ 16) (hm : h ≤ m) (hm2 : m ≤ 1000) (hk : 2 * (m : Int) - 1 ≤ k) (hk2 : k ≤ 9223372036854775807) (n : Nat) (hn : n ≤ 65536) : sched_Fair.f 2000000 ((mixed h m s).take n) h k = some (true, 0) ∧ ((mixed h m s).take n).length = n := by
  have hlen : ((mixed h m s).take n).length = n := by rw [List.length_take, mixed_length _ _ _ (by omega)]; omega
  have ht : (mixed h m s).take n = (gen h m s 65536).1.take n := take_gen h m s 65536 n (Nat.le_refl _) (Nat.le_trans hn (Nat.le_mul_of_pos_right _ (by omega))) hn
  refine ⟨fair_ok _ h k h1 h2 (by omega) (by omega) hk2 (fun x hx => ?_) ?_, hlen⟩
  · rw [ht] at hx
    exact gen_num h m h1 h2 (by omega) hm2 s 65536 x (List.mem_of_mem_take hx)
  · intro i hi hki g hg
    rw [hlen] at hi
    rw [ht]
    obtain ⟨a, ha⟩ : ∃ a : Nat, (i : Int) + 1 - k = a := ⟨((i : Int) + 1 - k).toNat, by omega⟩
    have q1 := Nat.div_add_mod (a + m - 1) m
    have q2 := Nat.mod_lt (a + m - 1) (show m > 0 by omega)
    generalize hb : (a + m - 1) / m = b at q1
    generalize (a + m - 1) % m = r at q1 q2
    have hbm : b ≤ m * b := Nat.le_mul_of_pos_left _ (by omega)
    obtain ⟨t, t1, t2⟩ := gen_has h m hm (by omega) hm2 s b (by omega) g hg
    rw [Nat.mul_comm] at t2
    exact ⟨m * b + t, by omega, by omega, by rw [getD_take _ _ _ (by omega)]; exact t2⟩
end Go.Proofs.Ytfcjfjmjcmanaaa.X
