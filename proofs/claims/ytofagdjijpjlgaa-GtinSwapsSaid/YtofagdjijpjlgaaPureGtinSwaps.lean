/- GtinSwaps: a code in which two neighbouring digits change their places is a code just if they are the same or differ by 5. No condition. -/
import Derived.Test.YtofagdjijpjlgaaXm
namespace Go.Proofs.Ytofagdjijpjlgaa.Pure
open Go.RowKit Go.Proofs.Ytofagdjijpjlgaa.PCodes Go.Proofs.YtofagdjijpjlgaaW.PrintWords Go.Proofs.YtofagdjijpjlgaaW.PrintLast Go.Proofs.Ytofagdjijpjlgaa.X

theorem GtinSwaps : larderlaw02_GtinSwaps.Pure := by
  intro l a1 a2 _ hz hl _ _
  refine ⟨100, ?_⟩
  obtain ⟨c, hc, hn, hd, hm⟩ := code_f l a1 hl hz 100 (by omega)
  unfold larderlaw02_GtinSwaps.f
  rw [hc]
  simp only [Option.bind_some]
  have e1 : wrap64 ((c.size : Int) - 2) = c.size - 2 := wrap_id (by omega) (by omega)
  rw [if_pos trivial, e1]
  obtain ⟨p, hp, p0, p1⟩ := within_f a2 ((c.size : Int) - 2) (by omega) (by omega)
  rw [hp]
  simp only [Option.bind_some]
  obtain ⟨p, rfl⟩ := Int.eq_ofNat_of_zero_le p0
  have e2 : wrap64 ((p : Int) + 1) = (p + 1 : Nat) := by rw [wrap_id (by omega) (by omega)]; omega
  rw [e2, if_pos (by omega), if_pos (by omega)]
  have hg1 := digs_bt.2 hd p (by omega)
  have hg2 := digs_bt.2 hd (p + 1) (by omega)
  unfold dig at hg1 hg2
  obtain ⟨y, hy⟩ : ∃ y, bt c (p : Int) = y := ⟨_, rfl⟩
  obtain ⟨z, hz'⟩ : ∃ z, bt c ((p + 1 : Nat) : Int) = z := ⟨_, rfl⟩
  rw [hy] at hg1 ⊢
  rw [hz'] at hg2 ⊢
  obtain ⟨t, ht, hbt, hts⟩ := with_f c p z (by omega) (by omega) (by omega)
  rw [ht]
  simp only [Option.bind_some]
  rw [if_pos (by omega), if_pos (by omega)]
  obtain ⟨u, hu, hbu, hus⟩ := with_f t (p + 1) y (by omega) (by omega) (by omega)
  rw [hu]
  simp only [Option.bind_some]
  have hdu : Digs (bytesOf u) := by
    rw [hbu, hbt]
    intro x hx
    rcases List.mem_or_eq_of_mem_set hx with h | rfl
    · rcases List.mem_or_eq_of_mem_set h with h | rfl
      · exact hd x h
      · unfold dig; omega
    · unfold dig; omega
  rw [gCheck u (by omega) hdu 100 (by omega)]
  have hlen := bs_size c
  have hs1 := sm_set (bytesOf c) p z (by omega) c.size (by omega)
  have hs2 := sm_set (bytesOf t) (p + 1) y (by rw [← bs_size]; omega) t.size (by rw [bs_size]; omega)
  have hyd : (bytesOf c).getD p 0 = y := by rw [← hy, bs_rd, Int.toNat_natCast]
  have hzd : (bytesOf t).getD (p + 1) 0 = z := by
    rw [hbt, List.getD_eq_getElem?_getD, List.getElem?_set_ne (by omega), ← List.getD_eq_getElem?_getD, ← hz', bs_rd, Int.toNat_natCast]
  have hlt : (bytesOf t).length = c.size := by rw [← bs_size, hts]
  rw [hyd, if_pos (by omega)] at hs1
  rw [hzd, if_pos (by omega), hlt, hts, hbt, hs1] at hs2
  rw [← hlen] at hs2
  have hw : (wt (c.size - 1 - p) = 1 ∧ wt (c.size - 1 - (p + 1)) = 3) ∨ (wt (c.size - 1 - p) = 3 ∧ wt (c.size - 1 - (p + 1)) = 1) := by
    unfold wt
    by_cases h : (c.size - 1 - p) % 2 = 1
    · rw [if_pos h, if_neg (by omega)]; simp
    · rw [if_neg h, if_pos (by omega)]; simp
  have hsu : sm (bytesOf u) u.size % 10 = 0 ↔ (y - z = 0 ∨ y - z = 5 ∨ y - z = -5) := by
    rw [hus, hts, hbu, hbt, hs2]
    have e1 : (y - 48) % 256 = y - 48 := by omega
    have e2 : (z - 48) % 256 = z - 48 := by omega
    rw [e1, e2]
    rcases hw with ⟨hw1, hw2⟩ | ⟨hw1, hw2⟩ <;> rw [hw1, hw2] <;> omega
  simp only [hsu, Option.bind_some]
  have w1 : wrap64 y = y := wrap_id (by omega) (by omega)
  have w2 : wrap64 z = z := wrap_id (by omega) (by omega)
  have w3 : wrap64 (y - z) = y - z := wrap_id (by omega) (by omega)
  rw [w1, w2, w3]
  by_cases h0 : y - z = 0
  · rw [if_pos h0, if_pos (by omega)]; simp
  · rw [if_neg h0]
    by_cases h5 : y - z = 5
    · rw [if_pos h5, if_pos (by omega)]; simp
    · rw [if_neg h5]
      by_cases h6 : y - z = -5
      · rw [if_pos h6, if_pos (by omega)]; simp
      · rw [if_neg h6, if_neg (by omega)]; simp

end Go.Proofs.Ytofagdjijpjlgaa.Pure
