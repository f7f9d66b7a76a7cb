/- GtinOne: a code in which one digit is replaced by another is no code: Check tells it at the last digit. No condition. -/
import Derived.Test.YtofagdjijpjlgaaXm
namespace Go.Proofs.Ytofagdjijpjlgaa.Pure
open Go.RowKit Go.Proofs.Ytofagdjijpjlgaa.PCodes Go.Proofs.YtofagdjijpjlgaaW.PrintWords Go.Proofs.YtofagdjijpjlgaaW.PrintLast Go.Proofs.Ytofagdjijpjlgaa.X

theorem GtinOne : larderlaw02_GtinOne.Pure := by
  intro l a1 a2 a3 _ hz hl _ _ _
  refine ⟨100, ?_⟩
  obtain ⟨c, hc, hn, hd, hm⟩ := code_f l a1 hl hz 100 (by omega)
  unfold larderlaw02_GtinOne.f
  rw [hc]
  simp only [Option.bind_some]
  have e1 : wrap64 ((c.size : Int) - 1) = c.size - 1 := wrap_id (by omega) (by omega)
  rw [if_pos trivial, e1]
  obtain ⟨p, hp, p0, p1⟩ := within_f a2 ((c.size : Int) - 1) (by omega) (by omega)
  rw [hp]
  simp only [Option.bind_some]
  rw [if_pos p0, if_pos (by omega)]
  obtain ⟨b, hb, b0, b1⟩ := within_f a3 8 (by omega) (by omega)
  rw [hb]
  simp only [Option.bind_some]
  obtain ⟨p, rfl⟩ := Int.eq_ofNat_of_zero_le p0
  have hg := digs_bt.2 hd p (by omega)
  unfold dig at hg
  obtain ⟨y, hy⟩ : ∃ y, bt c (p : Int) = y := ⟨_, rfl⟩
  rw [hy] at hg ⊢
  obtain ⟨x, hx⟩ : ∃ x, 48 + (((((y - 48) % 256 + 1) % 256 + b % 256) % 256) % 10) = x := ⟨_, rfl⟩
  have hx48 : 48 ≤ x ∧ x ≤ 57 := by omega
  have hxm : (x - y - 1 - b) % 10 = 0 := by
    have e1 : (y - 48) % 256 = y - 48 := by omega
    rw [e1] at hx
    have e2 : (y - 48 + 1) % 256 = y - 47 := by omega
    rw [e2] at hx
    have e3 : (y - 47 + b % 256) % 256 = y - 47 + b := by omega
    rw [e3] at hx
    omega
  rw [hx]
  clear hx
  obtain ⟨t, ht, hbt, hts⟩ := with_f c p x (by omega) (by omega) (by omega)
  rw [ht]
  simp only [Option.bind_some]
  have hdt : Digs (bytesOf t) := by
    rw [hbt]
    intro z hz
    rcases List.mem_or_eq_of_mem_set hz with h | rfl
    · exact hd z h
    · unfold dig; omega
  rw [gCheck t (by omega) hdt 100 (by omega)]
  have hs := sm_set (bytesOf c) p x (by rw [← bs_size]; omega) c.size (by rw [bs_size]; omega)
  have hyd : (bytesOf c).getD p 0 = y := by rw [← hy, bs_rd, Int.toNat_natCast]
  rw [hyd, if_pos (by rw [← bs_size]; omega)] at hs
  have hw := wt_or ((bytesOf c).length - 1 - p)
  have hne : ¬ sm (bytesOf t) t.size % 10 = 0 := by
    rw [hts, hbt, hs]
    have e1 : (y - 48) % 256 = y - 48 := by omega
    have e2 : (x - 48) % 256 = x - 48 := by omega
    rw [e1, e2]
    rcases hw with hw | hw <;> rw [hw] <;> omega
  rw [if_neg hne]
  simp [hts]

end Go.Proofs.Ytofagdjijpjlgaa.Pure
