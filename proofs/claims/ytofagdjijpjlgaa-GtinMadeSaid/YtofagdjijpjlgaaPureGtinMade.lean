/- GtinMade: a body with its check digit is a code, and with none of the nine other digits. No condition. -/
import Derived.Test.YtofagdjijpjlgaaXm
namespace Go.Proofs.Ytofagdjijpjlgaa.Pure
open Go.RowKit Go.Proofs.Ytofagdjijpjlgaa.PCodes Go.Proofs.YtofagdjijpjlgaaW.PrintWords Go.Proofs.YtofagdjijpjlgaaW.PrintLast Go.Proofs.Ytofagdjijpjlgaa.X

theorem made_loop (c : ByteArray) (hc : IsCode c) (e : Nat) : ∀ (k i : Nat), 48 ≤ i → i ≤ 58 → 58 - i = e → e + 50 < k → larderlaw02_GtinMade.l0 k c i = some true := by
  obtain ⟨hn, hd, hm⟩ := hc
  induction e with
  | zero =>
    intro k i h1 h2 h3 hk
    obtain ⟨k, rfl⟩ : ∃ m, k = m + 1 := ⟨k - 1, by omega⟩
    simp only [larderlaw02_GtinMade.l0]
    rw [if_neg (by omega)]
  | succ e ih =>
    intro k i h1 h2 h3 hk
    obtain ⟨k, rfl⟩ : ∃ m, k = m + 1 := ⟨k - 1, by omega⟩
    simp only [larderlaw02_GtinMade.l0]
    rw [if_pos (by omega)]
    have e1 : wrap64 ((c.size : Int) - 1) = (c.size - 1 : Nat) := by rw [wrap_id (by omega) (by omega)]; omega
    have e2 : ((i : Int) + 1) % 256 = (i + 1 : Nat) := by omega
    have hr := ih k (i + 1) (by omega) (by omega) (by omega) (by omega)
    rw [e1, e2]
    obtain ⟨t, ht, hbt, hts⟩ := with_f c (c.size - 1) i (by omega) (by omega) (by omega)
    rw [ht]
    simp only [Option.bind_some]
    have hdt : Digs (bytesOf t) := by
      rw [hbt]
      intro z hz
      rcases List.mem_or_eq_of_mem_set hz with h | rfl
      · exact hd z h
      · unfold dig; omega
    rw [gCheck t (by omega) hdt k (by omega)]
    simp only [Option.bind_some]
    have hg := digs_bt.2 hd (c.size - 1) (by omega)
    unfold dig at hg
    obtain ⟨y, hy⟩ : ∃ y, bt c ((c.size - 1 : Nat) : Int) = y := ⟨_, rfl⟩
    rw [hy] at hg
    have hyd : (bytesOf c).getD (c.size - 1) 0 = y := by rw [← hy, bs_rd, Int.toNat_natCast]
    have hs := sm_set (bytesOf c) (c.size - 1) i (by rw [← bs_size]; omega) c.size (by rw [bs_size]; omega)
    rw [hyd, ← bs_size, if_pos (by omega), show c.size - 1 - (c.size - 1) = 0 from by omega] at hs
    have hw : wt 0 = 1 := rfl
    rw [hw] at hs
    have hst : sm (bytesOf t) t.size = sm (bytesOf c) c.size + 1 * (((i : Int) - 48) % 256 - (y - 48) % 256) := by rw [hts, hbt, hs]
    rw [hst]
    have e5 : (y - 48) % 256 = y - 48 := by omega
    have e6 : ((i : Int) - 48) % 256 = i - 48 := by omega
    rw [e5, e6]
    by_cases hyi : y = i
    · have hee : bytesOf t = bytesOf c := by
        rw [hbt]
        apply List.ext_getElem?
        intro j
        by_cases hj : c.size - 1 = j
        · subst hj
          rw [List.getElem?_set_self (by rw [← bs_size]; omega)]
          rw [← hyi, ← hyd, List.getD_eq_getElem?_getD, List.getElem?_eq_getElem (by rw [← bs_size]; omega)]; rfl
        · rw [List.getElem?_set_ne hj]
      have hin : (sm (bytesOf c) c.size + 1 * ((i : Int) - 48 - (y - 48))) % 10 = 0 := by omega
      rw [if_pos ((toList_inj _ _).2 hee), if_pos hin]
      simp only [if_true]
      exact hr
    · have hne : ¬ t.toList = c.toList := by
        rw [toList_inj]
        intro hee
        rw [hbt] at hee
        apply hyi
        rw [← hyd, ← hee, List.getD_eq_getElem?_getD, List.getElem?_set_self (by rw [← bs_size]; omega)]; rfl
      have hin : ¬ (sm (bytesOf c) c.size + 1 * ((i : Int) - 48 - (y - 48))) % 10 = 0 := by omega
      rw [if_neg hne, if_neg hin]
      simp only [if_true]
      rw [if_pos (by omega)]
      exact hr
theorem GtinMade : larderlaw02_GtinMade.Pure := by
  intro l a1 _ hz hl _
  refine ⟨100, ?_⟩
  obtain ⟨c, hc, hcode⟩ := code_f l a1 hl hz 100 (by omega)
  unfold larderlaw02_GtinMade.f
  rw [hc]
  simp only [Option.bind_some]
  rw [if_pos trivial]
  exact made_loop c hcode 10 100 48 (by omega) (by omega) (by omega) (by omega)

end Go.Proofs.Ytofagdjijpjlgaa.Pure
