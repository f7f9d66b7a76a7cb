/- GtinZeros: a trade code's normal form is its own, has 14 digits and ends with it; its short form has the same normal form, is no longer, and is its own short form. No condition. -/
import Derived.Test.YtofagdjijpjlgaaXn
import Derived.Test.YtofagdjijpjlgaaPUnitsx2
namespace Go.Proofs.Ytofagdjijpjlgaa.Pure
open Go.RowKit Go.Proofs.Ytofagdjijpjlgaa.PUnits Go.Proofs.Ytofagdjijpjlgaa.PCodes Go.Proofs.Ytofagdjijpjlgaa.PNorm Go.Proofs.YtofagdjijpjlgaaW.PrintWords Go.Proofs.YtofagdjijpjlgaaW.PrintLast Go.Proofs.Ytofagdjijpjlgaa.X

theorem code_small (l : List Int) (t : Int) (ht : 0 ≤ t ∧ t ≤ 3) (hl : ∀ x ∈ l, (Lit.int .u8 x).wf = true) (hz : l.length * 1 ≤ 140737488351232) (k : Nat) (hk : 40 < k) :
    ∃ c, larderlaw02_code.f k l t = some (c, true) ∧ IsCode c ∧ c.size ≤ 14 := by
  obtain ⟨c, hc, hcode, hs⟩ := code_sized l t hl hz k hk
  refine ⟨c, hc, hcode, ?_⟩
  have : larderlaw02_within.f t 4 = some t := by
    unfold larderlaw02_within.f
    rw [show wrap64 (4 + 1) = 5 from by rw [wrap_id (by omega) (by omega)]; rfl, if_neg (by omega), Int.tmod_eq_emod_of_nonneg ht.1, if_neg (by omega)]
    congr 1; omega
  have := hs t this
  omega
theorem GtinZeros : larderlaw02_GtinZeros.Pure := by
  intro l a1 _ hz hl _
  refine ⟨500, ?_⟩
  obtain ⟨t, ht, t0, t3⟩ := within_f a1 3 (by omega) (by omega)
  obtain ⟨c, hc, hcode, h14⟩ := code_small l t ⟨t0, t3⟩ hl hz 500 (by omega)
  obtain ⟨r, hr, _, hr1⟩ := normal_both c
  obtain rfl := hr1 hcode h14
  obtain ⟨n, hn⟩ : ∃ n, zs (14 - c.size) ++ c = n := ⟨_, rfl⟩
  have hnb := norm_bytes c
  have hns := norm_size c h14
  have hnc := norm_code hcode h14
  rw [hn] at hnb hns hnc hr
  have hlen := hcode.len
  obtain ⟨r2, hr2, _, hr3⟩ := normal_both n
  obtain rfl := hr3 hnc (by omega)
  rw [norm_self hns] at hr2
  obtain ⟨s, hs, hs1⟩ := short_both c
  obtain rfl := hs1 hcode h14
  rw [hn] at hs
  obtain ⟨m, hm, hmb, hms, hmx⟩ := shortOf_spec n hns
  obtain ⟨q, hq⟩ : ∃ q, shortOf n = q := ⟨_, rfl⟩
  rw [hq] at hs hmb hms
  have hqc : IsCode q := (code_zeros hmb (by omega) (by omega)).1 hnc
  have hqn : zs (14 - q.size) ++ q = n := by apply bs_inj; rw [norm_bytes, hmb, hms]; congr 2; omega
  have hle : q.size ≤ c.size := by
    rcases hlen with h | h | h | h | h
    · have := hmx 6 (bytesOf c) (by omega) (by rw [hnb, h]); omega
    · have := hmx 2 (bytesOf c) (by omega) (by rw [hnb, h]); omega
    · have := hmx 1 (bytesOf c) (by omega) (by rw [hnb, h]); omega
    · omega
    · omega
  obtain ⟨r4, hr4, _, hr5⟩ := normal_both q
  obtain rfl := hr5 hqc (by omega)
  rw [hqn] at hr4
  obtain ⟨s2, hs2, hs3⟩ := short_both q
  obtain rfl := hs3 hqc (by omega)
  rw [hqn, hq] at hs2
  obtain ⟨z, hz1, _, hz2⟩ := check_both q
  obtain rfl := hz2 hqc
  have e1 : wrap64 (14 - (c.size : Int)) = (14 - c.size : Nat) := by rw [wrap_id (by omega) (by omega)]; omega
  have e2 : (n.extract (14 - c.size) n.size).toList = c.toList := by
    rw [toList_inj, bs_extract, bs_size n, List.take_length, hnb, List.drop_left' (by simp)]
  unfold larderlaw02_GtinZeros.f
  rw [ht]
  simp only [Option.bind_some]
  rw [hc]
  simp only [Option.bind_some, if_true]
  rw [(hr 500 (by omega)).1]
  simp only [Option.bind_some, if_true]
  rw [if_pos (by omega), e1, if_pos (by omega), if_pos (by omega), Int.toNat_natCast, e2, bne_self_eq_false]
  simp only [larderlaw02_GtinZeros.j0]
  rw [if_neg (by simp), (hr2 499 (by omega)).1]
  simp only [Option.bind_some, if_true, bne_self_eq_false]
  simp only [larderlaw02_GtinZeros.j1]
  rw [if_neg (by simp), (hs 498 (by omega)).1]
  simp only [Option.bind_some, if_true]
  rw [decide_eq_false (by omega)]
  simp only [larderlaw02_GtinZeros.j2]
  rw [if_neg (by simp), (hr4 497 (by omega)).1]
  simp only [Option.bind_some]
  rw [(hs2 497 (by omega)).1]
  simp only [Option.bind_some]
  rw [(hz1 497 (by omega)).1]
  simp

end Go.Proofs.Ytofagdjijpjlgaa.Pure
