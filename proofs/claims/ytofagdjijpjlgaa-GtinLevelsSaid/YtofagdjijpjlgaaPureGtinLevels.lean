/- GtinLevels: a pack's unit is the code, if its first digit of fourteen is 0; the unit's pack is the code's; a pack's check digit is its own; two levels make two packs. No condition. -/
import Derived.Test.YtofagdjijpjlgaaXn
import Derived.Test.YtofagdjijpjlgaaPUnitsx3
namespace Go.Proofs.Ytofagdjijpjlgaa.Pure
open Go.RowKit Go.Proofs.Ytofagdjijpjlgaa.PUnits Go.Proofs.Ytofagdjijpjlgaa.PCodes Go.Proofs.Ytofagdjijpjlgaa.PNorm Go.Proofs.YtofagdjijpjlgaaW.PrintWords Go.Proofs.YtofagdjijpjlgaaW.PrintLast Go.Proofs.Ytofagdjijpjlgaa.X

theorem code_small (l : List Int) (t : Int) (ht : 0 ≤ t ∧ t ≤ 3) (hl : ∀ x ∈ l, (Lit.int .u8 x).wf = true) (hz : l.length * 1 ≤ 140737488351232) (k : Nat) (hk : 40 < k) :
    ∃ c, larderlaw02_code.f k l t = some (c, true) ∧ IsCode c ∧ c.size ≤ 14 := by
  obtain ⟨c, hc, hcode, hs⟩ := code_sized l t hl hz k hk
  refine ⟨c, hc, hcode, ?_⟩
  have : larderlaw02_within.f t 4 = some t := by
    unfold larderlaw02_within.f
    rw [show wrap64 (4 + 1) = 5 from by rw [wrap_id (by omega) (by omega)]; rfl, if_neg (by omega), Int.tmod_eq_emod_of_nonneg ht.1, if_neg (by omega)]
    congr 1; omega
  have := hs t this
  omega
/-- Two codes of fourteen digits whose first thirteen are the same are one. -/
theorem same_last {p q : ByteArray} {m : List Int} {d e : Int} (hp : IsCode p) (hq : IsCode q) (hpb : bytesOf p = m ++ [48 + d]) (hqb : bytesOf q = m ++ [48 + e]) (d0 : 0 ≤ d ∧ d < 10) (e0 : 0 ≤ e ∧ e < 10) : p = q := by
  have h1 := hp.sum
  have h2 := hq.sum
  have z1 : p.size = m.length + 1 := by rw [bs_size, hpb]; simp
  have z2 : q.size = m.length + 1 := by rw [bs_size, hqb]; simp
  rw [hpb, z1] at h1
  rw [hqb, z2] at h2
  have := sm_last m (48 + d) (48 + e) m.length (Nat.le_refl _)
  apply bs_inj
  rw [hpb, hqb]
  congr 2; omega
theorem pack_of (s n : ByteArray) (hn : ∀ k, 300 ≤ k → gtin_Normal.f k s = some (n, 0)) (a : Int) (ha : 1 ≤ a ∧ a ≤ 9) (q : ByteArray) (hq : ∀ k, 300 ≤ k → gtin_headed.f k n (48 + a) = some q) (k : Nat) (hk : 300 ≤ k) :
    gtin_Pack.f k s a = some (q, 0) := by
  unfold gtin_Pack.f
  rw [hn k hk]
  simp only [Option.bind_some, if_true]
  have hw : wrap64 (48 + a) % 256 = 48 + a := by rw [wrap_id (by omega) (by omega)]; omega
  rw [if_neg (by omega), if_neg (by omega), hw, hq k hk]
  rfl
theorem unit_of (s n q u : ByteArray) (hn : ∀ k, 300 ≤ k → gtin_Normal.f k s = some (n, 0)) (hq : ∀ k, 300 ≤ k → gtin_headed.f k n 48 = some q) (hu : ∀ k, 300 ≤ k → gtin_Short.f k q = some (u, 0)) (k : Nat) (hk : 300 ≤ k) :
    gtin_Unit.f k s = some (u, 0) := by
  unfold gtin_Unit.f
  rw [hn k hk]
  simp only [Option.bind_some, if_true]
  rw [hq k hk]
  simp only [Option.bind_some]
  rw [hu k hk]
  rfl
theorem GtinLevels : larderlaw02_GtinLevels.Pure := by
  intro l a1 a2 _ hz hl _ _
  refine ⟨500, ?_⟩
  obtain ⟨t, ht, t0, t3⟩ := within_f a1 3 (by omega) (by omega)
  obtain ⟨c, hc, hcode, h14⟩ := code_small l t ⟨t0, t3⟩ hl hz 500 (by omega)
  obtain ⟨v, hv, v0, v8⟩ := within_f a2 8 (by omega) (by omega)
  obtain ⟨r, hr, _, hr1⟩ := normal_both c
  obtain rfl := hr1 hcode h14
  obtain ⟨n, hn⟩ : ∃ n, zs (14 - c.size) ++ c = n := ⟨_, rfl⟩
  have hns := norm_size c h14
  have hnc := norm_code hcode h14
  rw [hn] at hns hnc hr
  have hN : ∀ k, 300 ≤ k → gtin_Normal.f k c = some (n, 0) := fun k hk => (hr k hk).1
  -- a code of fourteen digits is its own normal form
  have self : ∀ x : ByteArray, IsCode x → x.size = 14 → (∀ k, 300 ≤ k → gtin_Normal.f k x = some (x, 0)) ∧ (∀ k, 300 ≤ k → gtin_Short.f k x = some (shortOf x, 0)) := by
    intro x hx hxs
    obtain ⟨r2, hr2, _, hr3⟩ := normal_both x
    obtain rfl := hr3 hx (by omega)
    rw [norm_self hxs] at hr2
    obtain ⟨s, hs, hs1⟩ := short_both x
    obtain rfl := hs1 hx (by omega)
    rw [norm_self hxs] at hs
    exact ⟨fun k hk => (hr2 k hk).1, fun k hk => (hs k hk).1⟩
  obtain ⟨mid, hmid⟩ : ∃ m, ((bytesOf n).take 13).drop 1 = m := ⟨_, rfl⟩
  have hml : mid.length = 12 := by rw [← hmid]; simp [← bs_size, hns]
  obtain ⟨lv, hlv⟩ : ∃ x, 1 + v = x := ⟨_, rfl⟩
  have hw1 : wrap64 (1 + v) = lv := by rw [wrap_id (by omega) (by omega)]; omega
  -- the pack, the unit, the other pack
  obtain ⟨p, hp, dp, hpb, dp0, dp1, hpc, hps⟩ := headed_both n hns hnc.digs (48 + lv) (by unfold dig; omega)
  obtain ⟨q, hq, dq, hqb, dq0, dq1, hqc, hqs⟩ := headed_both n hns hnc.digs 48 (by unfold dig; omega)
  obtain ⟨lo, hlo⟩ : ∃ x, wrap64 (1 + Int.tmod lv 9) = x := ⟨_, rfl⟩
  have hlo9 : 1 ≤ lo ∧ lo ≤ 9 ∧ lo ≠ lv := by
    have e1 : Int.tmod lv 9 = lv % 9 := Int.tmod_eq_emod_of_nonneg (by omega)
    rw [e1, wrap_id (by omega) (by omega)] at hlo
    omega
  obtain ⟨o, ho, do_, hob, do0, do1, hoc, hos⟩ := headed_both n hns hnc.digs (48 + lo) (by unfold dig; omega)
  rw [hmid] at hpb hqb hob
  have pmid : ((bytesOf p).take 13).drop 1 = mid := by rw [hpb]; simp [hml]
  have qmid : ((bytesOf q).take 13).drop 1 = mid := by rw [hqb]; simp [hml]
  -- Unit of the pack
  obtain ⟨q2, hq2, d2, hq2b, d20, d21, hq2c, hq2s⟩ := headed_both p hps hpc.digs 48 (by unfold dig; omega)
  rw [pmid] at hq2b
  obtain rfl : q2 = q := same_last hq2c hqc hq2b hqb ⟨d20, d21⟩ ⟨dq0, dq1⟩
  have hPack : ∀ k, 300 ≤ k → gtin_Pack.f k c lv = some (p, 0) := fun k hk => pack_of c n hN lv (by omega) p (fun k hk => (hp k hk).1) k hk
  have hOther : ∀ k, 300 ≤ k → gtin_Pack.f k c lo = some (o, 0) := fun k hk => pack_of c n hN lo (by omega) o (fun k hk => (ho k hk).1) k hk
  have hUp : ∀ k, 300 ≤ k → gtin_Unit.f k p = some (shortOf q2, 0) := fun k hk => unit_of p p q2 _ (self p hpc hps).1 (fun k hk => (hq2 k hk).1) (self q2 hqc hqs).2 k hk
  have hUc : ∀ k, 300 ≤ k → gtin_Unit.f k c = some (shortOf q2, 0) := fun k hk => unit_of c n q2 _ hN (fun k hk => (hq k hk).1) (self q2 hqc hqs).2 k hk
  -- the short form's normal form
  obtain ⟨m, hm, hmb, hms, _⟩ := shortOf_spec q2 hqs
  obtain ⟨u, hu⟩ : ∃ u, shortOf q2 = u := ⟨_, rfl⟩
  rw [hu] at hUp hUc hmb hms
  have huc : IsCode u := (code_zeros hmb (by omega) (by omega)).1 hqc
  have hun : zs (14 - u.size) ++ u = q2 := by apply bs_inj; rw [norm_bytes, hmb, hms]; congr 2; omega
  obtain ⟨r4, hr4, _, hr5⟩ := normal_both u
  obtain rfl := hr5 huc (by omega)
  rw [hun] at hr4
  obtain ⟨p2, hp2, dp2, hp2b, dp20, dp21, hp2c, hp2s⟩ := headed_both q2 hqs hqc.digs (48 + lv) (by unfold dig; omega)
  rw [qmid] at hp2b
  obtain rfl : p2 = p := same_last hp2c hpc hp2b hpb ⟨dp20, dp21⟩ ⟨dp0, dp1⟩
  have hPu : ∀ k, 300 ≤ k → gtin_Pack.f k u lv = some (p2, 0) := fun k hk => pack_of u q2 (fun k hk => (hr4 k hk).1) lv (by omega) p2 (fun k hk => (hp2 k hk).1) k hk
  -- Short of the code
  obtain ⟨s, hs, hs1⟩ := short_both c
  obtain rfl := hs1 hcode h14
  rw [hn] at hs
  obtain ⟨z, hz1, _, hz2⟩ := check_both p2
  obtain rfl := hz2 hpc
  have hbt : bt p2 0 = 48 + lv := by rw [bs_rd, hpb]; rfl
  have e1 : (n.extract 1 13).toList = (p2.extract 1 13).toList := by
    rw [toList_inj, bs_extract, bs_extract, hmid, pmid]
  have e0 : wrap64 (48 + lv) % 256 = 48 + lv := by rw [wrap_id (by omega) (by omega)]; omega
  have ene : ¬ o.toList = p2.toList := by
    rw [toList_inj, hob, hpb]
    intro h
    have h2 := congrArg (fun l => l.getD 0 0) h
    simp at h2
    omega
  unfold larderlaw02_GtinLevels.f
  rw [ht]
  simp only [Option.bind_some]
  rw [hc]
  simp only [Option.bind_some, if_true]
  rw [hv]
  simp only [Option.bind_some]
  rw [hw1, hPack 500 (by omega)]
  simp only [Option.bind_some]
  rw [(hz1 500 (by omega)).1]
  simp only [Option.bind_some, if_true]
  rw [if_pos (by omega), if_pos (by omega), hbt, e0, bne_self_eq_false]
  simp only [larderlaw02_GtinLevels.j0]
  rw [if_neg (by simp), hN 499 (by omega)]
  simp only [Option.bind_some, if_true]
  rw [if_pos (by omega), if_pos (by omega), if_pos (by omega), if_pos (by omega), e1, bne_self_eq_false]
  simp only [larderlaw02_GtinLevels.j1]
  rw [if_neg (by simp), hUp 498 (by omega)]
  simp only [Option.bind_some]
  rw [(hs 498 (by omega)).1]
  simp only [Option.bind_some, if_true]
  rw [if_pos (by omega)]
  have last : larderlaw02_GtinLevels.j2 498 lv c p2 u false = some true := by
    simp only [larderlaw02_GtinLevels.j2]
    rw [if_neg (by simp), hPu 497 (by omega)]
    simp only [Option.bind_some]
    rw [hUc 497 (by omega)]
    simp only [Option.bind_some, if_true]
    rw [hlo, hOther 497 (by omega)]
    simp only [Option.bind_some, if_true]
    simp only [Option.some.injEq, bne_iff_ne, ne_eq]
    exact ene
  by_cases h0 : bt n 0 = 48
  · rw [if_pos h0]
    have hnq : n = q2 := by
      have hl : (bytesOf n).length = 14 := by rw [← bs_size, hns]
      have hlastd := hnc.digs ((bytesOf n).getD 13 0) (by rw [List.getD_eq_getElem?_getD, List.getElem?_eq_getElem (by omega)]; exact List.getElem_mem _)
      unfold dig at hlastd
      refine same_last (m := [48] ++ mid) (d := (bytesOf n).getD 13 0 - 48) hnc hqc ?_ hqb (by omega) ⟨dq0, dq1⟩
      rw [← hmid]
      apply List.ext_getElem?
      intro j
      rw [bs_rd] at h0
      rcases Nat.lt_or_ge j 1 with hj | hj
      · obtain rfl : j = 0 := by omega
        have : (bytesOf n)[0]? = some ((bytesOf n).getD 0 0) := by rw [List.getD_eq_getElem?_getD, List.getElem?_eq_getElem (by omega)]; rfl
        rw [this]
        simp at h0
        simp [h0]
      · rcases Nat.lt_or_ge j 13 with hj2 | hj2
        · rw [List.getElem?_append_left (by simp [hl]; omega), List.getElem?_append_right (by simp; omega)]
          simp only [List.length_singleton, List.getElem?_drop, List.getElem?_take]
          rw [if_pos (by omega)]
          congr 1; omega
        · rcases Nat.lt_or_ge j 14 with hj3 | hj3
          · obtain rfl : j = 13 := by omega
            rw [List.getElem?_append_right (by simp [hl])]
            simp [hl]
            omega
          · rw [List.getElem?_eq_none (by omega), List.getElem?_eq_none (by simp [hl]; omega)]
    rw [hnq, hu, bne_self_eq_false]
    exact last
  · rw [if_neg h0]
    exact last

end Go.Proofs.Ytofagdjijpjlgaa.Pure
