/- GtinSpan: the plain part. -/
import Derived.Test.YtofagdjijpjlgaaDoorXz
import Derived.Test.YtofagdjijpjlgaaDoorGp
set_option linter.unusedVariables false
set_option linter.unusedSimpArgs false
namespace Go.Proofs.YtofagdjijpjlgaaDoor.X
open Go.RowKit Go.Proofs.YtofagdjijpjlgaaDoorW.PrintWords Go.Proofs.YtofagdjijpjlgaaDoorW.PrintLast Go.Proofs.YtofagdjijpjlgaaDoor.PBase Go.Proofs.YtofagdjijpjlgaaDoor.PDays Go.Proofs.YtofagdjijpjlgaaDoor.PSpan

theorem ai15 : ∀ r ∈ rws, r.ai = [49, 53] → r.kind = 1 := by decide +kernel
theorem ai10 : ∀ r ∈ rws, r.ai = [49, 48] → r.kind ≠ 1 := by decide +kernel
theorem has15 : ∃ r ∈ rws, r.ai = [49, 53] := by decide +kernel
/-- A day's element gives its year, month and day. -/
theorem day_good (k : Nat) (v : ByteArray) (now : Int) (h6 : v.size = 6) (hd : ∀ j : Nat, j < v.size → isD (bt v j) = true) (hb : isDayB (tw v 0) (tw v 2) (tw v 4) = true)
    (h1 : 100 ≤ now) (h2 : now ≤ 9900) : gtin_Day.f (k + 1) (⟨#[49, 53]⟩ : ByteArray) v now = some (now - 49 + (tw v 0 - (now - 49) % 100 + 100) % 100, tw v 2, tw v 4, true) := by
  unfold gtin_Day.f
  rcases find_spec (⟨#[49, 53]⟩ : ByteArray) with ⟨r, hr, hai, hf⟩ | ⟨hn, hf⟩
  · rw [hf]
    simp only [Option.bind_some, if_true]
    have hk : r.kind = 1 := ai15 r hr (by rw [hai, ByteArray.toList_eq])
    obtain ⟨hl, hm⟩ := day_rows r hr hk
    simp only [hk, if_true]
    unfold gtin_fits.f
    rw [if_pos (by omega), hl, hm]
    rw [if_neg (by omega), if_neg (by omega), if_neg (by omega), if_pos rfl]
    have ha : allFrom isD v v.size 0 = true := (allFrom_iff isD v v.size 0 (by omega)).2 fun j _ hj => hd j hj
    rw [if_pos ha]
    have hday : gtin_isDay.f v = some (isDayB (tw v 0) (tw v 2) (tw v 4)) := by unfold gtin_isDay.f; rw [if_pos (by omega)]
    rw [hday]
    simp only [Option.bind_some]
    rw [hb]
    rw [if_pos rfl, if_pos rfl, if_neg (by omega), decide_eq_false (show ¬ now > 9900 by omega)]
    have t0 := tw_le (i := 0) (hd 0 (by omega)) (hd 1 (by omega))
    have t0' : 0 ≤ tw v 0 ∧ tw v 0 ≤ 99 := t0
    have e0 : gtin_two.f v = some (tw v 0) := two_0 v (by omega)
    have e2 : gtin_two.f (v.extract 2 v.size) = some (tw v 2) := two_cut v 2 (by omega)
    have e4 : gtin_two.f (v.extract 4 v.size) = some (tw v 4) := two_cut v 4 (by omega)
    simp only [gtin_Day.j0]
    rw [if_neg (by simp), e0]
    simp only [Option.bind_some]
    rw [if_pos (by omega), e2]
    simp only [Option.bind_some]
    rw [if_pos (by omega), e4]
    simp only [Option.bind_some]
    have w1 : wrap64 (now - 49) = now - 49 := wrap_id (by omega) (by omega)
    have m1 : Int.tmod (now - 49) 100 = (now - 49) % 100 := Int.tmod_eq_emod_of_nonneg (by omega)
    rw [w1, m1]
    have w2 : wrap64 (tw v 0 - (now - 49) % 100) = tw v 0 - (now - 49) % 100 := wrap_id (by omega) (by omega)
    rw [w2, wrap_id (x := tw v 0 - (now - 49) % 100 + 100) (by omega) (by omega), Int.tmod_eq_emod_of_nonneg (a := tw v 0 - (now - 49) % 100 + 100) (by omega)]
    rw [wrap_id (x := now - 49 + (tw v 0 - (now - 49) % 100 + 100) % 100) (by omega) (by omega)]
  · obtain ⟨r, hr, hai⟩ := has15
    exact absurd (hai.trans (by rw [ByteArray.toList_eq])) (hn r hr)
/-- The Ai 10 is no day. -/
theorem day_ten (k : Nat) (v : ByteArray) (now : Int) : gtin_Day.f (k + 1) (⟨#[49, 48]⟩ : ByteArray) v now = some (0, 0, 0, false) := by
  unfold gtin_Day.f
  rcases find_spec (⟨#[49, 48]⟩ : ByteArray) with ⟨r, hr, hai, hf⟩ | ⟨hn, hf⟩
  · rw [hf]
    simp only [Option.bind_some, if_true]
    have hk : r.kind ≠ 1 := ai10 r hr (by rw [hai, ByteArray.toList_eq])
    rw [if_neg hk]; exact gj0 k now _ v
  · rw [hf]; exact gj0 k now (⟨#[49, 48]⟩ : ByteArray) v
theorem within_9800 (n : Int) (hn : -9223372036854775808 ≤ n ∧ n ≤ 9223372036854775807) : ∃ t, larderlaw02_within.f n 9800 = some t ∧ 0 ≤ t ∧ t ≤ 9800 := by
  unfold larderlaw02_within.f
  have w : wrap64 ((9800 : Int) + 1) = 9801 := by rw [wrap_id (by omega) (by omega)]; rfl
  rw [w, if_neg (by omega)]
  have h0 := Int.tmod_def n 9801
  have h1 : -9801 < Int.tmod n 9801 := by have := Int.lt_tmod_of_pos n (show (0:Int) < 9801 by omega); omega
  have h2 : Int.tmod n 9801 < 9801 := Int.tmod_lt_of_pos n (by omega)
  by_cases h : Int.tmod n 9801 < 0
  · rw [if_pos h]
    refine ⟨_, rfl, ?_⟩
    rw [wrap_id (x := Int.tmod n 9801 + 9800) (by omega) (by omega), wrap_id (by omega) (by omega)]; omega
  · rw [if_neg h]; exact ⟨_, rfl, by omega, by omega⟩
theorem with_spec (s : ByteArray) (i : Nat) (c : Int) (hc : 0 ≤ c ∧ c < 256) (hi : i < s.size) (hs : s.size ≤ 100) : ∃ t, larderlaw02_with.f s i c = some t ∧ bytesOf t = (bytesOf s).set i c := by
  unfold larderlaw02_with.f
  rw [if_pos (by omega), if_pos (by omega)]
  simp only [Option.bind_some]
  have e1 : (s.extract 0 ((i : Int)).toNat).size = i := by rw [ByteArray.size_extract]; simp; omega
  have e2 : (strOfNums [c]).size = 1 := by rw [bs_size, bs_nums _ (by simp; omega)]; rfl
  have w : wrap64 ((i : Int) + 1) = ((i + 1 : Nat) : Int) := by rw [wrap_id (by omega) (by omega)]; omega
  have e3 : (s.extract ((i + 1 : Nat) : Int).toNat s.size).size = s.size - (i + 1) := by rw [ByteArray.size_extract]; simp
  rw [if_pos (by omega), w, if_pos (by omega), if_pos (by omega), if_pos (by rw [ByteArray.size_append]; omega)]
  refine ⟨_, rfl, ?_⟩
  rw [bs_append, bs_append, bs_nums _ (by simp; omega), bs_extract, bs_extract]
  simp only [Int.toNat_natCast, List.drop_zero]
  rw [bs_size, List.take_length]
  rw [bs_size] at hi
  rw [List.set_eq_take_append_cons_drop, if_pos hi]
  simp
theorem span_of (t : ByteArray) (a b c d : Int) (h : bytesOf t = [49, 53, a, b, 49, 51, c, d]) (ha : 48 ≤ a ∧ a ≤ 57) (hb : 48 ≤ b ∧ b ≤ 57) (hc : 48 ≤ c ∧ c ≤ 57) (hd : 48 ≤ d ∧ d ≤ 57) : spanT t = true := by
  have hs : t.size = 8 := by rw [bs_size, h]; rfl
  have hL : t.data.toList.map (fun u : UInt8 => (u.toNat : Int)) = [49, 53, a, b, 49, 51, c, d] := h
  unfold spanT
  simp only [Bool.and_eq_true, decide_eq_true_eq, beq_iff_eq, List.all_eq_true, List.mem_range]
  refine ⟨hs, ?_, ?_, ?_⟩
  · have h2 : (t.data.toList.take 2).map (fun u : UInt8 => (u.toNat : Int)) = ([49, 53] : List UInt8).map (fun u : UInt8 => (u.toNat : Int)) := by
      rw [List.map_take, hL]; rfl
    refine (List.map_inj_right (f := fun b : UInt8 => (b.toNat : Int)) ?_).1 h2
    intro x y hxy
    exact UInt8.toNat_inj.1 (by exact_mod_cast hxy)
  · intro i hi
    rw [bs_rd, h, Int.toNat_natCast]
    have : i = 0 ∨ i = 1 ∨ i = 2 ∨ i = 3 ∨ i = 4 ∨ i = 5 := by omega
    rcases this with rfl | rfl | rfl | rfl | rfl | rfl <;> (simp [isD]; try omega)
  · unfold gtin_isDay.f
    have hx : bytesOf (t.extract 2 8) = [a, b, 49, 51, c, d] := by rw [bs_extract, h]; rfl
    have hxs : (t.extract 2 8).size = 6 := by rw [bs_size, hx]; rfl
    rw [if_pos (by omega)]
    have : tw (t.extract 2 8) 2 = 13 := by
      unfold tw
      rw [bs_rd, bs_rd, hx]; rfl
    rw [this]
    unfold isDayB
    rw [if_neg (by omega), if_pos (by omega)]
theorem GtinSpan_pure (a0 a1 a2 a3 : Int) (h0 : 0 ≤ a0 ∧ a0 ≤ 255) (h1 : 0 ≤ a1 ∧ a1 ≤ 255) (h2 : 0 ≤ a2 ∧ a2 ≤ 255) (h3 : -9223372036854775808 ≤ a3 ∧ a3 ≤ 9223372036854775807) :
    larderlaw02_GtinSpan.f 200 a0 a1 a2 a3 = some true := by
  obtain ⟨t, ht, ht0, ht1⟩ := within_9800 a3 h3
  unfold larderlaw02_GtinSpan.f
  rw [ht]
  simp only [Option.bind_some]
  have m0 : Int.tmod a0 100 = a0 % 100 := Int.tmod_eq_emod_of_nonneg (by omega)
  have m0' : Int.tmod a0 10 = a0 % 10 := Int.tmod_eq_emod_of_nonneg (by omega)
  have m1 : Int.tmod a1 12 = a1 % 12 := Int.tmod_eq_emod_of_nonneg (by omega)
  have m2 : Int.tmod a2 29 = a2 % 29 := Int.tmod_eq_emod_of_nonneg (by omega)
  rw [m0, m0', m1, m2]
  have d0 : Int.tdiv (a0 % 100) 10 = a0 % 100 / 10 := Int.tdiv_eq_ediv_of_nonneg (by omega)
  have d2 : Int.tdiv (a2 % 29) 10 = a2 % 29 / 10 := Int.tdiv_eq_ediv_of_nonneg (by omega)
  have d2' : Int.tmod (a2 % 29) 10 = a2 % 29 % 10 := Int.tmod_eq_emod_of_nonneg (by omega)
  rw [d0, d2, d2']
  obtain ⟨p, hp⟩ : ∃ p, p = a0 % 100 := ⟨_, rfl⟩
  obtain ⟨q, hq⟩ : ∃ q, q = (1 + a1 % 12) % 256 := ⟨_, rfl⟩
  obtain ⟨s, hs⟩ : ∃ s, s = a2 % 29 := ⟨_, rfl⟩
  rw [show a0 % 10 = p % 10 from by omega, ← hp, ← hq, ← hs]
  have pp : 0 ≤ p ∧ p ≤ 99 := by omega
  have qq : 1 ≤ q ∧ q ≤ 12 := by omega
  have ss : 0 ≤ s ∧ s ≤ 28 := by omega
  rw [show (48 + p / 10) % 256 = 48 + p / 10 from by omega, show (48 + p % 10) % 256 = 48 + p % 10 from by omega, show (48 + s / 10) % 256 = 48 + s / 10 from by omega, show (48 + s % 10) % 256 = 48 + s % 10 from by omega]
  obtain ⟨v, hv⟩ : ∃ v, v = strOfNums [48 + p / 10, 48 + p % 10, 48 + q / 10, 48 + q % 10, 48 + s / 10, 48 + s % 10] := ⟨_, rfl⟩
  rw [← hv]
  have hvb : bytesOf v = [48 + p / 10, 48 + p % 10, 48 + q / 10, 48 + q % 10, 48 + s / 10, 48 + s % 10] := by
    rw [hv]; exact bs_nums _ (by simp; omega)
  have hv6 : v.size = 6 := by rw [bs_size, hvb]; rfl
  have t0 : tw v 0 = p := by unfold tw; rw [bs_rd, bs_rd, hvb]; simp; omega
  have t2 : tw v 2 = q := by unfold tw; rw [bs_rd, bs_rd, hvb]; simp; omega
  have t4 : tw v 4 = s := by unfold tw; rw [bs_rd, bs_rd, hvb]; simp; omega
  have hdig : ∀ j : Nat, j < v.size → isD (bt v j) = true := by
    intro j hj
    rw [bs_rd, hvb, Int.toNat_natCast]
    have : j = 0 ∨ j = 1 ∨ j = 2 ∨ j = 3 ∨ j = 4 ∨ j = 5 := by omega
    rcases this with rfl | rfl | rfl | rfl | rfl | rfl <;> (simp [isD]; try omega)
  have hday : isDayB (tw v 0) (tw v 2) (tw v 4) = true := by
    rw [t0, t2, t4]
    unfold isDayB monthDays
    rw [if_neg (by omega), if_neg (by omega)]
    simp only [decide_eq_true_eq]
    split <;> split <;> (try split) <;> omega
  have w1 : wrap64 (100 + t) = 100 + t := wrap_id (by omega) (by omega)
  rw [w1]
  rw [day_good 199 v (100 + t) hv6 hdig hday (by omega) (by omega)]
  simp only [Option.bind_some, if_true]
  have w2 : wrap64 (100 + t - 49) = 100 + t - 49 := wrap_id (by omega) (by omega)
  have w3 : wrap64 (100 + t + 50) = 100 + t + 50 := wrap_id (by omega) (by omega)
  have w4 : wrap64 p = p := wrap_id (by omega) (by omega)
  have w5 : wrap64 s = s := wrap_id (by omega) (by omega)
  rw [w2, w3, w4, w5, t0, t2, t4, if_neg (by omega), if_neg (by omega)]
  rw [if_pos (by rw [Int.tmod_eq_emod_of_nonneg (by omega)]; omega), if_pos rfl]
  rw [show (s != s) = false from by simp]
  simp only [larderlaw02_GtinSpan.j0]
  rw [if_neg (by simp), day_ten 198 v (100 + t)]
  obtain ⟨x, hx, hxb⟩ := with_spec v 2 49 (by omega) (by omega) (by omega)
  have hx6 : x.size = 6 := by rw [bs_size, hxb, hvb]; rfl
  obtain ⟨y, hy, hyb⟩ := with_spec x 3 51 (by omega) (by omega) (by omega)
  have hy6 : y.size = 6 := by rw [bs_size, hyb, hxb, hvb]; rfl
  rw [show larderlaw02_with.f v 2 49 = some x from hx]
  simp only [Option.bind_some]
  rw [show larderlaw02_with.f x 3 51 = some y from hy]
  simp only [Option.bind_some]
  rw [if_pos (by omega)]
  unfold gtin_Parse.f
  rw [if_pos (span_of _ (48 + p / 10) (48 + p % 10) (48 + s / 10) (48 + s % 10) (by rw [bs_append, hyb, hxb, hvb]; rfl) (by omega) (by omega) (by omega) (by omega))]
  rfl
end Go.Proofs.YtofagdjijpjlgaaDoor.X
