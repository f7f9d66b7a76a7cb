/- GtinDays and GtinAmounts: the plain part. -/
import Derived.Test.YtofagdjijpjlgaaDoorXy
import Derived.Test.YtofagdjijpjlgaaDoorPDaysx
set_option linter.unusedVariables false
set_option linter.unusedSimpArgs false
namespace Go.Proofs.YtofagdjijpjlgaaDoor.X
open Go.RowKit Go.Proofs.YtofagdjijpjlgaaDoorW.PrintWords Go.Proofs.YtofagdjijpjlgaaDoorW.PrintLast Go.Proofs.YtofagdjijpjlgaaDoor.PBase Go.Proofs.YtofagdjijpjlgaaDoor.PDays

theorem isD_iff (c : Int) : isD c = true ↔ (48 ≤ c ∧ c ≤ 57) := by unfold isD; simp
theorem allFrom_iff (p : Int → Bool) (v : ByteArray) : ∀ (f i : Nat), v.size ≤ i + f → (allFrom p v f i = true ↔ ∀ j : Nat, i ≤ j → j < v.size → p (bt v j) = true)
  | 0, i, h => by simp only [allFrom, true_iff]; intro j h1 h2; omega
  | f + 1, i, h => by
    simp only [allFrom]
    by_cases hi : i < v.size
    · rw [if_pos hi]
      by_cases hp : p (bt v i) = true
      · rw [if_pos hp, allFrom_iff p v f (i + 1) (by omega)]
        constructor
        · intro hh j h1 h2
          rcases Nat.lt_or_ge i j with h3 | h3
          · exact hh j h3 h2
          · obtain rfl : j = i := by omega
            exact hp
        · intro hh j h1 h2; exact hh j (by omega) h2
      · rw [if_neg hp]
        constructor
        · intro hh; cases hh
        · intro hh; exact absurd (hh i (Nat.le_refl _) hi) hp
    · rw [if_neg hi]
      simp only [true_iff]
      intro j h1 h2; omega
theorem rIsDigit (c : Int) : larderref02_isDigit.f c = some (isD c) := by
  unfold larderref02_isDigit.f isD
  by_cases h : c ≥ 48
  · rw [if_pos h]; congr 1; rw [decide_eq_decide]; omega
  · rw [if_neg h]; congr 1; symm; rw [decide_eq_false_iff_not]; omega
theorem digit_mod {c : Int} (h : isD c = true) : (c - 48) % 256 = c - 48 := by have := (isD_iff c).1 h; omega
theorem tw_le {v : ByteArray} {i : Nat} (h0 : isD (bt v i) = true) (h1 : isD (bt v ((i : Int) + 1)) = true) : 0 ≤ tw v i ∧ tw v i ≤ 99 := by
  have a := (isD_iff _).1 h0
  have b := (isD_iff _).1 h1
  unfold tw
  rw [digit_mod h0, digit_mod h1]; omega
theorem bt_sub (s : ByteArray) (n m : Nat) (i : Nat) (h : n + i < m) (hm : m ≤ s.size) : bt (s.extract n m) i = bt s ((n + i : Nat) : Int) := by
  rw [bs_rd, bs_rd, bs_extract, Int.toNat_natCast, Int.toNat_natCast, List.getD_eq_getElem?_getD, List.getD_eq_getElem?_getD, List.getElem?_drop, List.getElem?_take, if_pos h]
theorem rtwo_sub (s : ByteArray) (n m : Nat) (h : n + 2 ≤ m) (hm : m ≤ s.size) : larderref02_two.f (s.extract n m) = some (tw s n) := by
  have h0 := bt_sub s n m 0 (by omega) hm
  have h1 := bt_sub s n m 1 (by omega) hm
  have hz : (s.extract n m).size = m - n := by rw [ByteArray.size_extract]; omega
  unfold larderref02_two.f tw
  rw [if_pos (by omega), if_pos (by omega)]
  simp only [Nat.add_zero, Int.natCast_add] at h0 h1
  rw [show bt (s.extract n m) 0 = bt s n from h0, show bt (s.extract n m) 1 = bt s ((n : Int) + 1) from h1]
  congr 1; omega
set_option maxHeartbeats 4000000 in
theorem risDay (s : ByteArray) (h : s.size = 6) (k : Nat) (hk : 2 ≤ k) : larderref02_isDay.f k s = some (isDayB (tw s 0) (tw s 2) (tw s 4)) := by
  obtain ⟨k, rfl⟩ : ∃ m, k = m + 1 := ⟨k - 1, by omega⟩
  have e2 : larderref02_two.f (s.extract 2 4) = some (tw s 2) := rtwo_sub s 2 4 (by omega) (by omega)
  have e0 : larderref02_two.f (s.extract 0 2) = some (tw s 0) := rtwo_sub s 0 2 (by omega) (by omega)
  have e4 : larderref02_two.f (s.extract 4 s.size) = some (tw s 4) := rtwo_sub s 4 s.size (by omega) (by omega)
  have r0 := tw_range s 0
  unfold larderref02_isDay.f
  rw [if_pos (by omega), if_pos (by omega), e2]
  simp only [Option.bind_some]
  obtain ⟨m, hm⟩ : ∃ m, tw s 2 = m := ⟨_, rfl⟩
  obtain ⟨d, hd⟩ : ∃ m, tw s 4 = m := ⟨_, rfl⟩
  obtain ⟨y, hy⟩ : ∃ m, tw s 0 = m := ⟨_, rfl⟩
  rw [hm] at e2 ⊢
  rw [hd] at e4 ⊢
  rw [hy] at e0 r0 ⊢
  have s0 : (0 : Int) ≤ 2 := by omega
  have s4 : (4 : Int) ≤ s.size := by omega
  have s2 : (2 : Int) ≤ s.size := by omega
  have htrue : ∀ b : Bool, b = true → (m = 4 ∨ m = 6 ∨ m = 9 ∨ m = 11) → larderref02_isDay.j0 (k + 1) s m 31 m b = some (isDayB y m d) := by
    intro b hb hm4
    simp only [larderref02_isDay.j0]
    rw [if_pos hb, if_pos (by omega), if_pos (by omega), if_pos s4, e4]
    simp only [Option.bind_some]
    congr 1
    unfold isDayB monthDays
    rw [if_neg (show ¬ m < 1 by omega), if_neg (show ¬ m > 12 by omega), if_neg (show ¬ m = 2 by omega), if_pos hm4, if_neg (show ¬ (m = 2 ∧ y % 4 = 0) from fun z => by omega)]
    rfl
  by_cases h4 : m = 4
  · rw [if_pos h4]; exact htrue _ (by simp [h4]) (by omega)
  · rw [if_neg h4]
    by_cases h6 : m = 6
    · rw [if_pos h6]; exact htrue _ (by simp [h6]) (by omega)
    · rw [if_neg h6]
      by_cases h9 : m = 9
      · rw [if_pos h9]; exact htrue _ (by simp [h9]) (by omega)
      · rw [if_neg h9]
        by_cases h11 : m = 11
        · exact htrue _ (by simp [h11]) (by omega)
        · have hb : (m == 11) = false := beq_eq_false_iff_ne.2 h11
          rw [hb]
          simp only [larderref02_isDay.j0]
          rw [if_neg (by simp)]
          have et : Int.tmod y 4 = y % 4 := Int.tmod_eq_emod_of_nonneg r0.1
          by_cases h2 : m = 2
          · rw [if_pos h2, if_pos (by decide), if_pos s2, e0]
            simp only [Option.bind_some]
            rw [et]
            by_cases hq : y % 4 = 0
            · rw [if_pos hq, if_pos (show m ≥ 1 by omega), if_pos (show m ≤ 12 by omega), if_pos s4, e4]
              simp only [Option.bind_some]
              congr 1
              unfold isDayB monthDays
              rw [if_neg (show ¬ m < 1 by omega), if_neg (show ¬ m > 12 by omega), if_pos h2, if_pos ⟨h2, hq⟩]; rfl
            · rw [if_neg hq, if_pos (show m ≥ 1 by omega), if_pos (show m ≤ 12 by omega), if_pos s4, e4]
              simp only [Option.bind_some]
              congr 1
              unfold isDayB monthDays
              rw [if_neg (show ¬ m < 1 by omega), if_neg (show ¬ m > 12 by omega), if_pos h2, if_neg (fun z => hq z.2)]; rfl
          · rw [if_neg h2]
            unfold isDayB monthDays
            by_cases c1 : m ≥ 1
            · rw [if_pos c1, if_neg (show ¬ m < 1 by omega)]
              by_cases c2 : m ≤ 12
              · rw [if_pos c2, if_neg (show ¬ m > 12 by omega), if_pos s4, e4]
                simp only [Option.bind_some]
                congr 1
                rw [if_neg h2, if_neg (show ¬ (m = 4 ∨ m = 6 ∨ m = 9 ∨ m = 11) by omega), if_neg (show ¬ (m = 2 ∧ y % 4 = 0) from fun z => h2 z.1)]; rfl
              · rw [if_neg c2, if_pos (show m > 12 by omega)]
            · rw [if_neg c1, if_pos (show m < 1 by omega)]
/-- The reference's search for the year. -/
theorem ryear (a v : ByteArray) (hv : v.size = 6) (Y : Int) (hY : Int.tmod Y 100 = tw v 0) (e : Nat) : ∀ (k : Nat) (y : Int), y + e = Y → 0 ≤ y → Y ≤ 100000 → (∀ j : Int, y ≤ j → j < Y → Int.tmod j 100 ≠ tw v 0) → e < k →
    larderref02_Day.l1 k y a v = some (Y, tw v 2, tw v 4, true) := by
  have e2 : larderref02_two.f (v.extract 2 4) = some (tw v 2) := rtwo_sub v 2 4 (by omega) (by omega)
  have e0 : larderref02_two.f (v.extract 0 2) = some (tw v 0) := rtwo_sub v 0 2 (by omega) (by omega)
  have e4 : larderref02_two.f (v.extract 4 v.size) = some (tw v 4) := rtwo_sub v 4 v.size (by omega) (by omega)
  induction e with
  | zero =>
    intro k y h1 h2 h3 h4 hk
    obtain ⟨k, rfl⟩ : ∃ m, k = m + 1 := ⟨k - 1, by omega⟩
    obtain rfl : y = Y := by omega
    simp only [larderref02_Day.l1]
    rw [if_pos (by omega), if_pos (by omega), e0]
    simp only [Option.bind_some]
    rw [if_pos hY, if_pos (by omega), if_pos (by omega), e2]
    simp only [Option.bind_some]
    rw [e4]
    rfl
  | succ e ih =>
    intro k y h1 h2 h3 h4 hk
    obtain ⟨k, rfl⟩ : ∃ m, k = m + 1 := ⟨k - 1, by omega⟩
    simp only [larderref02_Day.l1]
    rw [if_pos (by omega), if_pos (by omega), e0]
    simp only [Option.bind_some]
    rw [if_neg (h4 y (by omega) (by omega)), wrap_id (by omega) (by omega)]
    exact ih k (y + 1) (by omega) (by omega) h3 (fun j hj1 hj2 => h4 j (by omega) hj2) (by omega)
/-- The reference's look at the six bytes. -/
theorem rsix_ok (a v : ByteArray) (now : Int) (hv : v.size = 6) (hd : ∀ j : Nat, j < v.size → isD (bt v j) = true) (e : Nat) : ∀ (k i : Nat), i + e = 6 → e < k → 
    larderref02_Day.l0 k now i a v = (larderref02_isDay.f (k - e - 1) v).bind fun t => (if t = true then (larderref02_Day.l1 (k - e - 1) (wrap64 (now - 49)) a v) else (some (0, 0, 0, false))) := by
  induction e with
  | zero =>
    intro k i h hk
    obtain ⟨k, rfl⟩ : ∃ m, k = m + 1 := ⟨k - 1, by omega⟩
    simp only [larderref02_Day.l0]
    rw [if_neg (by omega)]
    rfl
  | succ e ih =>
    intro k i h hk
    obtain ⟨k, rfl⟩ : ∃ m, k = m + 1 := ⟨k - 1, by omega⟩
    simp only [larderref02_Day.l0]
    rw [if_pos (by omega), if_pos (by omega), if_pos (by omega), rIsDigit, hd i (by omega)]
    simp only [Option.bind_some, if_true]
    rw [show wrap64 ((i : Int) + 1) = (i + 1 : Nat) from by rw [wrap_id (by omega) (by omega)]; omega, ih k (i + 1) (by omega) (by omega)]
    rw [show k + 1 - (e + 1) - 1 = k - e - 1 from by omega]
theorem rsix_bad (a v : ByteArray) (now : Int) (hv : v.size = 6) (hd : ¬ ∀ j : Nat, j < v.size → isD (bt v j) = true) (e : Nat) : ∀ (k i : Nat), i + e = 6 → e < k → (∀ j : Nat, j < i → isD (bt v j) = true) →
    larderref02_Day.l0 k now i a v = some (0, 0, 0, false) := by
  induction e with
  | zero =>
    intro k i h hk hp
    exact absurd (fun j hj => hp j (by omega)) hd
  | succ e ih =>
    intro k i h hk hp
    obtain ⟨k, rfl⟩ : ∃ m, k = m + 1 := ⟨k - 1, by omega⟩
    simp only [larderref02_Day.l0]
    rw [if_pos (by omega), if_pos (by omega), if_pos (by omega), rIsDigit]
    simp only [Option.bind_some]
    by_cases hb : isD (bt v i) = true
    · rw [if_pos hb, show wrap64 ((i : Int) + 1) = (i + 1 : Nat) from by rw [wrap_id (by omega) (by omega)]; omega]
      exact ih k (i + 1) (by omega) (by omega) (fun j hj => by
        rcases Nat.lt_or_ge j i with h1 | h1
        · exact hp j h1
        · obtain rfl : j = i := by omega
          exact hb)
    · rw [if_neg hb]
theorem day_rows : ∀ r ∈ rws, r.kind = 1 → r.least = 6 ∧ r.most = 6 := by decide +kernel
theorem amount_rows : ∀ r ∈ rws, amountAi r.ai = true → r.kind = 2 := by decide +kernel
theorem gj0 (k : Nat) (now : Int) (a v : ByteArray) : gtin_Day.j0 (k + 1) now true a v = some (0, 0, 0, false) := by simp only [gtin_Day.j0]; rw [if_pos trivial]
theorem rj0 (k : Nat) (now : Int) (a v : ByteArray) : larderref02_Day.j0 (k + 1) now true a v = some (0, 0, 0, false) := by simp only [larderref02_Day.j0]; rw [if_pos trivial]
theorem day_both (a v : ByteArray) (now : Int) (hv : v.size ≤ 140737488351232) (hnow : -9223372036854775808 ≤ now ∧ now ≤ 9223372036854775807) : ∃ r, gtin_Day.f 200 a v now = some r ∧ larderref02_Day.f 200 a v now = some r := by
  unfold gtin_Day.f larderref02_Day.f
  rcases find_spec a with ⟨r, hr, hai, hf⟩ | ⟨hn, hf⟩
  · rw [hf, kind_some r hr a hai.symm 191]
    simp only [Option.bind_some, if_true]
    by_cases hk : r.kind = 1
    · obtain ⟨hl, hm⟩ := day_rows r hr hk
      simp only [hk, eq_self, decide_true, if_true]
      unfold gtin_fits.f
      rw [if_pos hv, hl, hm]
      by_cases h6 : v.size = 6
      · rw [if_neg (by omega), if_neg (by omega), if_neg (by omega), if_pos rfl, if_pos (show (v.size : Int) = 6 by omega)]
        by_cases ha : allFrom isD v v.size 0 = true
        · rw [if_pos ha]
          have hd : ∀ j : Nat, j < v.size → isD (bt v j) = true := fun j hj => (allFrom_iff isD v v.size 0 (by omega)).1 ha j (by omega) hj
          have hday : gtin_isDay.f v = some (isDayB (tw v 0) (tw v 2) (tw v 4)) := by unfold gtin_isDay.f; rw [if_pos (by omega)]
          rw [hday]
          simp only [Option.bind_some]
          obtain ⟨b, hb⟩ : ∃ b, isDayB (tw v 0) (tw v 2) (tw v 4) = b := ⟨_, rfl⟩
          rw [hb]
          have href : ∀ bb, larderref02_Day.j0 200 now bb a v = if bb = true then some (0, 0, 0, false) else larderref02_Day.l0 199 now ((0 : Nat) : Int) a v := fun bb => rfl
          have hl0 := rsix_ok a v now h6 hd 6 199 0 (by omega) (by omega)
          rw [risDay v h6 _ (by omega), hb] at hl0
          simp only [Option.bind_some] at hl0
          cases b
          · rw [if_neg (show ¬ (if false = true then (0 : Int) else 28) = 0 by simp), gj0 199]
            refine ⟨_, rfl, ?_⟩
            rw [if_neg (by simp)] at hl0
            by_cases h1 : now < 100
            · rw [if_pos h1]; exact rj0 199 now a v
            · rw [if_neg h1, href, hl0]; split <;> rfl
          · rw [if_pos rfl, if_pos rfl]
            rw [if_pos rfl] at hl0
            by_cases h1 : now < 100
            · rw [if_pos h1, if_pos h1, gj0 199, rj0 199]; exact ⟨_, rfl, rfl⟩
            · rw [if_neg h1, if_neg h1]
              by_cases h2 : now > 9900
              · rw [decide_eq_true h2, gj0 199, rj0 199]; exact ⟨_, rfl, rfl⟩
              · rw [decide_eq_false h2, href, if_neg (by simp), hl0]
                have t0 := tw_le (i := 0) (hd 0 (by omega)) (hd 1 (by omega))
                have t0' : 0 ≤ tw v 0 ∧ tw v 0 ≤ 99 := t0
                have e0 : gtin_two.f v = some (tw v 0) := two_0 v (by omega)
                have e2 : gtin_two.f (v.extract 2 v.size) = some (tw v 2) := two_cut v 2 (by omega)
                have e4 : gtin_two.f (v.extract 4 v.size) = some (tw v 4) := two_cut v 4 (by omega)
                simp only [gtin_Day.j0]
                rw [if_neg (by simp), e0]
                simp only [Option.bind_some]
                rw [if_pos (by omega), e2]
                simp only [Option.bind_some]
                rw [if_pos (by omega), e4]
                simp only [Option.bind_some]
                have w1 : wrap64 (now - 49) = now - 49 := wrap_id (by omega) (by omega)
                have m1 : Int.tmod (now - 49) 100 = (now - 49) % 100 := Int.tmod_eq_emod_of_nonneg (by omega)
                rw [w1, m1]
                have w2 : wrap64 (tw v 0 - (now - 49) % 100) = tw v 0 - (now - 49) % 100 := wrap_id (by omega) (by omega)
                rw [w2, wrap_id (x := tw v 0 - (now - 49) % 100 + 100) (by omega) (by omega), Int.tmod_eq_emod_of_nonneg (a := tw v 0 - (now - 49) % 100 + 100) (by omega)]
                rw [wrap_id (x := now - 49 + (tw v 0 - (now - 49) % 100 + 100) % 100) (by omega) (by omega)]
                refine ⟨_, rfl, ?_⟩
                obtain ⟨Y, hY⟩ : ∃ Y, now - 49 + (tw v 0 - (now - 49) % 100 + 100) % 100 = Y := ⟨_, rfl⟩
                rw [hY]
                refine ryear a v h6 Y ?_ (Y - (now - 49)).toNat _ (now - 49) (by omega) (by omega) (by omega) ?_ (by omega)
                · rw [Int.tmod_eq_emod_of_nonneg (by omega)]; omega
                · intro j hj1 hj2
                  rw [Int.tmod_eq_emod_of_nonneg (by omega)]
                  omega
        · rw [if_neg ha]
          simp only [Option.bind_some]
          rw [if_neg (by omega), gj0 199]
          refine ⟨_, rfl, ?_⟩
          have hd : ¬ ∀ j : Nat, j < v.size → isD (bt v j) = true := fun hh => ha ((allFrom_iff isD v v.size 0 (by omega)).2 fun j _ hj => hh j hj)
          have href : ∀ bb, larderref02_Day.j0 200 now bb a v = if bb = true then some (0, 0, 0, false) else larderref02_Day.l0 199 now ((0 : Nat) : Int) a v := fun bb => rfl
          have hl0 := rsix_bad a v now h6 hd 6 199 0 (by omega) (by omega) (fun j hj => by omega)
          by_cases h1 : now < 100
          · rw [if_pos h1]; exact rj0 199 now a v
          · rw [if_neg h1, href, hl0]; split <;> rfl
      · rw [if_neg (show ¬ (v.size : Int) = 6 by omega), rj0 199]
        by_cases h7 : (v.size : Int) < 6
        · rw [if_pos h7]
          simp only [Option.bind_some]
          rw [if_neg (by omega), gj0 199]; exact ⟨_, rfl, rfl⟩
        · rw [if_neg h7, if_pos (by omega)]
          simp only [Option.bind_some]
          rw [if_neg (by omega), gj0 199]; exact ⟨_, rfl, rfl⟩
    · rw [if_neg hk, if_neg (by simp [hk]), gj0 199, rj0 199]; exact ⟨_, rfl, rfl⟩
  · rw [hf, kind_none a hn 191]
    simp only [Option.bind_some]
    rw [if_neg (by simp), if_neg (by simp), gj0 199, rj0 199]; exact ⟨_, rfl, rfl⟩
theorem GtinDays_pure (a v : ByteArray) (now : Int) (hv : v.size ≤ 140737488351232) (hnow : -9223372036854775808 ≤ now ∧ now ≤ 9223372036854775807) : larderlaw02_GtinDays.f 200 a v now = some true := by
  obtain ⟨r, h1, h2⟩ := day_both a v now hv hnow
  unfold larderlaw02_GtinDays.f
  rw [h1, h2]
  simp
end Go.Proofs.YtofagdjijpjlgaaDoor.X
