/- Plain: ParseShown, the program's against the reference's; the law GtinShown. -/
import Derived.Test.YtofagdjijpjlgaaDoorSdq
set_option linter.unusedVariables false
set_option linter.unusedSimpArgs false
namespace Go.Proofs.YtofagdjijpjlgaaDoor.X
open Go.RowKit Go.Proofs.YtofagdjijpjlgaaDoorW.PrintWords Go.Proofs.YtofagdjijpjlgaaDoorW.PrintLast Go.Proofs.YtofagdjijpjlgaaDoor.PBase Go.Proofs.YtofagdjijpjlgaaDoor.PDays Go.Proofs.YtofagdjijpjlgaaDoor.PElem Go.Proofs.YtofagdjijpjlgaaDoor.PShown

theorem ext1 (t : ByteArray) (p : Nat) (hp : p < t.size) : t.extract p (p + 1) = ⟨#[ub t p]⟩ := by
  have h' : p < t.data.toList.length := by rw [Array.length_toList]; exact hp
  apply ByteArray.ext
  apply Array.toList_inj.1
  rw [ByteArray.data_extract, Array.toList_extract, List.extract_eq_take_drop, List.drop_eq_getElem_cons h']
  unfold ub
  rw [List.getD_eq_getElem?_getD, List.getElem?_eq_getElem h', show p + 1 - p = 1 by omega]
  rfl
theorem app1 (acc : List UInt8) (x : UInt8) : (⟨acc.toArray⟩ : ByteArray) ++ ⟨#[x]⟩ = ⟨(acc ++ [x]).toArray⟩ := ba_app acc ⟨#[x]⟩
theorem szE (t : ByteArray) (p : Nat) (acc : List UInt8) (hp : p < t.size) (ha : acc.length ≤ 2048) : (⟨acc.toArray⟩ : ByteArray).size + (t.extract p (p + 1)).size ≤ 9223372036854775807 := by
  have s0 : (⟨acc.toArray⟩ : ByteArray).size = acc.length := by simp [ByteArray.size]
  rw [s0, ByteArray.size_extract]
  omega
theorem rj6_plain (t : ByteArray) (l : List S23) (p k : Nat) (c : Int) (ai : ByteArray) (acc : List UInt8) (hs : t.size ≤ 2048) (hp : p < t.size) (ha : acc.length ≤ 2048) (n0 : c ≠ 40) (n1 : c ≠ 41) :
    larderref02_ParseShown.j6 (k + 1) t l (p : Int) c false ai ⟨acc.toArray⟩ = larderref02_ParseShown.l2 k t l ((p + 1 : Nat) : Int) ai ⟨(acc ++ [ub t p]).toArray⟩ := by
  have hz := szE t p acc hp ha
  simp only [larderref02_ParseShown.j6]
  rw [if_neg Bool.false_ne_true, wsucc p (by omega), if_pos (by omega), if_pos (by omega), if_pos (by omega), Int.toNat_natCast, Int.toNat_natCast, if_pos hz, if_neg n0, if_neg n1, ext1 t p hp, app1]
theorem rj6_two (t : ByteArray) (l : List S23) (p k : Nat) (c : Int) (ai : ByteArray) (acc : List UInt8) (hs : t.size ≤ 2048) (hp : p < t.size) (ha : acc.length ≤ 2048) (hc : c = 40 ∨ c = 41) :
    larderref02_ParseShown.j6 (k + 1) t l (p : Int) c false ai ⟨acc.toArray⟩ = larderref02_ParseShown.l2 k t l ((p + 2 : Nat) : Int) ai ⟨(acc ++ [ub t p]).toArray⟩ := by
  have hz := szE t p acc hp ha
  simp only [larderref02_ParseShown.j6]
  rw [if_neg Bool.false_ne_true, wsucc p (by omega), wsucc (p + 1) (by omega), if_pos (by omega), if_pos (by omega), if_pos (by omega), Int.toNat_natCast, Int.toNat_natCast, if_pos hz, ext1 t p hp, app1]
  rcases hc with rfl | rfl
  · rw [if_pos rfl]
  · rw [if_neg (by omega), if_pos rfl]
theorem sj4_a (t : ByteArray) (l : List S23) (p c : Int) (k : Nat) (d : Bool) (ai v : ByteArray) (h : c = 40) : larderref02_ParseShown.j4 (k + 1) t l p c d ai v = larderref02_ParseShown.j5 k t l p c d (!d) ai v := by
  simp only [larderref02_ParseShown.j4]
  rw [if_pos h]
theorem sj4_b (t : ByteArray) (l : List S23) (p c : Int) (k : Nat) (d : Bool) (ai v : ByteArray) (h : c ≠ 40) : larderref02_ParseShown.j4 (k + 1) t l p c d ai v = larderref02_ParseShown.j5 k t l p c d false ai v := by
  simp only [larderref02_ParseShown.j4]
  rw [if_neg h]
theorem sj5_a (t : ByteArray) (l : List S23) (p c : Int) (k : Nat) (d x : Bool) (ai v : ByteArray) (h : x = true) (hl : l.length < 4398046511104) : larderref02_ParseShown.j5 (k + 1) t l p c d x ai v = larderref02_ParseShown.l0 k t (l ++ [⟨ai, v⟩]) p := by
  simp only [larderref02_ParseShown.j5]
  rw [if_pos h, if_pos hl]
theorem sj5_b (t : ByteArray) (l : List S23) (p c : Int) (k : Nat) (d x : Bool) (ai v : ByteArray) (h : ¬ x = true) (hc : c = 41) : larderref02_ParseShown.j5 (k + 1) t l p c d x ai v = larderref02_ParseShown.j6 k t l p c (!d) ai v := by
  simp only [larderref02_ParseShown.j5]
  rw [if_neg h, if_pos hc]
theorem sj5_c (t : ByteArray) (l : List S23) (p c : Int) (k : Nat) (d x : Bool) (ai v : ByteArray) (h : ¬ x = true) (hc : c ≠ 41) : larderref02_ParseShown.j5 (k + 1) t l p c d x ai v = larderref02_ParseShown.j6 k t l p c false ai v := by
  simp only [larderref02_ParseShown.j5]
  rw [if_neg h, if_neg hc]
theorem sj6_a (t : ByteArray) (l : List S23) (p c : Int) (k : Nat) (x : Bool) (ai v : ByteArray) (h : x = true) : larderref02_ParseShown.j6 (k + 1) t l p c x ai v = some ([], 29, p) := by
  simp only [larderref02_ParseShown.j6]
  rw [if_pos h]
theorem rj4_plain (t : ByteArray) (l : List S23) (p k : Nat) (c : Int) (d : Bool) (ai : ByteArray) (acc : List UInt8) (hs : t.size ≤ 2048) (hp : p < t.size) (ha : acc.length ≤ 2048) (n0 : c ≠ 40) (n1 : c ≠ 41) :
    larderref02_ParseShown.j4 (k + 3) t l (p : Int) c d ai ⟨acc.toArray⟩ = larderref02_ParseShown.l2 k t l ((p + 1 : Nat) : Int) ai ⟨(acc ++ [ub t p]).toArray⟩ := by
  rw [sj4_b t l _ c (k + 2) d ai _ n0, sj5_c t l _ c (k + 1) d false ai _ Bool.false_ne_true n1]
  exact rj6_plain t l p k c ai acc hs hp ha n0 n1
theorem rj4_two (t : ByteArray) (l : List S23) (p k : Nat) (c : Int) (ai : ByteArray) (acc : List UInt8) (hs : t.size ≤ 2048) (hp : p < t.size) (ha : acc.length ≤ 2048) (hc : c = 40 ∨ c = 41) :
    larderref02_ParseShown.j4 (k + 3) t l (p : Int) c true ai ⟨acc.toArray⟩ = larderref02_ParseShown.l2 k t l ((p + 2 : Nat) : Int) ai ⟨(acc ++ [ub t p]).toArray⟩ := by
  have h6 := rj6_two t l p k c ai acc hs hp ha hc
  rcases hc with h | h
  · rw [sj4_a t l _ c (k + 2) true ai _ h, sj5_c t l _ c (k + 1) true (!true) ai _ (by simp) (by omega)]
    exact h6
  · rw [sj4_b t l _ c (k + 2) true ai _ (by omega), sj5_b t l _ c (k + 1) true false ai _ Bool.false_ne_true h]
    exact h6
theorem rj4_open (t : ByteArray) (l : List S23) (p c : Int) (k : Nat) (ai v : ByteArray) (h : c = 40) (hl : l.length < 4398046511104) :
    larderref02_ParseShown.j4 (k + 2) t l p c false ai v = larderref02_ParseShown.l0 k t (l ++ [⟨ai, v⟩]) p := by
  rw [sj4_a t l _ c (k + 1) false ai _ h, sj5_a t l _ c k false (!false) ai _ rfl hl]
theorem rj4_shut (t : ByteArray) (l : List S23) (p c : Int) (k : Nat) (ai v : ByteArray) (h : c = 41) :
    larderref02_ParseShown.j4 (k + 3) t l p c false ai v = some ([], 29, p) := by
  rw [sj4_b t l _ c (k + 2) false ai _ (by omega), sj5_b t l _ c (k + 1) false false ai _ Bool.false_ne_true h, sj6_a t l p c k (!false) ai v rfl]
theorem rl2_end (t : ByteArray) (l : List S23) (p k : Nat) (ai v : ByteArray) (h : ¬ p < t.size) (hl : l.length < 4398046511104) :
    larderref02_ParseShown.l2 (k + 1) t l (p : Int) ai v = larderref02_ParseShown.l0 k t (l ++ [⟨ai, v⟩]) (p : Int) := by
  simp only [larderref02_ParseShown.l2]
  rw [if_neg (by omega), if_pos hl]
theorem rl2_last (t : ByteArray) (l : List S23) (p k : Nat) (ai v : ByteArray) (hs : t.size ≤ 2048) (h : p < t.size) (h1 : p + 1 = t.size) :
    larderref02_ParseShown.l2 (k + 1) t l (p : Int) ai v = larderref02_ParseShown.j4 k t l (p : Int) (bt t (p : Int)) false ai v := by
  simp only [larderref02_ParseShown.l2]
  rw [if_pos (by omega), if_pos (by omega), wsucc p (by omega), if_neg (by omega)]
theorem rl2_more (t : ByteArray) (l : List S23) (p k : Nat) (ai v : ByteArray) (hs : t.size ≤ 2048) (h1 : p + 1 < t.size) :
    larderref02_ParseShown.l2 (k + 1) t l (p : Int) ai v = larderref02_ParseShown.j4 k t l (p : Int) (bt t (p : Int)) (bt t ((p + 1 : Nat) : Int) == bt t (p : Int)) ai v := by
  simp only [larderref02_ParseShown.l2]
  rw [if_pos (by omega), if_pos (by omega), wsucc p (by omega), if_pos (by omega), if_pos (by omega)]
theorem rl2_plain (t : ByteArray) (l : List S23) (p k : Nat) (ai : ByteArray) (acc : List UInt8) (hs : t.size ≤ 2048) (hp : p < t.size) (ha : acc.length ≤ 2048) (n0 : bt t (p : Int) ≠ 40) (n1 : bt t (p : Int) ≠ 41) :
    larderref02_ParseShown.l2 (k + 4) t l (p : Int) ai ⟨acc.toArray⟩ = larderref02_ParseShown.l2 k t l ((p + 1 : Nat) : Int) ai ⟨(acc ++ [ub t p]).toArray⟩ := by
  by_cases h1 : p + 1 = t.size
  · rw [show k + 4 = (k + 3) + 1 from rfl, rl2_last t l p _ _ _ hs hp h1]
    exact rj4_plain t l p k _ _ ai acc hs hp ha n0 n1
  · have h2 : p + 1 < t.size := Nat.lt_of_le_of_ne hp h1
    rw [show k + 4 = (k + 3) + 1 from rfl, rl2_more t l p _ _ _ hs h2]
    exact rj4_plain t l p k _ _ ai acc hs hp ha n0 n1
/-- Both read a value alike. -/
theorem rl2_all (t : ByteArray) (l : List S23) (ai : ByteArray) (hs : t.size ≤ 2048) (hl : l.length < 4398046511104) : ∀ (f p : Nat) (acc : List UInt8), t.size < p + f → p ≤ t.size → acc.length ≤ p →
    ∃ (v : ByteArray) (n : Nat) (ok : Bool), svL t f p acc = some (v, (n : Int), ok) ∧ p ≤ n ∧ n ≤ t.size ∧ v.size ≤ 2048 ∧ ∀ k, 4 * (t.size - p) + 4 ≤ k → ∃ k', k ≤ k' + 4 * (n - p) + 4 ∧ larderref02_ParseShown.l2 k t l (p : Int) ai ⟨acc.toArray⟩ = if ok = true then larderref02_ParseShown.l0 k' t (l ++ [⟨ai, v⟩]) (n : Int) else some ([], 29, (n : Int))
  | 0, p, acc, h, h', _ => by omega
  | f + 1, p, acc, h, hp, ha => by
    have hv : (⟨acc.toArray⟩ : ByteArray).size ≤ 2048 := by
      have s0 : (⟨acc.toArray⟩ : ByteArray).size = acc.length := by simp [ByteArray.size]
      omega
    simp only [svL]
    by_cases h1 : p < t.size
    · rw [if_pos h1]
      have hac : (acc ++ [ub t p]).length ≤ p + 1 := by rw [List.length_append, List.length_singleton]; omega
      by_cases h2 : bt t (p : Int) = 40 ∨ bt t (p : Int) = 41
      · rw [if_pos h2]
        by_cases h3 : p + 1 = t.size
        · rw [if_pos h3]
          refine ⟨_, p, _, rfl, Nat.le_refl _, hp, hv, fun k hk => ?_⟩
          obtain ⟨k, rfl⟩ : ∃ m, k = m + 4 := ⟨k - 4, by clear h2; omega⟩
          refine ⟨k + 1, by clear h2; omega, ?_⟩
          rw [show k + 4 = (k + 3) + 1 from rfl, rl2_last t l p _ _ _ hs h1 h3]
          rcases h2 with h2 | h2
          · rw [if_pos (decide_eq_true h2)]
            exact rj4_open t l _ _ (k + 1) ai _ h2 hl
          · rw [if_neg (by rw [h2]; decide)]
            exact rj4_shut t l _ _ k ai _ h2
        · have h4 : p + 1 < t.size := Nat.lt_of_le_of_ne h1 h3
          rw [if_neg h3]
          by_cases h5 : bt t ((p + 1 : Nat) : Int) = bt t (p : Int)
          · rw [if_pos h5]
            obtain ⟨v, n, ok, e1, e2, e3, e4, e5⟩ := rl2_all t l ai hs hl f (p + 2) (acc ++ [ub t p]) (by clear h2 h5; omega) (by clear h2 h5; omega) (by clear h2 h5; omega)
            refine ⟨v, n, ok, e1, by clear h2 h5; omega, e3, e4, fun k hk => ?_⟩
            obtain ⟨k, rfl⟩ : ∃ m, k = m + 4 := ⟨k - 4, by clear h2 h5; omega⟩
            obtain ⟨k', g1, g2⟩ := e5 k (by clear h2 h5; omega)
            refine ⟨k', by clear h2 h5; omega, ?_⟩
            rw [show k + 4 = (k + 3) + 1 from rfl, rl2_more t l p _ _ _ hs h4, beq_iff_eq.2 h5]
            rw [rj4_two t l p k _ ai acc hs h1 (by clear h2 h5; omega) h2]
            exact g2
          · rw [if_neg h5]
            refine ⟨_, p, _, rfl, Nat.le_refl _, hp, hv, fun k hk => ?_⟩
            obtain ⟨k, rfl⟩ : ∃ m, k = m + 4 := ⟨k - 4, by clear h2 h5; omega⟩
            refine ⟨k + 1, by clear h2 h5; omega, ?_⟩
            rw [show k + 4 = (k + 3) + 1 from rfl, rl2_more t l p _ _ _ hs h4, beq_eq_false_iff_ne.2 h5]
            rcases h2 with h2 | h2
            · rw [if_pos (decide_eq_true h2)]
              exact rj4_open t l _ _ (k + 1) ai _ h2 hl
            · rw [if_neg (by rw [h2]; decide)]
              exact rj4_shut t l _ _ k ai _ h2
      · rw [if_neg h2]
        obtain ⟨v, n, ok, e1, e2, e3, e4, e5⟩ := rl2_all t l ai hs hl f (p + 1) (acc ++ [ub t p]) (by clear h2; omega) h1 hac
        refine ⟨v, n, ok, e1, by clear h2; omega, e3, e4, fun k hk => ?_⟩
        obtain ⟨k, rfl⟩ : ∃ m, k = m + 4 := ⟨k - 4, by clear h2; omega⟩
        obtain ⟨k', g1, g2⟩ := e5 k (by clear h2; omega)
        refine ⟨k', by clear h2; omega, ?_⟩
        rw [rl2_plain t l p k ai acc hs h1 (by clear h2; omega) (fun z => h2 (.inl z)) (fun z => h2 (.inr z))]
        exact g2
    · rw [if_neg h1]
      refine ⟨_, p, _, rfl, Nat.le_refl _, hp, hv, fun k hk => ?_⟩
      obtain ⟨k, rfl⟩ : ∃ m, k = m + 1 := ⟨k - 1, by omega⟩
      refine ⟨k, by omega, ?_⟩
      rw [if_pos rfl]
      exact rl2_end t l p k ai _ h1 hl
theorem endS_some (l : List S23) (b : ByteArray × Int × Int) : ∃ r : List S23 × Int × Int, endS l (some b) = some r ∧ r.1.length ≤ l.length := by
  by_cases h : b.2.1 = 0
  · exact ⟨(l, 0, 0), by unfold endS; rw [Option.bind_some, if_pos h], Nat.le_refl _⟩
  · exact ⟨([], b.2.1, b.2.2), by unfold endS; rw [Option.bind_some, if_neg h], Nat.zero_le _⟩
structure Fine (l : List S23) (i : Nat) : Prop where
  len : l.length ≤ i
  sz : ∀ x ∈ l, x.f0.size ≤ 2048 ∧ x.f1.size ≤ 2048
theorem shown_main (t : ByteArray) (hs : t.size ≤ 2048) : ∀ (e i : Nat) (l : List S23), i + e = t.size → Fine l i →
    ∃ r : List S23 × Int × Int, r.1.length ≤ t.size ∧ (∀ k, e + 1 ≤ k → gtin_ParseShown.l0 k t l (i : Int) = some r) ∧ ∀ k, 10 * e + 6000 ≤ k → larderref02_ParseShown.l0 k t l (i : Int) = some r := by
  intro e
  induction e using Nat.strongRecOn with
  | ind e ih =>
    intro i l he hf
    by_cases h1 : i < t.size
    · by_cases h2 : bt t (i : Int) = 40
      · rcases find41 t e i he with ⟨f1, f2⟩ | ⟨q, f1, f2, f3, f4, f5⟩
        · refine ⟨([], 3, (t.size : Int)), Nat.zero_le _, fun k hk => ?_, fun k hk => ?_⟩
          · obtain ⟨k, rfl⟩ : ∃ m, k = m + 1 := ⟨k - 1, by clear h2 f1 f2; omega⟩
            exact gl_short t l i k h1 h2 f1
          · obtain ⟨k, rfl⟩ : ∃ m, k = m + (t.size - (i + 1)) + 3 := ⟨k - (t.size - (i + 1)) - 3, by clear h2 f1 f2; omega⟩
            rw [show k + (t.size - (i + 1)) + 3 = (k + 1 + (t.size - (i + 1)) + 1) + 1 by clear h2 f1 f2; omega, rl_go t l i _ hs h1 h2]
            rw [rl1_none t l i hs (t.size - (i + 1)) (i + 1) (k + 1) (by clear h2 f1 f2; omega) (f2.from (by clear h2 f1 f2; omega))]
            exact rj2_short t l i k
        · have hne : i + 1 ≤ q := by
            rcases Nat.lt_or_ge i q with z | z
            · exact z
            · have : q = i := Nat.le_antisymm z f1
              rw [this, h2] at f4
              exact absurd f4 (by decide)
          have H4 := Aside0.mk f4
          have H3 := Aside0.mk f3
          have H2 := Aside0.mk h2
          clear f3 f4 h2
          obtain ⟨v, n, ok, e1, e2, e3, e4, e5⟩ := rl2_all t l (t.extract (i + 1) q) hs (by have := hf.len; omega) (t.size + 1) (q + 1) [] (by omega) (by omega) (by simp)
          have hsv : gtin_shownValue.f t ((q + 1 : Nat) : Int) = some (v, (n : Int), ok) := by
            unfold gtin_shownValue.f
            rw [if_pos ⟨by omega, by omega, hs⟩, Int.toNat_natCast]
            exact e1
          have hP : ∀ k, gtin_ParseShown.l0 (k + 1) t l (i : Int) = _ := fun k => gl_at t l i k q hs h1 H2.out H3.out hne f2
          have hR : ∀ k, 10 * e + 6000 ≤ k → ∃ k2, k = k2 + (q - i) + 2 ∧ larderref02_ParseShown.l0 k t l (i : Int) = larderref02_ParseShown.j2 (k2 + 1) t l (i : Int) (q : Int) := by
            intro k hk
            obtain ⟨k2, rfl⟩ : ∃ m, k = m + (q - i) + 2 := ⟨k - (q - i) - 2, by omega⟩
            refine ⟨k2, rfl, ?_⟩
            rw [show k2 + (q - i) + 2 = (k2 + 1 + (q - (i + 1)) + 1) + 1 by omega, rl_go t l i _ hs h1 H2.out]
            exact rl1_find t l i q hs f2 H4.out (q - (i + 1)) (i + 1) (k2 + 1) (by omega) (f5.from (by omega))
          rcases find_spec (t.extract (i + 1) q) with ⟨r, hr, hai, hf'⟩ | ⟨hn, hf'⟩
          · cases ok with
            | true =>
              have hf2 : Fine (l ++ [⟨t.extract (i + 1) q, v⟩]) n := ⟨by rw [List.length_append, List.length_singleton]; have := hf.len; omega, fun x hx => by
                rcases List.mem_append.1 hx with hx | hx
                · exact hf.sz x hx
                · rw [List.mem_singleton] at hx
                  rw [hx]
                  exact ⟨by show (t.extract (i + 1) q).size ≤ 2048; rw [ByteArray.size_extract]; omega, e4⟩⟩
              obtain ⟨res, r1, r2, r3⟩ := ih (t.size - n) (by omega) n (l ++ [⟨t.extract (i + 1) q, v⟩]) (by omega) hf2
              refine ⟨res, r1, fun k hk => ?_, fun k hk => ?_⟩
              · obtain ⟨k, rfl⟩ : ∃ m, k = m + 1 := ⟨k - 1, by omega⟩
                rw [hP k, hf', hsv]
                simp only [Option.bind_some]
                rw [if_pos trivial, if_pos trivial, if_pos (by have := hf.len; omega)]
                exact r2 k (by omega)
              · obtain ⟨k2, hk2, h5⟩ := hR k hk
                obtain ⟨k3, hk3⟩ : ∃ m, k2 = m + 9 := ⟨k2 - 9, by omega⟩
                rw [h5, rj2_at t l i q k2 hs hne f2, hk3, kind_some r hr _ hai.symm k3]
                simp only [Option.bind_some]
                rw [if_pos trivial, ← hk3]
                obtain ⟨k', g1, g2⟩ := e5 k2 (by omega)
                rw [show (⟨#[]⟩ : ByteArray) = ⟨([] : List UInt8).toArray⟩ from rfl, g2, if_pos rfl]
                exact r3 k' (by omega)
            | false =>
              refine ⟨([], 29, (n : Int)), Nat.zero_le _, fun k hk => ?_, fun k hk => ?_⟩
              · obtain ⟨k, rfl⟩ : ∃ m, k = m + 1 := ⟨k - 1, by omega⟩
                rw [hP k, hf', hsv]
                simp only [Option.bind_some]
                rw [if_pos trivial, if_neg Bool.false_ne_true]
              · obtain ⟨k2, hk2, h5⟩ := hR k hk
                obtain ⟨k3, hk3⟩ : ∃ m, k2 = m + 9 := ⟨k2 - 9, by omega⟩
                rw [h5, rj2_at t l i q k2 hs hne f2, hk3, kind_some r hr _ hai.symm k3]
                simp only [Option.bind_some]
                rw [if_pos trivial, ← hk3]
                obtain ⟨k', g1, g2⟩ := e5 k2 (by omega)
                rw [show (⟨#[]⟩ : ByteArray) = ⟨([] : List UInt8).toArray⟩ from rfl, g2, if_neg Bool.false_ne_true]
          · refine ⟨([], 23, ((i + 1 : Nat) : Int)), Nat.zero_le _, fun k hk => ?_, fun k hk => ?_⟩
            · obtain ⟨k, rfl⟩ : ∃ m, k = m + 1 := ⟨k - 1, by omega⟩
              rw [hP k, hf']
              simp only [Option.bind_some]
              rw [if_neg Bool.false_ne_true]
            · obtain ⟨k2, hk2, h5⟩ := hR k hk
              obtain ⟨k3, hk3⟩ : ∃ m, k2 = m + 9 := ⟨k2 - 9, by omega⟩
              rw [h5, rj2_at t l i q k2 hs hne f2, hk3, kind_none _ hn k3]
              simp only [Option.bind_some]
              rw [if_neg Bool.false_ne_true]
      · refine ⟨([], 29, (i : Int)), Nat.zero_le _, fun k hk => ?_, fun k hk => ?_⟩
        · obtain ⟨k, rfl⟩ : ∃ m, k = m + 1 := ⟨k - 1, by clear h2; omega⟩
          exact gl_open t l i k h1 h2
        · obtain ⟨k, rfl⟩ : ∃ m, k = m + 1 := ⟨k - 1, by clear h2; omega⟩
          exact rl_open t l i k h1 h2
    · have hlen := hf.len
      obtain ⟨b, b1, b2⟩ := print_both l (by omega) (fun x hx => by have := hf.sz x hx; omega)
      obtain ⟨r, r1, r2⟩ := endS_some l b
      refine ⟨r, by omega, fun k hk => ?_, fun k hk => ?_⟩
      · obtain ⟨k, rfl⟩ : ∃ m, k = m + 1 := ⟨k - 1, by omega⟩
        rw [gl_end t l i k h1, b1]
        exact r1
      · obtain ⟨k, rfl⟩ : ∃ m, k = m + 1 := ⟨k - 1, by omega⟩
        rw [rl_end t l i k h1, b2 k (by omega)]
        exact r1
theorem same_loop (l : List S23) (hl : l.length ≤ 100000) (e : Nat) : ∀ (k i : Nat), i + e = l.length → e < k → larderlaw02_same.l0 k l l (i : Int) = some true := by
  induction e with
  | zero =>
    intro k i h hk
    obtain ⟨k, rfl⟩ : ∃ m, k = m + 1 := ⟨k - 1, by omega⟩
    simp only [larderlaw02_same.l0]
    rw [if_neg (by omega)]
  | succ e ih =>
    intro k i h hk
    obtain ⟨k, rfl⟩ : ∃ m, k = m + 1 := ⟨k - 1, by omega⟩
    simp only [larderlaw02_same.l0]
    rw [if_pos (by omega), if_pos (by omega), if_pos (by omega), wsucc i (by omega), if_neg (by simp)]
    exact ih k (i + 1) (by omega) (by omega)
theorem same_self (l : List S23) (hl : l.length ≤ 90000) : larderlaw02_same.f 100000 l l = some true := by
  unfold larderlaw02_same.f
  rw [if_pos rfl]
  exact same_loop l (by omega) l.length 100000 0 (by omega) (by omega)
/-- The law GtinShown. -/
theorem GtinShown_pure (a0 : ByteArray) : larderlaw02_GtinShown.f 100000 a0 = some true := by
  unfold larderlaw02_GtinShown.f gtin_ParseShown.f larderref02_ParseShown.f
  by_cases h : (a0.size : Int) > 2048
  · rw [if_pos h, if_pos h]
    simp only [Option.bind_some]
    rw [if_pos trivial, if_pos trivial, same_self [] (by simp)]
    rfl
  · rw [if_neg h, if_neg h]
    obtain ⟨r, h1, h2, h3⟩ := shown_main a0 (by omega) a0.size 0 [] (by omega) ⟨by simp, by simp⟩
    have g1 := h2 100000 (by omega)
    have g2 := h3 100000 (by omega)
    rw [Int.natCast_zero] at g1 g2
    rw [g1, g2]
    simp only [Option.bind_some]
    rw [if_pos trivial, if_pos trivial, same_self r.1 (by omega)]
    rfl
end Go.Proofs.YtofagdjijpjlgaaDoor.X
