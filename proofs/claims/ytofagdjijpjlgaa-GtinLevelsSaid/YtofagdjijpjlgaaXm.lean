/- Plain facts on the printed functions of codes: the sum, the first byte that is no digit, Check, bodies and codes. -/
import Derived.Test.YtofagdjijpjlgaaPCodesx
set_option linter.unusedVariables false
namespace Go.Proofs.Ytofagdjijpjlgaa.X
open Go.RowKit Go.Proofs.YtofagdjijpjlgaaW.PrintWords Go.Proofs.YtofagdjijpjlgaaW.PrintLast Go.Proofs.Ytofagdjijpjlgaa.PCodes

def dig (c : Int) : Prop := 48 ≤ c ∧ c ≤ 57
instance (c : Int) : Decidable (dig c) := inferInstanceAs (Decidable (48 ≤ c ∧ c ≤ 57))
def wt (i : Nat) : Int := if i % 2 = 1 then 3 else 1
def sm (l : List Int) : Nat → Int
  | 0 => 0
  | i + 1 => sm l i + wt i * ((l.getD (l.length - 1 - i) 0 - 48) % 256)
theorem wt_or (i : Nat) : wt i = 1 ∨ wt i = 3 := by unfold wt; split <;> simp
theorem sm_range (l : List Int) : ∀ i, 0 ≤ sm l i ∧ sm l i ≤ 765 * i
  | 0 => by simp [sm]
  | i + 1 => by
    have h := sm_range l i
    have e : sm l (i + 1) = sm l i + wt i * ((l.getD (l.length - 1 - i) 0 - 48) % 256) := rfl
    rcases wt_or i with hw | hw <;> rw [e, hw] <;> omega

theorem sum_loop (s : ByteArray) (hs : s.size ≤ 1000000) (d : Nat) : ∀ (k i : Nat), i ≤ s.size → s.size - i = d → d < k →
    gtin_sum.l0 k s (sm (bytesOf s) i) s.size i = some (sm (bytesOf s) s.size) := by
  induction d with
  | zero =>
    intro k i h1 hd hk
    obtain ⟨k, rfl⟩ : ∃ m, k = m + 1 := ⟨k - 1, by omega⟩
    have : i = s.size := by omega
    subst this
    simp only [gtin_sum.l0]
    rw [if_neg (by omega)]
  | succ d ih =>
    intro k i h1 hd hk
    obtain ⟨k, rfl⟩ : ∃ m, k = m + 1 := ⟨k - 1, by omega⟩
    have hr := sm_range (bytesOf s) i
    have hl := bytesOf_length s
    have e1 : wrap64 ((s.size : Int) - 1) = s.size - 1 := wrap_id (by omega) (by omega)
    have e2 : wrap64 ((s.size : Int) - 1 - i) = s.size - 1 - i := wrap_id (by omega) (by omega)
    have e3 : wrap64 ((i : Int) + 1) = (i + 1 : Nat) := by rw [wrap_id (by omega) (by omega)]; omega
    have eb : bt s ((s.size : Int) - 1 - i) = (bytesOf s).getD ((bytesOf s).length - 1 - i) 0 := by
      rw [bs_rd, hl]; congr 1; omega
    have es : sm (bytesOf s) (i + 1) = sm (bytesOf s) i + wt i * (((bytesOf s).getD ((bytesOf s).length - 1 - i) 0 - 48) % 256) := rfl
    have et : Int.tmod (i : Int) 2 = ((i % 2 : Nat) : Int) := by rw [Int.tmod_eq_emod_of_nonneg (by omega)]; omega
    simp only [gtin_sum.l0]
    rw [if_pos (by omega), e1, e2, if_pos (by omega), if_pos (by omega), eb, et]
    have h2 := ih k (i + 1) (by omega) (by omega) (by omega)
    by_cases h : i % 2 = 1
    · have hw : wt i = 3 := by simp [wt, h]
      rw [if_pos (by omega), e3]
      rw [wrap_id (by omega) (by omega)]
      rw [es, hw] at h2
      rw [Int.mul_comm]; exact h2
    · have hw : wt i = 1 := by simp [wt, h]
      rw [if_neg (by omega), e3]
      rw [wrap_id (by omega) (by omega)]
      rw [es, hw, Int.one_mul] at h2
      exact h2
theorem sum_f (s : ByteArray) (hs : s.size ≤ 1000000) (k : Nat) (hk : s.size < k) : gtin_sum.f k s = some (sm (bytesOf s) s.size) := by
  have := sum_loop s hs s.size k 0 (by omega) (by omega) hk
  simpa [gtin_sum.f, sm] using this

theorem decode_high (s : ByteArray) (pos : Nat) (h : pos < s.size) (ha : 128 ≤ (s[pos]'h).toNat) : 58 ≤ (Utf8.decode s pos).1 := by
  have hg : (s.get! (pos + 0)).toNat = (s[pos]'h).toNat := by
    have e : s.get! (pos + 0) = s[pos]'h := by
      show s.get! pos = _
      simp [ByteArray.get!, getElem!_pos, h]
      rfl
    rw [e]
  unfold Utf8.decode
  simp only [hg, Utf8.runeError]
  rw [if_neg (by omega)]
  repeat' split
  all_goals simp only [Bool.and_eq_true, decide_eq_true_eq] at *
  all_goals omega
theorem df_from (s : ByteArray) : ∀ (f pos : Nat), s.size ≤ pos + f → (∀ j : Nat, j < pos → dig (bt s j)) →
    ((Lib.idxFuncFrom notDigit true s f pos = -1 ∧ ∀ j : Nat, j < s.size → dig (bt s j)) ∨
     (∃ r : Nat, Lib.idxFuncFrom notDigit true s f pos = r ∧ r < s.size ∧ ¬ dig (bt s r) ∧ ∀ j : Nat, j < r → dig (bt s j)))
  | 0, pos, h1, h2 => .inl ⟨rfl, fun j hj => h2 j (by omega)⟩
  | f + 1, pos, h1, h2 => by
    unfold Lib.idxFuncFrom
    by_cases hp : pos < s.size
    · rw [if_pos hp]
      have hb : bt s pos = ((s[pos]'hp).toNat : Int) := by have := bt_at s pos (by simpa using hp); simpa using this.symm
      by_cases ha : (s[pos]'hp).toNat < 128
      · rw [decode_ascii s pos hp ha]
        by_cases hd : dig (bt s pos)
        · have hn : notDigit (s[pos]'hp).toNat = false := by unfold notDigit; unfold dig at hd; simp; omega
          rw [if_neg (by simp [hn])]
          exact df_from s f (pos + 1) (by omega) (fun j hj => by
            rcases Nat.lt_or_ge j pos with h | h
            · exact h2 j h
            · have : j = pos := by omega
              subst this; exact hd)
        · have hn : notDigit (s[pos]'hp).toNat = true := by unfold notDigit; unfold dig at hd; simp; omega
          rw [if_pos (by simp [hn])]
          exact .inr ⟨pos, rfl, hp, hd, h2⟩
      · have hh := decode_high s pos hp (by omega)
        have hn : notDigit (Utf8.decode s pos).1 = true := by unfold notDigit; simp; omega
        rw [if_pos hn]
        exact .inr ⟨pos, rfl, hp, by unfold dig; omega, h2⟩
    · rw [if_neg hp]
      exact .inl ⟨rfl, fun j hj => h2 j (by omega)⟩
theorem df_spec (s : ByteArray) :
    (gtin_digitFault.f s = some (-1) ∧ ∀ j : Nat, j < s.size → dig (bt s j)) ∨
    (∃ r : Nat, gtin_digitFault.f s = some (r : Int) ∧ r < s.size ∧ ¬ dig (bt s r) ∧ ∀ j : Nat, j < r → dig (bt s j)) := by
  rcases df_from s s.size 0 (by omega) (fun j hj => by omega) with ⟨h, h1⟩ | ⟨r, h, h1⟩
  · exact .inl ⟨by unfold gtin_digitFault.f Lib.idxFunc; rw [h], h1⟩
  · exact .inr ⟨r, by unfold gtin_digitFault.f Lib.idxFunc; rw [h], h1⟩
theorem df_ok (s : ByteArray) (h : ∀ j : Nat, j < s.size → dig (bt s j)) : gtin_digitFault.f s = some (-1) := by
  rcases df_spec s with h1 | ⟨r, _, hr, hn, _⟩
  · exact h1.1
  · exact absurd (h r hr) hn

/-- All bytes are digits. -/
def Digs (l : List Int) : Prop := ∀ x ∈ l, dig x
theorem digs_bt {s : ByteArray} : (∀ j : Nat, j < s.size → dig (bt s j)) ↔ Digs (bytesOf s) := by
  constructor
  · intro h x hx
    obtain ⟨i, hi, rfl⟩ := List.getElem_of_mem hx
    have := h i (by rw [bs_size]; exact hi)
    rw [bs_rd, Int.toNat_natCast, List.getD_eq_getElem?_getD, List.getElem?_eq_getElem hi] at this
    exact this
  · intro h j hj
    rw [bs_size] at hj
    rw [bs_rd, Int.toNat_natCast, List.getD_eq_getElem?_getD, List.getElem?_eq_getElem hj]
    exact h _ (List.getElem_mem hj)
theorem df_digs {s : ByteArray} (h : Digs (bytesOf s)) : gtin_digitFault.f s = some (-1) := df_ok s (digs_bt.2 h)

/-- With another last byte the sum changes by that byte alone. -/
theorem sm_last (l : List Int) (c d : Int) : ∀ i, i ≤ l.length → sm (l ++ [c]) (i + 1) = sm (l ++ [d]) (i + 1) + (c - 48) % 256 - (d - 48) % 256
  | 0, _ => by simp [sm, wt]; omega
  | i + 1, h => by
    have ih := sm_last l c d i (by omega)
    have e1 : ∀ x : Int, sm (l ++ [x]) (i + 1 + 1) = sm (l ++ [x]) (i + 1) + wt (i + 1) * (((l ++ [x]).getD ((l ++ [x]).length - 1 - (i + 1)) 0 - 48) % 256) := fun _ => rfl
    have e2 : ∀ x : Int, (l ++ [x]).getD ((l ++ [x]).length - 1 - (i + 1)) 0 = l.getD (l.length - 1 - i) 0 := by
      intro x
      simp only [List.length_append, List.length_singleton, List.getD_eq_getElem?_getD]
      rw [List.getElem?_append_left (by omega)]
      congr 2; omega
    rw [e1, e1, e2, e2, ih]; omega
/-- A byte is another: the sum changes by its own weight alone. -/
theorem sm_set (l : List Int) (p : Nat) (x : Int) (hp : p < l.length) : ∀ i, i ≤ l.length → sm (l.set p x) i = sm l i + (if l.length - 1 - p < i then wt (l.length - 1 - p) * ((x - 48) % 256 - (l.getD p 0 - 48) % 256) else 0)
  | 0, _ => by simp [sm]
  | i + 1, h => by
    have ih := sm_set l p x hp i (by omega)
    have e1 : ∀ m : List Int, sm m (i + 1) = sm m i + wt i * ((m.getD (m.length - 1 - i) 0 - 48) % 256) := fun _ => rfl
    rw [e1, e1, ih, List.length_set]
    by_cases hq : l.length - 1 - p = i
    · have e2 : (l.set p x).getD (l.length - 1 - i) 0 = x := by
        rw [show l.length - 1 - i = p from by omega, List.getD_eq_getElem?_getD, List.getElem?_set_self hp]; rfl
      have e3 : l.getD (l.length - 1 - i) 0 = l.getD p 0 := by congr 1; omega
      rw [e2, e3, if_neg (by omega), if_pos (by omega), hq, Int.mul_sub]; omega
    · have e2 : (l.set p x).getD (l.length - 1 - i) 0 = l.getD (l.length - 1 - i) 0 := by
        rw [List.getD_eq_getElem?_getD, List.getElem?_set_ne (by omega), List.getD_eq_getElem?_getD]
      rw [e2]
      by_cases h2 : l.length - 1 - p < i
      · rw [if_pos h2, if_pos (by omega)]; omega
      · rw [if_neg h2, if_neg (by omega)]; omega

theorem mod10 (x : Int) (h : 0 ≤ x) : Int.tmod x 10 = x % 10 := Int.tmod_eq_emod_of_nonneg h
/-- gtin.Digit at digits. -/
theorem gDigit (s : ByteArray) (h0 : s.size ≠ 0) (h1 : s.size ≤ 17) (hd : Digs (bytesOf s)) (k : Nat) (hk : 20 < k) :
    ∃ d : Int, 0 ≤ d ∧ d < 10 ∧ gtin_Digit.f k s = some (48 + d, 0) ∧ (sm (bytesOf s ++ [48 + d]) (s.size + 1)) % 10 = 0 := by
  have hs : bytesOf (s ++ (⟨#[48]⟩ : ByteArray)) = bytesOf s ++ [48] := by rw [bs_append]; rfl
  have hz : (s ++ (⟨#[48]⟩ : ByteArray)).size = s.size + 1 := by rw [ByteArray.size_append]; rfl
  have hf := sum_f (s ++ (⟨#[48]⟩ : ByteArray)) (by omega) k (by omega)
  have hr := sm_range (bytesOf s ++ [48]) (s.size + 1)
  rw [hs, hz] at hf
  obtain ⟨q, hq⟩ : ∃ q, sm (bytesOf s ++ [48]) (s.size + 1) = q := ⟨_, rfl⟩
  rw [hq] at hf hr
  refine ⟨(10 - q % 10) % 10, by omega, by omega, ?_, ?_⟩
  · unfold gtin_Digit.f
    rw [if_neg (by omega), if_neg (by rw [bs_nil]; intro h; exact h0 (by rw [bs_size, h]; rfl)), df_digs hd]
    simp only [Option.bind_some]
    rw [if_neg (by omega), if_pos (by omega), hf]
    simp only [Option.bind_some]
    rw [mod10 q (by omega), wrap_id (x := 10 - q % 10) (by omega) (by omega), mod10 (10 - q % 10) (by omega), wrap_id (by omega) (by omega)]
    simp only [Option.some.injEq, Prod.mk.injEq, and_true]; omega
  · have := sm_last (bytesOf s) (48 + (10 - q % 10) % 10) 48 s.size (by rw [bs_size]; omega)
    rw [this, hq]; omega

/-- gtin.Check at digits of a code's length. -/
theorem gCheck (s : ByteArray) (hn : s.size = 8 ∨ s.size = 12 ∨ s.size = 13 ∨ s.size = 14 ∨ s.size = 18) (hd : Digs (bytesOf s)) (k : Nat) (hk : 30 < k) :
    gtin_Check.f k s = some (if sm (bytesOf s) s.size % 10 = 0 then (0, 0) else (22, (s.size : Int) - 1)) := by
  obtain ⟨k, rfl⟩ : ∃ m, k = m + 1 := ⟨k - 1, by omega⟩
  have hf := sum_f s (by omega) k (by omega)
  have hr := sm_range (bytesOf s) s.size
  have hj : gtin_Check.j0 (k + 1) s true = some (if sm (bytesOf s) s.size % 10 = 0 then (0, 0) else (22, (s.size : Int) - 1)) := by
    simp only [gtin_Check.j0]
    rw [if_pos trivial, hf]
    simp only [Option.bind_some]
    rw [mod10 _ (by omega), wrap_id (by omega) (by omega)]
    split <;> rfl
  unfold gtin_Check.f
  rw [if_neg (by omega), df_digs hd]
  simp only [Option.bind_some]
  rw [if_neg (by omega)]
  rcases hn with h | h | h | h | h
  all_goals
    rw [h]
    simp
    rw [h] at hj
    simpa using hj

/-- with: a byte is another. -/
theorem with_f (s : ByteArray) (p : Nat) (x : Int) (hp : p < s.size) (hs : s.size ≤ 1000000) (hx : 0 ≤ x ∧ x < 256) :
    ∃ t, larderlaw02_with.f s p x = some t ∧ bytesOf t = (bytesOf s).set p x ∧ t.size = s.size := by
  have z1 : (s.extract 0 p).size = p := by rw [ByteArray.size_extract]; omega
  have z2 : (strOfNums [x]).size = 1 := by rw [strOfNums_size]; rfl
  have z3 : (s.extract (p + 1) s.size).size = s.size - (p + 1) := by rw [ByteArray.size_extract]; omega
  have hb : bytesOf ((s.extract 0 p ++ strOfNums [x]) ++ s.extract (p + 1) s.size) = (bytesOf s).set p x := by
    rw [bs_append, bs_append, bs_extract, bs_extract, bs_nums _ (by simpa using hx), List.drop_zero, bs_size, List.take_length,
      List.set_eq_take_append_cons_drop, if_pos (by rw [← bs_size]; exact hp)]
    simp
  refine ⟨(s.extract 0 p ++ strOfNums [x]) ++ s.extract (p + 1) s.size, ?_, hb, by rw [bs_size, hb, List.length_set, ← bs_size]⟩
  unfold larderlaw02_with.f
  have e1 : wrap64 ((p : Int) + 1) = (p + 1 : Nat) := by rw [wrap_id (by omega) (by omega)]; omega
  rw [if_pos (by omega), if_pos (by omega)]
  simp only [Option.bind_some]
  rw [Int.toNat_natCast, z1, z2, if_pos (by omega), e1, if_pos (by omega), if_pos (by omega), Int.toNat_natCast, ByteArray.size_append, z1, z2, z3, if_pos (by omega)]

theorem within_f (a m : Int) (h0 : 0 ≤ m) (h1 : m < 1000000) : ∃ r, larderlaw02_within.f a m = some r ∧ 0 ≤ r ∧ r ≤ m := by
  unfold larderlaw02_within.f
  have e : wrap64 (m + 1) = m + 1 := wrap_id (by omega) (by omega)
  rw [e, if_neg (by omega)]
  have hq := Int.tmod_lt_of_pos a (b := m + 1) (by omega)
  have hl : -(m + 1) < Int.tmod a (m + 1) := by
    have := Int.tmod_lt_of_pos (-a) (b := m + 1) (by omega)
    rw [Int.neg_tmod] at this; omega
  by_cases h : Int.tmod a (m + 1) < 0
  · rw [if_pos h, wrap_id (x := Int.tmod a (m + 1) + m) (by omega) (by omega), wrap_id (by omega) (by omega)]
    exact ⟨_, rfl, by omega, by omega⟩
  · rw [if_neg h]
    exact ⟨_, rfl, by omega, by omega⟩

theorem rd_u8 {l : List Int} (hl : ∀ x ∈ l, (Lit.int .u8 x).wf = true) (i : Int) : 0 ≤ rd l i ∧ rd l i ≤ 255 := by
  unfold rd
  rcases Nat.lt_or_ge i.toNat l.length with h | h
  · rw [List.getD_eq_getElem?_getD, List.getElem?_eq_getElem h]
    have := hl _ (List.getElem_mem h)
    simp [Lit.wf, IntKind.min, IntKind.max, IntKind.bits, IntKind.signed] at this
    simp only [Option.getD_some]; omega
  · rw [List.getD_eq_getElem?_getD, List.getElem?_eq_none h]; simp

theorem digs_snoc {l : List Int} {x : Int} (h : Digs l) (hx : dig x) : Digs (l ++ [x]) := by
  intro y hy
  rcases List.mem_append.1 hy with h1 | h1
  · exact h y h1
  · obtain rfl : y = x := by simpa using h1
    exact hx
theorem body_loop (l : List Int) (hl : ∀ x ∈ l, (Lit.int .u8 x).wf = true) (hz : l.length * 1 ≤ 140737488351232) (n : Nat) (hn : n ≤ 100) (d : Nat) : ∀ (k i : Nat) (acc : ByteArray), i ≤ n → n - i = d → d < k → acc.size = i → Digs (bytesOf acc) →
    ∃ b, larderlaw02_body.l0 k l n acc i = some b ∧ b.size = n ∧ Digs (bytesOf b) := by
  induction d with
  | zero =>
    intro k i acc h1 hd hk hs hg
    obtain ⟨k, rfl⟩ : ∃ m, k = m + 1 := ⟨k - 1, by omega⟩
    simp only [larderlaw02_body.l0]
    rw [if_neg (by omega)]
    exact ⟨acc, rfl, by omega, hg⟩
  | succ d ih =>
    intro k i acc h1 hd hk hs hg
    obtain ⟨k, rfl⟩ : ∃ m, k = m + 1 := ⟨k - 1, by omega⟩
    simp only [larderlaw02_body.l0]
    have e1 : wrap64 ((i : Int) + 1) = (i + 1 : Nat) := by rw [wrap_id (by omega) (by omega)]; omega
    have go : ∀ x : Int, dig x → ∃ b, larderlaw02_body.l0 k l n (acc ++ strOfNums [x]) ((i + 1 : Nat) : Int) = some b ∧ b.size = n ∧ Digs (bytesOf b) := by
      intro x hx
      have hx' : 0 ≤ x ∧ x < 256 := by unfold dig at hx; omega
      refine ih k (i + 1) _ (by omega) (by omega) (by omega) (by rw [ByteArray.size_append, strOfNums_size, hs]; rfl) ?_
      rw [bs_append, bs_nums _ (by simpa using hx')]
      exact digs_snoc hg hx
    rw [if_pos (by omega)]
    have hz2 : ∀ x : Int, acc.size + (strOfNums [x]).size ≤ 9223372036854775807 := fun x => by rw [strOfNums_size, hs, List.length_singleton]; omega
    by_cases hi : (i : Int) < l.length
    · have hr := rd_u8 hl i
      rw [if_pos hi, if_pos (by omega)]
      simp only [Option.bind_some]
      rw [if_pos (hz2 _), e1]
      exact go _ (by rw [mod10 _ hr.1]; unfold dig; omega)
    · rw [if_neg hi]
      simp only [Option.bind_some]
      rw [if_pos (hz2 _), e1]
      exact go _ (by unfold dig; omega)

/-- A made code: digits, of a code's length, whose sum is a multiple of ten. -/
structure IsCode (c : ByteArray) : Prop where
  len : c.size = 8 ∨ c.size = 12 ∨ c.size = 13 ∨ c.size = 14 ∨ c.size = 18
  digs : Digs (bytesOf c)
  sum : sm (bytesOf c) c.size % 10 = 0

theorem code_sized (l : List Int) (a1 : Int) (hl : ∀ x ∈ l, (Lit.int .u8 x).wf = true) (hz : l.length * 1 ≤ 140737488351232) (k : Nat) (hk : 40 < k) :
    ∃ c, larderlaw02_code.f k l a1 = some (c, true) ∧ IsCode c ∧ ∀ t, larderlaw02_within.f a1 4 = some t → t ≤ 3 → c.size ≤ 14 := by
  have hb : ∃ b, larderlaw02_body.f k l a1 = some b ∧ ((b.size = 7 ∨ b.size = 11 ∨ b.size = 12 ∨ b.size = 13 ∨ b.size = 17) ∧ ∀ t, larderlaw02_within.f a1 4 = some t → t ≤ 3 → b.size ≤ 13) ∧ Digs (bytesOf b) := by
    obtain ⟨r, hr, h0, h4⟩ := within_f a1 4 (by omega) (by omega)
    unfold larderlaw02_body.f
    rw [hr]
    simp only [Option.bind_some, Option.some.injEq]
    obtain ⟨k, rfl⟩ : ∃ m, k = m + 1 := ⟨k - 1, by omega⟩
    have go : ∀ n : Nat, n ≤ 20 → ∃ b, larderlaw02_body.j0 (k + 1) l n = some b ∧ b.size = n ∧ Digs (bytesOf b) := by
      intro n hn
      simp only [larderlaw02_body.j0]
      exact body_loop l hl hz n (by omega) n k 0 _ (by omega) (by omega) (by omega) rfl (by intro x hx; simp [bytesOf] at hx)
    have cs : r = 0 ∨ r = 1 ∨ r = 2 ∨ r = 3 ∨ r = 4 := by omega
    rcases cs with rfl | rfl | rfl | rfl | rfl
    · obtain ⟨b, h1, h2, h3⟩ := go 7 (by omega); exact ⟨b, by simpa using h1, ⟨by omega, fun t ht h3 => by omega⟩, h3⟩
    · obtain ⟨b, h1, h2, h3⟩ := go 11 (by omega); exact ⟨b, by simpa using h1, ⟨by omega, fun t ht h3 => by omega⟩, h3⟩
    · obtain ⟨b, h1, h2, h3⟩ := go 12 (by omega); exact ⟨b, by simpa using h1, ⟨by omega, fun t ht h3 => by omega⟩, h3⟩
    · obtain ⟨b, h1, h2, h3⟩ := go 13 (by omega); exact ⟨b, by simpa using h1, ⟨by omega, fun t ht h3 => by omega⟩, h3⟩
    · obtain ⟨b, h1, h2, h3⟩ := go 17 (by omega); exact ⟨b, by simpa using h1, ⟨by omega, fun t ht h3 => by omega⟩, h3⟩
  obtain ⟨b, hb, ⟨hn, hsm⟩, hd⟩ := hb
  obtain ⟨d, d0, d1, hg, hm⟩ := gDigit b (by omega) (by omega) hd k (by omega)
  have hx : bytesOf (strOfNums [48 + d]) = [48 + d] := bs_nums _ (by simp; omega)
  have hc : bytesOf (b ++ strOfNums [48 + d]) = bytesOf b ++ [48 + d] := by rw [bs_append, hx]
  have hs : (b ++ strOfNums [48 + d]).size = b.size + 1 := by rw [ByteArray.size_append, strOfNums_size]; rfl
  refine ⟨b ++ strOfNums [48 + d], ?_, ⟨by omega, by rw [hc]; exact digs_snoc hd (by unfold dig; omega), by rw [hc, hs]; exact hm⟩, fun t ht h3 => by have := hsm t ht h3; omega⟩
  unfold larderlaw02_code.f
  rw [hb]
  simp only [Option.bind_some]
  rw [hg]
  simp only [Option.bind_some]
  rw [if_pos trivial, if_neg (by omega), if_neg (by omega), if_pos (by rw [strOfNums_size, List.length_singleton]; omega)]
theorem code_f (l : List Int) (a1 : Int) (hl : ∀ x ∈ l, (Lit.int .u8 x).wf = true) (hz : l.length * 1 ≤ 140737488351232) (k : Nat) (hk : 40 < k) :
    ∃ c, larderlaw02_code.f k l a1 = some (c, true) ∧ IsCode c := by
  obtain ⟨c, h1, h2, _⟩ := code_sized l a1 hl hz k hk
  exact ⟨c, h1, h2⟩
end Go.Proofs.Ytofagdjijpjlgaa.X
