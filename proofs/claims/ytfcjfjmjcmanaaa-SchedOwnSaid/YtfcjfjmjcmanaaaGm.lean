/- Multinomial numbers: in how many orders picks can come; the sum over the first pick. Plain: nothing of the program. bits.Div64 at divisors from 1 to 24: the quotient. Plain. count: the printed function tells the multinomial number, or that it is above 2^62. Plain. Count, Nth: the printed functions tell the mixes. Plain. -/
import Derived.Test.YtfcjfjmjcmanaaaPTherex1
import Derived.Laws.BitsLemmas
import Derived.Test.YtfcjfjmjcmanaaaPTherex2
import Derived.Lib.Hide
namespace Go.Proofs.Ytfcjfjmjcmanaaa.Mu
def fac : Nat → Nat | 0 => 1 | n+1 => (n+1) * fac n
theorem fac_pos : ∀ n, 0 < fac n
  | 0 => Nat.one_pos
  | n + 1 => Nat.mul_pos (Nat.succ_pos n) (fac_pos n)
def ch : Nat → Nat → Nat
 | _, 0 => 1
 | 0, _+1 => 0
 | n+1, k+1 => ch n k + ch n (k+1)
theorem ch_zero (n : Nat) : ch n 0 = 1 := by cases n <;> rfl
theorem ch_self_lt : ∀ n j, ch n (n + 1 + j) = 0 := by
  intro n
  induction n with
  | zero => intro j; rw [show 0 + 1 + j = j + 1 by omega]; rfl
  | succ n ih =>
    intro j
    rw [show n + 1 + 1 + j = (n + 1 + j) + 1 by omega]
    show ch n (n + 1 + j) + ch n (n + 1 + j + 1) = 0
    rw [ih j, show n + 1 + j + 1 = n + 1 + (j + 1) by omega, ih (j + 1)]
theorem ch_self : ∀ n, ch n n = 1
  | 0 => rfl
  | n + 1 => by
    show ch n n + ch n (n + 1) = 1
    rw [ch_self n, ch_self_lt n 0]
theorem ch_fac_m : ∀ (m a b : Nat), a + b = m → ch (a + b) a * (fac a * fac b) = fac (a + b) := by
  intro m
  induction m with
  | zero =>
    intro a b h
    obtain rfl : a = 0 := by omega
    obtain rfl : b = 0 := by omega
    rfl
  | succ m ih =>
    intro a b h
    cases a with
    | zero => simp [ch, fac]
    | succ a =>
      cases b with
      | zero => simp [ch_self, fac]
      | succ b =>
        have h1 := ih a (b + 1) (by omega)
        have h2 := ih (a + 1) b (by omega)
        have e : a + 1 + (b + 1) = (a + b + 1) + 1 := by omega
        rw [show a + (b + 1) = a + b + 1 by omega] at h1
        rw [show a + 1 + b = a + b + 1 by omega] at h2
        rw [e]
        show (ch (a + b + 1) a + ch (a + b + 1) (a + 1)) * ((a + 1) * fac a * ((b + 1) * fac b)) = (a + b + 1 + 1) * fac (a + b + 1)
        have f1 : fac (a + 1) = (a + 1) * fac a := rfl
        have f2 : fac (b + 1) = (b + 1) * fac b := rfl
        rw [f2] at h1
        rw [f1] at h2
        grind
theorem ch_fac (p n : Nat) : ch (p + n) n * (fac n * fac p) = fac (p + n) := by
  rw [Nat.add_comm p n]; exact ch_fac_m _ n p rfl
theorem ch_pos (p n : Nat) : 0 < ch (p + n) n := by
  have h := ch_fac p n
  have := fac_pos (p + n)
  rcases Nat.eq_zero_or_pos (ch (p + n) n) with z | z
  · rw [z] at h; omega
  · exact z
theorem ch_step (p j : Nat) : (j + 1) * ch (p + (j + 1)) (j + 1) = ch (p + j) j * (p + j + 1) := by
  have h1 := ch_fac p j
  have h2 := ch_fac p (j + 1)
  have f1 : fac (j + 1) = (j + 1) * fac j := rfl
  have f2 : fac (p + (j + 1)) = (p + j + 1) * fac (p + j) := rfl
  have hp : 0 < fac j * fac p := Nat.mul_pos (fac_pos _) (fac_pos _)
  apply Nat.eq_of_mul_eq_mul_right hp
  rw [f1, f2, ← h1] at h2
  grind
theorem ch_mono1 (p j : Nat) : ch (p + j) j ≤ ch (p + (j + 1)) (j + 1) := by
  show ch (p + j) j ≤ ch (p + j) j + ch (p + j) (j + 1)
  omega
theorem ch_mono (p j d : Nat) : ch (p + j) j ≤ ch (p + (j + d)) (j + d) := by
  induction d with
  | zero => exact Nat.le_refl _
  | succ d ih => exact Nat.le_trans ih (ch_mono1 p (j + d))
def mul : Nat → List Nat → Nat
  | _, [] => 1
  | p, n :: s => ch (p + n) n * mul (p + n) s
def facs : List Nat → Nat | [] => 1 | n :: s => fac n * facs s
theorem facs_pos : ∀ s, 0 < facs s
  | [] => Nat.one_pos
  | n :: s => Nat.mul_pos (fac_pos n) (facs_pos s)
theorem mul_pos : ∀ s p, 0 < mul p s
  | [], _ => Nat.one_pos
  | n :: s, p => Nat.mul_pos (ch_pos p n) (mul_pos s (p + n))
theorem mul_fac : ∀ (s : List Nat) (p : Nat), mul p s * (fac p * facs s) = fac (p + s.sum)
  | [], p => by simp [mul, facs]
  | n :: s, p => by
    have h := mul_fac s (p + n)
    have h2 := ch_fac p n
    rw [List.sum_cons, ← Nat.add_assoc, ← h]
    show ch (p + n) n * mul (p + n) s * (fac p * (fac n * facs s)) = _
    rw [← h2]
    grind
def M (s : List Nat) : Nat := mul 0 s
theorem M_pos (s : List Nat) : 0 < M s := mul_pos s 0
theorem M_fac (s : List Nat) : M s * facs s = fac s.sum := by
  have h := mul_fac s 0
  rw [Nat.zero_add] at h
  rw [← h]
  show mul 0 s * facs s = mul 0 s * (1 * facs s)
  rw [Nat.one_mul]
/-- One pick less of h. -/
def dec (s : List Nat) (h : Nat) : List Nat := s.set h (s.getD h 0 - 1)
theorem dec_length (s : List Nat) (h : Nat) : (dec s h).length = s.length := by unfold dec; simp
theorem dec_getD (s : List Nat) (h i : Nat) : (dec s h).getD i 0 = if i = h then s.getD h 0 - 1 else s.getD i 0 := by
  unfold dec
  rw [List.getD_eq_getElem?_getD, List.getElem?_set]
  by_cases e : h = i
  · subst e
    rw [if_pos rfl, if_pos rfl]
    by_cases hl : h < s.length
    · rw [if_pos hl]; rfl
    · rw [if_neg hl, List.getD_eq_getElem?_getD, List.getElem?_eq_none (by omega)]; rfl
  · rw [if_neg e, if_neg (fun z => e z.symm), List.getD_eq_getElem?_getD]
theorem facs_dec : ∀ (s : List Nat) (h : Nat), 0 < s.getD h 0 → facs s = s.getD h 0 * facs (dec s h)
  | [], h, hp => by simp at hp
  | n :: s, 0, hp => by
    have hn : 0 < n := hp
    obtain ⟨m, rfl⟩ : ∃ m, n = m + 1 := ⟨n - 1, by omega⟩
    show fac (m + 1) * facs s = (m + 1) * (fac m * facs s)
    rw [← Nat.mul_assoc]; rfl
  | n :: s, h + 1, hp => by
    have ih := facs_dec s h (by simpa using hp)
    show fac n * facs s = (n :: s).getD (h + 1) 0 * (fac n * facs (dec s h))
    rw [ih]
    simp only [List.getD_cons_succ]
    grind
theorem sum_dec : ∀ (s : List Nat) (h : Nat), 0 < s.getD h 0 → (dec s h).sum + 1 = s.sum
  | [], h, hp => by simp at hp
  | n :: s, 0, hp => by
    have hn : 0 < n := hp
    show (n - 1 + s.sum) + 1 = n + s.sum
    omega
  | n :: s, h + 1, hp => by
    have ih := sum_dec s h (by simpa using hp)
    show (n + (dec s h).sum) + 1 = n + s.sum
    omega
/-- How many mixes begin with h. -/
def w (s : List Nat) (h : Nat) : Nat := if 0 < s.getD h 0 then M (dec s h) else 0
def pre (s : List Nat) : Nat → Nat | 0 => 0 | h + 1 => pre s h + w s h
theorem w_mul (s : List Nat) (h : Nat) : w s h * facs s = s.getD h 0 * fac (s.sum - 1) := by
  unfold w
  by_cases hp : 0 < s.getD h 0
  · rw [if_pos hp, facs_dec s h hp]
    have e := M_fac (dec s h)
    have e2 := sum_dec s h hp
    rw [show s.sum - 1 = (dec s h).sum by omega, ← e]
    grind
  · rw [if_neg hp, show s.getD h 0 = 0 by omega]; simp
theorem sum_take_succ (s : List Nat) (h : Nat) : (s.take (h + 1)).sum = (s.take h).sum + s.getD h 0 := by
  rw [List.take_add_one, List.sum_append, List.getD_eq_getElem?_getD]
  cases s[h]? <;> simp
theorem pre_mul (s : List Nat) : ∀ h, pre s h * facs s = (s.take h).sum * fac (s.sum - 1)
  | 0 => by simp [pre]
  | h + 1 => by
    show (pre s h + w s h) * facs s = _
    rw [Nat.add_mul, pre_mul s h, w_mul, sum_take_succ, Nat.add_mul]
theorem pre_all (s : List Nat) (hs : 0 < s.sum) : pre s s.length = M s := by
  apply Nat.eq_of_mul_eq_mul_right (facs_pos s)
  rw [pre_mul, M_fac, List.take_length]
  obtain ⟨m, hm⟩ : ∃ m, s.sum = m + 1 := ⟨s.sum - 1, by omega⟩
  rw [hm]; rfl
theorem pre_mono (s : List Nat) (a d : Nat) : pre s a ≤ pre s (a + d) := by
  induction d with
  | zero => exact Nat.le_refl _
  | succ d ih => exact Nat.le_trans ih (Nat.le_add_right _ _)
theorem w_le (s : List Nat) (h : Nat) (hl : h < s.length) (hp : 0 < s.getD h 0) : M (dec s h) ≤ M s := by
  have hs : 0 < s.sum := by have := sum_dec s h hp; omega
  have h1 := pre_mono s (h + 1) (s.length - (h + 1))
  rw [show h + 1 + (s.length - (h + 1)) = s.length by omega, pre_all s hs] at h1
  have h2 : pre s (h + 1) = pre s h + w s h := rfl
  have h3 : w s h = M (dec s h) := by unfold w; rw [if_pos hp]
  omega
theorem M_zero (s : List Nat) (h : s.sum = 0) : M s = 1 := by
  have e := M_fac s
  have z : ∀ (s : List Nat), s.sum = 0 → facs s = 1 := by
    intro s
    induction s with
    | nil => intro _; rfl
    | cons n s ih =>
      intro h
      rw [List.sum_cons] at h
      obtain rfl : n = 0 := by omega
      show fac 0 * facs s = 1
      rw [ih (by omega)]; rfl
  rw [z s h, h] at e
  simpa [fac] using e
/-- l is the mix of s that has n ahead of it. -/
inductive At : List Nat → Nat → List Nat → Prop
  | nil (s : List Nat) : s.sum = 0 → At s 0 []
  | cons (s : List Nat) (n h : Nat) (l : List Nat) : h < s.length → 0 < s.getD h 0 → pre s h ≤ n → n < pre s h + M (dec s h) → At (dec s h) (n - pre s h) l → At s n (h :: l)
theorem At.length {s : List Nat} {n : Nat} {l : List Nat} (h : At s n l) : l.length = s.sum := by
  induction h with
  | nil s h => simp [h]
  | cons s n h l hl hp _ _ _ ih => rw [List.length_cons, ih, sum_dec s h hp]
theorem At.count {s : List Nat} {n : Nat} {l : List Nat} (h : At s n l) (i : Nat) : l.count i = s.getD i 0 := by
  induction h with
  | nil s h =>
    have z : ∀ (s : List Nat) (i : Nat), s.sum = 0 → s.getD i 0 = 0 := by
      intro s
      induction s with
      | nil => intro i _; rfl
      | cons n s ih =>
        intro i h
        rw [List.sum_cons] at h
        cases i with
        | zero => show n = 0; omega
        | succ i => exact ih i (by omega)
    rw [z s i h]; rfl
  | cons s n h l hl hp _ _ _ ih =>
    rw [List.count_cons, ih, dec_getD]
    by_cases e : i = h
    · subst e
      have z : (i == i) = true := by simp
      rw [if_pos rfl, if_pos z]; omega
    · have : (h == i) = false := by simpa using fun z => e z.symm
      rw [if_neg e, this]; simp
theorem At.mem {s : List Nat} {n : Nat} {l : List Nat} (h : At s n l) {i : Nat} (hi : i ∈ l) : i < s.length := by
  have hc := h.count i
  have := List.count_pos_iff.2 hi
  rcases Nat.lt_or_ge i s.length with z | z
  · exact z
  · rw [List.getD_eq_getElem?_getD, List.getElem?_eq_none z] at hc
    simp only [Option.getD_none] at hc
    omega
theorem At.bound {s : List Nat} {n : Nat} {l : List Nat} (h : At s n l) : n < M s := by
  cases h with
  | nil _ h => rw [M_zero s h]; exact Nat.one_pos
  | cons _ _ h l hl hp h1 h2 _ =>
    have hs : 0 < s.sum := by have := sum_dec s h hp; omega
    have h3 := pre_mono s (h + 1) (s.length - (h + 1))
    rw [show h + 1 + (s.length - (h + 1)) = s.length by omega, pre_all s hs] at h3
    have h4 : pre s (h + 1) = pre s h + w s h := rfl
    have h5 : w s h = M (dec s h) := by unfold w; rw [if_pos hp]
    omega
/-- The first place at which two lists of one length part: the first is below. -/
inductive Lt : List Nat → List Nat → Prop
  | here (a b : Nat) (l m : List Nat) : a < b → Lt (a :: l) (b :: m)
  | there (a : Nat) (l m : List Nat) : Lt l m → Lt (a :: l) (a :: m)
theorem At.lt {s : List Nat} {n : Nat} {l : List Nat} (h : At s n l) : ∀ {n' : Nat} {m : List Nat}, At s n' m → n < n' → Lt l m := by
  induction h with
  | nil s h => intro n' m hm hn; have := hm.bound; rw [M_zero s h] at this; omega
  | cons s n h l hl hp h1 h2 _ ih =>
    intro n' m hm hn
    cases hm with
    | nil _ hz => have := sum_dec s h hp; omega
    | cons _ _ h' m' hl' hp' h1' h2' hm' =>
      have w1 : w s h = M (dec s h) := by unfold w; rw [if_pos hp]
      have w2 : w s h' = M (dec s h') := by unfold w; rw [if_pos hp']
      rcases Nat.lt_trichotomy h h' with z | z | z
      · exact .here _ _ _ _ z
      · subst z; exact .there _ _ _ (ih hm' (by omega))
      · have := pre_mono s (h' + 1) (h - (h' + 1))
        rw [show h' + 1 + (h - (h' + 1)) = h by omega] at this
        have e : pre s (h' + 1) = pre s h' + w s h' := rfl
        omega
theorem At.unique {s : List Nat} {n : Nat} {l : List Nat} (h : At s n l) : ∀ {m : List Nat}, At s n m → l = m := by
  induction h with
  | nil s h =>
    intro m hm
    cases hm with
    | nil _ _ => rfl
    | cons _ _ h' m' hl' hp' _ _ _ => have := sum_dec s h' hp'; omega
  | cons s n h l hl hp h1 h2 _ ih =>
    intro m hm
    cases hm with
    | nil _ hz => have := sum_dec s h hp; omega
    | cons _ _ h' m' hl' hp' h1' h2' hm' =>
      have w1 : w s h = M (dec s h) := by unfold w; rw [if_pos hp]
      have w2 : w s h' = M (dec s h') := by unfold w; rw [if_pos hp']
      rcases Nat.lt_trichotomy h h' with z | z | z
      · have := pre_mono s (h + 1) (h' - (h + 1))
        rw [show h + 1 + (h' - (h + 1)) = h' by omega] at this
        have e : pre s (h + 1) = pre s h + w s h := rfl
        omega
      · subst z; rw [ih hm']
      · have := pre_mono s (h' + 1) (h - (h' + 1))
        rw [show h' + 1 + (h - (h' + 1)) = h by omega] at this
        have e : pre s (h' + 1) = pre s h' + w s h' := rfl
        omega
/-! trailing zeros say nothing -/
theorem mul_zeros (s : List Nat) (z : Nat) : ∀ p, mul p (s ++ List.replicate z 0) = mul p s := by
  induction s with
  | nil =>
    intro p
    induction z generalizing p with
    | zero => rfl
    | succ z ih =>
      show ch (p + 0) 0 * mul (p + 0) (List.replicate z 0) = 1
      rw [ch_zero, Nat.one_mul]
      exact ih (p + 0)
  | cons n s ih => intro p; show ch (p + n) n * mul (p + n) (s ++ List.replicate z 0) = _; rw [ih]; rfl
theorem M_zeros (s : List Nat) (z : Nat) : M (s ++ List.replicate z 0) = M s := mul_zeros s z 0
theorem getD_zeros (s : List Nat) (z h : Nat) : (s ++ List.replicate z 0).getD h 0 = s.getD h 0 := by
  rw [List.getD_eq_getElem?_getD, List.getD_eq_getElem?_getD]
  by_cases hl : h < s.length
  · rw [List.getElem?_append_left hl]
  · rw [List.getElem?_append_right (by omega), List.getElem?_replicate, List.getElem?_eq_none (l := s) (by omega)]
    split <;> rfl
theorem dec_zeros (s : List Nat) (z h : Nat) (hl : h < s.length) : dec (s ++ List.replicate z 0) h = dec s h ++ List.replicate z 0 := by
  unfold dec
  rw [getD_zeros, List.set_append_left _ _ hl]
theorem w_zeros (s : List Nat) (z h : Nat) : w (s ++ List.replicate z 0) h = w s h := by
  unfold w
  rw [getD_zeros]
  by_cases hp : 0 < s.getD h 0
  · have hl : h < s.length := by
      rcases Nat.lt_or_ge h s.length with y | y
      · exact y
      · rw [List.getD_eq_getElem?_getD, List.getElem?_eq_none y] at hp; simp at hp
    rw [if_pos hp, if_pos hp, dec_zeros s z h hl, M_zeros]
  · rw [if_neg hp, if_neg hp]
theorem pre_zeros (s : List Nat) (z : Nat) : ∀ h, pre (s ++ List.replicate z 0) h = pre s h
  | 0 => rfl
  | h + 1 => by show pre _ h + w _ h = _; rw [pre_zeros s z h, w_zeros]; rfl
theorem At.zeros {z : Nat} : ∀ {l : List Nat} {s : List Nat} {n : Nat}, At (s ++ List.replicate z 0) n l → At s n l
  | [], s, n, h => by
    cases h with
    | nil _ h => exact .nil s (by simpa using h)
  | i :: l, s, n, h => by
    cases h with
    | cons _ _ _ _ hl hp h1 h2 h3 =>
      rw [getD_zeros] at hp
      have hl : i < s.length := by
        rcases Nat.lt_or_ge i s.length with y | y
        · exact y
        · rw [List.getD_eq_getElem?_getD, List.getElem?_eq_none y] at hp; simp at hp
      rw [pre_zeros] at h1 h2 h3
      rw [dec_zeros s z i hl] at h2 h3
      rw [M_zeros] at h2
      exact .cons s n i l hl hp h1 h2 h3.zeros
theorem eq_zeros (a s : List Nat) (hl : a.length ≤ s.length) (h : ∀ i, a.getD i 0 = s.getD i 0) : s = a ++ List.replicate (s.length - a.length) 0 := by
  apply List.ext_getElem?
  intro i
  have hi := h i
  rw [List.getD_eq_getElem?_getD, List.getD_eq_getElem?_getD] at hi
  by_cases h1 : i < a.length
  · rw [List.getElem?_append_left h1, List.getElem?_eq_getElem h1, List.getElem?_eq_getElem (by omega)]
    rw [List.getElem?_eq_getElem h1, List.getElem?_eq_getElem (by omega)] at hi
    simpa using hi.symm
  · rw [List.getElem?_append_right (by omega), List.getElem?_replicate]
    rw [List.getElem?_eq_none (by omega)] at hi
    by_cases h2 : i < s.length
    · rw [if_pos (by omega), List.getElem?_eq_getElem h2]
      rw [List.getElem?_eq_getElem h2] at hi
      simpa using hi.symm
    · rw [if_neg (by omega), List.getElem?_eq_none (by omega)]
end Go.Proofs.Ytfcjfjmjcmanaaa.Mu
set_option linter.unusedVariables false
namespace Go.Proofs.Ytfcjfjmjcmanaaa.X
open Go.RowKit Go.Proofs.Ytfcjfjmjcmanaaa.PThere Go.Proofs.YtfcjfjmjcmanaaaW.PrintWords Go.Proofs.YtfcjfjmjcmanaaaW.PrintLast Go.Proofs.YtfcjfjmjcmanaaaW.PrintMore

theorem w64 (n : Int) : IntKind.u64.wrap n = n % 18446744073709551616 := by simp [IntKind.wrap, IntKind.bits, IntKind.signed]
theorem wraps64 (n : Int) (h0 : 0 ≤ n) (h1 : n < 2 ^ 64) : IntKind.u64.wrap n = n := by rw [w64]; omega
theorem ediv_tdiv {a b : Int} (h : 0 ≤ a) : Int.tdiv a b = a / b := Int.tdiv_eq_ediv_of_nonneg h
theorem div_l0 (k : Nat) (Y1 s A u1 u0 x16 : Int) (hY : 2147483648 ≤ Y1) (hY2 : Y1 < 4294967296) (hs : 0 ≤ s) (hA0 : 0 ≤ A) (hA : A < Y1 * 4294967296) (h1 : 0 ≤ u1) (h1' : u1 < 4294967296) :
    ∃ r, bits_Div64.l0 (k + 5) (Y1 * 4294967296) s Y1 0 A u1 u0 (A / Y1) x16 = some ((A * 4294967296 + u1) / Y1, r) := by
  have hp : 0 < Y1 := by omega
  obtain ⟨q1, hq1⟩ : ∃ q1, A / Y1 = q1 := ⟨_, rfl⟩
  obtain ⟨rh, hrh⟩ : ∃ rh, A % Y1 = rh := ⟨_, rfl⟩
  have eA : A = Y1 * q1 + rh := by rw [← hq1, ← hrh]; exact (Int.mul_ediv_add_emod A Y1).symm
  have r0 : 0 ≤ rh := by rw [← hrh]; exact Int.emod_nonneg _ (by omega)
  have r1 : rh < Y1 := by rw [← hrh]; exact Int.emod_lt_of_pos _ hp
  have q10 : 0 ≤ q1 := by rw [← hq1]; exact Int.ediv_nonneg hA0 (by omega)
  have q11 : q1 < 4294967296 := by rw [← hq1]; exact Int.ediv_lt_of_lt_mul hp (by rw [Int.mul_comm]; exact hA)
  obtain ⟨B, hB⟩ : ∃ B, rh * 4294967296 + u1 = B := ⟨_, rfl⟩
  obtain ⟨q0, hq0⟩ : ∃ q0, B / Y1 = q0 := ⟨_, rfl⟩
  have q00 : 0 ≤ q0 := by rw [← hq0]; exact Int.ediv_nonneg (by omega) (by omega)
  have q01 : q0 < 4294967296 := by rw [← hq0]; exact Int.ediv_lt_of_lt_mul hp (by omega)
  have hres : (A * 4294967296 + u1) / Y1 = q1 * 4294967296 + q0 := by
    have e : A * 4294967296 + u1 = B + Y1 * (q1 * 4294967296) := by rw [eA, ← hB]; grind
    rw [e, Int.add_mul_ediv_left _ _ (by omega), hq0]; omega
  have hB' : IntKind.u64.wrap ((IntKind.u64.wrap ((IntKind.u64.wrap (A * 4294967296)) + u1)) - (IntKind.u64.wrap (q1 * (Y1 * 4294967296)))) = B := by
    have e : q1 * (Y1 * 4294967296) = Y1 * q1 * 4294967296 := by grind
    rw [w64, w64, w64, w64, e]
    have : A * 4294967296 = Y1 * q1 * 4294967296 + rh * 4294967296 := by rw [eA]; grind
    obtain ⟨Z, hZ⟩ : ∃ Z, Y1 * q1 = Z := ⟨_, rfl⟩
    rw [hZ] at this ⊢
    omega
  have hw0 : ∀ x : Int, IntKind.u64.wrap (x * 0) = 0 := fun x => by rw [Int.mul_zero]; rfl
  have hn : ∀ x : Int, ¬ (0 > IntKind.u64.wrap x) := fun x => by rw [w64]; omega
  have hd : ∀ x y : Int, decide ((IntKind.u64.wrap (x * 0)) > IntKind.u64.wrap y) = false := fun x y => by rw [hw0]; exact decide_eq_false (hn y)
  refine ⟨shr .u64 (IntKind.u64.wrap ((IntKind.u64.wrap ((IntKind.u64.wrap (B * 4294967296)) + u0)) - (IntKind.u64.wrap (q0 * (Y1 * 4294967296))))) s, ?_⟩
  rw [hres]
  have hq0' : IntKind.u64.wrap (Int.tdiv B Y1) = q0 := by rw [ediv_tdiv (by omega), hq0]; exact wraps64 _ q00 (by omega)
  have hr : IntKind.u64.wrap ((IntKind.u64.wrap (q1 * 4294967296)) + q0) = q1 * 4294967296 + q0 := by rw [w64, w64]; omega
  have hz : ¬ (Y1 = 0) := by omega
  have hs1 : ¬ (q1 ≥ 4294967296) := by omega
  have hs0 : ¬ (q0 ≥ 4294967296) := by omega
  simp only [bits_Div64.l0]
  rw [hq1, if_neg hs1, hd]
  simp only [bits_Div64.j1]
  rw [if_neg (by simp)]
  simp only [bits_Div64.j2]
  rw [if_neg hz, hB', hq0']
  simp only [bits_Div64.l1]
  rw [if_neg hs0, hd]
  simp only [bits_Div64.j4]
  rw [if_neg (by simp), if_pos hs, hr]
theorem mask32 (x : Int) (h0 : 0 ≤ x) (h1 : x < 18446744073709551616) : Go.bits .and .u64 x 4294967295 = x % 4294967296 := by
  have := bits_mask .u64 64 (by decide) wraps64 32 (by decide) x h0 (by omega)
  exact this
theorem div_c59 (k : Nat) (y hi lo : Int) (hl : bits_LeadingZeros64.f y = some 59) (y0 : 16 ≤ y) (y1 : y ≤ 24) (h0 : 0 < hi) (h1 : hi < y) (l0 : 0 ≤ lo) (l1 : lo < 18446744073709551616) :
    ∃ r, bits_Div64.f (k + 5) hi lo y = some ((hi * 18446744073709551616 + lo) / y, r) := by
  have e1 : IntKind.u64.wrap (59) = 59 := rfl
  have e2 : IntKind.u64.wrap (64 - 59) = 5 := rfl
  have f1 : shl .u64 y 59 = y * 134217728 * 4294967296 := by
    show IntKind.u64.wrap (y * 576460752303423488) = _
    rw [w64]; omega
  have f2 : shl .u64 hi 59 = hi * 576460752303423488 := by
    show IntKind.u64.wrap (hi * 576460752303423488) = _
    rw [w64]; omega
  have f3 : shr .u64 lo 5 = lo / 32 := rfl
  have f4 : Go.bits .or .u64 (hi * 576460752303423488) (lo / 32) = hi * 576460752303423488 + lo / 32 :=
    bits_join .u64 64 (by decide) wraps64 59 _ _ (by omega) (by show hi * 576460752303423488 % 576460752303423488 = 0; omega) (by show hi * 576460752303423488 < 18446744073709551616; omega) (by omega) (by show lo / 32 < 576460752303423488; omega) (by show lo / 32 < 18446744073709551616; omega)
  have f5 : shl .u64 lo 59 = lo * 576460752303423488 % 18446744073709551616 := by
    show IntKind.u64.wrap (lo * 576460752303423488) = _
    rw [w64]
  have f6 : Go.bits .and .u64 (y * 134217728 * 4294967296) 4294967295 = 0 := by rw [mask32 _ (by omega) (by omega)]; omega
  have f7 : y * 134217728 * 4294967296 / 4294967296 = y * 134217728 := by omega
  have f8 : IntKind.u64.wrap (Int.tdiv (hi * 576460752303423488 + lo / 32) (y * 134217728)) = (hi * 576460752303423488 + lo / 32) / (y * 134217728) := by
    rw [ediv_tdiv (by omega)]
    refine wraps64 _ (Int.ediv_nonneg (by omega) (by omega)) ?_
    exact Int.ediv_lt_of_lt_mul (by omega) (by show hi * 576460752303423488 + lo / 32 < 18446744073709551616 * (y * 134217728); omega)
  obtain ⟨r, hr⟩ := div_l0 k (y * 134217728) 59 (hi * 576460752303423488 + lo / 32) ((lo * 576460752303423488 % 18446744073709551616) / 4294967296) (Go.bits .and .u64 (lo * 576460752303423488 % 18446744073709551616) 4294967295) (IntKind.u64.wrap ((hi * 576460752303423488 + lo / 32) - (IntKind.u64.wrap ((hi * 576460752303423488 + lo / 32) / (y * 134217728) * (y * 134217728))))) (by omega) (by omega) (by omega) (by omega) (by omega) (by omega) (by omega)
  have hx : (hi * 576460752303423488 + lo / 32) * 4294967296 + (lo * 576460752303423488 % 18446744073709551616) / 4294967296 = (hi * 18446744073709551616 + lo) * 134217728 := by omega
  rw [hx, Int.mul_ediv_mul_of_pos_left _ _ (by decide : (0 : Int) < 134217728)] at hr
  refine ⟨r, ?_⟩
  unfold bits_Div64.f
  rw [if_neg (by omega), if_neg (by omega), if_neg (by omega), hl]
  simp only [Option.bind_some]
  rw [e1, e2, if_pos (by decide), if_pos (by decide), f1, f2, f3, f4, f5, f6, f7, f8, if_neg (by omega)]
  exact hr
theorem div_c60 (k : Nat) (y hi lo : Int) (hl : bits_LeadingZeros64.f y = some 60) (y0 : 8 ≤ y) (y1 : y ≤ 15) (h0 : 0 < hi) (h1 : hi < y) (l0 : 0 ≤ lo) (l1 : lo < 18446744073709551616) :
    ∃ r, bits_Div64.f (k + 5) hi lo y = some ((hi * 18446744073709551616 + lo) / y, r) := by
  have e1 : IntKind.u64.wrap (60) = 60 := rfl
  have e2 : IntKind.u64.wrap (64 - 60) = 4 := rfl
  have f1 : shl .u64 y 60 = y * 268435456 * 4294967296 := by
    show IntKind.u64.wrap (y * 1152921504606846976) = _
    rw [w64]; omega
  have f2 : shl .u64 hi 60 = hi * 1152921504606846976 := by
    show IntKind.u64.wrap (hi * 1152921504606846976) = _
    rw [w64]; omega
  have f3 : shr .u64 lo 4 = lo / 16 := rfl
  have f4 : Go.bits .or .u64 (hi * 1152921504606846976) (lo / 16) = hi * 1152921504606846976 + lo / 16 :=
    bits_join .u64 64 (by decide) wraps64 60 _ _ (by omega) (by show hi * 1152921504606846976 % 1152921504606846976 = 0; omega) (by show hi * 1152921504606846976 < 18446744073709551616; omega) (by omega) (by show lo / 16 < 1152921504606846976; omega) (by show lo / 16 < 18446744073709551616; omega)
  have f5 : shl .u64 lo 60 = lo * 1152921504606846976 % 18446744073709551616 := by
    show IntKind.u64.wrap (lo * 1152921504606846976) = _
    rw [w64]
  have f6 : Go.bits .and .u64 (y * 268435456 * 4294967296) 4294967295 = 0 := by rw [mask32 _ (by omega) (by omega)]; omega
  have f7 : y * 268435456 * 4294967296 / 4294967296 = y * 268435456 := by omega
  have f8 : IntKind.u64.wrap (Int.tdiv (hi * 1152921504606846976 + lo / 16) (y * 268435456)) = (hi * 1152921504606846976 + lo / 16) / (y * 268435456) := by
    rw [ediv_tdiv (by omega)]
    refine wraps64 _ (Int.ediv_nonneg (by omega) (by omega)) ?_
    exact Int.ediv_lt_of_lt_mul (by omega) (by show hi * 1152921504606846976 + lo / 16 < 18446744073709551616 * (y * 268435456); omega)
  obtain ⟨r, hr⟩ := div_l0 k (y * 268435456) 60 (hi * 1152921504606846976 + lo / 16) ((lo * 1152921504606846976 % 18446744073709551616) / 4294967296) (Go.bits .and .u64 (lo * 1152921504606846976 % 18446744073709551616) 4294967295) (IntKind.u64.wrap ((hi * 1152921504606846976 + lo / 16) - (IntKind.u64.wrap ((hi * 1152921504606846976 + lo / 16) / (y * 268435456) * (y * 268435456))))) (by omega) (by omega) (by omega) (by omega) (by omega) (by omega) (by omega)
  have hx : (hi * 1152921504606846976 + lo / 16) * 4294967296 + (lo * 1152921504606846976 % 18446744073709551616) / 4294967296 = (hi * 18446744073709551616 + lo) * 268435456 := by omega
  rw [hx, Int.mul_ediv_mul_of_pos_left _ _ (by decide : (0 : Int) < 268435456)] at hr
  refine ⟨r, ?_⟩
  unfold bits_Div64.f
  rw [if_neg (by omega), if_neg (by omega), if_neg (by omega), hl]
  simp only [Option.bind_some]
  rw [e1, e2, if_pos (by decide), if_pos (by decide), f1, f2, f3, f4, f5, f6, f7, f8, if_neg (by omega)]
  exact hr
theorem div_c61 (k : Nat) (y hi lo : Int) (hl : bits_LeadingZeros64.f y = some 61) (y0 : 4 ≤ y) (y1 : y ≤ 7) (h0 : 0 < hi) (h1 : hi < y) (l0 : 0 ≤ lo) (l1 : lo < 18446744073709551616) :
    ∃ r, bits_Div64.f (k + 5) hi lo y = some ((hi * 18446744073709551616 + lo) / y, r) := by
  have e1 : IntKind.u64.wrap (61) = 61 := rfl
  have e2 : IntKind.u64.wrap (64 - 61) = 3 := rfl
  have f1 : shl .u64 y 61 = y * 536870912 * 4294967296 := by
    show IntKind.u64.wrap (y * 2305843009213693952) = _
    rw [w64]; omega
  have f2 : shl .u64 hi 61 = hi * 2305843009213693952 := by
    show IntKind.u64.wrap (hi * 2305843009213693952) = _
    rw [w64]; omega
  have f3 : shr .u64 lo 3 = lo / 8 := rfl
  have f4 : Go.bits .or .u64 (hi * 2305843009213693952) (lo / 8) = hi * 2305843009213693952 + lo / 8 :=
    bits_join .u64 64 (by decide) wraps64 61 _ _ (by omega) (by show hi * 2305843009213693952 % 2305843009213693952 = 0; omega) (by show hi * 2305843009213693952 < 18446744073709551616; omega) (by omega) (by show lo / 8 < 2305843009213693952; omega) (by show lo / 8 < 18446744073709551616; omega)
  have f5 : shl .u64 lo 61 = lo * 2305843009213693952 % 18446744073709551616 := by
    show IntKind.u64.wrap (lo * 2305843009213693952) = _
    rw [w64]
  have f6 : Go.bits .and .u64 (y * 536870912 * 4294967296) 4294967295 = 0 := by rw [mask32 _ (by omega) (by omega)]; omega
  have f7 : y * 536870912 * 4294967296 / 4294967296 = y * 536870912 := by omega
  have f8 : IntKind.u64.wrap (Int.tdiv (hi * 2305843009213693952 + lo / 8) (y * 536870912)) = (hi * 2305843009213693952 + lo / 8) / (y * 536870912) := by
    rw [ediv_tdiv (by omega)]
    refine wraps64 _ (Int.ediv_nonneg (by omega) (by omega)) ?_
    exact Int.ediv_lt_of_lt_mul (by omega) (by show hi * 2305843009213693952 + lo / 8 < 18446744073709551616 * (y * 536870912); omega)
  obtain ⟨r, hr⟩ := div_l0 k (y * 536870912) 61 (hi * 2305843009213693952 + lo / 8) ((lo * 2305843009213693952 % 18446744073709551616) / 4294967296) (Go.bits .and .u64 (lo * 2305843009213693952 % 18446744073709551616) 4294967295) (IntKind.u64.wrap ((hi * 2305843009213693952 + lo / 8) - (IntKind.u64.wrap ((hi * 2305843009213693952 + lo / 8) / (y * 536870912) * (y * 536870912))))) (by omega) (by omega) (by omega) (by omega) (by omega) (by omega) (by omega)
  have hx : (hi * 2305843009213693952 + lo / 8) * 4294967296 + (lo * 2305843009213693952 % 18446744073709551616) / 4294967296 = (hi * 18446744073709551616 + lo) * 536870912 := by omega
  rw [hx, Int.mul_ediv_mul_of_pos_left _ _ (by decide : (0 : Int) < 536870912)] at hr
  refine ⟨r, ?_⟩
  unfold bits_Div64.f
  rw [if_neg (by omega), if_neg (by omega), if_neg (by omega), hl]
  simp only [Option.bind_some]
  rw [e1, e2, if_pos (by decide), if_pos (by decide), f1, f2, f3, f4, f5, f6, f7, f8, if_neg (by omega)]
  exact hr
theorem div_c62 (k : Nat) (y hi lo : Int) (hl : bits_LeadingZeros64.f y = some 62) (y0 : 2 ≤ y) (y1 : y ≤ 3) (h0 : 0 < hi) (h1 : hi < y) (l0 : 0 ≤ lo) (l1 : lo < 18446744073709551616) :
    ∃ r, bits_Div64.f (k + 5) hi lo y = some ((hi * 18446744073709551616 + lo) / y, r) := by
  have e1 : IntKind.u64.wrap (62) = 62 := rfl
  have e2 : IntKind.u64.wrap (64 - 62) = 2 := rfl
  have f1 : shl .u64 y 62 = y * 1073741824 * 4294967296 := by
    show IntKind.u64.wrap (y * 4611686018427387904) = _
    rw [w64]; omega
  have f2 : shl .u64 hi 62 = hi * 4611686018427387904 := by
    show IntKind.u64.wrap (hi * 4611686018427387904) = _
    rw [w64]; omega
  have f3 : shr .u64 lo 2 = lo / 4 := rfl
  have f4 : Go.bits .or .u64 (hi * 4611686018427387904) (lo / 4) = hi * 4611686018427387904 + lo / 4 :=
    bits_join .u64 64 (by decide) wraps64 62 _ _ (by omega) (by show hi * 4611686018427387904 % 4611686018427387904 = 0; omega) (by show hi * 4611686018427387904 < 18446744073709551616; omega) (by omega) (by show lo / 4 < 4611686018427387904; omega) (by show lo / 4 < 18446744073709551616; omega)
  have f5 : shl .u64 lo 62 = lo * 4611686018427387904 % 18446744073709551616 := by
    show IntKind.u64.wrap (lo * 4611686018427387904) = _
    rw [w64]
  have f6 : Go.bits .and .u64 (y * 1073741824 * 4294967296) 4294967295 = 0 := by rw [mask32 _ (by omega) (by omega)]; omega
  have f7 : y * 1073741824 * 4294967296 / 4294967296 = y * 1073741824 := by omega
  have f8 : IntKind.u64.wrap (Int.tdiv (hi * 4611686018427387904 + lo / 4) (y * 1073741824)) = (hi * 4611686018427387904 + lo / 4) / (y * 1073741824) := by
    rw [ediv_tdiv (by omega)]
    refine wraps64 _ (Int.ediv_nonneg (by omega) (by omega)) ?_
    exact Int.ediv_lt_of_lt_mul (by omega) (by show hi * 4611686018427387904 + lo / 4 < 18446744073709551616 * (y * 1073741824); omega)
  obtain ⟨r, hr⟩ := div_l0 k (y * 1073741824) 62 (hi * 4611686018427387904 + lo / 4) ((lo * 4611686018427387904 % 18446744073709551616) / 4294967296) (Go.bits .and .u64 (lo * 4611686018427387904 % 18446744073709551616) 4294967295) (IntKind.u64.wrap ((hi * 4611686018427387904 + lo / 4) - (IntKind.u64.wrap ((hi * 4611686018427387904 + lo / 4) / (y * 1073741824) * (y * 1073741824))))) (by omega) (by omega) (by omega) (by omega) (by omega) (by omega) (by omega)
  have hx : (hi * 4611686018427387904 + lo / 4) * 4294967296 + (lo * 4611686018427387904 % 18446744073709551616) / 4294967296 = (hi * 18446744073709551616 + lo) * 1073741824 := by omega
  rw [hx, Int.mul_ediv_mul_of_pos_left _ _ (by decide : (0 : Int) < 1073741824)] at hr
  refine ⟨r, ?_⟩
  unfold bits_Div64.f
  rw [if_neg (by omega), if_neg (by omega), if_neg (by omega), hl]
  simp only [Option.bind_some]
  rw [e1, e2, if_pos (by decide), if_pos (by decide), f1, f2, f3, f4, f5, f6, f7, f8, if_neg (by omega)]
  exact hr
theorem div_c63 (k : Nat) (y hi lo : Int) (hl : bits_LeadingZeros64.f y = some 63) (y0 : 1 ≤ y) (y1 : y ≤ 1) (h0 : 0 < hi) (h1 : hi < y) (l0 : 0 ≤ lo) (l1 : lo < 18446744073709551616) :
    ∃ r, bits_Div64.f (k + 5) hi lo y = some ((hi * 18446744073709551616 + lo) / y, r) := by
  have e1 : IntKind.u64.wrap (63) = 63 := rfl
  have e2 : IntKind.u64.wrap (64 - 63) = 1 := rfl
  have f1 : shl .u64 y 63 = y * 2147483648 * 4294967296 := by
    show IntKind.u64.wrap (y * 9223372036854775808) = _
    rw [w64]; omega
  have f2 : shl .u64 hi 63 = hi * 9223372036854775808 := by
    show IntKind.u64.wrap (hi * 9223372036854775808) = _
    rw [w64]; omega
  have f3 : shr .u64 lo 1 = lo / 2 := rfl
  have f4 : Go.bits .or .u64 (hi * 9223372036854775808) (lo / 2) = hi * 9223372036854775808 + lo / 2 :=
    bits_join .u64 64 (by decide) wraps64 63 _ _ (by omega) (by show hi * 9223372036854775808 % 9223372036854775808 = 0; omega) (by show hi * 9223372036854775808 < 18446744073709551616; omega) (by omega) (by show lo / 2 < 9223372036854775808; omega) (by show lo / 2 < 18446744073709551616; omega)
  have f5 : shl .u64 lo 63 = lo * 9223372036854775808 % 18446744073709551616 := by
    show IntKind.u64.wrap (lo * 9223372036854775808) = _
    rw [w64]
  have f6 : Go.bits .and .u64 (y * 2147483648 * 4294967296) 4294967295 = 0 := by rw [mask32 _ (by omega) (by omega)]; omega
  have f7 : y * 2147483648 * 4294967296 / 4294967296 = y * 2147483648 := by omega
  have f8 : IntKind.u64.wrap (Int.tdiv (hi * 9223372036854775808 + lo / 2) (y * 2147483648)) = (hi * 9223372036854775808 + lo / 2) / (y * 2147483648) := by
    rw [ediv_tdiv (by omega)]
    refine wraps64 _ (Int.ediv_nonneg (by omega) (by omega)) ?_
    exact Int.ediv_lt_of_lt_mul (by omega) (by show hi * 9223372036854775808 + lo / 2 < 18446744073709551616 * (y * 2147483648); omega)
  obtain ⟨r, hr⟩ := div_l0 k (y * 2147483648) 63 (hi * 9223372036854775808 + lo / 2) ((lo * 9223372036854775808 % 18446744073709551616) / 4294967296) (Go.bits .and .u64 (lo * 9223372036854775808 % 18446744073709551616) 4294967295) (IntKind.u64.wrap ((hi * 9223372036854775808 + lo / 2) - (IntKind.u64.wrap ((hi * 9223372036854775808 + lo / 2) / (y * 2147483648) * (y * 2147483648))))) (by omega) (by omega) (by omega) (by omega) (by omega) (by omega) (by omega)
  have hx : (hi * 9223372036854775808 + lo / 2) * 4294967296 + (lo * 9223372036854775808 % 18446744073709551616) / 4294967296 = (hi * 18446744073709551616 + lo) * 2147483648 := by omega
  rw [hx, Int.mul_ediv_mul_of_pos_left _ _ (by decide : (0 : Int) < 2147483648)] at hr
  refine ⟨r, ?_⟩
  unfold bits_Div64.f
  rw [if_neg (by omega), if_neg (by omega), if_neg (by omega), hl]
  simp only [Option.bind_some]
  rw [e1, e2, if_pos (by decide), if_pos (by decide), f1, f2, f3, f4, f5, f6, f7, f8, if_neg (by omega)]
  exact hr
theorem bitLens : ∀ y : Fin 25, 1 ≤ y.1 → (y.1 = 1 ∧ Lib.bitLen y.1 = 1) ∨ (2 ≤ y.1 ∧ y.1 ≤ 3 ∧ Lib.bitLen y.1 = 2) ∨ (4 ≤ y.1 ∧ y.1 ≤ 7 ∧ Lib.bitLen y.1 = 3) ∨ (8 ≤ y.1 ∧ y.1 ≤ 15 ∧ Lib.bitLen y.1 = 4) ∨ (16 ≤ y.1 ∧ Lib.bitLen y.1 = 5) := by decide
theorem Div64_q (k : Nat) (y hi lo : Int) (y0 : 1 ≤ y) (y1 : y ≤ 24) (h0 : 0 ≤ hi) (h1 : hi < y) (l0 : 0 ≤ lo) (l1 : lo < 18446744073709551616) :
    ∃ r, bits_Div64.f (k + 5) hi lo y = some ((hi * 18446744073709551616 + lo) / y, r) := by
  by_cases hz : hi = 0
  · subst hz
    refine ⟨Int.tmod lo y, ?_⟩
    unfold bits_Div64.f
    rw [if_neg (by omega), if_neg (by omega), if_pos rfl, ediv_tdiv l0, wraps64 _ (Int.ediv_nonneg l0 (by omega)) (Int.lt_of_le_of_lt (Int.ediv_le_self _ l0) (by omega))]
    rw [Int.zero_mul, Int.zero_add]
  · have hb := bitLens ⟨y.toNat, by omega⟩ (by show 1 ≤ y.toNat; omega)
    have hl : ∀ b : Nat, Lib.bitLen y.toNat = b → bits_LeadingZeros64.f y = some (64 - (b : Int)) := fun b e => by
      unfold bits_LeadingZeros64.f
      rw [if_pos ⟨by omega, by omega⟩, e]
    rcases hb with ⟨b1, b2⟩ | ⟨b1, b2, b3⟩ | ⟨b1, b2, b3⟩ | ⟨b1, b2, b3⟩ | ⟨b1, b2⟩
    · simp only at b1
      exact div_c63 k y hi lo (hl 1 b2) (by omega) (by omega) (by omega) h1 l0 l1
    · simp only at b1 b2
      exact div_c62 k y hi lo (hl 2 b3) (by omega) (by omega) (by omega) h1 l0 l1
    · simp only at b1 b2
      exact div_c61 k y hi lo (hl 3 b3) (by omega) (by omega) (by omega) h1 l0 l1
    · simp only at b1 b2
      exact div_c60 k y hi lo (hl 4 b3) (by omega) (by omega) (by omega) h1 l0 l1
    · simp only at b1
      exact div_c59 k y hi lo (hl 5 b2) (by omega) (by omega) (by omega) h1 l0 l1
end Go.Proofs.Ytfcjfjmjcmanaaa.X
set_option linter.unusedVariables false
namespace Go.Proofs.Ytfcjfjmjcmanaaa.X
open Go.RowKit Go.Proofs.Ytfcjfjmjcmanaaa.PThere Go.Proofs.YtfcjfjmjcmanaaaW.PrintWords Go.Proofs.YtfcjfjmjcmanaaaW.PrintLast Go.Proofs.YtfcjfjmjcmanaaaW.PrintMore Go.Proofs.Ytfcjfjmjcmanaaa.Mu

def lift (s : List Nat) : List Int := s.map (fun n : Nat => (n : Int))
theorem lift_length (s : List Nat) : (lift s).length = s.length := by simp [lift]
theorem rd_lift (s : List Nat) (i : Nat) : rd (lift s) (i : Int) = (s.getD i 0 : Nat) := by
  unfold rd lift
  rw [Int.toNat_natCast, List.getD_eq_getElem?_getD, List.getElem?_map, List.getD_eq_getElem?_getD]
  cases s[i]? <;> rfl
theorem lift_set (s : List Nat) (i n : Nat) : (lift s).set i (n : Int) = lift (s.set i n) := by
  unfold lift; rw [List.map_set]
theorem wr {x : Int} (h0 : -9223372036854775808 ≤ x) (h1 : x < 9223372036854775808) : wrap64 x = x := by unfold wrap64; omega
theorem wn (m : Nat) (h : m ≤ 1000) : wrap64 ((m : Int) + 1) = ((m + 1 : Nat) : Int) := by rw [wr (by omega) (by omega)]; omega
theorem un (m : Nat) (h : m ≤ 1000) : IntKind.u64.wrap (m : Int) = (m : Int) := wraps64 _ (by omega) (by omega)
/-- What count tells. -/
def told (m : Nat) : Int × Bool := if m ≤ 4611686018427387904 then ((m : Int), true) else (0, false)
theorem told_no {m : Nat} (h : 4611686018427387904 < m) : told m = (0, false) := by unfold told; rw [if_neg (by omega)]
theorem told_yes {m : Nat} (h : m ≤ 4611686018427387904) : told m = ((m : Int), true) := by unfold told; rw [if_pos h]
theorem getD_mid (pre : List Nat) (n : Nat) (rest : List Nat) : (pre ++ n :: rest).getD pre.length 0 = n := by
  rw [List.getD_eq_getElem?_getD, List.getElem?_append_right (Nat.le_refl _)]; simp
theorem count_l1 (rest : List Nat) (p a n i len : Nat) (L : List Int) (ha : 0 < a) (hn : p + n ≤ 24)
    (ih : ∀ k, 2 * rest.length + rest.sum + 10 ≤ k → a * ch (p + n) n ≤ 4611686018427387904 →
      sched_count.l0 k ((a * ch (p + n) n : Nat) : Int) ((p + n : Nat) : Int) L (len : Int) (wrap64 ((i : Int) + 1)) = some (told (a * ch (p + n) n * mul (p + n) rest))) :
    ∀ (d j k : Nat), j + d = n → d + 2 * rest.length + rest.sum + 11 ≤ k → a * ch (p + j) j ≤ 9223372036854775808 →
      sched_count.l1 k ((a * ch (p + j) j : Nat) : Int) ((p + j : Nat) : Int) (n : Int) ((j + 1 : Nat) : Int) L (len : Int) (i : Int) = some (told (a * ch (p + n) n * mul (p + n) rest)) := by
  have hbig : ∀ j, j ≤ n → a * ch (p + j) j ≤ a * ch (p + n) n * mul (p + n) rest := fun j hj => by
    have h1 := ch_mono p j (n - j)
    rw [show j + (n - j) = n by omega] at h1
    have h2 : a * ch (p + j) j ≤ a * ch (p + n) n := Nat.mul_le_mul_left a h1
    exact Nat.le_trans h2 (Nat.le_mul_of_pos_right _ (mul_pos rest _))
  intro d
  induction d with
  | zero =>
    intro j k hj hk hc
    obtain rfl : j = n := by omega
    obtain ⟨k, rfl⟩ : ∃ m, k = m + 1 := ⟨k - 1, by omega⟩
    simp only [sched_count.l1]
    rw [if_neg (by omega)]
    by_cases h : a * ch (p + j) j ≤ 4611686018427387904
    · rw [if_neg (by omega)]
      exact ih k (by omega) h
    · rw [if_pos (by omega), told_no (by have := hbig j (Nat.le_refl _); omega)]
  | succ d ihd =>
    intro j k hj hk hc
    obtain ⟨k, rfl⟩ : ∃ m, k = m + 5 + 1 := ⟨k - 6, by omega⟩
    have ihd' := ihd (j + 1) (k + 5) (by omega) (by omega)
    have hjn : ((j + 1 : Nat) : Int) ≤ (n : Int) := by omega
    have hj24 : j + 1 ≤ 24 := by omega
    have hp24 : p + j + 1 ≤ 24 := by omega
    have b1 : p + j ≤ 1000 := by omega
    have b2 : j + 1 ≤ 1000 := by omega
    have b3 : p + j + 1 ≤ 1000 := by omega
    have b4 : j + 1 ≤ n := by omega
    have hw5 := Lib.hid (wn (p + j) b1)
    have hw8 := Lib.hid (wn (j + 1) b2)
    have hw := Lib.hid (un (p + j + 1) b3)
    have hw9 := Lib.hid (un (j + 1) b2)
    clear b1 b2 b3
    have hb1 := hbig (j + 1) b4
    have hstep := ch_step p j
    clear hbig ihd ih
    rw [show p + (j + 1) = p + j + 1 from rfl] at ihd' hb1 hstep
    generalize ch (p + j + 1) (j + 1) = x' at *
    generalize ch (p + j) j = x at *
    generalize ch (p + n) n = y at *
    obtain ⟨F, hF⟩ : ∃ F, a * y * mul (p + n) rest = F := ⟨_, rfl⟩
    rw [hF] at ihd' hb1 ⊢
    clear hF
    obtain ⟨c, hcc⟩ : ∃ c, a * x = c := ⟨_, rfl⟩
    obtain ⟨c', hcc'⟩ : ∃ c', a * x' = c' := ⟨_, rfl⟩
    have hZ : c * (p + j + 1) = (j + 1) * c' := by rw [← hcc, ← hcc', Nat.mul_assoc, ← hstep]; grind
    rw [hcc'] at ihd' hb1
    rw [hcc] at hc ⊢
    clear hstep hcc hcc' y x x'
    have hm : bits_Mul64.f (c : Int) ((p + j + 1 : Nat) : Int) = some ((((j + 1) * c' : Nat) : Int) / 18446744073709551616, (((j + 1) * c' : Nat) : Int) % 18446744073709551616) := by
      unfold bits_Mul64.f
      rw [if_pos ⟨by omega, by omega, by omega, by omega⟩]
      have : (c : Int) * ((p + j + 1 : Nat) : Int) = (((j + 1) * c' : Nat) : Int) := by rw [← hZ, Int.natCast_mul]
      rw [this]
    simp only [sched_count.l1]
    rw [if_pos hjn, hw5.out, hw.out, hm]
    simp only [Option.bind_some]
    rw [hw9.out]
    have hZc : ((j : Int) + 1) * (c' : Int) = (((j + 1) * c' : Nat) : Int) := by rw [Int.natCast_mul]; rfl
    obtain ⟨Z, hZZ⟩ : ∃ Z : Nat, (j + 1) * c' = Z := ⟨_, rfl⟩
    rw [hZZ] at hZc ⊢
    by_cases hi : ((Z : Int) / 18446744073709551616) ≥ ((j + 1 : Nat) : Int)
    · rw [if_pos hi]
      have h1 : (j + 1) * 18446744073709551616 ≤ Z := by omega
      have h2 : 18446744073709551616 ≤ c' := by rw [← hZZ] at h1; exact Nat.le_of_mul_le_mul_left h1 (Nat.succ_pos j)
      rw [told_no (by omega)]
    · rw [if_neg hi]
      obtain ⟨r, hq⟩ := Div64_q k ((j + 1 : Nat) : Int) ((Z : Int) / 18446744073709551616) ((Z : Int) % 18446744073709551616) (by omega) (by omega) (by omega) (by omega) (by omega) (by omega)
      have e : (Z : Int) / 18446744073709551616 * 18446744073709551616 + (Z : Int) % 18446744073709551616 = Z := by omega
      have e2 : (Z : Int) / ((j + 1 : Nat) : Int) = (c' : Int) := by
        rw [← hZZ, Int.natCast_mul]
        exact Int.mul_ediv_cancel_left _ (by omega)
      rw [e, e2] at hq
      rw [hq]
      simp only [Option.bind_some]
      by_cases hc2 : (c' : Int) > 9223372036854775808
      · rw [if_pos hc2, told_no (by omega)]
      · rw [if_neg hc2, hw8.out]
        exact ihd' (by omega)
theorem count_l0 : ∀ (rest pre : List Nat) (p a k : Nat), p = pre.sum → p + rest.sum ≤ 24 → pre.length + rest.length ≤ 1000 → 0 < a → a ≤ 4611686018427387904 → 2 * rest.length + rest.sum + 10 ≤ k →
    sched_count.l0 k (a : Int) (p : Int) (lift (pre ++ rest)) ((pre ++ rest).length : Int) (pre.length : Int) = some (told (a * mul p rest)) := by
  intro rest
  induction rest with
  | nil =>
    intro pre p a k hp hs hl ha ha2 hk
    obtain ⟨k, rfl⟩ : ∃ m, k = m + 1 := ⟨k - 1, by omega⟩
    simp only [sched_count.l0]
    rw [if_neg (by simp), wr (by omega) (by omega)]
    show some ((a : Int), true) = some (told (a * 1))
    rw [Nat.mul_one, told_yes ha2]
  | cons n rest ih =>
    intro pre p a k hp hs hl ha ha2 hk
    obtain ⟨k, rfl⟩ : ∃ m, k = m + 1 := ⟨k - 1, by simp at hk; omega⟩
    simp only [List.sum_cons, List.length_cons] at hs hl hk
    simp only [sched_count.l0]
    rw [if_pos (by simp; omega), if_pos (by omega), if_pos (by rw [lift_length]; simp; omega), rd_lift, getD_mid]
    have h1 := count_l1 rest p a n pre.length (pre ++ n :: rest).length (lift (pre ++ n :: rest)) ha (by omega) (fun k' hk' hle => by
      have := ih (pre ++ [n]) (p + n) (a * ch (p + n) n) k' (by simp [hp]) (by omega) (by simp; omega) (Nat.mul_pos ha (ch_pos _ _)) hle hk'
      rw [List.append_assoc, List.singleton_append, show (pre ++ [n]).length = pre.length + 1 by simp] at this
      rw [wn _ (by omega)]
      exact this) n 0 k (by omega) (by omega) (by rw [ch_zero]; omega)
    rw [ch_zero, Nat.mul_one] at h1
    have e : a * mul p (n :: rest) = a * ch (p + n) n * mul (p + n) rest := by
      show a * (ch (p + n) n * mul (p + n) rest) = _
      rw [Nat.mul_assoc]
    rw [e]
    exact h1
/-- count at small steps. -/
theorem count_spec (s : List Nat) (hs : s.sum ≤ 24) (hl : s.length ≤ 16) (k : Nat) (hk : 80 ≤ k) : sched_count.f k (lift s) = some (told (M s)) := by
  unfold sched_count.f
  have h := count_l0 s [] 0 1 k rfl (by omega) (by simp; omega) (by omega) (by omega) (by omega)
  rw [List.nil_append, Nat.one_mul] at h
  rw [lift_length]
  exact h
theorem ways_spec (s : List Nat) (hs : s.sum ≤ 24) (hl : s.length ≤ 16) (hm : M s ≤ 4611686018427387904) (k : Nat) (hk : 80 ≤ k) : sched_ways.f k (lift s) = some ((M s : Nat) : Int) := by
  unfold sched_ways.f
  rw [count_spec s hs hl k hk, told_yes hm]; rfl
end Go.Proofs.Ytfcjfjmjcmanaaa.X
set_option linter.unusedVariables false
namespace Go.Proofs.Ytfcjfjmjcmanaaa.X
open Go.RowKit Go.Proofs.Ytfcjfjmjcmanaaa.PThere Go.Proofs.YtfcjfjmjcmanaaaW.PrintWords Go.Proofs.YtfcjfjmjcmanaaaW.PrintLast Go.Proofs.YtfcjfjmjcmanaaaW.PrintMore Go.Proofs.Ytfcjfjmjcmanaaa.Mu

/-- Steps that Count takes. -/
def Right (s : List Nat) : Prop := 1 ≤ s.length ∧ s.length ≤ 16 ∧ s.sum ≤ 24
theorem sum_nonneg : ∀ l : List Int, (∀ x ∈ l, 0 ≤ x) → 0 ≤ l.sum
  | [], _ => by simp
  | x :: l, h => by
    have h1 := h x (by simp)
    have h2 := sum_nonneg l (fun y hy => h y (by simp [hy]))
    rw [List.sum_cons]; omega
theorem right_l0 : ∀ (rest pre : List Int) (p : Int) (k : Nat), 0 ≤ p → p + 24 * rest.length ≤ 1000 → pre.length + rest.length ≤ 1000 → rest.length + 1 ≤ k →
    sched_stepsRight.l0 k p (pre ++ rest) ((pre ++ rest).length : Int) (pre.length : Int) = some (decide ((∀ x ∈ rest, 0 ≤ x ∧ x ≤ 24) ∧ p + rest.sum ≤ 24)) := by
  intro rest
  induction rest with
  | nil =>
    intro pre p k h0 h1 h2 hk
    obtain ⟨k, rfl⟩ : ∃ m, k = m + 1 := ⟨k - 1, by omega⟩
    simp only [sched_stepsRight.l0]
    rw [if_neg (by simp)]
    simp
  | cons x rest ih =>
    intro pre p k h0 h1 h2 hk
    simp only [List.length_cons] at h1 h2 hk
    obtain ⟨k, rfl⟩ : ∃ m, k = m + 1 := ⟨k - 1, by omega⟩
    have hr : rd (pre ++ x :: rest) (pre.length : Int) = x := by
      unfold rd
      rw [Int.toNat_natCast, List.getD_eq_getElem?_getD, List.getElem?_append_right (Nat.le_refl _)]; simp
    simp only [sched_stepsRight.l0]
    rw [if_pos (by simp; omega), if_pos (by omega), if_pos (by simp; omega), hr]
    by_cases x0 : x < 0
    · rw [if_pos x0]
      refine congrArg some (decide_eq_false ?_).symm
      intro h; have := h.1 x (by simp); omega
    · rw [if_neg x0]
      by_cases x1 : x > 24
      · rw [if_pos x1]
        refine congrArg some (decide_eq_false ?_).symm
        intro h; have := h.1 x (by simp); omega
      · rw [if_neg x1, wr (by omega) (by omega), wn _ (by omega)]
        have := ih (pre ++ [x]) (p + x) k (by omega) (by omega) (by simp; omega) (by omega)
        rw [List.append_assoc, List.singleton_append, show (pre ++ [x]).length = pre.length + 1 by simp] at this
        rw [this]
        refine congrArg some (decide_eq_decide.2 ?_)
        rw [List.sum_cons, ← Int.add_assoc]
        constructor
        · rintro ⟨ha, hb⟩
          exact ⟨fun y hy => by rcases List.mem_cons.1 hy with rfl | hy; exact ⟨by omega, by omega⟩; exact ha y hy, hb⟩
        · rintro ⟨ha, hb⟩
          exact ⟨fun y hy => ha y (List.mem_cons_of_mem _ hy), hb⟩
theorem lift_of : ∀ l : List Int, (∀ x ∈ l, 0 ≤ x) → ∃ s, l = lift s
  | [], _ => ⟨[], rfl⟩
  | x :: l, h => by
    obtain ⟨s, rfl⟩ := lift_of l (fun y hy => h y (by simp [hy]))
    exact ⟨x.toNat :: s, by have := h x (by simp); show x :: lift s = (x.toNat : Int) :: lift s; rw [Int.toNat_of_nonneg this]⟩
theorem lift_sum : ∀ s : List Nat, (lift s).sum = (s.sum : Nat)
  | [] => rfl
  | n :: s => by show (n : Int) + (lift s).sum = _; rw [lift_sum s, List.sum_cons]; omega
theorem le_sum : ∀ (s : List Nat) (x : Nat), x ∈ s → x ≤ s.sum
  | n :: s, x, h => by
    rw [List.sum_cons]
    rcases List.mem_cons.1 h with rfl | h
    · omega
    · have := le_sum s x h; omega
/-- stepsRight: yes just at right steps. -/
theorem stepsRight_spec (l : List Int) (k : Nat) (hk : 80 ≤ k) : (∃ s, l = lift s ∧ Right s ∧ sched_stepsRight.f k l = some true) ∨ sched_stepsRight.f k l = some false := by
  unfold sched_stepsRight.f sched_handlersRight.f
  by_cases h1 : (l.length : Int) ≥ 1
  · rw [if_pos h1]
    simp only [Option.bind_some]
    by_cases h2 : (l.length : Int) ≤ 16
    · rw [if_pos (by simpa using h2)]
      have h := right_l0 l [] 0 k (by omega) (by omega) (by simp; omega) (by omega)
      rw [List.nil_append] at h
      have h : sched_stepsRight.l0 k 0 l (l.length : Int) 0 = some (decide ((∀ x ∈ l, 0 ≤ x ∧ x ≤ 24) ∧ 0 + l.sum ≤ 24)) := h
      rw [h]
      by_cases hp : (∀ x ∈ l, 0 ≤ x ∧ x ≤ 24) ∧ 0 + l.sum ≤ 24
      · left
        obtain ⟨s, rfl⟩ := lift_of l (fun x hx => (hp.1 x hx).1)
        rw [lift_length] at h1 h2
        have h3 := hp.2
        rw [lift_sum] at h3
        exact ⟨s, rfl, ⟨by omega, by omega, by omega⟩, by rw [decide_eq_true hp]⟩
      · right; rw [decide_eq_false hp]
    · right; rw [if_neg (by simpa using h2)]
  · right; rw [if_neg h1]; rfl
theorem stepsRight_yes (s : List Nat) (h : Right s) (k : Nat) (hk : 80 ≤ k) : sched_stepsRight.f k (lift s) = some true := by
  obtain ⟨h1, h2, h3⟩ := h
  unfold sched_stepsRight.f sched_handlersRight.f
  rw [if_pos (by rw [lift_length]; omega)]
  simp only [Option.bind_some]
  rw [if_pos (by rw [lift_length]; simp; omega)]
  have h := right_l0 (lift s) [] 0 k (by omega) (by rw [lift_length]; omega) (by rw [lift_length]; simp; omega) (by rw [lift_length]; omega)
  rw [List.nil_append] at h
  refine h.trans (congrArg some (decide_eq_true ⟨fun x hx => ?_, by rw [lift_sum]; omega⟩))
  obtain ⟨n, hn, rfl⟩ := List.mem_map.1 hx
  have := le_sum s n hn
  omega
theorem Count_spec (s : List Nat) (h : Right s) (k : Nat) (hk : 80 ≤ k) : sched_Count.f k (lift s) = some (if M s ≤ 4611686018427387904 then (((M s : Nat) : Int), 0) else (0, 26)) := by
  unfold sched_Count.f
  rw [stepsRight_yes s h k hk]
  simp only [Option.bind_some, if_true]
  rw [count_spec s h.2.2 h.2.1 k hk]
  simp only [Option.bind_some]
  unfold told
  by_cases hm : M s ≤ 4611686018427387904
  · rw [if_pos hm, if_pos hm]; rfl
  · rw [if_neg hm, if_neg hm]; rfl
/-- Count at every list: it tells the number, or an error (2 or 26). -/
theorem Count_any (l : List Int) (k : Nat) (hk : 80 ≤ k) : (∃ s, l = lift s ∧ Right s ∧ M s ≤ 4611686018427387904 ∧ sched_Count.f k l = some (((M s : Nat) : Int), 0)) ∨ (∃ e, e ≠ 0 ∧ sched_Count.f k l = some (0, e)) := by
  rcases stepsRight_spec l k hk with ⟨s, rfl, hr, h⟩ | h
  · have hc := Count_spec s hr k hk
    by_cases hm : M s ≤ 4611686018427387904
    · rw [if_pos hm] at hc; exact .inl ⟨s, rfl, hr, hm, hc⟩
    · rw [if_neg hm] at hc; exact .inr ⟨26, by decide, hc⟩
  · right
    refine ⟨2, by decide, ?_⟩
    unfold sched_Count.f
    rw [h]; rfl
theorem sum_l0 : ∀ (rest pre : List Nat) (k : Nat), (pre ++ rest).sum ≤ 1000 → pre.length + rest.length ≤ 1000 → rest.length + 1 ≤ k →
    sched_sum.l0 k (pre.sum : Nat) (lift (pre ++ rest)) ((pre ++ rest).length : Int) (pre.length : Int) = some (((pre ++ rest).sum : Nat) : Int) := by
  intro rest
  induction rest with
  | nil =>
    intro pre k h1 h2 hk
    obtain ⟨k, rfl⟩ : ∃ m, k = m + 1 := ⟨k - 1, by omega⟩
    simp only [sched_sum.l0]
    rw [if_neg (by simp), List.append_nil]
  | cons n rest ih =>
    intro pre k h1 h2 hk
    simp only [List.length_cons] at h2 hk
    obtain ⟨k, rfl⟩ : ∃ m, k = m + 1 := ⟨k - 1, by omega⟩
    have h3 : pre.sum + n ≤ 1000 := by rw [List.sum_append, List.sum_cons] at h1; omega
    simp only [sched_sum.l0]
    rw [if_pos (by simp; omega), if_pos (by omega), if_pos (by rw [lift_length]; simp; omega), rd_lift, getD_mid, wr (by omega) (by omega), wn _ (by omega)]
    have := ih (pre ++ [n]) k (by rw [List.append_assoc]; exact h1) (by simp; omega) (by omega)
    rw [List.append_assoc, List.singleton_append, show (pre ++ [n]).length = pre.length + 1 by simp, show (pre ++ [n]).sum = pre.sum + n by simp] at this
    exact this
theorem sum_spec (s : List Nat) (h : Right s) (k : Nat) (hk : 80 ≤ k) : sched_sum.f k (lift s) = some ((s.sum : Nat) : Int) := by
  obtain ⟨h1, h2, h3⟩ := h
  have h := sum_l0 s [] k (by simp; omega) (by simp; omega) (by omega)
  rw [List.nil_append] at h
  unfold sched_sum.f
  rw [lift_length]
  exact h
theorem dec_back (s : List Nat) (h : Nat) (hp : 0 < s.getD h 0) : (dec s h).set h ((dec s h).getD h 0 + 1) = s := by
  rw [dec_getD, if_pos rfl]
  unfold dec
  rw [List.set_set, show s.getD h 0 - 1 + 1 = s.getD h 0 by omega]
  rw [List.getD_eq_getElem?_getD]
  by_cases hl : h < s.length
  · rw [List.getElem?_eq_getElem hl]; simp
  · rw [List.getElem?_eq_none (by omega), List.set_eq_of_length_le (by omega)]
theorem getD_le (s : List Nat) (i : Nat) : s.getD i 0 ≤ s.sum := by
  rw [List.getD_eq_getElem?_getD]
  by_cases hl : i < s.length
  · rw [List.getElem?_eq_getElem hl]; exact le_sum s _ (List.getElem_mem hl)
  · rw [List.getElem?_eq_none (by omega)]; exact Nat.zero_le _
/-- Nth's inner loop: the first pick of the mix that has n ahead of it. -/
theorem Nth_l1 (m : Nat) (s : List Nat) (hs : s.sum = m + 1) (hm : m + 1 ≤ 24) (hl : s.length ≤ 16) (hM : M s ≤ 4611686018427387904) (n : Nat) (hn : n < M s) (acc : List Int) (ha : acc.length + m + 1 ≤ 100) (i tot : Int)
    (ih : ∀ h k, h < s.length → 0 < s.getD h 0 → pre s h ≤ n → n < pre s h + M (dec s h) → 100 + 20 * m ≤ k →
      ∃ l, At (dec s h) (n - pre s h) l ∧ sched_Nth.l0 k ((n - pre s h : Nat) : Int) (lift (dec s h)) (acc ++ [(h : Int)]) tot (wrap64 (i + 1)) = some ((acc ++ [(h : Int)]) ++ lift l, 0)) :
    ∀ (d j k : Nat), j + d = s.length → pre s j ≤ n → 100 + 20 * m + d + 1 ≤ k →
      ∃ l, At s n l ∧ sched_Nth.l1 k ((n - pre s j : Nat) : Int) (lift s) acc tot i (s.length : Int) (j : Int) = some (acc ++ lift l, 0) := by
  intro d
  induction d with
  | zero =>
    intro j k hj hp hk
    have := pre_all s (by omega)
    rw [show j = s.length by omega] at hp
    omega
  | succ d ihd =>
    intro j k hj hp hk
    obtain ⟨k, rfl⟩ : ∃ m, k = m + 1 := ⟨k - 1, by omega⟩
    have hle := getD_le s j
    have hwj := Lib.hid (wn j (by omega))
    simp only [sched_Nth.l1]
    rw [if_pos (by omega), if_pos (by omega), if_pos (by rw [lift_length]; omega), rd_lift]
    have hpre : pre s (j + 1) = pre s j + w s j := rfl
    by_cases hz : s.getD j 0 = 0
    · rw [if_pos (by omega), hwj.out]
      have hw : w s j = 0 := by unfold w; rw [if_neg (by omega)]
      have := ihd (j + 1) k (by omega) (by omega) (by omega)
      rw [hpre, hw, Nat.add_zero] at this
      exact this
    · have hp0 : 0 < s.getD j 0 := by omega
      have hw : w s j = M (dec s j) := by unfold w; rw [if_pos hp0]
      rw [if_neg (by omega)]
      have e1 : Hid (wrap64 (((s.getD j 0 : Nat) : Int) - 1) = ((s.getD j 0 - 1 : Nat) : Int)) := Lib.hid (by rw [wr (by omega) (by omega)]; omega)
      have e2 : (lift s).set ((j : Int)).toNat ((s.getD j 0 - 1 : Nat) : Int) = lift (dec s j) := by rw [Int.toNat_natCast, lift_set]; rfl
      have hsd := sum_dec s j hp0
      have hMd := w_le s j (by omega) hp0
      have hways := ways_spec (dec s j) (by omega) (by rw [dec_length]; exact hl) (by omega) k (by omega)
      rw [e1.out, e2]
      simp only [Option.bind_some]
      rw [hways]
      simp only [Option.bind_some]
      by_cases hlt : n < pre s j + M (dec s j)
      · rw [if_pos (by omega), if_pos (by omega)]
        obtain ⟨l, hA, hE⟩ := ih j k (by omega) hp0 hp hlt (by omega)
        refine ⟨j :: l, .cons s n j l (by omega) hp0 hp hlt hA, ?_⟩
        rw [hE, List.append_assoc]; rfl
      · rw [if_neg (by omega)]
        have e3 : rd (lift (dec s j)) (j : Int) = ((dec s j).getD j 0 : Nat) := rd_lift _ _
        have e4 : (dec s j).getD j 0 ≤ 24 := by have := getD_le (dec s j) j; omega
        have e5 : (lift (dec s j)).set ((j : Int)).toNat (((dec s j).getD j 0 + 1 : Nat) : Int) = lift s := by rw [Int.toNat_natCast, lift_set, dec_back s j hp0]
        have e6 : Hid (wrap64 (((n - pre s j : Nat) : Int) - ((M (dec s j) : Nat) : Int)) = ((n - pre s (j + 1) : Nat) : Int)) := Lib.hid (by rw [wr (by omega) (by omega)]; omega)
        rw [e3, wn _ (by omega), e5, e6.out, hwj.out]
        exact ihd (j + 1) k (by omega) (by omega) (by omega)
theorem Nth_l0 : ∀ (m : Nat) (s : List Nat), s.sum = m → m ≤ 24 → s.length ≤ 16 → M s ≤ 4611686018427387904 → ∀ (n : Nat), n < M s → ∀ (acc : List Int), acc.length + m ≤ 100 → ∀ (i tot : Int), 0 ≤ i → i + m = tot → tot ≤ 1000 → ∀ k, 100 + 20 * m ≤ k →
      ∃ l, At s n l ∧ sched_Nth.l0 k (n : Int) (lift s) acc tot i = some (acc ++ lift l, 0) := by
  intro m
  induction m with
  | zero =>
    intro s hs h24 hl hM n hn acc ha i tot hi ht ht2 k hk
    obtain ⟨k, rfl⟩ : ∃ m, k = m + 1 := ⟨k - 1, by omega⟩
    have hz := M_zero s hs
    obtain rfl : n = 0 := by omega
    refine ⟨[], .nil s hs, ?_⟩
    simp only [sched_Nth.l0]
    rw [if_neg (by omega)]
    simp [lift]
  | succ m ih =>
    intro s hs h24 hl hM n hn acc ha i tot hi ht ht2 k hk
    obtain ⟨k, rfl⟩ : ∃ m, k = m + 1 := ⟨k - 1, by omega⟩
    simp only [sched_Nth.l0]
    rw [if_pos (by omega), lift_length]
    have h := Nth_l1 m s hs h24 hl hM n hn acc (by omega) i tot (fun h k' hh hp h1 h2 hk' => by
      have hsd := sum_dec s h hp
      have hMd := w_le s h hh hp
      have := ih (dec s h) (by omega) (by omega) (by rw [dec_length]; exact hl) (by omega) (n - pre s h) (by omega) (acc ++ [(h : Int)]) (by simp; omega) (wrap64 (i + 1)) tot (by rw [wr (by omega) (by omega)]; omega) (by rw [wr (by omega) (by omega)]; omega) ht2 k' hk'
      exact this) s.length 0 k (by omega) (by show 0 ≤ n; omega) (by omega)
    exact h
/-- Nth: the mix that has n ahead of it. -/
theorem Nth_spec (s : List Nat) (h : Right s) (hM : M s ≤ 4611686018427387904) (n : Nat) (hn : n < M s) (k : Nat) (hk : 1000 ≤ k) : ∃ l, At s n l ∧ sched_Nth.f k (lift s) (n : Int) = some (lift l, 0) := by
  unfold sched_Nth.f
  rw [Count_spec s h k (by omega), if_pos hM]
  simp only [Option.bind_some, if_true]
  rw [if_neg (by omega), decide_eq_false (by omega)]
  obtain ⟨k, rfl⟩ : ∃ m, k = m + 1 := ⟨k - 1, by omega⟩
  simp only [sched_Nth.j0]
  rw [if_neg (by simp), show slices_Clone.f (lift s) = some (lift s) by unfold slices_Clone.f; rw [if_pos (by rw [lift_length]; have := h.2.1; omega)]]
  simp only [Option.bind_some]
  rw [sum_spec s h k (by omega)]
  simp only [Option.bind_some]
  obtain ⟨l, hA, hE⟩ := Nth_l0 s.sum s rfl h.2.2 h.2.1 hM n hn [] (by have := h.2.2; simp; omega) 0 (s.sum : Int) (by omega) (by omega) (by have := h.2.2; omega) k (by have := h.2.2; omega)
  exact ⟨l, hA, hE⟩
/-- Nth, where there is no such mix. -/
theorem Nth_out (s : List Nat) (h : Right s) (hM : M s ≤ 4611686018427387904) (n : Int) (hn : n < 0 ∨ ((M s : Nat) : Int) ≤ n) (k : Nat) (hk : 1000 ≤ k) : sched_Nth.f k (lift s) n = some ([], 2) := by
  unfold sched_Nth.f
  rw [Count_spec s h k (by omega), if_pos hM]
  simp only [Option.bind_some, if_true]
  obtain ⟨k, rfl⟩ : ∃ m, k = m + 1 := ⟨k - 1, by omega⟩
  by_cases h0 : n < 0
  · rw [if_pos h0]
    simp only [sched_Nth.j0]
    rw [if_pos trivial]
  · rw [if_neg h0, decide_eq_true (by omega)]
    simp only [sched_Nth.j0]
    rw [if_pos trivial]
theorem Nth_wrong (l : List Int) (n e : Int) (he : e ≠ 0) (k : Nat) (h : sched_Count.f k l = some (0, e)) : sched_Nth.f k l n = some ([], e) := by
  unfold sched_Nth.f
  rw [h]
  simp only [Option.bind_some]
  rw [if_neg he]
end Go.Proofs.Ytfcjfjmjcmanaaa.X
