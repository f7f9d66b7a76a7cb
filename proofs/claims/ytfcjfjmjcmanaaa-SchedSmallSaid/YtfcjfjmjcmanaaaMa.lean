/- Multinomial numbers: in how many orders picks can come; the sum over the first pick. Plain: nothing of the program. -/
namespace Go.Proofs.Ytfcjfjmjcmanaaa.Mu
def fac : Nat → Nat | 0 => 1 | n+1 => (n+1) * fac n
theorem fac_pos : ∀ n, 0 < fac n
  | 0 => Nat.one_pos
  | n + 1 => Nat.mul_pos (Nat.succ_pos n) (fac_pos n)
def ch : Nat → Nat → Nat
 | _, 0 => 1
 | 0, _+1 => 0
 | n+1, k+1 => ch n k + ch n (k+1)
theorem ch_zero (n : Nat) : ch n 0 = 1 := by cases n <;> rfl
theorem ch_self_lt : ∀ n j, ch n (n + 1 + j) = 0 := by
  intro n
  induction n with
  | zero => intro j; rw [show 0 + 1 + j = j + 1 by omega]; rfl
  | succ n ih =>
    intro j
    rw [show n + 1 + 1 + j = (n + 1 + j) + 1 by omega]
    show ch n (n + 1 + j) + ch n (n + 1 + j + 1) = 0
    rw [ih j, show n + 1 + j + 1 = n + 1 + (j + 1) by omega, ih (j + 1)]
theorem ch_self : ∀ n, ch n n = 1
  | 0 => rfl
  | n + 1 => by
    show ch n n + ch n (n + 1) = 1
    rw [ch_self n, ch_self_lt n 0]
theorem ch_fac_m : ∀ (m a b : Nat), a + b = m → ch (a + b) a * (fac a * fac b) = fac (a + b) := by
  intro m
  induction m with
  | zero =>
    intro a b h
    obtain rfl : a = 0 := by omega
    obtain rfl : b = 0 := by omega
    rfl
  | succ m ih =>
    intro a b h
    cases a with
    | zero => simp [ch, fac]
    | succ a =>
      cases b with
      | zero => simp [ch_self, fac]
      | succ b =>
        have h1 := ih a (b + 1) (by omega)
        have h2 := ih (a + 1) b (by omega)
        have e : a + 1 + (b + 1) = (a + b + 1) + 1 := by omega
        rw [show a + (b + 1) = a + b + 1 by omega] at h1
        rw [show a + 1 + b = a + b + 1 by omega] at h2
        rw [e]
        show (ch (a + b + 1) a + ch (a + b + 1) (a + 1)) * ((a + 1) * fac a * ((b + 1) * fac b)) = (a + b + 1 + 1) * fac (a + b + 1)
        have f1 : fac (a + 1) = (a + 1) * fac a := rfl
        have f2 : fac (b + 1) = (b + 1) * fac b := rfl
        rw [f2] at h1
        rw [f1] at h2
        grind
theorem ch_fac (p n : Nat) : ch (p + n) n * (fac n * fac p) = fac (p + n) := by
  rw [Nat.add_comm p n]; exact ch_fac_m _ n p rfl
theorem ch_pos (p n : Nat) : 0 < ch (p + n) n := by
  have h := ch_fac p n
  have := fac_pos (p + n)
  rcases Nat.eq_zero_or_pos (ch (p + n) n) with z | z
  · rw [z] at h; omega
  · exact z
theorem ch_step (p j : Nat) : (j + 1) * ch (p + (j + 1)) (j + 1) = ch (p + j) j * (p + j + 1) := by
  have h1 := ch_fac p j
  have h2 := ch_fac p (j + 1)
  have f1 : fac (j + 1) = (j + 1) * fac j := rfl
  have f2 : fac (p + (j + 1)) = (p + j + 1) * fac (p + j) := rfl
  have hp : 0 < fac j * fac p := Nat.mul_pos (fac_pos _) (fac_pos _)
  apply Nat.eq_of_mul_eq_mul_right hp
  rw [f1, f2, ← h1] at h2
  grind
theorem ch_mono1 (p j : Nat) : ch (p + j) j ≤ ch (p + (j + 1)) (j + 1) := by
  show ch (p + j) j ≤ ch (p + j) j + ch (p + j) (j + 1)
  omega
theorem ch_mono (p j d : Nat) : ch (p + j) j ≤ ch (p + (j + d)) (j + d) := by
  induction d with
  | zero => exact Nat.le_refl _
  | succ d ih => exact Nat.le_trans ih (ch_mono1 p (j + d))
def mul : Nat → List Nat → Nat
  | _, [] => 1
  | p, n :: s => ch (p + n) n * mul (p + n) s
def facs : List Nat → Nat | [] => 1 | n :: s => fac n * facs s
theorem facs_pos : ∀ s, 0 < facs s
  | [] => Nat.one_pos
  | n :: s => Nat.mul_pos (fac_pos n) (facs_pos s)
theorem mul_pos : ∀ s p, 0 < mul p s
  | [], _ => Nat.one_pos
  | n :: s, p => Nat.mul_pos (ch_pos p n) (mul_pos s (p + n))
theorem mul_fac : ∀ (s : List Nat) (p : Nat), mul p s * (fac p * facs s) = fac (p + s.sum)
  | [], p => by simp [mul, facs]
  | n :: s, p => by
    have h := mul_fac s (p + n)
    have h2 := ch_fac p n
    rw [List.sum_cons, ← Nat.add_assoc, ← h]
    show ch (p + n) n * mul (p + n) s * (fac p * (fac n * facs s)) = _
    rw [← h2]
    grind
def M (s : List Nat) : Nat := mul 0 s
theorem M_pos (s : List Nat) : 0 < M s := mul_pos s 0
theorem M_fac (s : List Nat) : M s * facs s = fac s.sum := by
  have h := mul_fac s 0
  rw [Nat.zero_add] at h
  rw [← h]
  show mul 0 s * facs s = mul 0 s * (1 * facs s)
  rw [Nat.one_mul]
/-- One pick less of h. -/
def dec (s : List Nat) (h : Nat) : List Nat := s.set h (s.getD h 0 - 1)
theorem dec_length (s : List Nat) (h : Nat) : (dec s h).length = s.length := by unfold dec; simp
theorem dec_getD (s : List Nat) (h i : Nat) : (dec s h).getD i 0 = if i = h then s.getD h 0 - 1 else s.getD i 0 := by
  unfold dec
  rw [List.getD_eq_getElem?_getD, List.getElem?_set]
  by_cases e : h = i
  · subst e
    rw [if_pos rfl, if_pos rfl]
    by_cases hl : h < s.length
    · rw [if_pos hl]; rfl
    · rw [if_neg hl, List.getD_eq_getElem?_getD, List.getElem?_eq_none (by omega)]; rfl
  · rw [if_neg e, if_neg (fun z => e z.symm), List.getD_eq_getElem?_getD]
theorem facs_dec : ∀ (s : List Nat) (h : Nat), 0 < s.getD h 0 → facs s = s.getD h 0 * facs (dec s h)
  | [], h, hp => by simp at hp
  | n :: s, 0, hp => by
    have hn : 0 < n := hp
    obtain ⟨m, rfl⟩ : ∃ m, n = m + 1 := ⟨n - 1, by omega⟩
    show fac (m + 1) * facs s = (m + 1) * (fac m * facs s)
    rw [← Nat.mul_assoc]; rfl
  | n :: s, h + 1, hp => by
    have ih := facs_dec s h (by simpa using hp)
    show fac n * facs s = (n :: s).getD (h + 1) 0 * (fac n * facs (dec s h))
    rw [ih]
    simp only [List.getD_cons_succ]
    grind
theorem sum_dec : ∀ (s : List Nat) (h : Nat), 0 < s.getD h 0 → (dec s h).sum + 1 = s.sum
  | [], h, hp => by simp at hp
  | n :: s, 0, hp => by
    have hn : 0 < n := hp
    show (n - 1 + s.sum) + 1 = n + s.sum
    omega
  | n :: s, h + 1, hp => by
    have ih := sum_dec s h (by simpa using hp)
    show (n + (dec s h).sum) + 1 = n + s.sum
    omega
/-- How many mixes begin with h. -/
def w (s : List Nat) (h : Nat) : Nat := if 0 < s.getD h 0 then M (dec s h) else 0
def pre (s : List Nat) : Nat → Nat | 0 => 0 | h + 1 => pre s h + w s h
theorem w_mul (s : List Nat) (h : Nat) : w s h * facs s = s.getD h 0 * fac (s.sum - 1) := by
  unfold w
  by_cases hp : 0 < s.getD h 0
  · rw [if_pos hp, facs_dec s h hp]
    have e := M_fac (dec s h)
    have e2 := sum_dec s h hp
    rw [show s.sum - 1 = (dec s h).sum by omega, ← e]
    grind
  · rw [if_neg hp, show s.getD h 0 = 0 by omega]; simp
theorem sum_take_succ (s : List Nat) (h : Nat) : (s.take (h + 1)).sum = (s.take h).sum + s.getD h 0 := by
  rw [List.take_add_one, List.sum_append, List.getD_eq_getElem?_getD]
  cases s[h]? <;> simp
theorem pre_mul (s : List Nat) : ∀ h, pre s h * facs s = (s.take h).sum * fac (s.sum - 1)
  | 0 => by simp [pre]
  | h + 1 => by
    show (pre s h + w s h) * facs s = _
    rw [Nat.add_mul, pre_mul s h, w_mul, sum_take_succ, Nat.add_mul]
theorem pre_all (s : List Nat) (hs : 0 < s.sum) : pre s s.length = M s := by
  apply Nat.eq_of_mul_eq_mul_right (facs_pos s)
  rw [pre_mul, M_fac, List.take_length]
  obtain ⟨m, hm⟩ : ∃ m, s.sum = m + 1 := ⟨s.sum - 1, by omega⟩
  rw [hm]; rfl
theorem pre_mono (s : List Nat) (a d : Nat) : pre s a ≤ pre s (a + d) := by
  induction d with
  | zero => exact Nat.le_refl _
  | succ d ih => exact Nat.le_trans ih (Nat.le_add_right _ _)
theorem w_le (s : List Nat) (h : Nat) (hl : h < s.length) (hp : 0 < s.getD h 0) : M (dec s h) ≤ M s := by
  have hs : 0 < s.sum := by have := sum_dec s h hp; omega
  have h1 := pre_mono s (h + 1) (s.length - (h + 1))
  rw [show h + 1 + (s.length - (h + 1)) = s.length by omega, pre_all s hs] at h1
  have h2 : pre s (h + 1) = pre s h + w s h := rfl
  have h3 : w s h = M (dec s h) := by unfold w; rw [if_pos hp]
  omega
theorem M_zero (s : List Nat) (h : s.sum = 0) : M s = 1 := by
  have e := M_fac s
  have z : ∀ (s : List Nat), s.sum = 0 → facs s = 1 := by
    intro s
    induction s with
    | nil => intro _; rfl
    | cons n s ih =>
      intro h
      rw [List.sum_cons] at h
      obtain rfl : n = 0 := by omega
      show fac 0 * facs s = 1
      rw [ih (by omega)]; rfl
  rw [z s h, h] at e
  simpa [fac] using e
/-- l is the mix of s that has n ahead of it. -/
inductive At : List Nat → Nat → List Nat → Prop
  | nil (s : List Nat) : s.sum = 0 → At s 0 []
  | cons (s : List Nat) (n h : Nat) (l : List Nat) : h < s.length → 0 < s.getD h 0 → pre s h ≤ n → n < pre s h + M (dec s h) → At (dec s h) (n - pre s h) l → At s n (h :: l)
theorem At.length {s : List Nat} {n : Nat} {l : List Nat} (h : At s n l) : l.length = s.sum := by
  induction h with
  | nil s h => simp [h]
  | cons s n h l hl hp _ _ _ ih => rw [List.length_cons, ih, sum_dec s h hp]
theorem At.count {s : List Nat} {n : Nat} {l : List Nat} (h : At s n l) (i : Nat) : l.count i = s.getD i 0 := by
  induction h with
  | nil s h =>
    have z : ∀ (s : List Nat) (i : Nat), s.sum = 0 → s.getD i 0 = 0 := by
      intro s
      induction s with
      | nil => intro i _; rfl
      | cons n s ih =>
        intro i h
        rw [List.sum_cons] at h
        cases i with
        | zero => show n = 0; omega
        | succ i => exact ih i (by omega)
    rw [z s i h]; rfl
  | cons s n h l hl hp _ _ _ ih =>
    rw [List.count_cons, ih, dec_getD]
    by_cases e : i = h
    · subst e
      have z : (i == i) = true := by simp
      rw [if_pos rfl, if_pos z]; omega
    · have : (h == i) = false := by simpa using fun z => e z.symm
      rw [if_neg e, this]; simp
theorem At.mem {s : List Nat} {n : Nat} {l : List Nat} (h : At s n l) {i : Nat} (hi : i ∈ l) : i < s.length := by
  have hc := h.count i
  have := List.count_pos_iff.2 hi
  rcases Nat.lt_or_ge i s.length with z | z
  · exact z
  · rw [List.getD_eq_getElem?_getD, List.getElem?_eq_none z] at hc
    simp only [Option.getD_none] at hc
    omega
theorem At.bound {s : List Nat} {n : Nat} {l : List Nat} (h : At s n l) : n < M s := by
  cases h with
  | nil _ h => rw [M_zero s h]; exact Nat.one_pos
  | cons _ _ h l hl hp h1 h2 _ =>
    have hs : 0 < s.sum := by have := sum_dec s h hp; omega
    have h3 := pre_mono s (h + 1) (s.length - (h + 1))
    rw [show h + 1 + (s.length - (h + 1)) = s.length by omega, pre_all s hs] at h3
    have h4 : pre s (h + 1) = pre s h + w s h := rfl
    have h5 : w s h = M (dec s h) := by unfold w; rw [if_pos hp]
    omega
/-- The first place at which two lists of one length part: the first is below. -/
inductive Lt : List Nat → List Nat → Prop
  | here (a b : Nat) (l m : List Nat) : a < b → Lt (a :: l) (b :: m)
  | there (a : Nat) (l m : List Nat) : Lt l m → Lt (a :: l) (a :: m)
theorem At.lt {s : List Nat} {n : Nat} {l : List Nat} (h : At s n l) : ∀ {n' : Nat} {m : List Nat}, At s n' m → n < n' → Lt l m := by
  induction h with
  | nil s h => intro n' m hm hn; have := hm.bound; rw [M_zero s h] at this; omega
  | cons s n h l hl hp h1 h2 _ ih =>
    intro n' m hm hn
    cases hm with
    | nil _ hz => have := sum_dec s h hp; omega
    | cons _ _ h' m' hl' hp' h1' h2' hm' =>
      have w1 : w s h = M (dec s h) := by unfold w; rw [if_pos hp]
      have w2 : w s h' = M (dec s h') := by unfold w; rw [if_pos hp']
      rcases Nat.lt_trichotomy h h' with z | z | z
      · exact .here _ _ _ _ z
      · subst z; exact .there _ _ _ (ih hm' (by omega))
      · have := pre_mono s (h' + 1) (h - (h' + 1))
        rw [show h' + 1 + (h - (h' + 1)) = h by omega] at this
        have e : pre s (h' + 1) = pre s h' + w s h' := rfl
        omega
theorem At.unique {s : List Nat} {n : Nat} {l : List Nat} (h : At s n l) : ∀ {m : List Nat}, At s n m → l = m := by
  induction h with
  | nil s h =>
    intro m hm
    cases hm with
    | nil _ _ => rfl
    | cons _ _ h' m' hl' hp' _ _ _ => have := sum_dec s h' hp'; omega
  | cons s n h l hl hp h1 h2 _ ih =>
    intro m hm
    cases hm with
    | nil _ hz => have := sum_dec s h hp; omega
    | cons _ _ h' m' hl' hp' h1' h2' hm' =>
      have w1 : w s h = M (dec s h) := by unfold w; rw [if_pos hp]
      have w2 : w s h' = M (dec s h') := by unfold w; rw [if_pos hp']
      rcases Nat.lt_trichotomy h h' with z | z | z
      · have := pre_mono s (h + 1) (h' - (h + 1))
        rw [show h + 1 + (h' - (h + 1)) = h' by omega] at this
        have e : pre s (h + 1) = pre s h + w s h := rfl
        omega
      · subst z; rw [ih hm']
      · have := pre_mono s (h' + 1) (h - (h' + 1))
        rw [show h' + 1 + (h - (h' + 1)) = h by omega] at this
        have e : pre s (h' + 1) = pre s h' + w s h' := rfl
        omega
/-! trailing zeros say nothing -/
theorem mul_zeros (s : List Nat) (z : Nat) : ∀ p, mul p (s ++ List.replicate z 0) = mul p s := by
  induction s with
  | nil =>
    intro p
    induction z generalizing p with
    | zero => rfl
    | succ z ih =>
      show ch (p + 0) 0 * mul (p + 0) (List.replicate z 0) = 1
      rw [ch_zero, Nat.one_mul]
      exact ih (p + 0)
  | cons n s ih => intro p; show ch (p + n) n * mul (p + n) (s ++ List.replicate z 0) = _; rw [ih]; rfl
theorem M_zeros (s : List Nat) (z : Nat) : M (s ++ List.replicate z 0) = M s := mul_zeros s z 0
theorem getD_zeros (s : List Nat) (z h : Nat) : (s ++ List.replicate z 0).getD h 0 = s.getD h 0 := by
  rw [List.getD_eq_getElem?_getD, List.getD_eq_getElem?_getD]
  by_cases hl : h < s.length
  · rw [List.getElem?_append_left hl]
  · rw [List.getElem?_append_right (by omega), List.getElem?_replicate, List.getElem?_eq_none (l := s) (by omega)]
    split <;> rfl
theorem dec_zeros (s : List Nat) (z h : Nat) (hl : h < s.length) : dec (s ++ List.replicate z 0) h = dec s h ++ List.replicate z 0 := by
  unfold dec
  rw [getD_zeros, List.set_append_left _ _ hl]
theorem w_zeros (s : List Nat) (z h : Nat) : w (s ++ List.replicate z 0) h = w s h := by
  unfold w
  rw [getD_zeros]
  by_cases hp : 0 < s.getD h 0
  · have hl : h < s.length := by
      rcases Nat.lt_or_ge h s.length with y | y
      · exact y
      · rw [List.getD_eq_getElem?_getD, List.getElem?_eq_none y] at hp; simp at hp
    rw [if_pos hp, if_pos hp, dec_zeros s z h hl, M_zeros]
  · rw [if_neg hp, if_neg hp]
theorem pre_zeros (s : List Nat) (z : Nat) : ∀ h, pre (s ++ List.replicate z 0) h = pre s h
  | 0 => rfl
  | h + 1 => by show pre _ h + w _ h = _; rw [pre_zeros s z h, w_zeros]; rfl
theorem At.zeros {z : Nat} : ∀ {l : List Nat} {s : List Nat} {n : Nat}, At (s ++ List.replicate z 0) n l → At s n l
  | [], s, n, h => by
    cases h with
    | nil _ h => exact .nil s (by simpa using h)
  | i :: l, s, n, h => by
    cases h with
    | cons _ _ _ _ hl hp h1 h2 h3 =>
      rw [getD_zeros] at hp
      have hl : i < s.length := by
        rcases Nat.lt_or_ge i s.length with y | y
        · exact y
        · rw [List.getD_eq_getElem?_getD, List.getElem?_eq_none y] at hp; simp at hp
      rw [pre_zeros] at h1 h2 h3
      rw [dec_zeros s z i hl] at h2 h3
      rw [M_zeros] at h2
      exact .cons s n i l hl hp h1 h2 h3.zeros
theorem eq_zeros (a s : List Nat) (hl : a.length ≤ s.length) (h : ∀ i, a.getD i 0 = s.getD i 0) : s = a ++ List.replicate (s.length - a.length) 0 := by
  apply List.ext_getElem?
  intro i
  have hi := h i
  rw [List.getD_eq_getElem?_getD, List.getD_eq_getElem?_getD] at hi
  by_cases h1 : i < a.length
  · rw [List.getElem?_append_left h1, List.getElem?_eq_getElem h1, List.getElem?_eq_getElem (by omega)]
    rw [List.getElem?_eq_getElem h1, List.getElem?_eq_getElem (by omega)] at hi
    simpa using hi.symm
  · rw [List.getElem?_append_right (by omega), List.getElem?_replicate]
    rw [List.getElem?_eq_none (by omega)] at hi
    by_cases h2 : i < s.length
    · rw [if_pos (by omega), List.getElem?_eq_getElem h2]
      rw [List.getElem?_eq_getElem h2] at hi
      simpa using hi.symm
    · rw [if_neg (by omega), List.getElem?_eq_none (by omega)]
end Go.Proofs.Ytfcjfjmjcmanaaa.Mu
