/- SchedLeast: the plain law on lists of picks that are alike. -/
import Derived.Test.YtfcjfjmjcmanaaaLc
set_option linter.unusedVariables false
namespace Go.Proofs.Ytfcjfjmjcmanaaa.X
open Go.RowKit Go.Proofs.YtfcjfjmjcmanaaaW.PrintWords Go.Proofs.YtfcjfjmjcmanaaaW.PrintLast Go.Proofs.YtfcjfjmjcmanaaaW.PrintMore
/-- Can the first x come to the front? -/
def fv (t : Int → Int → Bool) (x : Int) : List Int → Bool
  | [] => false
  | y :: r => if y = x then true else t y x && fv t x r
/-- Apartness as it is: both ways, of two. -/
structure Ap (t : Int → Int → Bool) : Prop where
  symm : ∀ x y, t x y = t y x
  irr : ∀ x, t x x = false
theorem tab_ap (ps : List (Int × Int)) : Ap (tab ps) := by
  constructor
  · intro x y
    unfold tab
    congr 1
    funext p
    rw [Bool.or_comm]
    congr 2 <;> rw [Bool.and_comm]
  · intro x
    unfold tab
    rw [List.any_eq_false]
    rintro ⟨a, b⟩ _ h
    simp only [bne_iff_ne, Bool.and_eq_true, Bool.or_eq_true, beq_iff_eq] at h
    omega
theorem fv_mem {t : Int → Int → Bool} {x : Int} : ∀ {L : List Int}, fv t x L = true → x ∈ L
  | y :: r, h => by
    unfold fv at h
    split at h
    · rename_i e; rw [e]; exact List.mem_cons_self
    · exact List.mem_cons_of_mem _ (fv_mem (Bool.and_eq_true _ _ |>.mp h).2)
theorem fv_front {t : Int → Int → Bool} (ht : Ap t) (L : List Int) (i : Nat) (hi : i < L.length) (hf : (L.take i).all (fun h => t h L[i]) = true) : fv t L[i] L = true ∧ L.eraseIdx i = L.erase L[i] := by
  induction L generalizing i with
  | nil => simp at hi
  | cons y r ih =>
    cases i with
    | zero => simp [fv]
    | succ i =>
      simp only [List.length_cons] at hi
      simp only [List.getElem_cons_succ, List.take_succ_cons, List.all_cons, Bool.and_eq_true] at hf ⊢
      obtain ⟨h1, h2⟩ := ih i (by omega) hf.2
      have hne : y ≠ r[i] := fun e => by rw [e, ht.irr] at hf; exact absurd hf.1 (by simp)
      constructor
      · unfold fv
        rw [if_neg hne, hf.1, h1]; rfl
      · rw [List.eraseIdx_cons_succ, h2, List.erase_cons_tail (by simpa using hne)]
theorem fv_index {t : Int → Int → Bool} {x : Int} : ∀ {L : List Int}, fv t x L = true → ∃ (i : Nat) (hi : i < L.length), L[i] = x ∧ (L.take i).all (fun h => t h x) = true
  | y :: r, h => by
    unfold fv at h
    split at h
    · rename_i e; exact ⟨0, by simp, e, by simp⟩
    · obtain ⟨h1, h2⟩ := Bool.and_eq_true _ _ |>.mp h
      obtain ⟨i, hi, e, hf⟩ := fv_index h2
      exact ⟨i + 1, by simpa using hi, e, by simp [h1, hf]⟩
theorem rd_get (L : List Int) (i : Nat) (hi : i < L.length) : rd L (i : Int) = L[i] := by
  unfold rd; rw [Int.toNat_natCast, List.getD_eq_getElem?_getD, List.getElem?_eq_getElem hi]; rfl
theorem rb_best (t : Int → Int → Bool) (L : List Int) : ∀ i, i ≤ L.length → 0 < i → ∃ b : Nat, rb t L i = (b : Int) ∧ b < i ∧ front t L b = true ∧ ∀ j, j < i → front t L j = true → rd L (b : Int) ≤ rd L (j : Int)
  | 0, _, h => by omega
  | i + 1, hi, _ => by
    unfold rb
    by_cases hz : i = 0
    · subst hz
      refine ⟨0, by rw [if_pos ⟨by simp [front], .inl (by simp [rb])⟩], by omega, by simp [front], fun j hj _ => ?_⟩
      obtain rfl : j = 0 := by omega
      exact Int.le_refl _
    · obtain ⟨b, hb, hbi, hf, hmin⟩ := rb_best t L i (by omega) (by omega)
      by_cases hc : front t L i = true ∧ (rb t L i < 0 ∨ rd L (i : Int) < rd L (rb t L i))
      · rw [if_pos hc]
        refine ⟨i, rfl, by omega, hc.1, fun j hj hfj => ?_⟩
        have hlt : rd L (i : Int) < rd L (b : Int) := by rw [hb] at hc; rcases hc.2 with h | h; omega; exact h
        rcases Nat.lt_or_ge j i with h | h
        · have := hmin j h hfj; omega
        · obtain rfl : j = i := by omega
          exact Int.le_refl _
      · rw [if_neg hc]
        refine ⟨b, hb, by omega, hf, fun j hj hfj => ?_⟩
        rcases Nat.lt_or_ge j i with h | h
        · exact hmin j h hfj
        · obtain rfl : j = i := by omega
          rw [hb] at hc
          exact Int.not_lt.1 fun z => hc ⟨hfj, .inr z⟩
/-- The order, one step, in terms of what can come to the front. -/
theorem lst_next {t : Int → Int → Bool} (ht : Ap t) (L : List Int) (h : 0 < L.length) : ∃ m, fv t m L = true ∧ (∀ x, fv t x L = true → m ≤ x) ∧ lst t L.length L = m :: lst t (L.erase m).length (L.erase m) := by
  obtain ⟨b, hb, hbl, hf, hmin⟩ := rb_best t L L.length (Nat.le_refl _) h
  have hg := rd_get L b hbl
  unfold front at hf
  rw [hg] at hf
  obtain ⟨h1, h2⟩ := fv_front ht L b hbl hf
  refine ⟨L[b], h1, fun x hx => ?_, ?_⟩
  · obtain ⟨i, hi, e, hfi⟩ := fv_index hx
    have := hmin i hi (by unfold front; rw [rd_get L i hi, e]; exact hfi)
    rw [hg, rd_get L i hi, e] at this
    exact this
  · obtain ⟨n, hn⟩ : ∃ n, L.length = n + 1 := ⟨L.length - 1, by omega⟩
    have hl : (L.erase L[b]).length = n := by rw [List.length_erase_of_mem (List.getElem_mem _)]; omega
    rw [hl]
    conv => lhs; rw [hn]
    show rd L (rb t L L.length) :: lst t n (L.eraseIdx (rb t L L.length).toNat) = _
    rw [hb, hg, Int.toNat_natCast, h2]
theorem fv_swap {t : Int → Int → Bool} (ht : Ap t) (x a b : Int) (hab : t a b = true) (q : List Int) : ∀ p : List Int, fv t x (p ++ a :: b :: q) = fv t x (p ++ b :: a :: q)
  | [] => by
    have hba : t b a = true := by rw [ht.symm]; exact hab
    have hne : a ≠ b := fun e => by rw [e, ht.irr] at hab; exact absurd hab (by simp)
    show fv t x (a :: b :: q) = fv t x (b :: a :: q)
    unfold fv
    by_cases h1 : a = x
    · subst h1; rw [if_pos rfl, if_neg (Ne.symm hne), hba]; unfold fv; rw [if_pos rfl]; rfl
    · by_cases h2 : b = x
      · subst h2; rw [if_neg h1, if_pos rfl, hab]; unfold fv; rw [if_pos rfl]; rfl
      · rw [if_neg h1, if_neg h2]
        unfold fv
        rw [if_neg h1, if_neg h2]
        cases t a x <;> cases t b x <;> rfl
  | y :: p => by
    show fv t x (y :: (p ++ a :: b :: q)) = fv t x (y :: (p ++ b :: a :: q))
    unfold fv
    rw [fv_swap ht x a b hab q p]
theorem erase_swap (x a b : Int) (hne : a ≠ b) (q : List Int) : ∀ p : List Int, (p ++ a :: b :: q).erase x = (p ++ b :: a :: q).erase x ∨ ∃ p' q', (p ++ a :: b :: q).erase x = p' ++ a :: b :: q' ∧ (p ++ b :: a :: q).erase x = p' ++ b :: a :: q'
  | [] => by
    show (a :: b :: q).erase x = (b :: a :: q).erase x ∨ _
    by_cases h1 : a = x
    · subst h1
      left
      rw [List.erase_cons_head, List.erase_cons_tail (by simpa using Ne.symm hne), List.erase_cons_head]
    · by_cases h2 : b = x
      · subst h2
        left
        rw [List.erase_cons_tail (by simpa using h1), List.erase_cons_head, List.erase_cons_head]
      · right
        exact ⟨[], q.erase x, by simp [List.erase_cons_tail, h1, h2], by simp [List.erase_cons_tail, h1, h2]⟩
  | y :: p => by
    show (y :: (p ++ a :: b :: q)).erase x = (y :: (p ++ b :: a :: q)).erase x ∨ _
    by_cases h : y = x
    · subst h
      right
      exact ⟨p, q, by simp, by simp⟩
    · rw [List.erase_cons_tail (by simpa using h), List.erase_cons_tail (by simpa using h)]
      rcases erase_swap x a b hne q p with e | ⟨p', q', e1, e2⟩
      · left; rw [e]
      · right
        exact ⟨y :: p', q', by simp [List.erase_cons_tail, h, e1], by simp [List.erase_cons_tail, h, e2]⟩
theorem lst_swap {t : Int → Int → Bool} (ht : Ap t) (a b : Int) (hab : t a b = true) : ∀ (n : Nat) (p q : List Int), (p ++ a :: b :: q).length = n → lst t n (p ++ a :: b :: q) = lst t n (p ++ b :: a :: q)
  | 0, p, q, h => by simp at h
  | n + 1, p, q, h => by
    have hne : a ≠ b := fun e => by rw [e, ht.irr] at hab; exact absurd hab (by simp)
    have h' : (p ++ b :: a :: q).length = n + 1 := by simpa using h
    obtain ⟨m, f1, m1, e1⟩ := lst_next ht (p ++ a :: b :: q) (by omega)
    obtain ⟨m', f2, m2, e2⟩ := lst_next ht (p ++ b :: a :: q) (by omega)
    have hm : m = m' := Int.le_antisymm (m1 m' (by rw [fv_swap ht m' a b hab q p]; exact f2)) (m2 m (by rw [← fv_swap ht m a b hab q p]; exact f1))
    subst hm
    have l1 : ((p ++ a :: b :: q).erase m).length = n := by rw [List.length_erase_of_mem (fv_mem f1)]; omega
    have l2 : ((p ++ b :: a :: q).erase m).length = n := by rw [List.length_erase_of_mem (fv_mem f2)]; omega
    rw [h, l1] at e1
    rw [h', l2] at e2
    rw [e1, e2]
    congr 1
    rcases erase_swap m a b hne q p with e | ⟨p', q', g1, g2⟩
    · rw [e]
    · rw [g1, g2]
      exact lst_swap ht a b hab n p' q' (by rw [← g1]; exact l1)
/-! what is told of two that are not apart -/
theorem filter_front (t : Int → Int → Bool) (m : Int) (P : Int → Bool) (hm : P m = true) (hP : ∀ y, P y = true → t y m = false) : ∀ L : List Int, fv t m L = true → L.filter P = m :: (L.erase m).filter P
  | y :: r, h => by
    unfold fv at h
    by_cases e : y = m
    · subst e; rw [List.filter_cons_of_pos hm, List.erase_cons_head]
    · rw [if_neg e] at h
      obtain ⟨h1, h2⟩ := Bool.and_eq_true _ _ |>.mp h
      have hy : ¬ P y = true := fun z => by rw [hP y z] at h1; exact absurd h1 (by simp)
      rw [List.filter_cons_of_neg hy, List.erase_cons_tail (by simpa using e), List.filter_cons_of_neg hy]
      exact filter_front t m P hm hP r h2
theorem filter_erase (m : Int) (P : Int → Bool) (hm : P m = false) : ∀ L : List Int, L.filter P = (L.erase m).filter P
  | [] => rfl
  | y :: r => by
    by_cases e : y = m
    · subst e; rw [List.filter_cons_of_neg (by simp [hm]), List.erase_cons_head]
    · rw [List.erase_cons_tail (by simpa using e), List.filter_cons, List.filter_cons, filter_erase m P hm r]
theorem lst_filter {t : Int → Int → Bool} (ht : Ap t) (a b : Int) (hab : t a b = false) : ∀ (n : Nat) (L : List Int), L.length = n → (lst t n L).filter (fun x => x == a || x == b) = L.filter (fun x => x == a || x == b)
  | 0, L, h => by rw [List.length_eq_zero_iff.1 h]; rfl
  | n + 1, L, h => by
    obtain ⟨m, f1, _, e1⟩ := lst_next ht L (by omega)
    have l1 : (L.erase m).length = n := by rw [List.length_erase_of_mem (fv_mem f1)]; omega
    rw [h, l1] at e1
    rw [e1]
    have ih := lst_filter ht a b hab n (L.erase m) l1
    cases hm : (m == a || m == b) with
    | true =>
      rw [List.filter_cons_of_pos (by simpa using hm), ih]
      refine (filter_front t m (fun x => x == a || x == b) hm (fun y hy => ?_) L f1).symm
      simp only [Bool.or_eq_true, beq_iff_eq] at hm hy
      rcases hm with rfl | rfl <;> rcases hy with rfl | rfl
      · exact ht.irr _
      · rw [ht.symm]; exact hab
      · exact hab
      · exact ht.irr _
    | false =>
      rw [List.filter_cons_of_neg (by simpa using hm), ih]
      exact (filter_erase m (fun x => x == a || x == b) hm L).symm
theorem lst_mem {t : Int → Int → Bool} (ht : Ap t) (x : Int) : ∀ (n : Nat) (L : List Int), L.length = n → x ∈ lst t n L → x ∈ L
  | 0, L, h, hx => by simp [lst] at hx
  | n + 1, L, h, hx => by
    obtain ⟨m, f1, _, e1⟩ := lst_next ht L (by omega)
    have l1 : (L.erase m).length = n := by rw [List.length_erase_of_mem (fv_mem f1)]; omega
    rw [h, l1] at e1
    rw [e1] at hx
    rcases List.mem_cons.1 hx with rfl | hx
    · exact fv_mem f1
    · exact List.mem_of_mem_erase (lst_mem ht x n _ l1 hx)
/-- Does a list come ahead of another? -/
def blw : List Int → List Int → Bool
  | x :: r, y :: s => if x = y then blw r s else decide (x < y)
  | _, _ => false
theorem lst_low {t : Int → Int → Bool} (ht : Ap t) : ∀ (n : Nat) (L : List Int), L.length = n → blw L (lst t n L) = false
  | 0, L, h => by rw [List.length_eq_zero_iff.1 h]; rfl
  | n + 1, L, h => by
    obtain ⟨m, f1, m1, e1⟩ := lst_next ht L (by omega)
    have l1 : (L.erase m).length = n := by rw [List.length_erase_of_mem (fv_mem f1)]; omega
    rw [h, l1] at e1
    rw [e1]
    cases L with
    | nil => simp at h
    | cons y r =>
      have hy := m1 y (by simp [fv])
      unfold blw
      by_cases e : y = m
      · subst e
        rw [if_pos rfl, List.erase_cons_head]
        rw [List.erase_cons_head] at l1
        exact lst_low ht n r l1
      · rw [if_neg e]; exact decide_eq_false (by omega)
theorem lst_free (L : List Int) : ∀ (n : Nat), L.length = n → lst (tab []) n L = L := by
  intro n
  induction n generalizing L with
  | zero => intro h; rw [List.length_eq_zero_iff.1 h]; rfl
  | succ n ih =>
    intro h
    obtain ⟨m, f1, m1, e1⟩ := lst_next (tab_ap []) L (by omega)
    cases L with
    | nil => simp at h
    | cons y r =>
      have hm : y = m := by
        unfold fv at f1
        by_cases e : y = m
        · exact e
        · rw [if_neg e] at f1; simp [tab] at f1
      subst hm
      rw [h, List.erase_cons_head] at e1
      simp only [List.length_cons] at h
      have hr : r.length = n := by omega
      rw [e1, hr, ih r hr]
/-- One swap of neighbours that are apart, at a place. -/
theorem lst_swapped {t : Int → Int → Bool} (ht : Ap t) (L : List Int) (k : Nat) (hk : k + 1 < L.length) (hab : t L[k] L[k + 1] = true) : lst t L.length ((L.set k L[k + 1]).set (k + 1) L[k]) = lst t L.length L := by
  have e1 : L = L.take k ++ L[k] :: L[k + 1] :: L.drop (k + 2) := by
    conv => lhs; rw [← List.take_append_drop k L, List.drop_eq_getElem_cons (by omega), List.drop_eq_getElem_cons hk]
  have e2 : (L.set k L[k + 1]).set (k + 1) L[k] = L.take k ++ L[k + 1] :: L[k] :: L.drop (k + 2) := by
    generalize hx : L[k] = x at e1 ⊢
    generalize hy : L[k + 1] = y at e1 ⊢
    have hl : (L.take k).length = k := by rw [List.length_take]; omega
    conv => lhs; rw [e1]
    rw [List.set_append_right _ _ (by omega), List.set_append_right _ _ (by omega), hl]
    simp
  rw [e2]
  conv => rhs; rw [e1]
  generalize L[k] = x at e1 hab ⊢
  generalize L[k + 1] = y at e1 hab ⊢
  have := lst_swap ht x y hab (L.take k ++ x :: y :: L.drop (k + 2)).length (L.take k) (L.drop (k + 2)) rfl
  rw [← e1] at this ⊢
  rw [← this]
/-- From one list to another by swaps of neighbours that are apart. -/
inductive Sw (t : Int → Int → Bool) : List Int → List Int → Prop
  | refl (L : List Int) : Sw t L L
  | step (p : List Int) (a b : Int) (q L : List Int) : t a b = true → Sw t (p ++ b :: a :: q) L → Sw t (p ++ a :: b :: q) L
theorem Sw.trans {t : Int → Int → Bool} {L M N : List Int} (h : Sw t L M) (g : Sw t M N) : Sw t L N := by
  induction h with
  | refl L => exact g
  | step p a b q L hab _ ih => exact .step p a b q N hab (ih g)
theorem Sw.cons {t : Int → Int → Bool} {L M : List Int} (x : Int) (h : Sw t L M) : Sw t (x :: L) (x :: M) := by
  induction h with
  | refl L => exact .refl _
  | step p a b q L hab _ ih => exact .step (x :: p) a b q _ hab ih
theorem Sw.lst {t : Int → Int → Bool} (ht : Ap t) {L M : List Int} (h : Sw t L M) : M.length = L.length ∧ ∀ n, L.length = n → X.lst t n L = X.lst t n M := by
  induction h with
  | refl L => exact ⟨rfl, fun _ _ => rfl⟩
  | step p a b q L hab _ ih =>
    refine ⟨by rw [ih.1]; simp, fun n hn => ?_⟩
    rw [lst_swap ht a b hab n p q hn]
    exact ih.2 n (by simpa using hn)
theorem sw_front {t : Int → Int → Bool} {m : Int} : ∀ {L : List Int}, fv t m L = true → Sw t L (m :: L.erase m)
  | y :: r, h => by
    unfold fv at h
    by_cases e : y = m
    · subst e; rw [List.erase_cons_head]; exact .refl _
    · rw [if_neg e] at h
      obtain ⟨h1, h2⟩ := Bool.and_eq_true _ _ |>.mp h
      rw [List.erase_cons_tail (by simpa using e)]
      exact ((sw_front h2).cons y).trans (.step [] y m (r.erase m) _ h1 (.refl _))
theorem sw_lst {t : Int → Int → Bool} (ht : Ap t) : ∀ (n : Nat) (L : List Int), L.length = n → Sw t L (lst t n L)
  | 0, L, h => by rw [List.length_eq_zero_iff.1 h]; exact .refl _
  | n + 1, L, h => by
    obtain ⟨m, f1, _, e1⟩ := lst_next ht L (by omega)
    have l1 : (L.erase m).length = n := by rw [List.length_erase_of_mem (fv_mem f1)]; omega
    rw [h, l1] at e1
    rw [e1]
    exact (sw_front f1).trans ((sw_lst ht n _ l1).cons m)
/-- The order of the order is the order. -/
theorem lst_idem {t : Int → Int → Bool} (ht : Ap t) (n : Nat) (L : List Int) (h : L.length = n) : lst t n (lst t n L) = lst t n L :=
  ((sw_lst ht n L h).lst ht).2 n h |>.symm
end Go.Proofs.Ytfcjfjmjcmanaaa.X
