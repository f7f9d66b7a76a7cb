/- SchedLeast: the plain law on lists of picks that are alike. SchedLeast: 'are' by hand. SchedLeast: only, below: plain; alike: by hand. -/
import Derived.Test.YtfcjfjmjcmanaaaBwq
import Derived.Test.YtfcjfjmjcmanaaaGl
import Derived.BigQuiet
import Derived.Deep.QuietTactic
import Derived.Test.YtfcjfjmjcmanaaaGo
set_option linter.unusedVariables false
namespace Go.Proofs.Ytfcjfjmjcmanaaa.X
open Go.RowKit Go.Proofs.YtfcjfjmjcmanaaaW.PrintWords Go.Proofs.YtfcjfjmjcmanaaaW.PrintLast Go.Proofs.YtfcjfjmjcmanaaaW.PrintMore
/-- Can the first x come to the front? -/
def fv (t : Int → Int → Bool) (x : Int) : List Int → Bool
  | [] => false
  | y :: r => if y = x then true else t y x && fv t x r
/-- Apartness as it is: both ways, of two. -/
structure Ap (t : Int → Int → Bool) : Prop where
  symm : ∀ x y, t x y = t y x
  irr : ∀ x, t x x = false
theorem tab_ap (ps : List (Int × Int)) : Ap (tab ps) := by
  constructor
  · intro x y
    unfold tab
    congr 1
    funext p
    rw [Bool.or_comm]
    congr 2 <;> rw [Bool.and_comm]
  · intro x
    unfold tab
    rw [List.any_eq_false]
    rintro ⟨a, b⟩ _ h
    simp only [bne_iff_ne, Bool.and_eq_true, Bool.or_eq_true, beq_iff_eq] at h
    omega
theorem fv_mem {t : Int → Int → Bool} {x : Int} : ∀ {L : List Int}, fv t x L = true → x ∈ L
  | y :: r, h => by
    unfold fv at h
    split at h
    · rename_i e; rw [e]; exact List.mem_cons_self
    · exact List.mem_cons_of_mem _ (fv_mem (Bool.and_eq_true _ _ |>.mp h).2)
theorem fv_front {t : Int → Int → Bool} (ht : Ap t) (L : List Int) (i : Nat) (hi : i < L.length) (hf : (L.take i).all (fun h => t h L[i]) = true) : fv t L[i] L = true ∧ L.eraseIdx i = L.erase L[i] := by
  induction L generalizing i with
  | nil => simp at hi
  | cons y r ih =>
    cases i with
    | zero => simp [fv]
    | succ i =>
      simp only [List.length_cons] at hi
      simp only [List.getElem_cons_succ, List.take_succ_cons, List.all_cons, Bool.and_eq_true] at hf ⊢
      obtain ⟨h1, h2⟩ := ih i (by omega) hf.2
      have hne : y ≠ r[i] := fun e => by rw [e, ht.irr] at hf; exact absurd hf.1 (by simp)
      constructor
      · unfold fv
        rw [if_neg hne, hf.1, h1]; rfl
      · rw [List.eraseIdx_cons_succ, h2, List.erase_cons_tail (by simpa using hne)]
theorem fv_index {t : Int → Int → Bool} {x : Int} : ∀ {L : List Int}, fv t x L = true → ∃ (i : Nat) (hi : i < L.length), L[i] = x ∧ (L.take i).all (fun h => t h x) = true
  | y :: r, h => by
    unfold fv at h
    split at h
    · rename_i e; exact ⟨0, by simp, e, by simp⟩
    · obtain ⟨h1, h2⟩ := Bool.and_eq_true _ _ |>.mp h
      obtain ⟨i, hi, e, hf⟩ := fv_index h2
      exact ⟨i + 1, by simpa using hi, e, by simp [h1, hf]⟩
theorem rb_best (t : Int → Int → Bool) (L : List Int) : ∀ i, i ≤ L.length → 0 < i → ∃ b : Nat, rb t L i = (b : Int) ∧ b < i ∧ front t L b = true ∧ ∀ j, j < i → front t L j = true → rd L (b : Int) ≤ rd L (j : Int)
  | 0, _, h => by omega
  | i + 1, hi, _ => by
    unfold rb
    by_cases hz : i = 0
    · subst hz
      refine ⟨0, by rw [if_pos ⟨by simp [front], .inl (by simp [rb])⟩], by omega, by simp [front], fun j hj _ => ?_⟩
      obtain rfl : j = 0 := by omega
      exact Int.le_refl _
    · obtain ⟨b, hb, hbi, hf, hmin⟩ := rb_best t L i (by omega) (by omega)
      by_cases hc : front t L i = true ∧ (rb t L i < 0 ∨ rd L (i : Int) < rd L (rb t L i))
      · rw [if_pos hc]
        refine ⟨i, rfl, by omega, hc.1, fun j hj hfj => ?_⟩
        have hlt : rd L (i : Int) < rd L (b : Int) := by rw [hb] at hc; rcases hc.2 with h | h; omega; exact h
        rcases Nat.lt_or_ge j i with h | h
        · have := hmin j h hfj; omega
        · obtain rfl : j = i := by omega
          exact Int.le_refl _
      · rw [if_neg hc]
        refine ⟨b, hb, by omega, hf, fun j hj hfj => ?_⟩
        rcases Nat.lt_or_ge j i with h | h
        · exact hmin j h hfj
        · obtain rfl : j = i := by omega
          rw [hb] at hc
          exact Int.not_lt.1 fun z => hc ⟨hfj, .inr z⟩
/-- The order, one step, in terms of what can come to the front. -/
theorem lst_next {t : Int → Int → Bool} (ht : Ap t) (L : List Int) (h : 0 < L.length) : ∃ m, fv t m L = true ∧ (∀ x, fv t x L = true → m ≤ x) ∧ lst t L.length L = m :: lst t (L.erase m).length (L.erase m) := by
  obtain ⟨b, hb, hbl, hf, hmin⟩ := rb_best t L L.length (Nat.le_refl _) h
  have hg := rd_get L b hbl
  unfold front at hf
  rw [hg] at hf
  obtain ⟨h1, h2⟩ := fv_front ht L b hbl hf
  refine ⟨L[b], h1, fun x hx => ?_, ?_⟩
  · obtain ⟨i, hi, e, hfi⟩ := fv_index hx
    have := hmin i hi (by unfold front; rw [rd_get L i hi, e]; exact hfi)
    rw [hg, rd_get L i hi, e] at this
    exact this
  · obtain ⟨n, hn⟩ : ∃ n, L.length = n + 1 := ⟨L.length - 1, by omega⟩
    have hl : (L.erase L[b]).length = n := by rw [List.length_erase_of_mem (List.getElem_mem _)]; omega
    rw [hl]
    conv => lhs; rw [hn]
    show rd L (rb t L L.length) :: lst t n (L.eraseIdx (rb t L L.length).toNat) = _
    rw [hb, hg, Int.toNat_natCast, h2]
theorem fv_swap {t : Int → Int → Bool} (ht : Ap t) (x a b : Int) (hab : t a b = true) (q : List Int) : ∀ p : List Int, fv t x (p ++ a :: b :: q) = fv t x (p ++ b :: a :: q)
  | [] => by
    have hba : t b a = true := by rw [ht.symm]; exact hab
    have hne : a ≠ b := fun e => by rw [e, ht.irr] at hab; exact absurd hab (by simp)
    show fv t x (a :: b :: q) = fv t x (b :: a :: q)
    unfold fv
    by_cases h1 : a = x
    · subst h1; rw [if_pos rfl, if_neg (Ne.symm hne), hba]; unfold fv; rw [if_pos rfl]; rfl
    · by_cases h2 : b = x
      · subst h2; rw [if_neg h1, if_pos rfl, hab]; unfold fv; rw [if_pos rfl]; rfl
      · rw [if_neg h1, if_neg h2]
        unfold fv
        rw [if_neg h1, if_neg h2]
        cases t a x <;> cases t b x <;> rfl
  | y :: p => by
    show fv t x (y :: (p ++ a :: b :: q)) = fv t x (y :: (p ++ b :: a :: q))
    unfold fv
    rw [fv_swap ht x a b hab q p]
theorem erase_swap (x a b : Int) (hne : a ≠ b) (q : List Int) : ∀ p : List Int, (p ++ a :: b :: q).erase x = (p ++ b :: a :: q).erase x ∨ ∃ p' q', (p ++ a :: b :: q).erase x = p' ++ a :: b :: q' ∧ (p ++ b :: a :: q).erase x = p' ++ b :: a :: q'
  | [] => by
    show (a :: b :: q).erase x = (b :: a :: q).erase x ∨ _
    by_cases h1 : a = x
    · subst h1
      left
      rw [List.erase_cons_head, List.erase_cons_tail (by simpa using Ne.symm hne), List.erase_cons_head]
    · by_cases h2 : b = x
      · subst h2
        left
        rw [List.erase_cons_tail (by simpa using h1), List.erase_cons_head, List.erase_cons_head]
      · right
        exact ⟨[], q.erase x, by simp [List.erase_cons_tail, h1, h2], by simp [List.erase_cons_tail, h1, h2]⟩
  | y :: p => by
    show (y :: (p ++ a :: b :: q)).erase x = (y :: (p ++ b :: a :: q)).erase x ∨ _
    by_cases h : y = x
    · subst h
      right
      exact ⟨p, q, by simp, by simp⟩
    · rw [List.erase_cons_tail (by simpa using h), List.erase_cons_tail (by simpa using h)]
      rcases erase_swap x a b hne q p with e | ⟨p', q', e1, e2⟩
      · left; rw [e]
      · right
        exact ⟨y :: p', q', by simp [List.erase_cons_tail, h, e1], by simp [List.erase_cons_tail, h, e2]⟩
theorem lst_swap {t : Int → Int → Bool} (ht : Ap t) (a b : Int) (hab : t a b = true) : ∀ (n : Nat) (p q : List Int), (p ++ a :: b :: q).length = n → lst t n (p ++ a :: b :: q) = lst t n (p ++ b :: a :: q)
  | 0, p, q, h => by simp at h
  | n + 1, p, q, h => by
    have hne : a ≠ b := fun e => by rw [e, ht.irr] at hab; exact absurd hab (by simp)
    have h' : (p ++ b :: a :: q).length = n + 1 := by simpa using h
    obtain ⟨m, f1, m1, e1⟩ := lst_next ht (p ++ a :: b :: q) (by omega)
    obtain ⟨m', f2, m2, e2⟩ := lst_next ht (p ++ b :: a :: q) (by omega)
    have hm : m = m' := Int.le_antisymm (m1 m' (by rw [fv_swap ht m' a b hab q p]; exact f2)) (m2 m (by rw [← fv_swap ht m a b hab q p]; exact f1))
    subst hm
    have l1 : ((p ++ a :: b :: q).erase m).length = n := by rw [List.length_erase_of_mem (fv_mem f1)]; omega
    have l2 : ((p ++ b :: a :: q).erase m).length = n := by rw [List.length_erase_of_mem (fv_mem f2)]; omega
    rw [h, l1] at e1
    rw [h', l2] at e2
    rw [e1, e2]
    congr 1
    rcases erase_swap m a b hne q p with e | ⟨p', q', g1, g2⟩
    · rw [e]
    · rw [g1, g2]
      exact lst_swap ht a b hab n p' q' (by rw [← g1]; exact l1)
/-! what is told of two that are not apart -/
theorem filter_front (t : Int → Int → Bool) (m : Int) (P : Int → Bool) (hm : P m = true) (hP : ∀ y, P y = true → t y m = false) : ∀ L : List Int, fv t m L = true → L.filter P = m :: (L.erase m).filter P
  | y :: r, h => by
    unfold fv at h
    by_cases e : y = m
    · subst e; rw [List.filter_cons_of_pos hm, List.erase_cons_head]
    · rw [if_neg e] at h
      obtain ⟨h1, h2⟩ := Bool.and_eq_true _ _ |>.mp h
      have hy : ¬ P y = true := fun z => by rw [hP y z] at h1; exact absurd h1 (by simp)
      rw [List.filter_cons_of_neg hy, List.erase_cons_tail (by simpa using e), List.filter_cons_of_neg hy]
      exact filter_front t m P hm hP r h2
theorem filter_erase (m : Int) (P : Int → Bool) (hm : P m = false) : ∀ L : List Int, L.filter P = (L.erase m).filter P
  | [] => rfl
  | y :: r => by
    by_cases e : y = m
    · subst e; rw [List.filter_cons_of_neg (by simp [hm]), List.erase_cons_head]
    · rw [List.erase_cons_tail (by simpa using e), List.filter_cons, List.filter_cons, filter_erase m P hm r]
theorem lst_filter {t : Int → Int → Bool} (ht : Ap t) (a b : Int) (hab : t a b = false) : ∀ (n : Nat) (L : List Int), L.length = n → (lst t n L).filter (fun x => x == a || x == b) = L.filter (fun x => x == a || x == b)
  | 0, L, h => by rw [List.length_eq_zero_iff.1 h]; rfl
  | n + 1, L, h => by
    obtain ⟨m, f1, _, e1⟩ := lst_next ht L (by omega)
    have l1 : (L.erase m).length = n := by rw [List.length_erase_of_mem (fv_mem f1)]; omega
    rw [h, l1] at e1
    rw [e1]
    have ih := lst_filter ht a b hab n (L.erase m) l1
    cases hm : (m == a || m == b) with
    | true =>
      rw [List.filter_cons_of_pos (by simpa using hm), ih]
      refine (filter_front t m (fun x => x == a || x == b) hm (fun y hy => ?_) L f1).symm
      simp only [Bool.or_eq_true, beq_iff_eq] at hm hy
      rcases hm with rfl | rfl <;> rcases hy with rfl | rfl
      · exact ht.irr _
      · rw [ht.symm]; exact hab
      · exact hab
      · exact ht.irr _
    | false =>
      rw [List.filter_cons_of_neg (by simpa using hm), ih]
      exact (filter_erase m (fun x => x == a || x == b) hm L).symm
theorem lst_mem {t : Int → Int → Bool} (ht : Ap t) (x : Int) : ∀ (n : Nat) (L : List Int), L.length = n → x ∈ lst t n L → x ∈ L
  | 0, L, h, hx => by simp [lst] at hx
  | n + 1, L, h, hx => by
    obtain ⟨m, f1, _, e1⟩ := lst_next ht L (by omega)
    have l1 : (L.erase m).length = n := by rw [List.length_erase_of_mem (fv_mem f1)]; omega
    rw [h, l1] at e1
    rw [e1] at hx
    rcases List.mem_cons.1 hx with rfl | hx
    · exact fv_mem f1
    · exact List.mem_of_mem_erase (lst_mem ht x n _ l1 hx)
theorem lst_low {t : Int → Int → Bool} (ht : Ap t) : ∀ (n : Nat) (L : List Int), L.length = n → blw L (lst t n L) = false
  | 0, L, h => by rw [List.length_eq_zero_iff.1 h]; rfl
  | n + 1, L, h => by
    obtain ⟨m, f1, m1, e1⟩ := lst_next ht L (by omega)
    have l1 : (L.erase m).length = n := by rw [List.length_erase_of_mem (fv_mem f1)]; omega
    rw [h, l1] at e1
    rw [e1]
    cases L with
    | nil => simp at h
    | cons y r =>
      have hy := m1 y (by simp [fv])
      unfold blw
      by_cases e : y = m
      · subst e
        rw [if_pos rfl, List.erase_cons_head]
        rw [List.erase_cons_head] at l1
        exact lst_low ht n r l1
      · rw [if_neg e]; exact decide_eq_false (by omega)
theorem lst_free (L : List Int) : ∀ (n : Nat), L.length = n → lst (tab []) n L = L := by
  intro n
  induction n generalizing L with
  | zero => intro h; rw [List.length_eq_zero_iff.1 h]; rfl
  | succ n ih =>
    intro h
    obtain ⟨m, f1, m1, e1⟩ := lst_next (tab_ap []) L (by omega)
    cases L with
    | nil => simp at h
    | cons y r =>
      have hm : y = m := by
        unfold fv at f1
        by_cases e : y = m
        · exact e
        · rw [if_neg e] at f1; simp [tab] at f1
      subst hm
      rw [h, List.erase_cons_head] at e1
      simp only [List.length_cons] at h
      have hr : r.length = n := by omega
      rw [e1, hr, ih r hr]
/-- One swap of neighbours that are apart, at a place. -/
theorem lst_swapped {t : Int → Int → Bool} (ht : Ap t) (L : List Int) (k : Nat) (hk : k + 1 < L.length) (hab : t L[k] L[k + 1] = true) : lst t L.length ((L.set k L[k + 1]).set (k + 1) L[k]) = lst t L.length L := by
  have e1 : L = L.take k ++ L[k] :: L[k + 1] :: L.drop (k + 2) := by
    conv => lhs; rw [← List.take_append_drop k L, List.drop_eq_getElem_cons (by omega), List.drop_eq_getElem_cons hk]
  have e2 : (L.set k L[k + 1]).set (k + 1) L[k] = L.take k ++ L[k + 1] :: L[k] :: L.drop (k + 2) := by
    generalize hx : L[k] = x at e1 ⊢
    generalize hy : L[k + 1] = y at e1 ⊢
    have hl : (L.take k).length = k := by rw [List.length_take]; omega
    conv => lhs; rw [e1]
    rw [List.set_append_right _ _ (by omega), List.set_append_right _ _ (by omega), hl]
    simp
  rw [e2]
  conv => rhs; rw [e1]
  generalize L[k] = x at e1 hab ⊢
  generalize L[k + 1] = y at e1 hab ⊢
  have := lst_swap ht x y hab (L.take k ++ x :: y :: L.drop (k + 2)).length (L.take k) (L.drop (k + 2)) rfl
  rw [← e1] at this ⊢
  rw [← this]
/-- From one list to another by swaps of neighbours that are apart. -/
inductive Sw (t : Int → Int → Bool) : List Int → List Int → Prop
  | refl (L : List Int) : Sw t L L
  | step (p : List Int) (a b : Int) (q L : List Int) : t a b = true → Sw t (p ++ b :: a :: q) L → Sw t (p ++ a :: b :: q) L
theorem Sw.trans {t : Int → Int → Bool} {L M N : List Int} (h : Sw t L M) (g : Sw t M N) : Sw t L N := by
  induction h with
  | refl L => exact g
  | step p a b q L hab _ ih => exact .step p a b q N hab (ih g)
theorem Sw.cons {t : Int → Int → Bool} {L M : List Int} (x : Int) (h : Sw t L M) : Sw t (x :: L) (x :: M) := by
  induction h with
  | refl L => exact .refl _
  | step p a b q L hab _ ih => exact .step (x :: p) a b q _ hab ih
theorem Sw.lst {t : Int → Int → Bool} (ht : Ap t) {L M : List Int} (h : Sw t L M) : M.length = L.length ∧ ∀ n, L.length = n → X.lst t n L = X.lst t n M := by
  induction h with
  | refl L => exact ⟨rfl, fun _ _ => rfl⟩
  | step p a b q L hab _ ih =>
    refine ⟨by rw [ih.1]; simp, fun n hn => ?_⟩
    rw [lst_swap ht a b hab n p q hn]
    exact ih.2 n (by simpa using hn)
theorem sw_front {t : Int → Int → Bool} {m : Int} : ∀ {L : List Int}, fv t m L = true → Sw t L (m :: L.erase m)
  | y :: r, h => by
    unfold fv at h
    by_cases e : y = m
    · subst e; rw [List.erase_cons_head]; exact .refl _
    · rw [if_neg e] at h
      obtain ⟨h1, h2⟩ := Bool.and_eq_true _ _ |>.mp h
      rw [List.erase_cons_tail (by simpa using e)]
      exact ((sw_front h2).cons y).trans (.step [] y m (r.erase m) _ h1 (.refl _))
theorem sw_lst {t : Int → Int → Bool} (ht : Ap t) : ∀ (n : Nat) (L : List Int), L.length = n → Sw t L (lst t n L)
  | 0, L, h => by rw [List.length_eq_zero_iff.1 h]; exact .refl _
  | n + 1, L, h => by
    obtain ⟨m, f1, _, e1⟩ := lst_next ht L (by omega)
    have l1 : (L.erase m).length = n := by rw [List.length_erase_of_mem (fv_mem f1)]; omega
    rw [h, l1] at e1
    rw [e1]
    exact (sw_front f1).trans ((sw_lst ht n _ l1).cons m)
/-- The order of the order is the order. -/
theorem lst_idem {t : Int → Int → Bool} (ht : Ap t) (n : Nat) (L : List Int) (h : L.length = n) : lst t n (lst t n L) = lst t n L :=
  ((sw_lst ht n L h).lst ht).2 n h |>.symm
end Go.Proofs.Ytfcjfjmjcmanaaa.X
set_option linter.unusedVariables false
namespace Go.Proofs.Ytfcjfjmjcmanaaa.X
open Go.RowKit Go.Proofs.YtfcjfjmjcmanaaaW.PrintWords Go.Proofs.YtfcjfjmjcmanaaaW.PrintLast Go.Proofs.YtfcjfjmjcmanaaaW.PrintMore
theorem tab_more (l : List (Int × Int)) (i : Int) (h0 : 0 ≤ i) (h1 : i < (l.length : Int)) (x y a b : Int) (hp : pd l i = (x, y)) : tab (l.take (i + 1).toNat) a b = (tab (l.take i.toNat) a b || (x != y && (a == x && b == y || a == y && b == x))) := by
  rw [show (i + 1).toNat = i.toNat + 1 by omega, pd_take l i h0 h1, tab_next, hp]
theorem tab_has (l : List (Int × Int)) (i : Int) (h0 : 0 ≤ i) (h1 : i < (l.length : Int)) (x y a b : Int) (hp : pd l i = (x, y)) (hne : a ≠ b) (h : x = a ∧ y = b ∨ x = b ∧ y = a) : tab l a b = true := by
  unfold tab
  rw [List.any_eq_true]
  refine ⟨(x, y), by rw [← hp]; exact pd_mem l i h0 h1, ?_⟩
  rcases h with ⟨rfl, rfl⟩ | ⟨rfl, rfl⟩
  · simp [hne]
  · simp [Ne.symm hne]
theorem tab_not (l : List (Int × Int)) (i : Int) (h0 : 0 ≤ i) (h1 : i < (l.length : Int)) (x y a b : Int) (hp : pd l i = (x, y)) (h : tab (l.take i.toNat) a b = false) (hn : ¬ (x = a ∧ y = b ∨ x = b ∧ y = a)) : tab (l.take (i + 1).toNat) a b = false := by
  rw [tab_more l i h0 h1 x y a b hp, h, Bool.false_or]
  cases hz : (x != y && (a == x && b == y || a == y && b == x)) with
  | false => rfl
  | true =>
    exfalso
    simp only [Bool.and_eq_true, Bool.or_eq_true, beq_iff_eq] at hz
    exact hn (by rcases hz.2 with ⟨h1, h2⟩ | ⟨h1, h2⟩; exact .inl ⟨h1.symm, h2.symm⟩; exact .inr ⟨h2.symm, h1.symm⟩)
set_option maxRecDepth 100000 in
set_option maxHeartbeats 4000000 in
theorem are_calls (a b : Int) (A1 : Option Addr) (c1 : Nat) (ps : List (Int × Int)) (w : World) (hr1 : Kd.C Kp w A1 ps.length ps) (hp : ps.length ≤ 8796093021952) :
    Calls Try.prog 65 #[.int .i64 a, .int .i64 b, .slice A1 ps.length c1] w fun e w' => e = .returned (.bool (tab ps a b)) ∧ Drawn0 w w' := by
  have HR1 := Aside0.mk hr1
  have HP := Aside0.mk hp
  clear hr1 hp
  by_cases hab : a = b
  · have hrt : tab ps a b = false := by rw [hab]; exact (tab_ap ps).irr b
    have hnb : (a != b) = false := bne_eq_false_iff_eq.2 hab
    rw [hrt]
    clear hab hrt
    go_enter Try.func65, Try.ntmps65
    go_wp2
    go_loopw [7] (fun p wr => p = .int .i64 0 ∧ Drawn0 w wr) (fun p _ => 0)
    case atStart => exact ⟨rfl, by repeat (first | exact Drawn0.refl _ | apply Drawn0.step)⟩
    case round =>
      obtain ⟨rfl, ⟨m, rfl⟩⟩ := hrel
      go_wp2
      all_goals (go_ret; exact ⟨rfl, ⟨_, rfl⟩⟩)
  · have hnb : (a != b) = true := bne_iff_ne.2 hab
    have HAB := Aside0.mk hab
    clear hab
    obtain ⟨r, hr⟩ : ∃ r, tab ps a b = r := ⟨_, rfl⟩
    rw [hr]
    have HRR := Aside0.mk hr
    clear hr
    go_enter Try.func65, Try.ntmps65
    go_wp2
    go_loopw [7] (fun p wr => ∃ i : Int, p = .int .i64 i ∧ Aside0 (0 ≤ i ∧ i ≤ (ps.length : Int)) ∧ Aside0 (tab (ps.take i.toNat) a b = false) ∧ Drawn0 w wr) (fun p _ => ((ps.length : Int) - intOf p).toNat)
    case atStart => exact ⟨0, rfl, ⟨by omega⟩, ⟨by simp [tab]⟩, by repeat (first | exact Drawn0.refl _ | apply Drawn0.step)⟩
    case round =>
      obtain ⟨i, rfl, Hi, HT, ⟨m, rfl⟩⟩ := hrel
      by_cases hlt : i < (ps.length : Int)
      · have p0 : 0 ≤ i := Hi.out.1
        have hltb : decide (i < (ps.length : Int)) = true := decide_eq_true hlt
        obtain ⟨ad, rfl, hpa⟩ := at_pair HR1.out i p0 hlt
        have hw1 : wrap64 (i + 1) = i + 1 := hwrId (by omega) (by have := HP.out; omega)
        have HI := Aside0.mk (show 0 ≤ i ∧ i < (ps.length : Int) from ⟨p0, hlt⟩)
        obtain ⟨⟨x, y⟩, hx⟩ : ∃ x, pd ps i = x := ⟨_, rfl⟩
        rw [hx] at hpa
        obtain ⟨hc1, hc3⟩ := hpa
        have HX := Aside0.mk hx
        replace p0 := eq_true p0
        replace hlt := eq_true hlt
        clear hx Hi
        have fin1 : (x = a ∧ y = b ∨ x = b ∧ y = a) → r = true := fun h => by rw [← HRR.out]; exact tab_has ps i HI.out.1 HI.out.2 x y a b HX.out HAB.out h
        have fin0 : ¬ (x = a ∧ y = b ∨ x = b ∧ y = a) → tab (ps.take (i + 1).toNat) a b = false := tab_not ps i HI.out.1 HI.out.2 x y a b HX.out HT.out
        have F1 := Aside0.mk fin1
        have F0 := Aside0.mk fin0
        clear fin1 fin0
        cases hxa : (x == a) <;> cases hyb : (y == b) <;> cases hxb : (x == b) <;> cases hya : (y == a)
        all_goals (
          have HH := Aside0.mk (And.intro (And.intro hxa hyb) (And.intro hxb hya))
          go_wp2)
        all_goals (first
          | (go_ret; have hr := F1.out (by have h := HH.out; simp only [beq_iff_eq, beq_eq_false_iff_ne, ne_eq] at h; omega); rw [hr]; exact ⟨rfl, ⟨_, rfl⟩⟩)
          | exact ⟨⟨wrap64 (i + 1), rfl, ⟨by rw [hw1]; have := HI.out; omega⟩, ⟨by rw [hw1]; exact F0.out (by have h := HH.out; simp only [beq_iff_eq, beq_eq_false_iff_ne, ne_eq] at h; omega)⟩, ⟨_, rfl⟩⟩, by rw [hw1]; simp only [intOf]; have := HI.out; omega⟩)
      · have hltb : decide (i < (ps.length : Int)) = false := decide_eq_false hlt
        have hr : r = false := by
          rw [← HRR.out]
          have := HT.out
          rwa [List.take_of_length_le (by have := Hi.out; omega)] at this
        subst hr
        clear hlt Hi
        go_wp2
        go_ret
        exact ⟨rfl, ⟨_, rfl⟩⟩
end Go.Proofs.Ytfcjfjmjcmanaaa.X
set_option linter.unusedVariables false
namespace Go.Proofs.Ytfcjfjmjcmanaaa.X
open Go.RowKit Go.Proofs.Ytfcjfjmjcmanaaa.PBase Go.Proofs.Ytfcjfjmjcmanaaa.POnly Go.Proofs.YtfcjfjmjcmanaaaW.PrintWords Go.Proofs.YtfcjfjmjcmanaaaW.PrintLast Go.Proofs.YtfcjfjmjcmanaaaW.PrintMore
theorem only_l0 (l : List Int) (hl : l.length ≤ 1000000) (a b : Int) (e : Nat) : ∀ (i k : Nat) (acc : List Int), i + e = l.length → e < k → acc.length ≤ i → larderlaw07_only.l0 k l a b acc (i : Int) = some (acc ++ (l.drop i).filter (fun x => x == a || x == b)) := by
  induction e with
  | zero =>
    intro i k acc h hk ha
    obtain ⟨k, rfl⟩ : ∃ m, k = m + 1 := ⟨k - 1, by omega⟩
    simp only [larderlaw07_only.l0]
    rw [if_neg (by omega), List.drop_of_length_le (by omega)]
    simp
  | succ e ih =>
    intro i k acc h hk ha
    obtain ⟨k, rfl⟩ : ∃ m, k = m + 1 := ⟨k - 1, by omega⟩
    simp only [larderlaw07_only.l0]
    have hi : i < l.length := by omega
    rw [if_pos (by omega), if_pos (by omega), rd_get l i hi, show wrap64 ((i : Int) + 1) = ((i + 1 : Nat) : Int) by rw [hwrId (by omega) (by omega)]; omega, List.drop_eq_getElem_cons hi]
    by_cases h1 : l[i] = a
    · rw [if_pos h1, if_pos (by omega), ih (i + 1) k _ (by omega) (by omega) (by rw [List.length_append, List.length_singleton]; omega), List.filter_cons_of_pos (by simp [h1]), List.append_assoc, List.singleton_append]
    · rw [if_neg h1]
      by_cases h2 : l[i] = b
      · rw [if_pos h2, if_pos (by omega), ih (i + 1) k _ (by omega) (by omega) (by rw [List.length_append, List.length_singleton]; omega), List.filter_cons_of_pos (by simp [h2]), List.append_assoc, List.singleton_append]
      · rw [if_neg h2, ih (i + 1) k _ (by omega) (by omega) (by omega), List.filter_cons_of_neg (by simp [h1, h2])]
theorem only_spec (l : List Int) (hl : l.length ≤ 1000000) (a b : Int) : larderlaw07_only.f (l.length + 1) l a b = some (l.filter (fun x => x == a || x == b)) := by
  unfold larderlaw07_only.f
  have := only_l0 l hl a b l.length 0 (l.length + 1) [] (by omega) (by omega) (by simp)
  simpa using this
set_option maxRecDepth 100000 in
set_option maxHeartbeats 4000000 in
theorem alike_calls (A0 : Option Addr) (c0 : Nat) (x : List Int) (A1 : Option Addr) (c1 : Nat) (y : List Int) (A2 : Option Addr) (c2 : Nat) (ps : List (Int × Int)) (w : World) (hr0 : Kd.C (Kd.int .i64) w A0 x.length x) (hc0 : x.length ≤ c0) (hr1 : Kd.C (Kd.int .i64) w A1 y.length y) (hc1 : y.length ≤ c1) (hr2 : Kd.C Kp w A2 ps.length ps)
    (hx : x.length ≤ 512) (hxy : x.length = y.length) (hp : ps.length ≤ 8796093021952) (hal : ∀ a b, tab ps a b = false → x.filter (fun z => z == a || z == b) = y.filter (fun z => z == a || z == b)) :
    Calls Try.prog 64 #[.slice A0 x.length c0, .slice A1 y.length c1, .slice A2 ps.length c2] w fun e w' => e = .returned (.bool true) ∧ Below w.heap.size w w' := by
  have HR0 := Aside0.mk hr0
  have HC0 := Aside0.mk hc0
  have HR1 := Aside0.mk hr1
  have HC1 := Aside0.mk hc1
  have HR2 := Aside0.mk hr2
  have HX := Aside0.mk hx
  have HXY := Aside0.mk hxy
  have HP := Aside0.mk hp
  have HAL := Aside0.mk hal
  have hlb : ((x.length : Int) == (y.length : Int)) = true := by simp [hxy]
  clear hr0 hc0 hr1 hc1 hr2 hx hxy hp hal
  go_enter Try.func64, Try.ntmps64
  go_wp2
  go_loopw [7] (fun p wr => ∃ a : Int, p = .int .i64 a ∧ Aside0 (0 ≤ a ∧ a ≤ 16) ∧ Aside0 (Below w.heap.size w wr)) (fun p _ => (16 - intOf p).toNat)
  case atStart => exact ⟨0, rfl, ⟨by omega⟩, ⟨by repeat (first | exact Below.refl w.heap.size w | apply pw_below_drewN | apply below_drew1)⟩⟩
  case round =>
    obtain ⟨a, rfl, Ha, HB⟩ := hrel
    rename World => W1
    by_cases hlt : a < 16
    · have hltb : decide (a < 16) = true := decide_eq_true hlt
      have hwa := Aside0.mk (show wrap64 (a + 1) = a + 1 from hwrId (by have := Ha.out; omega) (by omega))
      have HLT := Aside0.mk hlt
      clear hlt
      go_wp2
      go_loopw [8] (fun p wr => ∃ b : Int, p = .int .i64 b ∧ Aside0 (0 ≤ b ∧ b ≤ 16) ∧ Aside0 (Below w.heap.size w wr)) (fun p _ => (16 - intOf p).toNat)
      case atStart => exact ⟨a, rfl, Ha, HB⟩
      case round =>
        clear HB
        obtain ⟨b, rfl, Hb, HB⟩ := hrel
        by_cases hlt : b < 16
        · have hltb2 : decide (b < 16) = true := decide_eq_true hlt
          have hwb := Aside0.mk (show wrap64 (b + 1) = b + 1 from hwrId (by have := Hb.out; omega) (by omega))
          have HLB := Aside0.mk hlt
          clear hlt
          have car := are_calls a b A2 c2 ps wr (Kd.C_below HR2.out HB.out) HP.out
          obtain ⟨t, ht⟩ : ∃ t, tab ps a b = t := ⟨_, rfl⟩
          rw [ht] at car
          cases t with
          | true =>
            go_wp2_with (go_at_call 65; refine car.mono ?_; rintro e w2 ⟨rfl, ⟨m2, rfl⟩⟩)
            exact ⟨⟨wrap64 (b + 1), rfl, ⟨by rw [hwb.out]; have := Hb.out; have := HLB.out; omega⟩, ⟨pw_below_drewN HB.out m2⟩⟩, by rw [hwb.out]; simp only [intOf]; have := HLB.out; omega⟩
          | false =>
            obtain ⟨F, hF⟩ : ∃ F, x.filter (fun z => z == a || z == b) = F := ⟨_, rfl⟩
            have o1 := only_spec x (by have := HX.out; omega) a b
            have o2 := only_spec y (by have := HX.out; have := HXY.out; omega) a b
            rw [← HAL.out a b ht] at o2
            rw [hF] at o1 o2
            have HO1 := Aside0.mk o1
            have HO2 := Aside0.mk o2
            have hFl : F.length ≤ 512 := by rw [← hF]; exact Nat.le_trans (List.length_filter_le _ _) HX.out
            have HSS := Aside0.mk (hsame_self F (by omega))
            clear o1 o2 hF hFl ht
            have tok := True.intro
            go_wp2_with (first
              | (go_at_call 65; refine car.mono ?_; rintro e w2 ⟨rfl, ⟨m2, rfl⟩⟩)
              | (go_at_call 119; have _t := tok; refine (larderlaw07_only.calls (x.length + 1) A0 c0 x a b F _ (Kd.C_below HR0.out (pw_below_drewN HB.out m2)) HC0.out HO1.out).mono ?_; rintro e w3 ⟨v3, rfl, hv3, B3⟩; obtain ⟨A3, c3, rfl, hc3, hC3⟩ := Kd.R_reads hv3; have HC3 := Aside0.mk hC3; have Hc3 := Aside0.mk hc3; have HB3 := Aside0.mk (below_step (pw_below_drewN HB.out m2) B3); clear hv3 B3 hc3 hC3 tok)
              | (go_at_call 119; refine (larderlaw07_only.calls (y.length + 1) A1 c1 y a b F _ (Kd.C_below HR1.out HB3.out) HC1.out HO2.out).mono ?_; rintro e w4 ⟨v4, rfl, hv4, B4⟩; obtain ⟨A4, c4, rfl, hc4, hC4⟩ := Kd.R_reads hv4; have HC4 := Aside0.mk hC4; have Hc4 := Aside0.mk hc4; have HB4 := Aside0.mk B4; clear hv4 B4 hc4 hC4)
              | (go_at_call 24; refine (larderlaw07_same.calls (F.length + 2) A3 c3 F A4 c4 F true w4 (Kd.C_below HC3.out HB4.out) Hc3.out HC4.out Hc4.out HSS.out).mono ?_; rintro e w5 ⟨rfl, ⟨m5, rfl⟩⟩))
            exact ⟨⟨wrap64 (b + 1), rfl, ⟨by rw [hwb.out]; have := Hb.out; have := HLB.out; omega⟩, ⟨pw_below_drewN (below_step HB3.out HB4.out) m5⟩⟩, by rw [hwb.out]; simp only [intOf]; have := HLB.out; omega⟩
        · have hltb2 : decide (b < 16) = false := decide_eq_false hlt
          clear hlt
          go_wp2
          exact ⟨⟨wrap64 (a + 1), rfl, ⟨by rw [hwa.out]; have := Ha.out; have := HLT.out; omega⟩, HB⟩, by rw [hwa.out]; simp only [intOf]; have := HLT.out; omega⟩
    · have hltb : decide (a < 16) = false := decide_eq_false hlt
      clear hlt
      go_wp2
      go_ret
      exact ⟨rfl, HB.out⟩
end Go.Proofs.Ytfcjfjmjcmanaaa.X
