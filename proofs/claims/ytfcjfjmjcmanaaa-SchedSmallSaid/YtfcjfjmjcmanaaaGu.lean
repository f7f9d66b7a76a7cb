/- Mixes and Few: what their lists are. Plain. Mixes: the one behind a mix. Plain. -/
import Derived.Test.YtfcjfjmjcmanaaaGb
import Derived.Test.YtfcjfjmjcmanaaaMa
import Derived.Test.YtfcjfjmjcmanaaaBwq
import Derived.Test.YtfcjfjmjcmanaaaXwq
set_option linter.unusedVariables false
namespace Go.Proofs.Ytfcjfjmjcmanaaa.V
open Go Go.RowKit Go.Proofs.Ytfcjfjmjcmanaaa.X
section
variable {σ : Type} {nxt : List Nat → σ → Nat → Option σ}
theorem mem_gen {d : Nat} {left : List Nat} {s : σ} {L : List Int} : L ∈ genL nxt (d + 1) left s ↔ ∃ h s' m, h < left.length ∧ nxt left s h = some s' ∧ m ∈ genL nxt d (dec left h) s' ∧ L = (h : Int) :: m := by
  rw [genL_succ, List.mem_flatMap]
  constructor
  · rintro ⟨h, hh, hL⟩
    rw [List.mem_range] at hh
    unfold segL at hL
    split at hL
    · cases hL
    · rename_i s' e
      obtain ⟨m, hm, rfl⟩ := List.mem_map.1 hL
      exact ⟨h, s', m, hh, e, hm, rfl⟩
  · rintro ⟨h, s', m, hh, e, hm, rfl⟩
    refine ⟨h, List.mem_range.2 hh, ?_⟩
    rw [segL_some e]
    exact List.mem_map.2 ⟨m, hm, rfl⟩
theorem gen_len (d : Nat) : ∀ (left : List Nat) (s : σ) (L : List Int), L ∈ genL nxt d left s → L.length = d := by
  induction d with
  | zero => intro left s L h; rw [List.mem_singleton.1 h]; rfl
  | succ d ih =>
    intro left s L h
    obtain ⟨h, s', m, _, _, hm, rfl⟩ := mem_gen.1 h
    rw [List.length_cons, ih _ _ _ hm]
theorem gen_num (d : Nat) : ∀ (left : List Nat) (s : σ) (L : List Int), L ∈ genL nxt d left s → ∀ x ∈ L, 0 ≤ x ∧ x < (left.length : Int) := by
  induction d with
  | zero => intro left s L h x hx; rw [List.mem_singleton.1 h] at hx; cases hx
  | succ d ih =>
    intro left s L h x hx
    obtain ⟨h, s', m, hh, _, hm, rfl⟩ := mem_gen.1 h
    rcases List.mem_cons.1 hx with rfl | hx
    · omega
    · have := ih _ _ _ hm x hx
      rwa [dec_len] at this
/-- The lists rise. -/
theorem gen_rise (d : Nat) : ∀ (left : List Nat) (s : σ), (genL nxt d left s).Pairwise (fun a b => blw a b = true) := by
  induction d with
  | zero => intro left s; exact List.pairwise_singleton _ _
  | succ d ih =>
    intro left s
    rw [genL_succ, List.pairwise_flatMap]
    refine ⟨fun h _ => ?_, ?_⟩
    · unfold segL
      split
      · exact List.Pairwise.nil
      · rw [List.pairwise_map]
        refine (ih _ _).imp (fun {a b} hab => ?_)
        show (if (h : Int) = (h : Int) then blw a b else decide ((h : Int) < (h : Int))) = true
        rw [if_pos rfl]; exact hab
    · refine List.pairwise_lt_range.imp (fun {a b} hab => ?_)
      intro x hx y hy
      unfold segL at hx hy
      split at hx
      · cases hx
      · split at hy
        · cases hy
        · obtain ⟨m, _, rfl⟩ := List.mem_map.1 hx
          obtain ⟨m', _, rfl⟩ := List.mem_map.1 hy
          show (if (a : Int) = (b : Int) then blw m m' else decide ((a : Int) < (b : Int))) = true
          rw [if_neg (by omega)]
          exact decide_eq_true (by omega)
end
theorem dec_mu (left : List Nat) (h : Nat) : dec left h = Mu.dec left h := rfl
/-- There are as many mixes as there are. -/
theorem mixes_count (d : Nat) : ∀ (left : List Nat), left.sum = d → (genL nxtM d left ()).length = Mu.M left := by
  induction d with
  | zero => intro left h; rw [Mu.M_zero left h]; rfl
  | succ d ih =>
    intro left hs
    have key : ∀ h, h ≤ left.length → offL nxtM d left () h = Mu.pre left h := by
      intro h
      induction h with
      | zero => intro _; rfl
      | succ h ihh =>
        intro hh
        rw [offL_next, ihh (by omega)]
        show _ = Mu.pre left h + Mu.w left h
        congr 1
        unfold Mu.w
        by_cases e : left.getD h 0 = 0
        · rw [segL_none (by unfold nxtM; rw [if_pos e]), if_neg (by omega)]; rfl
        · rw [segL_some (s' := ()) (by unfold nxtM; rw [if_neg e]), if_pos (by omega), List.length_map]
          exact ih _ (by have := dec_sum (left := left) (h := h) (by omega) e; omega)
    rw [← offL_all, key _ (Nat.le_refl _), Mu.pre_all left (by omega)]
theorem dec_at (left : List Nat) (h i : Nat) : (dec left h).getD i 0 = if i = h then left.getD h 0 - 1 else left.getD i 0 := Mu.dec_getD left h i
theorem sum_zero : ∀ (l : List Nat) (i : Nat), l.sum = 0 → l.getD i 0 = 0
  | [], i, _ => rfl
  | n :: l, i, h => by
    rw [List.sum_cons] at h
    cases i with
    | zero => show n = 0; omega
    | succ i => exact sum_zero l i (by omega)
/-- How often a handler stands in a mix. -/
theorem mix_count (d : Nat) : ∀ (left : List Nat), left.sum = d → ∀ L, L ∈ genL nxtM d left () → ∀ i : Nat, L.count (i : Int) = left.getD i 0 := by
  induction d with
  | zero => intro left hs L h i; rw [List.mem_singleton.1 h, sum_zero left i hs]; rfl
  | succ d ih =>
    intro left hs L hL i
    obtain ⟨h, s', m, hh, e, hm, rfl⟩ := mem_gen.1 hL
    have e0 : left.getD h 0 ≠ 0 := by intro z; unfold nxtM at e; rw [if_pos z] at e; cases e
    cases s'
    have := ih (dec left h) (by have := dec_sum (left := left) (h := h) hh e0; omega) m hm i
    rw [List.count_cons, this, dec_at]
    by_cases z : i = h
    · subst z; rw [if_pos rfl, if_pos (by simp)]; omega
    · rw [if_neg z]; have : ((h : Int) == (i : Int)) = false := by simp; omega
      rw [this]; simp
/-- Every list of the right numbers is a mix. -/
theorem mix_mem (d : Nat) : ∀ (left : List Nat) (L : List Int), L.length = d → (∀ x ∈ L, 0 ≤ x ∧ x < (left.length : Int)) → (∀ i : Nat, L.count (i : Int) = left.getD i 0) → L ∈ genL nxtM d left () := by
  induction d with
  | zero => intro left L hl _ _; rw [List.length_eq_zero_iff.1 hl]; exact List.mem_singleton.2 rfl
  | succ d ih =>
    intro left L hl hx hc
    cases L with
    | nil => simp at hl
    | cons x m =>
      have h0 := hx x (by simp)
      obtain ⟨h, rfl⟩ : ∃ h : Nat, x = (h : Int) := ⟨x.toNat, by omega⟩
      have hp := hc h
      rw [List.count_cons] at hp
      simp at hp
      refine mem_gen.2 ⟨h, (), m, by omega, by unfold nxtM; rw [if_neg (by rw [List.getD_eq_getElem?_getD]; omega)], ih _ _ (by simpa using hl) (fun y hy => by rw [dec_len]; exact hx y (by simp [hy])) (fun i => ?_), rfl⟩
      rw [dec_at]
      have := hc i
      rw [List.count_cons] at this
      by_cases z : i = h
      · subst z; simp at this; rw [if_pos rfl, List.getD_eq_getElem?_getD]; omega
      · have z2 : ((h : Int) == (i : Int)) = false := by simp; omega
        rw [z2] at this
        rw [if_neg z]; simpa using this
/-! ### Few -/
def swAt (left : List Nat) (last : Option Nat) (h : Nat) : Nat := match last with
  | none => 0
  | some p => if p ≠ h ∧ 0 < left.getD p 0 then 1 else 0
/-- Of a search of Few: the last pick and the switches so far. -/
def nxtF (most : Int) (left : List Nat) (s : Option Nat × Nat) (h : Nat) : Option (Option Nat × Nat) :=
  if left.getD h 0 = 0 then none else if ((s.2 + swAt left s.1 h : Nat) : Int) ≤ most then some (some h, s.2 + swAt left s.1 h) else none
def swF (last : Option Nat) (L : List Int) : Nat := match last with
  | none => nsw L
  | some p => nsw ((p : Int) :: L)
theorem swF_nil (last : Option Nat) : swF last [] = 0 := by cases last <;> rfl
theorem swF_cons {d : Nat} {left : List Nat} {m : List Int} (hs : left.sum = d + 1) {h : Nat} (hh : h < left.length) (e0 : left.getD h 0 ≠ 0) (hm : m ∈ genL nxtM d (dec left h) ()) (last : Option Nat) : swF last ((h : Int) :: m) = swAt left last h + swF (some h) m := by
  cases last with
  | none => show nsw _ = 0 + nsw _; rw [Nat.zero_add]
  | some p =>
    show (if (p : Int) ≠ (h : Int) ∧ (p : Int) ∈ (h : Int) :: m then 1 else 0) + nsw ((h : Int) :: m) = (if p ≠ h ∧ 0 < left.getD p 0 then 1 else 0) + nsw ((h : Int) :: m)
    congr 1
    have hc := mix_count d (dec left h) (by have := dec_sum (left := left) (h := h) hh e0; omega) m hm p
    rw [dec_at] at hc
    by_cases z : p = h
    · subst z; simp
    · rw [if_neg z] at hc
      have h2 : ((p : Int) ∈ (h : Int) :: m) ↔ 0 < left.getD p 0 := by
        rw [List.mem_cons, ← hc, List.count_pos_iff]
        constructor
        · rintro (y | y)
          · omega
          · exact y
        · exact .inr
      by_cases y : 0 < left.getD p 0
      · rw [if_pos ⟨by omega, h2.2 y⟩, if_pos ⟨z, y⟩]
      · rw [if_neg (fun q => y (h2.1 q.2)), if_neg (fun q => y q.2)]
theorem flatMap_same {α β : Type} (l : List α) {f g : α → List β} (h : ∀ x ∈ l, f x = g x) : l.flatMap f = l.flatMap g := by
  induction l with
  | nil => rfl
  | cons a l ih => rw [List.flatMap_cons, List.flatMap_cons, h a (by simp), ih (fun x hx => h x (by simp [hx]))]
/-- Few: the mixes with few switches. -/
theorem few_filter (most : Int) (d : Nat) : ∀ (left : List Nat) (last : Option Nat) (sw : Nat), left.sum = d → (sw : Int) ≤ most → genL (nxtF most) d left (last, sw) = (genL nxtM d left ()).filter (fun L => decide (((sw + swF last L : Nat) : Int) ≤ most)) := by
  induction d with
  | zero =>
    intro left last sw hs hm
    show [[]] = List.filter _ [[]]
    rw [List.filter_cons_of_pos (by rw [swF_nil]; exact decide_eq_true hm)]
    rfl
  | succ d ih =>
    intro left last sw hs hm
    rw [genL_succ, genL_succ, List.filter_flatMap]
    refine flatMap_same _ fun h hh => ?_
    rw [List.mem_range] at hh
    by_cases e0 : left.getD h 0 = 0
    · rw [segL_none (by unfold nxtF; rw [if_pos e0]), segL_none (by unfold nxtM; rw [if_pos e0])]; rfl
    · rw [segL_some (nxt := nxtM) (s' := ()) (by unfold nxtM; rw [if_neg e0]), List.filter_map]
      have hd : (dec left h).sum = d := by have := dec_sum (left := left) (h := h) hh e0; omega
      by_cases z : ((sw + swAt left last h : Nat) : Int) ≤ most
      · rw [segL_some (nxt := nxtF most) (s' := (some h, sw + swAt left last h)) (by unfold nxtF; rw [if_neg e0, if_pos z]), ih _ _ _ hd z]
        congr 1
        refine List.filter_congr fun m hmm => ?_
        show _ = decide (((sw + swF last ((h : Int) :: m) : Nat) : Int) ≤ most)
        rw [swF_cons hs hh e0 hmm, Nat.add_assoc]
      · rw [segL_none (by unfold nxtF; rw [if_neg e0, if_neg z])]
        symm
        rw [List.map_eq_nil_iff, List.filter_eq_nil_iff]
        intro m hmm
        show ¬ decide (((sw + swF last ((h : Int) :: m) : Nat) : Int) ≤ most) = true
        rw [swF_cons hs hh e0 hmm]
        simp; omega
/-! ### the first mix -/
def runs : Nat → List Nat → List Int
  | _, [] => []
  | h, n :: l => List.replicate n (h : Int) ++ runs (h + 1) l
theorem runs_mem (l : List Nat) : ∀ (h : Nat) (x : Int), x ∈ runs h l → (h : Int) ≤ x ∧ x < ((h + l.length : Nat) : Int) := by
  induction l with
  | nil => intro h x hx; cases hx
  | cons n l ih =>
    intro h x hx
    rcases List.mem_append.1 hx with z | z
    · rw [(List.mem_replicate.1 z).2]; simp; omega
    · have := ih (h + 1) x z; simp at this ⊢; omega
theorem runs_sorted (l : List Nat) : ∀ h, (runs h l).Pairwise (· ≤ ·) := by
  induction l with
  | nil => intro h; exact List.Pairwise.nil
  | cons n l ih =>
    intro h
    refine List.pairwise_append.2 ⟨List.pairwise_replicate.2 (.inr (Int.le_refl _)), ih (h + 1), fun a ha b hb => ?_⟩
    rw [(List.mem_replicate.1 ha).2]
    have := runs_mem l (h + 1) b hb
    omega
theorem runs_len (l : List Nat) : ∀ h, (runs h l).length = l.sum := by
  induction l with
  | nil => intro h; rfl
  | cons n l ih => intro h; show (List.replicate n (h : Int) ++ runs (h + 1) l).length = _; rw [List.length_append, List.length_replicate, ih, List.sum_cons]
theorem runs_count (l : List Nat) : ∀ (h i : Nat), (runs h l).count ((h + i : Nat) : Int) = l.getD i 0 := by
  induction l with
  | nil => intro h i; rfl
  | cons n l ih =>
    intro h i
    show (List.replicate n (h : Int) ++ runs (h + 1) l).count _ = _
    rw [List.count_append, List.count_replicate]
    cases i with
    | zero =>
      have : (runs (h + 1) l).count ((h + 0 : Nat) : Int) = 0 := List.count_eq_zero.2 (fun z => by have := runs_mem l (h + 1) _ z; omega)
      rw [this]; simp
    | succ i =>
      have e : ((h : Int) == ((h + (i + 1) : Nat) : Int)) = false := by simp; omega
      rw [e, show h + (i + 1) = h + 1 + i by omega, ih]; simp
theorem nsw_sorted : ∀ l : List Int, l.Pairwise (· ≤ ·) → nsw l = 0
  | [], _ => rfl
  | [_], _ => rfl
  | x :: y :: r, h => by
    have h1 := List.pairwise_cons.1 h
    have h2 := List.pairwise_cons.1 h1.2
    show (if x ≠ y ∧ x ∈ y :: r then 1 else 0) + nsw (y :: r) = 0
    rw [nsw_sorted (y :: r) h1.2, if_neg]
    rintro ⟨h3, h4⟩
    have h5 := h1.1 y (by simp)
    rcases List.mem_cons.1 h4 with z | z
    · exact h3 z
    · have := h2.1 x z; omega
theorem runs_mix (left : List Nat) : runs 0 left ∈ genL nxtM left.sum left () :=
  mix_mem _ _ _ (runs_len left 0) (fun x hx => by have := runs_mem left 0 x hx; simp at this; omega) (fun i => by have := runs_count left 0 i; rwa [Nat.zero_add] at this)
end Go.Proofs.Ytfcjfjmjcmanaaa.V
set_option linter.unusedVariables false
namespace Go.Proofs.Ytfcjfjmjcmanaaa.V
open Go Go.RowKit Go.Proofs.Ytfcjfjmjcmanaaa.X
theorem blw_cons (x y : Int) (a b : List Int) : blw (x :: a) (y :: b) = if x = y then blw a b else decide (x < y) := rfl
theorem blw_irr : ∀ l : List Int, blw l l = false
  | [] => rfl
  | x :: l => by rw [blw_cons, if_pos rfl]; exact blw_irr l
theorem blw_asym : ∀ a b : List Int, blw a b = true → blw b a = false
  | [], _, h => by simp [blw] at h
  | x :: a, [], h => rfl
  | x :: a, y :: b, h => by
    rw [blw_cons] at h ⊢
    by_cases e : x = y
    · rw [if_pos e] at h; rw [if_pos e.symm]; exact blw_asym a b h
    · rw [if_neg e] at h; rw [if_neg (fun z => e z.symm)]
      have := of_decide_eq_true h
      exact decide_eq_false (by omega)
/-- The places of a rising list. -/
theorem rise_idx {Ls : List (List Int)} (hr : Ls.Pairwise (fun a b => blw a b = true)) {i j : Nat} {a b : List Int} (ha : Ls[i]? = some a) (hb : Ls[j]? = some b) (h : blw a b = true) : i < j := by
  obtain ⟨hi, rfl⟩ := List.getElem?_eq_some_iff.1 ha
  obtain ⟨hj, rfl⟩ := List.getElem?_eq_some_iff.1 hb
  rcases Nat.lt_trichotomy i j with z | z | z
  · exact z
  · subst z; rw [blw_irr] at h; cases h
  · have := List.pairwise_iff_getElem.1 hr j i hj hi z
    rw [blw_asym _ _ this] at h; cases h
theorem rise_next {Ls : List (List Int)} (hr : Ls.Pairwise (fun a b => blw a b = true)) {k : Nat} {a b : List Int} (ha : Ls[k]? = some a) (hb : b ∈ Ls) (h : blw a b = true) (hno : ∀ m ∈ Ls, blw a m = true → blw m b = true → False) : Ls[k + 1]? = some b := by
  obtain ⟨j, hj, rfl⟩ := List.mem_iff_getElem.1 hb
  have hb' : Ls[j]? = some Ls[j] := List.getElem?_eq_getElem hj
  have h1 := rise_idx hr ha hb' h
  rcases Nat.lt_or_ge (k + 1) j with z | z
  · exfalso
    have hk : k + 1 < Ls.length := by omega
    obtain ⟨hk0, e⟩ := List.getElem?_eq_some_iff.1 ha
    have p1 := List.pairwise_iff_getElem.1 hr k (k + 1) hk0 hk (by omega)
    have p2 := List.pairwise_iff_getElem.1 hr (k + 1) j hk hj z
    rw [e] at p1
    exact hno _ (List.getElem_mem hk) p1 p2
  · have : j = k + 1 := by omega
    subst this; exact hb'
theorem rise_last {Ls : List (List Int)} (hr : Ls.Pairwise (fun a b => blw a b = true)) {k : Nat} {a : List Int} (ha : Ls[k]? = some a) (hno : ∀ m ∈ Ls, blw a m = true → False) : k + 1 = Ls.length := by
  obtain ⟨hk, e⟩ := List.getElem?_eq_some_iff.1 ha
  rcases Nat.lt_or_ge (k + 1) Ls.length with z | z
  · exfalso
    have p1 := List.pairwise_iff_getElem.1 hr k (k + 1) hk z (by omega)
    rw [e] at p1
    exact hno _ (List.getElem_mem z) p1
  · omega
theorem rise_first {Ls : List (List Int)} (hr : Ls.Pairwise (fun a b => blw a b = true)) {a : List Int} (ha : a ∈ Ls) (hno : ∀ m ∈ Ls, blw m a = true → False) : Ls[0]? = some a := by
  obtain ⟨j, hj, rfl⟩ := List.mem_iff_getElem.1 ha
  cases j with
  | zero => exact List.getElem?_eq_getElem hj
  | succ j =>
    exfalso
    have p1 := List.pairwise_iff_getElem.1 hr 0 (j + 1) (by omega) hj (by omega)
    exact hno _ (List.getElem_mem (by omega)) p1
/-- Falling: nothing of the same numbers is above. -/
theorem fall_top : ∀ (L M : List Int), L.Pairwise (· ≥ ·) → L.Perm M → blw L M = true → False
  | [], M, _, _, h => by simp [blw] at h
  | x :: L, [], _, _, h => by simp [blw] at h
  | x :: L, y :: M, hd, hp, h => by
    rw [blw_cons] at h
    have hd := List.pairwise_cons.1 hd
    by_cases e : x = y
    · subst e
      rw [if_pos rfl] at h
      exact fall_top L M hd.2 ((List.perm_cons x).1 hp) h
    · rw [if_neg e] at h
      have h := of_decide_eq_true h
      rcases List.mem_cons.1 (hp.mem_iff.2 (List.mem_cons_self (a := y) (l := M))) with z | z
      · omega
      · have := hd.1 y z; omega
/-- Rising: nothing of the same numbers is below. -/
theorem rise_low : ∀ (L M : List Int), L.Pairwise (· ≤ ·) → L.Perm M → blw M L = true → False
  | [], M, _, _, h => by cases M <;> simp [blw] at h
  | x :: L, [], _, _, h => by simp [blw] at h
  | x :: L, y :: M, hd, hp, h => by
    rw [blw_cons] at h
    have hd := List.pairwise_cons.1 hd
    by_cases e : x = y
    · subst e
      rw [if_pos rfl] at h
      exact rise_low L M hd.2 ((List.perm_cons x).1 hp) h
    · rw [if_neg (fun z => e z.symm)] at h
      have h := of_decide_eq_true h
      rcases List.mem_cons.1 (hp.mem_iff.2 (List.mem_cons_self (a := y) (l := M))) with z | z
      · omega
      · have := hd.1 y z; omega
/-- A turn: y the least of D above x; R rises. -/
theorem turn_gap (x y : Int) (D R : List Int) (hD : D.Pairwise (· ≥ ·)) (hR : R.Pairwise (· ≤ ·)) (hxy : x < y) (hmin : ∀ z ∈ D, x < z → y ≤ z) (hp : (x :: D).Perm (y :: R)) : ∀ (A M : List Int), (A ++ x :: D).Perm M → blw (A ++ x :: D) M = true → blw M (A ++ y :: R) = true → False
  | [], [], hM, _, _ => by have := hM.length_eq; simp at this
  | [], z :: M, hM, h1, h2 => by
    rw [List.nil_append] at hM
    simp only [List.nil_append, blw_cons] at h1 h2
    by_cases e1 : x = z
    · subst e1
      rw [if_pos rfl] at h1
      exact fall_top D M hD ((List.perm_cons x).1 hM) h1
    · rw [if_neg e1] at h1
      have h1 := of_decide_eq_true h1
      by_cases e2 : z = y
      · subst e2
        rw [if_pos rfl] at h2
        exact rise_low R M hR ((List.perm_cons z).1 (hp.symm.trans hM)) h2
      · rw [if_neg e2] at h2
        have h2 := of_decide_eq_true h2
        rcases List.mem_cons.1 (hM.mem_iff.2 (List.mem_cons_self (a := z) (l := M))) with q | q
        · omega
        · have := hmin z q h1; omega
  | a :: A, [], hM, _, _ => by have := hM.length_eq; simp at this
  | a :: A, z :: M, hM, h1, h2 => by
    simp only [List.cons_append, blw_cons] at h1 h2
    by_cases e1 : a = z
    · subst e1
      rw [if_pos rfl] at h1 h2
      exact turn_gap x y D R hD hR hxy hmin hp A M ((List.perm_cons a).1 hM) h1 h2
    · rw [if_neg e1] at h1
      rw [if_neg (fun q => e1 q.symm)] at h2
      have h1 := of_decide_eq_true h1
      have h2 := of_decide_eq_true h2
      omega
theorem blw_front (x y : Int) (D R : List Int) (hxy : x < y) : ∀ A : List Int, blw (A ++ x :: D) (A ++ y :: R) = true
  | [] => by rw [List.nil_append, List.nil_append, blw_cons, if_neg (by omega)]; exact decide_eq_true hxy
  | a :: A => by rw [List.cons_append, List.cons_append, blw_cons, if_pos rfl]; exact blw_front x y D R hxy A
/-- Mixes of the same steps: the same numbers. -/
theorem mix_perm {d : Nat} {left : List Nat} (hs : left.sum = d) {L M : List Int} (hL : L ∈ genL nxtM d left ()) (hM : M ∈ genL nxtM d left ()) : L.Perm M := by
  rw [List.perm_iff_count]
  intro a
  by_cases h : 0 ≤ a
  · obtain ⟨i, rfl⟩ : ∃ i : Nat, a = (i : Int) := ⟨a.toNat, by omega⟩
    rw [mix_count d left hs L hL, mix_count d left hs M hM]
  · rw [List.count_eq_zero.2 (fun z => h (gen_num d left () L hL a z).1), List.count_eq_zero.2 (fun z => h (gen_num d left () M hM a z).1)]
theorem mix_of_perm {d : Nat} {left : List Nat} (hs : left.sum = d) {L M : List Int} (hL : L ∈ genL nxtM d left ()) (h : L.Perm M) : M ∈ genL nxtM d left () :=
  mix_mem d left M (by rw [← h.length_eq]; exact gen_len d left () L hL) (fun x hx => gen_num d left () L hL x (h.mem_iff.2 hx)) (fun i => by rw [← h.count_eq]; exact mix_count d left hs L hL i)
/-- The first. -/
theorem mix_first (left : List Nat) : (genL nxtM left.sum left ())[0]? = some (runs 0 left) :=
  rise_first (gen_rise _ _ _) (runs_mix left) (fun M hM h => rise_low _ M (runs_sorted left 0) (mix_perm rfl (runs_mix left) hM) h)
/-- The last. -/
theorem mix_last {d : Nat} {left : List Nat} (hs : left.sum = d) {k : Nat} {L : List Int} (hk : (genL nxtM d left ())[k]? = some L) (hf : L.Pairwise (· ≥ ·)) : k + 1 = (genL nxtM d left ()).length :=
  rise_last (gen_rise _ _ _) hk (fun M hM h => fall_top L M hf (mix_perm hs (List.mem_of_getElem? hk) hM) h)
/-- The one behind. -/
theorem mix_next {d : Nat} {left : List Nat} (hs : left.sum = d) {k : Nat} {A E G : List Int} {x y : Int} (hk : (genL nxtM d left ())[k]? = some (A ++ x :: (E ++ y :: G))) (hf : (E ++ y :: G).Pairwise (· ≥ ·)) (hxy : x < y) (hG : ∀ z ∈ G, z ≤ x) : (genL nxtM d left ())[k + 1]? = some (A ++ y :: (E ++ x :: G).reverse) := by
  have hp : (x :: (E ++ y :: G)).Perm (y :: (E ++ x :: G).reverse) := by
    have h1 : (x :: (E ++ y :: G)).Perm (x :: y :: (E ++ G)) := List.Perm.cons x List.perm_middle
    have h2 : (y :: (E ++ x :: G)).Perm (y :: x :: (E ++ G)) := List.Perm.cons y List.perm_middle
    exact (h1.trans (List.Perm.swap y x _)).trans (h2.symm.trans ((List.reverse_perm _).symm.cons y))
  have hf' := List.pairwise_append.1 hf
  have hg := List.pairwise_cons.1 hf'.2.1
  have hR : (E ++ x :: G).reverse.Pairwise (· ≤ ·) := by
    rw [List.pairwise_reverse]
    refine List.pairwise_append.2 ⟨hf'.1, List.pairwise_cons.2 ⟨fun z hz => hG z hz, hg.2⟩, fun a ha b hb => ?_⟩
    have h1 := hf'.2.2 a ha y (by simp)
    rcases List.mem_cons.1 hb with z | z
    · show b ≤ a; omega
    · exact hf'.2.2 a ha b (by simp [z])
  have hmin : ∀ z ∈ E ++ y :: G, x < z → y ≤ z := fun z hz hx => by
    rcases List.mem_append.1 hz with q | q
    · exact hf'.2.2 z q y (by simp)
    · rcases List.mem_cons.1 q with q | q
      · omega
      · have := hG z q; omega
  have hm := List.mem_of_getElem? hk
  exact rise_next (gen_rise _ _ _) hk (mix_of_perm hs hm (hp.append_left A)) (blw_front x y _ _ hxy A) (fun M hM h1 h2 => turn_gap x y _ _ hf hR hxy hmin hp A M (mix_perm hs hm hM) h1 h2)
end Go.Proofs.Ytfcjfjmjcmanaaa.V
