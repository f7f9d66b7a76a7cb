/- Mixes and Few: what their lists are. Plain. -/
import Derived.Test.YtfcjfjmjcmanaaaGb
import Derived.Test.YtfcjfjmjcmanaaaGm
import Derived.Test.YtfcjfjmjcmanaaaBwq
import Derived.Test.YtfcjfjmjcmanaaaXwq
set_option linter.unusedVariables false
namespace Go.Proofs.Ytfcjfjmjcmanaaa.V
open Go Go.RowKit Go.Proofs.Ytfcjfjmjcmanaaa.X
section
variable {σ : Type} {nxt : List Nat → σ → Nat → Option σ}
theorem mem_gen {d : Nat} {left : List Nat} {s : σ} {L : List Int} : L ∈ genL nxt (d + 1) left s ↔ ∃ h s' m, h < left.length ∧ nxt left s h = some s' ∧ m ∈ genL nxt d (dec left h) s' ∧ L = (h : Int) :: m := by
  rw [genL_succ, List.mem_flatMap]
  constructor
  · rintro ⟨h, hh, hL⟩
    rw [List.mem_range] at hh
    unfold segL at hL
    split at hL
    · cases hL
    · rename_i s' e
      obtain ⟨m, hm, rfl⟩ := List.mem_map.1 hL
      exact ⟨h, s', m, hh, e, hm, rfl⟩
  · rintro ⟨h, s', m, hh, e, hm, rfl⟩
    refine ⟨h, List.mem_range.2 hh, ?_⟩
    rw [segL_some e]
    exact List.mem_map.2 ⟨m, hm, rfl⟩
theorem gen_len (d : Nat) : ∀ (left : List Nat) (s : σ) (L : List Int), L ∈ genL nxt d left s → L.length = d := by
  induction d with
  | zero => intro left s L h; rw [List.mem_singleton.1 h]; rfl
  | succ d ih =>
    intro left s L h
    obtain ⟨h, s', m, _, _, hm, rfl⟩ := mem_gen.1 h
    rw [List.length_cons, ih _ _ _ hm]
theorem gen_num (d : Nat) : ∀ (left : List Nat) (s : σ) (L : List Int), L ∈ genL nxt d left s → ∀ x ∈ L, 0 ≤ x ∧ x < (left.length : Int) := by
  induction d with
  | zero => intro left s L h x hx; rw [List.mem_singleton.1 h] at hx; cases hx
  | succ d ih =>
    intro left s L h x hx
    obtain ⟨h, s', m, hh, _, hm, rfl⟩ := mem_gen.1 h
    rcases List.mem_cons.1 hx with rfl | hx
    · omega
    · have := ih _ _ _ hm x hx
      rwa [dec_len] at this
/-- The lists rise. -/
theorem gen_rise (d : Nat) : ∀ (left : List Nat) (s : σ), (genL nxt d left s).Pairwise (fun a b => blw a b = true) := by
  induction d with
  | zero => intro left s; exact List.pairwise_singleton _ _
  | succ d ih =>
    intro left s
    rw [genL_succ, List.pairwise_flatMap]
    refine ⟨fun h _ => ?_, ?_⟩
    · unfold segL
      split
      · exact List.Pairwise.nil
      · rw [List.pairwise_map]
        refine (ih _ _).imp (fun {a b} hab => ?_)
        show (if (h : Int) = (h : Int) then blw a b else decide ((h : Int) < (h : Int))) = true
        rw [if_pos rfl]; exact hab
    · refine List.pairwise_lt_range.imp (fun {a b} hab => ?_)
      intro x hx y hy
      unfold segL at hx hy
      split at hx
      · cases hx
      · split at hy
        · cases hy
        · obtain ⟨m, _, rfl⟩ := List.mem_map.1 hx
          obtain ⟨m', _, rfl⟩ := List.mem_map.1 hy
          show (if (a : Int) = (b : Int) then blw m m' else decide ((a : Int) < (b : Int))) = true
          rw [if_neg (by omega)]
          exact decide_eq_true (by omega)
end
theorem dec_mu (left : List Nat) (h : Nat) : dec left h = Mu.dec left h := rfl
/-- There are as many mixes as there are. -/
theorem mixes_count (d : Nat) : ∀ (left : List Nat), left.sum = d → (genL nxtM d left ()).length = Mu.M left := by
  induction d with
  | zero => intro left h; rw [Mu.M_zero left h]; rfl
  | succ d ih =>
    intro left hs
    have key : ∀ h, h ≤ left.length → offL nxtM d left () h = Mu.pre left h := by
      intro h
      induction h with
      | zero => intro _; rfl
      | succ h ihh =>
        intro hh
        rw [offL_next, ihh (by omega)]
        show _ = Mu.pre left h + Mu.w left h
        congr 1
        unfold Mu.w
        by_cases e : left.getD h 0 = 0
        · rw [segL_none (by unfold nxtM; rw [if_pos e]), if_neg (by omega)]; rfl
        · rw [segL_some (s' := ()) (by unfold nxtM; rw [if_neg e]), if_pos (by omega), List.length_map]
          exact ih _ (by have := dec_sum (left := left) (h := h) (by omega) e; omega)
    rw [← offL_all, key _ (Nat.le_refl _), Mu.pre_all left (by omega)]
theorem dec_at (left : List Nat) (h i : Nat) : (dec left h).getD i 0 = if i = h then left.getD h 0 - 1 else left.getD i 0 := Mu.dec_getD left h i
theorem sum_zero : ∀ (l : List Nat) (i : Nat), l.sum = 0 → l.getD i 0 = 0
  | [], i, _ => rfl
  | n :: l, i, h => by
    rw [List.sum_cons] at h
    cases i with
    | zero => show n = 0; omega
    | succ i => exact sum_zero l i (by omega)
/-- How often a handler stands in a mix. -/
theorem mix_count (d : Nat) : ∀ (left : List Nat), left.sum = d → ∀ L, L ∈ genL nxtM d left () → ∀ i : Nat, L.count (i : Int) = left.getD i 0 := by
  induction d with
  | zero => intro left hs L h i; rw [List.mem_singleton.1 h, sum_zero left i hs]; rfl
  | succ d ih =>
    intro left hs L hL i
    obtain ⟨h, s', m, hh, e, hm, rfl⟩ := mem_gen.1 hL
    have e0 : left.getD h 0 ≠ 0 := by intro z; unfold nxtM at e; rw [if_pos z] at e; cases e
    cases s'
    have := ih (dec left h) (by have := dec_sum (left := left) (h := h) hh e0; omega) m hm i
    rw [List.count_cons, this, dec_at]
    by_cases z : i = h
    · subst z; rw [if_pos rfl, if_pos (by simp)]; omega
    · rw [if_neg z]; have : ((h : Int) == (i : Int)) = false := by simp; omega
      rw [this]; simp
/-- Every list of the right numbers is a mix. -/
theorem mix_mem (d : Nat) : ∀ (left : List Nat) (L : List Int), L.length = d → (∀ x ∈ L, 0 ≤ x ∧ x < (left.length : Int)) → (∀ i : Nat, L.count (i : Int) = left.getD i 0) → L ∈ genL nxtM d left () := by
  induction d with
  | zero => intro left L hl _ _; rw [List.length_eq_zero_iff.1 hl]; exact List.mem_singleton.2 rfl
  | succ d ih =>
    intro left L hl hx hc
    cases L with
    | nil => simp at hl
    | cons x m =>
      have h0 := hx x (by simp)
      obtain ⟨h, rfl⟩ : ∃ h : Nat, x = (h : Int) := ⟨x.toNat, by omega⟩
      have hp := hc h
      rw [List.count_cons] at hp
      simp at hp
      refine mem_gen.2 ⟨h, (), m, by omega, by unfold nxtM; rw [if_neg (by rw [List.getD_eq_getElem?_getD]; omega)], ih _ _ (by simpa using hl) (fun y hy => by rw [dec_len]; exact hx y (by simp [hy])) (fun i => ?_), rfl⟩
      rw [dec_at]
      have := hc i
      rw [List.count_cons] at this
      by_cases z : i = h
      · subst z; simp at this; rw [if_pos rfl, List.getD_eq_getElem?_getD]; omega
      · have z2 : ((h : Int) == (i : Int)) = false := by simp; omega
        rw [z2] at this
        rw [if_neg z]; simpa using this
/-! ### Few -/
def swAt (left : List Nat) (last : Option Nat) (h : Nat) : Nat := match last with
  | none => 0
  | some p => if p ≠ h ∧ 0 < left.getD p 0 then 1 else 0
/-- Of a search of Few: the last pick and the switches so far. -/
def nxtF (most : Int) (left : List Nat) (s : Option Nat × Nat) (h : Nat) : Option (Option Nat × Nat) :=
  if left.getD h 0 = 0 then none else if ((s.2 + swAt left s.1 h : Nat) : Int) ≤ most then some (some h, s.2 + swAt left s.1 h) else none
def swF (last : Option Nat) (L : List Int) : Nat := match last with
  | none => nsw L
  | some p => nsw ((p : Int) :: L)
theorem swF_nil (last : Option Nat) : swF last [] = 0 := by cases last <;> rfl
theorem swF_cons {d : Nat} {left : List Nat} {m : List Int} (hs : left.sum = d + 1) {h : Nat} (hh : h < left.length) (e0 : left.getD h 0 ≠ 0) (hm : m ∈ genL nxtM d (dec left h) ()) (last : Option Nat) : swF last ((h : Int) :: m) = swAt left last h + swF (some h) m := by
  cases last with
  | none => show nsw _ = 0 + nsw _; rw [Nat.zero_add]
  | some p =>
    show (if (p : Int) ≠ (h : Int) ∧ (p : Int) ∈ (h : Int) :: m then 1 else 0) + nsw ((h : Int) :: m) = (if p ≠ h ∧ 0 < left.getD p 0 then 1 else 0) + nsw ((h : Int) :: m)
    congr 1
    have hc := mix_count d (dec left h) (by have := dec_sum (left := left) (h := h) hh e0; omega) m hm p
    rw [dec_at] at hc
    by_cases z : p = h
    · subst z; simp
    · rw [if_neg z] at hc
      have h2 : ((p : Int) ∈ (h : Int) :: m) ↔ 0 < left.getD p 0 := by
        rw [List.mem_cons, ← hc, List.count_pos_iff]
        constructor
        · rintro (y | y)
          · omega
          · exact y
        · exact .inr
      by_cases y : 0 < left.getD p 0
      · rw [if_pos ⟨by omega, h2.2 y⟩, if_pos ⟨z, y⟩]
      · rw [if_neg (fun q => y (h2.1 q.2)), if_neg (fun q => y q.2)]
theorem flatMap_same {α β : Type} (l : List α) {f g : α → List β} (h : ∀ x ∈ l, f x = g x) : l.flatMap f = l.flatMap g := by
  induction l with
  | nil => rfl
  | cons a l ih => rw [List.flatMap_cons, List.flatMap_cons, h a (by simp), ih (fun x hx => h x (by simp [hx]))]
/-- Few: the mixes with few switches. -/
theorem few_filter (most : Int) (d : Nat) : ∀ (left : List Nat) (last : Option Nat) (sw : Nat), left.sum = d → (sw : Int) ≤ most → genL (nxtF most) d left (last, sw) = (genL nxtM d left ()).filter (fun L => decide (((sw + swF last L : Nat) : Int) ≤ most)) := by
  induction d with
  | zero =>
    intro left last sw hs hm
    show [[]] = List.filter _ [[]]
    rw [List.filter_cons_of_pos (by rw [swF_nil]; exact decide_eq_true hm)]
    rfl
  | succ d ih =>
    intro left last sw hs hm
    rw [genL_succ, genL_succ, List.filter_flatMap]
    refine flatMap_same _ fun h hh => ?_
    rw [List.mem_range] at hh
    by_cases e0 : left.getD h 0 = 0
    · rw [segL_none (by unfold nxtF; rw [if_pos e0]), segL_none (by unfold nxtM; rw [if_pos e0])]; rfl
    · rw [segL_some (nxt := nxtM) (s' := ()) (by unfold nxtM; rw [if_neg e0]), List.filter_map]
      have hd : (dec left h).sum = d := by have := dec_sum (left := left) (h := h) hh e0; omega
      by_cases z : ((sw + swAt left last h : Nat) : Int) ≤ most
      · rw [segL_some (nxt := nxtF most) (s' := (some h, sw + swAt left last h)) (by unfold nxtF; rw [if_neg e0, if_pos z]), ih _ _ _ hd z]
        congr 1
        refine List.filter_congr fun m hmm => ?_
        show _ = decide (((sw + swF last ((h : Int) :: m) : Nat) : Int) ≤ most)
        rw [swF_cons hs hh e0 hmm, Nat.add_assoc]
      · rw [segL_none (by unfold nxtF; rw [if_neg e0, if_neg z])]
        symm
        rw [List.map_eq_nil_iff, List.filter_eq_nil_iff]
        intro m hmm
        show ¬ decide (((sw + swF last ((h : Int) :: m) : Nat) : Int) ≤ most) = true
        rw [swF_cons hs hh e0 hmm]
        simp; omega
/-! ### the first mix -/
def runs : Nat → List Nat → List Int
  | _, [] => []
  | h, n :: l => List.replicate n (h : Int) ++ runs (h + 1) l
theorem runs_mem (l : List Nat) : ∀ (h : Nat) (x : Int), x ∈ runs h l → (h : Int) ≤ x ∧ x < ((h + l.length : Nat) : Int) := by
  induction l with
  | nil => intro h x hx; cases hx
  | cons n l ih =>
    intro h x hx
    rcases List.mem_append.1 hx with z | z
    · rw [(List.mem_replicate.1 z).2]; simp; omega
    · have := ih (h + 1) x z; simp at this ⊢; omega
theorem runs_sorted (l : List Nat) : ∀ h, (runs h l).Pairwise (· ≤ ·) := by
  induction l with
  | nil => intro h; exact List.Pairwise.nil
  | cons n l ih =>
    intro h
    refine List.pairwise_append.2 ⟨List.pairwise_replicate.2 (.inr (Int.le_refl _)), ih (h + 1), fun a ha b hb => ?_⟩
    rw [(List.mem_replicate.1 ha).2]
    have := runs_mem l (h + 1) b hb
    omega
theorem runs_len (l : List Nat) : ∀ h, (runs h l).length = l.sum := by
  induction l with
  | nil => intro h; rfl
  | cons n l ih => intro h; show (List.replicate n (h : Int) ++ runs (h + 1) l).length = _; rw [List.length_append, List.length_replicate, ih, List.sum_cons]
theorem runs_count (l : List Nat) : ∀ (h i : Nat), (runs h l).count ((h + i : Nat) : Int) = l.getD i 0 := by
  induction l with
  | nil => intro h i; rfl
  | cons n l ih =>
    intro h i
    show (List.replicate n (h : Int) ++ runs (h + 1) l).count _ = _
    rw [List.count_append, List.count_replicate]
    cases i with
    | zero =>
      have : (runs (h + 1) l).count ((h + 0 : Nat) : Int) = 0 := List.count_eq_zero.2 (fun z => by have := runs_mem l (h + 1) _ z; omega)
      rw [this]; simp
    | succ i =>
      have e : ((h : Int) == ((h + (i + 1) : Nat) : Int)) = false := by simp; omega
      rw [e, show h + (i + 1) = h + 1 + i by omega, ih]; simp
theorem nsw_sorted : ∀ l : List Int, l.Pairwise (· ≤ ·) → nsw l = 0
  | [], _ => rfl
  | [_], _ => rfl
  | x :: y :: r, h => by
    have h1 := List.pairwise_cons.1 h
    have h2 := List.pairwise_cons.1 h1.2
    show (if x ≠ y ∧ x ∈ y :: r then 1 else 0) + nsw (y :: r) = 0
    rw [nsw_sorted (y :: r) h1.2, if_neg]
    rintro ⟨h3, h4⟩
    have h5 := h1.1 y (by simp)
    rcases List.mem_cons.1 h4 with z | z
    · exact h3 z
    · have := h2.1 x z; omega
theorem runs_mix (left : List Nat) : runs 0 left ∈ genL nxtM left.sum left () :=
  mix_mem _ _ _ (runs_len left 0) (fun x hx => by have := runs_mem left 0 x hx; simp at this; omega) (fun i => by have := runs_count left 0 i; rwa [Nat.zero_add] at this)
end Go.Proofs.Ytfcjfjmjcmanaaa.V
