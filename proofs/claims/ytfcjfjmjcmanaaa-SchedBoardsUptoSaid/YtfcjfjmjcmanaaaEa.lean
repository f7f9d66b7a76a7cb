/- SchedBoards: the plain law: those who wait stand in the order of their turns. -/
import Derived.Test.YtfcjfjmjcmanaaaBm
set_option linter.unusedVariables false
namespace Go.Proofs.Ytfcjfjmjcmanaaa.B
open Go Go.RowKit
def tnAt (tn : List Int) (h : Int) : Int := tn.getD h.toNat 0
/-- The board, the turns of its handlers, how many turns there were. -/
structure TInv (B : Bd) (tn : List Int) (u : Int) : Prop where
  len : tn.length = B.l.length
  n : 1 ≤ B.l.length ∧ B.l.length ≤ 16
  mem : ∀ k h, h ∈ B.q k ↔ (B.has h = true ∧ (B.hd h).1 = 2 ∧ (B.hd h).2.1 = k)
  ord : ∀ k, (B.q k).Pairwise (fun a b => tnAt tn a < tnAt tn b)
  top : ∀ h, tnAt tn h ≤ u
  u0 : 0 ≤ u
variable {B B' : Bd} {tn : List Int} {u : Int}
theorem has_iff {h : Int} : B.has h = true ↔ 0 ≤ h ∧ h < (B.l.length : Int) := by
  unfold Bd.has
  simp only [Bool.and_eq_true, decide_eq_true_eq]
theorem tinv_new (n : Int) (h1 : 1 ≤ n) (h2 : n ≤ 16) : TInv (Bd.new n) (List.replicate n.toNat 0) 0 := by
  refine ⟨by simp [Bd.new], by simp [Bd.new]; omega, fun k h => ?_, fun k => by simp [Bd.new], fun h => ?_, Int.le_refl _⟩
  · constructor
    · intro z; simp [Bd.new] at z
    · rintro ⟨_, z, _⟩
      unfold Bd.hd Bd.new at z
      simp only [List.getD_eq_getElem?_getD, List.getElem?_replicate] at z
      split at z <;> simp at z
  · unfold tnAt
    rw [List.getD_eq_getElem?_getD, List.getElem?_replicate]
    split <;> simp
theorem hd_set {h h' : Int} (hh : B.has h = true) (hh' : B.has h' = true) (x : Hd) (q : Int → List Int) : (Bd.mk (B.l.set h.toNat x) q).hd h' = if h' = h then x else B.hd h' := by
  obtain ⟨a1, a2⟩ := has_iff.1 hh
  obtain ⟨b1, b2⟩ := has_iff.1 hh'
  unfold Bd.hd
  simp only [List.getD_eq_getElem?_getD, List.getElem?_set]
  by_cases e : h' = h
  · subst e
    rw [if_pos rfl, if_pos rfl, if_pos (by omega)]; rfl
  · rw [if_neg (by omega), if_neg e]
theorem has_set (i : Nat) (x : Hd) (q : Int → List Int) (h : Int) : (Bd.mk (B.l.set i x) q).has h = B.has h := by unfold Bd.has; simp
/-- Nobody is blocked or let go. -/
theorem TInv.alike (I : TInv B tn u) (hl : B'.l.length = B.l.length) (hq : B'.q = B.q) (hs : ∀ h, B.has h = true → ((B'.hd h).1 = 2 ↔ (B.hd h).1 = 2) ∧ ((B.hd h).1 = 2 → (B'.hd h).2.1 = (B.hd h).2.1)) : TInv B' tn u := by
  refine ⟨by rw [hl]; exact I.len, by rw [hl]; exact I.n, fun k h => ?_, by rw [hq]; exact I.ord, I.top, I.u0⟩
  have hh : B'.has h = B.has h := by unfold Bd.has; rw [hl]
  rw [hq, I.mem, hh]
  constructor
  · rintro ⟨a, b, c⟩
    have s := hs h a
    exact ⟨a, s.1.2 b, (s.2 b).trans c⟩
  · rintro ⟨a, b, c⟩
    have s := hs h a
    have b' := s.1.1 b
    exact ⟨a, b', (s.2 b').symm.trans c⟩
theorem TInv.quiet (I : TInv B tn u) {h : Int} (hh : B.has h = true) (h2 : (B.hd h).1 ≠ 2) {x : Hd} (hx : x.1 ≠ 2) : TInv (B.put h x) tn u := by
  refine I.alike (by simp [Bd.put]) rfl (fun h' hh' => ?_)
  unfold Bd.put
  rw [hd_set hh hh']
  by_cases e : h' = h
  · subst e
    rw [if_pos rfl]
    exact ⟨⟨fun z => absurd z hx, fun z => absurd z h2⟩, fun z => absurd z h2⟩
  · rw [if_neg e]; exact ⟨Iff.rfl, fun _ => rfl⟩
theorem TInv.start (I : TInv B tn u) (h : Int) : TInv (B.start h).1 tn u := by
  unfold Bd.start
  split
  · exact I
  · rename_i hh
    split
    · rename_i h0
      exact I.quiet (by simpa using hh) (by omega) (by decide)
    · exact I
theorem rdy_zero {h : Int} (hr : B.rdy h = 0) : B.has h = true ∧ (B.hd h).1 ≠ 0 ∧ (B.hd h).1 ≠ 2 := by
  unfold Bd.rdy at hr
  split at hr
  · cases hr
  · rename_i hh
    split at hr
    · cases hr
    · split at hr
      · cases hr
      · exact ⟨by simpa using hh, by assumption, by assumption⟩
theorem TInv.finish (I : TInv B tn u) (h : Int) : TInv (B.finish h).1 tn u := by
  unfold Bd.finish
  split
  · rename_i hr
    obtain ⟨hh, _, h2⟩ := rdy_zero hr
    exact I.quiet hh h2 (by decide)
  · exact I
theorem TInv.block (I : TInv B tn u) {h : Int} (on : Int) (hr : B.rdy h = 0) : TInv (B.block h on).1 (tn.set h.toNat (u + 1)) (u + 1) := by
  obtain ⟨hh, _, h2⟩ := rdy_zero hr
  obtain ⟨a1, a2⟩ := has_iff.1 hh
  have hlen := I.len
  unfold Bd.block
  rw [if_pos hr]
  have nin : ∀ k, h ∉ B.q k := fun k z => h2 ((I.mem k h).1 z).2.1
  have ts : ∀ x, B.has x = true → tnAt (tn.set h.toNat (u + 1)) x = if x = h then u + 1 else tnAt tn x := by
    intro x hx
    obtain ⟨b1, b2⟩ := has_iff.1 hx
    unfold tnAt
    simp only [List.getD_eq_getElem?_getD, List.getElem?_set]
    by_cases e : x = h
    · subst e
      rw [if_pos rfl, if_pos rfl, if_pos (by omega)]; rfl
    · rw [if_neg (by omega), if_neg e]
  have old : ∀ k, (B.q k).Pairwise (fun a b => tnAt (tn.set h.toNat (u + 1)) a < tnAt (tn.set h.toNat (u + 1)) b) := by
    intro k
    refine (I.ord k).imp_of_mem (fun {a b} ha hb hab => ?_)
    rw [ts a ((I.mem k a).1 ha).1, ts b ((I.mem k b).1 hb).1, if_neg (fun e => nin k (by rw [← e]; exact ha)), if_neg (fun e => nin k (by rw [← e]; exact hb))]
    exact hab
  refine ⟨by simp [hlen], by simpa using I.n, fun k x => ?_, fun k => ?_, fun x => ?_, by have := I.u0; omega⟩
  · rw [has_set]
    have e1 : x ∈ upd B.q on (B.q on ++ [h]) k ↔ (x ∈ B.q k ∨ (k = on ∧ x = h)) := by
      unfold upd
      split
      · rename_i e; subst e; simp
      · rename_i e; simp [e]
    refine e1.trans ?_
    constructor
    · rintro (z | ⟨rfl, rfl⟩)
      · have q := (I.mem k x).1 z
        have ne : x ≠ h := fun e => nin k (by rw [← e]; exact z)
        rw [hd_set hh q.1, if_neg ne]
        exact q
      · rw [hd_set hh hh, if_pos rfl]
        exact ⟨hh, rfl, rfl⟩
    · rintro ⟨hx, b, c⟩
      rw [hd_set hh hx] at b c
      by_cases e : x = h
      · rw [if_pos e] at c
        exact .inr ⟨c.symm, e⟩
      · rw [if_neg e] at b c
        exact .inl ((I.mem k x).2 ⟨hx, b, c⟩)
  · show (upd B.q on (B.q on ++ [h]) k).Pairwise _
    unfold upd
    split
    · rw [List.pairwise_append]
      refine ⟨old on, by simp, fun a ha b hb => ?_⟩
      simp at hb
      subst hb
      rw [ts a ((I.mem on a).1 ha).1, ts b hh, if_pos rfl, if_neg (fun e => nin on (by rw [← e]; exact ha))]
      have := I.top a
      omega
    · exact old k
  · by_cases hx : x.toNat = h.toNat
    · unfold tnAt
      rw [List.getD_eq_getElem?_getD, List.getElem?_set, if_pos hx.symm, if_pos (by omega)]
      exact Int.le_refl _
    · have := I.top x
      unfold tnAt at this ⊢
      rw [List.getD_eq_getElem?_getD, List.getElem?_set, if_neg (fun e => hx e.symm), ← List.getD_eq_getElem?_getD]
      omega
theorem pw_ne {L : List Int} {h : Int} (o : (h :: L).Pairwise (fun a b => tnAt tn a < tnAt tn b)) : h ∉ L := fun z => by
  have := (List.pairwise_cons.1 o).1 h z
  omega
theorem TInv.first (I : TInv B tn u) (on : Int) : TInv (B.first on).1 tn u := by
  unfold Bd.first
  have hm := I.mem on
  have ho := I.ord on
  cases hc : B.q on with
  | nil => exact I
  | cons h t =>
    rw [hc] at ho
    have hin := (hm h).1 (by rw [hc]; simp)
    have hh := hin.1
    refine ⟨by simpa using I.len, by simpa using I.n, fun k x => ?_, fun k => ?_, I.top, I.u0⟩
    · rw [has_set]
      by_cases e : k = on
      · subst e
        have e1 : upd B.q k t k = t := by unfold upd; rw [if_pos rfl]
        refine (show x ∈ upd B.q k t k ↔ _ from ?_)
        rw [e1]
        constructor
        · intro z
          have q := (I.mem k x).1 (by rw [hc]; simp [z])
          have ne : x ≠ h := fun e => pw_ne ho (by rw [← e]; exact z)
          rw [hd_set hh q.1, if_neg ne]
          exact q
        · rintro ⟨hx, b, c⟩
          rw [hd_set hh hx] at b c
          by_cases e : x = h
          · rw [if_pos e] at b; cases b
          · rw [if_neg e] at b c
            have z := (I.mem k x).2 ⟨hx, b, c⟩
            rw [hc] at z
            rcases List.mem_cons.1 z with z | z
            · exact absurd z e
            · exact z
      · refine (show x ∈ upd B.q on t k ↔ _ from ?_)
        have e1 : upd B.q on t k = B.q k := by unfold upd; rw [if_neg e]
        rw [e1, I.mem]
        constructor
        · rintro ⟨hx, b, c⟩
          have ne : x ≠ h := fun z => by subst z; exact e (c.symm.trans hin.2.2)
          rw [hd_set hh hx, if_neg ne]
          exact ⟨hx, b, c⟩
        · rintro ⟨hx, b, c⟩
          rw [hd_set hh hx] at b c
          by_cases e2 : x = h
          · rw [if_pos e2] at b; cases b
          · rw [if_neg e2] at b c; exact ⟨hx, b, c⟩
    · show (upd B.q on t k).Pairwise _
      unfold upd
      split
      · exact (List.pairwise_cons.1 ho).2
      · exact I.ord k
theorem wakes_get : ∀ (L : List Int) (l : List Hd) (i : Nat), (∀ h ∈ L, 0 ≤ h ∧ h < (l.length : Int)) → i < l.length → (wakes L l).getD i (0, 0, 0) = if (i : Int) ∈ L then (1, 0, 0) else l.getD i (0, 0, 0)
  | [], l, i, _, _ => by simp [wakes]
  | h :: t, l, i, hL, hi => by
    have h0 := hL h (by simp)
    rw [wakes, wakes_get t _ i (fun x hx => by rw [List.length_set]; exact hL x (by simp [hx])) (by simpa using hi)]
    by_cases e : (i : Int) ∈ t
    · rw [if_pos e, if_pos (by simp [e])]
    · rw [if_neg e, List.getD_eq_getElem?_getD, List.getElem?_set]
      by_cases e2 : h.toNat = i
      · rw [if_pos e2, if_pos (by omega), if_pos (by simp; left; omega)]; rfl
      · rw [if_neg e2, if_neg (by simp [e]; omega), ← List.getD_eq_getElem?_getD]
theorem TInv.wake (I : TInv B tn u) (on : Int) : TInv (B.wake on) tn u := by
  have hl : (B.wake on).l.length = B.l.length := wakes_length _ _
  have hw : ∀ x, B.has x = true → (B.wake on).hd x = if x ∈ B.q on then (1, 0, 0) else B.hd x := fun x hx => by
    obtain ⟨b1, b2⟩ := has_iff.1 hx
    have := wakes_get (B.q on) B.l x.toNat (fun h hh => has_iff.1 ((I.mem on h).1 hh).1) (by omega)
    rw [show ((x.toNat : Nat) : Int) = x by omega] at this
    exact this
  refine ⟨by rw [hl]; exact I.len, by rw [hl]; exact I.n, fun k x => ?_, fun k => ?_, I.top, I.u0⟩
  · have hh : (B.wake on).has x = B.has x := by unfold Bd.has; rw [hl]
    rw [hh]
    refine (show x ∈ upd B.q on [] k ↔ _ from ?_)
    by_cases e : k = on
    · have e1 : upd B.q on [] k = [] := by unfold upd; rw [if_pos e]
      rw [e1]
      constructor
      · intro z; cases z
      · rintro ⟨hx, b, c⟩
        rw [hw x hx] at b c
        by_cases e2 : x ∈ B.q on
        · rw [if_pos e2] at b; cases b
        · rw [if_neg e2] at b c
          exact absurd ((I.mem on x).2 ⟨hx, b, c.trans e⟩) e2
    · have e1 : upd B.q on [] k = B.q k := by unfold upd; rw [if_neg e]
      rw [e1, I.mem]
      constructor
      · rintro ⟨hx, b, c⟩
        rw [hw x hx, if_neg (fun z => e (c.symm.trans ((I.mem on x).1 z).2.2))]
        exact ⟨hx, b, c⟩
      · rintro ⟨hx, b, c⟩
        rw [hw x hx] at b c
        by_cases e2 : x ∈ B.q on
        · rw [if_pos e2] at b; cases b
        · rw [if_neg e2] at b c; exact ⟨hx, b, c⟩
  · show (upd B.q on [] k).Pairwise _
    unfold upd
    split
    · exact List.Pairwise.nil
    · exact I.ord k
theorem bump_fst (x : Hd) : (bump x).1 = x.1 ∧ (bump x).2.1 = x.2.1 := by unfold bump; split <;> exact ⟨rfl, rfl⟩
theorem TInv.pick (I : TInv B tn u) (k : Int) : TInv (B.pick k).1 tn u := by
  unfold Bd.pick
  obtain ⟨r, g, _, _, _, _, _, e6, g0, g1⟩ := pickAt_facts B.l.length I.n k
  rw [e6]
  have hg : B.has g = true := has_iff.2 ⟨g0, g1⟩
  have hm : ∀ x, B.has x = true → (Bd.mk (B.l.map bump) B.q).hd x = bump (B.hd x) := fun x hx => by
    obtain ⟨b1, b2⟩ := has_iff.1 hx
    unfold Bd.hd
    simp only [List.getD_eq_getElem?_getD, List.getElem?_map]
    rw [List.getElem?_eq_getElem (by omega)]; rfl
  have hb : ∀ x, (Bd.mk (B.l.map bump) B.q).has x = B.has x := fun x => by unfold Bd.has; simp
  refine I.alike (by simp) rfl (fun x hx => ?_)
  simp only
  rw [hd_set (B := Bd.mk (B.l.map bump) B.q) (by rw [hb]; exact hg) (by rw [hb]; exact hx)]
  have e7 : (B.l.map bump).getD g.toNat (0, 0, 0) = bump (B.hd g) := hm g hg
  rw [e7, hm x hx]
  obtain ⟨f1, f2⟩ := bump_fst (B.hd x)
  split
  · rename_i e; subst e
    exact ⟨by simp [f1], fun _ => f2⟩
  · exact ⟨by rw [f1], fun _ => f2⟩
/-! ### Waiting, handler after handler -/
/-- Those who wait, of the handlers ahead of k. -/
def wt (L : List Int) (k : Nat) : List Int := L.filter (fun h => decide (h < (k : Int)))
theorem wt_append (A C : List Int) (k : Nat) : wt (A ++ C) k = wt A k ++ wt C k := by simp [wt]
theorem wt_same {L : List Int} {k : Nat} (h : (k : Int) ∉ L) : wt L (k + 1) = wt L k := by
  unfold wt
  refine List.filter_congr (fun x hx => ?_)
  have : x ≠ (k : Int) := fun e => h (by rw [← e]; exact hx)
  exact decide_eq_decide.2 (by omega)
theorem wt_mem {L : List Int} {k : Nat} {x : Int} (h : x ∈ wt L k) : x ∈ L ∧ x < (k : Int) := by
  unfold wt at h
  rw [List.mem_filter] at h
  exact ⟨h.1, of_decide_eq_true h.2⟩
theorem TInv.wt_in (I : TInv B tn u) {on : Int} {k : Nat} (hk : (k : Int) ∈ B.q on) : ∃ A C, wt (B.q on) k = A ++ C ∧ wt (B.q on) (k + 1) = A ++ (k : Int) :: C ∧ (∀ a ∈ A, tnAt tn a < tnAt tn k) ∧ (∀ c ∈ C, tnAt tn k < tnAt tn c) := by
  obtain ⟨A, C, e⟩ := List.append_of_mem hk
  have o := I.ord on
  rw [e, List.pairwise_append] at o
  obtain ⟨o1, o2, o3⟩ := o
  have hA : ∀ a ∈ A, tnAt tn a < tnAt tn k := fun a ha => o3 a ha k (by simp)
  have hC : ∀ c ∈ C, tnAt tn k < tnAt tn c := (List.pairwise_cons.1 o2).1
  have nA : (k : Int) ∉ A := fun z => by have := hA _ z; omega
  have nC : (k : Int) ∉ C := fun z => by have := hC _ z; omega
  refine ⟨wt A k, wt C k, ?_, ?_, fun a ha => hA a (wt_mem ha).1, fun c hc => hC c (wt_mem hc).1⟩
  · rw [e, wt_append]
    congr 1
    simp [wt]
  · rw [e, wt_append, wt_same nA]
    congr 1
    show wt ((k : Int) :: C) (k + 1) = (k : Int) :: wt C k
    rw [← wt_same nC]
    unfold wt
    rw [List.filter_cons_of_pos (by simp; omega)]
theorem TInv.wt_len (I : TInv B tn u) (on : Int) : ∀ k, (wt (B.q on) k).length ≤ k
  | 0 => by
    unfold wt
    rw [List.filter_eq_nil_iff.2 (fun x hx => by have := (has_iff.1 ((I.mem on x).1 hx).1).1; simp; exact this)]
    exact Nat.le_refl _
  | k + 1 => by
    have ih := I.wt_len on k
    by_cases hk : (k : Int) ∈ B.q on
    · obtain ⟨A, C, e1, e2, _, _⟩ := I.wt_in hk
      rw [e1] at ih
      rw [e2]
      simp at ih ⊢
      omega
    · rw [wt_same hk]; omega
theorem TInv.wt_zero (I : TInv B tn u) (on : Int) : wt (B.q on) 0 = [] := List.length_eq_zero_iff.1 (Nat.le_zero.1 (I.wt_len on 0))
theorem TInv.wt_all (I : TInv B tn u) (on : Int) : wt (B.q on) B.l.length = B.q on := by
  unfold wt
  exact List.filter_eq_self.2 (fun x hx => by simp; exact (has_iff.1 ((I.mem on x).1 hx).1).2)
theorem TInv.q_len (I : TInv B tn u) (on : Int) : (B.q on).length ≤ 16 := by
  have h := I.wt_len on B.l.length
  rw [I.wt_all] at h
  have := I.n
  omega
end Go.Proofs.Ytfcjfjmjcmanaaa.B
