/- SchedLines: the plain law: what is blocked stands in its queue, in order. -/
import Derived.Test.YtfcjfjmjcmanaaaBm
set_option linter.unusedVariables false
namespace Go.Proofs.Ytfcjfjmjcmanaaa.B
open Go Go.RowKit
structure Quiet (B : Bd) (on other : Int) (Lw Lr : List Int) : Prop where
  n : B.l.length = 16
  st : ∀ (i : Nat) (x : Hd), B.l[i]? = some x → x.1 = 0 ∨ x.1 = 2
  qw : B.q on = Lw
  qr : B.q other = Lr
  hw : ∀ h ∈ Lw, B.has h = true
  hr : ∀ h ∈ Lr, B.has h = true
  ct : Lw.length + Lr.length ≤ B.l.countP (fun x => x.1 == 2)
theorem Quiet.len {B : Bd} {on other : Int} {Lw Lr : List Int} (h : Quiet B on other Lw Lr) : Lw.length + Lr.length ≤ 16 := by
  have := h.ct
  have h2 := List.countP_le_length (p := fun x : Hd => x.1 == 2) (l := B.l)
  rw [h.n] at h2
  omega
theorem quiet_new (on other : Int) : Quiet (Bd.new 16) on other [] [] := by
  refine ⟨rfl, fun i x hx => ?_, rfl, rfl, by simp, by simp, by simp⟩
  unfold Bd.new at hx
  rw [List.getElem?_replicate] at hx
  split at hx
  · cases hx; exact .inl rfl
  · cases hx
theorem has_len {B B' : Bd} (h : B'.l.length = B.l.length) (x : Int) : B'.has x = B.has x := by unfold Bd.has; rw [h]
theorem start_ok {B : Bd} {h : Int} (e : (B.start h).2 = 0) : B.has h = true ∧ (B.hd h).1 = 0 ∧ (B.start h).1 = B.put h (1, 0, 0) := by
  unfold Bd.start at e ⊢
  by_cases hh : B.has h = false
  · rw [if_pos hh] at e; cases e
  · rw [if_neg hh] at e ⊢
    by_cases h0 : (B.hd h).1 = 0
    · rw [if_pos h0]
      exact ⟨by simpa using hh, h0, rfl⟩
    · rw [if_neg h0] at e; cases e
theorem start_bad {B : Bd} {h : Int} (e : (B.start h).2 ≠ 0) : (B.start h).1 = B := by
  unfold Bd.start at e ⊢
  by_cases hh : B.has h = false
  · rw [if_pos hh]
  · rw [if_neg hh] at e ⊢
    by_cases h0 : (B.hd h).1 = 0
    · rw [if_pos h0] at e; exact absurd rfl e
    · rw [if_neg h0]
theorem hd_set {l : List Hd} {q : Int → List Int} {h : Int} (x : Hd) (hl : h.toNat < l.length) : (Bd.mk (l.set h.toNat x) q).hd h = x := by
  unfold Bd.hd
  rw [List.getD_eq_getElem?_getD, List.getElem?_set_self hl]; rfl
theorem block_ok {B : Bd} {h on : Int} (hh : B.has h = true) : ((B.put h (1, 0, 0)).block h on).2 = 0 ∧ ((B.put h (1, 0, 0)).block h on).1 = ⟨B.l.set h.toNat (2, on, 0), upd B.q on (B.q on ++ [h])⟩ := by
  obtain ⟨_, _, _, hl⟩ := B.get hh
  have hr : (B.put h (1, 0, 0)).rdy h = 0 := by
    unfold Bd.rdy
    rw [if_neg (by rw [has_len (B := B) (by simp [Bd.put])]; simp [hh])]
    unfold Bd.put
    rw [hd_set _ hl]
    rfl
  unfold Bd.block
  rw [if_pos hr]
  refine ⟨rfl, ?_⟩
  simp [Bd.put]
theorem quiet_block {B : Bd} {on other h : Int} {Lw Lr : List Int} (Q : Quiet B on other Lw Lr) (hne : on ≠ other) (e : (B.start h).2 = 0) :
    ((B.start h).1.block h on).2 = 0 ∧ Quiet ((B.start h).1.block h on).1 on other (Lw ++ [h]) Lr := by
  obtain ⟨hh, h0, h1⟩ := start_ok e
  rw [h1]
  obtain ⟨b1, b2⟩ := block_ok (on := on) hh
  refine ⟨b1, ?_⟩
  rw [b2]
  obtain ⟨hg, _, _, hl⟩ := B.get hh
  have hs : ∀ x, (Bd.mk (B.l.set h.toNat (2, on, 0)) (upd B.q on (B.q on ++ [h]))).has x = B.has x := has_len (by simp)
  refine ⟨by simp [Q.n], fun i x hx => ?_, by simp [upd, Q.qw], by simp [upd, Ne.symm hne, Q.qr], fun x hx => ?_, fun x hx => ?_, ?_⟩
  · by_cases ei : h.toNat = i
    · subst ei
      rw [List.getElem?_set_self hl] at hx
      cases hx; exact .inr rfl
    · rw [List.getElem?_set_ne ei] at hx
      exact Q.st i x hx
  · rw [hs]
    rcases List.mem_append.1 hx with hx | hx
    · exact Q.hw x hx
    · simp at hx; rw [hx]; exact hh
  · rw [hs]; exact Q.hr x hx
  · have hc := List.countP_set (p := fun x : Hd => x.1 == 2) (l := B.l) (a := (2, on, 0)) hl
    have hx := (List.getElem?_eq_some_iff.1 hg).2
    rw [hc, hx]
    have := Q.ct
    simp [h0]
    omega
theorem Quiet.symm {B : Bd} {on other : Int} {Lw Lr : List Int} (Q : Quiet B on other Lw Lr) : Quiet B other on Lr Lw := ⟨Q.n, Q.st, Q.qr, Q.qw, Q.hr, Q.hw, by have := Q.ct; omega⟩
theorem rdyK_none (l : List Hd) (h : ∀ (i : Nat) (x : Hd), l[i]? = some x → x.1 ≠ 1) : ∀ k, rdyK l k = []
  | 0 => rfl
  | k + 1 => by
    rw [rdyK, rdyK_none l h k, if_neg]
    intro e
    rw [List.getD_eq_getElem?_getD] at e
    cases hx : l[k]? with
    | none => rw [hx] at e; cases e
    | some x => rw [hx] at e; exact h k x hx e
theorem rdyK_one (l : List Hd) (h : ∀ (i : Nat) (x : Hd), l[i]? = some x → x.1 ≠ 1) (j : Nat) (hj : j < l.length) (o c : Int) : ∀ k, rdyK (l.set j (1, o, c)) k = if j < k then [(j : Int)] else []
  | 0 => rfl
  | k + 1 => by
    rw [rdyK, rdyK_one l h j hj o c k]
    by_cases e : j = k
    · subst e
      rw [List.getD_eq_getElem?_getD, List.getElem?_set_self hj]
      simp
    · have hn : ¬ ((l.set j (1, o, c)).getD k (0, 0, 0)).1 = 1 := by
        intro z
        rw [List.getD_eq_getElem?_getD, List.getElem?_set_ne e] at z
        cases hx : l[k]? with
        | none => rw [hx] at z; cases z
        | some x => rw [hx] at z; exact h k x hx z
      rw [if_neg hn]
      by_cases h1 : j < k
      · rw [if_pos h1, if_pos (by omega)]
      · rw [if_neg h1, if_neg (by omega)]
theorem Quiet.noready {B : Bd} {on other : Int} {Lw Lr : List Int} (Q : Quiet B on other Lw Lr) : B.ready = [] :=
  rdyK_none _ (fun i x hx => by rcases Q.st i x hx with h | h <;> rw [h] <;> decide) _
theorem Quiet.first {B : Bd} {on other h : Int} {t Lr : List Int} (Q : Quiet B on other (h :: t) Lr) (hne : on ≠ other) :
    (B.first on).2 = (h, true) ∧ (B.first on).1.q on = t ∧ (B.first on).1.q other = Lr ∧ (B.first on).1.ready = [h] ∧ (B.first on).1.l.length = 16 ∧ (∀ x ∈ t, (B.first on).1.has x = true) := by
  unfold Bd.first
  rw [Q.qw]
  simp only
  obtain ⟨_, h0, _, hl⟩ := B.get (Q.hw h (by simp))
  refine ⟨trivial, by simp [upd], by simp [upd, Ne.symm hne, Q.qr], ?_, by simp [Q.n], fun x hx => ?_⟩
  · unfold Bd.ready
    rw [rdyK_one _ (fun i x hx => by rcases Q.st i x hx with h | h <;> rw [h] <;> decide) _ hl, if_pos (by simpa using hl), Int.toNat_of_nonneg h0]
  · rw [has_len (B := B) (by simp)]
    exact Q.hw x (by simp [hx])
end Go.Proofs.Ytfcjfjmjcmanaaa.B
