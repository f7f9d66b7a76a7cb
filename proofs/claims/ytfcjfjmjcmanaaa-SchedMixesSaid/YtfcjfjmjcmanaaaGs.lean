/- SchedMixes: plain: the document's next mix; places in the list of all mixes. SchedMixes: what goes holds between two rounds. SchedMixes: the document's CanMixes, Count, FirstMix. SchedMixes: the walk of the document's NextMix. SchedMixes: how far goes has come, read off the memory. -/
import Derived.Test.YtfcjfjmjcmanaaaGu
import Derived.Test.YtfcjfjmjcmanaaaGb
import Derived.Test.YtfcjfjmjcmanaaaGk
import Derived.Test.YtfcjfjmjcmanaaaGc
import Derived.BigQuiet
import Derived.Deep.QuietTactic
import Derived.Test.YtfcjfjmjcmanaaaXuq
set_option linter.unusedVariables false
namespace Go.Proofs.Ytfcjfjmjcmanaaa.V
open Go Go.RowKit Go.Proofs.Ytfcjfjmjcmanaaa.X Go.Proofs.YtfcjfjmjcmanaaaW.PrintWords Go.Proofs.YtfcjfjmjcmanaaaW.PrintLast Go.Proofs.YtfcjfjmjcmanaaaW.PrintMore
/-- What the document's NextMix answers. -/
def Nx (L : List Int) (b : Bool) (M : List Int) : Prop :=
  (b = false ∧ M = [] ∧ L.Pairwise (· ≥ ·)) ∨ (b = true ∧ ∃ A E G x y, L = A ++ x :: (E ++ y :: G) ∧ (E ++ y :: G).Pairwise (· ≥ ·) ∧ x < y ∧ (∀ z ∈ G, z ≤ x) ∧ M = A ++ y :: (E ++ x :: G).reverse)
theorem nx_at {left : List Nat} {k : Nat} {L M : List Int} {b : Bool} (hk : (genL nxtM left.sum left ())[k]? = some L) (h : Nx L b M) : b = decide (k + 1 < (genL nxtM left.sum left ()).length) ∧ M = (genL nxtM left.sum left ()).getD (k + 1) [] := by
  rcases h with ⟨rfl, rfl, hf⟩ | ⟨rfl, A, E, G, x, y, rfl, hf, hxy, hG, rfl⟩
  · have e := mix_last rfl hk hf
    refine ⟨(decide_eq_false (by omega)).symm, ?_⟩
    rw [List.getD_eq_getElem?_getD, List.getElem?_eq_none (by omega)]; rfl
  · have e := mix_next rfl hk hf hxy hG
    refine ⟨(decide_eq_true (List.getElem?_eq_some_iff.1 e).1).symm, ?_⟩
    rw [List.getD_eq_getElem?_getD, e]; rfl
/-! ### the walk's lists -/
/-- m: from there on it falls. -/
structure N1 (L : List Int) (m : Nat) : Prop where
  le : m + 1 ≤ L.length
  fall : (L.drop m).Pairwise (· ≥ ·)
theorem n1_start (L : List Int) (h : 0 < L.length) : N1 L (L.length - 1) := by
  refine ⟨by omega, ?_⟩
  have : (L.drop (L.length - 1)).length = 1 := by rw [List.length_drop]; omega
  match hd : L.drop (L.length - 1), this with
  | [a], _ => exact List.pairwise_singleton _ _
theorem N1.next {L : List Int} {m : Nat} (h : N1 L (m + 1)) (hge : rd L ((m + 1 : Nat) : Int) ≤ rd L (m : Int)) : N1 L m := by
  have l1 := h.le
  refine ⟨by omega, ?_⟩
  have f := h.fall
  rw [rd_get L (m + 1) (by omega), rd_get L m (by omega)] at hge
  rw [List.drop_eq_getElem_cons (show m < L.length by omega)]
  refine List.pairwise_cons.2 ⟨fun z hz => ?_, f⟩
  rw [List.drop_eq_getElem_cons (show m + 1 < L.length by omega)] at hz f
  rcases List.mem_cons.1 hz with rfl | hz
  · exact hge
  · have := (List.pairwise_cons.1 f).1 z hz
    show z ≤ L[m]
    have h2 : z ≤ L[m + 1] := this
    omega
theorem N1.top {L : List Int} (h : N1 L 0) : L.Pairwise (· ≥ ·) := by simpa using h.fall
/-- t: behind it nothing is above x. -/
structure N2 (L : List Int) (m t : Nat) (x : Int) : Prop where
  n1 : N1 L (m + 1)
  hx : rd L (m : Int) = x
  lt : x < rd L ((m + 1 : Nat) : Int)
  mt : m + 1 ≤ t
  tl : t < L.length
  low : ∀ z ∈ L.drop (t + 1), z ≤ x
theorem N2.start {L : List Int} {m : Nat} {x : Int} (h : N1 L (m + 1)) (hx : rd L (m : Int) = x) (hlt : x < rd L ((m + 1 : Nat) : Int)) : N2 L m (L.length - 1) x := by
  have := h.le
  exact ⟨h, hx, hlt, by omega, by omega, fun z hz => by rw [List.drop_of_length_le (by omega)] at hz; cases hz⟩
theorem N1.start2 {L : List Int} {m : Nat} {x : Int} (h : N1 L (m + 1)) (hx : rd L (m : Int) = x) (hlt : x < rd L ((m + 1 : Nat) : Int)) : N2 L m (L.length - 1) x := N2.start h hx hlt
theorem N2.next {L : List Int} {m t : Nat} {x : Int} (h : N2 L m t x) (hle : rd L (t : Int) ≤ x) : m + 1 ≤ t - 1 ∧ N2 L m (t - 1) x := by
  have hne : t ≠ m + 1 := fun e => by have := h.lt; rw [e] at hle; omega
  have h1 := h.mt
  have h2 := h.tl
  refine ⟨by omega, h.n1, h.hx, h.lt, by omega, by omega, fun z hz => ?_⟩
  rw [show t - 1 + 1 = t by omega, List.drop_eq_getElem_cons h2] at hz
  rcases List.mem_cons.1 hz with rfl | hz
  · rwa [rd_get L t h2] at hle
  · exact h.low z hz
/-- The swap. -/
theorem N2.swap {L : List Int} {m t : Nat} {x y : Int} (h : N2 L m t x) (hy : rd L (t : Int) = y) (hxy : x < y) : ∃ A E G, L = A ++ x :: (E ++ y :: G) ∧ (E ++ y :: G).Pairwise (· ≥ ·) ∧ (∀ z ∈ G, z ≤ x) ∧ A.length = m ∧ (E ++ x :: G).length = L.length - (m + 1) ∧ (L.set m y).set t x = (A ++ [y]) ++ (E ++ x :: G) := by
  have h1 := h.mt
  have h2 := h.tl
  have hm : m < L.length := by omega
  have ex : L[m] = x := by rw [← rd_get L m hm]; exact h.hx
  have ey : L[t] = y := by rw [← rd_get L t h2]; exact hy
  have hD : L.drop (m + 1) = (L.drop (m + 1)).take (t - (m + 1)) ++ y :: L.drop (t + 1) := by
    conv => lhs; rw [← List.take_append_drop (t - (m + 1)) (L.drop (m + 1))]
    rw [List.drop_drop, show m + 1 + (t - (m + 1)) = t by omega, List.drop_eq_getElem_cons h2, ey]
  have hA : L = L.take m ++ x :: ((L.drop (m + 1)).take (t - (m + 1)) ++ y :: L.drop (t + 1)) := by
    rw [← hD, ← ex, ← List.drop_eq_getElem_cons hm, List.take_append_drop]
  have la : (L.take m).length = m := by rw [List.length_take]; omega
  have le : ((L.drop (m + 1)).take (t - (m + 1))).length = t - (m + 1) := by rw [List.length_take, List.length_drop]; omega
  refine ⟨L.take m, (L.drop (m + 1)).take (t - (m + 1)), L.drop (t + 1), hA, by rw [← hD]; exact h.n1.fall, h.low, la, by rw [List.length_append, List.length_cons, le, List.length_drop]; omega, ?_⟩
  generalize L.take m = A at hA la
  generalize (L.drop (m + 1)).take (t - (m + 1)) = E at hA le
  generalize L.drop (t + 1) = G at hA
  rw [hA, List.set_append_right _ _ (by omega), la, Nat.sub_self, List.set_cons_zero, List.set_append_right _ _ (by omega), la]
  obtain ⟨j, hj⟩ : ∃ j, t - m = j + 1 := ⟨t - m - 1, by omega⟩
  rw [hj, List.set_cons_succ, List.set_append_right _ _ (by omega), show j - E.length = 0 by omega, List.set_cons_zero, List.append_assoc]
  rfl
/-- While it is turned about: c from both ends. -/
structure Rv (B S : List Int) (c : Nat) (R : List Int) : Prop where
  len : R.length = B.length + S.length
  front : ∀ k, k < B.length → R[k]? = B[k]?
  back : ∀ p, p < S.length → R[B.length + p]? = if p < c ∨ S.length ≤ p + c then S[S.length - 1 - p]? else S[p]?
  cs : 2 * c ≤ S.length + 1
theorem rv_start (B S : List Int) : Rv B S 0 (B ++ S) := by
  refine ⟨by simp, fun k hk => List.getElem?_append_left hk, fun p hp => ?_, by omega⟩
  rw [List.getElem?_append_right (by omega), if_neg (by omega), Nat.add_sub_cancel_left]
theorem Rv.done {B S R : List Int} {c : Nat} (h : Rv B S c R) (e : S.length ≤ 2 * c + 1) : R = B ++ S.reverse := by
  apply List.ext_getElem?
  intro k
  by_cases hk : k < B.length
  · rw [h.front k hk, List.getElem?_append_left hk]
  · obtain ⟨p, rfl⟩ : ∃ p, k = B.length + p := ⟨k - B.length, by omega⟩
    rw [List.getElem?_append_right (by omega), Nat.add_sub_cancel_left]
    by_cases hp : p < S.length
    · rw [h.back p hp, List.getElem?_reverse hp]
      split
      · rfl
      · congr 1; omega
    · rw [List.getElem?_eq_none (by rw [h.len]; omega), List.getElem?_eq_none (by simp; omega)]
theorem Rv.next {B S R : List Int} {c : Nat} (h : Rv B S c R) (e : 2 * c + 1 < S.length) : Rv B S (c + 1) ((R.set (B.length + c) (rd R ((B.length + (S.length - 1 - c) : Nat) : Int))).set (B.length + (S.length - 1 - c)) (rd R ((B.length + c : Nat) : Int))) := by
  have hl := h.len
  have ha : rd R ((B.length + c : Nat) : Int) = S[c] := by
    rw [rd_get R _ (by omega)]
    have := h.back c (by omega)
    rw [if_neg (by omega), List.getElem?_eq_getElem (by omega), List.getElem?_eq_getElem (by omega)] at this
    exact Option.some.inj this
  have hb : rd R ((B.length + (S.length - 1 - c) : Nat) : Int) = S[S.length - 1 - c] := by
    rw [rd_get R _ (by omega)]
    have := h.back (S.length - 1 - c) (by omega)
    rw [if_neg (by omega), List.getElem?_eq_getElem (by omega), List.getElem?_eq_getElem (by omega)] at this
    exact Option.some.inj this
  rw [ha, hb]
  refine ⟨by simp [hl], fun k hk => ?_, fun p hp => ?_, by omega⟩
  · rw [List.getElem?_set_ne (by omega), List.getElem?_set_ne (by omega)]
    exact h.front k hk
  · by_cases p1 : p = S.length - 1 - c
    · subst p1
      rw [List.getElem?_set_self (by simp; omega), if_pos (.inr (by omega)), show S.length - 1 - (S.length - 1 - c) = c by omega, List.getElem?_eq_getElem (by omega)]
    · rw [List.getElem?_set_ne (by omega)]
      by_cases p2 : p = c
      · subst p2
        rw [List.getElem?_set_self (by omega), if_pos (.inl (by omega)), List.getElem?_eq_getElem (by omega)]
      · rw [List.getElem?_set_ne (by omega), h.back p hp]
        by_cases q : p < c ∨ S.length ≤ p + c
        · rw [if_pos q, if_pos (by omega)]
        · rw [if_neg q, if_neg (by omega)]
/-! ### places -/
/-- Behind i of those that are wanted: p of all. -/
structure Pos (F : List (List Int)) (P : List Int → Bool) (i p : Nat) : Prop where
  le : p ≤ F.length
  eq : (F.drop p).filter P = (F.filter P).drop i
variable {F : List (List Int)} {P : List Int → Bool} {i p : Nat}
theorem pos_zero (F : List (List Int)) (P : List Int → Bool) : Pos F P 0 0 := ⟨Nat.zero_le _, by simp⟩
theorem Pos.skip (h : Pos F P i p) {x : List Int} (hx : F[p]? = some x) (hP : P x = false) : Pos F P i (p + 1) := by
  obtain ⟨hp, rfl⟩ := List.getElem?_eq_some_iff.1 hx
  refine ⟨hp, ?_⟩
  rw [← h.eq, List.drop_eq_getElem_cons hp, List.filter_cons_of_neg (by rw [hP]; simp)]
theorem Pos.take (h : Pos F P i p) {x : List Int} (hx : F[p]? = some x) (hP : P x = true) : (F.filter P)[i]? = some x ∧ Pos F P (i + 1) (p + 1) := by
  obtain ⟨hp, rfl⟩ := List.getElem?_eq_some_iff.1 hx
  have e := h.eq
  rw [List.drop_eq_getElem_cons hp, List.filter_cons_of_pos hP] at e
  have hi : (F.filter P)[i]? = some F[p] := by
    have := congrArg (fun l => l[0]?) e
    rw [List.getElem?_drop] at this
    simpa using this.symm
  refine ⟨hi, hp, ?_⟩
  have h2 := congrArg List.tail e
  rw [List.tail_cons, List.tail_drop] at h2
  exact h2
theorem Pos.has (h : Pos F P i p) {x : List Int} (hx : (F.filter P)[i]? = some x) : p < F.length := by
  rcases Nat.lt_or_ge p F.length with z | z
  · exact z
  · exfalso
    have e := h.eq
    rw [List.drop_of_length_le z] at e
    have hi := (List.getElem?_eq_some_iff.1 hx).1
    have := congrArg List.length e
    rw [List.length_drop] at this
    simp at this
    omega
theorem Pos.rest (h : Pos F P (F.filter P).length p) {x : List Int} (hx : F[p]? = some x) : P x = false := by
  obtain ⟨hp, rfl⟩ := List.getElem?_eq_some_iff.1 hx
  have e := h.eq
  rw [List.drop_of_length_le (Nat.le_refl _), List.drop_eq_getElem_cons hp] at e
  cases hP : P F[p] with
  | false => rfl
  | true => rw [List.filter_cons_of_pos hP] at e; cases e
end Go.Proofs.Ytfcjfjmjcmanaaa.V
set_option linter.unusedVariables false
namespace Go.Proofs.Ytfcjfjmjcmanaaa.V
open Go Go.RowKit Go.Proofs.Ytfcjfjmjcmanaaa.X Go.Proofs.Ytfcjfjmjcmanaaa.O Go.Proofs.Ytfcjfjmjcmanaaa.B Go.Proofs.YtfcjfjmjcmanaaaW.PrintWords Go.Proofs.YtfcjfjmjcmanaaaW.PrintLast Go.Proofs.YtfcjfjmjcmanaaaW.PrintMore
def cs40 (i : Nat) : Nat := if i < 40 then i else 40
theorem cs40_le (i : Nat) : cs40 i ≤ 40 := by unfold cs40; split <;> omega
theorem cs40_lt {i : Nat} (h : i < 40) : cs40 (i + 1) = cs40 i + 1 := by unfold cs40; rw [if_pos h]; split <;> omega
theorem cs40_ge {i : Nat} (h : ¬ i < 40) : cs40 (i + 1) = cs40 i := by unfold cs40; rw [if_neg h, if_neg (by omega)]
/-- The boxes: books, more, n, want, left; base: all of it lies at or behind. -/
structure Bk5 where
  base : Nat
  bk : Nat
  bm : Nat
  bn : Nat
  bw : Nat
  bl : Nat
abbrev Bk5.T (B : Bk5) (T : Nat → Prop) : Nat → Prop := fun b => T b ∨ b = B.bl
/-- The state beside what the iterator owns. -/
abbrev Bk5.S (B : Bk5) (T : Nat → Prop) (W : World) (c : Nat) (more : Bool) (nv : Int) (want : List Int) : Prop := St B.base B.bk B.bm B.bn B.bw (B.T T) W c more nv want
/-- More is wanted: there is one. -/
def mr (F : List (List Int)) (p : Nat) : Bool := decide (p < F.length)
def wt (F : List (List Int)) (p : Nat) : List Int := F.getD p []
theorem wt_at {F : List (List Int)} {p : Nat} {L : List Int} (h : F[p]? = some L) : wt F p = L ∧ mr F p = true := by
  refine ⟨?_, decide_eq_true (List.getElem?_eq_some_iff.1 h).1⟩
  unfold wt
  rw [List.getD_eq_getElem?_getD, h]; rfl
/-- Between two rounds; p: the place of the mix that is wanted. -/
def Hw (F : List (List Int)) (P : List Int → Bool) (B : Bk5) (W0 : World) (lf : Bool) (i : Nat) (T : Nat → Prop) (W : World) : Prop :=
  (∀ b, T b → B.base ≤ b ∧ b < W.heap.size) ∧ Below B.base W0 W ∧ B.base ≤ W.heap.size ∧ B.base ≤ B.bl ∧ ¬ T B.bl ∧ Boxed W B.bl 4 (.bool lf) ∧ ∃ p, Pos F P i p ∧ B.S T W (cs40 i) (mr F p) (i : Int) (wt F p)
theorem hw_abides (F : List (List Int)) (P : List Int → Bool) (B : Bk5) (W0 : World) (lf : Bool) : AbidesS (Hw F P B W0 lf) := by
  rintro i T A C T' ⟨h1, h2, h3, h4, h5, h6, p, h7, h8⟩ hs hT
  have hsz := hs.size
  have hl := h6.lt
  have ht : Turn T A C := ⟨hs.os, hs.tape, hs.output, hs.size, hs.block⟩
  refine ⟨fun b hb => ?_, h2.trans (ht.below (fun b hb => (h1 b hb).1) h3), by omega, h4, fun z => ?_, (hs.block _ hl h5).trans h6, p, h7, h8.turn (ht.mono (fun b hb => .inl (.inl hb))) (fun b hb => ?_)⟩
  · rcases hT b hb with z | z
    · have := h1 b z; omega
    · omega
  · rcases hT _ z with y | y
    · exact h5 y
    · omega
  · rcases hb with z | z
    · exact (hT b z).imp .inl (·.1)
    · exact .inl (.inr z)
/-- A round's end. -/
theorem hw_next {F : List (List Int)} {P : List Int → Bool} {B : Bk5} {W0 W X : World} {lf : Bool} {i p c : Nat} {T : Nat → Prop} {m : Bool} {L : List Int} {nv : Int} (hT : ∀ b, T b → B.base ≤ b ∧ b < W.heap.size) (hB : Below B.base W0 W) (hs : B.base ≤ W.heap.size) (hl : B.base ≤ B.bl) (hnl : ¬ T B.bl) (t : Turn (Mine B.base (B.T T)) W X) (hb : Boxed W B.bl 4 (.bool lf)) (hp : Pos F P i p) (s : B.S T X c m nv L) (h1 : c = cs40 i) (h2 : m = mr F p) (h3 : L = wt F p) (h4 : nv = (i : Int)) : Hw F P B W0 lf i T X := by
  have := t.size
  refine ⟨fun b hb => ⟨(hT b hb).1, by have := (hT b hb).2; omega⟩, hB.trans (Turn.mine t hs), by omega, hl, hnl, (t.block _ hb.lt (fun z => z.2 (.inr rfl))).trans hb, p, hp, ?_⟩
  rw [← h1, ← h2, ← h3, ← h4]
  exact s
/-- left is set. -/
theorem hw_left {F : List (List Int)} {P : List Int → Bool} {B : Bk5} {W0 W : World} {lf x : Bool} {i : Nat} {T : Nat → Prop} (h : Hw F P B W0 lf i T W) : W.frozen? ⟨B.bl, 0, none⟩ = false ∧ W.cell? ⟨B.bl, 0, none⟩ = some (.bool lf) ∧ Hw F P B W0 x i T (W.setCell ⟨B.bl, 0, none⟩ (.bool x)) ∧ Turn (Mine B.base T) W (W.setCell ⟨B.bl, 0, none⟩ (.bool x)) := by
  obtain ⟨h1, h2, h3, h4, h5, h6, p, h7, h8⟩ := h
  refine ⟨h6.frozen, h6.cell, ⟨fun b hb => by simpa using h1 b hb, h2.setCell h4 _, by simpa using h3, h4, h5, h6.set _, p, h7, ?_⟩, Turn.setCell W _ _ ⟨h4, h5⟩⟩
  exact h8.turn (Turn.setCell W ⟨B.bl, 0, none⟩ (.bool x) (.inl (.inr rfl))) (fun b hb => .inl hb)
abbrev bksV : Obj := .cells #[.slice none 0 0, .slice none 0 0, .slice none 0 0, .slice none 0 0, .slice none 0 0, .slice none 0 0, .slice none 0 0, .slice none 0 0, .slice none 0 0, .slice none 0 0, .slice none 0 0, .slice none 0 0, .slice none 0 0, .slice none 0 0] 42 (0, 0)
/-- The boxes of goes. -/
abbrev bk59 (B0 z : Nat) : Bk5 := ⟨B0, B0, B0 + 1, z, B0 + 1 + 1, z + 1⟩
theorem dst59 {B0 z : Nat} (h : B0 + 2 < z) : Dst (bk59 B0 z).bk (bk59 B0 z).bm (bk59 B0 z).bn (bk59 B0 z).bw := ⟨by show B0 ≠ B0 + 1; omega, by show B0 ≠ z; omega, by show B0 ≠ B0 + 1 + 1; omega, by show B0 + 1 ≠ z; omega, by show B0 + 1 ≠ B0 + 1 + 1; omega, by show z ≠ B0 + 1 + 1; omega⟩
theorem St.startT {base bk bm bn bw : Nat} {more : Bool} {nv : Int} {want : List Int} (W : World) (T : Nat → Prop) (hb : W.heap[bk]? = some bksV) (hm : Boxed W bm 4 (.bool more)) (hn : Boxed W bn 3 (.int .i64 nv)) {wv : Value} (hw : Boxed W bw 26 wv) {Tw : Nat → Prop} (hv : SlB W Tw wv want) (hT : ∀ b, Tw b → base ≤ b ∧ ¬ T b ∧ b ≠ bk ∧ b ≠ bm ∧ b ≠ bn ∧ b ≠ bw) (h9 : ∀ b, (b = bk ∨ b = bm ∨ b = bn ∨ b = bw) → base ≤ b ∧ ¬ T b) : St base bk bm bn bw T W 0 more nv want := by
  have lk := (Array.getElem?_eq_some_iff.1 hb).1
  refine ⟨fun _ => False, fun _ => False, fun b => Tw b ∧ wv.ownBlock = some b, nilv, nilv, [], [], [], wv, ⟨hb, Lists.nil _ _, Lists.nil _ _, fun _ h => h.elim, fun h => h, fun h => h, fun i h => h.elim False.elim False.elim⟩, rfl, hm, hn, hw, hv.mono (fun j hj h => ⟨h, hj⟩), fun _ _ => ⟨fun z => z, fun z => z⟩, fun b hb => ?_, fun b hb => ⟨(h9 b hb).1, ?_, (h9 b hb).2⟩⟩
  · rcases hb with z | z | z
    · exact z.elim
    · exact z.elim
    · have q := hT b z.1
      exact ⟨q.1, (hv.own z.2).2, q.2.1, q.2.2⟩
  · rcases hb with z | z | z | z
    · rw [z]; exact lk
    · rw [z]; exact hm.lt
    · rw [z]; exact hn.lt
    · rw [z]; exact hw.lt
/-- Its start. -/
theorem goes_start {F : List (List Int)} {P : List Int → Bool} {W1 w5 : World} {B0 : Nat} {u : Value} (hb : Below B0 W1 w5) (k1 : w5.heap[B0]? = some bksV) (k2 : Boxed w5 (B0 + 1) 4 (.bool (mr F 0))) (k3 : Boxed w5 (B0 + 1 + 1) 26 u) (hu : SlB w5 (fun j => B0 + 2 < j) u (wt F 0)) :
    Hw F P (bk59 B0 w5.heap.size) W1 false 0 (fun _ => False) ((w5.alloc (.cells #[.int .i64 0] 3)).alloc (.cells #[.bool false] 4)) := by
  have l3 : B0 + 1 + 1 < w5.heap.size := k3.lt
  have hg : Below w5.heap.size w5 ((w5.alloc (.cells #[.int .i64 0] 3)).alloc (.cells #[.bool false] 4)) := ((Below.refl _ w5).alloc (Nat.le_refl _) _).alloc (by simp) _
  have bn := (Boxed.new w5 3 (.int .i64 0)).alloc (.cells #[.bool false] 4)
  have bl := Boxed.new (w5.alloc (.cells #[.int .i64 0] 3)) 4 (.bool false)
  rw [World.size_alloc] at bl
  have hz : ((w5.alloc (.cells #[.int .i64 0] 3)).alloc (.cells #[.bool false] 4)).heap.size = w5.heap.size + 2 := by simp
  generalize (w5.alloc (.cells #[.int .i64 0] 3)).alloc (.cells #[.bool false] 4) = w6 at hg bn bl hz
  refine ⟨fun b hb => hb.elim, hb.trans (hg.mono (by omega)), by show B0 ≤ w6.heap.size; omega, by show B0 ≤ w5.heap.size + 1; omega, fun z => z, bl, 0, pos_zero _ _, ?_⟩
  exact St.startT w6 _ ((hg.block B0 (by omega)).trans k1) ((hg.block (B0 + 1) (by omega)).trans k2) bn ((hg.block (B0 + 1 + 1) (by omega)).trans k3) ((hu.mono (T' := fun j => B0 + 2 < j ∧ j < w5.heap.size) (fun j hj h => ⟨h, (hu.own hj).2⟩)).kept (fun j hj => hg.block j (hu.own hj).2)) (fun b hb => ⟨by show B0 ≤ b; omega, fun z => by rcases z with z | z; exact z; have : b = w5.heap.size + 1 := z; omega, by show b ≠ B0; omega, by show b ≠ B0 + 1; omega, by show b ≠ w5.heap.size; omega, by show b ≠ B0 + 1 + 1; omega⟩) (fun b hb => ⟨by rcases hb with z | z | z | z <;> rw [z] <;> simp <;> omega, fun z => by rcases z with z | z; exact z; rcases hb with y | y | y | y <;> rw [y] at z <;> simp at z <;> omega⟩)
end Go.Proofs.Ytfcjfjmjcmanaaa.V
set_option linter.unusedVariables false
namespace Go.Proofs.Ytfcjfjmjcmanaaa.V
open Go Go.RowKit Go.Proofs.Ytfcjfjmjcmanaaa.X Go.Proofs.Ytfcjfjmjcmanaaa.PThere Go.Proofs.Ytfcjfjmjcmanaaa.PCnts Go.Proofs.Ytfcjfjmjcmanaaa.O Go.Proofs.Ytfcjfjmjcmanaaa.B Go.Proofs.YtfcjfjmjcmanaaaW.PrintWords Go.Proofs.YtfcjfjmjcmanaaaW.PrintLast Go.Proofs.YtfcjfjmjcmanaaaW.PrintMore
attribute [local go_sem] Oper.semAt_some
theorem can_spec (L : List Int) : larderref07_CanMixes.f 80 L = some (fewOk L) := by
  unfold larderref07_CanMixes.f
  obtain ⟨r1, r2, h1, h2⟩ := count_few L
  have hc : larderref07_Count.f 80 L = some (r1, r2) := by
    rcases K.counts_both L 80 (Nat.le_refl _) with ⟨s, rfl, _, _, q1, q2⟩ | ⟨e, _, q1, q2⟩
    · rw [h1] at q1; rw [q2, ← q1]
    · rw [h1] at q1; rw [q2, ← q1]
  rw [hc, h2]
  simp only [Option.bind_some]
  by_cases e : r2 = 0
  · rw [if_pos e, decide_eq_true e, Bool.true_and]
  · rw [if_neg e, decide_eq_false e, Bool.false_and]
variable {W : World} {v : Value} {L : List Int}
theorem can_calls (h : RdS W v L) : Calls Try.prog 114 #[v] W fun e W' => e = .returned (.bool (fewOk L)) ∧ Drawn0 W W' := by
  obtain ⟨A, c, rfl, h1, hC⟩ := h
  exact larderref07_CanMixes.calls 80 A c L _ W hC h1 (can_spec L)
theorem rcount_calls {r1 r2 : Int} (h : RdS W v L) (hc : sched_Count.f 80 L = some (r1, r2)) : Calls Try.prog 58 #[v] W fun e W' => e = .returned (.tuple #[.int .i64 r1, .int .i64 r2]) ∧ Drawn0 W W' := by
  obtain ⟨A, c, rfl, h1, hC⟩ := h
  refine larderref07_Count.calls 80 A c L r1 r2 W hC h1 ?_
  rcases K.counts_both L 80 (Nat.le_refl _) with ⟨s, rfl, _, _, q1, q2⟩ | ⟨e, _, q1, q2⟩
  · rw [hc] at q1; rw [q2, ← q1]
  · rw [hc] at q1; rw [q2, ← q1]
/-! ### the first mix -/
theorem runs_take (s : List Nat) : ∀ (b h : Nat), h < s.length → runs b (s.take (h + 1)) = runs b (s.take h) ++ List.replicate (s.getD h 0) ((b + h : Nat) : Int) := by
  induction s with
  | nil => intro b h hh; simp at hh
  | cons n s ih =>
    intro b h hh
    cases h with
    | zero => simp [runs]
    | succ h =>
      show List.replicate n (b : Int) ++ runs (b + 1) (s.take (h + 1)) = (List.replicate n (b : Int) ++ runs (b + 1) (s.take h)) ++ List.replicate (s.getD h 0) ((b + (h + 1) : Nat) : Int)
      rw [ih (b + 1) h (by simpa using hh), List.append_assoc, show b + 1 + h = b + (h + 1) by omega]
theorem one_rowv (wr : World) (x : Int) : SlB (wr.alloc (.cells #[.int .i64 x] 3)) (fun b => b = wr.heap.size) (.slice (some ⟨wr.heap.size, 0, none⟩) 1 1) [x] := by
  refine .inr ⟨wr.heap.size, 0, 1, #[.int .i64 x], by simp, rfl, by simp, by unfold maxLen; omega, by simp, World.alloc_heap_new wr _, fun i y hy => ?_⟩
  have hi : i < 1 := by
    have := (List.getElem?_eq_some_iff.1 hy).1
    simpa using this
  have : i = 0 := by omega
  subst this
  simp at hy
  simp [hy]
/-- The row while it grows. -/
structure Fx (W : World) (s : List Nat) (h i : Nat) (m : Value) (w : World) : Prop where
  row : RI w (fun j => W.heap.size ≤ j) m (runs 0 (s.take h) ++ List.replicate i (h : Int))
  below : Below W.heap.size W w
theorem Fx.next {W wr w7 : World} {s : List Nat} {h i : Nat} {m m' : Value} {o : Obj} (x : Fx W s h i m wr) (h1 : RI w7 (fun j => W.heap.size ≤ j ∨ j = (wr.alloc o).heap.size) m' (runs 0 (s.take h) ++ List.replicate i (h : Int) ++ [(h : Int)])) (h2 : (wr.alloc o).grownBy w7 m.ownBlock) : Fx W s h (i + 1) m' w7 := by
  have hz := x.below.size
  have hz2 := h2.size
  simp only [World.size_alloc] at hz2
  refine ⟨?_, ⟨h2.os.trans x.below.os, h2.tape.trans x.below.tape, h2.output.trans x.below.output, by omega, fun b hb => ?_⟩⟩
  · rw [List.replicate_succ', ← List.append_assoc]
    exact h1.mono (fun j _ hj => by rcases hj with z | z; exact z; rw [z]; simp; omega)
  · refine (h2.block b (by simp; omega) (fun e => ?_)).trans ((Below.heap_alloc wr o b (by omega)).trans (x.below.block b hb))
    have := (x.row.lt (j := b) e.symm).1
    omega
theorem runs_sum (s : List Nat) (h : Nat) : (runs 0 (s.take h)).length ≤ s.sum := by
  rw [runs_len]
  have := congrArg List.sum (List.take_append_drop h s)
  rw [List.sum_append] at this
  omega
set_option maxRecDepth 100000
set_option maxHeartbeats 4000000
theorem firstMix_calls {s : List Nat} (hr : Right s) (hv : RdS W v (lift s)) : Calls Try.prog 115 #[v] W fun e W' => ∃ v', e = .returned v' ∧ SlB W' (fun j => W.heap.size ≤ j) v' (runs 0 s) ∧ Below W.heap.size W W' := by
  obtain ⟨A, c, eV⟩ := hv.slice
  rw [lift_length] at eV
  subst eV
  have HV := Aside0.mk hv
  have HR := Aside0.mk hr
  obtain ⟨n, hn⟩ : ∃ n, s.length = n := ⟨_, rfl⟩
  rw [hn]
  have HN := Aside0.mk hn
  clear hv hr hn
  refine (callsIn_wide (n := 3)).1 ?_
  refine callsIn_of_wp Try.func115 rfl trivial ?_ rfl
  simp only [Try.ntmps115, List.size_toArray, List.length_cons, List.length_nil, Nat.reduceAdd, Nat.reduceSub, Array.replicate_succ, Array.replicate_zero, List.push_toArray, List.append_toArray, List.nil_append, List.cons_append]
  gi_wp2
  gi_loopw [3, 4] (fun m p wr => ∃ h : Nat, p = .int .i64 (h : Int) ∧ Aside0 (h ≤ n) ∧ Aside0 (Fx W s h 0 m wr)) (fun _ p _ => n - (intOf p).toNat)
  case atStart => exact ⟨0, rfl, ⟨by omega⟩, ⟨RI.nil _ _, Below.refl _ _⟩⟩
  case round =>
    obtain ⟨h, rfl, Hh, HF⟩ := hrel
    have hn16 : n ≤ 16 := by have := HR.out.2.1; rw [HN.out] at this; exact this
    have wh := Aside0.mk (w1 h (by have := Hh.out; omega))
    by_cases hlt : h < n
    · have q1 : decide (h < n) = true := decide_eq_true hlt
      have q2 : decide ((h : Int) < (n : Int)) = true := decide_eq_true (by omega)
      have HLT := Aside0.mk hlt
      obtain ⟨y, hy⟩ : ∃ y, s.getD h 0 = y := ⟨_, rfl⟩
      have HY := Aside0.mk hy
      have hy24 := Aside0.mk (show y ≤ 24 by have h1 := getD_le_sum s h; have h2 := HR.out.2.2; omega)
      clear hlt hy
      gi_wp2
      gi_loopw [3, 5] (fun m p wr => ∃ i : Nat, p = .int .i64 (i : Int) ∧ Aside0 (i ≤ y) ∧ Aside0 (Fx W s h i m wr)) (fun _ p _ => y - (intOf p).toNat)
      case atStart => exact ⟨0, rfl, ⟨by omega⟩, HF⟩
      case round =>
        clear HF
        obtain ⟨i, rfl, Hi, HF⟩ := hrel
        obtain ⟨A', c', e', _, hC⟩ := HV.out.below HF.out.below
        rw [lift_length, HN.out] at e'
        obtain ⟨rfl, _, rfl⟩ : A = A' ∧ n = n ∧ c = c' := by simpa using e'
        obtain ⟨ad, rfl, hcx⟩ := Kd.at_int hC (h : Int) (by omega) (by rw [lift_length, HN.out]; have := HLT.out; omega)
        rw [rd_lift, HY.out, Int.toNat_natCast] at hcx
        have p0 : ((0 : Int) ≤ (h : Int)) = True := eq_true (by omega)
        have p1 : ((h : Int) < (n : Int)) = True := eq_true (by have := HLT.out; omega)
        have wi := Aside0.mk (w1 i (by have := Hi.out; have := hy24.out; omega))
        clear hC e'
        by_cases hi : i < y
        · have r1 : decide (i < y) = true := decide_eq_true hi
          have r2 : decide ((i : Int) < (y : Int)) = true := decide_eq_true (by omega)
          have HI := Aside0.mk hi
          clear hi
          gi_wp2_with (gi_at_builtin; go_loud (refine wpListIn_cat rfl _ _ rfl (HF.out.row.kept (W' := wr.alloc (.cells #[.int .i64 (h : Int)] 3)) (fun j hj => Below.heap_alloc wr _ j (HF.out.row.lt hj).2)) (one_rowv wr (h : Int)) (by have h1 := runs_sum s h; have h2 := HR.out.2.2; have h3 := Hi.out; have h4 := hy24.out; simp; omega) rfl rfl ?_; intro m' w7 h1 h2 h3; have HF7 := Aside0.mk (HF.out.next h1 h2); clear h1 h2 h3))
          exact ⟨⟨i + 1, by first | rfl | rw [wi.out], ⟨by have := HI.out; omega⟩, HF7⟩, by first | (simp only [intOf]; have := HI.out; omega) | (rw [wi.out]; simp only [intOf]; have := HI.out; omega)⟩
        · have r1 : decide (i < y) = false := decide_eq_false hi
          have r2 : decide ((i : Int) < (y : Int)) = false := decide_eq_false (by omega)
          have HIY := Aside0.mk (show i = y by have := Hi.out; omega)
          clear hi
          gi_wp2
          refine ⟨⟨h + 1, by first | rfl | rw [wh.out], ⟨by have := HLT.out; omega⟩, ⟨?_, HF.out.below⟩⟩, by first | (simp only [intOf]; have := HLT.out; omega) | (rw [wh.out]; simp only [intOf]; have := HLT.out; omega)⟩
          have := HF.out.row
          rw [HIY.out, ← HY.out] at this
          rw [runs_take s 0 h (by rw [HN.out]; exact HLT.out), Nat.zero_add, List.replicate_zero, List.append_nil]
          exact this
    · have q1 : decide (h < n) = false := decide_eq_false hlt
      have q2 : decide ((h : Int) < (n : Int)) = false := decide_eq_false (by omega)
      have hh : h = n := by have := Hh.out; omega
      subst hh
      clear hlt
      gi_wp2
      go_ret
      refine ⟨_, rfl, ?_, HF.out.below⟩
      have := HF.out.row
      rw [List.take_of_length_le (by rw [HN.out]; exact Nat.le_refl _), List.replicate_zero, List.append_nil] at this
      exact this.slB
end Go.Proofs.Ytfcjfjmjcmanaaa.V
set_option linter.unusedVariables false
namespace Go.Proofs.Ytfcjfjmjcmanaaa.V
open Go Go.RowKit Go.Proofs.Ytfcjfjmjcmanaaa.X Go.Proofs.Ytfcjfjmjcmanaaa.O Go.Proofs.Ytfcjfjmjcmanaaa.B Go.Proofs.YtfcjfjmjcmanaaaW.PrintWords Go.Proofs.YtfcjfjmjcmanaaaW.PrintLast Go.Proofs.YtfcjfjmjcmanaaaW.PrintMore
variable {W : World} {T : Nat → Prop} {v : Value} {L : List Int}
/-- The copy, and what it may become. -/
structure Cp (W : World) (A1 : Option Addr) (n c1 : Nat) (R : List Int) (w : World) : Prop where
  row : SlB w (fun q => W.heap.size ≤ q) (.slice A1 n c1) R
  len : R.length = n
  below : Below W.heap.size W w
theorem Cp.drew {W w : World} {A1 : Option Addr} {n c1 : Nat} {R : List Int} (h : Cp W A1 n c1 R w) (k : Nat) : Cp W A1 n c1 R (w.drewN k) :=
  ⟨h.row.kept (fun _ _ => by simp), h.len, pw_below_drewN h.below k⟩
theorem Cp.at {W w : World} {A1 : Option Addr} {n c1 : Nat} {R : List Int} (h : Cp W A1 n c1 R w) (k : Nat) (hk : k < n) : ∃ ad, A1 = some ad ∧ w.cell? (ad.add k) = some (.int .i64 (rd R (k : Int))) := by
  have := h.len
  obtain ⟨ad, e, hc⟩ := h.row.cell (k : Int) (by omega) (by omega)
  exact ⟨ad, e, by simpa using hc⟩
theorem Cp.set {W w : World} {ad : Addr} {n c1 : Nat} {R : List Int} (h : Cp W (some ad) n c1 R w) (k : Nat) (hk : k < n) (x : Int) : w.frozen? (ad.add k) = false ∧ Cp W (some ad) n c1 (R.set k x) (w.setCell (ad.add k) (.int .i64 x)) := by
  have hl := h.len
  obtain ⟨k1, k2, k3⟩ := h.row.set k (by omega) x
  exact ⟨k1, k2, by simpa using hl, h.below.trans ((Turn.of_grown k3 (T := fun q => W.heap.size ≤ q) (fun q hq => by cases hq; exact (h.row.own (j := ad.block) rfl).1)).below (fun b hb => hb) h.below.size)⟩
set_option maxRecDepth 100000
set_option maxHeartbeats 4000000
theorem nextMix_calls (hv : SlB W T v L) (hl : L.length ≤ 4096) : Calls Try.prog 116 #[v] W fun e W' => ∃ v' b M, e = .returned (.tuple #[v', .bool b]) ∧ SlB W' (fun j => W.heap.size ≤ j) v' M ∧ Below W.heap.size W W' ∧ Nx L b M := by
  obtain ⟨A, c, eV⟩ := hv.slice
  subst eV
  have HV := Aside0.mk hv
  obtain ⟨n, hn⟩ : ∃ n, L.length = n := ⟨_, rfl⟩
  rw [hn] at hl ⊢
  have HN := Aside0.mk hn
  have HL := Aside0.mk hl
  have w2 : wrap64 ((n : Int) - 2) = (n : Int) - 2 := X.hwrId (by omega) (by omega)
  have wd : wrap64 ((n : Int) - 1) = (n : Int) - 1 := X.hwrId (by omega) (by omega)
  clear hv hn hl
  go_enter Try.func116, Try.ntmps116
  go_wp2_with ((with_reducible refine gate_builtin (b := .append) (xs := #[.tmp 10, .tmp 11]) rfl ?_); at_builtin; go_loud (refine wpList_cat rfl _ _ rfl (RI.nil W (fun _ => False)) (by rw [← HN.out] at *; exact HV.out) (by have := HN.out; have := HL.out; simp; omega) rfl rfl ?_; intro m1 w1 h1 h2 h3; have hs1 := (h1.slB.mono (T' := fun j => W.heap.size ≤ j) (fun j _ hj => by rcases hj with z | z; exact z.elim; omega)); have hb1 : Below W.heap.size W w1 := ⟨h2.os, h2.tape, h2.output, h2.size, fun b hb => h2.block b hb (by simp [Value.ownBlock])⟩; obtain ⟨A1, c1, e1⟩ := hs1.slice; rw [List.nil_append] at e1 hs1; rw [HN.out] at e1; subst e1; have HC0 := Aside0.mk (Cp.mk hs1 HN.out hb1); clear h1 h2 h3 hs1 hb1))
  go_loopw [5] (fun p wr => ∃ i : Int, p = .int .i64 i ∧ Aside0 ((n = 0 ∧ i = -2) ∨ ∃ m : Nat, i = (m : Int) - 1 ∧ N1 L m) ∧ Aside0 (Cp W A1 n c1 L wr)) (fun p _ => (2 + intOf p).toNat)
  case atStart =>
    refine ⟨(n : Int) - 2, by rw [w2], ⟨?_⟩, HC0⟩
    by_cases h0 : n = 0
    · exact .inl ⟨h0, by omega⟩
    · exact .inr ⟨n - 1, by omega, by have := n1_start L (by have := HN.out; omega); rwa [HN.out] at this⟩
  case round =>
    clear HC0
    obtain ⟨i, rfl, HI, HC⟩ := hrel
    by_cases hi : 0 ≤ i
    · obtain ⟨m, rfl⟩ : ∃ m : Nat, i = (m : Int) := ⟨i.toNat, by omega⟩
      have h1 : N1 L (m + 1) := by
        rcases HI.out with ⟨h1, h2⟩ | ⟨k, h1, h2⟩
        · omega
        · rw [show m + 1 = k by omega]; exact h2
      have hle := h1.le
      rw [HN.out] at hle
      obtain ⟨m1, hm1⟩ : ∃ m1, m + 1 = m1 := ⟨_, rfl⟩
      have wm : wrap64 ((m : Int) + 1) = (m1 : Int) := by rw [X.hwrId (by omega) (by have := HL.out; omega)]; omega
      have wm0 := Aside0.mk (show wrap64 ((m : Int) - 1) = (m : Int) - 1 from X.hwrId (by omega) (by have := HL.out; omega))
      have HM1 := Aside0.mk hm1
      have H1 := Aside0.mk h1
      have HLE := Aside0.mk hle
      obtain ⟨ad, rfl, hca⟩ := HC.out.at m (by omega)
      obtain ⟨ad2, e2, hcb⟩ := HC.out.at m1 (by omega)
      obtain rfl : ad = ad2 := Option.some.inj e2
      obtain ⟨a, ha⟩ : ∃ a, rd L (m : Int) = a := ⟨_, rfl⟩
      obtain ⟨b, hb⟩ : ∃ b, rd L (m1 : Int) = b := ⟨_, rfl⟩
      rw [ha] at hca
      rw [hb] at hcb
      have HA := Aside0.mk ha
      have HB := Aside0.mk hb
      have p0 : ((0 : Int) ≤ (m : Int)) = True := eq_true (by omega)
      have p1 : ((m : Int) < (n : Int)) = True := eq_true (by omega)
      have p2 : ((0 : Int) ≤ (m1 : Int)) = True := eq_true (by omega)
      have p3 : ((m1 : Int) < (n : Int)) = True := eq_true (by omega)
      clear hi h1 hle hm1 e2 ha hb
      by_cases hab : b ≤ a
      · have hab1 : decide (b ≤ a) = true := decide_eq_true hab
        have HAB := Aside0.mk hab
        clear hab
        go_wp2
        go_quiet (fail)
        go_wp2
        refine ⟨⟨(m : Int) - 1, by rw [wm0.out], ⟨.inr ⟨m, rfl, ?_⟩⟩, ⟨HC.out.drew _⟩⟩, by rw [wm0.out]; simp only [intOf]; omega⟩
        exact H1.out.next (by rw [HM1.out, HA.out, HB.out]; exact HAB.out)
      · have hab1 : decide (b ≤ a) = false := decide_eq_false hab
        have hm0 : decide ((m : Int) < 0) = false := decide_eq_false (by omega)
        have N2S := Aside0.mk (H1.out.start2 HA.out (by rw [HM1.out, HB.out]; omega))
        clear hab
        go_wp2
        go_quiet (fail)
        have HC2 := Aside0.mk (HC.out.drew nq)
        clear HC hca hcb
        generalize wr.drewN nq = wx at HC2 ⊢
        go_wp2
        go_loopw [6] (fun p wr => ∃ t : Nat, p = .int .i64 (t : Int) ∧ Aside0 (N2 L m t a) ∧ Aside0 (Cp W (some ad) n c1 L wr)) (fun p _ => (intOf p).toNat)
        case atStart => exact ⟨n - 1, by rw [wd]; exact congrArg (Value.int .i64) (by have := HLE.out; omega), by have := N2S; rw [HN.out] at this; exact this, HC2⟩
        case round =>
          clear HC2 N2S
          obtain ⟨t, rfl, HT, HC⟩ := hrel
          have ht := HT.out.tl
          have hmt := HT.out.mt
          rw [HN.out] at ht
          have hHX := HT.out.hx
          obtain ⟨ad3, e3, hct⟩ := HC.out.at t ht
          obtain rfl : ad = ad3 := Option.some.inj e3
          obtain ⟨ad4, e4, hcm⟩ := HC.out.at m (by omega)
          obtain rfl : ad = ad4 := Option.some.inj e4
          rw [hHX] at hcm
          obtain ⟨y, hy⟩ : ∃ y, rd L (t : Int) = y := ⟨_, rfl⟩
          rw [hy] at hct
          have HY := Aside0.mk hy
          have p4 : ((0 : Int) ≤ (t : Int)) = True := eq_true (by omega)
          have p5 : ((t : Int) < (n : Int)) = True := eq_true (by omega)
          have HTL := Aside0.mk ht
          have HMT := Aside0.mk hmt
          have wt := Aside0.mk (show wrap64 ((t : Int) - 1) = ((t - 1 : Nat) : Int) by rw [X.hwrId (by omega) (by have := HL.out; omega)]; omega)
          clear e3 e4 hHX hy ht hmt
          by_cases hya : y ≤ a
          · have hya1 : decide (y ≤ a) = true := decide_eq_true hya
            have HNX := Aside0.mk (HT.out.next (by rw [HY.out]; exact hya))
            clear hya
            go_wp2
            go_quiet (fail)
            go_wp2
            exact ⟨⟨t - 1, by rw [wt.out], ⟨HNX.out.2⟩, ⟨HC.out.drew _⟩⟩, by rw [wt.out]; simp only [intOf]; have := HMT.out; omega⟩
          · have hya1 : decide (y ≤ a) = false := decide_eq_false hya
            obtain ⟨AA, E, G, q1, q2, q3, q4, q5, q6⟩ := HT.out.swap HY.out (by omega)
            have HSW := Aside0.mk (⟨q1, q2, q3, q4, q5, q6⟩ : L = AA ++ a :: (E ++ y :: G) ∧ (E ++ y :: G).Pairwise (· ≥ ·) ∧ (∀ z ∈ G, z ≤ a) ∧ AA.length = m ∧ (E ++ a :: G).length = L.length - (m + 1) ∧ (L.set m y).set t a = (AA ++ [y]) ++ (E ++ a :: G))
            have HYA := Aside0.mk (show a < y by omega)
            clear q1 q2 q3 q4 q5 q6 hya
            go_wp2
            go_quiet (fail)
            have HC3 := Aside0.mk (HC.out.drew nq)
            have hcm3 : (wr.drewN nq).cell? (ad.add m) = some (.int .i64 a) := by simpa using hcm
            have hct3 : (wr.drewN nq).cell? (ad.add t) = some (.int .i64 y) := by simpa using hct
            clear HC hct hcm
            generalize wr.drewN nq = wz at HC3 hcm3 hct3 ⊢
            obtain ⟨f1, C1⟩ := HC3.out.set m (by have := HMT.out; have := HTL.out; omega) y
            obtain ⟨ad5, e5, hc5⟩ := C1.at t HTL.out
            obtain rfl : ad = ad5 := Option.some.inj e5
            obtain ⟨f2, C2⟩ := C1.set t HTL.out a
            rw [HSW.out.2.2.2.2.2] at C2
            have HC4 := Aside0.mk C2
            have HBL : Aside0 ((AA ++ [y]).length = m1 ∧ (E ++ a :: G).length = n - m1 ∧ m1 < n) := ⟨by have h1 := HSW.out.2.2.2.1; have h2 := HM1.out; rw [List.length_append, List.length_singleton]; omega, by rw [HSW.out.2.2.2.2.1, HN.out, HM1.out], by have := HMT.out; have := HTL.out; have := HM1.out; omega⟩
            clear C1 C2 HC3 e5
            go_wp2
            go_loopw [8, 9] (fun p q wr => ∃ (cc : Nat) (R : List Int), p = .int .i64 ((m1 + cc : Nat) : Int) ∧ q = .int .i64 ((n - 1 - cc : Nat) : Int) ∧ Aside0 (Rv (AA ++ [y]) (E ++ a :: G) cc R) ∧ Aside0 (Cp W (some ad) n c1 R wr)) (fun p q _ => (intOf q + 1 - intOf p).toNat)
            case atStart => exact ⟨0, _, by first | rfl | (rw [wm]; rfl), by rw [wd]; exact congrArg (Value.int .i64) (by have := HBL.out.2.2; omega), ⟨rv_start _ _⟩, HC4⟩
            case round =>
              clear HC4 f1 f2 hc5 hct3 hcm3
              obtain ⟨cc, R, rfl, rfl, HR, HC⟩ := hrel
              obtain ⟨ai, hai⟩ : ∃ ai, m1 + cc = ai := ⟨_, rfl⟩
              obtain ⟨bi, hbi⟩ : ∃ bi, n - 1 - cc = bi := ⟨_, rfl⟩
              rw [hai, hbi]
              have HAI := Aside0.mk hai
              have HBI := Aside0.mk hbi
              have hcs := HR.out.cs
              have hb3 := HBL.out
              by_cases hlt : ai < bi
              · have q1 : decide ((ai : Int) < (bi : Int)) = true := decide_eq_true (by omega)
                have q2 : decide (ai < bi) = true := decide_eq_true hlt
                obtain ⟨ad6, e6, hx6⟩ := HC.out.at ai (by omega)
                obtain rfl : ad = ad6 := Option.some.inj e6
                obtain ⟨ad7, e7, hx7⟩ := HC.out.at bi (by omega)
                obtain rfl : ad = ad7 := Option.some.inj e7
                obtain ⟨xa, hxa⟩ : ∃ xa, rd R (ai : Int) = xa := ⟨_, rfl⟩
                obtain ⟨xb, hxb⟩ : ∃ xb, rd R (bi : Int) = xb := ⟨_, rfl⟩
                obtain ⟨g1, D1⟩ := HC.out.set ai (by omega) xb
                obtain ⟨ad8, e8, hx8⟩ := D1.at bi (by omega)
                obtain rfl : ad = ad8 := Option.some.inj e8
                obtain ⟨g2, D2⟩ := D1.set bi (by omega) xa
                have HD2 := Aside0.mk D2
                have HRN : Aside0 (Rv (AA ++ [y]) (E ++ a :: G) (cc + 1) ((R.set ai xb).set bi xa)) := ⟨by
                  have h := HR.out.next (by rw [hb3.2.1]; omega)
                  rw [hb3.1, hb3.2.1, hai, show m1 + (n - m1 - 1 - cc) = bi by omega, hxa, hxb] at h
                  exact h⟩
                rw [hxa] at hx6
                rw [hxb] at hx7
                have r0 : ((0 : Int) ≤ (ai : Int)) = True := eq_true (by omega)
                have r1 : ((ai : Int) < (n : Int)) = True := eq_true (by omega)
                have r2 : ((0 : Int) ≤ (bi : Int)) = True := eq_true (by omega)
                have r3 : ((bi : Int) < (n : Int)) = True := eq_true (by omega)
                have wa := Aside0.mk (show wrap64 ((ai : Int) + 1) = ((m1 + (cc + 1) : Nat) : Int) by rw [X.hwrId (by omega) (by have := HL.out; omega)]; omega)
                have wb := Aside0.mk (show wrap64 ((bi : Int) - 1) = ((n - 1 - (cc + 1) : Nat) : Int) by rw [X.hwrId (by omega) (by have := HL.out; omega)]; omega)
                have HLT := Aside0.mk hlt
                clear D1 D2 e6 e7 e8 hxa hxb hlt hcs hb3 hai hbi
                go_wp2
                exact ⟨⟨cc + 1, _, by first | rfl | rw [wa.out], by first | rfl | rw [wb.out], HRN, HD2⟩, by rw [wa.out, wb.out]; simp only [intOf]; have := HAI.out; have := HBI.out; have := HLT.out; omega⟩
              · have q1 : decide ((ai : Int) < (bi : Int)) = false := decide_eq_false (by omega)
                have q2 : decide (ai < bi) = false := decide_eq_false hlt
                have HE := Aside0.mk (HR.out.done (by rw [hb3.2.1]; omega))
                clear hlt hcs hb3 hai hbi
                go_wp2
                go_ret2
                refine ⟨.slice (some ad) n c1, true, R, rfl, HC.out.row, HC.out.below, .inr ⟨rfl, AA, E, G, a, y, HSW.out.1, HSW.out.2.1, HYA.out, HSW.out.2.2.1, ?_⟩⟩
                rw [HE.out, List.append_assoc]
                rfl
    · have hi0 : decide (0 ≤ i) = false := decide_eq_false hi
      have hi1 : decide (i < 0) = true := decide_eq_true (by omega)
      have HF : Aside0 (L.Pairwise (· ≥ ·)) := ⟨by
        rcases HI.out with ⟨h1, h2⟩ | ⟨k, h1, h2⟩
        · have : L = [] := List.length_eq_zero_iff.1 (HN.out.trans h1)
          rw [this]; exact List.Pairwise.nil
        · obtain rfl : k = 0 := by omega
          exact h2.top⟩
      clear hi
      go_wp2
      go_quiet (fail)
      go_wp2
      go_ret2
      exact ⟨.slice none 0 0, false, [], rfl, .inl ⟨rfl, rfl⟩, (HC.out.drew _).below, .inl ⟨rfl, rfl, HF.out⟩⟩
end Go.Proofs.Ytfcjfjmjcmanaaa.V
set_option linter.unusedVariables false
namespace Go.Proofs.Ytfcjfjmjcmanaaa.V
open Go Go.RowKit Go.Proofs.Ytfcjfjmjcmanaaa.X Go.Proofs.Ytfcjfjmjcmanaaa.O Go.Proofs.Ytfcjfjmjcmanaaa.B Go.Proofs.YtfcjfjmjcmanaaaW.PrintWords Go.Proofs.YtfcjfjmjcmanaaaW.PrintLast Go.Proofs.YtfcjfjmjcmanaaaW.PrintMore
/-- The list in a box. -/
def rdW (w : World) (b : Nat) : List Int := match w.cell? ⟨b, 0, none⟩ with
  | some (.slice (some a) n _) => (List.range n).map fun k => match w.cell? (a.add k) with
    | some (.int .i64 x) => x
    | _ => 0
  | _ => []
theorem rdW_of {w : World} {b : Nat} {v : Value} {T : Nat → Prop} {L : List Int} (hb : Boxed w b 26 v) (hv : SlB w T v L) : rdW w b = L := by
  unfold rdW
  rw [hb.cell]
  rcases hv with ⟨rfl, rfl⟩ | ⟨j, off, c, cur, rfl, h1, h3, h4, h5, h6, h7⟩
  · rfl
  · apply List.ext_getElem
    · simp
    · intro i h1' h2'
      simp only [List.getElem_map, List.getElem_range]
      rw [Addr.add_lit, cell_of_row w j _ cur 3 (0, 0) h6, h7 i L[i] (List.getElem?_eq_getElem h2')]
def mrW (w : World) (b : Nat) : Nat := match w.cell? ⟨b, 0, none⟩ with
  | some (.bool true) => 1
  | _ => 0
/-- How many are still to come. -/
def muW (F : List (List Int)) (B : Bk5) (w : World) : Nat := mrW w B.bm + (F.filter fun M => blw (rdW w B.bw) M).length
theorem above_len {F : List (List Int)} (hr : F.Pairwise (fun a b => blw a b = true)) {q : Nat} (hq : q < F.length) : (F.filter fun M => blw (wt F q) M).length = F.length - (q + 1) := by
  have e : wt F q = F[q] := (wt_at (List.getElem?_eq_getElem hq)).1
  have hs : ∀ X, X = F[q] → F.filter (fun M => blw X M) = F.drop (q + 1) := by
    intro X hX
    conv => lhs; rw [← List.take_append_drop (q + 1) F]
    rw [List.filter_append]
    have h1 : (F.take (q + 1)).filter (fun M => blw X M) = [] := by
      rw [List.filter_eq_nil_iff]
      intro M hM
      obtain ⟨i, hi, rfl⟩ := List.mem_iff_getElem.1 hM
      rw [List.length_take] at hi
      rw [List.getElem_take, hX]
      rcases Nat.lt_or_ge i q with z | z
      · rw [blw_asym _ _ (List.pairwise_iff_getElem.1 hr i q (by omega) hq z)]; simp
      · obtain rfl : i = q := by omega
        rw [blw_irr]; simp
    have h2 : (F.drop (q + 1)).filter (fun M => blw X M) = F.drop (q + 1) := by
      rw [List.filter_eq_self]
      intro M hM
      obtain ⟨i, hi, rfl⟩ := List.mem_iff_getElem.1 hM
      rw [List.length_drop] at hi
      rw [List.getElem_drop, hX]
      exact List.pairwise_iff_getElem.1 hr q (q + 1 + i) hq (by omega) (by omega)
    rw [h1, h2, List.nil_append]
  rw [hs _ e, List.length_drop]
theorem mu_of {F : List (List Int)} (hr : F.Pairwise (fun a b => blw a b = true)) {B : Bk5} {T : Nat → Prop} {w : World} {c q : Nat} {nv : Int} (hq : q ≤ F.length) (h : B.S T w c (mr F q) nv (wt F q)) : muW F B w = F.length - q := by
  obtain ⟨wv, Tw, cm, cn, cw, sw⟩ := h.boxes
  unfold muW
  rw [rdW_of cw sw]
  have hm : mrW w B.bm = if q < F.length then 1 else 0 := by
    unfold mrW
    rw [cm.cell]
    unfold mr
    by_cases z : q < F.length
    · rw [decide_eq_true z, if_pos z]
    · rw [decide_eq_false z, if_neg z]
  rw [hm]
  by_cases z : q < F.length
  · rw [if_pos z, above_len hr z]; omega
  · have : wt F q = [] := by unfold wt; rw [List.getD_eq_getElem?_getD, List.getElem?_eq_none (by omega)]; rfl
    rw [if_neg z, this]
    have e : (F.filter fun M => blw [] M) = [] := by rw [List.filter_eq_nil_iff]; intro M _; simp [blw]
    rw [e]; simp; omega
theorem rsw_true {W : World} {T : Nat → Prop} {u : Value} {L : List Int} (hu : SlB W T u L) (hl : L.length ≤ 65536) (hn : ∀ x ∈ L, Hnum x) : Calls Try.prog 63 #[u] W fun e W' => e = .returned (.tuple #[.int .i64 ((nsw L : Nat) : Int), .int .i64 0]) ∧ Below W.heap.size W W' := by
  obtain ⟨A, c, rfl, h1, h2, hC⟩ := hu.C
  exact rsw_good A c L W hC h1 ⟨hl⟩ ⟨hn⟩
end Go.Proofs.Ytfcjfjmjcmanaaa.V
