/- Least: rows in blocks of their own, for the program's walk. -/
import Derived.Test.YtfcjfjmjcmanaaaLfq
set_option linter.unusedVariables false
namespace Go.Proofs.Ytfcjfjmjcmanaaa.X
open Go.RowKit Go.Proofs.Ytfcjfjmjcmanaaa.PNums Go.Proofs.YtfcjfjmjcmanaaaW.PrintWords Go.Proofs.YtfcjfjmjcmanaaaW.PrintLast Go.Proofs.YtfcjfjmjcmanaaaW.PrintMore
theorem make0 (n : Nat) (hn : n ≤ 512) (W : World) : (Instr.makeSlice 26 (.int .i64 0) (.int .i64 (n : Int))).run Try.prog W = .ok (.slice (some ⟨W.heap.size, 0, none⟩) 0 n) (W.alloc (.cells (madeCells #[.int .i64 0] n) 3)) := by
  obtain ⟨i, hi, hzz⟩ := Option.map_eq_some_iff.1 info3
  simp only [Prod.mk.injEq] at hzz
  obtain ⟨hz, hs, hb⟩ := hzz
  have hr := run_make (P := Try.prog) W 26 3 i (.int .i64 0) Try.underlying26 hi hz .i64 .i64 0 (n : Int) (by omega) (by omega) (by rw [hb]; omega) (by omega)
  simp only [Int.toNat_natCast, hs, Nat.mul_one] at hr
  exact hr
theorem made_R (n : Nat) (hn : n ≤ 512) (W : World) (ok : Nat → Prop) (hk : ok W.heap.size) : Kd.R (Kd.int .i64) 3 (W.alloc (.cells (madeCells #[.int .i64 0] n) 3)) W.heap.size ok (.slice (some ⟨W.heap.size, 0, none⟩) 0 n) ([] : List Int) :=
  Kd.R_of_own ⟨rfl, .inr ⟨W.heap.size, n, _, rfl, Nat.le_refl _, heap_alloc_last W _, Nat.zero_le _, by unfold maxLen; omega, by rw [size_madeCells, Nat.mul_one], by simp [encs]⟩⟩ (fun k hk' => by
    obtain rfl : W.heap.size = k := by simpa [Value.ownBlock] using hk'
    exact hk)
theorem own_form {W : World} {base : Nat} {ok : Nat → Prop} {v : Value} {L : List Int} (h : Kd.R (Kd.int .i64) 3 W base ok v L) (hp : 0 < L.length) :
    ∃ g cap, v = .slice (some ⟨g, 0, none⟩) L.length cap ∧ base ≤ g ∧ ok g ∧ g < W.heap.size ∧ L.length ≤ cap ∧ ∀ j : Nat, j < L.length → W.cell? ⟨g, j, none⟩ = some (.int .i64 (rd L (j : Int))) := by
  have hok := h.1
  obtain ⟨h1, h2⟩ := Kd.own_of_R h
  rcases h2 with ⟨_, h0⟩ | ⟨g, cap, cur, rfl, hbg, hh, hlc, hm, hs, ht⟩
  · omega
  rw [Nat.mul_one] at ht
  refine ⟨g, cap, rfl, hbg, hok g rfl, (Array.getElem?_eq_some_iff.1 hh).1, hlc, fun j hj => ?_⟩
  rw [cell_of_row W g j cur 3 (0, 0) hh, ← Array.getElem?_toList]
  have : (cur.toList.take L.length)[j]? = cur.toList[j]? := by rw [List.getElem?_take, if_pos hj]
  rw [← this, ht]
  unfold encs rd
  rw [List.getElem?_map, List.getElem?_eq_getElem hj, Int.toNat_natCast, List.getD_eq_getElem?_getD, List.getElem?_eq_getElem hj]; rfl
theorem Tab.grown {W W' : World} {B : Nat} {f : Int → Int → Bool} {row : Option Nat} (h : Tab W B f) (hg : W.grownBy W' row) (hne : some B ≠ row) : Tab W' B f := by
  obtain ⟨cs, hr, hs, hc⟩ := h
  exact ⟨cs, (hg.block B hr.lt hne).trans hr, hs, hc⟩
theorem boxed_grown {W W' : World} {B : Nat} {t : TypeId} {v : Value} {row : Option Nat} (h : Boxed W B t v) (hg : W.grownBy W' row) (hne : some B ≠ row) : Boxed W' B t v := (hg.block B h.lt hne).trans h
theorem boxed_below {W W' : World} {B n : Nat} {t : TypeId} {v : Value} (h : Boxed W B t v) (hn : B < n) (hb : Below n W W') : Boxed W' B t v := (hb.block B hn).trans h
theorem boxed_set {W : World} {B : Nat} {t : TypeId} {v : Value} (h : Boxed W B t v) (u : Value) : Boxed (W.setCell ⟨B, 0, none⟩ u) B t u := by
  unfold Boxed at h ⊢
  have hl := (Array.getElem?_eq_some_iff.1 h).1
  have hv := (Array.getElem?_eq_some_iff.1 h).2
  unfold World.setCell
  rw [Array.getElem?_eq_getElem (by simp; exact hl), Array.getElem_modify, if_pos rfl, hv]
  rfl
/-- What the walk of Least keeps while it looks for the best: nothing of it is written. -/
structure Keep (W : World) (n F Lb : Nat) (t : Int → Int → Bool) (vl vo : Value) (L out : List Int) (w : World) : Prop where
  tab : Tab W F t
  box : Boxed W Lb 26 vl
  left : Kd.R (Kd.int .i64) 3 W n (fun k => k < Lb ∧ F < k) vl L
  out : Kd.R (Kd.int .i64) 3 W (Lb + 1) (fun k => Lb < k) vo out
  below : Below w.heap.size w W
theorem Keep.later {W W' : World} {n F Lb : Nat} {t : Int → Int → Bool} {vl vo : Value} {L out : List Int} {w : World} (h : Keep W n F Lb t vl vo L out w) (hb : Below W.heap.size W W') : Keep W' n F Lb t vl vo L out w := by
  obtain ⟨cs, hr, _⟩ := h.tab
  exact ⟨h.tab.below hr.lt hb, boxed_below h.box h.box.lt hb, Kd.R_below h.left hb, Kd.R_below h.out hb, below_step h.below hb⟩
theorem Keep.pushed {W W' : World} {n F Lb : Nat} {t : Int → Int → Bool} {vl vo vo' : Value} {L out out' : List Int} {w : World} (h : Keep W n F Lb t vl vo L out w) (hF : F < Lb) (hw : w.heap.size ≤ Lb) (hg : W.grownBy W' vo.ownBlock) (ho : Kd.R (Kd.int .i64) 3 W' (Lb + 1) (fun k => Lb < k) vo' out') : Keep W' n F Lb t vl vo' L out' w := by
  have h1 := h.out.1
  refine ⟨h.tab.grown hg (fun z => by have := h1 F z.symm; omega), boxed_grown h.box hg (fun z => by have := h1 Lb z.symm; omega), Kd.R_step h.left (fun k hk hl => hg.block k hl (fun z => by have := h1 k z.symm; omega)), ho, pw_below_grown h.below _ h.below.size hg (fun k hk => by have := h1 k hk; omega)⟩
theorem Keep.cut {W W' : World} {n F Lb : Nat} {t : Int → Int → Bool} {vl vo vl' : Value} {L out L' : List Int} {w : World} (h : Keep W n F Lb t vl vo L out w) (hn : w.heap.size ≤ n) (hL : w.heap.size ≤ Lb) (hg : W.grownBy W' vl.ownBlock) (hl : Kd.R (Kd.int .i64) 3 W' n (fun k => k < Lb ∧ F < k) vl' L') : Keep (W'.setCell ⟨Lb, 0, none⟩ vl') n F Lb t vl' vo L' out w := by
  have h1 := h.left.1
  have hge : ∀ k, vl.ownBlock = some k → n ≤ k := fun k hk => by
    obtain ⟨_, h2⟩ := Kd.own_of_R h.left
    rcases h2 with ⟨rfl, _⟩ | ⟨g, cap, cur, rfl, hbg, _⟩
    · simp [Value.ownBlock] at hk
    · simp [Value.ownBlock] at hk; omega
  have hbox : Boxed W' Lb 26 vl := boxed_grown h.box hg (fun z => by have := h1 Lb z.symm; omega)
  have hF : F ≠ Lb := by
    intro z; subst z
    obtain ⟨cs, hr, hs, _⟩ := h.tab
    have hb := h.box
    unfold Boxed at hb
    unfold Row at hr
    rw [hb] at hr
    injection hr with hr
    injection hr with hr
    rw [← hr] at hs
    simp at hs
  refine ⟨(h.tab.grown hg (fun z => by have := h1 F z.symm; omega)).far _ _ hF, boxed_set hbox _, Kd.R_far hl (fun k hk => by show k ≠ Lb; omega) _, Kd.R_far (Kd.R_step h.out (fun k hk hl => hg.block k hl (fun z => by have := h1 k z.symm; omega))) (fun k hk => by show k ≠ Lb; omega) _, (pw_below_grown h.below _ h.below.size hg (fun k hk => by have := hge k hk; omega)).setCell (p := ⟨Lb, 0, none⟩) hL _⟩
end Go.Proofs.Ytfcjfjmjcmanaaa.X
