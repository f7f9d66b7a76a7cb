/- Plain: ParseShown, the program's against the reference's: the steps. -/
import Derived.Test.YtofagdjijpjlgaaDoorScq
import Derived.Test.YtofagdjijpjlgaaDoorBeq
import Derived.Test.YtofagdjijpjlgaaDoorGs
set_option linter.unusedVariables false
set_option linter.unusedSimpArgs false
namespace Go.Proofs.YtofagdjijpjlgaaDoor.X
open Go.RowKit Go.Proofs.YtofagdjijpjlgaaDoorW.PrintWords Go.Proofs.YtofagdjijpjlgaaDoorW.PrintLast Go.Proofs.YtofagdjijpjlgaaDoor.PBase Go.Proofs.YtofagdjijpjlgaaDoor.PDays Go.Proofs.YtofagdjijpjlgaaDoor.PElem Go.Proofs.YtofagdjijpjlgaaDoor.PShown

theorem wsucc (i : Nat) (h : i ≤ 100000) : wrap64 ((i : Int) + 1) = ((i + 1 : Nat) : Int) := by rw [wrap_id (by omega) (by omega)]; omega
/-- No ) from i on below q. -/
structure Noc (t : ByteArray) (i q : Nat) : Prop where
  no : ∀ j : Nat, i ≤ j → j < q → bt t (j : Int) ≠ 41
theorem Noc.from {t : ByteArray} {i i' q : Nat} (h : Noc t i q) (hi : i ≤ i') : Noc t i' q := ⟨fun j h1 h2 => h.no j (by omega) h2⟩
theorem ub_get (t : ByteArray) (i : Nat) (h : i < t.size) : (t.extract i t.size).data.toList = ub t i :: (t.extract (i + 1) t.size).data.toList := by
  have h' : i < t.data.toList.length := by rw [Array.length_toList]; exact h
  have hx : ∀ j, (t.extract j t.size).data.toList = t.data.toList.drop j := fun j => by
    rw [ByteArray.data_extract, Array.toList_extract, List.extract_eq_take_drop, List.take_of_length_le]
    rw [List.length_drop, Array.length_toList, ByteArray.size_data]
    omega
  rw [hx, hx, List.drop_eq_getElem_cons h']
  unfold ub
  rw [List.getD_eq_getElem?_getD, List.getElem?_eq_getElem h']
  rfl
theorem find41 (t : ByteArray) (e : Nat) : ∀ i, i + e = t.size → (Lib.indexByte (t.extract i t.size).data.toList 41 = -1 ∧ Noc t i t.size) ∨ ∃ q, i ≤ q ∧ q < t.size ∧ Lib.indexByte (t.extract i t.size).data.toList 41 = ((q - i : Nat) : Int) ∧ bt t (q : Int) = 41 ∧ Noc t i q := by
  induction e with
  | zero =>
    intro i h
    refine .inl ⟨?_, ⟨fun j h1 h2 => by omega⟩⟩
    have : (t.extract i t.size).data.toList = [] := by
      apply List.eq_nil_of_length_eq_zero
      rw [Array.length_toList, ByteArray.size_data, ByteArray.size_extract]
      omega
    rw [this]; rfl
  | succ e ih =>
    intro i h
    have hi : i < t.size := by omega
    rw [ub_get t i hi]
    by_cases hb : ub t i = 41
    · refine .inr ⟨i, Nat.le_refl _, hi, ?_, ?_, ⟨fun j h1 h2 => by omega⟩⟩
      · simp [Lib.indexByte, hb]
      · rw [bt_ub, hb]; rfl
    · have hbt : bt t (i : Int) ≠ 41 := by
        rw [bt_ub]
        intro z
        apply hb
        apply UInt8.toNat_inj.1
        have : (41 : UInt8).toNat = 41 := rfl
        omega
      rcases ih (i + 1) (by omega) with ⟨h1, h2⟩ | ⟨q, h1, h2, h3, h4, h5⟩
      · have hb' : (ub t i == 41) = false := beq_eq_false_iff_ne.2 hb
        refine .inl ⟨by unfold Lib.indexByte; rw [hb', h1]; rfl, ⟨fun j h3 h4 => ?_⟩⟩
        by_cases e : j = i
        · rw [e]; exact hbt
        · exact h2.no j (by omega) h4
      · refine .inr ⟨q, by omega, h2, ?_, h4, ⟨fun j h6 h7 => ?_⟩⟩
        · have hn : (((q - (i + 1) : Nat) : Int) == -1) = false := by rw [beq_eq_false_iff_ne]; omega
          have hb' : (ub t i == 41) = false := beq_eq_false_iff_ne.2 hb
          unfold Lib.indexByte
          rw [hb', h3, hn]
          simp only [Bool.false_eq_true, if_false]
          omega
        · by_cases e : j = i
          · rw [e]; exact hbt
          · exact h5.no j (by omega) h7
/-! ## The program's steps -/
abbrev Sh := Option (List S23 × Int × Int)
def endS (l : List S23) (r : Option (ByteArray × Int × Int)) : Sh := r.bind fun b => if b.2.1 = 0 then some (l, 0, 0) else some ([], b.2.1, b.2.2)
theorem gl_end (t : ByteArray) (l : List S23) (i k : Nat) (h : ¬ i < t.size) : gtin_ParseShown.l0 (k + 1) t l (i : Int) = endS l (gtin_Print.f l) := by
  simp only [gtin_ParseShown.l0]
  rw [if_neg (by omega)]
  rfl
theorem gl_open (t : ByteArray) (l : List S23) (i k : Nat) (h : i < t.size) (hb : bt t (i : Int) ≠ 40) : gtin_ParseShown.l0 (k + 1) t l (i : Int) = some ([], 29, (i : Int)) := by
  simp only [gtin_ParseShown.l0]
  rw [if_pos (by omega), if_pos (by omega), if_neg hb]
theorem ib41 (s : ByteArray) : strings_IndexByte.f s 41 = some (Lib.indexByte s.data.toList 41) := rfl
theorem gl_short (t : ByteArray) (l : List S23) (i k : Nat) (h : i < t.size) (hb : bt t (i : Int) = 40) (hx : Lib.indexByte (t.extract i t.size).data.toList 41 = -1) : gtin_ParseShown.l0 (k + 1) t l (i : Int) = some ([], 3, (t.size : Int)) := by
  simp only [gtin_ParseShown.l0]
  rw [if_pos (by omega), if_pos (by omega), if_pos hb, if_pos (by omega), Int.toNat_natCast, ib41]
  generalize Lib.indexByte (t.extract i t.size).data.toList 41 = x at hx ⊢
  rw [Option.bind_some, if_pos (by omega)]
theorem gl_at (t : ByteArray) (l : List S23) (i k q : Nat) (hs : t.size ≤ 2048) (h : i < t.size) (hb : bt t (i : Int) = 40) (hx : Lib.indexByte (t.extract i t.size).data.toList 41 = ((q - i : Nat) : Int)) (h1 : i + 1 ≤ q) (h2 : q < t.size) :
    gtin_ParseShown.l0 (k + 1) t l (i : Int) = (gtin_find.f (t.extract (i + 1) q)).bind fun b => if b.2.2.2.2.2 = true then ((gtin_shownValue.f t ((q + 1 : Nat) : Int)).bind fun c => if c.2.2 = true then (if l.length < 4398046511104 then gtin_ParseShown.l0 k t (l ++ [⟨t.extract (i + 1) q, c.1⟩]) c.2.1 else none) else some ([], 29, c.2.1)) else some ([], 23, ((i + 1 : Nat) : Int)) := by
  simp only [gtin_ParseShown.l0]
  rw [if_pos (by omega), if_pos (by omega), if_pos hb, if_pos (by omega), Int.toNat_natCast, ib41]
  generalize Lib.indexByte (t.extract i t.size).data.toList 41 = x at hx ⊢
  clear hb
  have w1 := wsucc i (by omega)
  have w2 : wrap64 ((i : Int) + x) = (q : Int) := by rw [wrap_id (by omega) (by omega)]; omega
  have w3 := wsucc q (by omega)
  rw [Option.bind_some]
  rw [if_neg (by omega), w1, w2, w3, if_pos (by omega), if_pos (by omega), if_pos (by omega), Int.toNat_natCast, Int.toNat_natCast]
/-! ## The reference's steps -/
theorem rl_end (t : ByteArray) (l : List S23) (i k : Nat) (h : ¬ i < t.size) : larderref02_ParseShown.l0 (k + 1) t l (i : Int) = endS l (larderref02_Print.f k l) := by
  simp only [larderref02_ParseShown.l0]
  rw [if_neg (by omega)]
  rfl
theorem rl_open (t : ByteArray) (l : List S23) (i k : Nat) (h : i < t.size) (hb : bt t (i : Int) ≠ 40) : larderref02_ParseShown.l0 (k + 1) t l (i : Int) = some ([], 29, (i : Int)) := by
  simp only [larderref02_ParseShown.l0]
  rw [if_pos (by omega), if_pos (by omega), if_neg hb]
theorem rl_go (t : ByteArray) (l : List S23) (i k : Nat) (hs : t.size ≤ 2048) (h : i < t.size) (hb : bt t (i : Int) = 40) : larderref02_ParseShown.l0 (k + 1) t l (i : Int) = larderref02_ParseShown.l1 k t l (i : Int) ((i + 1 : Nat) : Int) := by
  simp only [larderref02_ParseShown.l0]
  rw [if_pos (by omega), if_pos (by omega), if_pos hb, wsucc i (by omega)]
theorem rl1_one (t : ByteArray) (l : List S23) (i : Int) (j k : Nat) (hs : t.size ≤ 2048) (h : j < t.size) (hb : bt t (j : Int) ≠ 41) : larderref02_ParseShown.l1 (k + 1) t l i (j : Int) = larderref02_ParseShown.l1 k t l i ((j + 1 : Nat) : Int) := by
  simp only [larderref02_ParseShown.l1]
  rw [if_pos (by omega), if_pos (by omega), if_neg hb, wsucc j (by omega)]
theorem rl1_hit (t : ByteArray) (l : List S23) (i : Int) (j k : Nat) (h : j < t.size) (hb : bt t (j : Int) = 41) : larderref02_ParseShown.l1 (k + 1) t l i (j : Int) = larderref02_ParseShown.j2 k t l i (j : Int) := by
  simp only [larderref02_ParseShown.l1]
  rw [if_pos (by omega), if_pos (by omega), if_pos hb]
theorem rl1_off (t : ByteArray) (l : List S23) (i : Int) (j k : Nat) (h : ¬ j < t.size) : larderref02_ParseShown.l1 (k + 1) t l i (j : Int) = larderref02_ParseShown.j2 k t l i (j : Int) := by
  simp only [larderref02_ParseShown.l1]
  rw [if_neg (by omega)]
theorem rl1_find (t : ByteArray) (l : List S23) (i : Int) (q : Nat) (hs : t.size ≤ 2048) (hq : q < t.size) (hb : bt t (q : Int) = 41) (e : Nat) : ∀ (j k : Nat), j + e = q → Noc t j q → larderref02_ParseShown.l1 (k + e + 1) t l i (j : Int) = larderref02_ParseShown.j2 k t l i (q : Int) := by
  induction e with
  | zero =>
    intro j k h hn
    have : j = q := by omega
    subst this
    exact rl1_hit t l i j k hq hb
  | succ e ih =>
    intro j k h hn
    rw [show k + (e + 1) + 1 = (k + e + 1) + 1 by omega, rl1_one t l i j _ hs (by omega) (hn.no j (by omega) (by omega))]
    exact ih (j + 1) k (by omega) (hn.from (by omega))
theorem rl1_none (t : ByteArray) (l : List S23) (i : Int) (hs : t.size ≤ 2048) (e : Nat) : ∀ (j k : Nat), j + e = t.size → Noc t j t.size → larderref02_ParseShown.l1 (k + e + 1) t l i (j : Int) = larderref02_ParseShown.j2 k t l i (t.size : Int) := by
  induction e with
  | zero =>
    intro j k h hn
    have : j = t.size := by omega
    rw [this]
    exact rl1_off t l i t.size k (by omega)
  | succ e ih =>
    intro j k h hn
    rw [show k + (e + 1) + 1 = (k + e + 1) + 1 by omega, rl1_one t l i j _ hs (by omega) (hn.no j (by omega) (by omega))]
    exact ih (j + 1) k (by omega) (hn.from (by omega))
theorem rj2_short (t : ByteArray) (l : List S23) (i : Int) (k : Nat) : larderref02_ParseShown.j2 (k + 1) t l i (t.size : Int) = some ([], 3, (t.size : Int)) := by
  simp only [larderref02_ParseShown.j2]
  rw [if_pos (by omega)]
theorem rj2_at (t : ByteArray) (l : List S23) (i q k : Nat) (hs : t.size ≤ 2048) (h1 : i + 1 ≤ q) (h2 : q < t.size) : larderref02_ParseShown.j2 (k + 1) t l (i : Int) (q : Int) = (larderref02_kindOf.f k (t.extract (i + 1) q)).bind fun b => if b.2.2.2.2.2.2.2 = true then larderref02_ParseShown.l2 k t l ((q + 1 : Nat) : Int) (t.extract (i + 1) q) ⟨#[]⟩ else some ([], 23, ((i + 1 : Nat) : Int)) := by
  simp only [larderref02_ParseShown.j2]
  rw [if_neg (by omega), wsucc i (by omega), wsucc q (by omega), if_pos (by omega), if_pos (by omega), if_pos (by omega), Int.toNat_natCast, Int.toNat_natCast]
end Go.Proofs.YtofagdjijpjlgaaDoor.X
