/- Plain: which Ai begins here, the reference's against the table's. Plain: the reference's Parse, step by step. Plain: the reference's values and its element. Plain: Parse, the program's against the reference's; the law GtinParses. -/
import Derived.Test.YtofagdjijpjlgaaDoorSbq
import Derived.Test.YtofagdjijpjlgaaDoorGs
import Derived.Test.YtofagdjijpjlgaaDoorGp
set_option linter.unusedVariables false
set_option linter.unusedSimpArgs false
namespace Go.Proofs.YtofagdjijpjlgaaDoor.X
open Go.RowKit Go.Proofs.YtofagdjijpjlgaaDoorW.PrintWords Go.Proofs.YtofagdjijpjlgaaDoorW.PrintLast Go.Proofs.YtofagdjijpjlgaaDoor.PBase Go.Proofs.YtofagdjijpjlgaaDoor.PDays Go.Proofs.YtofagdjijpjlgaaDoor.PElem Go.Proofs.YtofagdjijpjlgaaDoor.PParses

def allA : List ByteArray := (larderref02_all.f).getD []
theorem all_is : larderref02_all.f = some allA := rfl
theorem all_len : allA.length = 39 := by decide +kernel
theorem all_rows : ∀ a ∈ allA.map (fun a => a.data.toList), ∃ r ∈ rws, r.ai = a := by decide +kernel
theorem rows_all : ∀ r ∈ rws, r.ai ∈ allA.map (fun a => a.data.toList) := by decide +kernel
theorem rows_free : ∀ r ∈ rws, ∀ r' ∈ rws, r.ai.isPrefixOf r'.ai = true → r.ai = r'.ai := by decide +kernel
theorem rows_ne : ∀ r ∈ rws, r.ai ≠ [] := by decide +kernel
def hp (l a : List UInt8) : Bool := a.isPrefixOf l
theorem size_data (a : ByteArray) : a.data.toList.length = a.size := by rw [Array.length_toList]; rfl
theorem begins_is (s a : ByteArray) : larderref02_begins.f s a = some (hp s.data.toList a.data.toList) := by
  unfold larderref02_begins.f
  have e1 := size_data s
  have e2 := size_data a
  by_cases h : (s.size : Int) ≥ (a.size : Int)
  · rw [if_pos h, if_pos (by omega), if_pos (by omega), Int.toNat_natCast, ByteArray.toList_eq, ByteArray.toList_eq]
    congr 1
    have hx : (s.extract 0 a.size).data.toList = s.data.toList.take a.size := by
      rw [ByteArray.data_extract, Array.toList_extract, List.extract_eq_take_drop]
      simp
    rw [hx, ← e2]
    unfold hp
    rw [Bool.eq_iff_iff, beq_iff_eq, List.isPrefixOf_iff_prefix, List.prefix_iff_eq_take]
    exact eq_comm
  · rw [if_neg h]
    congr 1
    unfold hp
    symm
    rw [Bool.eq_false_iff]
    intro z
    have := (List.isPrefixOf_iff_prefix.1 z).length_le
    omega
/-- What the reference has after these: the last Ai that fits, and whether one was cut short. -/
def scanA (rest : List UInt8) : List ByteArray → ByteArray → Bool → ByteArray × Bool
  | [], x, s => (x, s)
  | a :: l, x, s => scanA rest l (if hp rest a.data.toList = true then a else x) (s || (decide (rest.length < a.size) && hp a.data.toList rest))
theorem scanA_ai (rest : List UInt8) (b : List UInt8) : ∀ (l : List ByteArray) (x : ByteArray) (s : Bool), (∀ a ∈ l, hp rest a.data.toList = true → a.data.toList = b) → (x.data.toList = b ∨ ∃ a ∈ l, hp rest a.data.toList = true) → (scanA rest l x s).1.data.toList = b
  | [], x, s, h, hx => by
    rcases hx with hx | ⟨a, ha, _⟩
    · exact hx
    · cases ha
  | a :: l, x, s, h, hx => by
    simp only [scanA]
    refine scanA_ai rest b l _ _ (fun c hc => h c (List.mem_cons_of_mem _ hc)) ?_
    by_cases hh : hp rest a.data.toList = true
    · rw [if_pos hh]
      exact .inl (h a (List.mem_cons_self ..) hh)
    · rw [if_neg hh]
      rcases hx with hx | ⟨c, hc, hcp⟩
      · exact .inl hx
      · rcases List.mem_cons.1 hc with e | e
        · rw [e] at hcp; exact absurd hcp hh
        · exact .inr ⟨c, e, hcp⟩
theorem scanA_none (rest : List UInt8) : ∀ (l : List ByteArray) (x : ByteArray) (s : Bool), (∀ a ∈ l, hp rest a.data.toList = false) → scanA rest l x s = (x, s || l.any (fun a => decide (rest.length < a.size) && hp a.data.toList rest))
  | [], x, s, h => by simp [scanA]
  | a :: l, x, s, h => by
    simp only [scanA]
    rw [h a (List.mem_cons_self ..), if_neg Bool.false_ne_true, scanA_none rest l x _ (fun c hc => h c (List.mem_cons_of_mem _ hc))]
    rw [List.any_cons, Bool.or_assoc]
theorem row_mem (i : Nat) (hi : i < 39) : rowAt i ∈ rws := by
  unfold rowAt
  rw [List.getD_eq_getElem?_getD, List.getElem?_eq_getElem (show i < rws.length by rw [show rws.length = 39 from rfl]; exact hi)]
  exact List.getElem_mem _
theorem row_at_of {r : Row5} (h : r ∈ rws) : ∃ i, i < 39 ∧ rowAt i = r := by
  obtain ⟨i, hi, e⟩ := List.getElem_of_mem h
  rw [show rws.length = 39 from rfl] at hi
  refine ⟨i, hi, ?_⟩
  unfold rowAt
  rw [List.getD_eq_getElem?_getD, List.getElem?_eq_getElem]
  exact e
theorem prefFrom_none (rest : List UInt8) : ∀ (f i : Nat), 39 ≤ f + i → prefFrom rest f i = none → ∀ j, i ≤ j → j < 39 → Lib.hasPrefix rest (rowAt j).ai = false
  | 0, i, hf, h, j, h1, h2 => by omega
  | f + 1, i, hf, h, j, h1, h2 => by
    simp only [prefFrom] at h
    rw [if_pos (by omega)] at h
    by_cases hh : Lib.hasPrefix rest (rowAt i).ai = true
    · rw [if_pos hh] at h; cases h
    · rw [if_neg hh] at h
      by_cases e : j = i
      · rw [e]; simpa using hh
      · exact prefFrom_none rest f (i + 1) (by omega) h j (by omega) h2
theorem shortFrom_iff (rest : List UInt8) : ∀ (f i : Nat), 39 ≤ f + i → (shortFrom rest f i = true ↔ ∃ j, i ≤ j ∧ j < 39 ∧ Lib.hasPrefix (rowAt j).ai rest = true)
  | 0, i, hf => by
    simp only [shortFrom]
    exact ⟨fun h => (by cases h), fun ⟨j, h1, h2, _⟩ => (by omega)⟩
  | f + 1, i, hf => by
    simp only [shortFrom]
    by_cases hi : i < 39
    · rw [if_pos hi]
      by_cases hh : Lib.hasPrefix (rowAt i).ai rest = true
      · rw [if_pos hh]
        exact ⟨fun _ => ⟨i, Nat.le_refl _, hi, hh⟩, fun _ => rfl⟩
      · rw [if_neg hh, shortFrom_iff rest f (i + 1) (by omega)]
        constructor
        · rintro ⟨j, h1, h2, h3⟩; exact ⟨j, by omega, h2, h3⟩
        · rintro ⟨j, h1, h2, h3⟩
          refine ⟨j, ?_, h2, h3⟩
          rcases Nat.lt_or_ge i j with z | z
          · exact z
          · have : j = i := by omega
            rw [this] at h3; exact absurd h3 hh
    · rw [if_neg hi]
      exact ⟨fun h => (by cases h), fun ⟨j, h1, h2, _⟩ => by omega⟩
/-- The scan over all Ais, in the table's words. -/
theorem scan_hit (rest : List UInt8) (r : Row5) (h : prefFrom rest 40 0 = some r) : (scanA rest allA ⟨#[]⟩ false).1 = S r := by
  obtain ⟨hr, hpre⟩ := prefFrom_some _ _ _ _ h
  have key : (scanA rest allA ⟨#[]⟩ false).1.data.toList = r.ai := by
    refine scanA_ai rest r.ai allA _ _ (fun a ha hh => ?_) (.inr ?_)
    · obtain ⟨r', hr', e⟩ := all_rows a.data.toList (List.mem_map.2 ⟨a, ha, rfl⟩)
      rw [← e] at hh ⊢
      have p1 := List.isPrefixOf_iff_prefix.1 hh
      have p2 := List.isPrefixOf_iff_prefix.1 hpre
      rcases Nat.le_total r'.ai.length r.ai.length with hl | hl
      · exact rows_free r' hr' r hr (List.isPrefixOf_iff_prefix.2 (List.prefix_of_prefix_length_le p1 p2 hl))
      · exact (rows_free r hr r' hr' (List.isPrefixOf_iff_prefix.2 (List.prefix_of_prefix_length_le p2 p1 hl))).symm
    · obtain ⟨a, ha, e⟩ := List.mem_map.1 (rows_all r hr)
      refine ⟨a, ha, ?_⟩
      unfold hp
      rw [e]
      exact hpre
  apply ByteArray.ext
  apply Array.toList_inj.1
  rw [key]
  rfl
theorem scan_miss (rest : List UInt8) (h : prefFrom rest 40 0 = none) : scanA rest allA ⟨#[]⟩ false = (⟨#[]⟩, shortFrom rest 40 0) := by
  have hno : ∀ r ∈ rws, hp rest r.ai = false := fun r hr => by
    obtain ⟨i, hi, e⟩ := row_at_of hr
    have := prefFrom_none rest 40 0 (by omega) h i (by omega) hi
    rw [e] at this
    exact this
  have hnoA : ∀ a ∈ allA, hp rest a.data.toList = false := fun a ha => by
    obtain ⟨r', hr', e⟩ := all_rows a.data.toList (List.mem_map.2 ⟨a, ha, rfl⟩)
    rw [← e]
    exact hno r' hr'
  rw [scanA_none rest allA _ _ hnoA, Bool.false_or]
  congr 1
  rw [Bool.eq_iff_iff, List.any_eq_true, shortFrom_iff rest 40 0 (by omega)]
  constructor
  · rintro ⟨a, ha, h2⟩
    obtain ⟨_, h3⟩ := Bool.and_eq_true_iff.1 h2
    obtain ⟨r', hr', e⟩ := all_rows a.data.toList (List.mem_map.2 ⟨a, ha, rfl⟩)
    obtain ⟨i, hi, ei⟩ := row_at_of hr'
    refine ⟨i, by omega, hi, ?_⟩
    rw [ei, e]
    exact h3
  · rintro ⟨j, _, hj, h3⟩
    obtain ⟨a, ha, e⟩ := List.mem_map.1 (rows_all (rowAt j) (row_mem j hj))
    refine ⟨a, ha, ?_⟩
    have e : a.data.toList = (rowAt j).ai := e
    rw [e]
    have h4 := List.isPrefixOf_iff_prefix.1 h3
    rw [Bool.and_eq_true_iff]
    refine ⟨?_, h3⟩
    rw [decide_eq_true_eq, ← size_data, e]
    rcases Nat.lt_or_ge rest.length (rowAt j).ai.length with z | z
    · exact z
    · exfalso
      have he := h4.eq_of_length (by have := h4.length_le; omega)
      have hn := hno (rowAt j) (row_mem j hj)
      unfold hp at hn
      rw [← he] at hn
      have := List.isPrefixOf_iff_prefix.2 (List.prefix_refl rest)
      rw [this] at hn
      cases hn
end Go.Proofs.YtofagdjijpjlgaaDoor.X
set_option linter.unusedVariables false
set_option linter.unusedSimpArgs false
namespace Go.Proofs.YtofagdjijpjlgaaDoor.X
open Go.RowKit Go.Proofs.YtofagdjijpjlgaaDoorW.PrintWords Go.Proofs.YtofagdjijpjlgaaDoorW.PrintLast Go.Proofs.YtofagdjijpjlgaaDoor.PBase Go.Proofs.YtofagdjijpjlgaaDoor.PDays Go.Proofs.YtofagdjijpjlgaaDoor.PElem Go.Proofs.YtofagdjijpjlgaaDoor.PParses

abbrev RP := Option (List S23 × Int × Int)
theorem ws1 (i : Nat) (h : i < 100000) : wrap64 ((i : Int) + 1) = ((i + 1 : Nat) : Int) := wrapJ (a := (i : Int) + 1) (b := ((i + 1 : Nat) : Int)) (by omega) (by omega) (by omega)
theorem rdOf_get (i : Nat) (h : i < allA.length) : rdOf ByteArray.empty allA (i : Int) = allA[i] := by
  unfold rdOf; rw [Int.toNat_natCast, List.getD_eq_getElem?_getD, List.getElem?_eq_getElem h]; rfl
theorem l1_step (t rest x : ByteArray) (out : List S23) (pl : List Int) (p : Int) (s : Bool) (i k : Nat) (hi : i < allA.length) :
    larderref02_Parse.l1 (k + 1) t out pl p rest x s allA (i : Int) = larderref02_Parse.l1 k t out pl p rest (if hp rest.data.toList allA[i].data.toList = true then allA[i] else x) (s || (decide (rest.data.toList.length < allA[i].size) && hp allA[i].data.toList rest.data.toList)) allA ((i + 1 : Nat) : Int) := by
  have h39 := all_len
  simp only [larderref02_Parse.l1]
  rw [if_pos (by omega), if_pos (by omega), rdOf_get i hi, begins_is, begins_is, ws1 i (by omega), size_data]
  generalize hp rest.data.toList allA[i].data.toList = A
  generalize hp allA[i].data.toList rest.data.toList = B
  have hc : ((rest.size : Int) < ((allA[i]).size : Int)) ↔ rest.size < (allA[i]).size := by omega
  simp only [Option.bind_some, hc]
  by_cases hs : rest.size < (allA[i]).size
  · cases A <;> cases s <;> cases B <;> simp [hs]
  · cases A <;> cases s <;> cases B <;> simp [hs]
theorem l1_run (t rest : ByteArray) (out : List S23) (pl : List Int) (p : Int) (e : Nat) : ∀ (i k : Nat) (x : ByteArray) (s : Bool), i + e = allA.length →
    larderref02_Parse.l1 (k + e) t out pl p rest x s allA (i : Int) = larderref02_Parse.l1 k t out pl p rest (scanA rest.data.toList (allA.drop i) x s).1 (scanA rest.data.toList (allA.drop i) x s).2 allA (allA.length : Int) := by
  induction e with
  | zero =>
    intro i k x s h
    rw [List.drop_eq_nil_of_le (by omega), show i = allA.length by omega]
    rfl
  | succ e ih =>
    intro i k x s h
    have hi : i < allA.length := by omega
    rw [show k + (e + 1) = (k + e) + 1 by omega, l1_step t rest x out pl p s i _ hi, ih (i + 1) k _ _ (by omega), List.drop_eq_getElem_cons hi]
    rfl
def afterA (k : Nat) (t : ByteArray) (out : List S23) (pl : List Int) (p : Int) (x : ByteArray) : RP :=
  (larderref02_beside.f k out x).bind fun t115 => (if t115 = 0 then ((larderref02_kindOf.f k x).bind fun bt116 => (if bt116.1 = true then (larderref02_Parse.l2 k t out pl p x (wrap64 (p + (x.size : Int))) (wrap64 (p + (x.size : Int))) bt116.1 bt116.2.1 bt116.2.2.1 bt116.2.2.2.1 bt116.2.2.2.2.1 bt116.2.2.2.2.2.1 bt116.2.2.2.2.2.2.1) else (larderref02_Parse.l3 k t out pl p x (wrap64 (p + (x.size : Int))) (wrap64 (p + (x.size : Int))) bt116.1 bt116.2.1 bt116.2.2.1 bt116.2.2.2.1 bt116.2.2.2.2.1 bt116.2.2.2.2.2.1 bt116.2.2.2.2.2.2.1))) else (some (([] : List (S23)), t115, p)))
theorem l1_end (t rest x : ByteArray) (out : List S23) (pl : List Int) (p : Int) (s : Bool) (k : Nat) :
    larderref02_Parse.l1 (k + 1) t out pl p rest x s allA (allA.length : Int) = if x.toList = ([] : List UInt8) then (if s = true then some ([], 3, (t.size : Int)) else some ([], 23, p)) else afterA k t out pl p x := by
  simp only [larderref02_Parse.l1]
  rw [if_neg (by omega)]
  rfl
theorem l0_go (t : ByteArray) (out : List S23) (pl : List Int) (p k : Nat) (h : p < t.size) :
    larderref02_Parse.l0 (k + 1) t out pl (p : Int) = larderref02_Parse.l1 k t out pl (p : Int) (t.extract p t.size) ⟨#[]⟩ false allA ((0 : Nat) : Int) := by
  simp only [larderref02_Parse.l0]
  rw [if_pos (by omega), if_pos (by omega), if_pos (by omega), all_is, Int.toNat_natCast]
  rfl
/-- The row, or its fault. -/
theorem l0_row (t : ByteArray) (out : List S23) (pl : List Int) (p k : Nat) (h : p < t.size) :
    larderref02_Parse.l0 (k + 41) t out pl (p : Int) = match rowR t p with
      | .error (c, q) => some ([], c, q)
      | .ok r => afterA k t out pl (p : Int) (S r) := by
  have h39 := all_len
  rw [show k + 41 = (k + 1 + 39) + 1 by omega, l0_go t out pl p _ h, l1_run t _ out pl (p : Int) 39 0 (k + 1) _ _ (by omega), List.drop_zero, l1_end]
  unfold rowR
  have hr : (t.extract p t.size).data.toList = restOf t p := rfl
  rw [hr]
  cases hpf : prefFrom (restOf t p) 40 0 with
  | some r =>
    have hne : ¬ (S r).toList = [] := by rw [S_toList]; exact rows_ne r (prefFrom_some _ _ _ _ hpf).1
    rw [scan_hit _ r hpf, if_neg hne]
  | none =>
    rw [scan_miss _ hpf]
    have he : (⟨#[]⟩ : ByteArray).toList = [] := by rw [ByteArray.toList_eq]
    rw [if_pos he]
    simp only
    by_cases hs : shortFrom (restOf t p) 40 0 = true
    · rw [if_pos hs, if_pos hs]
    · rw [if_neg hs, if_neg hs]
/-- What stands behind a value. -/
def afterV (k : Nat) (t : ByteArray) (out : List S23) (pl : List Int) (p : Int) (ai : ByteArray) (fr en : Nat) (kd : Int) (plain : Bool) : RP :=
  if wholeOf kd (t.extract fr en) = true then
    (if plain = false ∧ en < t.size then (if en + 1 = t.size then some ([], 4, (en : Int)) else larderref02_Parse.l0 k t (out ++ [⟨ai, t.extract fr en⟩]) (pl ++ [p]) ((en + 1 : Nat) : Int)) else larderref02_Parse.l0 k t (out ++ [⟨ai, t.extract fr en⟩]) (pl ++ [p]) (en : Int))
  else if kd = 0 then some ([], 22, (en : Int) - 1) else some ([], 28, (fr : Int))
theorem j9_t (k : Nat) (t : ByteArray) (out : List S23) (pl : List Int) (en : Nat) (x : Bool) (hs : t.size ≤ 512) (hx : x = true) (he : en < t.size) : larderref02_Parse.j9 (k + 1) t out pl (en : Int) x = if en + 1 = t.size then some ([], 4, (en : Int)) else larderref02_Parse.l0 k t out pl ((en + 1 : Nat) : Int) := by
  have w1 : wrap64 ((t.size : Int) - 1) = (t.size : Int) - 1 := wrapJm rfl (by omega) (by omega)
  have w2 := ws1 en (by omega)
  simp only [larderref02_Parse.j9]
  rw [if_pos hx, w1, w2]
  clear w1 w2
  by_cases e : en + 1 = t.size
  · rw [if_pos (by omega), if_pos e]
  · rw [if_neg (by omega), if_neg e]
theorem j9_f (k : Nat) (t : ByteArray) (out : List S23) (pl : List Int) (en : Nat) (x : Bool) (hx : ¬ x = true) : larderref02_Parse.j9 (k + 1) t out pl (en : Int) x = larderref02_Parse.l0 k t out pl (en : Int) := by
  simp only [larderref02_Parse.j9]
  rw [if_neg hx]
theorem j8_is (k : Nat) (t : ByteArray) (out : List S23) (pl : List Int) (p : Int) (ai v : ByteArray) (en : Nat) (plain b1 b4 b5 b6 : Bool) (b2 b3 : Int) (hs : t.size ≤ 512) (ho : out.length ≤ 512) (hl : pl.length ≤ 512) :
    larderref02_Parse.j8 (k + 2) t out pl p ai (en : Int) v plain b1 b2 b3 b4 b5 b6 = if plain = false ∧ en < t.size then (if en + 1 = t.size then some ([], 4, (en : Int)) else larderref02_Parse.l0 k t (out ++ [⟨ai, v⟩]) (pl ++ [p]) ((en + 1 : Nat) : Int)) else larderref02_Parse.l0 k t (out ++ [⟨ai, v⟩]) (pl ++ [p]) (en : Int) := by
  simp only [larderref02_Parse.j8]
  rw [if_pos (by omega), Option.bind_some, if_pos (by omega), Option.bind_some]
  cases plain with
  | true =>
    rw [if_pos rfl, if_neg (by simp), j9_f k t _ _ en false Bool.false_ne_true]
  | false =>
    rw [if_neg Bool.false_ne_true]
    by_cases he : en < t.size
    · rw [if_pos ⟨rfl, he⟩, j9_t k t _ _ en _ hs (decide_eq_true (by omega)) he]
    · rw [if_neg (fun z => he z.2), j9_f k t _ _ en _ (by rw [decide_eq_true_eq]; omega)]
theorem j7_a (k : Nat) (t : ByteArray) (out : List S23) (pl : List Int) (p : Int) (ai v : ByteArray) (fr en : Nat) (x b0 b1 b4 b5 b6 : Bool) (b2 b3 : Int) (hs : en ≤ 100000) (hx : x = true) :
    larderref02_Parse.j7 (k + 1) t out pl p ai (fr : Int) (en : Int) v x b0 b1 b2 b3 b4 b5 b6 = some ([], 22, (en : Int) - 1) := by
  have w1 : wrap64 ((en : Int) - 1) = (en : Int) - 1 := wrapJm rfl (by omega) (by omega)
  simp only [larderref02_Parse.j7]
  rw [if_pos hx, w1]
theorem j7_b (k : Nat) (t : ByteArray) (out : List S23) (pl : List Int) (p : Int) (ai v : ByteArray) (fr en : Nat) (x b0 b1 b4 b5 b6 : Bool) (b2 b3 : Int) (hx : ¬ x = true) (h5 : ¬ b5 = true) :
    larderref02_Parse.j7 (k + 1) t out pl p ai (fr : Int) (en : Int) v x b0 b1 b2 b3 b4 b5 b6 = larderref02_Parse.j8 k t out pl p ai (en : Int) v b0 b1 b2 b3 b4 b5 b6 := by
  simp only [larderref02_Parse.j7]
  rw [if_neg hx, if_neg h5]
theorem j7_c (k : Nat) (t : ByteArray) (out : List S23) (pl : List Int) (p : Int) (ai v : ByteArray) (fr en : Nat) (x b0 b1 b4 b5 b6 q : Bool) (b2 b3 : Int) (hx : ¬ x = true) (h5 : b5 = true) (hd : larderref02_isDay.f k v = some q) :
    larderref02_Parse.j7 (k + 1) t out pl p ai (fr : Int) (en : Int) v x b0 b1 b2 b3 b4 b5 b6 = if q = true then larderref02_Parse.j8 k t out pl p ai (en : Int) v b0 b1 b2 b3 b4 b5 b6 else some ([], 28, (fr : Int)) := by
  simp only [larderref02_Parse.j7]
  rw [if_neg hx, if_pos h5, hd, Option.bind_some]
theorem j6_a (k : Nat) (t : ByteArray) (out : List S23) (pl : List Int) (p : Int) (ai : ByteArray) (fr en : Nat) (b0 b1 b4 b5 b6 : Bool) (b2 b3 : Int) (h1 : fr ≤ en) (h2 : en ≤ t.size) (h4 : b4 = true) (sm : Int) (hsm : larderref02_sum.f k (t.extract fr en) = some sm) :
    larderref02_Parse.j6 (k + 1) t out pl p ai (fr : Int) (en : Int) b0 b1 b2 b3 b4 b5 b6 = larderref02_Parse.j7 k t out pl p ai (fr : Int) (en : Int) (t.extract fr en) ((Int.tmod sm 10) != 0) b0 b1 b2 b3 b4 b5 b6 := by
  simp only [larderref02_Parse.j6]
  rw [if_pos (by omega), if_pos (by omega), if_pos (by omega), if_pos h4, Int.toNat_natCast, Int.toNat_natCast, hsm, Option.bind_some]
theorem j6_b (k : Nat) (t : ByteArray) (out : List S23) (pl : List Int) (p : Int) (ai : ByteArray) (fr en : Nat) (b0 b1 b4 b5 b6 : Bool) (b2 b3 : Int) (h1 : fr ≤ en) (h2 : en ≤ t.size) (h4 : ¬ b4 = true) :
    larderref02_Parse.j6 (k + 1) t out pl p ai (fr : Int) (en : Int) b0 b1 b2 b3 b4 b5 b6 = larderref02_Parse.j7 k t out pl p ai (fr : Int) (en : Int) (t.extract fr en) false b0 b1 b2 b3 b4 b5 b6 := by
  simp only [larderref02_Parse.j6]
  rw [if_pos (by omega), if_pos (by omega), if_pos (by omega), if_neg h4, Int.toNat_natCast, Int.toNat_natCast]
/-- j6: the last tests, and on. -/
theorem j6_is (k : Nat) (t : ByteArray) (out : List S23) (pl : List Int) (p : Int) (r : Row5) (ai : ByteArray) (fr en : Nat) (b1 b6 : Bool) (b2 b3 : Int) (hs : t.size ≤ 512) (ho : out.length ≤ 512) (hl : pl.length ≤ 512) (h1 : fr ≤ en) (h2 : en ≤ t.size) (hk : 600 ≤ k)
    (hw0 : r.kind = 0 → wholeOf 0 (t.extract fr en) = decide (Int.tmod (sumOf (t.extract fr en)) 10 = 0)) (hw1 : r.kind = 1 → larderref02_isDay.f (k + 2) (t.extract fr en) = some (wholeOf 1 (t.extract fr en))) :
    larderref02_Parse.j6 (k + 4) t out pl p ai (fr : Int) (en : Int) r.plain b1 b2 b3 (decide (r.kind = 0)) (decide (r.kind = 1)) b6 = afterV k t out pl p ai fr en r.kind r.plain := by
  unfold afterV
  have hvz : (t.extract fr en).size ≤ 512 := by rw [ByteArray.size_extract]; omega
  by_cases k0 : r.kind = 0
  · rw [j6_a (k + 3) t out pl p ai fr en _ _ _ _ _ _ _ h1 h2 (decide_eq_true k0) _ (rsum _ (by omega) (k + 3) (by omega)), k0, hw0 k0]
    by_cases hz : Int.tmod (sumOf (t.extract fr en)) 10 = 0
    · rw [if_pos (decide_eq_true hz), j7_b (k + 2) t out pl p ai _ fr en _ _ _ _ _ _ _ _ (by rw [hz]; decide) (by decide)]
      exact j8_is k t out pl p ai _ en _ _ _ _ _ _ _ hs ho hl
    · rw [if_neg (by rw [decide_eq_true_eq]; exact hz), if_pos rfl, j7_a (k + 2) t out pl p ai _ fr en _ _ _ _ _ _ _ _ (by omega) (bne_iff_ne.2 hz)]
  · rw [j6_b (k + 3) t out pl p ai fr en _ _ _ _ _ _ _ h1 h2 (by rw [decide_eq_true_eq]; exact k0)]
    by_cases k1 : r.kind = 1
    · rw [j7_c (k + 2) t out pl p ai _ fr en _ _ _ _ _ _ _ _ _ Bool.false_ne_true (decide_eq_true k1) (hw1 k1), k1, if_neg (show ¬ (1 : Int) = 0 by decide)]
      by_cases hz : wholeOf 1 (t.extract fr en) = true
      · rw [if_pos hz, if_pos hz]
        exact j8_is k t out pl p ai _ en _ _ _ _ _ _ _ hs ho hl
      · rw [if_neg hz, if_neg hz]
    · rw [j7_b (k + 2) t out pl p ai _ fr en _ _ _ _ _ _ _ _ Bool.false_ne_true (by rw [decide_eq_true_eq]; exact k1)]
      have hw : wholeOf r.kind (t.extract fr en) = true := by unfold wholeOf; rw [if_neg k0, if_neg k1]
      rw [if_pos hw]
      exact j8_is k t out pl p ai _ en _ _ _ _ _ _ _ hs ho hl
end Go.Proofs.YtofagdjijpjlgaaDoor.X
set_option linter.unusedVariables false
set_option linter.unusedSimpArgs false
namespace Go.Proofs.YtofagdjijpjlgaaDoor.X
open Go.RowKit Go.Proofs.YtofagdjijpjlgaaDoorW.PrintWords Go.Proofs.YtofagdjijpjlgaaDoorW.PrintLast Go.Proofs.YtofagdjijpjlgaaDoor.PBase Go.Proofs.YtofagdjijpjlgaaDoor.PDays Go.Proofs.YtofagdjijpjlgaaDoor.PElem Go.Proofs.YtofagdjijpjlgaaDoor.PParses

section
variable (k : Nat) (t : ByteArray) (out : List S23) (pl : List Int) (p : Int) (ai : ByteArray) (fr en : Nat) (b0 b1 b4 b5 b6 : Bool)
theorem l2_short (L : Nat) (b3 : Int) (hs : t.size ≤ 512) (hf : fr ≤ 1000) (hL : L ≤ 100) (h : en < fr + L) (h1 : t.size ≤ en) : larderref02_Parse.l2 (k + 1) t out pl p ai (fr : Int) (en : Int) b0 b1 (L : Int) b3 b4 b5 b6 = some ([], 3, (t.size : Int)) := by
  have w1 : wrap64 ((fr : Int) + (L : Int)) = ((fr + L : Nat) : Int) := wrapJ (a := (fr : Int) + (L : Int)) (b := ((fr + L : Nat) : Int)) (by omega) (by omega) (by omega)
  simp only [larderref02_Parse.l2]
  rw [w1]
  clear w1
  rw [if_pos (by omega), if_pos (by omega)]
theorem l2_out (L : Nat) (b3 : Int) (hf : fr ≤ 1000) (hL : L ≤ 100) (h : fr + L ≤ en) : larderref02_Parse.l2 (k + 1) t out pl p ai (fr : Int) (en : Int) b0 b1 (L : Int) b3 b4 b5 b6 = larderref02_Parse.j6 k t out pl p ai (fr : Int) (en : Int) b0 b1 (L : Int) b3 b4 b5 b6 := by
  have w1 : wrap64 ((fr : Int) + (L : Int)) = ((fr + L : Nat) : Int) := wrapJ (a := (fr : Int) + (L : Int)) (b := ((fr + L : Nat) : Int)) (by omega) (by omega) (by omega)
  simp only [larderref02_Parse.l2]
  rw [w1]
  clear w1
  rw [if_neg (by omega)]
theorem l2_in (L : Nat) (b3 : Int) (hs : t.size ≤ 512) (hf : fr ≤ 1000) (hL : L ≤ 100) (h : en < fr + L) (h1 : en < t.size) : larderref02_Parse.l2 (k + 1) t out pl p ai (fr : Int) (en : Int) b0 b1 (L : Int) b3 b4 b5 b6 = if isD (bt t (en : Int)) = true then larderref02_Parse.l2 k t out pl p ai (fr : Int) ((en + 1 : Nat) : Int) b0 b1 (L : Int) b3 b4 b5 b6 else some ([], 20, (en : Int)) := by
  have w1 : wrap64 ((fr : Int) + (L : Int)) = ((fr + L : Nat) : Int) := wrapJ (a := (fr : Int) + (L : Int)) (b := ((fr + L : Nat) : Int)) (by omega) (by omega) (by omega)
  have w2 := ws1 en (by omega)
  simp only [larderref02_Parse.l2]
  rw [w1, w2]
  clear w1 w2
  rw [if_pos (by omega), if_neg (by omega), if_pos (by omega), if_pos (by omega), rIsDigit, Option.bind_some]
def resV (x : Fl ByteArray) (y : RP) : RP := match x with
  | .error (c, q) => some ([], c, q)
  | .ok _ => y
theorem l2_run (kd : Int) (hk : kd ≠ 3) (L : Nat) (b3 : Int) (hs : t.size ≤ 512) (hf : fr ≤ 600) (hL : L ≤ 100) : ∀ (f i : Nat), f + i = L + 1 → i ≤ L →
    larderref02_Parse.l2 (k + f) t out pl p ai (fr : Int) ((fr + i : Nat) : Int) b0 b1 (L : Int) b3 b4 b5 b6 = resV (plL t kd fr L f i) (larderref02_Parse.j6 k t out pl p ai (fr : Int) ((fr + L : Nat) : Int) b0 b1 (L : Int) b3 b4 b5 b6)
  | 0, i, h, hi => by omega
  | f + 1, i, h, hi => by
    rw [show k + (f + 1) = (k + f) + 1 by omega]
    simp only [plL]
    by_cases hl : i < L
    · rw [if_pos hl]
      by_cases h1 : t.size ≤ fr + i
      · rw [if_pos h1, l2_short (k + f) t out pl p ai fr (fr + i) b0 b1 b4 b5 b6 L b3 hs (by omega) hL (by omega) h1]
        rfl
      · rw [if_neg h1, l2_in (k + f) t out pl p ai fr (fr + i) b0 b1 b4 b5 b6 L b3 hs (by omega) hL (by omega) (by omega)]
        have hm : mayOf kd (bt t ((fr + i : Nat) : Int)) = isD (bt t ((fr + i : Nat) : Int)) := by unfold mayOf; rw [if_neg hk]
        have hw : wrongOf kd = 20 := by unfold wrongOf; rw [if_neg hk]
        rw [hm, hw]
        by_cases hd : isD (bt t ((fr + i : Nat) : Int)) = true
        · rw [if_pos hd, if_pos hd]
          exact l2_run kd hk L b3 hs hf hL f (i + 1) (by omega) (by omega)
        · rw [if_neg hd, if_neg hd]
          rfl
    · rw [if_neg hl, show fr + i = fr + L by omega, l2_out (k + f) t out pl p ai fr (fr + L) b0 b1 b4 b5 b6 L b3 (by omega) hL (by omega), show f = 0 by omega]
      rfl
theorem l3_go (b2 b3 : Int) (h : en < t.size) (h29 : bt t (en : Int) ≠ 29) : larderref02_Parse.l3 (k + 1) t out pl p ai (fr : Int) (en : Int) b0 b1 b2 b3 b4 b5 b6 = larderref02_Parse.j4 k t out pl p ai (fr : Int) (en : Int) true b0 b1 b2 b3 b4 b5 b6 := by
  simp only [larderref02_Parse.l3]
  rw [if_pos (by omega), if_pos (by omega), bne_iff_ne.2 h29]
theorem l3_stop (b2 b3 : Int) (h : t.size ≤ en ∨ (en < t.size ∧ bt t (en : Int) = 29)) : larderref02_Parse.l3 (k + 1) t out pl p ai (fr : Int) (en : Int) b0 b1 b2 b3 b4 b5 b6 = larderref02_Parse.j4 k t out pl p ai (fr : Int) (en : Int) false b0 b1 b2 b3 b4 b5 b6 := by
  simp only [larderref02_Parse.l3]
  rcases h with h | ⟨h, h29⟩
  · rw [if_neg (by omega)]
  · rw [if_pos (by omega), if_pos (by omega), h29]
    rfl
theorem j5_a (x : Bool) (b2 b3 : Int) (hx : x = true) : larderref02_Parse.j5 (k + 1) t out pl p ai (fr : Int) (en : Int) x b0 b1 b2 b3 b4 b5 b6 = some ([], 20, (en : Int)) := by
  simp only [larderref02_Parse.j5]
  rw [if_pos hx]
theorem j5_b (x : Bool) (b2 b3 : Int) (hx : ¬ x = true) (hs : t.size ≤ 512) (h : en < t.size) (hk : 30 ≤ k) : larderref02_Parse.j5 (k + 1) t out pl p ai (fr : Int) (en : Int) x b0 b1 b2 b3 b4 b5 b6 = if isC (bt t (en : Int)) = true then larderref02_Parse.l3 k t out pl p ai (fr : Int) ((en + 1 : Nat) : Int) b0 b1 b2 b3 b4 b5 b6 else some ([], 27, (en : Int)) := by
  have w2 := ws1 en (by omega)
  have hb := bt_byte t en
  simp only [larderref02_Parse.j5]
  rw [if_neg hx, w2]
  clear w2
  rw [rchar (bt t (en : Int)) hb.1 hb.2 k hk, Option.bind_some, if_pos (by omega), if_pos (by omega)]
theorem j4_large (b2 : Int) (M : Nat) (hf : fr ≤ en) (he : en ≤ 1000) (h : M ≤ en - fr) : larderref02_Parse.j4 (k + 1) t out pl p ai (fr : Int) (en : Int) true b0 b1 b2 (M : Int) b4 b5 b6 = some ([], 26, (en : Int)) := by
  have w1 : wrap64 ((en : Int) - (fr : Int)) = ((en - fr : Nat) : Int) := wrapJ (a := (en : Int) - (fr : Int)) (b := ((en - fr : Nat) : Int)) (by omega) (by omega) (by omega)
  simp only [larderref02_Parse.j4]
  rw [if_pos trivial, w1]
  clear w1
  rw [if_pos (by omega)]
theorem j4_dig (b2 : Int) (M : Nat) (hf : fr ≤ en) (he : en < t.size) (hs : t.size ≤ 512) (h : ¬ M ≤ en - fr) (hb : b1 = true) : larderref02_Parse.j4 (k + 1) t out pl p ai (fr : Int) (en : Int) true b0 b1 b2 (M : Int) b4 b5 b6 = larderref02_Parse.j5 k t out pl p ai (fr : Int) (en : Int) (!(isD (bt t (en : Int)))) b0 b1 b2 (M : Int) b4 b5 b6 := by
  have w1 : wrap64 ((en : Int) - (fr : Int)) = ((en - fr : Nat) : Int) := wrapJ (a := (en : Int) - (fr : Int)) (b := ((en - fr : Nat) : Int)) (by omega) (by omega) (by omega)
  simp only [larderref02_Parse.j4]
  rw [if_pos trivial, w1]
  clear w1
  rw [if_neg (by omega), if_pos hb, if_pos (by omega), if_pos (by omega), rIsDigit, Option.bind_some]
theorem j4_chr (b2 : Int) (M : Nat) (hf : fr ≤ en) (he : en < t.size) (hs : t.size ≤ 512) (h : ¬ M ≤ en - fr) (hb : ¬ b1 = true) : larderref02_Parse.j4 (k + 1) t out pl p ai (fr : Int) (en : Int) true b0 b1 b2 (M : Int) b4 b5 b6 = larderref02_Parse.j5 k t out pl p ai (fr : Int) (en : Int) false b0 b1 b2 (M : Int) b4 b5 b6 := by
  have w1 : wrap64 ((en : Int) - (fr : Int)) = ((en - fr : Nat) : Int) := wrapJ (a := (en : Int) - (fr : Int)) (b := ((en - fr : Nat) : Int)) (by omega) (by omega) (by omega)
  simp only [larderref02_Parse.j4]
  rw [if_pos trivial, w1]
  clear w1
  rw [if_neg (by omega), if_neg hb]
theorem j4_end (L : Nat) (b3 : Int) (hf : fr ≤ en) (he : en ≤ 1000) (hL : 1 ≤ L) : larderref02_Parse.j4 (k + 1) t out pl p ai (fr : Int) (en : Int) false b0 b1 (L : Int) b3 b4 b5 b6 = if en - fr < L then some ([], 3, (en : Int)) else larderref02_Parse.j6 k t out pl p ai (fr : Int) (en : Int) b0 b1 (L : Int) b3 b4 b5 b6 := by
  have w1 : wrap64 ((en : Int) - (fr : Int)) = ((en - fr : Nat) : Int) := wrapJ (a := (en : Int) - (fr : Int)) (b := ((en - fr : Nat) : Int)) (by omega) (by omega) (by omega)
  simp only [larderref02_Parse.j4]
  rw [if_neg Bool.false_ne_true, w1]
  clear w1
  by_cases e : en = fr
  · subst e
    rw [if_pos rfl, if_pos (by omega)]
  · rw [if_neg (by omega)]
    by_cases h : en - fr < L
    · rw [if_pos (by omega), if_pos h]
    · rw [if_neg (by omega), if_neg h]
end
/-- What stands at the places of a value that is ended. -/
structure CutOf (t v : ByteArray) (fr : Nat) : Prop where
  at' : ∀ i, i < v.size → fr + i < t.size ∧ bt t ((fr + i : Nat) : Int) ≠ 29 ∧ bt v (i : Int) = bt t ((fr + i : Nat) : Int)
  stop : t.size ≤ fr + v.size ∨ (fr + v.size < t.size ∧ bt t ((fr + v.size : Nat) : Int) = 29)
  le : fr + v.size ≤ t.size
  ext : v = t.extract fr (fr + v.size)
theorem takeWhile_prop (P : UInt8 → Bool) : ∀ (l : List UInt8), (∀ i, i < (l.takeWhile P).length → P (l.getD i 0) = true) ∧ ((l.takeWhile P).length = l.length ∨ ((l.takeWhile P).length < l.length ∧ P (l.getD (l.takeWhile P).length 0) = false)) ∧ l.takeWhile P = l.take (l.takeWhile P).length
  | [] => ⟨by simp, .inl rfl, rfl⟩
  | a :: l => by
    obtain ⟨h1, h2, h3⟩ := takeWhile_prop P l
    by_cases h : P a = true
    · have e : (a :: l).takeWhile P = a :: l.takeWhile P := by rw [List.takeWhile_cons, if_pos h]
      rw [e, List.length_cons]
      refine ⟨fun i hi => ?_, ?_, ?_⟩
      · cases i with
        | zero => exact h
        | succ i => exact h1 i (by omega)
      · rcases h2 with h2 | ⟨h2, h4⟩
        · exact .inl (by rw [List.length_cons, h2])
        · exact .inr ⟨by rw [List.length_cons]; omega, h4⟩
      · rw [List.take_succ_cons, ← h3]
    · have e : (a :: l).takeWhile P = [] := by rw [List.takeWhile_cons, if_neg h]
      rw [e]
      refine ⟨fun i hi => absurd hi (by simp), .inr ⟨by simp, by simpa using h⟩, rfl⟩
theorem bt_rest (t : ByteArray) (fr i : Nat) (h : fr + i < t.size) : bt t ((fr + i : Nat) : Int) = (((restOf t fr).getD i 0).toNat : Int) := by
  rw [bs_rd, Int.toNat_natCast]
  have hx : restOf t fr = t.data.toList.drop fr := by
    unfold restOf
    rw [ByteArray.data_extract, Array.toList_extract, List.extract_eq_take_drop, List.take_of_length_le]
    rw [List.length_drop, Array.length_toList, ByteArray.size_data]
    omega
  rw [hx]
  unfold bytesOf
  rw [List.getD_eq_getElem?_getD, List.getD_eq_getElem?_getD, List.getElem?_map, List.getElem?_drop]
  cases t.data.toList[fr + i]? <;> rfl
theorem bt_list (l : List UInt8) (i : Nat) : bt ⟨l.toArray⟩ (i : Int) = ((l.getD i 0).toNat : Int) := by
  rw [bs_rd, Int.toNat_natCast]
  unfold bytesOf
  rw [List.getD_eq_getElem?_getD, List.getD_eq_getElem?_getD, List.getElem?_map]
  cases l[i]? <;> rfl
theorem cut_of (t : ByteArray) (fr : Nat) (hf : fr ≤ t.size) : CutOf t (cutV t fr) fr := by
  obtain ⟨h1, h2, h3⟩ := takeWhile_prop (fun c => c != 29) (restOf t fr)
  have hl := rest_len t fr
  have hsz : (cutV t fr).size = ((restOf t fr).takeWhile (fun c => c != 29)).length := by unfold cutV; simp [ByteArray.size]
  have hle : ((restOf t fr).takeWhile (fun c => c != 29)).length ≤ t.size - fr := by
    rw [← hl]; exact (List.takeWhile_sublist _).length_le
  refine ⟨fun i hi => ?_, ?_, by omega, ?_⟩
  · have hi' : fr + i < t.size := by omega
    have hp := h1 i (by omega)
    rw [bt_rest t fr i hi']
    refine ⟨hi', ?_, ?_⟩
    · intro z
      have : (restOf t fr).getD i 0 = 29 := UInt8.toNat_inj.1 (by rw [show (29 : UInt8).toNat = 29 from rfl]; omega)
      rw [this] at hp
      exact absurd hp (by decide)
    · unfold cutV
      rw [bt_list, h3, List.getD_eq_getElem?_getD, List.getD_eq_getElem?_getD, List.getElem?_take, if_pos (by omega)]
  · rcases h2 with h2 | ⟨h2, h4⟩
    · exact .inl (by omega)
    · refine .inr ⟨by omega, ?_⟩
      rw [hsz, bt_rest t fr _ (by omega)]
      have : (restOf t fr).getD ((restOf t fr).takeWhile (fun c => c != 29)).length 0 = 29 := by simpa using h4
      rw [this]
      rfl
  · apply ByteArray.ext
    apply Array.toList_inj.1
    rw [hsz, ByteArray.data_extract, Array.toList_extract, List.extract_eq_take_drop]
    have hx : restOf t fr = t.data.toList.drop fr := by
      unfold restOf
      rw [ByteArray.data_extract, Array.toList_extract, List.extract_eq_take_drop, List.take_of_length_le]
      rw [List.length_drop, Array.length_toList, ByteArray.size_data]
      omega
    rw [← hx, show fr + ((restOf t fr).takeWhile (fun c => c != 29)).length - fr = ((restOf t fr).takeWhile (fun c => c != 29)).length by omega, ← h3]
    rfl
theorem l3_run (k : Nat) (t : ByteArray) (out : List S23) (pl : List Int) (p : Int) (ai v : ByteArray) (fr : Nat) (b0 b4 b5 b6 : Bool) (kd : Int) (hkd : kd = 2 ∨ kd = 3) (L M : Nat) (hs : t.size ≤ 512) (hL : 1 ≤ L) (hk : 30 ≤ k) (hc : CutOf t v fr) : ∀ (f i : Nat), f + i = v.size + 1 → i ≤ v.size →
    larderref02_Parse.l3 (k + 3 * f) t out pl p ai (fr : Int) ((fr + i : Nat) : Int) b0 (decide (kd ≠ 3)) (L : Int) (M : Int) b4 b5 b6 = resV (enL v kd fr L M f i) (larderref02_Parse.j6 (k + 1) t out pl p ai (fr : Int) ((fr + v.size : Nat) : Int) b0 (decide (kd ≠ 3)) (L : Int) (M : Int) b4 b5 b6)
  | 0, i, h, hi => by omega
  | f + 1, i, h, hi => by
    have hle := hc.le
    rw [show k + 3 * (f + 1) = (k + 3 * f + 2) + 1 by omega]
    simp only [enL]
    by_cases hl : i < v.size
    · obtain ⟨a1, a2, a3⟩ := hc.at' i hl
      rw [if_pos hl, l3_go _ t out pl p ai fr (fr + i) _ _ _ _ _ _ _ a1 a2]
      by_cases hM : M ≤ i
      · rw [if_pos hM, j4_large (k + 3 * f + 1) t out pl p ai fr (fr + i) _ _ _ _ _ _ M (by omega) (by omega) (by omega)]
        rfl
      · rw [if_neg hM, a3]
        rcases hkd with rfl | rfl
        · rw [j4_dig (k + 3 * f + 1) t out pl p ai fr (fr + i) _ _ _ _ _ _ M (by omega) a1 hs (by omega) (by decide)]
          rw [show mayOf 2 (bt t ((fr + i : Nat) : Int)) = isD (bt t ((fr + i : Nat) : Int)) from rfl, show wrongOf 2 = 20 from rfl]
          by_cases hd : isD (bt t ((fr + i : Nat) : Int)) = true
          · rw [if_pos hd, hd, j5_b (k + 3 * f) t out pl p ai fr (fr + i) _ _ _ _ _ _ _ _ (by decide) hs a1 (by omega), if_pos (isC_of_isD hd)]
            exact l3_run k t out pl p ai v fr b0 b4 b5 b6 2 (.inl rfl) L M hs hL hk hc f (i + 1) (by omega) (by omega)
          · have hd' : isD (bt t ((fr + i : Nat) : Int)) = false := by simpa using hd
            rw [if_neg hd, hd', j5_a (k + 3 * f) t out pl p ai fr (fr + i) _ _ _ _ _ (!false) _ _ rfl]
            rfl
        · rw [j4_chr (k + 3 * f + 1) t out pl p ai fr (fr + i) _ _ _ _ _ _ M (by omega) a1 hs (by omega) (by decide)]
          rw [show mayOf 3 (bt t ((fr + i : Nat) : Int)) = isC (bt t ((fr + i : Nat) : Int)) from rfl, show wrongOf 3 = 27 from rfl]
          rw [j5_b (k + 3 * f) t out pl p ai fr (fr + i) _ _ _ _ _ _ _ _ Bool.false_ne_true hs a1 (by omega)]
          by_cases hd : isC (bt t ((fr + i : Nat) : Int)) = true
          · rw [if_pos hd, if_pos hd]
            exact l3_run k t out pl p ai v fr b0 b4 b5 b6 3 (.inr rfl) L M hs hL hk hc f (i + 1) (by omega) (by omega)
          · rw [if_neg hd, if_neg hd]
            rfl
    · have hi' : i = v.size := by omega
      subst hi'
      rw [if_neg hl, l3_stop _ t out pl p ai fr (fr + v.size) _ _ _ _ _ _ _ hc.stop, j4_end (k + 3 * f + 1) t out pl p ai fr (fr + v.size) _ _ _ _ _ L _ (by omega) (by omega) hL, show fr + v.size - fr = v.size by omega, show f = 0 by omega]
      by_cases h5 : v.size < L
      · rw [if_pos h5, if_pos h5]; rfl
      · rw [if_neg h5, if_neg h5]; rfl
theorem enR_enL (t : ByteArray) (kd : Int) (fr L M : Nat) (hL : 1 ≤ L) : enR t kd fr L M = enL (cutV t fr) kd fr L M ((cutV t fr).size + 1) 0 := by
  unfold enR
  by_cases h : (cutV t fr).size = 0
  · rw [if_pos h, h]
    simp only [enL]
    rw [if_neg (by omega), if_pos (by omega), h]
    rfl
  · rw [if_neg h]
end Go.Proofs.YtofagdjijpjlgaaDoor.X
set_option linter.unusedVariables false
set_option linter.unusedSimpArgs false
namespace Go.Proofs.YtofagdjijpjlgaaDoor.X
open Go.RowKit Go.Proofs.YtofagdjijpjlgaaDoorW.PrintWords Go.Proofs.YtofagdjijpjlgaaDoorW.PrintLast Go.Proofs.YtofagdjijpjlgaaDoor.PBase Go.Proofs.YtofagdjijpjlgaaDoor.PDays Go.Proofs.YtofagdjijpjlgaaDoor.PElem Go.Proofs.YtofagdjijpjlgaaDoor.PParses

/-- What was seen, out of the elements and their places. -/
def snZ : List S23 → List Int → Sn
  | x :: l, p :: ps => (x.f0.data.toList, p) :: snZ l ps
  | _, _ => []
theorem snZ_snoc (x : S23) (p : Int) : ∀ (l : List S23) (ps : List Int), l.length = ps.length → snZ (l ++ [x]) (ps ++ [p]) = snZ l ps ++ [(x.f0.data.toList, p)]
  | [], [], _ => rfl
  | [], _ :: _, h => by cases h
  | _ :: _, [], h => by cases h
  | y :: l, q :: ps, h => by
    simp only [List.cons_append, snZ]
    rw [snZ_snoc x p l ps (by simpa using h)]
theorem snZ_has (a : List UInt8) : ∀ (l : List S23) (ps : List Int), l.length = ps.length → snHas (snZ l ps) a = heldL l a
  | [], [], _ => rfl
  | [], _ :: _, h => by cases h
  | _ :: _, [], h => by cases h
  | y :: l, q :: ps, h => by
    have ih := snZ_has a l ps (by simpa using h)
    unfold snHas heldL at ih ⊢
    simp only [snZ, List.any_cons]
    rw [ih, ByteArray.toList_eq]
theorem putZ (L : List S23) (ps : List Int) (hl : L.length = ps.length) (hne : ∀ x ∈ L, x.f0.data.toList ≠ []) (a : List UInt8) : putE (snZ L ps) a = besE L a := by
  unfold putE besE
  rw [snZ_has _ L ps hl, snZ_has _ L ps hl]
  by_cases h : heldL L a = true
  · rw [if_pos h, if_pos h]
  · rw [if_neg h, if_neg h]
    unfold otherOf
    by_cases h1 : a = [48, 49]
    · rw [if_pos h1, if_pos h1]
    · rw [if_neg h1, if_neg h1]
      by_cases h2 : a = [48, 50]
      · rw [if_pos h2, if_pos h2]
      · rw [if_neg h2, if_neg h2, if_neg]
        unfold heldL
        intro z
        obtain ⟨x, hx, he⟩ := List.any_eq_true.1 z
        rw [beq_iff_eq, ByteArray.toList_eq] at he
        exact hne x hx he
theorem lonZ2 : ∀ (l : List S23) (ps : List Int) (i : Int), l.length = ps.length → heldL l [48, 50] = true → i ≤ lonL true false l i ∧ lonL true false l i < i + l.length ∧ snAt (snZ l ps) [48, 50] = ps.getD (lonL true false l i - i).toNat 0
  | [], _, i, _, h => by simp [heldL] at h
  | _ :: _, [], i, hl, h => by cases hl
  | y :: r, q :: ps, i, hl, h => by
    rw [lonL_cons, ByteArray.toList_eq]
    simp only [snZ, snAt, List.length_cons]
    by_cases e : y.f0.data.toList = [48, 50]
    · rw [if_pos e, if_pos ⟨e, trivial⟩, Int.sub_self]
      exact ⟨by omega, by omega, rfl⟩
    · rw [if_neg e, if_neg (fun z => e z.1), if_neg (by simp)]
      rw [heldL_cons, beq_eq_false_iff_ne.2 e, Bool.false_or] at h
      obtain ⟨h1, h2, h3⟩ := lonZ2 r ps (i + 1) (by simpa using hl) h
      refine ⟨by omega, by omega, ?_⟩
      rw [h3, show (lonL true false r (i + 1) - i).toNat = (lonL true false r (i + 1) - (i + 1)).toNat + 1 by omega, List.getD_cons_succ]
theorem lonZ7 : ∀ (l : List S23) (ps : List Int) (i : Int), l.length = ps.length → heldL l [51, 55] = true → heldL l [48, 50] = false → i ≤ lonL false true l i ∧ lonL false true l i < i + l.length ∧ snAt (snZ l ps) [51, 55] = ps.getD (lonL false true l i - i).toNat 0
  | [], _, i, _, h, _ => by simp [heldL] at h
  | _ :: _, [], i, hl, h, _ => by cases hl
  | y :: r, q :: ps, i, hl, h, h' => by
    rw [lonL_cons, ByteArray.toList_eq]
    simp only [snZ, snAt, List.length_cons]
    rw [heldL_cons] at h'
    rw [if_neg (by simp)]
    by_cases e : y.f0.data.toList = [51, 55]
    · rw [if_pos e, if_pos ⟨e, trivial⟩, Int.sub_self]
      exact ⟨by omega, by omega, rfl⟩
    · rw [if_neg e, if_neg (fun z => e z.1)]
      rw [heldL_cons, beq_eq_false_iff_ne.2 e, Bool.false_or] at h
      obtain ⟨h1, h2, h3⟩ := lonZ7 r ps (i + 1) (by simpa using hl) h (Bool.or_eq_false_iff.1 h').2
      refine ⟨by omega, by omega, ?_⟩
      rw [h3, show (lonL false true r (i + 1) - i).toNat = (lonL false true r (i + 1) - (i + 1)).toNat + 1 by omega, List.getD_cons_succ]
/-- The place of the element that stands alone. -/
theorem loneZ (l : List S23) (ps : List Int) (hl : l.length = ps.length) : (lonL (heldL l [48, 50]) (heldL l [51, 55]) l 0 = -1 ∧ loneOf (snZ l ps) = -1) ∨ (0 ≤ lonL (heldL l [48, 50]) (heldL l [51, 55]) l 0 ∧ lonL (heldL l [48, 50]) (heldL l [51, 55]) l 0 < l.length ∧ loneOf (snZ l ps) = ps.getD (lonL (heldL l [48, 50]) (heldL l [51, 55]) l 0).toNat 0) := by
  unfold loneOf
  rw [snZ_has _ l ps hl, snZ_has _ l ps hl]
  cases h1 : heldL l [48, 50] <;> cases h2 : heldL l [51, 55]
  · exact .inl ⟨lon_ff l 0 h1 h2, by rw [if_pos rfl]⟩
  · obtain ⟨g1, g2, g3⟩ := lonZ7 l ps 0 hl h2 h1
    refine .inr ⟨g1, by omega, ?_⟩
    rw [if_neg (by simp), if_neg (by simp), g3, Int.sub_zero]
  · obtain ⟨g1, g2, g3⟩ := lonZ2 l ps 0 hl h1
    refine .inr ⟨g1, by omega, ?_⟩
    rw [if_neg (by simp), if_pos rfl, g3, Int.sub_zero]
  · exact .inl ⟨lon_tt l 0, by rw [if_pos rfl]⟩
theorem l0_end (t : ByteArray) (out : List S23) (pl : List Int) (p k : Nat) (h : ¬ p < t.size) (ho : out.length ≤ 512) (hl : out.length = pl.length) (hp : ∀ q ∈ pl, (0 : Int) ≤ q) (hk : 600 ≤ k) :
    larderref02_Parse.l0 (k + 1) t out pl (p : Int) = some (tri (if 0 ≤ loneOf (snZ out pl) then .error (25, loneOf (snZ out pl)) else .ok out)) := by
  simp only [larderref02_Parse.l0]
  rw [if_neg (by omega), rlonely_f out (by omega) k (by omega), Option.bind_some]
  rcases loneZ out pl hl with ⟨h1, h2⟩ | ⟨h1, h2, h3⟩
  · rw [h1, h2, if_neg (by decide), if_neg (by decide)]
    rfl
  · generalize lonL (heldL out [48, 50]) (heldL out [51, 55]) out 0 = n at *
    have hn : n.toNat < pl.length := by omega
    have hq : (0 : Int) ≤ pl.getD n.toNat 0 := by
      rw [List.getD_eq_getElem?_getD, List.getElem?_eq_getElem hn]
      exact hp _ (List.getElem_mem hn)
    rw [if_pos (by omega), if_pos h1, if_pos (by omega), h3, if_pos hq]
    rfl
def tailF (t : ByteArray) (r : Row5) (v : ByteArray) (fr en : Nat) : Fl (Row5 × ByteArray × Nat) :=
  if wholeOf r.kind v = true then
    (if r.plain = false ∧ en < t.size then (if en + 1 = t.size then .error (4, (en : Int)) else .ok (r, v, en + 1)) else .ok (r, v, en))
  else if r.kind = 0 then .error (22, (en : Int) - 1) else .error (28, (fr : Int))
theorem elR_tail' (t : ByteArray) (p : Nat) (sn : Sn) (r : Row5) (v : ByteArray) (hrow : rowR t p = .ok r) (h : putE sn r.ai = 0) (hv : valR t r (p + r.ai.length) = .ok v) : elR t p sn = tailF t r v (p + r.ai.length) (p + r.ai.length + v.size) := by
  unfold elR; rw [hrow]; simp only; rw [if_pos h, hv]; rfl
def advF (x : Fl (Row5 × ByteArray × Nat)) : Nat := match x with
  | .error _ => 2000
  | .ok (_, _, p') => p'
theorem advF_tail (t : ByteArray) (r : Row5) (v : ByteArray) (fr en : Nat) (h : en ≤ 512) : en ≤ advF (tailF t r v fr en) := by
  unfold tailF
  by_cases h1 : wholeOf r.kind v = true
  · rw [if_pos h1]
    by_cases h2 : r.plain = false ∧ en < t.size
    · rw [if_pos h2]
      by_cases h3 : en + 1 = t.size
      · rw [if_pos h3]; show en ≤ 2000; omega
      · rw [if_neg h3]; show en ≤ en + 1; omega
    · rw [if_neg h2]; exact Nat.le_refl _
  · rw [if_neg h1]
    by_cases h2 : r.kind = 0
    · rw [if_pos h2]; show en ≤ 2000; omega
    · rw [if_neg h2]; show en ≤ 2000; omega
def matchF (x : Fl (Row5 × ByteArray × Nat)) (k : Nat) (t : ByteArray) (out : List S23) (pl : List Int) (p : Int) (y : RP) : Prop := match x with
  | .error (c, q) => y = some ([], c, q)
  | .ok (r, v, p') => y = larderref02_Parse.l0 k t (out ++ [⟨S r, v⟩]) (pl ++ [p]) (p' : Int)
theorem tail_match (k : Nat) (t : ByteArray) (out : List S23) (pl : List Int) (p : Int) (r : Row5) (v : ByteArray) (fr en : Nat) (hv : v = t.extract fr en) : matchF (tailF t r v fr en) k t out pl p (afterV k t out pl p (S r) fr en r.kind r.plain) := by
  unfold tailF afterV
  rw [← hv]
  by_cases h1 : wholeOf r.kind v = true
  · rw [if_pos h1, if_pos h1]
    by_cases h2 : r.plain = false ∧ en < t.size
    · rw [if_pos h2, if_pos h2]
      by_cases h3 : en + 1 = t.size
      · rw [if_pos h3, if_pos h3]; exact rfl
      · rw [if_neg h3, if_neg h3]; exact rfl
    · rw [if_neg h2, if_neg h2]; exact rfl
  · rw [if_neg h1, if_neg h1]
    by_cases h2 : r.kind = 0
    · rw [if_pos h2, if_pos h2]; exact rfl
    · rw [if_neg h2, if_neg h2]; exact rfl
/-- An element: both. -/
theorem elem_both (t : ByteArray) (out : List S23) (pl : List Int) (p : Nat) (hs : t.size ≤ 512) (hp : p < t.size) (ho : out.length ≤ 512) (hl : out.length = pl.length) (hne : ∀ x ∈ out, x.f0.data.toList ≠ []) (k : Nat) (hk : 4 * (t.size - p) + 1000 ≤ k) :
    ∃ k', k ≤ k' + 60 + 4 * (advF (elR t p (snZ out pl)) - p) ∧ matchF (elR t p (snZ out pl)) k' t out pl (p : Int) (larderref02_Parse.l0 k t out pl (p : Int)) := by
  obtain ⟨k1, rfl⟩ : ∃ m, k = m + 41 := ⟨k - 41, by omega⟩
  rw [l0_row t out pl p k1 hp]
  cases hrow : rowR t p with
  | error x =>
    rw [elR_row hrow]
    obtain ⟨c, q⟩ := x
    exact ⟨k1, by show _ ≤ k1 + 60 + 4 * (2000 - p); omega, rfl⟩
  | ok r =>
    obtain ⟨hr, hlen⟩ := rowR_ok hrow
    obtain ⟨m1, m2, m3, m4, m5⟩ := rows_most r hr
    have hlm := least_most r hr
    simp only
    unfold afterA
    rw [rbeside out (S r) (by omega) k1 (by omega), Option.bind_some, S_toList]
    have hpb := putZ out pl hl hne r.ai
    by_cases hb : besE out r.ai = 0
    · rw [if_pos hb]
      rw [hb] at hpb
      obtain ⟨k2, rfl⟩ : ∃ m, k1 = m + 9 := ⟨k1 - 9, by omega⟩
      rw [kind_some r hr (S r) (S_toList r) k2, Option.bind_some]
      have hsz : (S r).size = r.ai.length := by simp [S, ByteArray.size]
      obtain ⟨fr, hfr⟩ : ∃ fr, p + r.ai.length = fr := ⟨_, rfl⟩
      have hw : wrap64 ((p : Int) + ((S r).size : Int)) = (fr : Int) := wrapJ (a := (p : Int) + ((S r).size : Int)) (b := (fr : Int)) (by rw [hsz]; omega) (by omega) (by omega)
      simp only
      rw [hw]
      clear hw
      have hL : r.least = ((r.least.toNat : Nat) : Int) := by omega
      have hM : r.most = ((r.most.toNat : Nat) : Int) := by omega
      have hfl : fr ≤ t.size := by omega
      rcases kinds r hr with ⟨hpl, hkk⟩ | ⟨hpl, hkk⟩
      · have hk3 : r.kind ≠ 3 := by rcases hkk with h | h | h <;> rw [h] <;> decide
        rw [if_pos hpl]
        obtain ⟨K, hK⟩ : ∃ K, k2 + 9 = (K + 4) + (r.least.toNat + 1) := ⟨k2 + 9 - 4 - (r.least.toNat + 1), by omega⟩
        rw [hK]
        have hrun := l2_run (K + 4) t out pl (p : Int) (S r) fr r.plain (decide (r.kind ≠ 3)) (decide (r.kind = 0)) (decide (r.kind = 1)) (amountAi r.ai) r.kind hk3 r.least.toNat r.most hs (by omega) (by omega) (r.least.toNat + 1) 0 (by omega) (by omega)
        simp only [Nat.add_zero] at hrun
        rw [← hL] at hrun
        rw [hrun]
        have hvr : valR t r (p + r.ai.length) = plL t r.kind fr r.least.toNat (r.least.toNat + 1) 0 := by unfold valR; rw [if_pos hpl, hfr]
        cases hv : plL t r.kind fr r.least.toNat (r.least.toNat + 1) 0 with
        | error x =>
          rw [elR_val hrow hpb (hvr.trans hv)]
          obtain ⟨c, q⟩ := x
          exact ⟨K, by show _ ≤ K + 60 + 4 * (2000 - p); omega, rfl⟩
        | ok v =>
          obtain ⟨g1, g2, g3, g4⟩ := plain_val hr hv
          have hT := elR_tail' t p (snZ out pl) r v hrow hpb (hvr.trans hv)
          rw [hfr, g3] at hT
          simp only [resV]
          rw [j6_is K t out pl (p : Int) r (S r) fr (fr + r.least.toNat) _ _ _ _ hs ho (by omega) (by omega) g2 (by omega) (fun h0 => by
              have h := whole_code hr h0 hv
              rw [← g1]
              unfold wholeOf
              rw [if_pos rfl, h]
              rfl) (fun h1 => by
              have h := whole_day hr h1 hv
              have h6 := day_rows r hr h1
              rw [← g1]
              have hw1 : wholeOf 1 v = isDayB (tw v 0) (tw v 2) (tw v 4) := by unfold wholeOf; rw [if_neg (by decide), if_pos rfl, h]; rfl
              rw [hw1]
              exact risDay v (by omega) (K + 2) (by omega))]
          have hm := tail_match K t out pl (p : Int) r v fr (fr + r.least.toNat) g1
          rw [← hT] at hm
          refine ⟨K, ?_, hm⟩
          have hadv := advF_tail t r v fr (fr + r.least.toNat) (by omega)
          rw [← hT] at hadv
          omega
      · rw [if_neg (by rw [hpl]; exact Bool.false_ne_true)]
        have hc := cut_of t fr hfl
        have hcz := hc.le
        obtain ⟨K, hK⟩ : ∃ K, k2 + 9 = (K + 3) + 3 * ((cutV t fr).size + 1) := ⟨k2 + 9 - 3 - 3 * ((cutV t fr).size + 1), by omega⟩
        rw [hK]
        have hrun := l3_run (K + 3) t out pl (p : Int) (S r) (cutV t fr) fr r.plain (decide (r.kind = 0)) (decide (r.kind = 1)) (amountAi r.ai) r.kind hkk r.least.toNat r.most.toNat hs (by omega) (by omega) hc ((cutV t fr).size + 1) 0 (by omega) (by omega)
        simp only [Nat.add_zero] at hrun
        rw [← hL, ← hM] at hrun
        rw [hrun]
        have hvr : valR t r (p + r.ai.length) = enL (cutV t fr) r.kind fr r.least.toNat r.most.toNat ((cutV t fr).size + 1) 0 := by
          unfold valR
          rw [if_neg (by rw [hpl]; exact Bool.false_ne_true), hfr]
          exact enR_enL t r.kind fr r.least.toNat r.most.toNat (by omega)
        cases hv : enL (cutV t fr) r.kind fr r.least.toNat r.most.toNat ((cutV t fr).size + 1) 0 with
        | error x =>
          rw [elR_val hrow hpb (hvr.trans hv)]
          obtain ⟨c, q⟩ := x
          exact ⟨K, by show _ ≤ K + 60 + 4 * (2000 - p); omega, rfl⟩
        | ok v =>
          have g1 := enL_ok _ _ _ _ _ _ _ _ hv
          have hT := elR_tail' t p (snZ out pl) r v hrow hpb (hvr.trans hv)
          rw [hfr, g1] at hT
          simp only [resV]
          rw [show K + 3 + 1 = K + 4 by omega, j6_is K t out pl (p : Int) r (S r) fr (fr + (cutV t fr).size) _ _ _ _ hs ho (by omega) (by omega) hcz (by omega) (fun h0 => by rcases hkk with h | h <;> rw [h] at h0 <;> exact absurd h0 (by decide)) (fun h0 => by rcases hkk with h | h <;> rw [h] at h0 <;> exact absurd h0 (by decide))]
          have hm := tail_match K t out pl (p : Int) r (cutV t fr) fr (fr + (cutV t fr).size) hc.ext
          rw [← hT] at hm
          refine ⟨K, ?_, hm⟩
          have hadv := advF_tail t r (cutV t fr) fr (fr + (cutV t fr).size) (by omega)
          rw [← hT] at hadv
          omega
    · rw [if_neg hb]
      rw [elR_put hrow (by rw [hpb]; exact hb), hpb]
      exact ⟨k1, by show _ ≤ k1 + 60 + 4 * (2000 - p); omega, rfl⟩
/-- Parse: both. -/
theorem parse_both (t : ByteArray) (hs : t.size ≤ 512) : ∀ (f p : Nat) (out : List S23) (pl : List Int), t.size < p + f → p ≤ t.size → out.length ≤ p → out.length = pl.length → (∀ x ∈ out, x.f0.data.toList ≠ []) → (∀ q ∈ pl, (0 : Int) ≤ q) →
    ∃ res : Fl (List S23), paL t f p (snZ out pl) out = some res ∧ (tri res).1.length ≤ t.size ∧ ∀ k, 100 * (t.size - p) + 2000 ≤ k → larderref02_Parse.l0 k t out pl (p : Int) = some (tri res)
  | 0, p, out, pl, h, hp, ho, hl, hne, hpl => by omega
  | f + 1, p, out, pl, h, hp, ho, hl, hne, hpl => by
    simp only [paL]
    by_cases hlt : p < t.size
    · rw [if_pos hlt]
      have hB := fun k hk => elem_both t out pl p hs hlt (by omega) hl hne k hk
      cases hel : elR t p (snZ out pl) with
      | error x =>
        obtain ⟨c, q⟩ := x
        refine ⟨.error (c, q), rfl, Nat.zero_le _, fun k hk => ?_⟩
        obtain ⟨k', _, hm⟩ := hB k (by omega)
        rw [hel] at hm
        exact hm
      | ok y =>
        obtain ⟨r, v, p'⟩ := y
        obtain ⟨hr, ha1, ha2⟩ := elR_adv (by omega) hel
        have hfst : (S r).data.toList = r.ai := rfl
        have hsn : putS (snZ out pl) r.ai (p : Int) = snZ (out ++ [⟨S r, v⟩]) (pl ++ [(p : Int)]) := by
          have e0 : putE (snZ out pl) r.ai = 0 := by
            rcases Classical.em (putE (snZ out pl) r.ai = 0) with e | e
            · exact e
            · exfalso
              have hrow : rowR t p = .ok r := by
                unfold elR at hel
                cases hrow : rowR t p with
                | error x => rw [hrow] at hel; cases hel
                | ok r' =>
                  rw [hrow] at hel
                  simp only at hel
                  split at hel
                  · split at hel
                    · cases hel
                    · split at hel
                      · split at hel
                        · split at hel <;> cases hel
                          rfl
                        · cases hel
                          rfl
                      · split at hel <;> cases hel
                  · cases hel
              rw [elR_put hrow e] at hel
              cases hel
          rw [snZ_snoc _ _ out pl hl]
          unfold putS
          rw [if_pos e0]
          rfl
        obtain ⟨res, r1, r2, r3⟩ := parse_both t hs f p' (out ++ [⟨S r, v⟩]) (pl ++ [(p : Int)]) (by omega) ha2 (by rw [List.length_append, List.length_singleton]; omega) (by rw [List.length_append, List.length_append, hl]; rfl)
          (fun x hx => by
            rcases List.mem_append.1 hx with hx | hx
            · exact hne x hx
            · rw [List.mem_singleton] at hx
              rw [hx]
              exact rows_ne r hr)
          (fun q hq => by
            rcases List.mem_append.1 hq with hq | hq
            · exact hpl q hq
            · rw [List.mem_singleton] at hq
              omega)
        refine ⟨res, ?_, r2, fun k hk => ?_⟩
        · simp only
          rw [hsn]
          exact r1
        · obtain ⟨k', hk', hm⟩ := hB k (by omega)
          rw [hel] at hm hk'
          have hk' : k ≤ k' + 60 + 4 * (p' - p) := hk'
          exact hm.trans (r3 k' (by omega))
    · rw [if_neg hlt]
      refine ⟨if 0 ≤ loneOf (snZ out pl) then .error (25, loneOf (snZ out pl)) else .ok out, ?_, ?_, fun k hk => ?_⟩
      · split <;> rfl
      · split
        · exact Nat.zero_le _
        · show out.length ≤ t.size
          omega
      · obtain ⟨k, rfl⟩ : ∃ m, k = m + 1 := ⟨k - 1, by omega⟩
        exact l0_end t out pl p k hlt (by omega) hl hpl (by omega)
theorem same_loop (l : List S23) (hl : l.length ≤ 90000) (e : Nat) : ∀ (k i : Nat), i + e = l.length → e < k → larderlaw02_same.l0 k l l (i : Int) = some true := by
  induction e with
  | zero =>
    intro k i h hk
    obtain ⟨k, rfl⟩ : ∃ m, k = m + 1 := ⟨k - 1, by omega⟩
    simp only [larderlaw02_same.l0]
    rw [if_neg (by omega)]
  | succ e ih =>
    intro k i h hk
    obtain ⟨k, rfl⟩ : ∃ m, k = m + 1 := ⟨k - 1, by omega⟩
    simp only [larderlaw02_same.l0]
    rw [if_pos (by omega), if_pos (by omega), if_pos (by omega), ws1 i (by omega), if_neg (by simp)]
    exact ih k (i + 1) (by omega) (by omega)
theorem same_self (l : List S23) (hl : l.length ≤ 90000) : larderlaw02_same.f 100000 l l = some true := by
  unfold larderlaw02_same.f
  rw [if_pos rfl]
  exact same_loop l hl l.length 100000 0 (by omega) (by omega)
/-- The law GtinParses. -/
theorem GtinParses_pure (a0 : ByteArray) : larderlaw02_GtinParses.f 100000 a0 = some true := by
  unfold larderlaw02_GtinParses.f gtin_ParseG.f larderref02_Parse.f
  by_cases h : 512 < a0.size
  · rw [if_pos h, if_pos (show (a0.size : Int) > 512 by omega)]
    simp only [Option.bind_some]
    rw [if_pos trivial, if_pos trivial, same_self [] (by simp)]
    rfl
  · rw [if_neg h, if_neg (show ¬ (a0.size : Int) > 512 by omega)]
    obtain ⟨res, h1, h2, h3⟩ := parse_both a0 (by omega) (a0.size + 1) 0 [] [] (by omega) (by omega) (by simp) rfl (by simp) (by simp)
    have g2 := h3 100000 (by omega)
    rw [Int.natCast_zero] at g2
    rw [show snZ [] [] = [] from rfl] at h1
    rw [h1, g2]
    simp only [Option.map_some, Option.bind_some]
    rw [if_pos trivial, if_pos trivial, same_self (tri res).1 (by omega)]
    rfl
end Go.Proofs.YtofagdjijpjlgaaDoor.X
