/- GtinFinds: Find answers as the document says, of every list and every Ai; what is handed in stays: the plain part, and the walk of the law. -/
import Derived.Test.YtofagdjijpjlgaaXf
import Derived.Test.YtofagdjijpjlgaaXs
import Derived.Deep.SlicePairs
import Derived.SizedLaws
import Derived.ChangeShapes
set_option linter.unusedVariables false
namespace Go.Proofs.Ytofagdjijpjlgaa.X
open Go.RowKit Go.Deep Go.ChangeShapes Go.Proofs.YtofagdjijpjlgaaW.PrintWords Go.Proofs.YtofagdjijpjlgaaW.PrintLast Go.Proofs.YtofagdjijpjlgaaW.PrintMore Go.Proofs.Ytofagdjijpjlgaa.PGtinFinds

theorem find_same (a1 : ByteArray) (l : List S46) : ∀ (k i : Nat), l.length ≤ 4398046510976 → i ≤ l.length → l.length - i < k → ∃ r, gtin_Find.l0 k a1 l l.length i = some r ∧ larderref02_Find.l0 k l a1 i = some r := by
  intro k
  induction k with
  | zero => intro i _ _ h; omega
  | succ k ih =>
    intro i hz hi hk
    simp only [gtin_Find.l0, larderref02_Find.l0]
    by_cases h : (i : Int) < l.length
    · have h0 : (0 : Int) ≤ i := by omega
      simp only [if_pos h, if_pos h0]
      by_cases hq : ((rd_T46 l i).f0).toList = a1.toList
      · rw [if_pos hq, if_pos hq]; exact ⟨_, rfl, rfl⟩
      · rw [if_neg hq, if_neg hq, show wrap64 ((i : Int) + 1) = (i + 1 : Nat) from by rw [wrap_id (by omega) (by omega)]; omega]
        exact ih (i + 1) hz (by omega) (by omega)
    · rw [if_neg h, if_neg h]; exact ⟨_, rfl, rfl⟩
theorem same_self (l : List S46) : ∀ (k i : Nat), l.length ≤ 4398046510976 → i ≤ l.length → l.length - i < k → larderlaw02_same.l0 k l l i = some true := by
  intro k
  induction k with
  | zero => intro i _ _ h; omega
  | succ k ih =>
    intro i hz hi hk
    simp only [larderlaw02_same.l0]
    by_cases h : (i : Int) < l.length
    · rw [if_pos h, if_pos (by omega), if_pos h, if_neg (by simp), show wrap64 ((i : Int) + 1) = (i + 1 : Nat) from by rw [wrap_id (by omega) (by omega)]; omega]
      exact ih (i + 1) hz (by omega) (by omega)
    · rw [if_neg h]
theorem twin_self (l : List S46) (hz : l.length ≤ 4398046510976) : larderlaw02_twin.f l = some l := by
  unfold larderlaw02_twin.f
  rw [if_pos (by simp; omega)]
  simp only [Option.bind_some]
  rw [if_pos (by simp; omega), if_pos (by omega), if_pos (by simp; omega)]
  simp
theorem finds_all (A0 : Option Addr) (c0 : Nat) (l0 : List S46) {w : World} (hr0 : Kd.C k46 w A0 l0.length l0) (hc0 : l0.length ≤ c0) (hz : l0.length * 32 ≤ 140737488351232) (a1 : ByteArray) (h1 : a1.size ≤ 140737488351232) :
    Calls Try.prog 3 #[.slice A0 l0.length c0, .string a1] w fun e w' => e = .returned (.bool true) ∧ Below w.heap.size w w' := by
  have hz' : l0.length ≤ 4398046510976 := by omega
  obtain ⟨⟨v, ok⟩, e1, e2⟩ := find_same a1 l0 (l0.length + 1) 0 hz' (by omega) (by omega)
  exact finds_walk (l0.length + 1) A0 c0 l0 a1 v ok w hr0 hc0 hz' e1 e2 (by unfold larderlaw02_same.f; rw [if_pos rfl]; exact same_self l0 (l0.length + 1) 0 hz' (by omega) (by omega)) (twin_self l0 hz')
/-- A slice of pairs of texts that came in, as one list. -/
theorem open_elements {H : Type} {enc : TypeId × Value → H} {W : World} {base : Nat} {spare : Nat → Bool} {held : Bool} {a : Option Addr} {len cap : Nat} {d : DataW H} {ps : List MemPlace} {ts : List TypeId} {ds : List (DataW H)} {j : Nat}
    (hsz : (DataW.weightsEach Try.prog ts ds).all (· ≤ reachBytes) = true) (ht : ts[j]? = some 22) (hd : ds[j]? = some d) (h : DataW.Trod enc Try.prog W base spare held 22 (.slice a len cap) d ps) :
    ∃ l : List S46, l.length = len ∧ len ≤ cap ∧ Kd.C k46 W a l.length l ∧ len * 32 ≤ 140737488351232 := by
  obtain ⟨fuel, hf⟩ := h
  have hu22 := Try.underlying22
  have hu46 := Try.underlying46
  have hu9 := Try.underlying9
  rcases open_slice_pairs hu22 hu46 (by kernel_rfl) rfl rfl (by kernel_rfl) (by kernel_rfl) hf with ⟨hcs, _⟩ | ⟨x, l, c, m, n, V0, V1, D0, D1, P0, P1, hcs, _, hl, hm, hmm, hx, hc⟩
  · simp [Value.cells] at hcs
    obtain ⟨rfl, rfl, rfl⟩ := hcs
    exact ⟨[], rfl, Nat.le_refl _, ⟨rfl, by simp, fun h => absurd h (by simp)⟩, by simp⟩
  · simp [Value.cells] at hcs
    obtain ⟨rfl, rfl, rfl⟩ := hcs
    obtain ⟨hx, _⟩ := Prod.mk.inj hx
    have hlm : len ≤ m := by rw [hmm]; split <;> omega
    have each : ∀ i, i < len → ∃ p : S46, W.cell? (x.add (i * 2)) = some (.string p.f0) ∧ W.cell? (x.add (i * 2 + 1)) = some (.string p.f1) := by
      intro i hi
      obtain ⟨c0, c1, t0, t1⟩ := hc i (by omega)
      obtain ⟨s0, e0, _, _⟩ := DataW.trod_string hu9 t0
      obtain ⟨s1, e1, _, _⟩ := DataW.trod_string hu9 t1
      simp at e0 e1
      rw [e0] at c0
      rw [e1] at c1
      exact ⟨⟨s0, s1⟩, c0, c1⟩
    haveI : Inhabited S46 := ⟨z46⟩
    obtain ⟨f, hf2⟩ := Deep.choose_lt (p := fun i (p : S46) => W.cell? (x.add (i * 2)) = some (.string p.f0) ∧ W.cell? (x.add (i * 2 + 1)) = some (.string p.f1)) each
    have hw : len * 32 ≤ 140737488351232 := by
      subst hx
      have z := sized_slice hsz ht hd hu22
      have hB : Try.prog.bytesOf 46 = 32 := by kernel_rfl
      rw [hB] at z
      simp at z
      have : len * 32 ≤ (len + (m - len)) * 32 := Nat.mul_le_mul_right _ (by omega)
      exact Nat.le_trans this z
    refine ⟨(List.range len).map f, by simp, hl, ⟨by simp, by simp; unfold maxLen at hm; omega, fun _ => ⟨x, rfl, fun i p hp => ?_⟩⟩, hw⟩
    have hi : i < len := by
      rcases Nat.lt_or_ge i len with h | h
      · exact h
      · rw [List.getElem?_eq_none (by simpa using h)] at hp; cases hp
    rw [List.getElem?_map, List.getElem?_range hi] at hp
    obtain rfl : f i = p := by simpa using hp
    obtain ⟨c0, c1⟩ := hf2 i hi
    refine ⟨[.string (f i).f0, .string (f i).f1], rfl, k46_mk W (f i), fun q u hu => ?_⟩
    match q, hu with
    | 0, hu => simp at hu; subst hu; exact c0
    | 1, hu => simp at hu; subst hu; exact c1
end Go.Proofs.Ytofagdjijpjlgaa.X
