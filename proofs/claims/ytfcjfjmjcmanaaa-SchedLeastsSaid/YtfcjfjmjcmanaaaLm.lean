/- SchedLeasts: the law's walk, in the order that the row hands its facts over; a row of pairs that came in. -/
import Derived.Test.YtfcjfjmjcmanaaaLl
import Derived.Deep.SlicePairs
import Derived.SizedLaws
import Derived.ChangeShapes
set_option linter.unusedVariables false
namespace Go.Proofs.Ytfcjfjmjcmanaaa.X
open Go.Deep Go.ChangeShapes Go.RowKit Go.Proofs.YtfcjfjmjcmanaaaW.PrintWords Go.Proofs.YtfcjfjmjcmanaaaW.PrintLast Go.Proofs.YtfcjfjmjcmanaaaW.PrintMore
theorem schedLeasts_walk' (A0 : Option Addr) (c0 : Nat) (l : List Int) {W : World} (hr0 : Kd.C (Kd.int .i64) W A0 l.length l) (hc0 : l.length ≤ c0) (y0 : l.length * 8 ≤ 140737488351232) (zw : ∀ x ∈ l, (Lit.int .i64 x).wf = true)
    (A1 : Option Addr) (c1 : Nat) (ps : List (Int × Int)) (hr1 : Kd.C Kp W A1 ps.length ps) (hc1 : ps.length ≤ c1) (y1 : ps.length * 16 ≤ 140737488351232) :
    Calls Try.prog 7 #[.slice A0 l.length c0, .slice A1 ps.length c1] W fun e W' => e = .returned (.bool true) ∧ Below W.heap.size W W' :=
  schedLeasts_walk A0 c0 l A1 c1 ps hr0 hc0 hr1 hc1 (by omega) (by omega)
/-- A slice of pairs of numbers that came in, as one list. -/
theorem open_hpairs {H : Type} {enc : TypeId × Value → H} {W : World} {base : Nat} {spare : Nat → Bool} {held : Bool} {a : Option Addr} {len cap : Nat} {d : DataW H} {ps : List MemPlace} {ts : List TypeId} {ds : List (DataW H)} {j : Nat}
    (hsz : (DataW.weightsEach Try.prog ts ds).all (· ≤ reachBytes) = true) (ht : ts[j]? = some 56) (hd : ds[j]? = some d) (h : DataW.Trod enc Try.prog W base spare held 56 (.slice a len cap) d ps) :
    ∃ l : List (Int × Int), l.length = len ∧ len ≤ cap ∧ Kd.C Kp W a l.length l ∧ len * 16 ≤ 140737488351232 := by
  obtain ⟨fuel, hf⟩ := h
  have hu56 := Try.underlying56
  have hu58 := Try.underlying58
  have hu3 := Try.underlying3
  rcases open_slice_pairs hu56 hu58 (by kernel_rfl) rfl rfl (by kernel_rfl) (by kernel_rfl) hf with ⟨hcs, _⟩ | ⟨x, l, c, m, n, V0, V1, D0, D1, P0, P1, hcs, _, hl, hm, hmm, hx, hc⟩
  · simp [Value.cells] at hcs
    obtain ⟨rfl, rfl, rfl⟩ := hcs
    exact ⟨[], rfl, Nat.le_refl _, ⟨rfl, by simp, fun h => absurd h (by simp)⟩, by simp⟩
  · simp [Value.cells] at hcs
    obtain ⟨rfl, rfl, rfl⟩ := hcs
    obtain ⟨hx, _⟩ := Prod.mk.inj hx
    have hlm : len ≤ m := by rw [hmm]; split <;> omega
    have each : ∀ i, i < len → ∃ p : Int × Int, W.cell? (x.add (i * 2)) = some (.int .i64 p.1) ∧ W.cell? (x.add (i * 2 + 1)) = some (.int .i64 p.2) := by
      intro i hi
      obtain ⟨c0, c1, t0, t1⟩ := hc i (by omega)
      obtain ⟨s0, e0, _, _⟩ := DataW.trod_int hu3 t0
      obtain ⟨s1, e1, _, _⟩ := DataW.trod_int hu3 t1
      simp at e0 e1
      rw [e0] at c0
      rw [e1] at c1
      exact ⟨⟨s0, s1⟩, c0, c1⟩
    obtain ⟨f, hf2⟩ := Deep.choose_lt (p := fun i (p : Int × Int) => W.cell? (x.add (i * 2)) = some (.int .i64 p.1) ∧ W.cell? (x.add (i * 2 + 1)) = some (.int .i64 p.2)) each
    have hw : len * 16 ≤ 140737488351232 := by
      subst hx
      have z := sized_slice hsz ht hd hu56
      have hB : Try.prog.bytesOf 58 = 16 := by kernel_rfl
      rw [hB] at z
      simp at z
      have : len * 16 ≤ (len + (m - len)) * 16 := Nat.mul_le_mul_right _ (by omega)
      exact Nat.le_trans this z
    refine ⟨(List.range len).map f, by simp, hl, ⟨by simp, by simp; unfold maxLen at hm; omega, fun _ => ⟨x, rfl, fun i p hp => ?_⟩⟩, hw⟩
    have hi : i < len := by
      rcases Nat.lt_or_ge i len with h | h
      · exact h
      · rw [List.getElem?_eq_none (by simpa using h)] at hp; cases hp
    rw [List.getElem?_map, List.getElem?_range hi] at hp
    obtain rfl : f i = p := by simpa using hp
    obtain ⟨c0, c1⟩ := hf2 i hi
    refine ⟨[.int .i64 (f i).1, .int .i64 (f i).2], rfl, ⟨[.int .i64 (f i).1], [.int .i64 (f i).2], rfl, rfl, rfl⟩, fun q u hu => ?_⟩
    match q, hu with
    | 0, hu => simp at hu; subst hu; exact c0
    | 1, hu => simp at hu; subst hu; exact c1
end Go.Proofs.Ytfcjfjmjcmanaaa.X
