/- SchedWaits: the plain law: how long one that is ready waits; a script that came in. -/
import Derived.Test.YtfcjfjmjcmanaaaBm
import Derived.Deep.SlicePairs
import Derived.Deep.Strs
import Derived.SizedLaws
import Derived.ChangeShapes
set_option linter.unusedVariables false
namespace Go.Proofs.Ytfcjfjmjcmanaaa.B
open Go Go.RowKit
structure WInv (B : Bd) (L : List Int) (n i e : Nat) : Prop where
  n : B.l.length = n
  hq : ∀ k, ∀ h ∈ B.q k, B.has h = true
  ln : ∀ k, (B.q k).length ≤ e
  ct : ∀ (j : Nat) (x : Hd), B.l[j]? = some x → 0 ≤ x.2.2 ∧ x.2.2 ≤ (i : Int) ∧ ∀ t : Nat, (i : Int) - x.2.2 ≤ (t : Int) → t < i → L.getD t 0 ≠ (j : Int)
variable {B : Bd} {L : List Int} {n i e : Nat}
theorem winv_new (h : Int) (L : List Int) : WInv (Bd.new h) L h.toNat 0 0 := by
  refine ⟨by simp [Bd.new], fun k x hx => by simp [Bd.new] at hx, fun k => by simp [Bd.new], fun j x hx => ?_⟩
  unfold Bd.new at hx
  rw [List.getElem?_replicate] at hx
  split at hx
  · cases hx; exact ⟨Int.le_refl _, Int.le_refl _, fun t _ ht => by omega⟩
  · cases hx
theorem has_of_len {B B' : Bd} (h : B'.l.length = B.l.length) (x : Int) : B'.has x = B.has x := by unfold Bd.has; rw [h]
theorem WInv.set (I : WInv B L n i e) (j : Nat) (s o : Int) {e' : Nat} (q : Int → List Int) (hq : ∀ k, ∀ h ∈ q k, B.has h = true) (hl : ∀ k, (q k).length ≤ e') : WInv ⟨B.l.set j (s, o, 0), q⟩ L n i e' := by
  refine ⟨by simp [I.n], fun k h hh => by rw [has_of_len (B := B) (by simp)]; exact hq k h hh, hl, fun a x hx => ?_⟩
  by_cases ea : j = a
  · subst ea
    have hj := (List.getElem?_eq_some_iff.1 hx).1
    simp only [List.length_set] at hj
    rw [List.getElem?_set_self hj] at hx
    cases hx
    exact ⟨Int.le_refl _, by simp only; omega, fun t h1 h2 => by simp only at h1; omega⟩
  · rw [List.getElem?_set_ne ea] at hx
    exact I.ct a x hx
theorem WInv.start (I : WInv B L n i e) (h : Int) : WInv (B.start h).1 L n i e := by
  unfold Bd.start
  split
  · exact I
  · split
    · exact I.set h.toNat 1 0 B.q I.hq I.ln
    · exact I
theorem WInv.finish (I : WInv B L n i e) (h : Int) : WInv (B.finish h).1 L n i e := by
  unfold Bd.finish
  split
  · exact I.set h.toNat 0 0 B.q I.hq I.ln
  · exact I
theorem rdy_has {h : Int} (hr : B.rdy h = 0) : B.has h = true := by
  cases hh : B.has h with
  | true => rfl
  | false => unfold Bd.rdy at hr; rw [if_pos hh] at hr; cases hr
theorem WInv.block (I : WInv B L n i e) (h on : Int) : WInv (B.block h on).1 L n i (e + 1) := by
  unfold Bd.block
  split
  · rename_i hr
    have hh := rdy_has hr
    refine I.set h.toNat 2 on _ (fun k x hx => ?_) (fun k => ?_)
    · unfold upd at hx
      split at hx
      · rcases List.mem_append.1 hx with hx | hx
        · exact I.hq on x hx
        · simp at hx; rw [hx]; exact hh
      · exact I.hq k x hx
    · unfold upd
      split
      · have := I.ln on; simp; exact this
      · have := I.ln k; omega
  · exact ⟨I.n, I.hq, fun k => by have := I.ln k; simp only; omega, I.ct⟩
theorem WInv.wks (q : Int → List Int) : ∀ (A : List Int) {B : Bd}, WInv B L n i e → (∀ k, ∀ h ∈ q k, B.has h = true) → (∀ k, (q k).length ≤ e) → WInv ⟨wakes A B.l, q⟩ L n i e
  | [], B, I, h1, h2 => ⟨I.n, h1, h2, I.ct⟩
  | a :: A, B, I, h1, h2 => by
    have I2 := I.set a.toNat 1 0 q h1 h2
    exact WInv.wks q A I2 (fun k h hh => by rw [has_of_len (B := B) (by simp)]; exact h1 k h hh) h2
theorem WInv.wake (I : WInv B L n i e) (on : Int) : WInv (B.wake on) L n i e := by
  refine WInv.wks (upd B.q on []) (B.q on) I (fun k h hh => ?_) (fun k => ?_)
  · unfold upd at hh
    split at hh
    · cases hh
    · exact I.hq k h hh
  · unfold upd
    split
    · simp
    · exact I.ln k
theorem WInv.first (I : WInv B L n i e) (on : Int) : WInv (B.first on).1 L n i e := by
  unfold Bd.first
  have hq := I.hq on
  have hl := I.ln on
  cases hc : B.q on with
  | nil => exact I
  | cons h t =>
    rw [hc] at hq hl
    refine I.set h.toNat 1 0 _ (fun k x hx => ?_) (fun k => ?_)
    · unfold upd at hx
      split at hx
      · exact hq x (by simp [hx])
      · exact I.hq k x hx
    · unfold upd
      split
      · simp at hl; omega
      · exact I.ln k
theorem pickAt_id (n : Nat) (d : Int) (h0 : 0 ≤ d) (h1 : d < n) : pickAt n d = d := by
  unfold pickAt
  rw [Int.tmod_eq_emod_of_nonneg h0, Int.emod_eq_of_lt h0 h1, Int.tmod_eq_emod_of_nonneg (by omega), Int.add_emod_right, Int.emod_eq_of_lt h0 h1]
theorem WInv.pick (I : WInv B L n i e) (d : Int) (h0 : 0 ≤ d) (h1 : d < n) (hd : L.getD i 0 = d) (hi : i ≤ 65536) : WInv (B.pick d).1 L n (i + 1) e := by
  unfold Bd.pick
  rw [I.n, pickAt_id n d h0 h1]
  simp only
  refine ⟨by simp [I.n], fun k h hh => by rw [has_of_len (B := B) (by simp)]; exact I.hq k h hh, I.ln, fun a x hx => ?_⟩
  by_cases ea : d.toNat = a
  · subst ea
    have hj := (List.getElem?_eq_some_iff.1 hx).1
    simp only [List.length_set] at hj
    rw [List.getElem?_set_self hj] at hx
    cases hx
    exact ⟨Int.le_refl _, by simp only; omega, fun t h1 h2 => by simp only at h1; omega⟩
  · rw [List.getElem?_set_ne ea, List.getElem?_map] at hx
    obtain ⟨y, hy, rfl⟩ := Option.map_eq_some_iff.1 hx
    obtain ⟨c1, c2, c3⟩ := I.ct a y hy
    have hda : d ≠ (a : Int) := by omega
    unfold bump
    split
    · have hw : wrap64 (y.2.2 + 1) = y.2.2 + 1 := X.hwrId (by omega) (by omega)
      simp only [hw]
      refine ⟨by omega, by omega, fun t t1 t2 => ?_⟩
      by_cases et : t = i
      · rw [et, hd]; exact hda
      · exact c3 t (by omega) (by omega)
    · refine ⟨c1, by omega, fun t t1 t2 => ?_⟩
      by_cases et : t = i
      · rw [et, hd]; exact hda
      · exact c3 t (by omega) (by omega)
theorem longK_cases (l : List Hd) : ∀ k, k ≤ l.length → (longK l k = (-1, 0) ∧ rdyK l k = []) ∨ ∃ (j : Nat) (x : Hd), l[j]? = some x ∧ longK l k = ((j : Int), x.2.2) ∧ rdyK l k ≠ []
  | 0, _ => .inl ⟨rfl, rfl⟩
  | k + 1, hk => by
    have hx : l[k]? = some l[k] := List.getElem?_eq_getElem (by omega)
    have hg : l.getD k (0, 0, 0) = l[k] := by rw [List.getD_eq_getElem?_getD, hx]; rfl
    rw [longK, rdyK, hg]
    generalize l[k] = y at hx
    by_cases hs : y.1 = 1
    · rw [if_pos hs]
      rcases longK_cases l k (by omega) with ⟨e1, e2⟩ | ⟨j, x, e1, e2, e3⟩
      · rw [e1, if_pos ⟨hs, .inl (by decide)⟩]
        exact .inr ⟨k, y, hx, rfl, by simp⟩
      · split
        · exact .inr ⟨k, y, hx, rfl, by simp⟩
        · exact .inr ⟨j, x, e1, e2, by simp⟩
    · rw [if_neg (fun h => hs h.1), if_neg hs]
      exact longK_cases l k (by omega)
theorem WInv.law (I : WInv B L n i e) (k : Int) (hk : 1 ≤ k) (hL : i ≤ L.length) (hw : ∀ i : Nat, i < L.length → k ≤ (i : Int) + 1 → ∀ g : Nat, g < n → ∃ j : Nat, ((i : Int) + 1 - k).toNat ≤ j ∧ j < i + 1 ∧ L.getD j 0 = (g : Int)) :
    B.longest.2 < k ∧ 0 ≤ B.longest.2 ∧ decide (B.longest.1 < 0) = ((B.ready.length : Int) == 0) := by
  unfold Bd.longest Bd.ready
  rcases longK_cases B.l B.l.length (Nat.le_refl _) with ⟨e1, e2⟩ | ⟨j, x, e1, e2, e3⟩
  · rw [e1, e2]
    exact ⟨by omega, Int.le_refl _, rfl⟩
  · obtain ⟨c1, c2, c3⟩ := I.ct j x e1
    have hj : j < n := by rw [← I.n]; exact (List.getElem?_eq_some_iff.1 e1).1
    rw [e2]
    refine ⟨?_, c1, ?_⟩
    · simp only
      by_cases hlt : x.2.2 < k
      · exact hlt
      · exfalso
        obtain ⟨t, t1, t2, t3⟩ := hw (i - 1) (by omega) (by omega) j hj
        exact c3 t (by omega) (by omega) t3
    · have h1 : decide (((j : Int)) < 0) = false := decide_eq_false (by omega)
      have h2 : ((rdyK B.l B.l.length).length : Int) ≠ 0 := by
        intro h
        exact e3 (List.length_eq_zero_iff.1 (by omega))
      simp only
      rw [h1, beq_eq_false_iff_ne.2 h2]
/-! ### a script -/
abbrev Op3 := Int × Int × Int
def OpsAt (W : World) (A : Option Addr) (l : List Op3) : Prop := ∀ (i : Nat) (x : Op3), l[i]? = some x → ∃ ad, A = some ad ∧ W.cell? (ad.add (i * 3)) = some (.int .i64 x.1) ∧ W.cell? (ad.add (i * 3 + 1)) = some (.int .i64 x.2.1) ∧ W.cell? (ad.add (i * 3 + 2)) = some (.int .i64 x.2.2)
theorem OpsAt.below {W W' : World} {A : Option Addr} {l : List Op3} (h : OpsAt W A l) (hb : Below W.heap.size W W') : OpsAt W' A l := fun i x hx => by
  obtain ⟨ad, e, h1, h2, h3⟩ := h i x hx
  have c : ∀ {a : Addr} {v : Value}, W.cell? a = some v → W'.cell? a = some v := fun hc => (hb.cell (World.block_lt_of_cell? W _ hc)).trans hc
  exact ⟨ad, e, c h1, c h2, c h3⟩
set_option maxRecDepth 100000 in
open Go.Deep Go.ChangeShapes in
theorem open_ops {H : Type} {enc : TypeId × Value → H} {W : World} {base : Nat} {spare : Nat → Bool} {held : Bool} {a : Option Addr} {len cap : Nat} {d : DataW H} {ps : List MemPlace} {ts : List TypeId} {ds : List (DataW H)} {j : Nat}
    (hsz : (DataW.weightsEach Try.prog ts ds).all (· ≤ reachBytes) = true) (ht : ts[j]? = some 72) (hd : ds[j]? = some d) (h : DataW.Trod enc Try.prog W base spare held 72 (.slice a len cap) d ps) :
    ∃ l : List Op3, l.length = len ∧ len ≤ cap ∧ (OpsAt W a l ∧ ∀ x ∈ l, (Lit.int .i64 x.2.2).wf = true) ∧ len * 24 ≤ 140737488351232 := by
  obtain ⟨fuel, hf⟩ := h
  have hu72 := Try.underlying72
  have hu78 := Try.underlying78
  have hu3 := Try.underlying3
  have ce : Try.prog.cellsOf 78 = 3 := by kernel_rfl
  have c3 : Try.prog.cellsOf 3 = 1 := by kernel_rfl
  rcases open_slice hu72 hf with ⟨hcs, _⟩ | ⟨x, l, c, m, n, D, Pl, hcs, _, hl, hm, hmm, hx, hc⟩
  · simp [Value.cells] at hcs
    obtain ⟨rfl, rfl, rfl⟩ := hcs
    exact ⟨[], rfl, Nat.le_refl _, ⟨fun i x h => by simp at h, by simp⟩, by simp⟩
  · simp [Value.cells] at hcs
    obtain ⟨rfl, rfl, rfl⟩ := hcs
    obtain ⟨hx, _⟩ := Prod.mk.inj hx
    have hlm : len ≤ m := by rw [hmm]; split <;> omega
    have each : ∀ i, i < len → ∃ q : Op3, W.cell? (x.add (i * 3)) = some (.int .i64 q.1) ∧ W.cell? (x.add (i * 3 + 1)) = some (.int .i64 q.2.1) ∧ W.cell? (x.add (i * 3 + 2)) = some (.int .i64 q.2.2) ∧ (Lit.int .i64 q.2.2).wf = true := by
      intro i hi
      obtain ⟨cs', h1, h2⟩ := hc i (by omega)
      rw [ce] at h1
      obtain ⟨_, hlen, hcell⟩ := World.cells?_some h1
      obtain ⟨y0, y1, y2, k, _, _, g0, g1, g2⟩ := trod_struct3 hu78 h2
      match cs', hlen with
      | [v0, v1, v2], _ =>
        simp [c3] at g0 g1 g2
        obtain ⟨s0, q0, _, _⟩ := DataW.trod_int hu3 g0
        obtain ⟨s1, q1, _, _⟩ := DataW.trod_int hu3 g1
        obtain ⟨s2, q2, _, w2⟩ := DataW.trod_int hu3 g2
        simp at q0 q1 q2
        have r0 := hcell 0 (by omega)
        have r1 := hcell 1 (by omega)
        have r2 := hcell 2 (by omega)
        rw [add_add] at r0 r1 r2
        exact ⟨(s0, s1, s2), by simpa [q0] using r0, by simpa [q1] using r1, by simpa [q2] using r2, w2⟩
    obtain ⟨f, hf2⟩ := choose_lt (p := fun i (q : Op3) => W.cell? (x.add (i * 3)) = some (.int .i64 q.1) ∧ W.cell? (x.add (i * 3 + 1)) = some (.int .i64 q.2.1) ∧ W.cell? (x.add (i * 3 + 2)) = some (.int .i64 q.2.2) ∧ (Lit.int .i64 q.2.2).wf = true) each
    have hw : len * 24 ≤ 140737488351232 := by
      subst hx
      have z := sized_slice hsz ht hd hu72
      have hB : Try.prog.bytesOf 78 = 24 := by kernel_rfl
      rw [hB] at z
      simp at z
      have : len * 24 ≤ (len + (m - len)) * 24 := Nat.mul_le_mul_right _ (by omega)
      exact Nat.le_trans this z
    refine ⟨(List.range len).map f, by simp, hl, ⟨fun i p hp => ?_, fun y hy => ?_⟩, hw⟩
    · have hi : i < len := by
        rcases Nat.lt_or_ge i len with h | h
        · exact h
        · rw [List.getElem?_eq_none (by simpa using h)] at hp; cases hp
      rw [List.getElem?_map, List.getElem?_range hi] at hp
      obtain rfl : f i = p := by simpa using hp
      exact ⟨x, rfl, (hf2 i hi).1, (hf2 i hi).2.1, (hf2 i hi).2.2.1⟩
    · obtain ⟨i, hi, rfl⟩ := List.mem_map.1 hy
      exact (hf2 i (List.mem_range.1 hi)).2.2.2
end Go.Proofs.Ytfcjfjmjcmanaaa.B
