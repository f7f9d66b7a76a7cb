/- gtin: the Ais that were seen, in a map. -/
import Derived.Test.YtofagdjijpjlgaaDoorXu
import Derived.Maps.AppendAt
import Derived.Maps.OwnSet
import Derived.Maps.Views
import Derived.StringKeys
set_option linter.unusedVariables false
set_option linter.unusedSimpArgs false
namespace Go.Proofs.YtofagdjijpjlgaaDoor.X
open Go Go.RowKit Go.Proofs.YtofagdjijpjlgaaDoorW.PrintWords Go.Proofs.YtofagdjijpjlgaaDoorW.PrintLast
open Go.Maps (Keyed)
/-- The Ais, in the order in which they came, and where they stood. -/
abbrev Sn := List (List UInt8 × Int)
def snHas (sn : Sn) (k : List UInt8) : Bool := sn.any (fun x => x.1 == k)
def snAt : Sn → List UInt8 → Int
  | [], _ => 0
  | x :: r, k => if x.1 = k then x.2 else snAt r k
variable {sn : Sn} {k k' : List UInt8} {v : Int}
theorem snHas_snoc (sn : Sn) (k k' : List UInt8) (v : Int) : snHas (sn ++ [(k, v)]) k' = (snHas sn k' || (k == k')) := by
  unfold snHas
  rw [List.any_append]
  simp
theorem snAt_snoc (k k' : List UInt8) (v : Int) : ∀ (sn : Sn), snHas sn k = false → snAt (sn ++ [(k, v)]) k' = if k' = k then v else snAt sn k'
  | [], _ => by
    show (if k = k' then v else 0) = if k' = k then v else 0
    by_cases e : k = k'
    · rw [if_pos e, if_pos e.symm]
    · rw [if_neg e, if_neg (fun z => e z.symm)]
  | x :: r, h => by
    have h1 : ¬ x.1 = k := fun e => by simp [snHas, e] at h
    have h2 : snHas r k = false := by
      unfold snHas at h ⊢
      rw [List.any_cons] at h
      exact (Bool.or_eq_false_iff.1 h).2
    have ih := snAt_snoc k k' v r h2
    rw [List.cons_append, snAt, snAt, ih]
    by_cases e : x.1 = k'
    · rw [if_pos e, if_pos e, if_neg (fun z => h1 (e.trans z))]
    · rw [if_neg e, if_neg e]
/-- They lie in the map m. -/
def SeenAt (W : World) (m N : Nat) (sn : Sn) : Prop := ∃ D : DataW Unit, W.ownsMap Tryd.prog 9 (plainElem Tryd.prog 3) m N D ∧ ∀ k, Maps.has D (.string k) = snHas sn k ∧ D.atKey (.string k) (.lit (.int .i64 0)) = .lit (.int .i64 (snAt sn k))
theorem law9 : Keyed Tryd.prog 9 := Go.Maps.string_keyed Tryd.underlying9
theorem zero3 (w : World) : (zeroValue 3).run Tryd.prog w = .ok (.int .i64 0) w := by kernel_rfl
theorem key9 {s : ByteArray} (hs : s.size ≤ maxLen) : keyOf Tryd.prog 9 (.string s) = some (.string s.data.toList) := Go.WideMaps.keyOf_string_mk Tryd.underlying9 hs
variable {W W' : World} {m N : Nat}
theorem SeenAt.lt (h : SeenAt W m N sn) : m < W.heap.size := by obtain ⟨D, h1, _⟩ := h; exact h1.lt
theorem SeenAt.made (W : World) : SeenAt (W.alloc (.map #[] 0)) W.heap.size 0 [] := ⟨_, World.ownsMap_made W _ _ _, fun k => ⟨by simp [Maps.has, snHas], by simp [DataW.atKey, snAt]⟩⟩
theorem SeenAt.of_block (h : SeenAt W m N sn) (e : W'.heap[m]? = W.heap[m]?) : SeenAt W' m N sn := by
  obtain ⟨D, ⟨es, clock, hb, r⟩, h2⟩ := h
  exact ⟨D, ⟨es, clock, e.trans hb, r⟩, h2⟩
theorem SeenAt.mono {N' : Nat} (h : SeenAt W m N sn) (hN : N ≤ N') : SeenAt W m N' sn := by obtain ⟨D, h1, h2⟩ := h; exact ⟨D, h1.mono hN, h2⟩
theorem SeenAt.look (h : SeenAt W m N sn) {k : ByteArray} (hk : k.size ≤ maxLen) : (Instr.lookup 68 (.map (some m)) (.string k) true).run Tryd.prog W = .ok (.tuple #[.int .i64 (snAt sn k.data.toList), .bool (snHas sn k.data.toList)]) W := by
  obtain ⟨D, h1, h2⟩ := h
  obtain ⟨v, ps, hr, hv⟩ := h1.look_ok law9 Tryd.underlying68 (zero3 W) (plainElem_int (H := Unit) Tryd.underlying3 (by decide)) (key9 hk)
  obtain ⟨c, rfl, hc, _⟩ := plainElem_int_inv Tryd.underlying3 hv
  obtain ⟨g1, g2⟩ := h2 k.data.toList
  rw [g1] at hr
  rw [g2] at hc
  have hc := congrArg Prod.fst hc
  simp only [DataW.lit.injEq, Lit.int.injEq, true_and] at hc
  rw [hr, hc]
theorem SeenAt.store (h : SeenAt W m N sn) (hN : N < maxLen) {k : ByteArray} (hk : k.size ≤ maxLen) (hn : snHas sn k.data.toList = false) {v : Int} (hv : (Lit.int .i64 v).wf = true) :
    ∃ W', (Instr.mapUpdate 68 (.map (some m)) (.string k) (.int .i64 v)).run Tryd.prog W = .ok () W' ∧ SeenAt W' m (N + 1) (sn ++ [(k.data.toList, v)]) ∧ W.grownBy W' (some m) := by
  obtain ⟨D, h1, h2⟩ := h
  have hm : Go.Maps.IsMap D := by obtain ⟨es, clock, _, _, _, rfl⟩ := h1; exact ⟨_, rfl⟩
  obtain ⟨W', hr, ho, hg⟩ := h1.update law9 Tryd.underlying68 hN (key9 hk) (plainElem_int (H := Unit) Tryd.underlying3 hv)
  refine ⟨W', hr, ⟨_, ho, fun k' => ?_⟩, hg⟩
  rw [snHas_snoc, snAt_snoc _ _ _ _ hn]
  by_cases e : k' = k.data.toList
  · subst e
    rw [Maps.has_put_same hm (law9.key (key9 hk)), Maps.atKey_put_same hm (law9.key (key9 hk)), if_pos rfl]
    simp
  · have hne : (Lit.string k') ≠ .string k.data.toList := fun z => e (by cases z; rfl)
    rw [Maps.has_put_other hne, Maps.atKey_put_other hne, if_neg e, (h2 k').1, (h2 k').2]
    have : (k.data.toList == k') = false := beq_eq_false_iff_ne.2 (fun z => e z.symm)
    rw [this, Bool.or_false]
    exact ⟨rfl, rfl⟩
end Go.Proofs.YtofagdjijpjlgaaDoor.X
