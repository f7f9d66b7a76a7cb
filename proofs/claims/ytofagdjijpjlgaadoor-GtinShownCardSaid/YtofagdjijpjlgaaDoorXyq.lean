/- Plain facts: the table against the reference's kinds; Day and Amount against the reference's. -/
import Derived.Test.YtofagdjijpjlgaaDoorXu
import Derived.Test.YtofagdjijpjlgaaDoorXxq
set_option linter.unusedVariables false
set_option linter.unusedSimpArgs false
namespace Go.Proofs.YtofagdjijpjlgaaDoor.X
open Go.RowKit Go.Proofs.YtofagdjijpjlgaaDoorW.PrintWords Go.Proofs.YtofagdjijpjlgaaDoorW.PrintLast Go.Proofs.YtofagdjijpjlgaaDoor.PBase

theorem rowAt_mem (i : Nat) (h : i < 39) : rowAt i ∈ rws := by
  unfold rowAt
  rw [List.getD_eq_getElem?_getD, List.getElem?_eq_getElem (show i < rws.length from h)]
  exact List.getElem_mem _
theorem findFrom_spec (L : List UInt8) : ∀ (f i : Nat), 39 < i + f → (∀ j, j < i → (rowAt j).ai ≠ L) →
    (∃ r, r ∈ rws ∧ r.ai = L ∧ findFrom L f i = some r) ∨ ((∀ r ∈ rws, r.ai ≠ L) ∧ findFrom L f i = none)
  | 0, i, h, hn => .inr ⟨fun r hr => by
      obtain ⟨j, hj, rfl⟩ := List.getElem_of_mem hr
      have hj' : j < 39 := hj
      have := hn j (by omega)
      unfold rowAt at this
      rw [List.getD_eq_getElem?_getD, List.getElem?_eq_getElem hj] at this
      exact this, rfl⟩
  | f + 1, i, h, hn => by
    simp only [findFrom]
    by_cases h39 : i < 39
    · rw [if_pos h39]
      by_cases he : (rowAt i).ai = L
      · rw [if_pos he]; exact .inl ⟨_, rowAt_mem i h39, he, rfl⟩
      · rw [if_neg he]
        exact findFrom_spec L f (i + 1) (by omega) (fun j hj => by
          rcases Nat.lt_or_ge j i with h1 | h1
          · exact hn j h1
          · obtain rfl : j = i := by omega
            exact he)
    · rw [if_neg h39]
      refine .inr ⟨fun r hr => ?_, rfl⟩
      obtain ⟨j, hj, rfl⟩ := List.getElem_of_mem hr
      have hj' : j < 39 := hj
      have := hn j (by omega)
      unfold rowAt at this
      rw [List.getD_eq_getElem?_getD, List.getElem?_eq_getElem hj] at this
      exact this
theorem find_spec (a : ByteArray) : (∃ r, r ∈ rws ∧ r.ai = a.toList ∧ gtin_find.f a = some (S r, r.least, r.most, r.kind, r.plain, true)) ∨
    ((∀ r ∈ rws, r.ai ≠ a.toList) ∧ gtin_find.f a = some ((⟨#[]⟩ : ByteArray), 0, 0, 0, false, false)) := by
  rcases findFrom_spec a.toList 40 0 (by omega) (fun j hj => by omega) with ⟨r, h1, h2, h3⟩ | ⟨h1, h2⟩
  · exact .inl ⟨r, h1, h2, by unfold gtin_find.f; rw [h3]; rfl⟩
  · exact .inr ⟨h1, by unfold gtin_find.f; rw [h2]; rfl⟩
def amountAi (L : List UInt8) : Bool := decide (L.length = 4) && (decide (L.take 3 = [51, 49, 48]) || decide (L.take 3 = [51, 57, 50]))
set_option maxHeartbeats 4000000 in
theorem kind_some (r : Row5) (hr : r ∈ rws) (a : ByteArray) (ha : a.toList = r.ai) (k : Nat) :
    larderref02_kindOf.f (k + 9) a = some (r.plain, decide (r.kind ≠ 3), r.least, r.most, decide (r.kind = 0), decide (r.kind = 1), amountAi r.ai, true) := by
  simp only [rws, List.mem_cons, List.not_mem_nil, or_false] at hr
  rcases hr with rfl | rfl | rfl | rfl | rfl | rfl | rfl | rfl | rfl | rfl | rfl | rfl | rfl | rfl | rfl | rfl | rfl | rfl | rfl | rfl | rfl | rfl | rfl | rfl | rfl | rfl | rfl | rfl | rfl | rfl | rfl | rfl | rfl | rfl | rfl | rfl | rfl | rfl | rfl
  all_goals simp [larderref02_kindOf.f, larderref02_kindOf.j0, larderref02_kindOf.j1, larderref02_kindOf.j2, larderref02_kindOf.j3, larderref02_kindOf.j4, larderref02_kindOf.j5, larderref02_kindOf.j6, larderref02_kindOf.j7, ha, amountAi]
set_option maxHeartbeats 4000000 in
theorem kind_none (a : ByteArray) (ha : ∀ r ∈ rws, r.ai ≠ a.toList) (k : Nat) :
    larderref02_kindOf.f (k + 9) a = some (false, false, 0, 0, false, false, false, false) := by
  simp only [rws, List.mem_cons, List.not_mem_nil, or_false, forall_eq_or_imp, forall_eq] at ha
  obtain ⟨h0, h1, h2, h3, h4, h5, h6, h7, h8, h9, h10, h11, h12, h13, h14, h15, h16, h17, h18, h19, h20, h21, h22, h23, h24, h25, h26, h27, h28, h29, h30, h31, h32, h33, h34, h35, h36, h37, h38⟩ := ha
  simp [larderref02_kindOf.f, larderref02_kindOf.j0, larderref02_kindOf.j1, larderref02_kindOf.j2, larderref02_kindOf.j3, larderref02_kindOf.j4, larderref02_kindOf.j5, larderref02_kindOf.j6, larderref02_kindOf.j7, Ne.symm h0, Ne.symm h1, Ne.symm h2, Ne.symm h3, Ne.symm h4, Ne.symm h5, Ne.symm h6, Ne.symm h7, Ne.symm h8, Ne.symm h9, Ne.symm h10, Ne.symm h11, Ne.symm h12, Ne.symm h13, Ne.symm h14, Ne.symm h15, Ne.symm h16, Ne.symm h17, Ne.symm h18, Ne.symm h19, Ne.symm h20, Ne.symm h21, Ne.symm h22, Ne.symm h23, Ne.symm h24, Ne.symm h25, Ne.symm h26, Ne.symm h27, Ne.symm h28, Ne.symm h29, Ne.symm h30, Ne.symm h31, Ne.symm h32, Ne.symm h33, Ne.symm h34, Ne.symm h35, Ne.symm h36, Ne.symm h37, Ne.symm h38]
end Go.Proofs.YtofagdjijpjlgaaDoor.X
