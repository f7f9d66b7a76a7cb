/- gtin: put and lone, whole. -/
import Derived.Test.YtofagdjijpjlgaaDoorZbq
set_option linter.unusedVariables false
set_option linter.unusedSimpArgs false
namespace Go.Proofs.YtofagdjijpjlgaaDoor.X
open Go Go.RowKit Go.Proofs.YtofagdjijpjlgaaDoorW.PrintWords Go.Proofs.YtofagdjijpjlgaaDoorW.PrintLast Go.Proofs.YtofagdjijpjlgaaDoorW.PrintMore
def otherOf (k : List UInt8) : List UInt8 := if k = [48, 49] then [48, 50] else if k = [48, 50] then [48, 49] else []
def putE (sn : Sn) (k : List UInt8) : Int := if snHas sn k = true then 24 else if snHas sn (otherOf k) = true then 25 else 0
def putS (sn : Sn) (k : List UInt8) (p : Int) : Sn := if putE sn k = 0 then sn ++ [(k, p)] else sn
def loneOf (sn : Sn) : Int := if snHas sn [48, 50] = snHas sn [51, 55] then -1 else if snHas sn [48, 50] = true then snAt sn [48, 50] else snAt sn [51, 55]
variable {W W' : World} {m N : Nat}
set_option maxRecDepth 100000
set_option maxHeartbeats 4000000
theorem put_calls {sn : Sn} (h : SeenAt W m N sn) (hN : N < maxLen) (k : ByteArray) (hk : k.size ≤ maxLen) (p : Int) (hp : (Lit.int .i64 p).wf = true) :
    Calls Tryd.prog 47 #[.agg #[.map (some m)], .string k, .int .i64 p] W fun e W' => e = .returned (.int .i64 (putE sn k.data.toList)) ∧ SeenAt W' m (N + 1) (putS sn k.data.toList p) ∧ (∀ i, i < W.heap.size → i ≠ m → W'.heap[i]? = W.heap[i]?) ∧ W.heap.size ≤ W'.heap.size ∧ W'.os = W.os ∧ W'.tape = W.tape ∧ W'.output = W.output := by
  have h' := h.of_block (W' := W.alloc (.cells #[.map (some m)] 70)) (Below.heap_alloc _ _ _ h.lt)
  have l1 := h'.look hk
  by_cases hn : snHas sn k.data.toList = true
  · have e1 : putE sn k.data.toList = 24 := by unfold putE; rw [if_pos hn]
    have e2 : putS sn k.data.toList p = sn := by unfold putS; rw [e1]; rfl
    rw [e1, e2]
    rw [hn] at l1
    have HS := Aside0.mk (h'.mono (Nat.le_succ N))
    clear h h' e1 e2
    go_enter Tryd.func47, Tryd.ntmps47
    go_wp2
    go_ret
    exact ⟨rfl, HS.out, fun i hi hne => Below.heap_alloc _ _ _ hi, by simp, rfl, rfl, rfl⟩
  · have hn : snHas sn k.data.toList = false := by simpa using hn
    rw [hn] at l1
    obtain ⟨o, ho⟩ : ∃ o : ByteArray, o = ⟨(otherOf k.data.toList).toArray⟩ := ⟨_, rfl⟩
    have hoL : o.data.toList = otherOf k.data.toList := by rw [ho]
    have hok : o.size ≤ maxLen := by
      have : o.size = (otherOf k.data.toList).length := by rw [← hoL]; rfl
      rw [this]; unfold otherOf; split
      · decide
      · split <;> decide
    have l2 := h'.look hok
    rw [hoL] at l2
    have hcase : (k.toList == [48, 49]) = true ∧ o = ⟨#[48, 50]⟩ ∨ (k.toList == [48, 49]) = false ∧ (k.toList == [48, 50]) = true ∧ o = ⟨#[48, 49]⟩ ∨ (k.toList == [48, 49]) = false ∧ (k.toList == [48, 50]) = false ∧ o = ⟨#[]⟩ := by
      rw [ByteArray.toList_eq, ho]
      unfold otherOf
      by_cases c1 : k.data.toList = [48, 49]
      · refine .inl ⟨by simp [c1], ?_⟩; rw [if_pos c1]
      · by_cases c2 : k.data.toList = [48, 50]
        · refine .inr (.inl ⟨by simp [c1], by simp [c2], ?_⟩); rw [if_neg c1, if_pos c2]
        · refine .inr (.inr ⟨by simp [c1], by simp [c2], ?_⟩); rw [if_neg c1, if_neg c2]
    by_cases hh : snHas sn (otherOf k.data.toList) = true
    · have e1 : putE sn k.data.toList = 25 := by unfold putE; rw [if_neg (by rw [hn]; simp), if_pos hh]
      have e2 : putS sn k.data.toList p = sn := by unfold putS; rw [e1]; rfl
      rw [e1, e2]
      rw [hh] at l2
      have HS := Aside0.mk (h'.mono (Nat.le_succ N))
      clear h h' e1 e2 ho hoL hok
      rcases hcase with ⟨h1, rfl⟩ | ⟨h1, h2, rfl⟩ | ⟨h1, h2, rfl⟩
      all_goals
        go_enter Tryd.func47, Tryd.ntmps47
        go_wp2
        go_ret
        exact ⟨rfl, HS.out, fun i hi hne => Below.heap_alloc _ _ _ hi, by simp, rfl, rfl, rfl⟩
    · have hh : snHas sn (otherOf k.data.toList) = false := by simpa using hh
      have e1 : putE sn k.data.toList = 0 := by unfold putE; rw [if_neg (by rw [hn]; simp), if_neg (by rw [hh]; simp)]
      have e2 : putS sn k.data.toList p = sn ++ [(k.data.toList, p)] := by unfold putS; rw [e1]; rfl
      rw [e1, e2]
      rw [hh] at l2
      obtain ⟨W2, hr, h2s, hg⟩ := h'.store hN hk hn hp
      have HS := Aside0.mk h2s
      have HG := Aside0.mk hg
      have HM := Aside0.mk h.lt
      clear h h' h2s hg e1 e2 ho hoL hok
      rcases hcase with ⟨h1, rfl⟩ | ⟨h1, h2, rfl⟩ | ⟨h1, h2, rfl⟩
      all_goals
        go_enter Tryd.func47, Tryd.ntmps47
        go_wp2
        go_ret
        have g := HG.out
        have hz := g.size
        simp only [World.size_alloc] at hz
        exact ⟨rfl, HS.out, fun i hi hne => (g.block i (by simp; omega) (fun e => hne (by cases e; rfl))).trans (Below.heap_alloc _ _ _ hi), by omega, g.os, g.tape, g.output⟩
theorem lone_calls {sn : Sn} (h : SeenAt W m N sn) :
    Calls Tryd.prog 37 #[.agg #[.map (some m)]] W fun e W' => e = .returned (.int .i64 (loneOf sn)) ∧ Below W.heap.size W W' := by
  have h' := h.of_block (W' := W.alloc (.cells #[.map (some m)] 70)) (Below.heap_alloc _ _ _ h.lt)
  have l1 := h'.look (k := ⟨#[48, 50]⟩) (by decide)
  have l2 := h'.look (k := ⟨#[51, 55]⟩) (by decide)
  rw [show (⟨#[48, 50]⟩ : ByteArray).data.toList = [48, 50] from rfl] at l1
  rw [show (⟨#[51, 55]⟩ : ByteArray).data.toList = [51, 55] from rfl] at l2
  unfold loneOf
  generalize snAt sn [48, 50] = A at *
  generalize snAt sn [51, 55] = B at *
  generalize snHas sn [48, 50] = a at *
  generalize snHas sn [51, 55] = b at *
  clear h h'
  cases a <;> cases b
  all_goals
    go_enter Tryd.func37, Tryd.ntmps37
    go_wp2
    go_ret
    exact ⟨rfl, (Below.refl _ _).alloc (Nat.le_refl _) _⟩
end Go.Proofs.YtofagdjijpjlgaaDoor.X
