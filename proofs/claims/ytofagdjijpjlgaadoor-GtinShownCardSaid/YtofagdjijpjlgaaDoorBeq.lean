/- gtin.shownValue, walked. -/
import Derived.Test.YtofagdjijpjlgaaDoorBcq
import Derived.Test.YtofagdjijpjlgaaDoorXxq
import Derived.Deep.RegionHeld3
set_option linter.unusedVariables false
set_option linter.unusedSimpArgs false
namespace Go.Proofs.YtofagdjijpjlgaaDoor.X
open Go Go.RowKit Go.Proofs.YtofagdjijpjlgaaDoorW.PrintWords Go.Proofs.YtofagdjijpjlgaaDoorW.PrintLast Go.Proofs.YtofagdjijpjlgaaDoorW.PrintMore Go.Proofs.YtofagdjijpjlgaaDoor.PBase
/-- The i-th byte. -/
def ub (t : ByteArray) (i : Nat) : UInt8 := t.data.toList.getD i 0
theorem bt_ub (t : ByteArray) (i : Nat) : bt t (i : Int) = ((ub t i).toNat : Int) := by
  rw [bs_rd, Int.toNat_natCast]
  unfold ub bytesOf
  rw [List.getD_eq_getElem?_getD, List.getD_eq_getElem?_getD, List.getElem?_map]
  cases t.data.toList[i]? <;> rfl
/-- What shownValue answers. -/
def svL (t : ByteArray) : Nat → Nat → List UInt8 → Option (ByteArray × Int × Bool)
  | 0, _, _ => none
  | f + 1, i, acc =>
    if i < t.size then
      if bt t (i : Int) = 40 ∨ bt t (i : Int) = 41 then
        if i + 1 = t.size then some (⟨acc.toArray⟩, i, decide (bt t (i : Int) = 40))
        else if bt t ((i + 1 : Nat) : Int) = bt t (i : Int) then svL t f (i + 2) (acc ++ [ub t i])
        else some (⟨acc.toArray⟩, i, decide (bt t (i : Int) = 40))
      else svL t f (i + 1) (acc ++ [ub t i])
    else some (⟨acc.toArray⟩, i, true)
def gtin_shownValue.f (a0 : ByteArray) (a1 : Int) : Option (ByteArray × Int × Bool) := if 0 ≤ a1 ∧ a1 ≤ a0.size ∧ a0.size ≤ 2048 then svL a0 (a0.size + 1) a1.toNat [] else none
set_option maxHeartbeats 8000000
set_option maxRecDepth 100000
theorem gtin_shownValue.calls (a0 : ByteArray) (a1 : Int) (r1 : ByteArray) (r2 : Int) (r3 : Bool) (w : World) (h : gtin_shownValue.f a0 a1 = some (r1, r2, r3)) :
    Calls Tryd.prog 32 #[.string a0, .int .i64 a1] w fun e w' => e = .returned (.tuple #[.string r1, .int .i64 r2, .bool r3]) ∧ Below w.heap.size w w' := by
  unfold gtin_shownValue.f at h
  split at h
  case isFalse => cases h
  rename_i hc
  obtain ⟨h0, h1, h2⟩ := hc
  obtain ⟨i0, hi0⟩ : ∃ i : Nat, a1 = (i : Int) := ⟨a1.toNat, by omega⟩
  subst hi0
  rw [Int.toNat_natCast] at h
  have HF := Aside0.mk h
  have HZ := Aside0.mk h2
  have hle : i0 ≤ a0.size := by omega
  have HN := Aside0.mk (builder_new w w (Nat.le_refl _))
  clear h h0 h1 h2
  go_enter Tryd.func32, Tryd.ntmps32
  go_wp2
  go_loopw [1] (fun v1 wr => ∃ (f i : Nat) (acc : List UInt8), v1 = .int .i64 (i : Int) ∧ i ≤ a0.size ∧ acc.length ≤ i ∧ Aside0 (svL a0 f i acc = some (r1, r2, r3)) ∧ Aside0 (Lib.IsBuilderF 90 5 w.heap.size w.heap.size (Lib.byteCells acc) wr) ∧ Aside0 (Below w.heap.size w wr)) (fun v1 _ => a0.size - (intOf v1).toNat)
  case atStart => exact ⟨_, i0, [], rfl, hle, Nat.zero_le _, HF, HN, ⟨(Below.refl _ _).alloc (Nat.le_refl _) _⟩⟩
  case round =>
    obtain ⟨f, i, acc, rfl, hi, ha, HA, HB, HW⟩ := hrel
    cases f with
    | zero => exact absurd HA.out (by simp [svL])
    | succ f =>
      have H := HA.out
      simp only [svL] at H
      have hz := HZ.out
      by_cases hlt : i < a0.size
      · rw [if_pos hlt] at H
        have hx := hx_of a0 i
        have hbu := bt_ub a0 i
        obtain ⟨c, hc⟩ : ∃ c, bt a0 (i : Int) = c := ⟨_, rfl⟩
        rw [hc] at hx H hbu
        have g1 : decide ((i : Int) < (a0.size : Int)) = true := decide_eq_true (by omega)
        have g2 : (0 ≤ (i : Int)) = True := eq_true (by omega)
        have g3 : ((i : Int) < (a0.size : Int)) = True := eq_true (by omega)
        have g4 : (i < a0.size) = True := eq_true hlt
        have hlen : (Lib.byteCells acc).length + 1 ≤ 140737488355328 := by rw [Lib.byteCells_length]; omega
        have hbc : Lib.byteCells acc ++ [.int .u8 c] = Lib.byteCells (acc ++ [ub a0 i]) := by rw [Lib.byteCells_append, hbu]; rfl
        have HBC := Aside0.mk hbc
        clear hbu hbc
        have X := Aside0.mk (fun W' (hb : Lib.IsBuilderF 90 5 w.heap.size w.heap.size (Lib.byteCells acc) W') (hs : w.heap.size ≤ W'.heap.size) => bput w.heap.size w.heap.size (Lib.byteCells acc) c W' hb hlen hs)
        have Y := Aside0.mk (fun W' (hb : Lib.IsBuilderF 90 5 w.heap.size w.heap.size (Lib.byteCells acc) W') (hs : w.heap.size ≤ W'.heap.size) => Tryd.Builder_String_any_k w.heap.size w.heap.size acc W' hb hs)
        by_cases hbr : c = 40 ∨ c = 41
        · rw [if_pos hbr] at H
          have hx2 := hx_of a0 (i + 1)
          obtain ⟨d, hd⟩ : ∃ d, bt a0 ((i + 1 : Nat) : Int) = d := ⟨_, rfl⟩
          rw [hd] at hx2 H
          by_cases he : i + 1 = a0.size
          · rw [if_pos he] at H
            have e1 : ((i : Int) + 1 == (a0.size : Int)) = true := beq_iff_eq.2 (by omega)
            simp only [Option.some.injEq, Prod.mk.injEq] at H
            obtain ⟨rfl, rfl, rfl⟩ := H
            clear hx2 hd hc HA HBC hlen he X
            rcases hbr with rfl | rfl
            all_goals
              go_wp2_with (go_at_call 50; go_loud ((with_reducible refine (Y.out _ HB.out HW.out.size).mono ?_); rintro e w1 ⟨rfl, q1, q2, q3⟩))
              go_ret3
              exact ⟨rfl, HW.out.trans q2⟩
          · rw [if_neg he] at H
            have e1 : ((i : Int) + 1 == (a0.size : Int)) = false := beq_eq_false_iff_ne.2 (by omega)
            have e2 : ((i : Int) + 1 < (a0.size : Int)) = True := eq_true (by omega)
            have e3 : (i + 1 < a0.size) = True := eq_true (by omega)
            have e4 : (0 ≤ (i : Int) + 1) = True := eq_true (by omega)
            by_cases hdc : d = c
            · subst hdc
              rw [if_pos rfl] at H
              have H' := Aside0.mk H
              have m1 : i + 2 ≤ a0.size := by omega
              have m2 : (acc ++ [ub a0 i]).length ≤ i + 2 := by rw [List.length_append, List.length_singleton]; omega
              have M := Aside0.mk (And.intro m1 m2)
              clear H hc HA hlen m1 m2 hd he Y
              rcases hbr with rfl | rfl
              all_goals
                go_wp2_with (go_at_call 53; go_loud ((with_reducible refine (X.out _ HB.out HW.out.size).mono ?_); rintro e w1 ⟨rfl, q1, q2, q3, q4⟩))
                go_roundw
                case rel => exact ⟨f, i + 2, acc ++ [ub a0 i], by go_num, M.out.1, M.out.2, H', ⟨by rw [← HBC.out]; exact .inr q1⟩, ⟨HW.out.trans q2⟩⟩
                case measure => simp [intOf]; omega
            · rw [if_neg hdc] at H
              have e5 : (d == c) = false := beq_eq_false_iff_ne.2 hdc
              have e6 : (d != c) = true := bne_iff_ne.2 hdc
              simp only [Option.some.injEq, Prod.mk.injEq] at H
              obtain ⟨rfl, rfl, rfl⟩ := H
              clear hd hc HA HBC hlen he X hdc
              rcases hbr with rfl | rfl
              all_goals
                go_wp2_with (go_at_call 50; go_loud ((with_reducible refine (Y.out _ HB.out HW.out.size).mono ?_); rintro e w1 ⟨rfl, q1, q2, q3⟩))
                go_ret3
                exact ⟨rfl, HW.out.trans q2⟩
        · rw [if_neg hbr] at H
          have n1 : (c == 40) = false := beq_eq_false_iff_ne.2 (fun e => hbr (.inl e))
          have n2 : (c == 41) = false := beq_eq_false_iff_ne.2 (fun e => hbr (.inr e))
          have H' := Aside0.mk H
          have m1 : i + 1 ≤ a0.size := hlt
          have m2 : (acc ++ [ub a0 i]).length ≤ i + 1 := by rw [List.length_append, List.length_singleton]; omega
          have M := Aside0.mk (And.intro m1 m2)
          clear H hc HA hbr hlen m1 m2
          go_wp2_with (go_at_call 53; go_loud ((with_reducible refine (X.out _ HB.out HW.out.size).mono ?_); rintro e w1 ⟨rfl, q1, q2, q3, q4⟩))
          go_roundw
          case rel => exact ⟨f, i + 1, acc ++ [ub a0 i], by go_num, M.out.1, M.out.2, H', ⟨by rw [← HBC.out]; exact .inr q1⟩, ⟨HW.out.trans q2⟩⟩
          case measure => simp [intOf]; omega
      · rw [if_neg hlt] at H
        have g1 : decide ((i : Int) < (a0.size : Int)) = false := decide_eq_false (by omega)
        have g2 : decide (i < a0.size) = false := decide_eq_false hlt
        have g3 : (i < a0.size) = False := eq_false hlt
        simp only [Option.some.injEq, Prod.mk.injEq] at H
        obtain ⟨rfl, rfl, rfl⟩ := H
        have Y := Aside0.mk (fun W' (hb : Lib.IsBuilderF 90 5 w.heap.size w.heap.size (Lib.byteCells acc) W') (hs : w.heap.size ≤ W'.heap.size) => Tryd.Builder_String_any_k w.heap.size w.heap.size acc W' hb hs)
        clear HA hlt
        go_wp2_with (go_at_call 50; go_loud ((with_reducible refine (Y.out _ HB.out HW.out.size).mono ?_); rintro e w1 ⟨rfl, q1, q2, q3⟩))
        go_ret3
        exact ⟨rfl, HW.out.trans q2⟩
end Go.Proofs.YtofagdjijpjlgaaDoor.X
