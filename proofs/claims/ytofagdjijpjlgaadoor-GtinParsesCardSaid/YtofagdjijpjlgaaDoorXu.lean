/- The contract of gtin.find over the table. -/
import Derived.Test.YtofagdjijpjlgaaDoorXt
import Derived.Test.YtofagdjijpjlgaaDoorWMore
set_option linter.unusedVariables false
set_option linter.unusedSimpArgs false
namespace Go.Proofs.YtofagdjijpjlgaaDoor.X
open Go.RowKit Go.Proofs.YtofagdjijpjlgaaDoorW.PrintWords Go.Proofs.YtofagdjijpjlgaaDoorW.PrintLast

def r0 : Row5 := ⟨[], 0, 0, 0, false⟩
def rowAt (i : Nat) : Row5 := rws.getD i r0
theorem flat_at : ∀ (l : List Row5) (i : Nat), i < l.length → ((l.flatMap rowC).drop (i * 5)).take 5 = rowC (l.getD i r0)
  | [], i, h => by simp at h
  | r :: l, 0, _ => by simp [rowC]
  | r :: l, i + 1, h => by
    have ih := flat_at l i (by simpa using h)
    rw [List.flatMap_cons, List.drop_append, show (rowC r).length = 5 from rfl, List.drop_of_length_le (by rw [show (rowC r).length = 5 from rfl]; omega), List.nil_append, show (i + 1) * 5 - 5 = i * 5 from by omega, ih]
    rfl
theorem tab_size : tabCells.size = 195 := by
  have : (rws.flatMap rowC).length = 195 := by decide +kernel
  simpa [tabCells] using this
theorem tab_index (i : Nat) (hi : i < 39) (w : World) : (Instr.index 97 (.agg tabCells) (.int .i64 (i : Int))).run Tryd.prog w = .ok (.agg (rowC (rowAt i)).toArray) w := by
  obtain ⟨T, hT⟩ : ∃ T, tabCells = T := ⟨_, rfl⟩
  have h1 : (T.toList.drop (i * 5)).take 5 = rowC (rowAt i) := by
    rw [← hT]; exact flat_at rws i (by rw [show rws.length = 39 from rfl]; exact hi)
  rw [hT]
  have e1 : T.extract (i * 5) (i * 5 + 5) = (rowC (rowAt i)).toArray := by
    rw [← h1]
    apply Array.toList_inj.1
    simp [List.extract_eq_take_drop]
  have hs : (sizeOf 51).run Tryd.prog w = .ok 5 w := by kernel_rfl
  have ha : (isAgg 51).run Tryd.prog w = .ok true w := by kernel_rfl
  simp [Instr.index, run_underlying Tryd.underlying97, hi, Sem.run_bind, hs, asIntOf, part, ha, e1, Result.andThen]

/-- The first row from place i on whose Ai is this one. -/
def findFrom (ai : List UInt8) : Nat → Nat → Option Row5
  | 0, _ => none
  | f + 1, i => if i < 39 then (if (rowAt i).ai = ai then some (rowAt i) else findFrom ai f (i + 1)) else none
theorem info97 : (Tryd.prog.info? 97).map (·.size) = some 195 := by kernel_rfl
def S (r : Row5) : ByteArray := ⟨r.ai.toArray⟩
def told (r : Option Row5) : ByteArray × Int × Int × Int × Bool × Bool := match r with
  | none => ((⟨#[]⟩ : ByteArray), 0, 0, 0, false, false)
  | some r => (S r, r.least, r.most, r.kind, r.plain, true)
def gtin_find.f (a0 : ByteArray) : Option (ByteArray × Int × Int × Int × Bool × Bool) := some (told (findFrom a0.toList 40 0))
theorem S_toList (r : Row5) : (S r).toList = r.ai := by rw [ByteArray.toList_eq]; rfl
set_option maxHeartbeats 4000000 in
set_option maxRecDepth 100000 in
theorem gtin_find.calls (a0 r1 : ByteArray) (r2 r3 r4 : Int) (r5 r6 : Bool) (w : World) (HT_ : Aside0 (Tab w)) (h : gtin_find.f a0 = some (r1, r2, r3, r4, r5, r6)) :
    Calls Tryd.prog 24 #[.string a0] w fun e w' => e = .returned (.tuple #[.agg #[.string r1, .int .i64 r2, .int .i64 r3, .int .i64 r4, .bool r5], .bool r6]) ∧ Below w.heap.size w w' := by
  have HF : Aside0 (told (findFrom a0.toList 40 0) = (r1, r2, r3, r4, r5, r6)) := ⟨Option.some.inj h⟩
  clear h
  obtain ⟨t, hT0⟩ := HT_.out.out
  have hlt : 0 < w.heap.size := (Array.getElem?_eq_some_iff.1 hT0).1
  obtain ⟨T, hTT⟩ : ∃ T, tabCells = T := ⟨_, rfl⟩
  have hidx := tab_index
  have hsz : (Tryd.prog.info? 97).map (·.size) = some T.size := by rw [← hTT, tab_size]; exact info97
  rw [hTT] at hT0 hidx
  have HI := Aside0.mk hidx
  clear hidx hTT
  go_enter Tryd.func24, Tryd.ntmps24
  go_wp2_with (refine wpList_load_row rfl 97 _ rfl 0 rfl t T (0, 0) _ (by first | exact hT0 | exact (Below.heap_alloc _ _ _ hlt).trans hT0) Tryd.underlying97 rfl hsz ?_)
  clear hT0 hsz
  obtain ⟨w1, hw1⟩ : ∃ w1, w.alloc (.cells #[.string ⟨#[]⟩, .int .i64 0, .int .i64 0, .int .i64 0, .bool false] 51) = w1 := ⟨_, rfl⟩
  have hb1 : Below w.heap.size w w1 := by rw [← hw1]; exact (Below.refl _ _).alloc (Nat.le_refl _) _
  have hz1 : w1.heap.size = w.heap.size + 1 := by rw [← hw1]; simp
  have hc1 : w1.heap[w.heap.size]? = some (.cells #[.string ⟨#[]⟩, .int .i64 0, .int .i64 0, .int .i64 0, .bool false] 51 (0, 0)) := by rw [← hw1]; exact heap_alloc_new w _
  rw [hw1]
  have HB1 := Aside0.mk hb1
  have HZ1 := Aside0.mk hz1
  have HC1 := Aside0.mk hc1
  clear hb1 hz1 hc1 hw1
  go_loopw [5, 7] (fun v5 v7 wr => ∃ i : Nat, v7 = .int .i64 (i : Int) ∧ i ≤ 39 ∧ Aside0 (told (findFrom a0.toList (40 - i) i) = (r1, r2, r3, r4, r5, r6)) ∧ Aside0 (Below w1.heap.size w1 wr)) (fun _ v7 _ => 39 - (intOf v7).toNat)
  case atStart => exact ⟨0, rfl, by omega, HF, ⟨Below.refl _ _⟩⟩
  case round =>
    obtain ⟨i, rfl, hi, HF1, HB⟩ := hrel
    clear HF
    have hbb := HB.out
    have hsz := hbb.size
    have hz1 := HZ1.out
    have hcell := (hbb.block w.heap.size (by omega)).trans HC1.out
    have hlt2 : w.heap.size < wr.heap.size := by omega
    have q0 : wr.cell? ⟨w.heap.size, 0, none⟩ = some (.string ⟨#[]⟩) := by simp [World.cell?, hcell]
    have q1 : wr.cell? ⟨w.heap.size, 1, none⟩ = some (.int .i64 0) := by simp [World.cell?, hcell]
    have q2 : wr.cell? ⟨w.heap.size, 2, none⟩ = some (.int .i64 0) := by simp [World.cell?, hcell]
    have q3 : wr.cell? ⟨w.heap.size, 3, none⟩ = some (.int .i64 0) := by simp [World.cell?, hcell]
    have q4 : wr.cell? ⟨w.heap.size, 4, none⟩ = some (.bool false) := by simp [World.cell?, hcell]
    have p0 : wr.frozen? ⟨w.heap.size, 0, none⟩ = false := by simp [World.frozen?, hcell]
    have p1 : wr.frozen? ⟨w.heap.size, 1, none⟩ = false := by simp [World.frozen?, hcell]
    have p2 : wr.frozen? ⟨w.heap.size, 2, none⟩ = false := by simp [World.frozen?, hcell]
    have p3 : wr.frozen? ⟨w.heap.size, 3, none⟩ = false := by simp [World.frozen?, hcell]
    have p4 : wr.frozen? ⟨w.heap.size, 4, none⟩ = false := by simp [World.frozen?, hcell]
    clear hbb hsz hz1 hcell
    by_cases hlt9 : i < 39
    · have hix := HI.out i hlt9
      obtain ⟨r, hr⟩ : ∃ r, rowAt i = r := ⟨_, rfl⟩
      have hff : findFrom a0.toList (40 - i) i = if r.ai = a0.toList then some r else findFrom a0.toList (40 - (i + 1)) (i + 1) := by
        rw [show 40 - i = (40 - (i + 1)) + 1 from by omega]
        simp only [findFrom]
        rw [if_pos hlt9, hr]
      rw [hr] at hix
      obtain ⟨s, hs⟩ : ∃ s, S r = s := ⟨_, rfl⟩
      obtain ⟨l, hl⟩ : ∃ l, r.least = l := ⟨_, rfl⟩
      obtain ⟨m, hm⟩ : ∃ l, r.most = l := ⟨_, rfl⟩
      obtain ⟨kk, hk⟩ : ∃ l, r.kind = l := ⟨_, rfl⟩
      obtain ⟨b, hb⟩ : ∃ l, r.plain = l := ⟨_, rfl⟩
      have hrc : (rowC r).toArray = #[.string s, .int .i64 l, .int .i64 m, .int .i64 kk, .bool b] := by rw [← hs, ← hl, ← hm, ← hk, ← hb]; rfl
      rw [hrc] at hix
      by_cases hq : r.ai = a0.toList
      · have hq1 : (s.toList == a0.toList) = true := by rw [← hs, S_toList]; exact beq_iff_eq.2 hq
        have hF := HF1.out
        rw [hff, if_pos hq] at hF
        simp only [told, Prod.mk.injEq] at hF
        rw [hs, hl, hm, hk, hb] at hF
        obtain ⟨rfl, rfl, rfl, rfl, rfl, rfl⟩ := hF
        clear hrc hff hs hl hm hk hb hr hq HF1
        have hlt9b : decide ((i : Int) < 39) = true := decide_eq_true (by omega)
        clear hi hlt9
        have HBW : Aside0 (Below w.heap.size w wr) := ⟨HB1.out.trans (HB.out.mono (by have := HZ1.out; omega))⟩
        have HLE : Aside0 (w.heap.size ≤ wr.heap.size) := ⟨by omega⟩
        go_wp2
        refine bodyPost_ret (v := .tuple #[.agg #[.string s, .int .i64 l, .int .i64 m, .int .i64 kk, .bool b], .bool true]) (by simp [results, Tryd.results24, go_sem, q0, q1, q2, q3, q4, hlt2]) rfl ⟨rfl, ?_⟩
        repeat (first | exact HBW.out | refine Below.setCell ?_ (show w.heap.size ≤ w.heap.size from Nat.le_refl _) _ | refine Below.alloc ?_ (by have := HLE.out; simp; omega) _)
      · have hq1 : (s.toList == a0.toList) = false := by rw [← hs, S_toList]; exact beq_eq_false_iff_ne.2 hq
        have hF := HF1.out
        rw [hff, if_neg hq] at hF
        have HF2 := Aside0.mk hF
        clear hrc hff hs hl hm hk hb hr hq HF1 hF
        have hlt9b : decide ((i : Int) < 39) = true := decide_eq_true (by omega)
        have hi1 : i + 1 ≤ 39 := by omega
        have HLE : Aside0 (w1.heap.size ≤ wr.heap.size) := ⟨HB.out.size⟩
        clear hi hlt9 q0 q1 q2 q3 q4 p0 p1 p2 p3 p4
        go_wp2
        go_roundw
        case rel => exact ⟨i + 1, by go_num, hi1, HF2, ⟨Below.alloc HB.out HLE.out _⟩⟩
        case measure => simp [intOf]; omega
    · have hF := HF1.out
      rw [show 40 - i = 0 + 1 from by omega] at hF
      simp only [findFrom] at hF
      rw [if_neg hlt9] at hF
      simp only [told, Prod.mk.injEq] at hF
      obtain ⟨rfl, rfl, rfl, rfl, rfl, rfl⟩ := hF
      have hlt9b : decide ((i : Int) < 39) = false := decide_eq_false (by omega)
      have HBW : Aside0 (Below w.heap.size w wr) := ⟨HB1.out.trans (HB.out.mono (by have := HZ1.out; omega))⟩
      clear hi hlt9 HF1
      go_wp2
      refine bodyPost_ret (v := .tuple #[.agg #[.string ⟨#[]⟩, .int .i64 0, .int .i64 0, .int .i64 0, .bool false], .bool false]) (by simp [results, Tryd.results24, go_sem, q0, q1, q2, q3, q4]) rfl ⟨rfl, ?_⟩
      repeat (first | exact HBW.out | refine Below.setCell ?_ (show w.heap.size ≤ w.heap.size from Nat.le_refl _) _)
end Go.Proofs.YtofagdjijpjlgaaDoor.X
