/- Switches (on the light base): the program's and the document's, by hand: an array of sixteen numbers in memory. -/
import Derived.Test.YtfcjfjmjcmanaaaXl
import Derived.Test.YtfcjfjmjcmanaaaLzq
import Derived.RangeFuncNested
set_option linter.unusedVariables false
namespace Go.Proofs.Ytfcjfjmjcmanaaa.X
open Go.RowKit Go.Proofs.YtfcjfjmjcmanaaaW.PrintWords Go.Proofs.YtfcjfjmjcmanaaaW.PrintLast Go.Proofs.YtfcjfjmjcmanaaaW.PrintMore
theorem wrId {x : Int} (h0 : -9223372036854775808 ≤ x) (h1 : x < 9223372036854775808) : wrap64 x = x := hwrId h0 h1
/-- How often a handler is put aside. -/
def nsw : List Int → Nat
  | [] => 0
  | [_] => 0
  | x :: y :: r => (if x ≠ y ∧ x ∈ y :: r then 1 else 0) + nsw (y :: r)
theorem nsw_le : ∀ l : List Int, nsw l ≤ l.length
  | [] => Nat.le_refl _
  | [_] => Nat.zero_le _
  | x :: y :: r => by
    have := nsw_le (y :: r)
    show (if x ≠ y ∧ x ∈ y :: r then 1 else 0) + nsw (y :: r) ≤ _
    simp only [List.length_cons] at this ⊢
    split <;> omega
theorem nsw_drop (l : List Int) (i : Nat) (h : i + 1 < l.length) : nsw (l.drop i) = (if rd l (i : Int) ≠ rd l ((i + 1 : Nat) : Int) ∧ 0 < (l.drop (i + 1)).count (rd l (i : Int)) then 1 else 0) + nsw (l.drop (i + 1)) := by
  have e0 : rd l (i : Int) = l[i] := by unfold rd; rw [Int.toNat_natCast, List.getD_eq_getElem?_getD, List.getElem?_eq_getElem (by omega)]; rfl
  have e1 : rd l ((i + 1 : Nat) : Int) = l[i + 1] := by unfold rd; rw [Int.toNat_natCast, List.getD_eq_getElem?_getD, List.getElem?_eq_getElem h]; rfl
  rw [e0, e1, List.drop_eq_getElem_cons (show i < l.length by omega), List.drop_eq_getElem_cons h]
  show (if l[i] ≠ l[i + 1] ∧ l[i] ∈ l[i + 1] :: l.drop (i + 1 + 1) then 1 else 0) + _ = _
  simp only [List.count_pos_iff]
theorem take_next (l : List Int) (i : Int) (h0 : 0 ≤ i) (h1 : i < (l.length : Int)) : l.take (i.toNat + 1) = l.take i.toNat ++ [rd l i] := by
  have hi2 : i.toNat < l.length := by omega
  rw [List.take_add_one]; unfold rd
  rw [List.getD_eq_getElem?_getD, List.getElem?_eq_getElem hi2]; rfl
theorem rd_num (l : List Int) (h : ∀ x ∈ l, Hnum x) (i : Int) (h0 : 0 ≤ i) (h1 : i < (l.length : Int)) : Hnum (rd l i) := by
  have hi2 : i.toNat < l.length := by omega
  unfold rd
  rw [List.getD_eq_getElem?_getD, List.getElem?_eq_getElem hi2]
  exact h _ (List.getElem_mem hi2)
theorem nsw_last (l : List Int) (i : Nat) (h : l.length ≤ i + 1) : nsw (l.drop i) = 0 := by
  have : (l.drop i).length ≤ 1 := by rw [List.length_drop]; omega
  match l.drop i, this with
  | [], _ => rfl
  | [_], _ => rfl
  | _ :: _ :: _, h => simp at h
def Arr (W : World) (B : Nat) (f : Int → Int) : Prop := ∀ x, Hnum x → W.cell? ⟨B, x.toNat, none⟩ = some (.int .i64 (f x)) ∧ W.frozen? ⟨B, x.toNat, none⟩ = false
theorem Arr.at {W : World} {B : Nat} {f : Int → Int} (h : Arr W B f) {x c : Int} (hx : Hnum x) (hf : f x = c) : W.cell? ⟨B, x.toNat, none⟩ = some (.int .i64 c) ∧ W.frozen? ⟨B, x.toNat, none⟩ = false := by rw [← hf]; exact h x hx
theorem Arr.set {W : World} {B : Nat} {f : Int → Int} (h : Arr W B f) (y : Int) (hy : Hnum y) (v : Int) : Arr (W.setCell ⟨B, y.toNat, none⟩ (.int .i64 v)) B (fun x => if x = y then v else f x) := by
  intro x hx
  obtain ⟨h1, h2⟩ := h x hx
  refine ⟨?_, by rw [World.frozen?_setCell]; exact h2⟩
  by_cases e : x = y
  · subst e
    rw [World.cell?_setCell_same' _ _ _ (by rw [h1]; rfl)]; simp
  · rw [World.cell?_setCell_other _ _ _ _ (by intro z; injection z with _ z; unfold Hnum at hx hy; omega), h1]; simp [e]
theorem Arr.drew {W : World} {B : Nat} {f : Int → Int} (h : Arr W B f) (n : Nat) : Arr (W.drewN n) B f := fun x hx => ⟨(World.cell?_drewN _ _ _).trans (h x hx).1, (World.frozen?_drewN _ _ _).trans (h x hx).2⟩
theorem Arr.new (W : World) (c : Array Value) (hc : ∀ j, j < 16 → c[j]? = some (.int .i64 0)) : Arr (W.alloc (.cells c 134)) W.heap.size (fun _ => 0) := by
  intro x hx
  have := hc x.toNat (by unfold Hnum at hx; omega)
  constructor
  · rw [World.cell?_alloc_new]; exact this
  · rw [World.frozen?_alloc_new]
theorem Arr.congr {W : World} {B : Nat} {f g : Int → Int} (h : Arr W B f) (e : ∀ x, Hnum x → f x = g x) : Arr W B g := fun x hx => by rw [← e x hx]; exact h x hx
theorem wr_next (l : List Int) (i : Int) (hl : l.length ≤ 1000000000000000) (hi : 0 ≤ i ∧ i ≤ (l.length : Int)) (h : i < (l.length : Int)) : wrap64 (i + 1) = i + 1 := hwrId (by omega) (by omega)
theorem arr_step (l : List Int) (i x : Int) (w wq : World) (hl : l.length ≤ 1000000000000000) (hi : 0 ≤ i ∧ i ≤ (l.length : Int)) (h : i < (l.length : Int)) (ht : l.take (i.toNat + 1) = l.take i.toNat ++ [x]) (hx : Hnum x) (ha : Arr wq w.heap.size (fun x => ((l.take i.toNat).count x : Nat))) (hn : ∀ x ∈ l.take i.toNat, Hnum x) (hb : Below w.heap.size w wq) :
    ∃ i_1, Value.int IntKind.i64 (wrap64 (i + 1)) = Value.int IntKind.i64 i_1 ∧ Aside0 (0 ≤ i_1 ∧ i_1 ≤ (l.length : Int)) ∧
      Aside0 (Arr (wq.setCell ⟨w.heap.size, x.toNat, none⟩ (.int .i64 (wrap64 (((l.take i.toNat).count x : Nat) + 1)))) w.heap.size (fun x => ((l.take i_1.toNat).count x : Nat))) ∧
      Aside0 (∀ x ∈ l.take i_1.toNat, Hnum x) ∧ Aside0 (Below w.heap.size w (wq.setCell ⟨w.heap.size, x.toNat, none⟩ (.int .i64 (wrap64 (((l.take i.toNat).count x : Nat) + 1))))) := by
  have hc : (l.take i.toNat).count x ≤ l.length := Nat.le_trans List.count_le_length (by rw [List.length_take]; omega)
  have e : (i + 1).toNat = i.toNat + 1 := by omega
  rw [wr_next l i hl hi h]
  refine ⟨i + 1, rfl, ⟨by omega⟩, ⟨?_⟩, ⟨?_⟩, ⟨hb.setCell (p := ⟨w.heap.size, x.toNat, none⟩) (Nat.le_refl _) _⟩⟩
  · rw [hwrId (by omega) (by omega)]
    refine (ha.set x hx _).congr fun y hy => ?_
    rw [e, ht, List.count_append]
    by_cases z : y = x
    · subst z; simp
    · have z' : (x == y) = false := by simpa using fun q => z q.symm
      rw [if_neg z]; simp [List.count_cons, z']
  · rw [e, ht]
    intro y hy
    rcases List.mem_append.1 hy with hy | hy
    · exact hn y hy
    · rw [List.mem_singleton.1 hy]; exact hx
set_option maxRecDepth 100000 in
set_option maxHeartbeats 1000000 in
theorem sw_bad (A0 : Option Addr) (c0 : Nat) (l : List Int) (w : World) (hr0 : Kd.C (Kd.int .i64) w A0 l.length l) (hl : Aside0 (l.length ≤ 1000000000000000)) (hbad : Aside0 (¬ ∀ x ∈ l, Hnum x)) :
    Calls Try.prog 62 #[.slice A0 l.length c0] w fun e w' => e = .returned (.tuple #[.int .i64 0, .int .i64 2]) ∧ Below w.heap.size w w' := by
  have HR0 := Aside0.mk hr0
  have hb0 := Arr.new w #[.int .i64 0, .int .i64 0, .int .i64 0, .int .i64 0, .int .i64 0, .int .i64 0, .int .i64 0, .int .i64 0, .int .i64 0, .int .i64 0, .int .i64 0, .int .i64 0, .int .i64 0, .int .i64 0, .int .i64 0, .int .i64 0] (by intro j hj; rcases (show j = 0 ∨ j = 1 ∨ j = 2 ∨ j = 3 ∨ j = 4 ∨ j = 5 ∨ j = 6 ∨ j = 7 ∨ j = 8 ∨ j = 9 ∨ j = 10 ∨ j = 11 ∨ j = 12 ∨ j = 13 ∨ j = 14 ∨ j = 15 by omega) with h | h | h | h | h | h | h | h | h | h | h | h | h | h | h | h <;> subst h <;> rfl)
  have HB0 := Aside0.mk hb0
  clear hr0 hb0
  go_enter Try.func62, Try.ntmps62
  go_wp2
  go_loopw [12] (fun p wr => ∃ i : Int, p = .int .i64 i ∧ Aside0 (0 ≤ i ∧ i ≤ (l.length : Int)) ∧ Aside0 (Arr wr w.heap.size (fun x => ((l.take i.toNat).count x : Nat))) ∧ Aside0 (∀ x ∈ l.take i.toNat, Hnum x) ∧ Aside0 (Below w.heap.size w wr)) (fun p _ => ((l.length : Int) - intOf p).toNat)
  case atStart => exact ⟨0, rfl, ⟨⟨Int.le_refl _, by omega⟩⟩, ⟨HB0.out.congr (fun x _ => by simp)⟩, ⟨by simp⟩, ⟨(Below.refl _ _).alloc (Nat.le_refl _) _⟩⟩
  case round =>
    obtain ⟨i, rfl, Hi, HA, HN, HB⟩ := hrel
    by_cases hlt : i < (l.length : Int)
    · have p0 : 0 ≤ i := Hi.out.1
      obtain ⟨ad, rfl, hxc⟩ := Kd.at_int (Kd.C_below HR0.out HB.out) i p0 hlt
      have hltb : decide (i < (l.length : Int)) = true := decide_eq_true hlt
      have HT := Aside0.mk (take_next l i p0 hlt)
      have HL := Aside0.mk hlt
      replace p0 := eq_true p0
      replace hlt := eq_true hlt
      obtain ⟨x, hx⟩ : ∃ x, rd l i = x := ⟨_, rfl⟩
      rw [hx] at hxc HT
      clear hx
      by_cases x0 : x < 0
      · have x0b : decide (x < 0) = true := decide_eq_true x0
        clear x0
        go_wp2
        go_ret2
        exact ⟨rfl, HB.out⟩
      · by_cases x1 : x ≥ 16
        · have x0b : decide (x < 0) = false := decide_eq_false x0
          have x1b : decide (16 ≤ x) = true := decide_eq_true x1
          clear x0 x1
          go_wp2
          go_ret2
          exact ⟨rfl, HB.out⟩
        · have x0b : decide (x < 0) = false := decide_eq_false x0
          have x1b : decide (16 ≤ x) = false := decide_eq_false x1
          have hnum : Hnum x := ⟨by omega, by omega⟩
          obtain ⟨hcell, hfroz⟩ := HA.out x hnum
          have HNum := Aside0.mk hnum
          have p0 : 0 ≤ x := by omega
          have p1 : x < 16 := by omega
          clear hnum x0 x1
          go_wp2
          exact ⟨arr_step l i x w wr hl.out Hi.out HL.out HT.out HNum.out HA.out HN.out HB.out, by rw [wr_next l i hl.out Hi.out HL.out]; simp only [intOf]; have := HL.out; omega⟩
    · exfalso
      refine hbad.out fun x hx => HN.out x ?_
      have := Hi.out
      rw [List.take_of_length_le (by omega)]; exact hx
theorem sw_drop (l : List Int) (j y x : Int) (h0 : 0 ≤ j - 1) (h1 : j < (l.length : Int)) (hy : rd l (j - 1) = y) (hx : rd l j = x) :
    nsw (l.drop (j.toNat - 1)) = (if y ≠ x ∧ 0 < (l.drop j.toNat).count y then 1 else 0) + nsw (l.drop j.toNat) := by
  have h := nsw_drop l (j.toNat - 1) (by omega)
  rw [show ((j.toNat - 1 : Nat) : Int) = j - 1 by omega, show ((j.toNat - 1 + 1 : Nat) : Int) = j by omega, show j.toNat - 1 + 1 = j.toNat by omega, hy, hx] at h
  exact h
theorem wr_m (l : List Int) (m : Nat) (hl : l.length ≤ 65536) (h : m ≤ nsw l) : wrap64 ((m : Int) + 1) = ((m + 1 : Nat) : Int) := by
  have := nsw_le l
  rw [hwrId (by omega) (by omega)]; omega
theorem sw_step (l : List Int) (j x cx : Int) (m m' t : Nat) (w wq : World) (hl : l.length ≤ 65536) (hj : 0 ≤ j ∧ j ≤ (l.length : Int)) (h : j < (l.length : Int)) (hx : rd l j = x) (hn : Hnum x) (hc : (((l.drop j.toNat).count x : Nat) : Int) = cx)
    (ha : Arr wq w.heap.size (fun x => ((l.drop j.toNat).count x : Nat))) (hb : Below w.heap.size w wq) (hm : m' + nsw (l.drop j.toNat) = nsw l) {n' : Int} (hn' : n' = (m' : Int)) :
    (∃ (j1 : Int) (m1 : Nat), Value.int IntKind.i64 n' = .int .i64 (m1 : Int) ∧ Value.int IntKind.i64 (wrap64 (j + 1)) = .int .i64 j1 ∧ Aside0 (0 ≤ j1 ∧ j1 ≤ (l.length : Int)) ∧ Aside0 (m1 + nsw (l.drop (j1.toNat - 1)) = nsw l) ∧
      Aside0 (Arr (wq.setCell ⟨w.heap.size, x.toNat, none⟩ (.int .i64 (wrap64 (cx - 1)))) w.heap.size (fun x => ((l.drop j1.toNat).count x : Nat))) ∧ Aside0 (Below w.heap.size w (wq.setCell ⟨w.heap.size, x.toNat, none⟩ (.int .i64 (wrap64 (cx - 1)))))) ∧
    ((l.length : Int) - intOf (.int .i64 (wrap64 (j + 1)))).toNat < ((l.length : Int) - intOf (.int .i64 j)).toNat := by
  have e0 : wrap64 (j + 1) = j + 1 := hwrId (by omega) (by omega)
  have e : (j + 1).toNat = j.toNat + 1 := by omega
  have hd : l.drop j.toNat = x :: l.drop (j.toNat + 1) := by
    rw [List.drop_eq_getElem_cons (show j.toNat < l.length by omega), ← hx]
    unfold rd
    rw [List.getD_eq_getElem?_getD, List.getElem?_eq_getElem (show j.toNat < l.length by omega)]; rfl
  have hcb : (l.drop j.toNat).count x ≤ l.length := Nat.le_trans List.count_le_length (by rw [List.length_drop]; omega)
  rw [e0]
  refine ⟨⟨j + 1, m', by rw [hn'], rfl, ⟨by omega⟩, ⟨by rw [e]; exact hm⟩, ⟨?_⟩, ⟨hb.setCell (p := ⟨w.heap.size, x.toNat, none⟩) (Nat.le_refl _) _⟩⟩, by simp only [intOf]; omega⟩
  rw [hwrId (by omega) (by omega)]
  refine (ha.set x hn _).congr fun y hy => ?_
  rw [e, ← hc, hd, List.count_cons, List.count_cons]
  by_cases z : y = x
  · subst z; simp
  · have z' : (x == y) = false := by simpa using fun q => z q.symm
    rw [if_neg z]; simp [z']
set_option maxRecDepth 100000 in
set_option maxHeartbeats 4000000 in
theorem sw_good (A0 : Option Addr) (c0 : Nat) (l : List Int) (w : World) (hr0 : Kd.C (Kd.int .i64) w A0 l.length l) (hl : Aside0 (l.length ≤ 1000000000000000)) (hgood : Aside0 (∀ x ∈ l, Hnum x)) (r1 r2 : Int) (HRa : Aside0 (l.length ≤ 65536 → r1 = ((nsw l : Nat) : Int) ∧ r2 = 0)) (HRb : Aside0 (¬ l.length ≤ 65536 → r1 = 0 ∧ r2 = 1)) :
    Calls Try.prog 62 #[.slice A0 l.length c0] w fun e w' => e = .returned (.tuple #[.int .i64 r1, .int .i64 r2]) ∧ Below w.heap.size w w' := by
  have HR0 := Aside0.mk hr0
  have hb0 := Arr.new w #[.int .i64 0, .int .i64 0, .int .i64 0, .int .i64 0, .int .i64 0, .int .i64 0, .int .i64 0, .int .i64 0, .int .i64 0, .int .i64 0, .int .i64 0, .int .i64 0, .int .i64 0, .int .i64 0, .int .i64 0, .int .i64 0] (by intro j hj; rcases (show j = 0 ∨ j = 1 ∨ j = 2 ∨ j = 3 ∨ j = 4 ∨ j = 5 ∨ j = 6 ∨ j = 7 ∨ j = 8 ∨ j = 9 ∨ j = 10 ∨ j = 11 ∨ j = 12 ∨ j = 13 ∨ j = 14 ∨ j = 15 by omega) with h | h | h | h | h | h | h | h | h | h | h | h | h | h | h | h <;> subst h <;> rfl)
  have HB0 := Aside0.mk hb0
  clear hr0 hb0
  go_enter Try.func62, Try.ntmps62
  go_wp2
  go_loopw [12] (fun p wr => ∃ i : Int, p = .int .i64 i ∧ Aside0 (0 ≤ i ∧ i ≤ (l.length : Int)) ∧ Aside0 (Arr wr w.heap.size (fun x => ((l.take i.toNat).count x : Nat))) ∧ Aside0 (∀ x ∈ l.take i.toNat, Hnum x) ∧ Aside0 (Below w.heap.size w wr)) (fun p _ => ((l.length : Int) - intOf p).toNat)
  case atStart => exact ⟨0, rfl, ⟨⟨Int.le_refl _, by omega⟩⟩, ⟨HB0.out.congr (fun x _ => by simp)⟩, ⟨by simp⟩, ⟨(Below.refl _ _).alloc (Nat.le_refl _) _⟩⟩
  case round =>
    obtain ⟨i, rfl, Hi, HA, HN, HB⟩ := hrel
    by_cases hlt : i < (l.length : Int)
    · have p0 : 0 ≤ i := Hi.out.1
      obtain ⟨ad, rfl, hxc⟩ := Kd.at_int (Kd.C_below HR0.out HB.out) i p0 hlt
      have hltb : decide (i < (l.length : Int)) = true := decide_eq_true hlt
      have HT := Aside0.mk (take_next l i p0 hlt)
      have HL := Aside0.mk hlt
      have HNum := Aside0.mk (rd_num l hgood.out i p0 hlt)
      replace p0 := eq_true p0
      replace hlt := eq_true hlt
      obtain ⟨x, hx⟩ : ∃ x, rd l i = x := ⟨_, rfl⟩
      rw [hx] at hxc HT HNum
      clear hx
      have x0b : decide (x < 0) = false := decide_eq_false (by have := HNum.out; unfold Hnum at this; omega)
      have x1b : decide (16 ≤ x) = false := decide_eq_false (by have := HNum.out; unfold Hnum at this; omega)
      obtain ⟨hcell, hfroz⟩ := HA.out x HNum.out
      have p0 : 0 ≤ x := HNum.out.1
      have p1 : x < 16 := HNum.out.2
      go_wp2
      exact ⟨arr_step l i x w wr hl.out Hi.out HL.out HT.out HNum.out HA.out HN.out HB.out, by rw [wr_next l i hl.out Hi.out HL.out]; simp only [intOf]; have := HL.out; omega⟩
    · have hltb : decide (i < (l.length : Int)) = false := decide_eq_false hlt
      have HA2 : Aside0 (Arr wr w.heap.size (fun x => ((l.drop (0 : Int).toNat).count x : Nat))) := ⟨HA.out.congr fun x _ => by rw [List.take_of_length_le (by have := Hi.out; omega)]; simp⟩
      clear hlt
      by_cases hbig : l.length ≤ 65536
      · have hbb : decide (65536 < (l.length : Int)) = false := decide_eq_false (by omega)
        obtain ⟨rfl, rfl⟩ := HRa.out hbig
        have HBIG := Aside0.mk hbig
        clear hbig
        go_wp2
        go_loopw [7, 33] (fun n p wr => ∃ (j : Int) (m : Nat), n = .int .i64 (m : Int) ∧ p = .int .i64 j ∧ Aside0 (0 ≤ j ∧ j ≤ (l.length : Int)) ∧ Aside0 (m + nsw (l.drop (j.toNat - 1)) = nsw l) ∧ Aside0 (Arr wr w.heap.size (fun x => ((l.drop j.toNat).count x : Nat))) ∧ Aside0 (Below w.heap.size w wr)) (fun _ p _ => ((l.length : Int) - intOf p).toNat)
        case atStart => exact ⟨0, 0, rfl, rfl, ⟨⟨Int.le_refl _, by omega⟩⟩, ⟨by simp⟩, HA2, HB⟩
        case round =>
          obtain ⟨j, m, rfl, rfl, Hj, HM, HA3, HB3⟩ := hrel
          by_cases hlt : j < (l.length : Int)
          · have p0 : 0 ≤ j := Hj.out.1
            have hC := Kd.C_below HR0.out HB3.out
            obtain ⟨ad, rfl, hxc⟩ := Kd.at_int hC j p0 hlt
            have hltb : decide (j < (l.length : Int)) = true := decide_eq_true hlt
            have HL := Aside0.mk hlt
            have HNum := Aside0.mk (rd_num l hgood.out j p0 hlt)
            obtain ⟨x, hx⟩ : ∃ x, rd l j = x := ⟨_, rfl⟩
            have HX := Aside0.mk hx
            rw [hx] at hxc HNum
            obtain ⟨cx, hcx⟩ : ∃ cx : Int, (((l.drop j.toNat).count x : Nat) : Int) = cx := ⟨_, rfl⟩
            obtain ⟨hcell, hfroz⟩ := HA3.out.at HNum.out hcx
            have HCX := Aside0.mk hcx
            clear hx hcx
            by_cases hj0 : 0 < j
            · have hj0b : decide (0 < j) = true := decide_eq_true hj0
              have hjm : 0 ≤ j - 1 := by omega
              have hjm2 : j - 1 < (l.length : Int) := by omega
              have hw1 : wrap64 (j - 1) = j - 1 := wrId (by omega) (by have := HBIG.out; omega)
              obtain ⟨ad2, e2, hyc⟩ := Kd.at_int hC (j - 1) hjm hjm2
              obtain rfl : ad = ad2 := by injection e2
              have HNy := Aside0.mk (rd_num l hgood.out (j - 1) hjm hjm2)
              obtain ⟨y, hy⟩ : ∃ y, rd l (j - 1) = y := ⟨_, rfl⟩
              have HY := Aside0.mk hy
              rw [hy] at hyc HNy
              rw [show (j - 1).toNat = j.toNat - 1 by omega] at hyc
              have HJ0 := Aside0.mk hj0
              clear hy e2
              by_cases hyx : y = x
              · have hb1 : (y != x) = false := bne_eq_false_iff_eq.2 hyx
                have HYX := Aside0.mk hyx
                clear hyx
                clear hC
                replace p0 := eq_true p0
                replace hlt := eq_true hlt
                have q1 := eq_true (show 1 ≤ j by omega)
                replace hjm := eq_true hjm
                replace hjm2 := eq_true hjm2
                clear hj0
                have px0 : 0 ≤ x := HNum.out.1
                have px1 : x < 16 := HNum.out.2
                go_wp2
                exact sw_step l j x cx m m 0 w wr HBIG.out Hj.out HL.out HX.out HNum.out HCX.out HA3.out HB3.out (by have := HM.out; have := sw_drop l j y x (by have := HJ0.out; omega) HL.out HY.out HX.out; rw [if_neg (fun z => z.1 HYX.out)] at this; omega) rfl
              · have hb1 : (y != x) = true := bne_iff_ne.2 hyx
                have HYX := Aside0.mk hyx
                clear hyx
                obtain ⟨cy, hcy⟩ : ∃ cy : Int, (((l.drop j.toNat).count y : Nat) : Int) = cy := ⟨_, rfl⟩
                obtain ⟨hcelly, hfrozy⟩ := HA3.out.at HNy.out hcy
                have HCY := Aside0.mk hcy
                clear hcy
                clear hC
                replace p0 := eq_true p0
                replace hlt := eq_true hlt
                have q1 := eq_true (show 1 ≤ j by omega)
                replace hjm := eq_true hjm
                replace hjm2 := eq_true hjm2
                clear hj0
                have px0 : 0 ≤ x := HNum.out.1
                have px1 : x < 16 := HNum.out.2
                have py0 : 0 ≤ y := HNy.out.1
                have py1 : y < 16 := HNy.out.2
                by_cases hc : 0 < cy
                · have hcb : decide (0 < cy) = true := decide_eq_true hc
                  have HC := Aside0.mk hc
                  clear hc
                  go_wp2
                  exact sw_step l j x cx m (m + 1) 1 w wr HBIG.out Hj.out HL.out HX.out HNum.out HCX.out HA3.out HB3.out (by have := HM.out; have := sw_drop l j y x (by have := HJ0.out; omega) HL.out HY.out HX.out; rw [if_pos ⟨HYX.out, by have h1 := HCY.out; have h2 := HC.out; omega⟩] at this; omega) (wr_m l m HBIG.out (by have := HM.out; omega))
                · have hcb : decide (0 < cy) = false := decide_eq_false hc
                  have HC := Aside0.mk hc
                  clear hc
                  go_wp2
                  exact sw_step l j x cx m m 0 w wr HBIG.out Hj.out HL.out HX.out HNum.out HCX.out HA3.out HB3.out (by have := HM.out; have := sw_drop l j y x (by have := HJ0.out; omega) HL.out HY.out HX.out; rw [if_neg (fun z => by have h1 := HCY.out; have h2 := HC.out; have := z.2; omega)] at this; omega) rfl
            · have hj0b : decide (0 < j) = false := decide_eq_false hj0
              have HJ0 := Aside0.mk hj0
              clear hC hj0
              replace p0 := eq_true p0
              replace hlt := eq_true hlt
              have px0 : 0 ≤ x := HNum.out.1
              have px1 : x < 16 := HNum.out.2
              go_wp2
              exact sw_step l j x cx m m 0 w wr HBIG.out Hj.out HL.out HX.out HNum.out HCX.out HA3.out HB3.out (by have h1 := HM.out; have h2 : j.toNat = 0 := (by have := HJ0.out; omega); rw [h2] at h1 ⊢; exact h1) rfl
          · have hltb : decide (j < (l.length : Int)) = false := decide_eq_false hlt
            have hm : m = nsw l := by
              have h1 := HM.out
              have h2 : j = (l.length : Int) := by have := Hj.out; omega
              rw [nsw_last l (j.toNat - 1) (by omega)] at h1
              omega
            subst hm
            clear hlt
            go_wp2
            go_ret2
            exact ⟨rfl, HB3.out⟩
      · have hbb : decide (65536 < (l.length : Int)) = true := decide_eq_true (by omega)
        obtain ⟨rfl, rfl⟩ := HRb.out hbig
        clear hbig
        go_wp2
        go_ret2
        exact ⟨rfl, HB.out⟩
end Go.Proofs.Ytfcjfjmjcmanaaa.X
