/- Least: the program's closures and calls. -/
import Derived.Test.YtfcjfjmjcmanaaaLeq
import Derived.Test.YtfcjfjmjcmanaaaXshelf
set_option linter.unusedVariables false
namespace Go.Proofs.Ytfcjfjmjcmanaaa.X
open Go.RowKit Go.Lib Go.Proofs.YtfcjfjmjcmanaaaW.PrintWords Go.Proofs.YtfcjfjmjcmanaaaW.PrintLast Go.Proofs.YtfcjfjmjcmanaaaW.PrintMore
theorem right_calls (h : Int) (w : World) : Calls Try.prog 84 #[.int .i64 h] w fun e w' => e = .returned (.bool (decide (Hnum h))) ∧ Drawn0 w w' := by
  by_cases h0 : 0 ≤ h
  · by_cases h1 : h < 16
    · have d : decide (Hnum h) = true := decide_eq_true (by unfold Hnum; omega)
      have d0 : decide (h ≥ 0) = true := decide_eq_true h0
      have d1 : decide (h < 16) = true := decide_eq_true h1
      rw [d]
      clear h0 h1
      go_enter Try.func84, Try.ntmps84
      go_wp2
      go_ret
      exact ⟨rfl, by repeat (first | exact Drawn0.refl _ | apply Drawn0.step)⟩
    · have d : decide (Hnum h) = false := decide_eq_false (by unfold Hnum; omega)
      have d0 : decide (h ≥ 0) = true := decide_eq_true h0
      have d1 : decide (h < 16) = false := decide_eq_false h1
      rw [d]
      clear h0 h1
      go_enter Try.func84, Try.ntmps84
      go_wp2
      go_ret
      exact ⟨rfl, by repeat (first | exact Drawn0.refl _ | apply Drawn0.step)⟩
  · have d : decide (Hnum h) = false := decide_eq_false (by unfold Hnum; omega)
    have d0 : decide (h ≥ 0) = false := decide_eq_false h0
    rw [d]
    clear h0
    go_enter Try.func84, Try.ntmps84
    go_wp2
    go_ret
    exact ⟨rfl, by repeat (first | exact Drawn0.refl _ | apply Drawn0.step)⟩
set_option maxRecDepth 100000 in
theorem stands_calls (F Lb I : Nat) (t : Int → Int → Bool) (h x i : Int) (ad : Addr) (n c : Nat) (w : World) (hT : Tab w F t) (hL : w.cell? ⟨Lb, 0, none⟩ = some (.slice (some ad) n c)) (hI : w.cell? ⟨I, 0, none⟩ = some (.int .i64 i)) (h0 : 0 ≤ i) (h1 : i < (n : Int))
    (hx : w.cell? (ad.add i.toNat) = some (.int .i64 x)) (nh : Hnum h) (nx : Hnum x) :
    Calls Try.prog 87 #[.int .i64 h, .pointer (some ⟨F, 0, none⟩), .pointer (some ⟨Lb, 0, none⟩), .pointer (some ⟨I, 0, none⟩)] w fun e w' => e = .returned (.bool (!t h x)) ∧ ∃ q, w' = w.drewN q := by
  obtain ⟨hcell, _⟩ := hT.cell nh nx
  have ph0 : 0 ≤ h := nh.1
  have ph1 : h < 16 := nh.2
  have px0 : 0 ≤ x := nx.1
  have px1 : x < 16 := nx.2
  replace h0 := eq_true h0
  replace h1 := eq_true h1
  generalize t h x = b at hcell ⊢
  clear hT nh nx
  go_enter Try.func87, Try.ntmps87
  go_wp2
  go_quiet (fail)
  go_wp2
  go_ret
  exact ⟨by cases b <;> rfl, ⟨_, rfl⟩⟩
def fin16 (h : Int) : Fin 16 := ⟨h.toNat % 16, Nat.mod_lt _ (by omega)⟩
theorem fin16_num {h : Int} (hn : Hnum h) : ((fin16 h).val : Int) = h := by unfold Hnum at hn; show ((h.toNat % 16 : Nat) : Int) = h; omega
theorem num_fin (z : Fin 16) : Hnum (z.val : Int) := ⟨by omega, by have := z.isLt; omega⟩
theorem any_front (t : Int → Int → Bool) (x : Int) : ∀ L : List Int, (∀ y ∈ L, Hnum y) → (L.map fin16).any (fun z => !t (z.val : Int) x) = !(L.all fun h => t h x)
  | [], _ => rfl
  | y :: L, h => by
    rw [List.map_cons, List.any_cons, List.all_cons, any_front t x L (fun z hz => h z (List.mem_cons_of_mem _ hz)), fin16_num (h y List.mem_cons_self)]
    cases t y x <;> rfl
theorem contains_calls (F Lb I : Nat) (t : Int → Int → Bool) (x i : Int) (L : List Int) (g cap : Nat) (w : World) (hT : Tab w F t) (hL : w.cell? ⟨Lb, 0, none⟩ = some (.slice (some ⟨g, 0, none⟩) L.length cap)) (hI : w.cell? ⟨I, 0, none⟩ = some (.int .i64 i)) (h0 : 0 ≤ i) (h1 : i < (L.length : Int))
    (hx : rd L i = x) (hn : ∀ y ∈ L, Hnum y) (hl : L.length ≤ 512) (hc : ∀ j : Nat, j < L.length → w.cell? ⟨g, j, none⟩ = some (.int .i64 (rd L (j : Int)))) (hF : F < w.heap.size) (hLb : Lb < w.heap.size) (hIb : I < w.heap.size) (hg : g < w.heap.size) :
    Calls Try.prog 86 #[.slice (some ⟨g, 0, none⟩) i.toNat cap, .func (.func 87) #[] #[.pointer (some ⟨F, 0, none⟩), .pointer (some ⟨Lb, 0, none⟩), .pointer (some ⟨I, 0, none⟩)]] w fun e w' => e = .returned (.bool (!front t L i.toNat)) ∧ ∃ q, w' = w.drewN q := by
  have nx : Hnum x := by rw [← hx]; exact hrd_num L hn i h0 h1
  have hfr : ((L.map fin16).take i.toNat).any (fun z => !t (z.val : Int) x) = !front t L i.toNat := by
    unfold front
    rw [← List.map_take, any_front t x (L.take i.toNat) (fun y hy => hn y (List.mem_of_mem_take hy)), Int.toNat_of_nonneg h0, hx]
  rw [← hfr]
  refine Try.slices_ContainsFunc (fun z : Fin 16 => Value.int .i64 (z.val : Int)) (fun z => !t (z.val : Int) x) 87 _ (enters_of Try.func87 (by kernel_rfl) rfl) g 0 i.toNat cap (L.map fin16) w ?_ (by rw [List.length_map]; omega) (by omega) ?_
  · intro W z hb
    have hcW := hc i.toNat (by omega)
    rw [Int.toNat_of_nonneg h0, hx] at hcW
    refine stands_calls F Lb I t (z.val : Int) x i ⟨g, 0, none⟩ L.length cap W (hT.below hF hb) ((hb.cell (p := ⟨Lb, 0, none⟩) hLb).trans hL) ((hb.cell (p := ⟨I, 0, none⟩) hIb).trans hI) h0 h1 ?_ (num_fin z) nx
    have hadd : (⟨g, 0, none⟩ : Addr).add i.toNat = ⟨g, i.toNat, none⟩ := by unfold Addr.add; split <;> simp_all
    rw [hadd]
    exact (hb.cell (p := ⟨g, i.toNat, none⟩) hg).trans hcW
  · intro j hj
    rw [List.length_map] at hj
    have e : (L.map fin16)[j]! = fin16 (rd L (j : Int)) := by
      rw [getElem!_pos (L.map fin16) j (by rw [List.length_map]; exact hj), List.getElem_map]
      congr 1
      unfold rd; rw [Int.toNat_natCast, List.getD_eq_getElem?_getD, List.getElem?_eq_getElem hj]; rfl
    rw [Nat.zero_add, hc j hj, e, fin16_num (hrd_num L hn j (by omega) (by omega))]
theorem delete_calls (L : List Int) (v : Value) (base : Nat) (ok : Nat → Prop) (b : Nat) (hb : b < L.length) (w : World) (hR : Kd.R (Kd.int .i64) 3 w base ok v L) :
    Calls Try.prog 88 #[v, .int .i64 (b : Int), .int .i64 ((b : Int) + 1)] w fun e w' => ∃ v', e = .returned v' ∧ Kd.R (Kd.int .i64) 3 w' base ok v' (L.take b ++ L.drop (b + 1)) ∧ v'.ownBlock = v.ownBlock ∧ w.grownBy w' v.ownBlock := by
  have ho := Kd.own_of_R hR
  have hok := hR.1
  obtain ⟨h1, h2⟩ := ho
  rcases h2 with ⟨_, h0⟩ | ⟨g, cap, cur, rfl, hbg, hh, hlc, hm, hs, ht⟩
  · omega
  have hlenN : (L.take b ++ L.drop (b + 1)).length = L.length - 1 := by rw [List.length_append, List.length_take, List.length_drop]; omega
  rw [Nat.mul_one] at hs ht
  have hcell : ∀ j, j < L.length → w.cell? ⟨g, 0 + j, none⟩ = some (.int .i64 (L.getD j 0)) := fun j hj => by
    rw [Nat.zero_add, cell_of_row w g j cur 3 (0, 0) hh, ← Array.getElem?_toList]
    have : (cur.toList.take L.length)[j]? = cur.toList[j]? := by rw [List.getElem?_take, if_pos hj]
    rw [← this, ht]
    unfold encs
    rw [List.getElem?_map, List.getElem?_eq_getElem hj, List.getD_eq_getElem?_getD, List.getElem?_eq_getElem hj]; rfl
  have hcall := Try.slices_Delete_int_cells g 0 L.length cap b (b + 1) L w (Nat.le_refl _) hlc (by unfold maxLen at hm; omega) (by omega) (by omega) hcell (fun j hj => by
    unfold World.frozen?
    rw [hh]; simp)
  rw [List.take_length, show b + 1 - b = 1 by omega] at hcall
  refine hcall.mono ?_
  rintro e w' ⟨rfl, q, rfl⟩
  have hh' : (w.drewN q).heap[g]? = some (.cells cur 3 (0, 0)) := hh
  have hvl : ((L.take b ++ L.drop (b + 1) ++ List.replicate 1 (0 : Int)).map (Value.int .i64)).length = L.length := by rw [List.length_map, List.length_append, List.length_replicate, hlenN]; omega
  obtain ⟨cur', hr1, hr2, hr3⟩ := setCells_row (e := 3) _ 0 (w.drewN q) cur hh' (by rw [hvl]; omega)
  obtain ⟨s1, s2, s3, s4⟩ := setCells_same g ((L.take b ++ L.drop (b + 1) ++ List.replicate 1 (0 : Int)).map (Value.int .i64)) 0 (w.drewN q)
  refine ⟨_, rfl, Kd.R_of_own ⟨by simp [encs], .inr ⟨g, cap, cur', by rw [hlenN], hbg, hr1, by omega, hm, by rw [hr2, hs, Nat.mul_one], ?_⟩⟩ hok, rfl, ⟨s1, s2, s3, by rw [s4]; exact Nat.le_refl _, fun k hk hne => setCells_far _ 0 k (fun z => hne (by rw [z]; rfl))⟩⟩
  rw [hr3, List.take_zero, List.nil_append, Nat.mul_one, List.take_append_of_le_length (by rw [hvl, hlenN]; omega), List.map_append, List.take_append_of_le_length (by rw [List.length_map]; exact Nat.le_refl _), List.take_of_length_le (by rw [List.length_map]; exact Nat.le_refl _)]
  rfl
end Go.Proofs.Ytfcjfjmjcmanaaa.X
