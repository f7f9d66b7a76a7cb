/- All: the walk of the document's Next. -/
import Derived.Test.YtfcjfjmjcmanaaaVd
set_option linter.unusedVariables false
namespace Go.Proofs.Ytfcjfjmjcmanaaa.V
open Go Go.RowKit Go.Proofs.Ytfcjfjmjcmanaaa.O Go.Proofs.Ytfcjfjmjcmanaaa.B Go.Proofs.YtfcjfjmjcmanaaaW.PrintWords Go.Proofs.YtfcjfjmjcmanaaaW.PrintLast Go.Proofs.YtfcjfjmjcmanaaaW.PrintMore
variable {W : World} {T : Nat → Prop} {v : Value}
theorem half28_set {H D j m x : Nat} {y : Int} (hx : x + 1 + j = D) {A : List Int} {d : Int} (e : digs H (D - j) m = A ++ [d]) : (digs H (D - j) m ++ List.replicate j 0).set x y = A ++ y :: List.replicate j 0 := by
  have hA : A.length = x := by
    have := congrArg List.length e
    rw [digs_len] at this
    simp at this; omega
  rw [e, List.append_assoc, List.set_append_right _ _ (by omega), hA]
  simp
theorem half28_rd {H D j m x : Nat} (hx : x + 1 + j = D) : rd (digs H (D - j) m ++ List.replicate j 0) (x : Int) = ((m % H : Nat) : Int) := by
  have hl : x < (digs H (D - j) m ++ List.replicate j 0).length := by simp [digs_len]; omega
  rw [rd_nat _ _ hl]
  obtain ⟨t, ht⟩ : ∃ t, D - j = t + 1 := ⟨D - j - 1, by omega⟩
  have hx2 : x = t := by omega
  subst hx2
  rw [List.getElem_append_left (by rw [digs_len]; omega)]
  simp only [ht]
  have h2 : x < (digs H x (m / H) ++ [((m % H : Nat) : Int)]).length := by simp [digs_len]
  show (digs H x (m / H) ++ [((m % H : Nat) : Int)])[x]'h2 = _
  rw [List.getElem_append_right (by rw [digs_len]; exact Nat.le_refl _)]
  simp [digs_len]
theorem digs_lt (H D n : Nat) (hH : 0 < H) : ∀ x ∈ digs H D n, 0 ≤ x ∧ x < (H : Int) := by
  induction D generalizing n with
  | zero => intro x hx; cases hx
  | succ D ih =>
    intro x hx
    rcases List.mem_append.1 hx with h | h
    · exact ih _ x h
    · simp at h
      subst h
      have := Nat.mod_lt n hH
      omega
def nextOf (H D k : Nat) : Bool × List Int := if k + 1 < H ^ D then (true, digs H D (k + 1)) else (false, [])
theorem nextOf_pos {H D k : Nat} (h : k + 1 < H ^ D) : nextOf H D k = (true, digs H D (k + 1)) := if_pos h
theorem nextOf_neg {H D k : Nat} (h : ¬ k + 1 < H ^ D) : nextOf H D k = (false, []) := if_neg h
set_option maxRecDepth 100000
set_option maxHeartbeats 4000000
theorem next_calls (H D k : Nat) (hH : 1 ≤ H ∧ H ≤ 16) (hD : D ≤ 24) (hk : k < H ^ D) (hv : SlB W T v (digs H D k)) : Calls Try.prog 28 #[v, .int .i64 (H : Int)] W fun e W' =>
    ∃ v', e = .returned (.tuple #[v', .bool (nextOf H D k).1]) ∧ SlB W' (fun j => W.heap.size ≤ j) v' (nextOf H D k).2 ∧ Below W.heap.size W W' := by
  obtain ⟨A, c, eV⟩ := hv.slice
  rw [digs_len] at eV
  subst eV
  have HV := Aside0.mk hv
  have HK := Aside0.mk hk
  have wd : wrap64 ((D : Int) - 1) = (D : Int) - 1 := X.hwrId (by omega) (by omega)
  clear hv hk
  go_enter Try.func28, Try.ntmps28
  go_wp2_with ((with_reducible refine gate_builtin (b := .append) (xs := #[.tmp 8, .tmp 9]) rfl ?_); at_builtin; refine wpList_cat rfl _ _ rfl (RI.nil W (fun _ => False)) HV.out (by rw [digs_len]; simp; omega) rfl rfl ?_; intro m1 w1 h1 h2 h3; have hs1 := (h1.slB.mono (T' := fun j => W.heap.size ≤ j) (fun j _ hj => by rcases hj with z | z; exact z.elim; omega)); have hb1 : Below W.heap.size W w1 := ⟨h2.os, h2.tape, h2.output, h2.size, fun b hb => h2.block b hb (by simp [Value.ownBlock])⟩; obtain ⟨A1, c1, e1⟩ := hs1.slice; rw [List.nil_append, digs_len] at e1; subst e1; rw [List.nil_append] at hs1; have HS0 := Aside0.mk hs1; have HB0 := Aside0.mk hb1; clear h1 h2 h3 hs1 hb1)
  go_loopw [7] (fun p wr => ∃ j m : Nat, p = .int .i64 ((D : Int) - 1 - (j : Int)) ∧ Aside0 (Rd28 H D k j m) ∧ Aside0 (SlB wr (fun q => W.heap.size ≤ q) (.slice A1 D c1) (digs H (D - j) m ++ List.replicate j 0)) ∧ Aside0 (Below W.heap.size W wr)) (fun p _ => (1 + intOf p).toNat)
  case atStart => exact ⟨0, k, by simp, ⟨⟨by omega, by simp⟩⟩, ⟨by simpa using HS0.out⟩, HB0⟩
  case round =>
    clear HS0 HB0
    obtain ⟨j, m, rfl, HR, HS, HB⟩ := hrel
    by_cases hj : j < D
    · obtain ⟨x, hx⟩ : ∃ x : Nat, D - 1 - j = x := ⟨_, rfl⟩
      have hx2 : (D : Int) - 1 - (j : Int) = (x : Int) := by omega
      rw [hx2]
      have HX := Aside0.mk (show x + 1 + j = D by omega)
      have hlen : (digs H (D - j) m ++ List.replicate j 0).length = D := by simp [digs_len]; omega
      have x0 : ((0 : Int) ≤ (x : Int)) = True := eq_true (by omega)
      have x1 : ((x : Int) < (D : Int)) = True := eq_true (by omega)
      have x2 : (x < D) = True := eq_true (by omega)
      obtain ⟨ad, rfl, hcx⟩ := HS.out.cell (x : Int) (by omega) (by rw [hlen]; omega)
      rw [Int.toNat_natCast, half28_rd HX.out] at hcx
      have hyl := Nat.mod_lt m (show 0 < H by omega)
      obtain ⟨y, hy⟩ : ∃ y, m % H = y := ⟨_, rfl⟩
      rw [hy] at hcx hyl
      have HY := Aside0.mk hy
      have HJ := Aside0.mk hj
      have HLN := Aside0.mk hlen
      have wy : wrap64 ((y : Int) + 1) = (y : Int) + 1 := X.hwrId (by omega) (by omega)
      have wx := Aside0.mk (show wrap64 ((x : Int) - 1) = (D : Int) - 1 - ((j + 1 : Nat) : Int) by rw [X.hwrId (by omega) (by omega)]; omega)
      have key : ∀ z : Int, wr.frozen? (ad.add x) = false ∧ SlB (wr.setCell (ad.add x) (.int .i64 z)) (fun q => W.heap.size ≤ q) (.slice (some ad) D c1) ((digs H (D - j) m ++ List.replicate j 0).set x z) ∧ Below W.heap.size W (wr.setCell (ad.add x) (.int .i64 z)) := fun z => by
        obtain ⟨k1, k2, k3⟩ := HS.out.set x (by rw [HLN.out]; omega) z
        exact ⟨k1, k2, HB.out.trans ((Turn.of_grown k3 (T := fun q => W.heap.size ≤ q) (fun q hq => by cases hq; exact (HS.out.own (j := ad.block) rfl).1)).below (fun b hb => hb) HB.out.size)⟩
      have KEY := Aside0.mk key
      have hf := (key 0).1
      by_cases hq : y + 1 < H
      · have f := HR.out.found hj hH.1 HK.out (by rw [HY.out]; exact hq)
        have F := Aside0.mk f
        have t1 : ((y : Int) + 1 < (H : Int)) = True := eq_true (by omega)
        have t2 : (y + 1 < H) = True := eq_true hq
        clear f key hx hx2 hy hj hlen hq
        go_wp2
        go_ret2
        refine ⟨.slice (some ad) D c1, ?_, ?_, (KEY.out _).2.2⟩
        · rw [nextOf_pos F.out.1]; rfl
        rw [nextOf_pos F.out.1]
        show SlB _ _ _ (digs H D (k + 1))
        have h1 := (KEY.out ((y : Int) + 1)).2.1
        rw [half28_set HX.out F.out.2.2.1] at h1
        rw [← F.out.2.1, F.out.2.2.2, HY.out, List.append_assoc]
        exact h1
      · have f := HR.out.next hj hH.1 (by rw [HY.out]; exact hq)
        have F := Aside0.mk f
        have t1 : ((y : Int) + 1 < (H : Int)) = False := eq_false (by omega)
        have t2 : (y + 1 < H) = False := eq_false hq
        clear f key hx hx2 hy hj hlen hq
        go_wp2
        have hdg : digs H (D - j) m = digs H (D - (j + 1)) (m / H) ++ [((m % H : Nat) : Int)] := by
          obtain ⟨t, ht⟩ : ∃ t, D - j = t + 1 := ⟨D - j - 1, by have := HJ.out; omega⟩
          rw [ht, show D - (j + 1) = t by omega]; rfl
        refine ⟨⟨j + 1, m / H, by rw [wx.out], F, ⟨?_⟩, ⟨(KEY.out 0).2.2⟩⟩, by rw [wx.out]; simp only [intOf]; have := HX.out; omega⟩
        have h1 := (KEY.out 0).2.1
        rw [half28_set HX.out hdg] at h1
        exact h1
    · have hjD : j = D := by have := HR.out.hj; omega
      subst hjD
      rw [show (j : Int) - 1 - (j : Int) = -1 by omega]
      have F := Aside0.mk HR.out.last
      clear hj
      go_wp2
      go_ret2
      refine ⟨.slice none 0 0, ?_, ?_, HB.out⟩
      · rw [nextOf_neg F.out]; rfl
      rw [nextOf_neg F.out]
      exact .inl ⟨rfl, rfl⟩
end Go.Proofs.Ytfcjfjmjcmanaaa.V
