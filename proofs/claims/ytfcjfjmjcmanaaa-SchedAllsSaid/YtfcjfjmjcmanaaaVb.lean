/- All: how many lists; the walks of All and CanAll. -/
import Derived.Test.YtfcjfjmjcmanaaaVa
import Derived.Test.YtfcjfjmjcmanaaaCc
set_option linter.unusedVariables false
namespace Go.Proofs.Ytfcjfjmjcmanaaa.V
open Go Go.RowKit Go.Proofs.Ytfcjfjmjcmanaaa.O Go.Proofs.Ytfcjfjmjcmanaaa.B Go.Proofs.YtfcjfjmjcmanaaaW.PrintWords Go.Proofs.YtfcjfjmjcmanaaaW.PrintLast Go.Proofs.YtfcjfjmjcmanaaaW.PrintMore
def hnd (h : Int) : Bool := if 1 ≤ h then decide (h ≤ 16) else false
theorem hnd_iff (h : Int) : hnd h = true ↔ 1 ≤ h ∧ h ≤ 16 := by unfold hnd; split <;> simp <;> omega
theorem hnd_calls (h : Int) (w : World) : Calls Try.prog 70 #[.int .i64 h] w fun e w' => e = .returned (.bool (hnd h)) ∧ w' = w := by
  unfold hnd
  by_cases h1 : 1 ≤ h
  · rw [if_pos h1]
    have h1b : decide (1 ≤ h) = true := decide_eq_true h1
    go_enter Try.func70, Try.ntmps70
    go_wp2
    go_ret
    exact ⟨by first | rfl | (simp; done) | (simp [*]; done), rfl⟩
  · rw [if_neg h1]
    have h1b : decide (1 ≤ h) = false := decide_eq_false h1
    go_enter Try.func70, Try.ntmps70
    go_wp2
    go_ret
    exact ⟨by first | rfl | (simp; done) | (simp [*]; done), rfl⟩
/-- May All go over anything? -/
def okAll (h d : Int) : Prop := (1 ≤ h ∧ h ≤ 16) ∧ (0 ≤ d ∧ d ≤ 24) ∧ h.toNat ^ d.toNat ≤ 1048576
instance (h d : Int) : Decidable (okAll h d) := by unfold okAll; infer_instance
def cntAll (h d : Int) : Nat := if okAll h d then h.toNat ^ d.toNat else 0
/-- What All's loop holds: i rounds, a lists. -/
def Inv25 (h d : Int) (i a : Nat) : Prop := i ≤ d.toNat ∧ ((((1 ≤ h ∧ h ≤ 16) ∧ (0 ≤ d ∧ d ≤ 24)) ∧ a = h.toNat ^ i ∧ a ≤ 1048576) ∨ (a = 0 ∧ ¬ okAll h d))
theorem inv25_end {h d : Int} {i a : Nat} (v : Inv25 h d i a) (e : ¬ ((i : Int) < d) ∨ ¬ (0 < a)) : a = cntAll h d := by
  obtain ⟨hi, ⟨⟨hr, hd⟩, ha, hle⟩ | ⟨ha, hn⟩⟩ := v
  · have hpos : 0 < h.toNat ^ i := Nat.pow_pos (by omega)
    have hid : i = d.toNat := by omega
    unfold cntAll
    subst hid
    rw [if_pos ⟨hr, hd, by rw [← ha]; exact hle⟩, ha]
  · unfold cntAll
    rw [if_neg hn, ha]
theorem inv25_next {h d : Int} {i a : Nat} (v : Inv25 h d i a) (e : (i : Int) < d) (e2 : 0 < a) : ((1 ≤ h ∧ h ≤ 16) ∧ (0 ≤ d ∧ d ≤ 24)) ∧ i ≤ 24 ∧ wrap64 ((a : Int) * h) = ((a * h.toNat : Nat) : Int) ∧ ((a * h.toNat ≤ 1048576 ∧ Inv25 h d (i + 1) (a * h.toNat)) ∨ (1048576 < a * h.toNat ∧ Inv25 h d (i + 1) 0)) := by
  obtain ⟨hi, ⟨⟨hr, hd⟩, ha, hle⟩ | ⟨ha, hn⟩⟩ := v
  · obtain ⟨H, rfl⟩ : ∃ H : Nat, h = (H : Int) := ⟨h.toNat, by omega⟩
    rw [Int.toNat_natCast] at *
    have hH : H ≤ 16 := by omega
    have hb : a * H ≤ 1048576 * 16 := Nat.mul_le_mul hle hH
    have hc : (a : Int) * (H : Int) = ((a * H : Nat) : Int) := by rw [Int.natCast_mul]
    refine ⟨⟨hr, hd⟩, by omega, by rw [hc, X.hwrId (by omega) (by omega)], ?_⟩
    by_cases hx : a * H ≤ 1048576
    · refine .inl ⟨hx, by omega, .inl ⟨⟨hr, hd⟩, ?_, hx⟩⟩
      rw [Int.toNat_natCast, Nat.pow_succ, ← ha]
    · refine .inr ⟨by omega, by omega, .inr ⟨rfl, fun hok => ?_⟩⟩
      have h3 := hok.2.2
      rw [Int.toNat_natCast] at h3
      have h4 : H ^ (i + 1) ≤ H ^ d.toNat := Nat.pow_le_pow_right (by omega) (by omega)
      rw [Nat.pow_succ, ← ha] at h4
      omega
  · omega
theorem inv25_start (h d : Int) : (((1 ≤ h ∧ h ≤ 16) ∧ (0 ≤ d ∧ d ≤ 24)) ∧ Inv25 h d 0 1) ∨ (¬ ((1 ≤ h ∧ h ≤ 16) ∧ (0 ≤ d ∧ d ≤ 24)) ∧ Inv25 h d 0 0) := by
  by_cases hr : (1 ≤ h ∧ h ≤ 16) ∧ (0 ≤ d ∧ d ≤ 24)
  · exact .inl ⟨hr, by omega, .inl ⟨hr, rfl, by omega⟩⟩
  · exact .inr ⟨hr, by omega, .inr ⟨rfl, fun h => hr ⟨h.1, h.2.1⟩⟩⟩
set_option maxRecDepth 100000
set_option maxHeartbeats 4000000
/-- All: a closure over three boxes. -/
theorem all_calls (h d : Int) (W : World) : Calls Try.prog 25 #[.int .i64 h, .int .i64 d] W fun e W' => e = .returned (.func (.func 71) #[] #[.pointer (some ⟨W.heap.size + 2, 0, none⟩), .pointer (some ⟨W.heap.size + 1, 0, none⟩), .pointer (some ⟨W.heap.size, 0, none⟩)]) ∧
    Boxed W' (W.heap.size + 2) 3 (.int .i64 (cntAll h d : Int)) ∧ Boxed W' (W.heap.size + 1) 3 (.int .i64 d) ∧ Boxed W' W.heap.size 3 (.int .i64 h) ∧ Below W.heap.size W W' := by
  have hbx : ∀ x : Int, Boxed (((W.alloc (.cells #[.int .i64 h] 3)).alloc (.cells #[.int .i64 d] 3)).alloc (.cells #[.int .i64 x] 3)) W.heap.size 3 (.int .i64 h) ∧ Boxed (((W.alloc (.cells #[.int .i64 h] 3)).alloc (.cells #[.int .i64 d] 3)).alloc (.cells #[.int .i64 x] 3)) (W.heap.size + 1) 3 (.int .i64 d) ∧ Boxed (((W.alloc (.cells #[.int .i64 h] 3)).alloc (.cells #[.int .i64 d] 3)).alloc (.cells #[.int .i64 x] 3)) (W.heap.size + 2) 3 (.int .i64 x) ∧ Below W.heap.size W (((W.alloc (.cells #[.int .i64 h] 3)).alloc (.cells #[.int .i64 d] 3)).alloc (.cells #[.int .i64 x] 3)) := fun x => by
    have b1 := ((Boxed.new W 3 (.int .i64 h)).alloc (.cells #[.int .i64 d] 3)).alloc (.cells #[.int .i64 x] 3)
    have b2 := (Boxed.new (W.alloc (.cells #[.int .i64 h] 3)) 3 (.int .i64 d)).alloc (.cells #[.int .i64 x] 3)
    have b3 := Boxed.new ((W.alloc (.cells #[.int .i64 h] 3)).alloc (.cells #[.int .i64 d] 3)) 3 (.int .i64 x)
    simp only [World.size_alloc] at b2 b3
    exact ⟨b1, b2, b3, ((((Below.refl _ W).alloc (Nat.le_refl _) _).alloc (by simp) _).alloc (by simp; omega) _)⟩
  have HBX := Aside0.mk hbx
  have HST := Aside0.mk (inv25_start h d)
  clear hbx
  obtain ⟨B, hB⟩ : ∃ B, W.heap.size = B := ⟨_, rfl⟩
  rw [hB]
  have HB := Aside0.mk hB
  have hs : ∀ a : Nat, Inv25 h d 0 a → ∃ i a', Value.int IntKind.i64 0 = Value.int IntKind.i64 ((i : Nat) : Int) ∧ Aside0 (Inv25 h d i a') ∧ Aside0 (Boxed (((W.alloc (.cells #[.int .i64 h] 3)).alloc (.cells #[.int .i64 d] 3)).alloc (.cells #[.int .i64 (a : Int)] 3)) (B + 2) 3 (.int .i64 (a' : Int))) ∧ Aside0 (Boxed (((W.alloc (.cells #[.int .i64 h] 3)).alloc (.cells #[.int .i64 d] 3)).alloc (.cells #[.int .i64 (a : Int)] 3)) (B + 1) 3 (.int .i64 d)) ∧ Aside0 (Boxed (((W.alloc (.cells #[.int .i64 h] 3)).alloc (.cells #[.int .i64 d] 3)).alloc (.cells #[.int .i64 (a : Int)] 3)) B 3 (.int .i64 h)) ∧ Aside0 (Below B W (((W.alloc (.cells #[.int .i64 h] 3)).alloc (.cells #[.int .i64 d] 3)).alloc (.cells #[.int .i64 (a : Int)] 3))) := fun a ha => by
    have hx := HBX.out a
    rw [hB] at hx
    exact ⟨0, a, rfl, ⟨ha⟩, ⟨hx.2.2.1⟩, ⟨hx.2.1⟩, ⟨hx.1⟩, ⟨hx.2.2.2⟩⟩
  have HS := Aside0.mk hs
  clear hs
  go_enter Try.func25, Try.ntmps25
  go_wp2
  all_goals (
    go_loopw [6] (fun p wr => ∃ i a : Nat, p = .int .i64 (i : Int) ∧ Aside0 (Inv25 h d i a) ∧ Aside0 (Boxed wr (B + 2) 3 (.int .i64 (a : Int))) ∧ Aside0 (Boxed wr (B + 1) 3 (.int .i64 d)) ∧ Aside0 (Boxed wr B 3 (.int .i64 h)) ∧ Aside0 (Below B W wr)) (fun p _ => (d - intOf p).toNat)
    case atStart =>
      first
        | exact HS.out 1 (by rcases HST.out with ⟨_, z⟩ | ⟨z, _⟩; exact z; exact absurd (by omega) z)
        | exact HS.out 0 (by rcases HST.out with ⟨z, _⟩ | ⟨_, z⟩; exact absurd z (by omega); exact z)
    case round =>
      obtain ⟨i, a, rfl, HI, H5, H3, H2, HW⟩ := hrel
      have c5 := H5.out.cell
      have f5 := H5.out.frozen
      have c3 := H3.out.cell
      have c2 := H2.out.cell
      by_cases hlt : (i : Int) < d
      · by_cases ha : 0 < a
        · obtain ⟨hrr, hi24, hm, hcase⟩ := inv25_next HI.out hlt ha
          obtain ⟨q, hq⟩ : ∃ q, a * h.toNat = q := ⟨_, rfl⟩
          rw [hq] at hm hcase
          have hai : (0 < (a : Int)) = True := eq_true (by omega)
          have wi := Aside0.mk (w1 i (by omega))
          have HLT := Aside0.mk hlt
          have set5 : ∀ x : Int, Boxed (wr.setCell ⟨B + 2, 0, none⟩ (.int .i64 x)) (B + 2) 3 (.int .i64 x) ∧ Boxed (wr.setCell ⟨B + 2, 0, none⟩ (.int .i64 x)) (B + 1) 3 (.int .i64 d) ∧ Boxed (wr.setCell ⟨B + 2, 0, none⟩ (.int .i64 x)) B 3 (.int .i64 h) ∧ Below B W (wr.setCell ⟨B + 2, 0, none⟩ (.int .i64 x)) := fun x => ⟨H5.out.set _, H3.out.other (by omega) _, H2.out.other (by omega) _, HW.out.setCell (p := ⟨B + 2, 0, none⟩) (by show B ≤ B + 2; omega) _⟩
          have S5 := Aside0.mk set5
          clear set5 hq
          have hms : (d - ((i + 1 : Nat) : Int)).toNat < (d - (i : Int)).toNat := by omega
          replace hlt := eq_true hlt
          replace ha := eq_true ha
          have HRR := Aside0.mk hrr
          rcases hcase with ⟨hx, hv⟩ | ⟨hx, hv⟩
          · have HV := Aside0.mk hv
            have hx1 : ((1048576 : Int) < (q : Int)) = False := eq_false (by omega)
            have hx2 : (1048576 < q) = False := eq_false (by omega)
            clear hx hv hi24 hrr
            first
              | (exfalso; have := HRR.out; omega)
              | (go_wp2
                 exact ⟨⟨i + 1, q, by first | rfl | rw [wi.out], HV, ⟨(S5.out _).1⟩, ⟨(S5.out _).2.1⟩, ⟨(S5.out _).2.2.1⟩, ⟨(S5.out _).2.2.2⟩⟩, by first | exact hms | (rw [wi.out]; exact hms)⟩)
          · have HV := Aside0.mk hv
            have hx1 : ((1048576 : Int) < (q : Int)) = True := eq_true (by omega)
            have hx2 : (1048576 < q) = True := eq_true (by omega)
            have f5' := (S5.out (q : Int)).1.frozen
            have S6 := Aside0.mk (show Boxed ((wr.setCell ⟨B + 2, 0, none⟩ (.int .i64 (q : Int))).setCell ⟨B + 2, 0, none⟩ (.int .i64 0)) (B + 2) 3 (.int .i64 0) ∧ Boxed ((wr.setCell ⟨B + 2, 0, none⟩ (.int .i64 (q : Int))).setCell ⟨B + 2, 0, none⟩ (.int .i64 0)) (B + 1) 3 (.int .i64 d) ∧ Boxed ((wr.setCell ⟨B + 2, 0, none⟩ (.int .i64 (q : Int))).setCell ⟨B + 2, 0, none⟩ (.int .i64 0)) B 3 (.int .i64 h) ∧ Below B W ((wr.setCell ⟨B + 2, 0, none⟩ (.int .i64 (q : Int))).setCell ⟨B + 2, 0, none⟩ (.int .i64 0)) from ⟨(S5.out q).1.set _, (S5.out q).2.1.other (by omega) _, (S5.out q).2.2.1.other (by omega) _, (S5.out q).2.2.2.setCell (p := ⟨B + 2, 0, none⟩) (by show B ≤ B + 2; omega) _⟩)
            clear hx hv hi24 hrr
            first
              | (exfalso; have := HRR.out; omega)
              | (go_wp2
                 exact ⟨⟨i + 1, 0, by first | rfl | rw [wi.out], HV, ⟨S6.out.1⟩, ⟨S6.out.2.1⟩, ⟨S6.out.2.2.1⟩, ⟨S6.out.2.2.2⟩⟩, by first | exact hms | (rw [wi.out]; exact hms)⟩)
        · have HE := Aside0.mk (inv25_end HI.out (.inr ha))
          have hai : (0 < (a : Int)) = False := eq_false (by omega)
          replace hlt := eq_true hlt
          replace ha := eq_false ha
          go_wp2
          go_ret
          exact ⟨rfl, by rw [← HE.out]; exact H5.out, H3.out, H2.out, HW.out⟩
      · have HE := Aside0.mk (inv25_end HI.out (.inl hlt))
        replace hlt := eq_false hlt
        go_wp2
        go_ret
        exact ⟨rfl, by rw [← HE.out]; exact H5.out, H3.out, H2.out, HW.out⟩)
/-- CanAll of the document. -/
theorem canAll_calls (h d : Int) (W : World) : Calls Try.prog 26 #[.int .i64 h, .int .i64 d] W fun e W' => e = .returned (.bool (decide (okAll h d))) ∧ Drawn0 W W' := by
  by_cases hr : (1 ≤ h ∧ h ≤ 16) ∧ (0 ≤ d ∧ d ≤ 24)
  · have HST := Aside0.mk (inv25_start h d)
    have HR := Aside0.mk hr
    have a1 : (h < 1) = False := eq_false (by omega)
    have a2 : (16 < h) = False := eq_false (by omega)
    have a3 : (d < 0) = False := eq_false (by omega)
    have a4 : (24 < d) = False := eq_false (by omega)
    clear hr
    go_enter Try.func26, Try.ntmps26
    go_wp2
    go_loopw [5, 6] (fun q p wr => ∃ i a : Nat, q = .int .i64 (a : Int) ∧ p = .int .i64 (i : Int) ∧ Aside0 (0 < a ∧ Inv25 h d i a) ∧ Drawn0 W wr) (fun _ p _ => (d - intOf p).toNat)
    case atStart => exact ⟨0, 1, rfl, rfl, ⟨by omega, by rcases HST.out with ⟨_, z⟩ | ⟨z, _⟩; exact z; exact absurd HR.out z⟩, Drawn0.refl _⟩
    case round =>
      obtain ⟨i, a, rfl, rfl, HI, ⟨m, rfl⟩⟩ := hrel
      by_cases hlt : (i : Int) < d
      · obtain ⟨hrr, hi24, hm, hcase⟩ := inv25_next HI.out.2 hlt HI.out.1
        obtain ⟨q, hq⟩ : ∃ q, a * h.toNat = q := ⟨_, rfl⟩
        rw [hq] at hm hcase
        have wi := Aside0.mk (w1 i (by omega))
        have hms : (d - ((i + 1 : Nat) : Int)).toNat < (d - (i : Int)).toNat := by omega
        have HQ : Aside0 (0 < q) := ⟨by rw [← hq]; exact Nat.mul_pos HI.out.1 (by have := HR.out; omega)⟩
        replace hlt := eq_true hlt
        rcases hcase with ⟨hx, hv⟩ | ⟨hx, hv⟩
        · have HV := Aside0.mk hv
          have hx1 : ((1048576 : Int) < (q : Int)) = False := eq_false (by omega)
          have hx2 : (1048576 < q) = False := eq_false (by omega)
          clear hx hv hi24 hrr hq
          go_wp2
          exact ⟨⟨i + 1, q, by first | rfl | rw [hm], by first | rfl | rw [wi.out], ⟨HQ.out, HV.out⟩, ⟨_, rfl⟩⟩, by first | exact hms | (rw [wi.out]; exact hms)⟩
        · have hno : ¬ okAll h d := by
            obtain ⟨_, ⟨_, ha, _⟩ | ⟨_, hn⟩⟩ := hv
            · have := Nat.pow_pos (n := i + 1) (show 0 < h.toNat by have := HR.out; omega); omega
            · exact hn
          have HN := Aside0.mk hno
          have hx1 : ((1048576 : Int) < (q : Int)) = True := eq_true (by omega)
          have hx2 : (1048576 < q) = True := eq_true (by omega)
          clear hx hv hi24 hrr hq hno
          go_wp2
          go_ret
          exact ⟨by rw [decide_eq_false HN.out]; rfl, ⟨_, rfl⟩⟩
      · have hyes : okAll h d := by
          have e := inv25_end HI.out.2 (.inl hlt)
          unfold cntAll at e
          by_cases hok : okAll h d
          · exact hok
          · rw [if_neg hok] at e
            have := HI.out.1
            omega
        have HY := Aside0.mk hyes
        replace hlt := eq_false hlt
        clear hyes
        go_wp2
        go_ret
        exact ⟨by rw [decide_eq_true HY.out]; rfl, ⟨_, rfl⟩⟩
  · have hno : decide (okAll h d) = false := decide_eq_false fun z => hr ⟨z.1, z.2.1⟩
    rw [hno]
    by_cases h1 : h < 1
    · replace h1 := eq_true h1
      clear hr
      go_enter Try.func26, Try.ntmps26
      go_wp2
      go_ret
      exact ⟨rfl, Drawn0.refl _⟩
    · by_cases h2 : 16 < h
      · replace h1 := eq_false h1
        replace h2 := eq_true h2
        clear hr
        go_enter Try.func26, Try.ntmps26
        go_wp2
        go_ret
        exact ⟨rfl, Drawn0.refl _⟩
      · by_cases h3 : d < 0
        · replace h1 := eq_false h1
          replace h2 := eq_false h2
          replace h3 := eq_true h3
          clear hr
          go_enter Try.func26, Try.ntmps26
          go_wp2
          go_ret
          exact ⟨rfl, Drawn0.refl _⟩
        · have h4 : (24 < d) = True := eq_true (by omega)
          replace h1 := eq_false h1
          replace h2 := eq_false h2
          replace h3 := eq_false h3
          clear hr
          go_enter Try.func26, Try.ntmps26
          go_wp2
          go_ret
          exact ⟨rfl, Drawn0.refl _⟩
end Go.Proofs.Ytfcjfjmjcmanaaa.V
