/- The contract of row.fits. -/
import Derived.Test.YtofagdjijpjlgaaDoorXwq
import Derived.Outline
set_option linter.unusedVariables false
set_option linter.unusedSimpArgs false
namespace Go.Proofs.YtofagdjijpjlgaaDoor.X
open Go.RowKit Go.Proofs.YtofagdjijpjlgaaDoorW.PrintWords Go.Proofs.YtofagdjijpjlgaaDoorW.PrintLast Go.Proofs.YtofagdjijpjlgaaDoorW.PrintMore Go.Proofs.YtofagdjijpjlgaaDoor.PBase

/-- From place i on: is each byte one that may be? -/
def allFrom (p : Int → Bool) (v : ByteArray) : Nat → Nat → Bool
  | 0, _ => true
  | f + 1, i => if i < v.size then (if p (bt v i) then allFrom p v f (i + 1) else false) else true
def fitsR (p : Int → Bool) (wr fa : Int) (v : ByteArray) (b : Bool) : Int := if allFrom p v v.size 0 then (if b then 0 else fa) else wr
theorem hx_of (v : ByteArray) (i : Nat) : ∀ h : i < v.size, ((v[i]'h).toNat : Int) = bt v i := by
  intro h
  have := bt_at v i (by simpa using h)
  simpa using this
set_option maxHeartbeats 4000000 in
set_option maxRecDepth 100000 in
theorem fits_codes (ai v : ByteArray) (l m kd : Int) (p b : Bool) (pm : Int → Bool) (w : World)
    (hl : decide ((v.size : Int) < l) = false) (hm : decide (m < (v.size : Int)) = false) (hv : v.size ≤ 140737488351232)
    (HF : Aside0 (∀ W : World, Calls Tryd.prog 51 #[.agg #[.string ai, .int .i64 l, .int .i64 m, .int .i64 kd, .bool p]] W fun e w' => e = .returned (.agg #[.func (.func 62) #[] #[], .int .i64 20, .func (.func 63) #[] #[], .int .i64 22, .bool true]) ∧ Below W.heap.size W w'))
    (HM : Aside0 (∀ (i : Nat) (W : World), i < v.size → Calls Tryd.prog 62 #[.int .u8 (bt v i)] W fun e w' => e = .returned (.bool (pm (bt v i))) ∧ Drawn0 W w'))
    (HW : Aside0 (allFrom pm v v.size 0 = true → ∀ W : World, Calls Tryd.prog 63 #[.string v] W fun e w' => e = .returned (.bool b) ∧ Below W.heap.size W w')) :
    Calls Tryd.prog 25 #[.agg #[.string ai, .int .i64 l, .int .i64 m, .int .i64 kd, .bool p], .string v] w fun e w' => e = .returned (.int .i64 (fitsR pm 20 22 v b)) ∧ Below w.heap.size w w' := by
  have hG : ∀ args w, (callFunc 62 args).run Tryd.prog w = .ok (.enter 62 args) w := enters_of Tryd.func62 (by kernel_rfl) rfl
  have hH : ∀ args w, (callFunc 63 args).run Tryd.prog w = .ok (.enter 63 args) w := enters_of Tryd.func63 (by kernel_rfl) rfl
  obtain ⟨r, hr⟩ : ∃ r, fitsR pm 20 22 v b = r := ⟨_, rfl⟩
  rw [hr]
  have HR := Aside0.mk hr
  clear hr
  go_enter Tryd.func25, Tryd.ntmps25
  go_wp2_with (go_at_call 51; (with_reducible refine (HF.out _).mono ?_); rintro e w1 ⟨rfl, hb1⟩)
  have HB2 : Aside0 (∀ k, Below w.heap.size w ((w1.alloc (.cells #[.func (.func 62) #[] #[], .int .i64 20, .func (.func 63) #[] #[], .int .i64 22, .bool true] 99)).drewN k)) := ⟨fun k => by
    have h1 := below_step ((Below.refl w.heap.size w).alloc (Nat.le_refl _) _) hb1
    exact pw_below_drewN (h1.alloc h1.size _) k⟩
  clear hb1
  go_loopw [6, 23] (fun v6 v23 wr => ∃ (i n : Nat), v23 = .int .i64 (i : Int) ∧ i ≤ v.size ∧ Aside0 (allFrom pm v (v.size - i) i = allFrom pm v v.size 0) ∧ wr = (w1.alloc (.cells #[.func (.func 62) #[] #[], .int .i64 20, .func (.func 63) #[] #[], .int .i64 22, .bool true] 99)).drewN n) (fun _ v23 _ => v.size - (intOf v23).toNat)
  case atStart => exact ⟨0, 0, rfl, by omega, ⟨rfl⟩, rfl⟩
  case round =>
    obtain ⟨i, n, rfl, hi, HA, rfl⟩ := hrel
    by_cases hlt : i < v.size
    · have ha : allFrom pm v (v.size - i) i = if pm (bt v i) then allFrom pm v (v.size - (i + 1)) (i + 1) else false := by
        rw [show v.size - i = (v.size - (i + 1)) + 1 from by omega]
        simp only [allFrom]
        rw [if_pos hlt]
      have hx := hx_of v i
      obtain ⟨c, hc⟩ : ∃ c, bt v i = c := ⟨_, rfl⟩
      have HMi := Aside0.mk (fun W => HM.out i W hlt)
      rw [hc] at ha hx HMi
      obtain ⟨q, hq⟩ : ∃ q, pm c = q := ⟨_, rfl⟩
      rw [hq] at ha HMi
      have g0 : (0 : Int) ≤ (i : Int) := by omega
      have g1 : (i : Int) < (v.size : Int) := by omega
      cases q
      · have hres : r = 20 := by
          have := HR.out
          unfold fitsR at this
          rw [← HA.out, ha] at this
          simpa using this.symm
        clear ha hq hc HA
        go_wp2
        go_quiet ((go_at_call 62; (with_reducible refine (HMi.out _).mono ?_); rintro e w' ⟨rfl, ⟨nd, rfl⟩⟩; (try first | exact ⟨rfl, _, World.drewN_drewN _ _ _⟩ | exact ⟨rfl, _, Eq.trans (World.drewN_drewN _ _ _) (congrArg (World.drewN _) (Nat.add_assoc _ _ _))⟩)))
        go_wp2
        go_ret
        exact ⟨by rw [hres]; rfl, HB2.out _⟩
      · have hA2 : Aside0 (allFrom pm v (v.size - (i + 1)) (i + 1) = allFrom pm v v.size 0) := ⟨by rw [← HA.out, ha]; rfl⟩
        have hi1 : i + 1 ≤ v.size := by omega
        clear ha hq hc HA hi
        go_wp2
        go_quiet ((go_at_call 62; (with_reducible refine (HMi.out _).mono ?_); rintro e w' ⟨rfl, ⟨nd, rfl⟩⟩; (try first | exact ⟨rfl, _, World.drewN_drewN _ _ _⟩ | exact ⟨rfl, _, Eq.trans (World.drewN_drewN _ _ _) (congrArg (World.drewN _) (Nat.add_assoc _ _ _))⟩)))
        go_wp2
        go_roundw
        case rel => exact ⟨i + 1, _, by go_num, hi1, hA2, rfl⟩
        case measure => simp [intOf]; omega
    · have hie : i = v.size := by omega
      have hall : allFrom pm v v.size 0 = true := by
        rw [← HA.out, show v.size - i = 0 from by omega]; rfl
      have HWW := Aside0.mk (HW.out hall)
      have hres : r = if b then 0 else 22 := by
        have := HR.out
        unfold fitsR at this
        rw [hall] at this
        simpa using this.symm
      have hltb : decide ((i : Int) < (v.size : Int)) = false := decide_eq_false (by omega)
      clear hie hall HA
      cases b
      all_goals
        go_wp2_with (go_at_call 63; (with_reducible refine (HWW.out _).mono ?_); rintro e w3 ⟨rfl, hb3⟩; have q3 : w3.cell? ⟨w1.heap.size, 3, none⟩ = some (.int .i64 22) := (hb3.cell (p := ⟨w1.heap.size, 3, none⟩) (by simp)).trans (by simp))
        go_ret
        exact ⟨by rw [hres]; rfl, below_step (HB2.out _) hb3⟩
set_option maxHeartbeats 4000000 in
set_option maxRecDepth 100000 in
theorem fits_days (ai v : ByteArray) (l m kd : Int) (p b : Bool) (pm : Int → Bool) (w : World)
    (hl : decide ((v.size : Int) < l) = false) (hm : decide (m < (v.size : Int)) = false) (hv : v.size ≤ 140737488351232)
    (HF : Aside0 (∀ W : World, Calls Tryd.prog 51 #[.agg #[.string ai, .int .i64 l, .int .i64 m, .int .i64 kd, .bool p]] W fun e w' => e = .returned (.agg #[.func (.func 62) #[] #[], .int .i64 20, .func (.func 64) #[] #[], .int .i64 28, .bool false]) ∧ Below W.heap.size W w'))
    (HM : Aside0 (∀ (i : Nat) (W : World), i < v.size → Calls Tryd.prog 62 #[.int .u8 (bt v i)] W fun e w' => e = .returned (.bool (pm (bt v i))) ∧ Drawn0 W w'))
    (HW : Aside0 (allFrom pm v v.size 0 = true → ∀ W : World, Calls Tryd.prog 64 #[.string v] W fun e w' => e = .returned (.bool b) ∧ Below W.heap.size W w')) :
    Calls Tryd.prog 25 #[.agg #[.string ai, .int .i64 l, .int .i64 m, .int .i64 kd, .bool p], .string v] w fun e w' => e = .returned (.int .i64 (fitsR pm 20 28 v b)) ∧ Below w.heap.size w w' := by
  have hG : ∀ args w, (callFunc 62 args).run Tryd.prog w = .ok (.enter 62 args) w := enters_of Tryd.func62 (by kernel_rfl) rfl
  have hH : ∀ args w, (callFunc 64 args).run Tryd.prog w = .ok (.enter 64 args) w := enters_of Tryd.func64 (by kernel_rfl) rfl
  obtain ⟨r, hr⟩ : ∃ r, fitsR pm 20 28 v b = r := ⟨_, rfl⟩
  rw [hr]
  have HR := Aside0.mk hr
  clear hr
  go_enter Tryd.func25, Tryd.ntmps25
  go_wp2_with (go_at_call 51; (with_reducible refine (HF.out _).mono ?_); rintro e w1 ⟨rfl, hb1⟩)
  have HB2 : Aside0 (∀ k, Below w.heap.size w ((w1.alloc (.cells #[.func (.func 62) #[] #[], .int .i64 20, .func (.func 64) #[] #[], .int .i64 28, .bool false] 99)).drewN k)) := ⟨fun k => by
    have h1 := below_step ((Below.refl w.heap.size w).alloc (Nat.le_refl _) _) hb1
    exact pw_below_drewN (h1.alloc h1.size _) k⟩
  clear hb1
  go_loopw [6, 23] (fun v6 v23 wr => ∃ (i n : Nat), v23 = .int .i64 (i : Int) ∧ i ≤ v.size ∧ Aside0 (allFrom pm v (v.size - i) i = allFrom pm v v.size 0) ∧ wr = (w1.alloc (.cells #[.func (.func 62) #[] #[], .int .i64 20, .func (.func 64) #[] #[], .int .i64 28, .bool false] 99)).drewN n) (fun _ v23 _ => v.size - (intOf v23).toNat)
  case atStart => exact ⟨0, 0, rfl, by omega, ⟨rfl⟩, rfl⟩
  case round =>
    obtain ⟨i, n, rfl, hi, HA, rfl⟩ := hrel
    by_cases hlt : i < v.size
    · have ha : allFrom pm v (v.size - i) i = if pm (bt v i) then allFrom pm v (v.size - (i + 1)) (i + 1) else false := by
        rw [show v.size - i = (v.size - (i + 1)) + 1 from by omega]
        simp only [allFrom]
        rw [if_pos hlt]
      have hx := hx_of v i
      obtain ⟨c, hc⟩ : ∃ c, bt v i = c := ⟨_, rfl⟩
      have HMi := Aside0.mk (fun W => HM.out i W hlt)
      rw [hc] at ha hx HMi
      obtain ⟨q, hq⟩ : ∃ q, pm c = q := ⟨_, rfl⟩
      rw [hq] at ha HMi
      have g0 : (0 : Int) ≤ (i : Int) := by omega
      have g1 : (i : Int) < (v.size : Int) := by omega
      cases q
      · have hres : r = 20 := by
          have := HR.out
          unfold fitsR at this
          rw [← HA.out, ha] at this
          simpa using this.symm
        clear ha hq hc HA
        go_wp2
        go_quiet ((go_at_call 62; (with_reducible refine (HMi.out _).mono ?_); rintro e w' ⟨rfl, ⟨nd, rfl⟩⟩; (try first | exact ⟨rfl, _, World.drewN_drewN _ _ _⟩ | exact ⟨rfl, _, Eq.trans (World.drewN_drewN _ _ _) (congrArg (World.drewN _) (Nat.add_assoc _ _ _))⟩)))
        go_wp2
        go_ret
        exact ⟨by rw [hres]; rfl, HB2.out _⟩
      · have hA2 : Aside0 (allFrom pm v (v.size - (i + 1)) (i + 1) = allFrom pm v v.size 0) := ⟨by rw [← HA.out, ha]; rfl⟩
        have hi1 : i + 1 ≤ v.size := by omega
        clear ha hq hc HA hi
        go_wp2
        go_quiet ((go_at_call 62; (with_reducible refine (HMi.out _).mono ?_); rintro e w' ⟨rfl, ⟨nd, rfl⟩⟩; (try first | exact ⟨rfl, _, World.drewN_drewN _ _ _⟩ | exact ⟨rfl, _, Eq.trans (World.drewN_drewN _ _ _) (congrArg (World.drewN _) (Nat.add_assoc _ _ _))⟩)))
        go_wp2
        go_roundw
        case rel => exact ⟨i + 1, _, by go_num, hi1, hA2, rfl⟩
        case measure => simp [intOf]; omega
    · have hie : i = v.size := by omega
      have hall : allFrom pm v v.size 0 = true := by
        rw [← HA.out, show v.size - i = 0 from by omega]; rfl
      have HWW := Aside0.mk (HW.out hall)
      have hres : r = if b then 0 else 28 := by
        have := HR.out
        unfold fitsR at this
        rw [hall] at this
        simpa using this.symm
      have hltb : decide ((i : Int) < (v.size : Int)) = false := decide_eq_false (by omega)
      clear hie hall HA
      cases b
      all_goals
        go_wp2_with (go_at_call 64; (with_reducible refine (HWW.out _).mono ?_); rintro e w3 ⟨rfl, hb3⟩; have q3 : w3.cell? ⟨w1.heap.size, 3, none⟩ = some (.int .i64 28) := (hb3.cell (p := ⟨w1.heap.size, 3, none⟩) (by simp)).trans (by simp))
        go_ret
        exact ⟨by rw [hres]; rfl, below_step (HB2.out _) hb3⟩
set_option maxHeartbeats 4000000 in
set_option maxRecDepth 100000 in
theorem fits_digits (ai v : ByteArray) (l m kd : Int) (p b : Bool) (pm : Int → Bool) (w : World)
    (hl : decide ((v.size : Int) < l) = false) (hm : decide (m < (v.size : Int)) = false) (hv : v.size ≤ 140737488351232)
    (HF : Aside0 (∀ W : World, Calls Tryd.prog 51 #[.agg #[.string ai, .int .i64 l, .int .i64 m, .int .i64 kd, .bool p]] W fun e w' => e = .returned (.agg #[.func (.func 62) #[] #[], .int .i64 20, .func (.func 65) #[] #[], .int .i64 0, .bool false]) ∧ Below W.heap.size W w'))
    (HM : Aside0 (∀ (i : Nat) (W : World), i < v.size → Calls Tryd.prog 62 #[.int .u8 (bt v i)] W fun e w' => e = .returned (.bool (pm (bt v i))) ∧ Drawn0 W w'))
    (HW : Aside0 (allFrom pm v v.size 0 = true → ∀ W : World, Calls Tryd.prog 65 #[.string v] W fun e w' => e = .returned (.bool b) ∧ Below W.heap.size W w')) :
    Calls Tryd.prog 25 #[.agg #[.string ai, .int .i64 l, .int .i64 m, .int .i64 kd, .bool p], .string v] w fun e w' => e = .returned (.int .i64 (fitsR pm 20 0 v b)) ∧ Below w.heap.size w w' := by
  have hG : ∀ args w, (callFunc 62 args).run Tryd.prog w = .ok (.enter 62 args) w := enters_of Tryd.func62 (by kernel_rfl) rfl
  have hH : ∀ args w, (callFunc 65 args).run Tryd.prog w = .ok (.enter 65 args) w := enters_of Tryd.func65 (by kernel_rfl) rfl
  obtain ⟨r, hr⟩ : ∃ r, fitsR pm 20 0 v b = r := ⟨_, rfl⟩
  rw [hr]
  have HR := Aside0.mk hr
  clear hr
  go_enter Tryd.func25, Tryd.ntmps25
  go_wp2_with (go_at_call 51; (with_reducible refine (HF.out _).mono ?_); rintro e w1 ⟨rfl, hb1⟩)
  have HB2 : Aside0 (∀ k, Below w.heap.size w ((w1.alloc (.cells #[.func (.func 62) #[] #[], .int .i64 20, .func (.func 65) #[] #[], .int .i64 0, .bool false] 99)).drewN k)) := ⟨fun k => by
    have h1 := below_step ((Below.refl w.heap.size w).alloc (Nat.le_refl _) _) hb1
    exact pw_below_drewN (h1.alloc h1.size _) k⟩
  clear hb1
  go_loopw [6, 23] (fun v6 v23 wr => ∃ (i n : Nat), v23 = .int .i64 (i : Int) ∧ i ≤ v.size ∧ Aside0 (allFrom pm v (v.size - i) i = allFrom pm v v.size 0) ∧ wr = (w1.alloc (.cells #[.func (.func 62) #[] #[], .int .i64 20, .func (.func 65) #[] #[], .int .i64 0, .bool false] 99)).drewN n) (fun _ v23 _ => v.size - (intOf v23).toNat)
  case atStart => exact ⟨0, 0, rfl, by omega, ⟨rfl⟩, rfl⟩
  case round =>
    obtain ⟨i, n, rfl, hi, HA, rfl⟩ := hrel
    by_cases hlt : i < v.size
    · have ha : allFrom pm v (v.size - i) i = if pm (bt v i) then allFrom pm v (v.size - (i + 1)) (i + 1) else false := by
        rw [show v.size - i = (v.size - (i + 1)) + 1 from by omega]
        simp only [allFrom]
        rw [if_pos hlt]
      have hx := hx_of v i
      obtain ⟨c, hc⟩ : ∃ c, bt v i = c := ⟨_, rfl⟩
      have HMi := Aside0.mk (fun W => HM.out i W hlt)
      rw [hc] at ha hx HMi
      obtain ⟨q, hq⟩ : ∃ q, pm c = q := ⟨_, rfl⟩
      rw [hq] at ha HMi
      have g0 : (0 : Int) ≤ (i : Int) := by omega
      have g1 : (i : Int) < (v.size : Int) := by omega
      cases q
      · have hres : r = 20 := by
          have := HR.out
          unfold fitsR at this
          rw [← HA.out, ha] at this
          simpa using this.symm
        clear ha hq hc HA
        go_wp2
        go_quiet ((go_at_call 62; (with_reducible refine (HMi.out _).mono ?_); rintro e w' ⟨rfl, ⟨nd, rfl⟩⟩; (try first | exact ⟨rfl, _, World.drewN_drewN _ _ _⟩ | exact ⟨rfl, _, Eq.trans (World.drewN_drewN _ _ _) (congrArg (World.drewN _) (Nat.add_assoc _ _ _))⟩)))
        go_wp2
        go_ret
        exact ⟨by rw [hres]; rfl, HB2.out _⟩
      · have hA2 : Aside0 (allFrom pm v (v.size - (i + 1)) (i + 1) = allFrom pm v v.size 0) := ⟨by rw [← HA.out, ha]; rfl⟩
        have hi1 : i + 1 ≤ v.size := by omega
        clear ha hq hc HA hi
        go_wp2
        go_quiet ((go_at_call 62; (with_reducible refine (HMi.out _).mono ?_); rintro e w' ⟨rfl, ⟨nd, rfl⟩⟩; (try first | exact ⟨rfl, _, World.drewN_drewN _ _ _⟩ | exact ⟨rfl, _, Eq.trans (World.drewN_drewN _ _ _) (congrArg (World.drewN _) (Nat.add_assoc _ _ _))⟩)))
        go_wp2
        go_roundw
        case rel => exact ⟨i + 1, _, by go_num, hi1, hA2, rfl⟩
        case measure => simp [intOf]; omega
    · have hie : i = v.size := by omega
      have hall : allFrom pm v v.size 0 = true := by
        rw [← HA.out, show v.size - i = 0 from by omega]; rfl
      have HWW := Aside0.mk (HW.out hall)
      have hres : r = if b then 0 else 0 := by
        have := HR.out
        unfold fitsR at this
        rw [hall] at this
        simpa using this.symm
      have hltb : decide ((i : Int) < (v.size : Int)) = false := decide_eq_false (by omega)
      clear hie hall HA
      cases b
      all_goals
        go_wp2_with (go_at_call 65; (with_reducible refine (HWW.out _).mono ?_); rintro e w3 ⟨rfl, hb3⟩; have q3 : w3.cell? ⟨w1.heap.size, 3, none⟩ = some (.int .i64 0) := (hb3.cell (p := ⟨w1.heap.size, 3, none⟩) (by simp)).trans (by simp))
        go_ret
        exact ⟨by rw [hres]; rfl, below_step (HB2.out _) hb3⟩
set_option maxHeartbeats 4000000 in
set_option maxRecDepth 100000 in
theorem fits_chars (ai v : ByteArray) (l m kd : Int) (p b : Bool) (pm : Int → Bool) (w : World)
    (hl : decide ((v.size : Int) < l) = false) (hm : decide (m < (v.size : Int)) = false) (hv : v.size ≤ 140737488351232)
    (HF : Aside0 (∀ W : World, Calls Tryd.prog 51 #[.agg #[.string ai, .int .i64 l, .int .i64 m, .int .i64 kd, .bool p]] W fun e w' => e = .returned (.agg #[.func (.func 66) #[] #[], .int .i64 27, .func (.func 65) #[] #[], .int .i64 0, .bool false]) ∧ Below W.heap.size W w'))
    (HM : Aside0 (∀ (i : Nat) (W : World), i < v.size → Calls Tryd.prog 66 #[.int .u8 (bt v i)] W fun e w' => e = .returned (.bool (pm (bt v i))) ∧ Drawn0 W w'))
    (HW : Aside0 (allFrom pm v v.size 0 = true → ∀ W : World, Calls Tryd.prog 65 #[.string v] W fun e w' => e = .returned (.bool b) ∧ Below W.heap.size W w')) :
    Calls Tryd.prog 25 #[.agg #[.string ai, .int .i64 l, .int .i64 m, .int .i64 kd, .bool p], .string v] w fun e w' => e = .returned (.int .i64 (fitsR pm 27 0 v b)) ∧ Below w.heap.size w w' := by
  have hG : ∀ args w, (callFunc 66 args).run Tryd.prog w = .ok (.enter 66 args) w := enters_of Tryd.func66 (by kernel_rfl) rfl
  have hH : ∀ args w, (callFunc 65 args).run Tryd.prog w = .ok (.enter 65 args) w := enters_of Tryd.func65 (by kernel_rfl) rfl
  obtain ⟨r, hr⟩ : ∃ r, fitsR pm 27 0 v b = r := ⟨_, rfl⟩
  rw [hr]
  have HR := Aside0.mk hr
  clear hr
  go_enter Tryd.func25, Tryd.ntmps25
  go_wp2_with (go_at_call 51; (with_reducible refine (HF.out _).mono ?_); rintro e w1 ⟨rfl, hb1⟩)
  have HB2 : Aside0 (∀ k, Below w.heap.size w ((w1.alloc (.cells #[.func (.func 66) #[] #[], .int .i64 27, .func (.func 65) #[] #[], .int .i64 0, .bool false] 99)).drewN k)) := ⟨fun k => by
    have h1 := below_step ((Below.refl w.heap.size w).alloc (Nat.le_refl _) _) hb1
    exact pw_below_drewN (h1.alloc h1.size _) k⟩
  clear hb1
  go_loopw [6, 23] (fun v6 v23 wr => ∃ (i n : Nat), v23 = .int .i64 (i : Int) ∧ i ≤ v.size ∧ Aside0 (allFrom pm v (v.size - i) i = allFrom pm v v.size 0) ∧ wr = (w1.alloc (.cells #[.func (.func 66) #[] #[], .int .i64 27, .func (.func 65) #[] #[], .int .i64 0, .bool false] 99)).drewN n) (fun _ v23 _ => v.size - (intOf v23).toNat)
  case atStart => exact ⟨0, 0, rfl, by omega, ⟨rfl⟩, rfl⟩
  case round =>
    obtain ⟨i, n, rfl, hi, HA, rfl⟩ := hrel
    by_cases hlt : i < v.size
    · have ha : allFrom pm v (v.size - i) i = if pm (bt v i) then allFrom pm v (v.size - (i + 1)) (i + 1) else false := by
        rw [show v.size - i = (v.size - (i + 1)) + 1 from by omega]
        simp only [allFrom]
        rw [if_pos hlt]
      have hx := hx_of v i
      obtain ⟨c, hc⟩ : ∃ c, bt v i = c := ⟨_, rfl⟩
      have HMi := Aside0.mk (fun W => HM.out i W hlt)
      rw [hc] at ha hx HMi
      obtain ⟨q, hq⟩ : ∃ q, pm c = q := ⟨_, rfl⟩
      rw [hq] at ha HMi
      have g0 : (0 : Int) ≤ (i : Int) := by omega
      have g1 : (i : Int) < (v.size : Int) := by omega
      cases q
      · have hres : r = 27 := by
          have := HR.out
          unfold fitsR at this
          rw [← HA.out, ha] at this
          simpa using this.symm
        clear ha hq hc HA
        go_wp2
        go_quiet ((go_at_call 66; (with_reducible refine (HMi.out _).mono ?_); rintro e w' ⟨rfl, ⟨nd, rfl⟩⟩; (try first | exact ⟨rfl, _, World.drewN_drewN _ _ _⟩ | exact ⟨rfl, _, Eq.trans (World.drewN_drewN _ _ _) (congrArg (World.drewN _) (Nat.add_assoc _ _ _))⟩)))
        go_wp2
        go_ret
        exact ⟨by rw [hres]; rfl, HB2.out _⟩
      · have hA2 : Aside0 (allFrom pm v (v.size - (i + 1)) (i + 1) = allFrom pm v v.size 0) := ⟨by rw [← HA.out, ha]; rfl⟩
        have hi1 : i + 1 ≤ v.size := by omega
        clear ha hq hc HA hi
        go_wp2
        go_quiet ((go_at_call 66; (with_reducible refine (HMi.out _).mono ?_); rintro e w' ⟨rfl, ⟨nd, rfl⟩⟩; (try first | exact ⟨rfl, _, World.drewN_drewN _ _ _⟩ | exact ⟨rfl, _, Eq.trans (World.drewN_drewN _ _ _) (congrArg (World.drewN _) (Nat.add_assoc _ _ _))⟩)))
        go_wp2
        go_roundw
        case rel => exact ⟨i + 1, _, by go_num, hi1, hA2, rfl⟩
        case measure => simp [intOf]; omega
    · have hie : i = v.size := by omega
      have hall : allFrom pm v v.size 0 = true := by
        rw [← HA.out, show v.size - i = 0 from by omega]; rfl
      have HWW := Aside0.mk (HW.out hall)
      have hres : r = if b then 0 else 0 := by
        have := HR.out
        unfold fitsR at this
        rw [hall] at this
        simpa using this.symm
      have hltb : decide ((i : Int) < (v.size : Int)) = false := decide_eq_false (by omega)
      clear hie hall HA
      cases b
      all_goals
        go_wp2_with (go_at_call 65; (with_reducible refine (HWW.out _).mono ?_); rintro e w3 ⟨rfl, hb3⟩; have q3 : w3.cell? ⟨w1.heap.size, 3, none⟩ = some (.int .i64 0) := (hb3.cell (p := ⟨w1.heap.size, 3, none⟩) (by simp)).trans (by simp))
        go_ret
        exact ⟨by rw [hres]; rfl, below_step (HB2.out _) hb3⟩
set_option maxHeartbeats 2000000 in
set_option maxRecDepth 100000 in
theorem fits_short (ai v : ByteArray) (l m kd : Int) (p : Bool) (w : World) (hl : decide ((v.size : Int) < l) = true) :
    Calls Tryd.prog 25 #[.agg #[.string ai, .int .i64 l, .int .i64 m, .int .i64 kd, .bool p], .string v] w fun e w' => e = .returned (.int .i64 3) ∧ Below w.heap.size w w' := by
  go_enter Tryd.func25, Tryd.ntmps25
  go_wp2
  go_ret
  exact ⟨rfl, (Below.refl w.heap.size w).alloc (Nat.le_refl _) _⟩
set_option maxHeartbeats 2000000 in
set_option maxRecDepth 100000 in
theorem fits_long (ai v : ByteArray) (l m kd : Int) (p : Bool) (w : World) (hl : decide ((v.size : Int) < l) = false) (hm : decide (m < (v.size : Int)) = true) :
    Calls Tryd.prog 25 #[.agg #[.string ai, .int .i64 l, .int .i64 m, .int .i64 kd, .bool p], .string v] w fun e w' => e = .returned (.int .i64 26) ∧ Below w.heap.size w w' := by
  go_enter Tryd.func25, Tryd.ntmps25
  go_wp2
  go_ret
  exact ⟨rfl, (Below.refl w.heap.size w).alloc (Nat.le_refl _) _⟩
def isD (c : Int) : Bool := decide (48 ≤ c ∧ c ≤ 57)
theorem isDigit_is (c : Int) : gtin_isDigit.f c = some (isD c) := by
  unfold gtin_isDigit.f isD
  by_cases h : c ≥ 48
  · rw [if_pos h]; congr 1; rw [decide_eq_decide]; omega
  · rw [if_neg h]; congr 1; symm; rw [decide_eq_false_iff_not]; omega
theorem isDigit_any (c : Int) (W : World) : Calls Tryd.prog 62 #[.int .u8 c] W fun e w' => e = .returned (.bool (isD c)) ∧ Drawn0 W w' := gtin_isDigit.calls c _ W (isDigit_is c)
theorem anything_any (v : ByteArray) (W : World) : Calls Tryd.prog 65 #[.string v] W fun e w' => e = .returned (.bool true) ∧ Below W.heap.size W w' := by
  go_enter Tryd.func65, Tryd.ntmps65
  go_wp2
  go_ret
  exact ⟨rfl, Below.refl _ _⟩
def marksT : ByteArray := ⟨#[33, 34, 37, 38, 39, 40, 41, 42, 43, 44, 45, 46, 47, 58, 59, 60, 61, 62, 63, 95]⟩
def isC (c : Int) : Bool := isD c || decide (65 ≤ c ∧ c ≤ 90) || decide (97 ≤ c ∧ c ≤ 122) || (decide (c ≠ 0) && decide (0 ≤ Lib.indexByte marksT.data.toList c.toNat.toUInt8))
theorem isChar_is (c : Int) : gtin_isChar.f 1 c = some (isC c) := by
  unfold gtin_isChar.f isC
  rw [isDigit_is]
  simp only [Option.bind_some]
  cases isD c
  · rw [if_neg (by simp)]
    have hj : ∀ b, gtin_isChar.j0 1 c b = some (b || decide (97 ≤ c ∧ c ≤ 122) || (decide (c ≠ 0) && decide (0 ≤ Lib.indexByte marksT.data.toList c.toNat.toUInt8))) := by
      intro b
      simp only [gtin_isChar.j0, strings_IndexByte.f, Option.bind_some]
      cases b
      · rw [if_neg (by simp)]
        by_cases h1 : c ≥ 97
        · rw [if_pos h1]
          by_cases h2 : c ≤ 122
          · rw [if_pos h2]; simp [h1, h2]
          · rw [if_neg h2, if_neg (by omega)]
            have : ¬ c = 0 := by omega
            simp [h2, this]; rfl
        · rw [if_neg h1]
          by_cases h0 : c = 0
          · rw [if_pos h0]; simp [h0]
          · rw [if_neg h0]
            have h1' : ¬ 97 ≤ c := h1
            simp [h0, h1']; rfl
      · rw [if_pos rfl]; simp
    by_cases h : c ≥ 65
    · rw [if_pos h, hj]
      have h' : 65 ≤ c := h
      simp [h']
    · rw [if_neg h, hj]
      have h' : ¬ 65 ≤ c := h
      simp [h']
  · rw [if_pos rfl]; simp
theorem isChar_any (c : Int) (W : World) : Calls Tryd.prog 66 #[.int .u8 c] W fun e w' => e = .returned (.bool (isC c)) ∧ Drawn0 W w' := gtin_isChar.calls 1 c _ W (isChar_is c)
def gtin_fits.f (k : Nat) (ai : ByteArray) (l m kd : Int) (p : Bool) (v : ByteArray) : Option Int :=
  if v.size ≤ 140737488351232 then
    if (v.size : Int) < l then some 3 else if m < (v.size : Int) then some 26
    else if kd = 0 then (if allFrom isD v v.size 0 = true then (gtin_sound.f k v).bind fun b => some (if b = true then 0 else 22) else some 20)
    else if kd = 1 then (if allFrom isD v v.size 0 = true then (gtin_isDay.f v).bind fun b => some (if b = true then 0 else 28) else some 20)
    else if kd = 2 then some (if allFrom isD v v.size 0 = true then 0 else 20)
    else some (if allFrom isC v v.size 0 = true then 0 else 27)
  else none
theorem gtin_fits.mono : ∀ a0 a1 a2 a3 a4 a5 k, LeO (gtin_fits.f k a0 a1 a2 a3 a4 a5) (gtin_fits.f (k + 1) a0 a1 a2 a3 a4 a5) := by
  intro a0 a1 a2 a3 a4 a5 k
  unfold gtin_fits.f
  repeat' first
      | (with_reducible exact gtin_sound.mono _ _)
      | (with_reducible exact LeO.refl _)
      | (with_reducible exact LeO.none _)
      | (with_reducible refine LeO.ite ?_ ?_)
      | (with_reducible refine LeO.bind ?_ (fun _ => ?_))
      | exact gtin_sound.mono _ _
theorem gtin_fits.calls (k : Nat) (ai : ByteArray) (l m kd : Int) (p : Bool) (v : ByteArray) (r : Int) (w : World) (h : gtin_fits.f k ai l m kd p v = some r) :
    Calls Tryd.prog 25 #[.agg #[.string ai, .int .i64 l, .int .i64 m, .int .i64 kd, .bool p], .string v] w fun e w' => e = .returned (.int .i64 r) ∧ Below w.heap.size w w' := by
  unfold gtin_fits.f at h
  by_cases hv : v.size ≤ 140737488351232
  · rw [if_pos hv] at h
    by_cases h1 : (v.size : Int) < l
    · rw [if_pos h1] at h
      obtain rfl := Option.some.inj h
      exact fits_short ai v l m kd p w (decide_eq_true h1)
    · rw [if_neg h1] at h
      by_cases h2 : m < (v.size : Int)
      · rw [if_pos h2] at h
        obtain rfl := Option.some.inj h
        exact fits_long ai v l m kd p w (decide_eq_false h1) (decide_eq_true h2)
      · rw [if_neg h2] at h
        have d1 := decide_eq_false h1
        have d2 := decide_eq_false h2
        have HD : Aside0 (∀ (i : Nat) (W : World), i < v.size → Calls Tryd.prog 62 #[.int .u8 (bt v i)] W fun e w' => e = .returned (.bool (isD (bt v i))) ∧ Drawn0 W w') := ⟨fun i W _ => isDigit_any _ W⟩
        have HX : Aside0 (∀ (i : Nat) (W : World), i < v.size → Calls Tryd.prog 66 #[.int .u8 (bt v i)] W fun e w' => e = .returned (.bool (isC (bt v i))) ∧ Drawn0 W w') := ⟨fun i W _ => isChar_any _ W⟩
        by_cases k0 : kd = 0
        · rw [if_pos k0] at h
          have HF : Aside0 (∀ W : World, Calls Tryd.prog 51 #[.agg #[.string ai, .int .i64 l, .int .i64 m, .int .i64 kd, .bool p]] W fun e w' => e = .returned (.agg #[.func (.func 62) #[] #[], .int .i64 20, .func (.func 63) #[] #[], .int .i64 22, .bool true]) ∧ Below W.heap.size W w') := ⟨fun W => form_codes ai l m kd p W (beq_iff_eq.2 k0)⟩
          by_cases ha : allFrom isD v v.size 0 = true
          · rw [if_pos ha] at h
            obtain ⟨b, hb, h⟩ := Option.bind_eq_some_iff.1 h
            have := fits_codes ai v l m kd p b isD w d1 d2 hv HF HD ⟨fun _ W => gtin_sound.calls k v b W hb⟩
            rwa [show fitsR isD 20 22 v b = r from by unfold fitsR; rw [if_pos ha]; exact Option.some.inj h] at this
          · rw [if_neg ha] at h
            have := fits_codes ai v l m kd p true isD w d1 d2 hv HF HD ⟨fun z => absurd z ha⟩
            rwa [show fitsR isD 20 22 v true = r from by unfold fitsR; rw [if_neg ha]; exact Option.some.inj h] at this
        · rw [if_neg k0] at h
          have e0 := beq_eq_false_iff_ne.2 k0
          by_cases k1 : kd = 1
          · rw [if_pos k1] at h
            have HF : Aside0 (∀ W : World, Calls Tryd.prog 51 #[.agg #[.string ai, .int .i64 l, .int .i64 m, .int .i64 kd, .bool p]] W fun e w' => e = .returned (.agg #[.func (.func 62) #[] #[], .int .i64 20, .func (.func 64) #[] #[], .int .i64 28, .bool false]) ∧ Below W.heap.size W w') := ⟨fun W => form_days ai l m kd p W e0 (beq_iff_eq.2 k1)⟩
            by_cases ha : allFrom isD v v.size 0 = true
            · rw [if_pos ha] at h
              obtain ⟨b, hb, h⟩ := Option.bind_eq_some_iff.1 h
              have := fits_days ai v l m kd p b isD w d1 d2 hv HF HD ⟨fun _ W => (gtin_isDay.calls v b W hb).mono fun e w' ⟨h1, h2⟩ => ⟨h1, h2.below⟩⟩
              rwa [show fitsR isD 20 28 v b = r from by unfold fitsR; rw [if_pos ha]; exact Option.some.inj h] at this
            · rw [if_neg ha] at h
              have := fits_days ai v l m kd p true isD w d1 d2 hv HF HD ⟨fun z => absurd z ha⟩
              rwa [show fitsR isD 20 28 v true = r from by unfold fitsR; rw [if_neg ha]; exact Option.some.inj h] at this
          · rw [if_neg k1] at h
            have e1 := beq_eq_false_iff_ne.2 k1
            by_cases k2 : kd = 2
            · rw [if_pos k2] at h
              have HF : Aside0 (∀ W : World, Calls Tryd.prog 51 #[.agg #[.string ai, .int .i64 l, .int .i64 m, .int .i64 kd, .bool p]] W fun e w' => e = .returned (.agg #[.func (.func 62) #[] #[], .int .i64 20, .func (.func 65) #[] #[], .int .i64 0, .bool false]) ∧ Below W.heap.size W w') := ⟨fun W => form_digits ai l m kd p W e0 e1 (beq_iff_eq.2 k2)⟩
              have := fits_digits ai v l m kd p true isD w d1 d2 hv HF HD ⟨fun _ W => anything_any v W⟩
              rwa [show fitsR isD 20 0 v true = r from by unfold fitsR; rw [if_pos rfl]; exact Option.some.inj h] at this
            · rw [if_neg k2] at h
              have HF : Aside0 (∀ W : World, Calls Tryd.prog 51 #[.agg #[.string ai, .int .i64 l, .int .i64 m, .int .i64 kd, .bool p]] W fun e w' => e = .returned (.agg #[.func (.func 66) #[] #[], .int .i64 27, .func (.func 65) #[] #[], .int .i64 0, .bool false]) ∧ Below W.heap.size W w') := ⟨fun W => form_chars ai l m kd p W e0 e1 (beq_eq_false_iff_ne.2 k2)⟩
              have := fits_chars ai v l m kd p true isC w d1 d2 hv HF HX ⟨fun _ W => anything_any v W⟩
              rwa [show fitsR isC 27 0 v true = r from by unfold fitsR; rw [if_pos rfl]; exact Option.some.inj h] at this
  · rw [if_neg hv] at h; cases h
end Go.Proofs.YtofagdjijpjlgaaDoor.X
