/- SchedRounds: the makers' calls, 'some' at Rounds, the law's walk. -/
import Derived.Test.YtfcjfjmjcmanaaaXb
set_option linter.unusedVariables false
namespace Go.Proofs.Ytfcjfjmjcmanaaa.X
open Go.RowKit Go.Shelf Go.Proofs.Ytfcjfjmjcmanaaa.PBase Go.Proofs.YtfcjfjmjcmanaaaW.PrintWords Go.Proofs.YtfcjfjmjcmanaaaW.PrintLast Go.Proofs.YtfcjfjmjcmanaaaW.PrintMore

theorem C_of_row {W : World} {b : Nat} {v : Value} {L : List Int} (h : W.ownsRow b 3 1 v L.length (L.map (Value.int .i64))) : ∃ A c, v = .slice A L.length c ∧ Kd.C (Kd.int .i64) W A L.length L ∧ L.length ≤ c := by
  rcases h.2 with ⟨rfl, h0⟩ | ⟨g, cap, cur, rfl, hb, hh, hl, hm, hs, ht⟩
  · have hL : L = [] := List.length_eq_zero_iff.1 h0
    subst hL
    exact ⟨none, 0, rfl, Kd.C_nil _ _, Nat.le_refl _⟩
  · refine ⟨some ⟨g, 0, none⟩, cap, rfl, Kd.C_of_reads (h1 := fun _ => rfl) (d := (0 : Int)) ⟨rfl, by unfold maxLen at hm; omega, fun _ => ⟨_, rfl, fun j hj => ?_⟩⟩, hl⟩
    have hg : cur.toList[j]? = some (.int .i64 (L.getD j 0)) := by
      have h1 : (cur.toList.take (L.length * 1))[j]? = cur.toList[j]? := by rw [List.getElem?_take, if_pos (by omega)]
      rw [← h1, ht, List.getElem?_map, List.getD_eq_getElem?_getD, List.getElem?_eq_getElem hj]; rfl
    have hg' : cur[j]? = some (.int .i64 (L.getD j 0)) := by rw [← Array.getElem?_toList]; exact hg
    by_cases hj0 : j = 0
    · subst hj0; simp [World.cell?, hh, Addr.add, hg']
    · simp [World.cell?, hh, Addr.add, hg', hj0]

theorem some_calls (g : Nat) (lb : Array Value) (eg : ∀ args w, (callFunc g args).run Try.prog w = .ok (.enter g args) w) (m : Int) (xs : List Int) (w : World)
    (hseq : ∀ W, Below w.heap.size w W → w.heap.size + 1 ≤ W.heap.size → SeqStopsK Fence.wide 2 Try.prog g lb (fun x : Int => #[Value.int .i64 x]) (Below (w.heap.size + 1)) (fun ys => ys = xs) (fun pre => pre <+: xs) xs.length W) :
    Calls Try.prog 23 #[.func (.func g) #[] lb, .int .i64 m] w fun e W' => ∃ A c, e = .returned (.slice A (xs.take (lim m)).length c) ∧ Kd.C (Kd.int .i64) W' A (xs.take (lim m)).length (xs.take (lim m)) ∧ (xs.take (lim m)).length ≤ c ∧ Below w.heap.size w W' :=
  (callsIn_wide.1 (some_in Fence.wide 3 trivial g lb trivial eg rfl (by omega) m xs w hseq)).mono fun e W' ⟨v, he, hr, _, hB⟩ => by
    obtain ⟨A, c, rfl, hC, hc⟩ := C_of_row hr
    exact ⟨A, c, he, hC, hc, hB⟩

theorem some_rounds (h m : Int) (b : Nat) (w : World) (hb : b < w.heap.size) (hc : w.cell? ⟨b, 0, none⟩ = some (.int .i64 h)) :
    Calls Try.prog 23 #[.func (.func 69) #[] #[.pointer (some ⟨b, 0, none⟩)], .int .i64 m] w fun e W' => ∃ A c, e = .returned (.slice A ((roundsOf h).take (lim m)).length c) ∧ Kd.C (Kd.int .i64) W' A ((roundsOf h).take (lim m)).length ((roundsOf h).take (lim m)) ∧ ((roundsOf h).take (lim m)).length ≤ c ∧ Below w.heap.size w W' :=
  some_calls 69 _ (enters_of Try.func69 (by kernel_rfl) rfl) m (roundsOf h) w fun W hW hs l J Jx W1 hW1 hJ hJx hY h0 =>
    rounds_in 2 (by omega) l b (w.heap.size + 1) h J Jx hY W1 (((hW1.mono hW.size).cell (p := ⟨b, 0, none⟩) hb).trans ((hW.cell (p := ⟨b, 0, none⟩) hb).trans hc)) (by omega) h0

theorem rounds_calls (h : Int) (w : World) : Calls Try.prog 22 #[.int .i64 h] w fun e w' => e = .returned (.func (.func 69) #[] #[.pointer (some ⟨w.heap.size, 0, none⟩)]) ∧ w' = w.alloc (.cells #[.int .i64 h] 3) := by
  go_enter Try.func22, Try.ntmps22
  go_wp2
  go_ret
  exact ⟨rfl, rfl⟩
attribute [local go_sem] max2_int min2_int max_two min_two
theorem bound_range (most : Int) : 0 ≤ mx 0 (mn most 65537) ∧ mx 0 (mn most 65537) ≤ 65537 := by unfold mx mn; repeat' split <;> omega
theorem same_l0_self (L : List Int) (hL : L.length ≤ 70000) (e : Nat) : ∀ (k i : Nat), i + e = L.length → e < k → larderlaw07_same.l0 k L L (i : Int) = some true := by
  induction e with
  | zero =>
    intro k i h hk
    obtain ⟨k, rfl⟩ : ∃ m, k = m + 1 := ⟨k - 1, by omega⟩
    simp only [larderlaw07_same.l0]
    rw [if_neg (by omega)]
  | succ e ih =>
    intro k i h hk
    obtain ⟨k, rfl⟩ : ∃ m, k = m + 1 := ⟨k - 1, by omega⟩
    simp only [larderlaw07_same.l0]
    rw [if_pos (by omega), if_pos (by omega), if_pos (by omega), if_pos trivial, show wrap64 ((i : Int) + 1) = ((i + 1 : Nat) : Int) from by rw [wrap_id (by omega) (by omega)]; omega]
    exact ih k (i + 1) (by omega) (by omega)
theorem same_self (L : List Int) (hL : L.length ≤ 70000) : larderlaw07_same.f (L.length + 2) L L = some true := by
  unfold larderlaw07_same.f
  rw [if_pos rfl]
  exact same_l0_self L hL L.length _ 0 (by omega) (by omega)
theorem lim_of {N : Int} (h : 0 ≤ N ∧ N ≤ 65537) : lim N = N.toNat := by unfold lim; rw [if_pos h]
set_option maxRecDepth 100000 in
set_option maxHeartbeats 1000000 in
theorem rounds_case_a (h most N : Int) (L : List Int) (W : World) (cb : ∀ w, Calls Try.prog 21 #[.int .i64 most, .int .i64 65537] w fun e w' => e = .returned (.int .i64 N) ∧ Below w.heap.size w w')
    (cs : ∀ b w, b < w.heap.size → w.cell? ⟨b, 0, none⟩ = some (.int .i64 h) → Calls Try.prog 23 #[.func (.func 69) #[] #[.pointer (some ⟨b, 0, none⟩)], .int .i64 N] w fun e W' => ∃ A c, e = .returned (.slice A L.length c) ∧ Kd.C (Kd.int .i64) W' A L.length L ∧ L.length ≤ c ∧ Below w.heap.size w W')
    (hget : Aside0 (∀ x : Int, 0 ≤ x → x < (L.length : Int) → rd L x = Int.tmod x h)) (hL7 : Aside0 (L.length ≤ 70000)) (hh : Aside0 (1 ≤ h ∧ h ≤ 16)) (h1 : 1 ≤ h) (h2 : h ≤ 16) (hn : 65536 < N) (hlb : ((L.length : Int) != 65536) = false) :
    Calls Try.prog 3 #[.int .i64 h, .int .i64 most] W fun e W' => e = .returned (.bool true) ∧ Below W.heap.size W W' := by
  have heq := fun lb W => eq_nilFunc 69 lb W
  go_enter Try.func3, Try.ntmps3
  go_wp2_with (first
    | (go_at_call 21; refine (cb _).mono ?_; rintro e w1 ⟨rfl, B1⟩)
    | (go_at_call 22; refine (rounds_calls h _).mono ?_; rintro e w2 ⟨rfl, rfl⟩)
    | (go_at_call 23; refine (cs _ _ (by simp) (Boxed.new w1 3 (.int .i64 h)).cell).mono ?_; rintro e w3 ⟨A, c, rfl, hC, hc, B3⟩))
  clear hlb
  have HC := Aside0.mk hC
  have Hc := Aside0.mk hc
  have HB1 := Aside0.mk B1
  have HB3 := Aside0.mk B3
  clear hC hc B1 B3
  go_loopw [9] (fun p wr => ∃ x : Int, p = .int .i64 x ∧ Aside0 (0 ≤ x ∧ x ≤ (L.length : Int)) ∧ Drawn0 w3 wr) (fun p _ => ((L.length : Int) - intOf p).toNat)
  case atStart => exact ⟨0, rfl, ⟨by omega, by omega⟩, by repeat (first | exact Drawn0.refl _ | apply Drawn0.step)⟩
  case round =>
    obtain ⟨x, rfl, HX, ⟨m1, rfl⟩⟩ := hrel
    by_cases hlt : x < (L.length : Int)
    · have hltb : decide (x < (L.length : Int)) = true := decide_eq_true hlt
      have hv : rd L x = Int.tmod x h := hget.out x HX.out.1 hlt
      have p1 : 0 ≤ x := HX.out.1
      obtain ⟨ad, e1, hxc⟩ := Kd.at_int HC.out x p1 hlt
      rw [hv] at hxc
      clear hv
      cases e1
      have hz : (h == 0) = false := by have := hh.out; simp; omega
      have HL := Aside0.mk hlt
      replace p1 := eq_true p1
      replace hlt := eq_true hlt
      go_wp2
      repeat (go_quiet (fail); try go_wp2)
      have hL7' := hL7.out
      have HL' := HL.out
      have HX' := HX.out
      have hw : wrap64 (x + 1) = x + 1 := wrap_id (by omega) (by omega)
      refine ⟨⟨wrap64 (x + 1), rfl, ⟨by rw [hw]; omega⟩, by repeat (first | exact Drawn0.refl _ | apply Drawn0.step)⟩, ?_⟩
      rw [hw]; simp only [intOf]; omega
    · have hltb : decide (x < (L.length : Int)) = false := decide_eq_false hlt
      have HY := Aside0.mk hlt
      clear hlt
      have hcell : (w3.drewN m1).cell? ⟨w1.heap.size, 0, none⟩ = some (.int .i64 h) := by
        have h1 := (Boxed.new w1 3 (.int .i64 h)).cell
        have h2 := HB3.out.cell (p := ⟨w1.heap.size, 0, none⟩) (by simp)
        exact (World.cell?_drewN _ _ _).trans (h2.trans h1)
      go_wp2_with (first
        | (go_at_call 23; refine (cs w1.heap.size _ (by have := HB3.out.size; simp at this ⊢; omega) hcell).mono ?_; rintro e w4 ⟨A4, c4, rfl, hC4, hc4, B4⟩)
        | (go_at_call 24; refine (larderlaw07_same.calls (L.length + 2) A4 c4 L A c L true w4 hC4 hc4 (Kd.C_below (Kd.C_drewN HC.out m1) B4) Hc.out (same_self L hL7.out)).mono ?_; rintro e w5 ⟨rfl, ⟨m5, rfl⟩⟩))
      go_ret
      exact ⟨rfl, pw_below_drewN (below_step (below_step (HB1.out) (by have := below_alloc (Below.refl w1.heap.size w1) (.cells #[.int .i64 h] 3); exact this.trans (HB3.out.mono (by simp)))) ((pw_below_drewN (Below.refl _ _) m1).trans (B4.mono (by simp)))) m5⟩
set_option maxRecDepth 100000 in
set_option maxHeartbeats 1000000 in
theorem rounds_case_b (h most N : Int) (L : List Int) (W : World) (cb : ∀ w, Calls Try.prog 21 #[.int .i64 most, .int .i64 65537] w fun e w' => e = .returned (.int .i64 N) ∧ Below w.heap.size w w')
    (cs : ∀ b w, b < w.heap.size → w.cell? ⟨b, 0, none⟩ = some (.int .i64 h) → Calls Try.prog 23 #[.func (.func 69) #[] #[.pointer (some ⟨b, 0, none⟩)], .int .i64 N] w fun e W' => ∃ A c, e = .returned (.slice A L.length c) ∧ Kd.C (Kd.int .i64) W' A L.length L ∧ L.length ≤ c ∧ Below w.heap.size w W')
    (hget : Aside0 (∀ x : Int, 0 ≤ x → x < (L.length : Int) → rd L x = Int.tmod x h)) (hL7 : Aside0 (L.length ≤ 70000)) (hh : Aside0 (1 ≤ h ∧ h ≤ 16)) (h1 : 1 ≤ h) (h2 : h ≤ 16) (hn : N ≤ 65536) (hlb : ((L.length : Int) != N) = false) :
    Calls Try.prog 3 #[.int .i64 h, .int .i64 most] W fun e W' => e = .returned (.bool true) ∧ Below W.heap.size W W' := by
  have heq := fun lb W => eq_nilFunc 69 lb W
  go_enter Try.func3, Try.ntmps3
  go_wp2_with (first
    | (go_at_call 21; refine (cb _).mono ?_; rintro e w1 ⟨rfl, B1⟩)
    | (go_at_call 22; refine (rounds_calls h _).mono ?_; rintro e w2 ⟨rfl, rfl⟩)
    | (go_at_call 23; refine (cs _ _ (by simp) (Boxed.new w1 3 (.int .i64 h)).cell).mono ?_; rintro e w3 ⟨A, c, rfl, hC, hc, B3⟩))
  clear hlb
  have HC := Aside0.mk hC
  have Hc := Aside0.mk hc
  have HB1 := Aside0.mk B1
  have HB3 := Aside0.mk B3
  clear hC hc B1 B3
  go_loopw [9] (fun p wr => ∃ x : Int, p = .int .i64 x ∧ Aside0 (0 ≤ x ∧ x ≤ (L.length : Int)) ∧ Drawn0 w3 wr) (fun p _ => ((L.length : Int) - intOf p).toNat)
  case atStart => exact ⟨0, rfl, ⟨by omega, by omega⟩, by repeat (first | exact Drawn0.refl _ | apply Drawn0.step)⟩
  case round =>
    obtain ⟨x, rfl, HX, ⟨m1, rfl⟩⟩ := hrel
    by_cases hlt : x < (L.length : Int)
    · have hltb : decide (x < (L.length : Int)) = true := decide_eq_true hlt
      have hv : rd L x = Int.tmod x h := hget.out x HX.out.1 hlt
      have p1 : 0 ≤ x := HX.out.1
      obtain ⟨ad, e1, hxc⟩ := Kd.at_int HC.out x p1 hlt
      rw [hv] at hxc
      clear hv
      cases e1
      have hz : (h == 0) = false := by have := hh.out; simp; omega
      have HL := Aside0.mk hlt
      replace p1 := eq_true p1
      replace hlt := eq_true hlt
      go_wp2
      repeat (go_quiet (fail); try go_wp2)
      have hL7' := hL7.out
      have HL' := HL.out
      have HX' := HX.out
      have hw : wrap64 (x + 1) = x + 1 := wrap_id (by omega) (by omega)
      refine ⟨⟨wrap64 (x + 1), rfl, ⟨by rw [hw]; omega⟩, by repeat (first | exact Drawn0.refl _ | apply Drawn0.step)⟩, ?_⟩
      rw [hw]; simp only [intOf]; omega
    · have hltb : decide (x < (L.length : Int)) = false := decide_eq_false hlt
      have HY := Aside0.mk hlt
      clear hlt
      have hcell : (w3.drewN m1).cell? ⟨w1.heap.size, 0, none⟩ = some (.int .i64 h) := by
        have h1 := (Boxed.new w1 3 (.int .i64 h)).cell
        have h2 := HB3.out.cell (p := ⟨w1.heap.size, 0, none⟩) (by simp)
        exact (World.cell?_drewN _ _ _).trans (h2.trans h1)
      go_wp2_with (first
        | (go_at_call 23; refine (cs w1.heap.size _ (by have := HB3.out.size; simp at this ⊢; omega) hcell).mono ?_; rintro e w4 ⟨A4, c4, rfl, hC4, hc4, B4⟩)
        | (go_at_call 24; refine (larderlaw07_same.calls (L.length + 2) A4 c4 L A c L true w4 hC4 hc4 (Kd.C_below (Kd.C_drewN HC.out m1) B4) Hc.out (same_self L hL7.out)).mono ?_; rintro e w5 ⟨rfl, ⟨m5, rfl⟩⟩))
      go_ret
      exact ⟨rfl, pw_below_drewN (below_step (below_step (HB1.out) (by have := below_alloc (Below.refl w1.heap.size w1) (.cells #[.int .i64 h] 3); exact this.trans (HB3.out.mono (by simp)))) ((pw_below_drewN (Below.refl _ _) m1).trans (B4.mono (by simp)))) m5⟩
set_option maxRecDepth 100000 in
set_option maxHeartbeats 1000000 in
theorem rounds_case_c (h most N : Int) (L : List Int) (W : World) (cb : ∀ w, Calls Try.prog 21 #[.int .i64 most, .int .i64 65537] w fun e w' => e = .returned (.int .i64 N) ∧ Below w.heap.size w w')
    (cs : ∀ b w, b < w.heap.size → w.cell? ⟨b, 0, none⟩ = some (.int .i64 h) → Calls Try.prog 23 #[.func (.func 69) #[] #[.pointer (some ⟨b, 0, none⟩)], .int .i64 N] w fun e W' => ∃ A c, e = .returned (.slice A L.length c) ∧ Kd.C (Kd.int .i64) W' A L.length L ∧ L.length ≤ c ∧ Below w.heap.size w W')
    (hget : Aside0 (∀ x : Int, 0 ≤ x → x < (L.length : Int) → rd L x = Int.tmod x h)) (hL7 : Aside0 (L.length ≤ 70000)) (hh : Aside0 (L.length = 0)) (h1 : h < 1) (hlb : ((L.length : Int) != 0) = false) :
    Calls Try.prog 3 #[.int .i64 h, .int .i64 most] W fun e W' => e = .returned (.bool true) ∧ Below W.heap.size W W' := by
  have heq := fun lb W => eq_nilFunc 69 lb W
  go_enter Try.func3, Try.ntmps3
  go_wp2_with (first
    | (go_at_call 21; refine (cb _).mono ?_; rintro e w1 ⟨rfl, B1⟩)
    | (go_at_call 22; refine (rounds_calls h _).mono ?_; rintro e w2 ⟨rfl, rfl⟩)
    | (go_at_call 23; refine (cs _ _ (by simp) (Boxed.new w1 3 (.int .i64 h)).cell).mono ?_; rintro e w3 ⟨A, c, rfl, hC, hc, B3⟩))
  clear hlb
  have HC := Aside0.mk hC
  have Hc := Aside0.mk hc
  have HB1 := Aside0.mk B1
  have HB3 := Aside0.mk B3
  clear hC hc B1 B3
  go_loopw [9] (fun p wr => ∃ x : Int, p = .int .i64 x ∧ Aside0 (0 ≤ x ∧ x ≤ (L.length : Int)) ∧ Drawn0 w3 wr) (fun p _ => ((L.length : Int) - intOf p).toNat)
  case atStart => exact ⟨0, rfl, ⟨by omega, by omega⟩, by repeat (first | exact Drawn0.refl _ | apply Drawn0.step)⟩
  case round =>
    obtain ⟨x, rfl, HX, ⟨m1, rfl⟩⟩ := hrel
    by_cases hlt : x < (L.length : Int)
    · exfalso; have q1 := hh.out; have q2 := HX.out; omega
    · have hltb : decide (x < (L.length : Int)) = false := decide_eq_false hlt
      have HY := Aside0.mk hlt
      clear hlt
      have hcell : (w3.drewN m1).cell? ⟨w1.heap.size, 0, none⟩ = some (.int .i64 h) := by
        have h1 := (Boxed.new w1 3 (.int .i64 h)).cell
        have h2 := HB3.out.cell (p := ⟨w1.heap.size, 0, none⟩) (by simp)
        exact (World.cell?_drewN _ _ _).trans (h2.trans h1)
      go_wp2_with (first
        | (go_at_call 23; refine (cs w1.heap.size _ (by have := HB3.out.size; simp at this ⊢; omega) hcell).mono ?_; rintro e w4 ⟨A4, c4, rfl, hC4, hc4, B4⟩)
        | (go_at_call 24; refine (larderlaw07_same.calls (L.length + 2) A4 c4 L A c L true w4 hC4 hc4 (Kd.C_below (Kd.C_drewN HC.out m1) B4) Hc.out (same_self L hL7.out)).mono ?_; rintro e w5 ⟨rfl, ⟨m5, rfl⟩⟩))
      go_ret
      exact ⟨rfl, pw_below_drewN (below_step (below_step (HB1.out) (by have := below_alloc (Below.refl w1.heap.size w1) (.cells #[.int .i64 h] 3); exact this.trans (HB3.out.mono (by simp)))) ((pw_below_drewN (Below.refl _ _) m1).trans (B4.mono (by simp)))) m5⟩
set_option maxRecDepth 100000 in
set_option maxHeartbeats 1000000 in
theorem rounds_case_d (h most N : Int) (L : List Int) (W : World) (cb : ∀ w, Calls Try.prog 21 #[.int .i64 most, .int .i64 65537] w fun e w' => e = .returned (.int .i64 N) ∧ Below w.heap.size w w')
    (cs : ∀ b w, b < w.heap.size → w.cell? ⟨b, 0, none⟩ = some (.int .i64 h) → Calls Try.prog 23 #[.func (.func 69) #[] #[.pointer (some ⟨b, 0, none⟩)], .int .i64 N] w fun e W' => ∃ A c, e = .returned (.slice A L.length c) ∧ Kd.C (Kd.int .i64) W' A L.length L ∧ L.length ≤ c ∧ Below w.heap.size w W')
    (hget : Aside0 (∀ x : Int, 0 ≤ x → x < (L.length : Int) → rd L x = Int.tmod x h)) (hL7 : Aside0 (L.length ≤ 70000)) (hh : Aside0 (L.length = 0)) (h1 : 1 ≤ h) (h2 : 16 < h) (hlb : ((L.length : Int) != 0) = false) :
    Calls Try.prog 3 #[.int .i64 h, .int .i64 most] W fun e W' => e = .returned (.bool true) ∧ Below W.heap.size W W' := by
  have heq := fun lb W => eq_nilFunc 69 lb W
  go_enter Try.func3, Try.ntmps3
  go_wp2_with (first
    | (go_at_call 21; refine (cb _).mono ?_; rintro e w1 ⟨rfl, B1⟩)
    | (go_at_call 22; refine (rounds_calls h _).mono ?_; rintro e w2 ⟨rfl, rfl⟩)
    | (go_at_call 23; refine (cs _ _ (by simp) (Boxed.new w1 3 (.int .i64 h)).cell).mono ?_; rintro e w3 ⟨A, c, rfl, hC, hc, B3⟩))
  clear hlb
  have HC := Aside0.mk hC
  have Hc := Aside0.mk hc
  have HB1 := Aside0.mk B1
  have HB3 := Aside0.mk B3
  clear hC hc B1 B3
  go_loopw [9] (fun p wr => ∃ x : Int, p = .int .i64 x ∧ Aside0 (0 ≤ x ∧ x ≤ (L.length : Int)) ∧ Drawn0 w3 wr) (fun p _ => ((L.length : Int) - intOf p).toNat)
  case atStart => exact ⟨0, rfl, ⟨by omega, by omega⟩, by repeat (first | exact Drawn0.refl _ | apply Drawn0.step)⟩
  case round =>
    obtain ⟨x, rfl, HX, ⟨m1, rfl⟩⟩ := hrel
    by_cases hlt : x < (L.length : Int)
    · exfalso; have q1 := hh.out; have q2 := HX.out; omega
    · have hltb : decide (x < (L.length : Int)) = false := decide_eq_false hlt
      have HY := Aside0.mk hlt
      clear hlt
      have hcell : (w3.drewN m1).cell? ⟨w1.heap.size, 0, none⟩ = some (.int .i64 h) := by
        have h1 := (Boxed.new w1 3 (.int .i64 h)).cell
        have h2 := HB3.out.cell (p := ⟨w1.heap.size, 0, none⟩) (by simp)
        exact (World.cell?_drewN _ _ _).trans (h2.trans h1)
      go_wp2_with (first
        | (go_at_call 23; refine (cs w1.heap.size _ (by have := HB3.out.size; simp at this ⊢; omega) hcell).mono ?_; rintro e w4 ⟨A4, c4, rfl, hC4, hc4, B4⟩)
        | (go_at_call 24; refine (larderlaw07_same.calls (L.length + 2) A4 c4 L A c L true w4 hC4 hc4 (Kd.C_below (Kd.C_drewN HC.out m1) B4) Hc.out (same_self L hL7.out)).mono ?_; rintro e w5 ⟨rfl, ⟨m5, rfl⟩⟩))
      go_ret
      exact ⟨rfl, pw_below_drewN (below_step (below_step (HB1.out) (by have := below_alloc (Below.refl w1.heap.size w1) (.cells #[.int .i64 h] 3); exact this.trans (HB3.out.mono (by simp)))) ((pw_below_drewN (Below.refl _ _) m1).trans (B4.mono (by simp)))) m5⟩
theorem schedRounds_walk (h : Int) (wh : (Lit.int .i64 h).wf = true) (most : Int) (wm : (Lit.int .i64 most).wf = true) {W : World} : Calls Try.prog 3 #[.int .i64 h, .int .i64 most] W fun e W' => e = .returned (.bool true) ∧ Below W.heap.size W W' := by
  obtain ⟨N, hN⟩ : ∃ N, mx 0 (mn most 65537) = N := ⟨_, rfl⟩
  have rN := bound_range most
  rw [hN] at rN
  have cb := fun w => larderlaw07_bounded.calls most 65537 N w (by unfold larderlaw07_bounded.f; rw [hN])
  obtain ⟨L, hL⟩ : ∃ L, (roundsOf h).take (lim N) = L := ⟨_, rfl⟩
  have cs := fun b w hb hc => some_rounds h N b w hb hc
  rw [hL] at cs
  have hwrong : (h < 1 ∨ 16 < h) → L.length = 0 := fun z => by
    have hr : ¬ handRight h = true := fun y => by have := (handRight_iff h).1 y; omega
    rw [← hL]; unfold roundsOf; rw [if_neg hr]; simp
  have hright : (1 ≤ h ∧ h ≤ 16) → L.length = min N.toNat 65536 := fun z => by
    rw [← hL, List.length_take, rounds_length ((handRight_iff h).2 z), lim_of rN]
  have hget : ∀ x : Int, 0 ≤ x → x < (L.length : Int) → rd L x = Int.tmod x h := fun x h0 h1 => by
    have z : 1 ≤ h ∧ h ≤ 16 := by
      apply Classical.byContradiction; intro y
      have := hwrong (by omega); omega
    have hr := (handRight_iff h).2 z
    have hk : x.toNat < 65536 := by have := hright z; omega
    have hk2 : x.toNat < lim N := by have := hright z; rw [lim_of rN]; omega
    unfold rd
    rw [List.getD_eq_getElem?_getD, ← hL, List.getElem?_take, if_pos hk2, rounds_get hr hk, Int.tmod_eq_emod_of_nonneg h0]
    simp [Int.toNat_of_nonneg h0]
  have hL7 : L.length ≤ 70000 := by
    by_cases z : 1 ≤ h ∧ h ≤ 16
    · have := hright z; omega
    · have := hwrong (by omega); omega
  by_cases z : 1 ≤ h ∧ h ≤ 16
  · have hl := hright z
    by_cases hn : 65536 < N
    · exact rounds_case_a h most N L W cb cs ⟨hget⟩ ⟨hL7⟩ ⟨z⟩ z.1 z.2 hn (bne_eq_false_iff_eq.2 (by omega))
    · exact rounds_case_b h most N L W cb cs ⟨hget⟩ ⟨hL7⟩ ⟨z⟩ z.1 z.2 (by omega) (bne_eq_false_iff_eq.2 (by omega))
  · have hl := hwrong (by omega)
    by_cases hn : h < 1
    · exact rounds_case_c h most N L W cb cs ⟨hget⟩ ⟨hL7⟩ ⟨hl⟩ hn (bne_eq_false_iff_eq.2 (by omega))
    · exact rounds_case_d h most N L W cb cs ⟨hget⟩ ⟨hL7⟩ ⟨hl⟩ (by omega) (by omega) (bne_eq_false_iff_eq.2 (by omega))
end Go.Proofs.Ytfcjfjmjcmanaaa.X
