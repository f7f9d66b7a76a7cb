/- SchedKeeps: the law's walk. -/
import Derived.Test.YtfcjfjmjcmanaaaKa
set_option linter.unusedVariables false
namespace Go.Proofs.Ytfcjfjmjcmanaaa.X
open Go.RowKit Go.Shelf Go.Proofs.Ytfcjfjmjcmanaaa.PBase Go.Proofs.YtfcjfjmjcmanaaaW.PrintWords Go.Proofs.YtfcjfjmjcmanaaaW.PrintLast Go.Proofs.YtfcjfjmjcmanaaaW.PrintMore Go.Proofs.Ytfcjfjmjcmanaaa.PSchedFairs
theorem bound_4000 (most : Int) : 0 ≤ mx 0 (mn most 4000) ∧ mx 0 (mn most 4000) ≤ 4000 := by unfold mx mn; repeat' split <;> omega
theorem some_rounds' (h : Int) (N : Nat) (hN : N ≤ 4000) (b : Nat) (w : World) (hb : Boxed w b 3 (.int .i64 h)) :
    Calls Try.prog 23 #[.func (.func 69) #[] #[.pointer (some ⟨b, 0, none⟩)], .int .i64 N] w fun e W' => ∃ A c, e = .returned (.slice A ((roundsOf h).take N).length c) ∧ Kd.C (Kd.int .i64) W' A ((roundsOf h).take N).length ((roundsOf h).take N) ∧ ((roundsOf h).take N).length ≤ c ∧ Below w.heap.size w W' := by
  have := some_rounds h N b w hb.lt hb.cell
  rw [lim_of (by omega), Int.toNat_natCast] at this
  exact this
theorem some_mixed' (h kq seed : Int) (N : Nat) (hN : N ≤ 4000) (Bh Bk Bs : Nat) (w : World) (hBh : Boxed w Bh 3 (.int .i64 h)) (hBk : Boxed w Bk 3 (.int .i64 kq)) (hBs : Boxed w Bs 52 (.int .u64 seed)) :
    Calls Try.prog 23 #[.func (.func 80) #[] #[.pointer (some ⟨Bh, 0, none⟩), .pointer (some ⟨Bk, 0, none⟩), .pointer (some ⟨Bs, 0, none⟩)], .int .i64 N] w fun e W' => ∃ A c, e = .returned (.slice A ((mixedOf h kq seed).take N).length c) ∧ Kd.C (Kd.int .i64) W' A ((mixedOf h kq seed).take N).length ((mixedOf h kq seed).take N) ∧ ((mixedOf h kq seed).take N).length ≤ c ∧ Below w.heap.size w W' := by
  have := some_mixed h kq seed N Bh Bk Bs w hBh hBk hBs
  rw [lim_of (by omega), Int.toNat_natCast] at this
  exact this
theorem take_empty {l : List Int} (h : l = []) (n : Nat) : (l.take n).length = 0 := by rw [h]; simp
section
set_option maxRecDepth 100000
set_option maxHeartbeats 4000000
theorem below_alloc3 (w : World) (a b c : Obj) : Below w.heap.size w (((w.alloc a).alloc b).alloc c) := (((Below.refl _ _).alloc (Nat.le_refl _) _).alloc (by simp) _).alloc (by simp; omega) _
theorem below_alloc1 (w : World) (a : Obj) : Below w.heap.size w (w.alloc a) := (Below.refl _ _).alloc (Nat.le_refl _) _
/-- Nothing comes. -/
theorem keeps_case_a1 (seed h k most : Int) (N : Nat) (L M : List Int) (W : World)
    (cb : ∀ w, Calls Try.prog 21 #[.int .i64 most, .int .i64 4000] w fun e w' => e = .returned (.int .i64 N) ∧ Below w.heap.size w w')
    (cs : ∀ b w, Boxed w b 3 (.int .i64 h) → Calls Try.prog 23 #[.func (.func 69) #[] #[.pointer (some ⟨b, 0, none⟩)], .int .i64 N] w fun e W' => ∃ A c, e = .returned (.slice A L.length c) ∧ Kd.C (Kd.int .i64) W' A L.length L ∧ L.length ≤ c ∧ Below w.heap.size w W')
    (cm : ∀ Bh Bk Bs w, Boxed w Bh 3 (.int .i64 h) → Boxed w Bk 3 (.int .i64 k) → Boxed w Bs 52 (.int .u64 seed) → Calls Try.prog 23 #[.func (.func 80) #[] #[.pointer (some ⟨Bh, 0, none⟩), .pointer (some ⟨Bk, 0, none⟩), .pointer (some ⟨Bs, 0, none⟩)], .int .i64 N] w fun e W' => ∃ A c, e = .returned (.slice A M.length c) ∧ Kd.C (Kd.int .i64) W' A M.length M ∧ M.length ≤ c ∧ Below w.heap.size w W')
    (hM : M.length = 0) (d1 : decide (h ≥ 1) = false) (d2 : decide (h < 1) = true) :
    Calls Try.prog 8 #[.int .u64 seed, .int .i64 h, .int .i64 k, .int .i64 most] W fun e W' => e = .returned (.bool true) ∧ Below W.heap.size W W' := by
  have hM0 : ((M.length : Int) == 0) = true := by simp [hM]
  clear hM
  have tok := True.intro
  go_enter Try.func8, Try.ntmps8
  go_wp2_with (first
    | (go_at_call 21; refine (cb _).mono ?_; rintro e w1 ⟨rfl, B1⟩; have HB1 := Aside0.mk B1; clear B1)
    | (go_at_call 22; refine (rounds_calls h _).mono ?_; rintro e w2 ⟨rfl, rfl⟩; have bR := Aside0.mk (Boxed.new w1 3 (.int .i64 h)))
    | (go_at_call 23; have _t := tok; refine (cs _ _ bR.out).mono ?_; rintro e w3 ⟨A3, c3, rfl, hC3, hc3, B3⟩; have HC3 := Aside0.mk hC3; have Hc3 := Aside0.mk hc3; have HB3 := Aside0.mk B3; clear hC3 hc3 B3 tok; have tok2 := True.intro)
    | (go_at_call 34; refine (mixed_calls seed h k _).mono ?_; rintro e w5 ⟨rfl, rfl⟩; have bS := Aside0.mk ((Boxed.new w3 52 (.int .u64 seed)).alloc (.cells #[.int .i64 h] 3) |>.alloc (.cells #[.int .i64 k] 3)); have bH := Aside0.mk ((Boxed.new (w3.alloc (.cells #[.int .u64 seed] 52)) 3 (.int .i64 h)).alloc (.cells #[.int .i64 k] 3)); have bK := Aside0.mk (Boxed.new ((w3.alloc (.cells #[.int .u64 seed] 52)).alloc (.cells #[.int .i64 h] 3)) 3 (.int .i64 k)); simp only [World.size_alloc] at bH bK)
    | (go_at_call 23; refine (cm _ _ _ _ bH.out bK.out bS.out).mono ?_; rintro e w6 ⟨A6, c6, rfl, hC6, hc6, B6⟩; have HC6 := Aside0.mk hC6; have Hc6 := Aside0.mk hc6; have HB6 := Aside0.mk B6; clear hC6 hc6 B6)
    )
  go_ret
  exact ⟨rfl, below_step (below_step (below_step (below_step HB1.out (below_alloc1 _ _)) HB3.out) (below_alloc3 _ _ _ _)) HB6.out⟩
/-- Nothing comes. -/
theorem keeps_case_a2 (seed h k most : Int) (N : Nat) (L M : List Int) (W : World)
    (cb : ∀ w, Calls Try.prog 21 #[.int .i64 most, .int .i64 4000] w fun e w' => e = .returned (.int .i64 N) ∧ Below w.heap.size w w')
    (cs : ∀ b w, Boxed w b 3 (.int .i64 h) → Calls Try.prog 23 #[.func (.func 69) #[] #[.pointer (some ⟨b, 0, none⟩)], .int .i64 N] w fun e W' => ∃ A c, e = .returned (.slice A L.length c) ∧ Kd.C (Kd.int .i64) W' A L.length L ∧ L.length ≤ c ∧ Below w.heap.size w W')
    (cm : ∀ Bh Bk Bs w, Boxed w Bh 3 (.int .i64 h) → Boxed w Bk 3 (.int .i64 k) → Boxed w Bs 52 (.int .u64 seed) → Calls Try.prog 23 #[.func (.func 80) #[] #[.pointer (some ⟨Bh, 0, none⟩), .pointer (some ⟨Bk, 0, none⟩), .pointer (some ⟨Bs, 0, none⟩)], .int .i64 N] w fun e W' => ∃ A c, e = .returned (.slice A M.length c) ∧ Kd.C (Kd.int .i64) W' A M.length M ∧ M.length ≤ c ∧ Below w.heap.size w W')
    (hM : M.length = 0) (d1 : decide (h ≥ 1) = true) (d2 : decide (h < 1) = false) (d3 : decide (h ≤ 16) = false) (d4 : decide (h > 16) = true) :
    Calls Try.prog 8 #[.int .u64 seed, .int .i64 h, .int .i64 k, .int .i64 most] W fun e W' => e = .returned (.bool true) ∧ Below W.heap.size W W' := by
  have hM0 : ((M.length : Int) == 0) = true := by simp [hM]
  clear hM
  have tok := True.intro
  go_enter Try.func8, Try.ntmps8
  go_wp2_with (first
    | (go_at_call 21; refine (cb _).mono ?_; rintro e w1 ⟨rfl, B1⟩; have HB1 := Aside0.mk B1; clear B1)
    | (go_at_call 22; refine (rounds_calls h _).mono ?_; rintro e w2 ⟨rfl, rfl⟩; have bR := Aside0.mk (Boxed.new w1 3 (.int .i64 h)))
    | (go_at_call 23; have _t := tok; refine (cs _ _ bR.out).mono ?_; rintro e w3 ⟨A3, c3, rfl, hC3, hc3, B3⟩; have HC3 := Aside0.mk hC3; have Hc3 := Aside0.mk hc3; have HB3 := Aside0.mk B3; clear hC3 hc3 B3 tok; have tok2 := True.intro)
    | (go_at_call 34; refine (mixed_calls seed h k _).mono ?_; rintro e w5 ⟨rfl, rfl⟩; have bS := Aside0.mk ((Boxed.new w3 52 (.int .u64 seed)).alloc (.cells #[.int .i64 h] 3) |>.alloc (.cells #[.int .i64 k] 3)); have bH := Aside0.mk ((Boxed.new (w3.alloc (.cells #[.int .u64 seed] 52)) 3 (.int .i64 h)).alloc (.cells #[.int .i64 k] 3)); have bK := Aside0.mk (Boxed.new ((w3.alloc (.cells #[.int .u64 seed] 52)).alloc (.cells #[.int .i64 h] 3)) 3 (.int .i64 k)); simp only [World.size_alloc] at bH bK)
    | (go_at_call 23; refine (cm _ _ _ _ bH.out bK.out bS.out).mono ?_; rintro e w6 ⟨A6, c6, rfl, hC6, hc6, B6⟩; have HC6 := Aside0.mk hC6; have Hc6 := Aside0.mk hc6; have HB6 := Aside0.mk B6; clear hC6 hc6 B6)
    )
  go_ret
  exact ⟨rfl, below_step (below_step (below_step (below_step HB1.out (below_alloc1 _ _)) HB3.out) (below_alloc3 _ _ _ _)) HB6.out⟩
/-- Rounds alone. -/
theorem keeps_case_b1 (seed h k most : Int) (N : Nat) (L M : List Int) (W : World)
    (cb : ∀ w, Calls Try.prog 21 #[.int .i64 most, .int .i64 4000] w fun e w' => e = .returned (.int .i64 N) ∧ Below w.heap.size w w')
    (cs : ∀ b w, Boxed w b 3 (.int .i64 h) → Calls Try.prog 23 #[.func (.func 69) #[] #[.pointer (some ⟨b, 0, none⟩)], .int .i64 N] w fun e W' => ∃ A c, e = .returned (.slice A L.length c) ∧ Kd.C (Kd.int .i64) W' A L.length L ∧ L.length ≤ c ∧ Below w.heap.size w W')
    (cm : ∀ Bh Bk Bs w, Boxed w Bh 3 (.int .i64 h) → Boxed w Bk 3 (.int .i64 k) → Boxed w Bs 52 (.int .u64 seed) → Calls Try.prog 23 #[.func (.func 80) #[] #[.pointer (some ⟨Bh, 0, none⟩), .pointer (some ⟨Bk, 0, none⟩), .pointer (some ⟨Bs, 0, none⟩)], .int .i64 N] w fun e W' => ∃ A c, e = .returned (.slice A M.length c) ∧ Kd.C (Kd.int .i64) W' A M.length M ∧ M.length ≤ c ∧ Below w.heap.size w W')
    (hM : M.length = 0) (hL : L.length = N) (d1 : decide (h ≥ 1) = true) (d2 : decide (h < 1) = false) (d3 : decide (h ≤ 16) = true) (d4 : decide (h > 16) = false) (hw : wrap64 (wrap64 (2 * h) - 1) = 2 * h - 1) (d5 : decide (k < 2 * h - 1) = true) (FA : Aside0 (sched_Fair.f 2000000 L h h = some (true, 0))) :
    Calls Try.prog 8 #[.int .u64 seed, .int .i64 h, .int .i64 k, .int .i64 most] W fun e W' => e = .returned (.bool true) ∧ Below W.heap.size W W' := by
  have hM0 : ((M.length : Int) == 0) = true := by simp [hM]
  have hL0 : ((L.length : Int) != (N : Int)) = false := by simp [hL]
  clear hM hL
  have tok := True.intro
  go_enter Try.func8, Try.ntmps8
  go_wp2_with (first
    | (go_at_call 21; refine (cb _).mono ?_; rintro e w1 ⟨rfl, B1⟩; have HB1 := Aside0.mk B1; clear B1)
    | (go_at_call 22; refine (rounds_calls h _).mono ?_; rintro e w2 ⟨rfl, rfl⟩; have bR := Aside0.mk (Boxed.new w1 3 (.int .i64 h)))
    | (go_at_call 23; have _t := tok; refine (cs _ _ bR.out).mono ?_; rintro e w3 ⟨A3, c3, rfl, hC3, hc3, B3⟩; have HC3 := Aside0.mk hC3; have Hc3 := Aside0.mk hc3; have HB3 := Aside0.mk B3; clear hC3 hc3 B3 tok; have tok2 := True.intro)
    | (go_at_call 31; have _t := tok2; refine (sched_Fair.calls 2000000 A3 c3 L h h true 0 _ HC3.out Hc3.out FA.out).mono ?_; rintro e w4 ⟨rfl, B4⟩; have HB4 := Aside0.mk B4; clear B4 tok2)
    | (go_at_call 34; refine (mixed_calls seed h k _).mono ?_; rintro e w5 ⟨rfl, rfl⟩; have bS := Aside0.mk ((Boxed.new w4 52 (.int .u64 seed)).alloc (.cells #[.int .i64 h] 3) |>.alloc (.cells #[.int .i64 k] 3)); have bH := Aside0.mk ((Boxed.new (w4.alloc (.cells #[.int .u64 seed] 52)) 3 (.int .i64 h)).alloc (.cells #[.int .i64 k] 3)); have bK := Aside0.mk (Boxed.new ((w4.alloc (.cells #[.int .u64 seed] 52)).alloc (.cells #[.int .i64 h] 3)) 3 (.int .i64 k)); simp only [World.size_alloc] at bH bK)
    | (go_at_call 23; refine (cm _ _ _ _ bH.out bK.out bS.out).mono ?_; rintro e w6 ⟨A6, c6, rfl, hC6, hc6, B6⟩; have HC6 := Aside0.mk hC6; have Hc6 := Aside0.mk hc6; have HB6 := Aside0.mk B6; clear hC6 hc6 B6)
    )
  go_ret
  exact ⟨rfl, below_step (below_step (below_step (below_step (below_step HB1.out (below_alloc1 _ _)) HB3.out) HB4.out) (below_alloc3 _ _ _ _)) HB6.out⟩
/-- Rounds alone. -/
theorem keeps_case_b2 (seed h k most : Int) (N : Nat) (L M : List Int) (W : World)
    (cb : ∀ w, Calls Try.prog 21 #[.int .i64 most, .int .i64 4000] w fun e w' => e = .returned (.int .i64 N) ∧ Below w.heap.size w w')
    (cs : ∀ b w, Boxed w b 3 (.int .i64 h) → Calls Try.prog 23 #[.func (.func 69) #[] #[.pointer (some ⟨b, 0, none⟩)], .int .i64 N] w fun e W' => ∃ A c, e = .returned (.slice A L.length c) ∧ Kd.C (Kd.int .i64) W' A L.length L ∧ L.length ≤ c ∧ Below w.heap.size w W')
    (cm : ∀ Bh Bk Bs w, Boxed w Bh 3 (.int .i64 h) → Boxed w Bk 3 (.int .i64 k) → Boxed w Bs 52 (.int .u64 seed) → Calls Try.prog 23 #[.func (.func 80) #[] #[.pointer (some ⟨Bh, 0, none⟩), .pointer (some ⟨Bk, 0, none⟩), .pointer (some ⟨Bs, 0, none⟩)], .int .i64 N] w fun e W' => ∃ A c, e = .returned (.slice A M.length c) ∧ Kd.C (Kd.int .i64) W' A M.length M ∧ M.length ≤ c ∧ Below w.heap.size w W')
    (hM : M.length = 0) (hL : L.length = N) (d1 : decide (h ≥ 1) = true) (d2 : decide (h < 1) = false) (d3 : decide (h ≤ 16) = true) (d4 : decide (h > 16) = false) (hw : wrap64 (wrap64 (2 * h) - 1) = 2 * h - 1) (d5 : decide (k < 2 * h - 1) = false) (d6 : decide (k > 1024) = true) (FA : Aside0 (sched_Fair.f 2000000 L h h = some (true, 0))) :
    Calls Try.prog 8 #[.int .u64 seed, .int .i64 h, .int .i64 k, .int .i64 most] W fun e W' => e = .returned (.bool true) ∧ Below W.heap.size W W' := by
  have hM0 : ((M.length : Int) == 0) = true := by simp [hM]
  have hL0 : ((L.length : Int) != (N : Int)) = false := by simp [hL]
  clear hM hL
  have tok := True.intro
  go_enter Try.func8, Try.ntmps8
  go_wp2_with (first
    | (go_at_call 21; refine (cb _).mono ?_; rintro e w1 ⟨rfl, B1⟩; have HB1 := Aside0.mk B1; clear B1)
    | (go_at_call 22; refine (rounds_calls h _).mono ?_; rintro e w2 ⟨rfl, rfl⟩; have bR := Aside0.mk (Boxed.new w1 3 (.int .i64 h)))
    | (go_at_call 23; have _t := tok; refine (cs _ _ bR.out).mono ?_; rintro e w3 ⟨A3, c3, rfl, hC3, hc3, B3⟩; have HC3 := Aside0.mk hC3; have Hc3 := Aside0.mk hc3; have HB3 := Aside0.mk B3; clear hC3 hc3 B3 tok; have tok2 := True.intro)
    | (go_at_call 31; have _t := tok2; refine (sched_Fair.calls 2000000 A3 c3 L h h true 0 _ HC3.out Hc3.out FA.out).mono ?_; rintro e w4 ⟨rfl, B4⟩; have HB4 := Aside0.mk B4; clear B4 tok2)
    | (go_at_call 34; refine (mixed_calls seed h k _).mono ?_; rintro e w5 ⟨rfl, rfl⟩; have bS := Aside0.mk ((Boxed.new w4 52 (.int .u64 seed)).alloc (.cells #[.int .i64 h] 3) |>.alloc (.cells #[.int .i64 k] 3)); have bH := Aside0.mk ((Boxed.new (w4.alloc (.cells #[.int .u64 seed] 52)) 3 (.int .i64 h)).alloc (.cells #[.int .i64 k] 3)); have bK := Aside0.mk (Boxed.new ((w4.alloc (.cells #[.int .u64 seed] 52)).alloc (.cells #[.int .i64 h] 3)) 3 (.int .i64 k)); simp only [World.size_alloc] at bH bK)
    | (go_at_call 23; refine (cm _ _ _ _ bH.out bK.out bS.out).mono ?_; rintro e w6 ⟨A6, c6, rfl, hC6, hc6, B6⟩; have HC6 := Aside0.mk hC6; have Hc6 := Aside0.mk hc6; have HB6 := Aside0.mk B6; clear hC6 hc6 B6)
    )
  go_ret
  exact ⟨rfl, below_step (below_step (below_step (below_step (below_step HB1.out (below_alloc1 _ _)) HB3.out) HB4.out) (below_alloc3 _ _ _ _)) HB6.out⟩
/-- Both. -/
theorem keeps_case_c (seed h k most : Int) (N : Nat) (L M : List Int) (W : World)
    (cb : ∀ w, Calls Try.prog 21 #[.int .i64 most, .int .i64 4000] w fun e w' => e = .returned (.int .i64 N) ∧ Below w.heap.size w w')
    (cs : ∀ b w, Boxed w b 3 (.int .i64 h) → Calls Try.prog 23 #[.func (.func 69) #[] #[.pointer (some ⟨b, 0, none⟩)], .int .i64 N] w fun e W' => ∃ A c, e = .returned (.slice A L.length c) ∧ Kd.C (Kd.int .i64) W' A L.length L ∧ L.length ≤ c ∧ Below w.heap.size w W')
    (cm : ∀ Bh Bk Bs w, Boxed w Bh 3 (.int .i64 h) → Boxed w Bk 3 (.int .i64 k) → Boxed w Bs 52 (.int .u64 seed) → Calls Try.prog 23 #[.func (.func 80) #[] #[.pointer (some ⟨Bh, 0, none⟩), .pointer (some ⟨Bk, 0, none⟩), .pointer (some ⟨Bs, 0, none⟩)], .int .i64 N] w fun e W' => ∃ A c, e = .returned (.slice A M.length c) ∧ Kd.C (Kd.int .i64) W' A M.length M ∧ M.length ≤ c ∧ Below w.heap.size w W')
    (hM : M.length = N) (hL : L.length = N) (d1 : decide (h ≥ 1) = true) (d2 : decide (h < 1) = false) (d3 : decide (h ≤ 16) = true) (d4 : decide (h > 16) = false) (hw : wrap64 (wrap64 (2 * h) - 1) = 2 * h - 1) (d5 : decide (k < 2 * h - 1) = false) (d6 : decide (k > 1024) = false) (FA : Aside0 (sched_Fair.f 2000000 L h h = some (true, 0))) (FB : Aside0 (sched_Fair.f 2000000 M h k = some (true, 0))) :
    Calls Try.prog 8 #[.int .u64 seed, .int .i64 h, .int .i64 k, .int .i64 most] W fun e W' => e = .returned (.bool true) ∧ Below W.heap.size W W' := by
  have hM0 : ((M.length : Int) == (N : Int)) = true := by simp [hM]
  have hL0 : ((L.length : Int) != (N : Int)) = false := by simp [hL]
  clear hM hL
  have tok := True.intro
  go_enter Try.func8, Try.ntmps8
  go_wp2_with (first
    | (go_at_call 21; refine (cb _).mono ?_; rintro e w1 ⟨rfl, B1⟩; have HB1 := Aside0.mk B1; clear B1)
    | (go_at_call 22; refine (rounds_calls h _).mono ?_; rintro e w2 ⟨rfl, rfl⟩; have bR := Aside0.mk (Boxed.new w1 3 (.int .i64 h)))
    | (go_at_call 23; have _t := tok; refine (cs _ _ bR.out).mono ?_; rintro e w3 ⟨A3, c3, rfl, hC3, hc3, B3⟩; have HC3 := Aside0.mk hC3; have Hc3 := Aside0.mk hc3; have HB3 := Aside0.mk B3; clear hC3 hc3 B3 tok; have tok2 := True.intro)
    | (go_at_call 31; have _t := tok2; refine (sched_Fair.calls 2000000 A3 c3 L h h true 0 _ HC3.out Hc3.out FA.out).mono ?_; rintro e w4 ⟨rfl, B4⟩; have HB4 := Aside0.mk B4; clear B4 tok2)
    | (go_at_call 34; refine (mixed_calls seed h k _).mono ?_; rintro e w5 ⟨rfl, rfl⟩; have bS := Aside0.mk ((Boxed.new w4 52 (.int .u64 seed)).alloc (.cells #[.int .i64 h] 3) |>.alloc (.cells #[.int .i64 k] 3)); have bH := Aside0.mk ((Boxed.new (w4.alloc (.cells #[.int .u64 seed] 52)) 3 (.int .i64 h)).alloc (.cells #[.int .i64 k] 3)); have bK := Aside0.mk (Boxed.new ((w4.alloc (.cells #[.int .u64 seed] 52)).alloc (.cells #[.int .i64 h] 3)) 3 (.int .i64 k)); simp only [World.size_alloc] at bH bK)
    | (go_at_call 23; refine (cm _ _ _ _ bH.out bK.out bS.out).mono ?_; rintro e w6 ⟨A6, c6, rfl, hC6, hc6, B6⟩; have HC6 := Aside0.mk hC6; have Hc6 := Aside0.mk hc6; have HB6 := Aside0.mk B6; clear hC6 hc6 B6)
    | (go_at_call 31; refine (sched_Fair.calls 2000000 A6 c6 M h k true 0 _ HC6.out Hc6.out FB.out).mono ?_; rintro e w7 ⟨rfl, B7⟩; have HB7 := Aside0.mk B7; clear B7)
    )
  go_ret
  exact ⟨rfl, below_step (below_step (below_step (below_step (below_step (below_step HB1.out (below_alloc1 _ _)) HB3.out) HB4.out) (below_alloc3 _ _ _ _)) HB6.out) HB7.out⟩
end
theorem schedKeeps_walk (seed : Int) (ws : (Lit.int .u64 seed).wf = true) (h : Int) (wh : (Lit.int .i64 h).wf = true) (k : Int) (wk : (Lit.int .i64 k).wf = true) (most : Int) (wm : (Lit.int .i64 most).wf = true) {W : World} :
    Calls Try.prog 8 #[.int .u64 seed, .int .i64 h, .int .i64 k, .int .i64 most] W fun e W' => e = .returned (.bool true) ∧ Below W.heap.size W W' := by
  have rN := bound_4000 most
  obtain ⟨N, hN⟩ : ∃ N : Nat, mx 0 (mn most 4000) = N := ⟨(mx 0 (mn most 4000)).toNat, by omega⟩
  rw [hN] at rN
  have cb := fun w => larderlaw07_bounded.calls most 4000 N w (by unfold larderlaw07_bounded.f; rw [hN])
  have hN4 : N ≤ 4000 := by omega
  have cs := fun b w a => some_rounds' h N hN4 b w a
  have cm := fun Bh Bk Bs w a b c => some_mixed' h k seed N hN4 Bh Bk Bs w a b c
  by_cases h1 : h < 1
  · exact keeps_case_a1 seed h k most N _ _ W cb cs cm (take_empty (mixedOf_no (by unfold Fine; omega)) N) (decide_eq_false (by omega)) (decide_eq_true (by omega))
  by_cases h2 : 16 < h
  · exact keeps_case_a2 seed h k most N _ _ W cb cs cm (take_empty (mixedOf_no (by unfold Fine; omega)) N) (decide_eq_true (by omega)) (decide_eq_false (by omega)) (decide_eq_false (by omega)) (decide_eq_true (by omega))
  have hw : wrap64 (wrap64 (2 * h) - 1) = 2 * h - 1 := by rw [mwr (x := 2 * h) (by omega) (by omega), mwr (by omega) (by omega)]
  obtain ⟨a, rfl⟩ := Int.eq_ofNat_of_zero_le (show 0 ≤ h by omega)
  obtain ⟨fa, la⟩ := rounds_fair a N (by omega) (by omega) (by omega)
  have w1 : decide ((a : Int) ≥ 1) = true := decide_eq_true (by omega)
  have w2 : decide ((a : Int) < 1) = false := decide_eq_false (by omega)
  have w3 : decide ((a : Int) ≤ 16) = true := decide_eq_true (by omega)
  have w4 : decide ((a : Int) > 16) = false := decide_eq_false (by omega)
  by_cases h3 : k < 2 * (a : Int) - 1
  · exact keeps_case_b1 seed a k most N _ _ W cb cs cm (take_empty (mixedOf_no (by unfold Fine; omega)) N) la w1 w2 w3 w4 hw (decide_eq_true h3) ⟨fa⟩
  by_cases h4 : 1024 < k
  · exact keeps_case_b2 seed a k most N _ _ W cb cs cm (take_empty (mixedOf_no (by unfold Fine; omega)) N) la w1 w2 w3 w4 hw (decide_eq_false h3) (decide_eq_true h4) ⟨fa⟩
  have hf : Fine (a : Int) k := by unfold Fine; omega
  obtain ⟨fb, lb⟩ := mixed_fair a ((k + 1) / 2).toNat seed k (by omega) (by omega) (by omega) (by omega) (by omega) (by omega) N (by omega)
  have hm := mixedOf_yes (seed := seed) hf
  rw [Int.toNat_natCast] at hm
  rw [← hm] at fb lb
  exact keeps_case_c seed a k most N _ _ W cb cs cm lb la w1 w2 w3 w4 hw (decide_eq_false h3) (decide_eq_false h4) ⟨fa⟩ ⟨fb⟩
end Go.Proofs.Ytfcjfjmjcmanaaa.X
