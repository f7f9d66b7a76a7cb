/- SchedMixed: the law's walk. -/
import Derived.Test.YtfcjfjmjcmanaaaYd
set_option linter.unusedVariables false
namespace Go.Proofs.Ytfcjfjmjcmanaaa.X
open Go.RowKit Go.Shelf Go.Proofs.Ytfcjfjmjcmanaaa.PBase Go.Proofs.YtfcjfjmjcmanaaaW.PrintWords Go.Proofs.YtfcjfjmjcmanaaaW.PrintLast Go.Proofs.YtfcjfjmjcmanaaaW.PrintMore
theorem refMixed (seed h k N : Int) (hN0 : 0 ≤ N) (hN : N ≤ 65537) (w : World) :
    Calls Try.prog 35 #[.int .u64 seed, .int .i64 h, .int .i64 k, .int .i64 N] w fun e w' => ∃ A c, e = .returned (.slice A ((mixedOf h k seed).take N.toNat).length c) ∧ Kd.C (Kd.int .i64) w' A ((mixedOf h k seed).take N.toNat).length ((mixedOf h k seed).take N.toNat) ∧ ((mixedOf h k seed).take N.toNat).length ≤ c ∧ Below w.heap.size w w' := by
  by_cases hf : Fine h k
  · rw [mixedOf_yes hf]
    have hf2 := hf
    obtain ⟨f1, f2, f3, f4⟩ := hf2
    obtain ⟨a, rfl⟩ := Int.eq_ofNat_of_zero_le (show 0 ≤ h by omega)
    rw [Int.toNat_natCast]
    exact refMixed_good seed a ((k + 1) / 2).toNat (by omega) (by omega) (by omega) (by omega) k N hf (by rw [Int.tdiv_eq_ediv_of_nonneg (by omega)]; omega) hN0 hN w
  · rw [mixedOf_no hf]
    refine (refMixed_bad seed h k N hf w).mono ?_
    rintro e w' ⟨rfl, hB⟩
    rw [List.take_nil]
    exact ⟨none, 0, rfl, Kd.C_nil _ _, Nat.le_refl _, hB⟩
theorem mixedOf_le (h k seed : Int) : (mixedOf h k seed).length ≤ 65536 := by
  by_cases hf : Fine h k
  · rw [mixedOf_yes hf]
    obtain ⟨f1, f2, f3, f4⟩ := hf
    rw [mixed_length _ _ _ (by omega)]; exact Nat.le_refl _
  · rw [mixedOf_no hf]; exact Nat.zero_le _
theorem mixed_later {W w3 w4 : World} {B : Nat} {t : TypeId} {v : Value} (h : Boxed W B t v) (h3 : Below W.heap.size W w3) (h4 : Below w3.heap.size w3 w4) (m : Nat) : Boxed (w4.drewN m) B t v := by
  have h1 : w3.heap[B]? = W.heap[B]? := h3.block B h.lt
  have h2 : w4.heap[B]? = w3.heap[B]? := h4.block B (Nat.lt_of_lt_of_le h.lt h3.size)
  have h5 := (pw_below_drewN (Below.refl w4.heap.size w4) m).block B (Nat.lt_of_lt_of_le (Nat.lt_of_lt_of_le h.lt h3.size) h4.size)
  exact h5.trans (h2.trans (h1.trans h))
set_option maxRecDepth 100000 in
set_option maxHeartbeats 4000000 in
theorem schedMixed_walk (seed : Int) (ws : (Lit.int .u64 seed).wf = true) (h : Int) (wh : (Lit.int .i64 h).wf = true) (k : Int) (wk : (Lit.int .i64 k).wf = true) (most : Int) (wm : (Lit.int .i64 most).wf = true) {W : World} :
    Calls Try.prog 6 #[.int .u64 seed, .int .i64 h, .int .i64 k, .int .i64 most] W fun e W' => e = .returned (.bool true) ∧ Below W.heap.size W W' := by
  obtain ⟨N, hN⟩ : ∃ N, mx 0 (mn most 65537) = N := ⟨_, rfl⟩
  have rN := bound_range most
  rw [hN] at rN
  have cb := fun w => larderlaw07_bounded.calls most 65537 N w (by unfold larderlaw07_bounded.f; rw [hN])
  obtain ⟨L, hL⟩ : ∃ L, (mixedOf h k seed).take N.toNat = L := ⟨_, rfl⟩
  have hLl : L.length ≤ 70000 := by rw [← hL, List.length_take]; have := mixedOf_le h k seed; omega
  have cs := fun Bh Bk Bs w a b c => some_mixed h k seed N Bh Bk Bs w a b c
  have cr := fun w => refMixed seed h k N rN.1 rN.2 w
  rw [lim_of rN] at cs
  rw [hL] at cs cr
  have hss := same_self L hLl
  have heq := fun lb W => eq_nilFunc 80 lb W
  have HSS := Aside0.mk hss
  clear hL hN rN hLl ws wh wk wm hss
  have tok := True.intro
  go_enter Try.func6, Try.ntmps6
  go_wp2_with (first
    | (go_at_call 21; refine (cb _).mono ?_; rintro e w1 ⟨rfl, B1⟩; have HB1 := Aside0.mk B1; clear B1)
    | (go_at_call 34; refine (mixed_calls seed h k _).mono ?_; rintro e w2 ⟨rfl, rfl⟩; have bS := Aside0.mk ((Boxed.new w1 52 (.int .u64 seed)).alloc (.cells #[.int .i64 h] 3) |>.alloc (.cells #[.int .i64 k] 3)); have bH := Aside0.mk ((Boxed.new (w1.alloc (.cells #[.int .u64 seed] 52)) 3 (.int .i64 h)).alloc (.cells #[.int .i64 k] 3)); have bK := Aside0.mk (Boxed.new ((w1.alloc (.cells #[.int .u64 seed] 52)).alloc (.cells #[.int .i64 h] 3)) 3 (.int .i64 k)); simp only [World.size_alloc] at bH bK)
    | (go_at_call 23; have _t := tok; go_loud (refine (cs _ _ _ _ bH.out bK.out bS.out).mono ?_; rintro e w3 ⟨A3, c3, rfl, hC3, hc3, B3⟩; have HC3 := Aside0.mk hC3; have Hc3 := Aside0.mk hc3; have HB3 := Aside0.mk B3; clear hC3 hc3 B3 tok))
    | (go_at_call 35; refine (cr _).mono ?_; rintro e w4 ⟨A4, c4, rfl, hC4, hc4, B4⟩; have HC4 := Aside0.mk hC4; have Hc4 := Aside0.mk hc4; have HB4 := Aside0.mk B4; clear hC4 hc4 B4; have tok2 := True.intro)
    | (go_at_call 24; have _t := tok2; refine (larderlaw07_same.calls (L.length + 2) A3 c3 L A4 c4 L true w4 (Kd.C_below HC3.out HB4.out) Hc3.out HC4.out Hc4.out HSS.out).mono ?_; rintro e w5 ⟨rfl, ⟨m5, rfl⟩⟩; clear tok2)
    | (go_at_call 23; go_loud (refine (cs _ _ _ _ (mixed_later bH.out HB3.out HB4.out m5) (mixed_later bK.out HB3.out HB4.out m5) (mixed_later bS.out HB3.out HB4.out m5)).mono ?_; rintro e w6 ⟨A6, c6, rfl, hC6, hc6, B6⟩; have HC6 := Aside0.mk hC6; have Hc6 := Aside0.mk hc6; have HB6 := Aside0.mk B6; clear hC6 hc6 B6))
    | (go_at_call 24; refine (larderlaw07_same.calls (L.length + 2) A6 c6 L A3 c3 L true w6 HC6.out Hc6.out (Kd.C_below (Kd.C_drewN (Kd.C_below HC3.out HB4.out) m5) HB6.out) Hc3.out HSS.out).mono ?_; rintro e w7 ⟨rfl, ⟨m7, rfl⟩⟩))
  go_ret
  refine ⟨rfl, pw_below_drewN (below_step (pw_below_drewN (below_step (below_step (below_step HB1.out (?_ : Below w1.heap.size w1 _)) HB3.out) HB4.out) m5) HB6.out) m7⟩
  exact (((Below.refl _ _).alloc (Nat.le_refl _) _).alloc (by simp) _).alloc (by simp; omega) _
end Go.Proofs.Ytfcjfjmjcmanaaa.X
