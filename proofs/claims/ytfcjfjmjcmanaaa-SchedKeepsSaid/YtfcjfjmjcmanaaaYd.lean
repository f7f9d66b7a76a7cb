/- The document's Mixed, by hand. -/
import Derived.Test.YtfcjfjmjcmanaaaYc
set_option linter.unusedVariables false
namespace Go.Proofs.Ytfcjfjmjcmanaaa.X
open Go.RowKit Go.Shelf Go.Proofs.Ytfcjfjmjcmanaaa.O Go.Proofs.Ytfcjfjmjcmanaaa.PMixd Go.Proofs.YtfcjfjmjcmanaaaW.PrintWords Go.Proofs.YtfcjfjmjcmanaaaW.PrintLast Go.Proofs.YtfcjfjmjcmanaaaW.PrintMore
theorem min3 (ats : Array TypeId) (ty : TypeId) (a b c r : Int) (h : (r = a ∧ a ≤ b ∧ a ≤ c) ∨ (r = b ∧ b ≤ a ∧ b ≤ c) ∨ (r = c ∧ c ≤ a ∧ c ≤ b)) : Builtin.min_ ats ty #[.int .i64 a, .int .i64 b, .int .i64 c] = pure (.int .i64 r) := by
  rw [min_three, min2_int]
  simp only [pure_bind]
  rw [min2_int]
  simp only [pure_bind]
  have : (if c < (if b < a then b else a) then c else (if b < a then b else a)) = r := by split <;> split at * <;> omega
  rw [this]
theorem max2 (ats : Array TypeId) (ty : TypeId) (a b r : Int) (h : (r = a ∧ b ≤ a) ∨ (r = b ∧ a ≤ b)) : Builtin.max_ ats ty #[.int .i64 a, .int .i64 b] = pure (.int .i64 r) := by
  rw [max_two, max2_int]
  simp only [pure_bind]
  have : (if a < b then b else a) = r := by split <;> omega
  rw [this]
theorem canMix_f (h k : Int) : larderref07_CanMix.f h k = some (decide (Fine h k)) := by
  unfold larderref07_CanMix.f Fine
  by_cases h1 : h ≥ 1
  · rw [if_pos h1]
    by_cases h2 : h ≤ 16
    · rw [if_pos h2, mwr (by rw [mwr (by omega) (by omega)]; omega) (by rw [mwr (by omega) (by omega)]; omega), mwr (by omega) (by omega)]
      by_cases h3 : k ≥ 2 * h - 1
      · rw [if_pos h3]
        refine congrArg some (decide_eq_decide.2 ?_); omega
      · rw [if_neg h3]
        refine congrArg some (decide_eq_false ?_).symm; omega
    · rw [if_neg h2]
      refine congrArg some (decide_eq_false ?_).symm; omega
  · rw [if_neg h1]
    refine congrArg some (decide_eq_false ?_).symm; omega
set_option maxRecDepth 100000 in
set_option maxHeartbeats 4000000 in
theorem refMixed_bad (seed h k N : Int) (hf : ¬ Fine h k) (w : World) : Calls Try.prog 35 #[.int .u64 seed, .int .i64 h, .int .i64 k, .int .i64 N] w fun e w' => e = .returned (.slice none 0 0) ∧ Below w.heap.size w w' := by
  have hc := larderref07_CanMix.calls h k false w (by rw [canMix_f, decide_eq_false hf])
  go_enter Try.func35, Try.ntmps35
  go_wp2_with (go_at_call 82; refine hc.mono ?_; rintro e w1 ⟨rfl, ⟨m1, rfl⟩⟩)
  go_ret
  exact ⟨rfl, pw_below_drewN (Below.refl _ _) m1⟩
set_option maxRecDepth 100000 in
set_option maxHeartbeats 4000000 in
theorem refMixed_good (seed : Int) (h m : Nat) (h1 : 1 ≤ h) (h2 : h ≤ 16) (hm1 : 1 ≤ m) (hm2 : m ≤ 513) (k N : Int) (hf : Fine (h : Int) k) (hq : Int.tdiv (k + 1) 2 = (m : Int)) (hN0 : 0 ≤ N) (hN : N ≤ 65537) (w : World) :
    Calls Try.prog 35 #[.int .u64 seed, .int .i64 h, .int .i64 k, .int .i64 N] w fun e w' => ∃ A c, e = .returned (.slice A ((mixed h m seed).take N.toNat).length c) ∧ Kd.C (Kd.int .i64) w' A ((mixed h m seed).take N.toNat).length ((mixed h m seed).take N.toNat) ∧ ((mixed h m seed).take N.toNat).length ≤ c ∧ Below w.heap.size w w' := by
  have hc := larderref07_CanMix.calls h k true w (by rw [canMix_f, decide_eq_true hf])
  have hqw : wrap64 (Int.tdiv (wrap64 (k + 1)) 2) = (m : Int) := by unfold Fine at hf; rw [mwr (x := k + 1) (by omega) (by omega), hq]; exact mwr (by omega) (by omega)
  clear hf
  obtain ⟨X, hX⟩ : ∃ X, mixed h m seed = X := ⟨_, rfl⟩
  rw [hX]
  have HX := Aside0.mk hX
  clear hX
  go_enter Try.func35, Try.ntmps35
  go_wp2_with (go_at_call 82; refine hc.mono ?_; rintro e w1 ⟨rfl, ⟨m1, rfl⟩⟩)
  clear hc
  have hI0 : IsS116 w ((w.drewN m1).alloc (.cells #[.int .u64 seed] 116)) w.heap.size seed := ⟨by have := World.alloc_heap_new (w.drewN m1) (.cells #[.int .u64 seed] 116); simpa using this, Nat.le_refl _⟩
  have HI0 := Aside0.mk hI0
  clear hI0
  obtain ⟨cap, hcap⟩ : ∃ cap : Nat, Aside0 (cap = 70000) := ⟨_, ⟨rfl⟩⟩
  go_loopw [9] (fun v wr => ∃ (j : Nat), Aside0 (j = 0 ∨ ((j - 1) * m < 65536)) ∧ Aside0 (Kd.R (Kd.int .i64) 3 wr w.heap.size (fun b => b ≠ w.heap.size) v (gen h m seed j).1) ∧ Aside0 (IsS116 w wr w.heap.size (gen h m seed j).2) ∧ Aside0 (Below w.heap.size w wr)) (fun v _ => match v with | .slice _ n _ => cap - n | _ => 0)
  case atStart => exact ⟨0, ⟨.inl rfl⟩, ⟨Kd.R_nil _ _ _ _ _⟩, HI0, ⟨(pw_below_drewN (Below.refl _ _) m1).alloc (Nat.le_refl _) _⟩⟩
  case round =>
    obtain ⟨j, Hj, HO, HI, HB⟩ := hrel
    obtain ⟨A, co, rfl⟩ := Kd.R_slice HO.out
    have hlen := gen_length h m seed j
    have hjm : j * m ≤ 65536 + 513 := by
      rcases Hj.out with rfl | z
      · omega
      · have : j * m ≤ (j - 1) * m + m := by rw [← Nat.succ_mul]; exact Nat.mul_le_mul_right _ (by omega)
        omega
    have hmill := larderref07_Mill_Block.calls 2100 w.heap.size (gen h m seed j).2 h k (blk h m (gen h m seed j).2).1 (blk h m (gen h m seed j).2).2 w wr HI.out HB.out (mill_block_spec h m h1 h2 hm1 (by omega) k hqw _ 2100 (by omega))
    have hblen := blk_length h m (gen h m seed j).2
    have hg1 : (gen h m seed (j + 1)).1 = (gen h m seed j).1 ++ (blk h m (gen h m seed j).2).1 := rfl
    have hg2 : (gen h m seed (j + 1)).2 = (blk h m (gen h m seed j).2).2 := rfl
    obtain ⟨b, hb⟩ : ∃ b, (blk h m (gen h m seed j).2).1 = b := ⟨_, rfl⟩
    obtain ⟨s', hs'⟩ : ∃ s', (blk h m (gen h m seed j).2).2 = s' := ⟨_, rfl⟩
    rw [hb] at hmill hblen hg1
    rw [hs'] at hmill hg2
    clear hb hs'
    obtain ⟨L, hL⟩ : ∃ L, (gen h m seed j).1 = L := ⟨_, rfl⟩
    rw [hL] at HO hlen hg1 ⊢
    have HG1 := Aside0.mk hg1
    have HG2 := Aside0.mk hg2
    have HLen := Aside0.mk hlen
    have HBl := Aside0.mk hblen
    have HJM := Aside0.mk hjm
    have HLL := Aside0.mk hL
    clear hg1 hg2 hlen hblen hjm hL hq hqw
    by_cases hgo : (L.length : Int) < N ∧ L.length < 65536
    · have g1 : decide ((L.length : Int) < N) = true := decide_eq_true hgo.1
      have g2 : decide ((L.length : Int) < 65536) = true := decide_eq_true (by omega)
      have HG := Aside0.mk hgo
      clear hgo
      go_wp2_with (first
        | (go_at_call 83; refine hmill.mono ?_; rintro e w2 ⟨v2, rfl, hR2, hI2, hB2, hK2⟩; obtain ⟨A2, c2, rfl, hc2, hC2⟩ := Kd.R_reads hR2; have HO2 := Aside0.mk (Kd.R_keep HO.out hK2 (fun k hk => hk)); have HI2 := Aside0.mk hI2; have HB2 := Aside0.mk hB2; have HC2 := Aside0.mk hC2; have HW2 := Aside0.mk hI2.1; clear hR2 hI2 hB2 hK2 hc2 hC2)
        | (at_builtin; go_loud (refine Kd.R_append_rows (Kd.int .i64) (w0 := w) w.heap.size rfl (.tmp 28) (.tmp 32) 26 3 (.int .i64 0) 8 rfl Try.underlying26 info3 rfl (by decide) (by omega) _ L b A2 _ c2 (fun b => b ≠ w.heap.size) (fun _ => False) rfl rfl HO2.out HC2.out (fun _ _ h => h) (fun _ h => h.elim) (fun q hq => by have := (Array.getElem?_eq_some_iff.1 HW2.out).1; omega) HB2.out HB2.out.size (by have := HLen.out; have := HBl.out; have := HJM.out; omega) ?_; intro v3 w3 ho hb3 hg3 _; have hne3 := Kd.R_ne HO2.out HW2.out (by decide); have HI3 := Aside0.mk (HI2.out.grown hg3 hne3); have HO3 := Aside0.mk ho; have HB3 := Aside0.mk hb3; clear hg3 hb3 ho hne3)))
      obtain ⟨A3, c3, rfl⟩ := Kd.R_slice HO3.out
      refine ⟨⟨j + 1, ⟨.inr (by rw [Nat.add_sub_cancel, ← HLen.out]; exact HG.out.2)⟩, ⟨by rw [HG1.out]; exact HO3.out⟩, ⟨by rw [HG2.out]; exact HI3.out⟩, HB3⟩, ?_⟩
      show cap - (L ++ b).length < cap - L.length
      rw [List.length_append, HBl.out]
      have h5 := HG.out.2
      have h6 := hcap.out
      omega
    · have hge : N ≤ (L.length : Int) ∨ 65536 ≤ L.length := by omega
      have HGE := Aside0.mk hge
      obtain ⟨N', hN'⟩ : ∃ N' : Int, (if N ≤ 65536 then N else 65536) = N' := ⟨_, rfl⟩
      have hN1 : 0 ≤ N' := by rw [← hN']; split <;> omega
      have hN2 : N' ≤ (L.length : Int) := by rw [← hN']; split <;> omega
      have hmin := fun ats ty => min3 ats ty (L.length : Int) N 65536 N' (by rw [← hN']; split <;> omega)
      have hmax := fun ats ty => max2 ats ty 0 N' N' (.inr ⟨rfl, hN1⟩)
      have hco : L.length ≤ co := (Kd.R_reads' HO.out).2.1
      have hN3 : N' ≤ (co : Int) := by omega
      have hC := (Kd.R_reads' HO.out).2.2
      have hfin : L.take N'.toNat = X.take N.toNat := by
        rw [← HX.out, ← HLL.out]
        have hl := HLen.out
        have e : (mixed h m seed).take N.toNat = (mixed h m seed).take N'.toNat := by
          by_cases z : N ≤ 65536
          · rw [if_pos z] at hN'; rw [hN']
          · rw [if_neg z] at hN'
            rw [List.take_of_length_le (by rw [mixed_length h m seed hm1]; omega), List.take_of_length_le (by rw [mixed_length h m seed hm1]; omega)]
        rw [e, take_gen h m seed j N'.toNat ?_ (by omega) (by rw [← hN']; split <;> omega)]
        rcases Hj.out with rfl | z
        · omega
        · have : (j - 1) * 1 ≤ (j - 1) * m := Nat.mul_le_mul_left _ hm1
          omega
      have hflen : (X.take N.toNat).length = N'.toNat := by rw [← hfin, List.length_take]; omega
      have HC := Aside0.mk (Kd.C_take (m := N'.toNat) hC (by omega))
      rw [hfin] at HC
      have HF := Aside0.mk hflen
      have HCO := Aside0.mk hco
      have HN2 := Aside0.mk hN2
      clear hgo hN' hC hfin hco hge hflen
      by_cases g1 : (L.length : Int) < N
      · have g1b : decide ((L.length : Int) < N) = true := decide_eq_true g1
        have g2 : decide ((L.length : Int) < 65536) = false := decide_eq_false (by have := HGE.out; omega)
        clear g1
        go_wp2
        go_ret
        exact ⟨A, co, by rw [HF.out]; rfl, HC.out, by rw [HF.out]; have := HN2.out; have := HCO.out; omega, HB.out⟩
      · have g1b : decide ((L.length : Int) < N) = false := decide_eq_false g1
        clear g1
        go_wp2
        go_ret
        exact ⟨A, co, by rw [HF.out]; rfl, HC.out, by rw [HF.out]; have := HN2.out; have := HCO.out; omega, HB.out⟩
end Go.Proofs.Ytfcjfjmjcmanaaa.X
