/- Mixed: its making, some of it, the document's Mixed. -/
import Derived.Test.YtfcjfjmjcmanaaaYb
import Derived.Outline
set_option linter.unusedVariables false
namespace Go.Proofs.Ytfcjfjmjcmanaaa.X
open Go.RowKit Go.Shelf Go.Proofs.Ytfcjfjmjcmanaaa.O Go.Proofs.Ytfcjfjmjcmanaaa.PMixd Go.Proofs.YtfcjfjmjcmanaaaW.PrintWords Go.Proofs.YtfcjfjmjcmanaaaW.PrintLast Go.Proofs.YtfcjfjmjcmanaaaW.PrintMore
section
attribute [local go_sem] Oper.semAt_some
/-- What Mixed is asked that it can give. -/
def Fine (h k : Int) : Prop := 1 ≤ h ∧ h ≤ 16 ∧ 2 * h - 1 ≤ k ∧ k ≤ 1024
instance (h k : Int) : Decidable (Fine h k) := by unfold Fine; infer_instance
def mixedOf (h k seed : Int) : List Int := if Fine h k then mixed h.toNat ((k + 1) / 2).toNat seed else []
theorem mixedOf_no {h k seed : Int} (hf : ¬ Fine h k) : mixedOf h k seed = [] := by unfold mixedOf; rw [if_neg hf]
theorem mixedOf_yes {h k seed : Int} (hf : Fine h k) : mixedOf h k seed = mixed h.toNat ((k + 1) / 2).toNat seed := by unfold mixedOf; rw [if_pos hf]
theorem mixed_bad (n : Nat) (hn : 1 ≤ n) (l Bh Bk Bs : Nat) (h kq seed : Int) (hf : ¬ Fine h kq) (J Jx : List Int → (Nat → Prop) → World → Prop)
    (W : World) (hBh : Boxed W Bh 3 (.int .i64 h)) (hBk : Boxed W Bk 3 (.int .i64 kq)) (h0 : J [] (fun _ => False) W) :
    CallsIn Fence.wide n Try.prog 80 #[.func (.yield l) #[] #[], .pointer (some ⟨Bh, 0, none⟩), .pointer (some ⟨Bk, 0, none⟩), .pointer (some ⟨Bs, 0, none⟩)] W fun e W' => (∃ v, e = .returned v) ∧
      ((∃ ys T, ys = mixedOf h kq seed ∧ J ys T W') ∨ (∃ pre T, pre <+: mixedOf h kq seed ∧ Jx pre T W')) := by
  rw [mixedOf_no hf]
  refine callsIn_of_wp Try.func80 rfl trivial ?_ rfl
  simp only [Try.ntmps80, List.size_toArray, List.length_cons, List.length_nil, Nat.reduceAdd, Nat.reduceSub, Array.replicate_succ, Array.replicate_zero, List.push_toArray, List.append_toArray, List.nil_append, List.cons_append]
  have c1 := hBh.cell
  have c2 := hBk.cell
  cases hr : handRight h with
  | false =>
    gi_wp2_with (refine ⟨trivial, ?_⟩; gi_at_call 70; refine (handRight_calls _ _ _).mono ?_; rintro e w ⟨rfl, rfl⟩; rw [hr])
    refine bodyPost_ret (results_none rfl _ _ _) rfl ?_
    exact ⟨⟨_, rfl⟩, .inl ⟨_, _, rfl, h0⟩⟩
  | true =>
    have hh := (handRight_iff h).1 hr
    have hw2 : wrap64 (2 * h) = 2 * h := mwr (by omega) (by omega)
    have hw3 : wrap64 (2 * h - 1) = 2 * h - 1 := mwr (by omega) (by omega)
    by_cases hk : kq < 2 * h - 1
    · have d1 : decide (kq < 2 * h - 1) = true := decide_eq_true hk
      clear hk
      gi_wp2_with (refine ⟨trivial, ?_⟩; gi_at_call 70; refine (handRight_calls _ _ _).mono ?_; rintro e w ⟨rfl, rfl⟩; rw [hr])
      refine bodyPost_ret (results_none rfl _ _ _) rfl ?_
      exact ⟨⟨_, rfl⟩, .inl ⟨_, _, rfl, h0⟩⟩
    · have d1 : decide (kq < 2 * h - 1) = false := decide_eq_false hk
      have d2 : decide (1024 < kq) = true := decide_eq_true (by unfold Fine at hf; omega)
      clear hk
      gi_wp2_with (refine ⟨trivial, ?_⟩; gi_at_call 70; refine (handRight_calls _ _ _).mono ?_; rintro e w ⟨rfl, rfl⟩; rw [hr])
      refine bodyPost_ret (results_none rfl _ _ _) rfl ?_
      exact ⟨⟨_, rfl⟩, .inl ⟨_, _, rfl, h0⟩⟩
end
theorem mixed_seq (n : Nat) (hn : 1 ≤ n) (l Bh Bk Bs : Nat) (h kq seed : Int) (Rd : Nat → Prop) (rh : Rd Bh) (rk : Rd Bk) (J Jx : List Int → (Nat → Prop) → World → Prop) (hJ : AbidesS J) (hJx : AbidesS Jx)
    (hY : ∀ pre x T W, J pre T W → pre.length < (mixedOf h kq seed).length → YieldAt Fence.wide (n - 1) Try.prog l #[.int .i64 x] W fun e W' =>
      (e = .returned (.bool true) ∧ J (pre ++ [x]) T W' ∧ KeepsT (fun b => T b ∨ Rd b) W W') ∨ (e = .returned (.bool false) ∧ Jx (pre ++ [x]) T W'))
    (W : World) (hBh : Boxed W Bh 3 (.int .i64 h)) (hBk : Boxed W Bk 3 (.int .i64 kq)) (hBs : Boxed W Bs 52 (.int .u64 seed)) (h0 : J [] (fun _ => False) W) :
    CallsIn Fence.wide n Try.prog 80 #[.func (.yield l) #[] #[], .pointer (some ⟨Bh, 0, none⟩), .pointer (some ⟨Bk, 0, none⟩), .pointer (some ⟨Bs, 0, none⟩)] W fun e W' => (∃ v, e = .returned v) ∧
      ((∃ ys T, ys = mixedOf h kq seed ∧ J ys T W') ∨ (∃ pre T, pre <+: mixedOf h kq seed ∧ Jx pre T W')) := by
  by_cases hf : Fine h kq
  · rw [mixedOf_yes hf] at hY ⊢
    obtain ⟨f1, f2, f3, f4⟩ := hf
    obtain ⟨a, rfl⟩ := Int.eq_ofNat_of_zero_le (show 0 ≤ h by omega)
    rw [Int.toNat_natCast] at hY ⊢
    exact mixed_in n hn l Bh Bk Bs a ((kq + 1) / 2).toNat (by omega) (by omega) (by omega) (by omega) kq f3 f4 (by rw [Int.tdiv_eq_ediv_of_nonneg (by omega)]; omega) seed Rd rh rk J Jx hJ hJx hY W hBh hBk hBs h0
  · exact mixed_bad n hn l Bh Bk Bs h kq seed hf J Jx W hBh hBk h0
theorem some_mixed (h kq seed m : Int) (Bh Bk Bs : Nat) (w : World) (hBh : Boxed w Bh 3 (.int .i64 h)) (hBk : Boxed w Bk 3 (.int .i64 kq)) (hBs : Boxed w Bs 52 (.int .u64 seed)) :
    Calls Try.prog 23 #[.func (.func 80) #[] #[.pointer (some ⟨Bh, 0, none⟩), .pointer (some ⟨Bk, 0, none⟩), .pointer (some ⟨Bs, 0, none⟩)], .int .i64 m] w fun e W' => ∃ A c, e = .returned (.slice A ((mixedOf h kq seed).take (lim m)).length c) ∧ Kd.C (Kd.int .i64) W' A ((mixedOf h kq seed).take (lim m)).length ((mixedOf h kq seed).take (lim m)) ∧ ((mixedOf h kq seed).take (lim m)).length ≤ c ∧ Below w.heap.size w W' :=
  (callsIn_wide.1 (some_inS Fence.wide 3 trivial 80 _ trivial (enters_of Try.func80 (by kernel_rfl) rfl) rfl (by omega) m (mixedOf h kq seed) w (fun b => b = Bh ∨ b = Bk ∨ b = Bs) (fun b hb => by
      rcases hb with rfl | rfl | rfl
      · exact hBh.lt
      · exact hBk.lt
      · exact hBs.lt)
    (fun W hW hs l J Jx W1 hW1 hJ hJx hY h0 => by
      have hk : ∀ b, b < w.heap.size → W1.heap[b]? = w.heap[b]? := fun b hb => ((hW1.mono hW.size).block b hb).trans (hW.block b hb)
      exact mixed_seq 2 (by omega) l Bh Bk Bs h kq seed _ (.inl rfl) (.inr (.inl rfl)) J Jx hJ hJx hY W1 ((hk Bh hBh.lt).trans hBh) ((hk Bk hBk.lt).trans hBk) ((hk Bs hBs.lt).trans hBs) h0))).mono fun e W' ⟨v, he, hr, _, hB⟩ => by
    obtain ⟨A, c, rfl, hC, hc⟩ := C_of_row hr
    exact ⟨A, c, he, hC, hc, hB⟩
theorem mixed_calls (seed h k : Int) (w : World) : Calls Try.prog 34 #[.int .u64 seed, .int .i64 h, .int .i64 k] w fun e w' => e = .returned (.func (.func 80) #[] #[.pointer (some ⟨w.heap.size + 1, 0, none⟩), .pointer (some ⟨w.heap.size + 2, 0, none⟩), .pointer (some ⟨w.heap.size, 0, none⟩)]) ∧ w' = ((w.alloc (.cells #[.int .u64 seed] 52)).alloc (.cells #[.int .i64 h] 3)).alloc (.cells #[.int .i64 k] 3) := by
  go_enter Try.func34, Try.ntmps34
  go_wp2
  go_ret
  exact ⟨rfl, rfl⟩
end Go.Proofs.Ytfcjfjmjcmanaaa.X
