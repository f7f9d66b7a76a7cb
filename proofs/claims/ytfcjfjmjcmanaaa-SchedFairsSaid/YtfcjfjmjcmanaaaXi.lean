/- SchedFairs: the law's walk. -/
import Derived.Test.YtfcjfjmjcmanaaaXh
set_option linter.unusedVariables false
namespace Go.Proofs.Ytfcjfjmjcmanaaa.X
open Go.RowKit Go.Proofs.YtfcjfjmjcmanaaaW.PrintWords Go.Proofs.YtfcjfjmjcmanaaaW.PrintLast Go.Proofs.YtfcjfjmjcmanaaaW.PrintMore Go.Proofs.Ytfcjfjmjcmanaaa.PSchedFairs
set_option maxRecDepth 100000 in
set_option maxHeartbeats 2000000 in
theorem schedFairs_walk (A0 : Option Addr) (c0 : Nat) (l : List Int) {W : World} (hr0 : Kd.C (Kd.int .i64) W A0 l.length l) (hc0 : l.length ≤ c0) (y0 : l.length * 8 ≤ 140737488351232) (zw : ∀ x ∈ l, (Lit.int .i64 x).wf = true) (a1 : Int) (w1 : (Lit.int .i64 a1).wf = true) (a2 : Int) (w2 : (Lit.int .i64 a2).wf = true) :
    Calls Try.prog 5 #[.slice A0 l.length c0, .int .i64 a1, .int .i64 a2] W fun e W' => e = .returned (.bool true) ∧ Below W.heap.size W W' := by
  have hl : l.length ≤ 17592186043904 := by omega
  have hkk : a2 ≤ 9223372036854775807 := by have z := w2; simp [Lit.wf] at z; exact z.2
  obtain ⟨⟨r1, r2⟩, f1, f2⟩ := fair_eq l a1 a2 hkk
  have cl := lent.calls 20 A0 c0 l (l ++ nine 0 9) W hr0 hc0 (lent_eq l hl)
  have HR0 := Aside0.mk hr0
  have HC0 := Aside0.mk hc0
  have HF1 := Aside0.mk f1
  have HF2 := Aside0.mk f2
  have HL := Aside0.mk hl
  clear hr0 hc0 y0 zw f1 f2 hkk hl w1 w2
  go_enter Try.func5, Try.ntmps5
  go_wp2_with (first
    | (go_at_call 30; refine cl.mono ?_; rintro e w3 ⟨A, c, rfl, hc, hC, hlc, B3⟩; have HC1 := Aside0.mk hC; have Hc := Aside0.mk hc; have HB3 := Aside0.mk B3; clear hC hc B3 hlc)
    | (go_at_call 31; refine (sched_Fair.calls 2000000 A c l a1 a2 r1 r2 _ (by have := Kd.C_take (m := l.length) HC1.out (by simp); simpa using this) (by have := Hc.out; simp at this; omega) HF1.out).mono ?_; rintro e w4 ⟨rfl, B4⟩; have HB4 := Aside0.mk B4; clear B4)
    | (go_at_call 32; refine (larderref07_Fair.calls 2000000 A0 c0 l a1 a2 r1 r2 _ (Kd.C_below HR0.out (below_step HB3.out HB4.out)) HC0.out HF2.out).mono ?_; rintro e w5 ⟨rfl, B5⟩; have HB5 := Aside0.mk B5; clear B5)
    | (go_at_call 33; refine (kept_calls (l.length + 20) A c (l ++ nine 0 9) A0 c0 l true _ (Kd.C_below HC1.out (below_step HB4.out HB5.out)) Hc.out (Kd.C_below HR0.out (below_step (below_step HB3.out HB4.out) HB5.out)) HC0.out (by simp [nine]) (by have := HL.out; omega) (kept_loop l HL.out (l.length + 9) 0 _ (by omega) (by omega))).mono ?_; rintro e w6 ⟨rfl, ⟨m6, rfl⟩⟩))
  all_goals (go_ret; exact ⟨rfl, pw_below_drewN (below_step (below_step HB3.out HB4.out) HB5.out) m6⟩)
/-- In the order that the row hands its facts over. -/
theorem schedFairs_walk' (A0 : Option Addr) (c0 : Nat) (l : List Int) {W : World} (hr0 : Kd.C (Kd.int .i64) W A0 l.length l) (hc0 : l.length ≤ c0) (y0 : l.length * 8 ≤ 140737488351232) (zw : ∀ x ∈ l, (Lit.int .i64 x).wf = true) (a1 : Int) (w1 : (Lit.int .i64 a1).wf = true) (a2 : Int) (w2 : (Lit.int .i64 a2).wf = true) :
    Calls Try.prog 5 #[.slice A0 l.length c0, .int .i64 a1, .int .i64 a2] W fun e W' => e = .returned (.bool true) ∧ Below W.heap.size W W' := schedFairs_walk A0 c0 l hr0 hc0 y0 zw a1 w1 a2 w2
end Go.Proofs.Ytfcjfjmjcmanaaa.X
