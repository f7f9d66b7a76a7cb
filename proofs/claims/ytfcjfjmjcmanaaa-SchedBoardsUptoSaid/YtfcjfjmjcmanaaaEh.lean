/- SchedBoards: both boards, there or nil: what each call answers. -/
import Derived.Test.YtfcjfjmjcmanaaaEg
import Derived.Test.YtfcjfjmjcmanaaaCg
set_option linter.unusedVariables false
namespace Go.Proofs.Ytfcjfjmjcmanaaa.B
open Go Go.RowKit Go.Proofs.YtfcjfjmjcmanaaaW.PrintWords Go.Proofs.YtfcjfjmjcmanaaaW.PrintLast Go.Proofs.YtfcjfjmjcmanaaaW.PrintMore
/-! ### nil boards -/
set_option maxRecDepth 100000
set_option maxHeartbeats 4000000
theorem nilS_First (x : Int) (w : World) : Calls Try.prog 43 #[.pointer none, .int .i64 x] w fun e w' => e = .returned (.tuple #[.int .i64 (-1), .bool false]) ∧ Drawn0 w w' := by
  go_enter Try.func43, Try.ntmps43
  go_wp2
  go_ret2
  exact ⟨rfl, by first | exact Drawn0.refl _ | exact ⟨_, rfl⟩⟩
theorem nilS_Pick (x : Int) (w : World) : Calls Try.prog 49 #[.pointer none, .int .i64 x] w fun e w' => e = .returned (.tuple #[.int .i64 (-1), .bool false]) ∧ Drawn0 w w' := by
  go_enter Try.func49, Try.ntmps49
  go_wp2
  go_ret2
  exact ⟨rfl, by first | exact Drawn0.refl _ | exact ⟨_, rfl⟩⟩
theorem nilS_State (x : Int) (w : World) : Calls Try.prog 68 #[.pointer none, .int .i64 x] w fun e w' => e = .returned (.tuple #[.int .i64 (-1), .int .i64 0]) ∧ Drawn0 w w' := by
  go_enter Try.func68, Try.ntmps68
  go_wp2
  go_ret2
  exact ⟨rfl, by first | exact Drawn0.refl _ | exact ⟨_, rfl⟩⟩
theorem nilS_Longest (w : World) : Calls Try.prog 50 #[.pointer none] w fun e w' => e = .returned (.tuple #[.int .i64 (-1), .int .i64 0]) ∧ Drawn0 w w' := by
  go_enter Try.func50, Try.ntmps50
  go_wp2
  go_ret2
  exact ⟨rfl, by first | exact Drawn0.refl _ | exact ⟨_, rfl⟩⟩
theorem nilS_Start (x : Int) (w : World) : Calls Try.prog 39 #[.pointer none, .int .i64 x] w fun e w' => e = .returned (.int .i64 0) ∧ Drawn0 w w' := by
  go_enter Try.func39, Try.ntmps39
  go_wp2
  go_ret
  exact ⟨rfl, by first | exact Drawn0.refl _ | exact ⟨_, rfl⟩⟩
theorem nilS_Block (x y : Int) (w : World) : Calls Try.prog 40 #[.pointer none, .int .i64 x, .int .i64 y] w fun e w' => e = .returned (.int .i64 0) ∧ Drawn0 w w' := by
  go_enter Try.func40, Try.ntmps40
  go_wp2
  go_ret
  exact ⟨rfl, by first | exact Drawn0.refl _ | exact ⟨_, rfl⟩⟩
theorem nilS_Finish (x : Int) (w : World) : Calls Try.prog 48 #[.pointer none, .int .i64 x] w fun e w' => e = .returned (.int .i64 0) ∧ Drawn0 w w' := by
  go_enter Try.func48, Try.ntmps48
  go_wp2
  go_ret
  exact ⟨rfl, by first | exact Drawn0.refl _ | exact ⟨_, rfl⟩⟩
theorem nilS_Wake (x : Int) (w : World) : Calls Try.prog 44 #[.pointer none, .int .i64 x] w fun e w' => e = .returned (.slice none 0 0) ∧ Drawn0 w w' := by
  go_enter Try.func44, Try.ntmps44
  go_wp2
  go_ret
  exact ⟨rfl, by first | exact Drawn0.refl _ | exact ⟨_, rfl⟩⟩
theorem nilS_Ready (w : World) : Calls Try.prog 42 #[.pointer none] w fun e w' => e = .returned (.slice none 0 0) ∧ Drawn0 w w' := by
  go_enter Try.func42, Try.ntmps42
  go_wp2
  go_ret
  exact ⟨rfl, by first | exact Drawn0.refl _ | exact ⟨_, rfl⟩⟩
theorem nilS_Waiting (x : Int) (w : World) : Calls Try.prog 41 #[.pointer none, .int .i64 x] w fun e w' => e = .returned (.slice none 0 0) ∧ Drawn0 w w' := by
  go_enter Try.func41, Try.ntmps41
  go_wp2
  go_ret
  exact ⟨rfl, by first | exact Drawn0.refl _ | exact ⟨_, rfl⟩⟩
theorem nilR_Pick (x : Int) (w : World) : Calls Try.prog 98 #[.pointer none, .int .i64 x] w fun e w' => e = .returned (.tuple #[.int .i64 (-1), .bool false]) ∧ Drawn0 w w' := by
  go_enter Try.func98, Try.ntmps98
  go_wp2
  go_ret2
  exact ⟨rfl, by first | exact Drawn0.refl _ | exact ⟨_, rfl⟩⟩
theorem nilR_Where (x : Int) (w : World) : Calls Try.prog 102 #[.pointer none, .int .i64 x] w fun e w' => e = .returned (.tuple #[.int .i64 (-1), .int .i64 0]) ∧ Drawn0 w w' := by
  go_enter Try.func102, Try.ntmps102
  go_wp2
  go_ret2
  exact ⟨rfl, by first | exact Drawn0.refl _ | exact ⟨_, rfl⟩⟩
theorem nilR_Longest (w : World) : Calls Try.prog 99 #[.pointer none] w fun e w' => e = .returned (.tuple #[.int .i64 (-1), .int .i64 0]) ∧ Drawn0 w w' := by
  go_enter Try.func99, Try.ntmps99
  go_wp2
  go_ret2
  exact ⟨rfl, by first | exact Drawn0.refl _ | exact ⟨_, rfl⟩⟩
theorem nilR_Start (x : Int) (w : World) : Calls Try.prog 93 #[.pointer none, .int .i64 x] w fun e w' => e = .returned (.int .i64 0) ∧ Drawn0 w w' := by
  go_enter Try.func93, Try.ntmps93
  go_wp2
  go_ret
  exact ⟨rfl, by first | exact Drawn0.refl _ | exact ⟨_, rfl⟩⟩
theorem nilR_Block (x y : Int) (w : World) : Calls Try.prog 94 #[.pointer none, .int .i64 x, .int .i64 y] w fun e w' => e = .returned (.int .i64 0) ∧ Drawn0 w w' := by
  go_enter Try.func94, Try.ntmps94
  go_wp2
  go_ret
  exact ⟨rfl, by first | exact Drawn0.refl _ | exact ⟨_, rfl⟩⟩
theorem nilR_Finish (x : Int) (w : World) : Calls Try.prog 97 #[.pointer none, .int .i64 x] w fun e w' => e = .returned (.int .i64 0) ∧ Drawn0 w w' := by
  go_enter Try.func97, Try.ntmps97
  go_wp2
  go_ret
  exact ⟨rfl, by first | exact Drawn0.refl _ | exact ⟨_, rfl⟩⟩
theorem nilR_Ready (w : World) : Calls Try.prog 100 #[.pointer none] w fun e w' => e = .returned (.slice none 0 0) ∧ Drawn0 w w' := by
  go_enter Try.func100, Try.ntmps100
  go_wp2
  go_ret
  exact ⟨rfl, by first | exact Drawn0.refl _ | exact ⟨_, rfl⟩⟩
theorem nilR_Waiting (x : Int) (w : World) : Calls Try.prog 101 #[.pointer none, .int .i64 x] w fun e w' => e = .returned (.slice none 0 0) ∧ Drawn0 w w' := by
  go_enter Try.func101, Try.ntmps101
  go_wp2
  go_ret
  exact ⟨rfl, by first | exact Drawn0.refl _ | exact ⟨_, rfl⟩⟩
theorem nilR_First (x : Int) (w : World) : Calls Try.prog 96 #[.pointer none, .int .i64 x] w fun e w' => e = .returned (.tuple #[.int .i64 (-1), .bool false]) ∧ Drawn0 w w' := by
  have hw := nilR_Waiting x w
  go_enter Try.func96, Try.ntmps96
  go_wp2_with (go_at_call 101; refine hw.mono ?_; rintro e w1 ⟨rfl, ⟨n1, rfl⟩⟩)
  go_ret2
  exact ⟨rfl, by first | exact Drawn0.refl _ | exact ⟨_, rfl⟩⟩
theorem nilR_Wake (x : Int) (w : World) : Calls Try.prog 95 #[.pointer none, .int .i64 x] w fun e w' => e = .returned (.slice none 0 0) ∧ Drawn0 w w' := by
  have hw := nilR_Waiting x w
  go_enter Try.func95, Try.ntmps95
  go_wp2_with (go_at_call 101; refine hw.mono ?_; rintro e w1 ⟨rfl, ⟨n1, rfl⟩⟩)
  go_loopw [6] (fun vi wr => vi = .int .i64 0 ∧ Drawn0 w wr) (fun _ _ => 0)
  case atStart => exact ⟨rfl, ⟨_, rfl⟩⟩
  case round =>
    obtain ⟨rfl, ⟨m, rfl⟩⟩ := hrel
    go_wp2
    go_ret
    exact ⟨rfl, ⟨_, rfl⟩⟩
/-! ### a board that is there, or none -/
def oReady : Option Bd → List Int
  | none => []
  | some B => B.ready
def oWait : Option Bd → Int → List Int
  | none, _ => []
  | some B, on => B.q on
def oLong : Option Bd → Int × Int
  | none => (-1, 0)
  | some B => B.longest
def oAt : Option Bd → Int → Int × Int
  | none, _ => (-1, 0)
  | some B, h => B.at h
def oStart : Option Bd → Int → Option Bd × Int
  | none, _ => (none, 0)
  | some B, h => (some (B.start h).1, (B.start h).2)
def oFinish : Option Bd → Int → Option Bd × Int
  | none, _ => (none, 0)
  | some B, h => (some (B.finish h).1, (B.finish h).2)
def oBlock : Option Bd → Int → Int → Option Bd × Int
  | none, _, _ => (none, 0)
  | some B, h, on => (some (B.block h on).1, (B.block h on).2)
def oTn : Option Bd → Int → List Int → Int → List Int
  | none, _, tn, _ => tn
  | some B, h, tn, u => if B.rdy h = 0 then tn.set h.toNat (u + 1) else tn
def oU : Option Bd → Int → Int → Int
  | none, _, u => u
  | some B, h, u => if B.rdy h = 0 then u + 1 else u
def oFirst : Option Bd → Int → Option Bd × Int × Bool
  | none, _ => (none, -1, false)
  | some B, on => (some (B.first on).1, (B.first on).2)
def oPick : Option Bd → Int → Option Bd × Int × Bool
  | none, _ => (none, -1, false)
  | some B, k => (some (B.pick k).1, (B.pick k).2)
def oWake : Option Bd → Int → Option Bd
  | none, _ => none
  | some B, on => some (B.wake on)
def SBo (W : World) (T : Nat → Prop) (N : Nat) (bp : Value) : Option Bd → Prop
  | none => bp = .pointer none
  | some B => ∃ p g m f, bp = .pointer (some ⟨p, 0, none⟩) ∧ Bat W T p g m N B f
def RBo (W : World) (R : Nat → Prop) (tn : List Int) (u : Int) (rp : Value) : Option Bd → Prop
  | none => rp = .pointer none
  | some B => ∃ r a c n, rp = .pointer (some ⟨r, 0, none⟩) ∧ RAt W R r a c n B.l tn u
def OI (tn : List Int) (u : Int) : Option Bd → Prop
  | none => True
  | some B => TInv B tn u
variable {W W' : World} {T R : Nat → Prop} {N : Nat} {bp rp : Value} {tn : List Int} {u : Int} {o : Option Bd}
theorem SBo.kept (h : SBo W T N bp o) (e : ∀ i, T i → W'.heap[i]? = W.heap[i]?) (hs : W.heap.size ≤ W'.heap.size) : SBo W' T N bp o := by
  cases o with
  | none => exact h
  | some B => obtain ⟨p, g, m, f, e1, h1⟩ := h; exact ⟨p, g, m, f, e1, h1.turn e hs⟩
theorem RBo.kept (h : RBo W R tn u rp o) (e : ∀ i, R i → W'.heap[i]? = W.heap[i]?) (hs : W.heap.size ≤ W'.heap.size) : RBo W' R tn u rp o := by
  cases o with
  | none => exact h
  | some B => obtain ⟨r, a, c, n, e1, h1⟩ := h; exact ⟨r, a, c, n, e1, h1.kept e hs⟩
theorem OI.start (I : OI tn u o) (h : Int) : OI tn u (oStart o h).1 := by cases o with | none => trivial | some B => exact TInv.start I h
theorem OI.finish (I : OI tn u o) (h : Int) : OI tn u (oFinish o h).1 := by cases o with | none => trivial | some B => exact TInv.finish I h
theorem OI.first (I : OI tn u o) (h : Int) : OI tn u (oFirst o h).1 := by cases o with | none => trivial | some B => exact TInv.first I h
theorem OI.pick (I : OI tn u o) (h : Int) : OI tn u (oPick o h).1 := by cases o with | none => trivial | some B => exact TInv.pick I h
theorem OI.wake (I : OI tn u o) (h : Int) : OI tn u (oWake o h) := by cases o with | none => trivial | some B => exact TInv.wake I h
theorem OI.block (I : OI tn u o) (h on : Int) : OI (oTn o h tn u) (oU o h u) (oBlock o h on).1 := by
  cases o with
  | none => trivial
  | some B =>
    show TInv (B.block h on).1 (if B.rdy h = 0 then tn.set h.toNat (u + 1) else tn) (if B.rdy h = 0 then u + 1 else u)
    by_cases hr : B.rdy h = 0
    · rw [if_pos hr, if_pos hr]; exact TInv.block I on hr
    · rw [if_neg hr, if_neg hr]
      unfold Bd.block
      rw [if_neg hr]; exact I
theorem oU_le (o : Option Bd) (h u : Int) : oU o h u ≤ u + 1 := by
  cases o with
  | none => simp only [oU]; omega
  | some B => simp only [oU]; split <;> omega
theorem slB_of_R2 {W : World} {base : Nat} {ok : Nat → Prop} {v : Value} {L : List Int} (h : Kd.R (Kd.int .i64) 3 W base ok v L) : SlB W (fun j => base ≤ j) v L := by
  obtain ⟨A, c, rfl, hc, hC⟩ := Kd.R_reads h
  obtain ⟨inner, ho⟩ := Kd.R_own h
  obtain ⟨hi, ⟨e, h0⟩ | ⟨g, cap, cur, e, hb, hg, hn, hm, hs, ht⟩⟩ := ho
  · exact .inl ⟨e, List.length_eq_zero_iff.1 h0⟩
  · obtain ⟨rfl, _, rfl⟩ : A = some ⟨g, 0, none⟩ ∧ L.length = L.length ∧ c = cap := by simpa using e
    refine .inr ⟨g, 0, c, cur, rfl, hb, hn, hm, by rw [hs]; show 0 + c ≤ c * 1; omega, hg, fun i x hx => ?_⟩
    have hl := (List.getElem?_eq_some_iff.1 hx).1
    obtain ⟨ad, e2, hcx⟩ := Kd.at_int hC (i : Int) (by omega) (by omega)
    obtain rfl := Option.some.inj e2
    rw [Int.toNat_natCast, Addr.add_lit, cell_of_row W g _ cur 3 (0, 0) hg] at hcx
    rw [hcx, rd_nat _ _ hl]
    have := (List.getElem?_eq_some_iff.1 hx).2
    rw [this]
/-! ### what is asked -/
theorem s_ready (h : SBo W T N bp o) (I : OI tn u o) : Calls Try.prog 42 #[bp] W fun e W' => ∃ v, e = .returned v ∧ SlB W' (fun j => W.heap.size ≤ j) v (oReady o) ∧ Below W.heap.size W W' := by
  cases o with
  | none => obtain rfl := h; exact (nilS_Ready W).mono (by rintro e w ⟨rfl, hd⟩; exact ⟨_, rfl, .inl ⟨rfl, rfl⟩, hd.below⟩)
  | some B => obtain ⟨p, g, m, f, rfl, h⟩ := h; exact (readys_calls h I.n.2).mono (by rintro e w ⟨v, rfl, hr, hb⟩; exact ⟨v, rfl, slB_of_R2 hr, hb⟩)
theorem s_wait (h : SBo W T N bp o) (I : OI tn u o) (on : Int) (hon : (Lit.int .i64 on).wf = true) : Calls Try.prog 41 #[bp, .int .i64 on] W fun e W' => ∃ v, e = .returned v ∧ SlB W' (fun j => W.heap.size ≤ j) v (oWait o on) ∧ Below W.heap.size W W' := by
  cases o with
  | none => obtain rfl := h; exact (nilS_Waiting on W).mono (by rintro e w ⟨rfl, hd⟩; exact ⟨_, rfl, .inl ⟨rfl, rfl⟩, hd.below⟩)
  | some B => obtain ⟨p, g, m, f, rfl, h⟩ := h; exact (waiting_calls h on hon (by have := TInv.q_len I on; omega)).mono (by rintro e w ⟨v, rfl, hr, hb⟩; exact ⟨v, rfl, slB_of_R2 hr, hb⟩)
theorem s_long (h : SBo W T N bp o) (I : OI tn u o) : Calls Try.prog 50 #[bp] W fun e W' => e = .returned (.tuple #[.int .i64 (oLong o).1, .int .i64 (oLong o).2]) ∧ Below W.heap.size W W' := by
  cases o with
  | none => obtain rfl := h; exact (nilS_Longest W).mono (by rintro e w ⟨rfl, hd⟩; exact ⟨rfl, hd.below⟩)
  | some B => obtain ⟨p, g, m, f, rfl, h⟩ := h; exact longest_calls h I.n.2
theorem s_at (h : SBo W T N bp o) (k : Int) : Calls Try.prog 68 #[bp, .int .i64 k] W fun e W' => e = .returned (.tuple #[.int .i64 (oAt o k).1, .int .i64 (oAt o k).2]) ∧ Drawn0 W W' := by
  cases o with
  | none => obtain rfl := h; exact nilS_State k W
  | some B => obtain ⟨p, g, m, f, rfl, h⟩ := h; exact state_calls h k
theorem r_ready (h : RBo W R tn u rp o) (I : OI tn u o) : Calls Try.prog 100 #[rp] W fun e W' => ∃ v, e = .returned v ∧ SlB W' (fun j => W.heap.size ≤ j) v (oReady o) ∧ Below W.heap.size W W' := by
  cases o with
  | none => obtain rfl := h; exact (nilR_Ready W).mono (by rintro e w ⟨rfl, hd⟩; exact ⟨_, rfl, .inl ⟨rfl, rfl⟩, hd.below⟩)
  | some B => obtain ⟨r, a, c, n, rfl, h⟩ := h; exact (rreadys_calls h (by rw [← h.1]; exact I.n.2)).mono (by rintro e w ⟨v, rfl, hr⟩; exact ⟨v, rfl, hr.s, hr.b⟩)
theorem r_wait (h : RBo W R tn u rp o) (I : OI tn u o) (on : Int) : Calls Try.prog 101 #[rp, .int .i64 on] W fun e W' => ∃ v, e = .returned v ∧ SlB W' (fun j => W.heap.size ≤ j) v (oWait o on) ∧ Below W.heap.size W W' := by
  cases o with
  | none => obtain rfl := h; exact (nilR_Waiting on W).mono (by rintro e w ⟨rfl, hd⟩; exact ⟨_, rfl, .inl ⟨rfl, rfl⟩, hd.below⟩)
  | some B => obtain ⟨r, a, c, n, rfl, h⟩ := h; exact (rwait_calls h I on).mono (by rintro e w ⟨v, rfl, hr⟩; exact ⟨v, rfl, hr.s, hr.b⟩)
theorem r_long (h : RBo W R tn u rp o) (I : OI tn u o) : Calls Try.prog 99 #[rp] W fun e W' => e = .returned (.tuple #[.int .i64 (oLong o).1, .int .i64 (oLong o).2]) ∧ Below W.heap.size W W' := by
  cases o with
  | none => obtain rfl := h; exact (nilR_Longest W).mono (by rintro e w ⟨rfl, hd⟩; exact ⟨rfl, hd.below⟩)
  | some B => obtain ⟨r, a, c, n, rfl, h⟩ := h; exact rlongest_calls h (by rw [← h.1]; exact I.n.2)
theorem r_at (h : RBo W R tn u rp o) (k : Int) : Calls Try.prog 102 #[rp, .int .i64 k] W fun e W' => e = .returned (.tuple #[.int .i64 (oAt o k).1, .int .i64 (oAt o k).2]) ∧ Drawn0 W W' := by
  cases o with
  | none => obtain rfl := h; exact nilR_Where k W
  | some B => obtain ⟨r, a, c, n, rfl, h⟩ := h; exact rwhere_calls h k
/-! ### what is done -/
/-- Behind a call of the board: its blocks are those of before, or new. -/
def SAft (W : World) (T : Nat → Prop) (N : Nat) (bp : Value) (o' : Option Bd) (W' : World) : Prop := ∃ T', SBo W' T' N bp o' ∧ Turn T W W' ∧ ∀ i, T' i → T i ∨ (W.heap.size ≤ i ∧ i < W'.heap.size)
theorem drawn_turn {T : Nat → Prop} (h : Drawn0 W W') : Turn T W W' := by obtain ⟨n, rfl⟩ := h; exact (Turn.refl T W).drewN n
theorem s_start (h : SBo W T N bp o) (k : Int) : Calls Try.prog 39 #[bp, .int .i64 k] W fun e W' => e = .returned (.int .i64 (oStart o k).2) ∧ SAft W T (N + 1) bp (oStart o k).1 W' := by
  cases o with
  | none => obtain rfl := h; exact (nilS_Start k W).mono (by rintro e w ⟨rfl, hd⟩; exact ⟨rfl, T, rfl, drawn_turn hd, fun i hi => .inl hi⟩)
  | some B => obtain ⟨p, g, m, f, rfl, h⟩ := h; exact (start_calls h k).mono (by rintro e w ⟨rfl, hb, ht⟩; exact ⟨rfl, T, ⟨p, g, m, f, rfl, hb.mono (Nat.le_succ N)⟩, ht, fun i hi => .inl hi⟩)
theorem s_finish (h : SBo W T N bp o) (k : Int) : Calls Try.prog 48 #[bp, .int .i64 k] W fun e W' => e = .returned (.int .i64 (oFinish o k).2) ∧ SAft W T (N + 1) bp (oFinish o k).1 W' := by
  cases o with
  | none => obtain rfl := h; exact (nilS_Finish k W).mono (by rintro e w ⟨rfl, hd⟩; exact ⟨rfl, T, rfl, drawn_turn hd, fun i hi => .inl hi⟩)
  | some B => obtain ⟨p, g, m, f, rfl, h⟩ := h; exact (finish_calls h k).mono (by rintro e w ⟨rfl, hb, ht⟩; exact ⟨rfl, T, ⟨p, g, m, f, rfl, hb.mono (Nat.le_succ N)⟩, ht, fun i hi => .inl hi⟩)
theorem s_pick (h : SBo W T N bp o) (I : OI tn u o) (k : Int) : Calls Try.prog 49 #[bp, .int .i64 k] W fun e W' => e = .returned (.tuple #[.int .i64 (oPick o k).2.1, .bool (oPick o k).2.2]) ∧ SAft W T (N + 1) bp (oPick o k).1 W' := by
  cases o with
  | none => obtain rfl := h; exact (nilS_Pick k W).mono (by rintro e w ⟨rfl, hd⟩; exact ⟨rfl, T, rfl, drawn_turn hd, fun i hi => .inl hi⟩)
  | some B => obtain ⟨p, g, m, f, rfl, h⟩ := h; exact (pick_calls h I.n k).mono (by rintro e w ⟨rfl, hb, ht⟩; exact ⟨rfl, T, ⟨p, g, m, f, rfl, hb.mono (Nat.le_succ N)⟩, ht, fun i hi => .inl hi⟩)
theorem s_block (h : SBo W T N bp o) (I : OI tn u o) (hN : N + 1 < maxLen) (k on : Int) (hon : (Lit.int .i64 on).wf = true) : Calls Try.prog 40 #[bp, .int .i64 k, .int .i64 on] W fun e W' => e = .returned (.int .i64 (oBlock o k on).2) ∧ SAft W T (N + 1) bp (oBlock o k on).1 W' := by
  cases o with
  | none => obtain rfl := h; exact (nilS_Block k on W).mono (by rintro e w ⟨rfl, hd⟩; exact ⟨rfl, T, rfl, drawn_turn hd, fun i hi => .inl hi⟩)
  | some B => obtain ⟨p, g, m, f, rfl, h⟩ := h; exact (block_calls h hN k on hon (by have := TInv.q_len I on; omega)).mono (by rintro e w ⟨rfl, f', hb, ht⟩; exact ⟨rfl, _, ⟨p, g, m, f', rfl, hb⟩, ht, fun i hi => hi⟩)
theorem s_first (h : SBo W T N bp o) (I : OI tn u o) (hN : N + 1 < maxLen) (on : Int) (hon : (Lit.int .i64 on).wf = true) : Calls Try.prog 43 #[bp, .int .i64 on] W fun e W' => e = .returned (.tuple #[.int .i64 (oFirst o on).2.1, .bool (oFirst o on).2.2]) ∧ SAft W T (N + 1) bp (oFirst o on).1 W' := by
  cases o with
  | none => obtain rfl := h; exact (nilS_First on W).mono (by rintro e w ⟨rfl, hd⟩; exact ⟨rfl, T, rfl, drawn_turn hd, fun i hi => .inl hi⟩)
  | some B => obtain ⟨p, g, m, f, rfl, h⟩ := h; exact (first_calls h hN on hon (fun x hx => ((TInv.mem I on x).1 hx).1)).mono (by rintro e w ⟨rfl, f', hb, ht⟩; exact ⟨rfl, _, ⟨p, g, m, f', rfl, hb⟩, ht, fun i hi => hi⟩)
theorem s_wake (h : SBo W T N bp o) (I : OI tn u o) (hT : ∀ i, T i → i < W.heap.size) (on : Int) (hon : (Lit.int .i64 on).wf = true) : Calls Try.prog 44 #[bp, .int .i64 on] W fun e W' => ∃ v, e = .returned v ∧ ∃ T', SlB W' (fun i => T i ∧ ¬ T' i) v (oWait o on) ∧ SBo W' T' (N + 1) bp (oWake o on) ∧ Turn T W W' ∧ ∀ i, T' i → T i := by
  cases o with
  | none => obtain rfl := h; exact (nilS_Wake on W).mono (by rintro e w ⟨rfl, hd⟩; exact ⟨_, rfl, T, .inl ⟨rfl, rfl⟩, rfl, drawn_turn hd, fun i hi => hi⟩)
  | some B =>
    obtain ⟨p, g, m, f, rfl, h⟩ := h
    refine (wake_calls h on hon (fun x hx => ((TInv.mem I on x).1 hx).1) (by have := TInv.q_len I on; omega)).mono ?_
    rintro e w ⟨v, rfl, hs, T', f', hb, ht, hT'⟩
    exact ⟨v, rfl, T', hs.toB.mono (fun j hj hT => ⟨hT.1, fun z => (hT' j z).2 hj⟩), ⟨p, g, m, f', rfl, hb.mono (Nat.le_succ N)⟩, ht, fun i hi => (hT' i hi).1⟩
theorem r_start (h : RBo W R tn u rp o) (k : Int) : Calls Try.prog 93 #[rp, .int .i64 k] W fun e W' => e = .returned (.int .i64 (oStart o k).2) ∧ RBo W' R tn u rp (oStart o k).1 ∧ Turn R W W' := by
  cases o with
  | none => obtain rfl := h; exact (nilR_Start k W).mono (by rintro e w ⟨rfl, hd⟩; exact ⟨rfl, rfl, drawn_turn hd⟩)
  | some B => obtain ⟨r, a, c, n, rfl, h⟩ := h; exact (rstart_calls h k).mono (by rintro e w ⟨rfl, hb, ht⟩; exact ⟨rfl, ⟨r, a, c, n, rfl, hb⟩, ht⟩)
theorem r_finish (h : RBo W R tn u rp o) (k : Int) : Calls Try.prog 97 #[rp, .int .i64 k] W fun e W' => e = .returned (.int .i64 (oFinish o k).2) ∧ RBo W' R tn u rp (oFinish o k).1 ∧ Turn R W W' := by
  cases o with
  | none => obtain rfl := h; exact (nilR_Finish k W).mono (by rintro e w ⟨rfl, hd⟩; exact ⟨rfl, rfl, drawn_turn hd⟩)
  | some B => obtain ⟨r, a, c, n, rfl, h⟩ := h; exact (rfinish_calls h k).mono (by rintro e w ⟨rfl, hb, ht⟩; exact ⟨rfl, ⟨r, a, c, n, rfl, hb⟩, ht⟩)
theorem r_block (h : RBo W R tn u rp o) (k on : Int) (hu : wrap64 (u + 1) = u + 1) : Calls Try.prog 94 #[rp, .int .i64 k, .int .i64 on] W fun e W' => e = .returned (.int .i64 (oBlock o k on).2) ∧ RBo W' R (oTn o k tn u) (oU o k u) rp (oBlock o k on).1 ∧ Turn R W W' := by
  cases o with
  | none => obtain rfl := h; exact (nilR_Block k on W).mono (by rintro e w ⟨rfl, hd⟩; exact ⟨rfl, rfl, drawn_turn hd⟩)
  | some B => obtain ⟨r, a, c, n, rfl, h⟩ := h; exact (rblock_calls h k on hu).mono (by rintro e w ⟨rfl, hb, ht⟩; exact ⟨rfl, ⟨r, a, c, n, rfl, hb⟩, ht⟩)
theorem r_first (h : RBo W R tn u rp o) (I : OI tn u o) (on : Int) : Calls Try.prog 96 #[rp, .int .i64 on] W fun e W' => e = .returned (.tuple #[.int .i64 (oFirst o on).2.1, .bool (oFirst o on).2.2]) ∧ RBo W' R tn u rp (oFirst o on).1 ∧ Turn R W W' := by
  cases o with
  | none => obtain rfl := h; exact (nilR_First on W).mono (by rintro e w ⟨rfl, hd⟩; exact ⟨rfl, rfl, drawn_turn hd⟩)
  | some B => obtain ⟨r, a, c, n, rfl, h⟩ := h; exact (rfirst_calls h I on).mono (by rintro e w ⟨rfl, hb, ht⟩; exact ⟨rfl, ⟨r, a, c, n, rfl, hb⟩, ht⟩)
theorem r_pick (h : RBo W R tn u rp o) (I : OI tn u o) (k : Int) : Calls Try.prog 98 #[rp, .int .i64 k] W fun e W' => e = .returned (.tuple #[.int .i64 (oPick o k).2.1, .bool (oPick o k).2.2]) ∧ RBo W' R tn u rp (oPick o k).1 ∧ Turn R W W' := by
  cases o with
  | none => obtain rfl := h; exact (nilR_Pick k W).mono (by rintro e w ⟨rfl, hd⟩; exact ⟨rfl, rfl, drawn_turn hd⟩)
  | some B => obtain ⟨r, a, c, n, rfl, h⟩ := h; exact (rpick_calls h (by rw [← h.1]; exact I.n) k).mono (by rintro e w ⟨rfl, hb, ht⟩; exact ⟨rfl, ⟨r, a, c, n, rfl, hb⟩, ht⟩)
theorem r_wake (h : RBo W R tn u rp o) (I : OI tn u o) (on : Int) : Calls Try.prog 95 #[rp, .int .i64 on] W fun e W' => ∃ v, e = .returned v ∧ SlB W' (fun j => W.heap.size ≤ j) v (oWait o on) ∧ RBo W' R tn u rp (oWake o on) ∧ Turn R W W' := by
  cases o with
  | none => obtain rfl := h; exact (nilR_Wake on W).mono (by rintro e w ⟨rfl, hd⟩; exact ⟨_, rfl, .inl ⟨rfl, rfl⟩, rfl, drawn_turn hd⟩)
  | some B => obtain ⟨r, a, c, n, rfl, h⟩ := h; exact (rwake_calls h I on).mono (by rintro e w ⟨v, rfl, hs, hb, ht⟩; exact ⟨v, rfl, hs, ⟨r, a, c, n, rfl, hb⟩, ht⟩)
end Go.Proofs.Ytfcjfjmjcmanaaa.B
