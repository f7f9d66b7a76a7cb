/- SchedKnown: the law's walk. -/
import Derived.Test.YtfcjfjmjcmanaaaBi
import Derived.Test.YtfcjfjmjcmanaaaLk
import Derived.Test.YtfcjfjmjcmanaaaXw
import Derived.Test.YtfcjfjmjcmanaaaPTherex4
import Derived.Test.YtfcjfjmjcmanaaaPSchedFairsx1
set_option linter.unusedVariables false
namespace Go.Proofs.Ytfcjfjmjcmanaaa.B
open Go Go.RowKit Go.Proofs.Ytfcjfjmjcmanaaa.PBase Go.Proofs.YtfcjfjmjcmanaaaW.PrintWords Go.Proofs.YtfcjfjmjcmanaaaW.PrintLast Go.Proofs.YtfcjfjmjcmanaaaW.PrintMore
open Go.Proofs.Ytfcjfjmjcmanaaa.X (Kp Hnum tab lst pl_calls nsw sw_good hsame_self PairsOk)
theorem C_new (w : World) (L : List Int) (h : L.length ≤ 100) : Kd.C (Kd.int .i64) (w.alloc (.cells (L.map (Value.int .i64)).toArray 3)) (some ⟨w.heap.size, 0, none⟩) L.length L := by
  refine Kd.C_of_reads (d := (0 : Int)) (h1 := fun _ => rfl) ⟨rfl, by omega, fun _ => ⟨_, rfl, fun i hi => ?_⟩⟩
  rw [add_plain, cell_of_row _ _ _ _ 3 (0, 0) (World.alloc_heap_new w _)]
  simp [hi, List.getD_eq_getElem?_getD]
theorem C_newp (w : World) (a b c d : Int) : Kd.C Kp (w.alloc (.cells #[.int .i64 a, .int .i64 b, .int .i64 c, .int .i64 d] 58)) (some ⟨w.heap.size, 0, none⟩) 2 [(a, b), (c, d)] := by
  refine ⟨rfl, by decide, fun _ => ⟨_, rfl, fun i p hp => ?_⟩⟩
  match i, hp with
  | 0, hp =>
    cases hp
    refine ⟨[.int .i64 a, .int .i64 b], rfl, ⟨[.int .i64 a], [.int .i64 b], rfl, rfl, rfl⟩, fun q u hu => ?_⟩
    match q, hu with
    | 0, hu => cases hu; rw [add_plain, cell_of_row _ _ _ _ 58 (0, 0) (World.alloc_heap_new w _)]; rfl
    | 1, hu => cases hu; rw [add_plain, cell_of_row _ _ _ _ 58 (0, 0) (World.alloc_heap_new w _)]; rfl
  | 1, hp =>
    cases hp
    refine ⟨[.int .i64 c, .int .i64 d], rfl, ⟨[.int .i64 c], [.int .i64 d], rfl, rfl, rfl⟩, fun q u hu => ?_⟩
    match q, hu with
    | 0, hu => cases hu; rw [add_plain, cell_of_row _ _ _ _ 58 (0, 0) (World.alloc_heap_new w _)]; rfl
    | 1, hu => cases hu; rw [add_plain, cell_of_row _ _ _ _ 58 (0, 0) (World.alloc_heap_new w _)]; rfl
theorem least_known : X.leastOf [2, 1, 0] [(0, 1), (0, 2)] = ([0, 2, 1], 0) := by
  unfold X.leastOf
  rw [if_neg (by simp), if_neg (by simp [Hnum]), if_neg (by simp [PairsOk, Hnum])]
  have : lst (tab [(0, 1), (0, 2)]) 3 [2, 1, 0] = [0, 2, 1] := by decide +kernel
  rw [show ([2, 1, 0] : List Int).length = 3 from rfl, this]
theorem J_finish {W wr : World} {p : Nat} {B : Bd} {v9 v10 : Value} {Lw Lr : List Int} {M : Nat} (h : J W wr p B v9 v10 Lw Lr M) (x : Int) : Calls Try.prog 48 #[.pointer (some ⟨p, 0, none⟩), .int .i64 x] wr fun e W' => e = .returned (.int .i64 (B.finish x).2) ∧ J W W' p (B.finish x).1 v9 v10 Lw Lr M := by
  obtain ⟨T, g, m, N, f, hN, hB, hT, h9, h10, hW⟩ := h
  refine (finish_calls hB x).mono ?_
  rintro e w ⟨rfl, hB', ht⟩
  exact ⟨rfl, J.turn hB hT h9 h10 hW hB' ht (fun _ h => .inl h) hN⟩
def K1 : Bd := ((Bd.new 2).start 0).1
def K2 : Bd := (K1.start 0).1
def K3 : Bd := (K2.block 0 5).1
def K4 : Bd := (K3.finish 0).1
theorem k1 : ((Bd.new 2).start 0).2 = 0 := by decide +kernel
theorem k2 : (K1.start 0).2 = 9 := by decide +kernel
theorem k3 : (K2.block 0 5).2 = 0 := by decide +kernel
theorem k4 : (K3.finish 0).2 = 72 := by decide +kernel
theorem k5 : K4.q 5 = [0] := by decide +kernel
theorem k6 : (K2.q 5).length = 0 := by decide +kernel
theorem k7 : ∀ h ∈ K4.q 5, K4.has h = true := by decide +kernel
theorem n1 : PThere.sched_Nth.f 60 [2, 1] 1 = some ([0, 1, 0], 0) := by decide +kernel
theorem n2 : PThere.sched_Count.f 60 [2, 1] = some (3, 0) := by decide +kernel
theorem n3 : PThere.sched_Rank.f 60 [0, 1, 0] = some (1, 0) := by decide +kernel
theorem n4 : PSchedFairs.sched_Fair.f 60 [0, 1, 0, 0, 1] 2 2 = some (false, 2) := by decide +kernel
theorem n5 : nsw [0, 1, 0] = 1 := by decide +kernel
set_option maxRecDepth 100000
set_option maxHeartbeats 8000000
theorem known_walk {W : World} : Calls Try.prog 19 #[] W fun e W' => e = .returned (.bool true) ∧ Below W.heap.size W W' := by
  have HNW := Aside0.mk (new_calls (W := W) 2 (by omega) (by omega))
  have hs1 := Aside0.mk (hsame_self [0] (by simp))
  have hs2 := Aside0.mk (hsame_self [0, 1, 0] (by simp))
  have hs3 := Aside0.mk (hsame_self [0, 2, 1] (by simp))
  go_enter Try.func19, Try.ntmps19
  go_wp2_with (first
    | (go_at_call 38; refine HNW.out.mono ?_; rintro e w1 ⟨p, T, g, m, rfl, hB, hW, hT⟩; have HJ0 : Aside0 (J W w1 p (Bd.new 2) nilv nilv [] [] 0) := ⟨⟨T, g, m, 0, _, Nat.le_refl _, hB, hT, Sl.nil _ _, Sl.nil _ _, hW⟩⟩; clear hB hW hT; have tA := True.intro)
    | (go_at_call 39; have _t := tA; refine (HJ0.out.start 0).mono ?_; rintro e w2 ⟨rfl, hj⟩; rw [k1]; have HJ1 : Aside0 (J W w2 p K1 nilv nilv [] [] 0) := ⟨hj⟩; clear hj tA; have tB := True.intro)
    | (go_at_call 39; have _t := tB; refine (HJ1.out.start 0).mono ?_; rintro e w3 ⟨rfl, hj⟩; rw [k2]; have HJ2 : Aside0 (J W w3 p K2 nilv nilv [] [] 0) := ⟨hj⟩; clear hj tB; have tC := True.intro)
    | (go_at_call 40; have _t := tC; refine (HJ2.out.block (by unfold maxLen; omega) 0 5 (by decide) (by rw [k6]; omega)).mono ?_; rintro e w4 ⟨rfl, hj⟩; rw [k3]; have HJ3 : Aside0 (J W w4 p K3 nilv nilv [] [] 1) := ⟨hj⟩; clear hj tC; have tD := True.intro)
    | (go_at_call 48; have _t := tD; refine (J_finish HJ3.out 0).mono ?_; rintro e w5 ⟨rfl, hj⟩; rw [k4]; have HJ4 : Aside0 (J W w5 p K4 nilv nilv [] [] 1) := ⟨hj⟩; clear hj tD; have tE := True.intro)
    | (go_at_call 44; have _t := tE; have hw := HJ4.out.wake 5 (by decide) k7 (by rw [k5]; simp); rw [k5] at hw; refine hw.mono ?_; rintro e w6 ⟨A6, c6, rfl, hc, hC, hj⟩; have HB6 := Aside0.mk hj.base; have Hc6 := Aside0.mk hc; have HC6 := Aside0.mk hC; clear hc hC hj hw tE; have tF := True.intro)
    | (go_at_call 24; have _t := tF; refine (larderlaw07_same.calls _ A6 c6 [0] (some ⟨w6.heap.size, 0, none⟩) 1 [0] true (w6.alloc (.cells #[.int .i64 0] 3)) (Kd.C_below HC6.out (by repeat (first | exact Below.refl _ _ | apply below_alloc))) Hc6.out (C_new w6 [0] (by simp)) (by simp) hs1.out).mono ?_; rintro e w7 ⟨rfl, hd⟩; have hb : Below (w6.alloc (.cells #[.int .i64 0] 3)).heap.size (w6.alloc (.cells #[.int .i64 0] 3)) w7 := (by obtain ⟨md, rfl⟩ := hd; exact pw_below_drewN (Below.refl _ _) md); have HB7 := Aside0.mk (below_step HB6.out (below_step (W := w6.alloc (.cells #[.int .i64 0] 3)) (by repeat (first | exact Below.refl _ _ | apply below_drew | apply pw_below_drewN | apply below_alloc)) hb)); clear hb hd tF; have tG := True.intro)
    | (go_at_call 52; have _t := tG; refine (PThere.sched_Nth.calls 60 (some ⟨w7.heap.size, 0, none⟩) 2 [2, 1] 1 [0, 1, 0] 0 _ (C_new w7 [2, 1] (by simp)) (by simp) n1).mono ?_; rintro e w8 ⟨v8, rfl, hr, hb⟩; obtain ⟨A8, c8, rfl, hc, hC⟩ := Kd.R_reads hr; have HB8 := Aside0.mk (below_step HB7.out (below_step (W := w7.alloc (.cells #[.int .i64 2, .int .i64 1] 3)) (by repeat (first | exact Below.refl _ _ | apply below_drew | apply pw_below_drewN | apply below_alloc)) hb)); have Hc8 := Aside0.mk hc; have HC8 := Aside0.mk hC; clear hr hb hc hC tG; have tH := True.intro)
    | (go_at_call 51; have _t := tH; refine (PThere.sched_Count.calls 60 (some ⟨w8.heap.size, 0, none⟩) 2 [2, 1] 3 0 _ (C_new w8 [2, 1] (by simp)) (by simp) n2).mono ?_; rintro e w9 ⟨rfl, hd⟩; have hb : Below (w8.alloc (.cells #[.int .i64 2, .int .i64 1] 3)).heap.size (w8.alloc (.cells #[.int .i64 2, .int .i64 1] 3)) w9 := (by obtain ⟨md, rfl⟩ := hd; exact pw_below_drewN (Below.refl _ _) md); have hx : Below w8.heap.size w8 w9 := below_step (W := w8.alloc (.cells #[.int .i64 2, .int .i64 1] 3)) (by repeat (first | exact Below.refl _ _ | apply below_drew | apply pw_below_drewN | apply below_alloc)) hb; have HB9 := Aside0.mk (below_step HB8.out hx); have HX9 := Aside0.mk hx; clear hb hd hx tH; have tI := True.intro)
    | (go_at_call 54; have _t := tI; refine (PThere.sched_Rank.calls 60 (some ⟨w9.heap.size, 0, none⟩) 3 [0, 1, 0] 1 0 _ (C_new w9 [0, 1, 0] (by simp)) (by simp) n3).mono ?_; rintro e wa ⟨rfl, hb⟩; have hx : Below w9.heap.size w9 wa := below_step (W := w9.alloc (.cells #[.int .i64 0, .int .i64 1, .int .i64 0] 3)) (by repeat (first | exact Below.refl _ _ | apply below_drew | apply pw_below_drewN | apply below_alloc)) hb; have HBa := Aside0.mk (below_step HB9.out hx); have HXa := Aside0.mk (below_step HX9.out hx); clear hb hx tI; have tJ := True.intro)
    | (go_at_call 24; have _t := tJ; refine (larderlaw07_same.calls _ A8 c8 [0, 1, 0] (some ⟨wa.heap.size, 0, none⟩) 3 [0, 1, 0] true (wa.alloc (.cells #[.int .i64 0, .int .i64 1, .int .i64 0] 3)) (Kd.C_below HC8.out (below_step HXa.out (by repeat (first | exact Below.refl _ _ | apply below_alloc)))) Hc8.out (C_new wa [0, 1, 0] (by simp)) (by simp) hs2.out).mono ?_; rintro e wb ⟨rfl, hd⟩; have hb : Below (wa.alloc (.cells #[.int .i64 0, .int .i64 1, .int .i64 0] 3)).heap.size (wa.alloc (.cells #[.int .i64 0, .int .i64 1, .int .i64 0] 3)) wb := (by obtain ⟨md, rfl⟩ := hd; exact pw_below_drewN (Below.refl _ _) md); have HBb := Aside0.mk (below_step HBa.out (below_step (W := wa.alloc (.cells #[.int .i64 0, .int .i64 1, .int .i64 0] 3)) (by repeat (first | exact Below.refl _ _ | apply below_drew | apply pw_below_drewN | apply below_alloc)) hb)); clear hb hd tJ; have tK := True.intro)
    | (go_at_call 36; have _t := tK; have hp := C_newp (wb.alloc (.cells #[.int .i64 2, .int .i64 1, .int .i64 0] 3)) 0 1 0 2; simp only [World.size_alloc] at hp; have hw := pl_calls (some ⟨wb.heap.size, 0, none⟩) 3 [2, 1, 0] (some ⟨wb.heap.size + 1, 0, none⟩) 2 [(0, 1), (0, 2)] _ (Kd.C_below (C_new wb [2, 1, 0] (by simp)) (by repeat (first | exact Below.refl _ _ | apply below_alloc))) (by simp) hp; rw [least_known] at hw; refine hw.mono ?_; rintro e wc ⟨Ac, cc, rfl, hc, hC, hb⟩; have HBc := Aside0.mk (below_step HBb.out (below_step (W := (wb.alloc (.cells #[.int .i64 2, .int .i64 1, .int .i64 0] 3)).alloc (.cells #[.int .i64 0, .int .i64 1, .int .i64 0, .int .i64 2] 58)) (by repeat (first | exact Below.refl _ _ | apply below_drew | apply pw_below_drewN | apply below_alloc)) hb)); have Hcc := Aside0.mk hc; have HCc := Aside0.mk hC; clear hp hw hb hc hC tK; have tL := True.intro)
    | (go_at_call 62; have _t := tL; refine (sw_good (some ⟨wc.heap.size, 0, none⟩) 3 [0, 1, 0] _ (C_new wc [0, 1, 0] (by simp)) ⟨by simp⟩ ⟨by simp [Hnum]⟩ 1 0 ⟨fun _ => ⟨by rw [n5]; rfl, rfl⟩⟩ ⟨fun h => absurd (by simp) h⟩).mono ?_; rintro e wd ⟨rfl, hb⟩; have hx : Below wc.heap.size wc wd := below_step (W := wc.alloc (.cells #[.int .i64 0, .int .i64 1, .int .i64 0] 3)) (by repeat (first | exact Below.refl _ _ | apply below_drew | apply pw_below_drewN | apply below_alloc)) hb; have HBd := Aside0.mk (below_step HBc.out hx); have HXd := Aside0.mk hx; clear hb hx tL; have tM := True.intro)
    | (go_at_call 31; have _t := tM; refine (PSchedFairs.sched_Fair.calls 60 (some ⟨wd.heap.size, 0, none⟩) 5 [0, 1, 0, 0, 1] 2 2 false 2 _ (C_new wd [0, 1, 0, 0, 1] (by simp)) (by simp) n4).mono ?_; rintro e we ⟨rfl, hb⟩; have hx : Below wd.heap.size wd we := below_step (W := wd.alloc (.cells #[.int .i64 0, .int .i64 1, .int .i64 0, .int .i64 0, .int .i64 1] 3)) (by repeat (first | exact Below.refl _ _ | apply below_drew | apply pw_below_drewN | apply below_alloc)) hb; have HBe := Aside0.mk (below_step HBd.out hx); have HXe := Aside0.mk (below_step HXd.out hx); clear hb hx tM; have tN := True.intro)
    | (go_at_call 24; have _t := tN; refine (larderlaw07_same.calls _ Ac cc [0, 2, 1] (some ⟨we.heap.size, 0, none⟩) 3 [0, 2, 1] true (we.alloc (.cells #[.int .i64 0, .int .i64 2, .int .i64 1] 3)) (Kd.C_below HCc.out (below_step HXe.out (by repeat (first | exact Below.refl _ _ | apply below_alloc)))) Hcc.out (C_new we [0, 2, 1] (by simp)) (by simp) hs3.out).mono ?_; rintro e wf ⟨rfl, hd⟩; have hb : Below (we.alloc (.cells #[.int .i64 0, .int .i64 2, .int .i64 1] 3)).heap.size (we.alloc (.cells #[.int .i64 0, .int .i64 2, .int .i64 1] 3)) wf := (by obtain ⟨md, rfl⟩ := hd; exact pw_below_drewN (Below.refl _ _) md); have HBf := Aside0.mk (below_step HBe.out (below_step (W := we.alloc (.cells #[.int .i64 0, .int .i64 2, .int .i64 1] 3)) (by repeat (first | exact Below.refl _ _ | apply below_drew | apply pw_below_drewN | apply below_alloc)) hb)); clear hb hd tN; have tO := True.intro)
    )
  go_ret
  exact ⟨rfl, HBf.out⟩
end Go.Proofs.Ytfcjfjmjcmanaaa.B
