/- SchedBoards: the document's Waiting: those who wait, one behind the other put in the order of their turns. -/
import Derived.Test.YtfcjfjmjcmanaaaEc
set_option linter.unusedVariables false
namespace Go.Proofs.Ytfcjfjmjcmanaaa.B
open Go Go.RowKit Go.Proofs.YtfcjfjmjcmanaaaW.PrintWords Go.Proofs.YtfcjfjmjcmanaaaW.PrintLast Go.Proofs.YtfcjfjmjcmanaaaW.PrintMore
/-- A row of the call's own; nothing else was turned. -/
structure Ow (W0 : World) (v : Value) (L : List Int) (W : World) : Prop where
  s : SlB W (fun j => W0.heap.size ≤ j) v L
  b : Below W0.heap.size W0 W
variable {W0 W W' : World} {v : Value} {L : List Int}
theorem Ow.nil (W : World) : Ow W (.slice none 0 0) [] W := ⟨.inl ⟨rfl, rfl⟩, Below.refl _ _⟩
theorem Ow.below (h : Ow W0 v L W) (hb : Below W.heap.size W W') : Ow W0 v L W' := ⟨h.s.kept (fun j hj => hb.block j (h.s.own hj).2), h.b.trans (hb.mono h.b.size)⟩
theorem Ow.alloc (h : Ow W0 v L W) (o : Obj) : Ow W0 v L (W.alloc o) := h.below ((Below.refl _ W).alloc (Nat.le_refl _) o)
theorem Ow.drewN (h : Ow W0 v L W) (k : Nat) : Ow W0 v L (W.drewN k) := ⟨h.s.kept (fun _ _ => rfl), ⟨h.b.os, h.b.tape, h.b.output, h.b.size, h.b.block⟩⟩
theorem Ow.addr (h : Ow W0 v L W) (hL : 0 < L.length) : ∃ ad c, v = .slice (some ad) L.length c := by
  obtain ⟨A, c, rfl⟩ := h.s.slice
  obtain ⟨ad, rfl, _⟩ := h.s.cell 0 (by omega) (by omega)
  exact ⟨ad, c, rfl⟩
theorem Ow.set {ad : Addr} {n c : Nat} (h : Ow W0 (.slice (some ad) n c) L W) (k : Nat) (hk : k < L.length) (x : Int) : W.frozen? (ad.add k) = false ∧ Ow W0 (.slice (some ad) n c) (L.set k x) (W.setCell (ad.add k) (.int .i64 x)) := by
  obtain ⟨h1, h2, h3⟩ := h.s.set k hk x
  have hown := (h.s.own (j := ad.block) rfl).1
  exact ⟨h1, h2, h.b.trans ((Turn.of_grown h3 (T := fun j => W0.heap.size ≤ j) (fun j hj => by cases hj; exact hown)).below (fun _ hj => hj) h.b.size)⟩
variable {ops : Array Oper} {rest : List Oper} {o : Oper} {a : Act} {Q : Exit → Act → World → Prop}
theorem wpList_appO (hgd : o.guard = none) (s x : Operand) (ho : o.op = .call { callee := .builtin .append, args := #[s, x], argTypes := #[26, 26] }) (h : Ow W0 v L W) {ad : Addr} {c : Nat} {y : Int} (hy : W.cell? ad = some (.int .i64 y)) (hl : L.length + 1 ≤ 4398046511104) (hs : a.eval s = v) (hx : a.eval x = .slice (some ad) 1 c)
    (hK : ∀ v' W', Ow W0 v' (L ++ [y]) W' → wpList Try.prog ops Q rest (a.put o.dst v') W') : wpList Try.prog ops Q (o :: rest) a W := by
  refine wpList_plain hgd fun K hK' => ?_
  obtain ⟨v', W', hr, h1, h2, h3, _, _⟩ := h.s.append (c := c) hy hl o.type h.s (Pre.refl W h.s)
  unfold Oper.wp execOp
  simp only [ho, resolve, invoke, builtin, Sem.run_bind, Sem.run_pure, Result.andThen_ok, List.map_toArray, List.map_cons, List.map_nil, hs, hx, hr]
  refine hK' _ _ (hK v' W' ⟨h1.mono (fun j _ hj => hj.elim id (fun z => Nat.le_trans h.b.size z)), ?_⟩)
  exact h.b.trans ((Turn.of_grown h2 (T := fun j => W0.heap.size ≤ j) (fun j hj => (h.s.own hj).1)).below (fun _ hj => hj) h.b.size)
theorem rd_mid (P : List Int) (x : Int) (D : List Int) : rd (P ++ x :: D) (P.length : Int) = x := by
  unfold rd
  rw [List.getD_eq_getElem?_getD, Int.toNat_natCast, List.getElem?_append_right (Nat.le_refl _)]
  simp
theorem swap_mid (P : List Int) (x y : Int) (D : List Int) : ((P ++ x :: y :: D).set (P.length + 1) x).set P.length y = P ++ y :: x :: D := by
  rw [List.set_append_right _ _ (by omega), List.set_append_right _ _ (by omega)]
  simp
theorem snoc_cases (P : List Int) : P = [] ∨ ∃ P' y, P = P' ++ [y] := by
  rcases List.eq_nil_or_concat P with h | ⟨P', y, h⟩
  · exact .inl h
  · exact .inr ⟨P', y, by rw [h, List.concat_eq_append]⟩
theorem cell_newO (w : World) (x : Int) : (w.alloc (.cells #[.int .i64 x] 3)).cell? ⟨w.heap.size, 0, none⟩ = some (.int .i64 x) := by
  rw [cell_of_row _ _ _ _ _ _ (World.alloc_heap_new w _)]; rfl
theorem len_less (M : List Int) (k : Nat) (N : Nat) (h : (M ++ [(k : Int)]).length = N) (hl : M.length + 1 ≤ 17) : wrap64 ((N : Int) - 1) = (M.length : Int) := by
  rw [List.length_append, List.length_singleton] at h
  rw [X.hwrId (by omega) (by omega)]
  omega
variable {R : Nat → Prop} {r : Nat} {ar : Nat → Addr} {cr : Nat → Nat} {n : Nat} {tn : List Int} {B : Bd} {u : Int}
set_option maxRecDepth 100000
set_option maxHeartbeats 8000000
theorem rwait_calls (hb : RAt W R r ar cr n B.l tn u) (I : TInv B tn u) (on : Int) : Calls Try.prog 101 #[.pointer (some ⟨r, 0, none⟩), .int .i64 on] W fun e W' => ∃ v, e = .returned v ∧ Ow W v (B.q on) W' := by
  have HB := Aside0.mk hb
  have HI := Aside0.mk I
  have HN := Aside0.mk (show n ≤ 16 by have := I.n; have := hb.1; omega)
  have HLN := Aside0.mk hb.1
  clear hb I
  go_enter Try.func101, Try.ntmps101
  go_wp2
  go_loopw [5, 6, 7, 8] (fun v vh _ _ wr => ∃ k : Nat, vh = .int .i64 (k : Int) ∧ Aside0 (k ≤ n) ∧ Aside0 (Ow W v (wt (B.q on) k) wr)) (fun _ vh _ _ _ => n - (intOf vh).toNat)
  case atStart => exact ⟨0, rfl, ⟨Nat.zero_le _⟩, ⟨by rw [HI.out.wt_zero]; exact Ow.nil _⟩⟩
  case round =>
    obtain ⟨k, rfl, Hk, HO⟩ := hrel
    rename World => W3
    have HB3 := Aside0.mk (HB.out.below HO.out.b)
    obtain ⟨c0, c1, c2, c3, c4⟩ := HB3.out.cells
    have HW1 := Aside0.mk (show wrap64 ((k : Int) + 1) = ((k + 1 : Nat) : Int) by rw [X.hwrId (by omega) (by have := Hk.out; have := HN.out; omega)]; omega)
    have FIN := Aside0.mk (fun (v : Value) (w : World) (hlt : k < n) (h : Ow W v (wt (B.q on) (k + 1)) w) => (show (∃ k' : Nat, Value.int .i64 (wrap64 ((k : Int) + 1)) = .int .i64 (k' : Int) ∧ Aside0 (k' ≤ n) ∧ Aside0 (Ow W v (wt (B.q on) k') w)) ∧ n - (intOf (Value.int .i64 (wrap64 ((k : Int) + 1)))).toNat < n - (intOf (Value.int .i64 (k : Int))).toNat from ⟨⟨k + 1, by rw [HW1.out], ⟨hlt⟩, ⟨h⟩⟩, by rw [HW1.out]; simp only [intOf]; omega⟩))
    by_cases hlt : k < n
    · have q1 : decide (k < n) = true := decide_eq_true hlt
      have q2 : decide ((k : Int) < (n : Int)) = true := decide_eq_true (by omega)
      have HLT := Aside0.mk hlt
      have hh : B.has (k : Int) = true := has_iff.2 ⟨by omega, by have := HLN.out; omega⟩
      obtain ⟨d0, d1, d2, d3, h0, h1⟩ := HB3.out.hd hh
      have HH := Aside0.mk hh
      simp only [Int.toNat_natCast] at d0 d1 d2
      obtain ⟨s, hs⟩ : ∃ s, (B.hd (k : Int)).1 = s := ⟨_, rfl⟩
      obtain ⟨o, ho⟩ : ∃ o, (B.hd (k : Int)).2.1 = o := ⟨_, rfl⟩
      rw [hs] at d0
      rw [ho] at d1
      have HS := Aside0.mk hs
      have HOO := Aside0.mk ho
      replace h0 := eq_true h0
      replace h1 := eq_true h1
      clear hs ho hh d2 d3
      by_cases e2 : s = 2
      · by_cases eo : o = on
        · subst e2
          subst eo
          obtain ⟨A, C, w1, w2, hA, hC⟩ := HI.out.wt_in (k := k) ((HI.out.mem o k).2 ⟨HH.out, HS.out, HOO.out⟩)
          have hin : ∀ y, y ∈ A ∨ y ∈ C → B.has y = true := fun y hy => ((HI.out.mem o y).1 (wt_mem (k := k) (by rw [w1]; exact List.mem_append.2 hy)).1).1
          have hlen := HI.out.wt_len o k
          have HO1 := HO.out
          rw [w1] at HO1 hlen
          have HO1 := Aside0.mk HO1
          have HLE := Aside0.mk (show (A ++ C).length + 1 ≤ 17 by have := HN.out; omega)
          have W2 := Aside0.mk w2
          have HA := Aside0.mk hA
          have HC := Aside0.mk hC
          have HIN := Aside0.mk hin
          clear w1 w2 hA hC hin hlen HO hlt
          go_wp2_with ((with_reducible refine gate_builtin (b := .append) (xs := #[.tmp 40, .tmp 42]) rfl ?_); at_builtin; go_loud (refine wpList_appO rfl (.tmp 40) (.tmp 42) rfl (HO1.out.alloc (.cells #[.int .i64 (k : Int)] 3)) (ad := ⟨W3.heap.size, 0, none⟩) (c := 1) (y := (k : Int)) (cell_newO _ _) (by have := HLE.out; omega) rfl (by first | rfl | simp) ?_; intro v5 w5 h5; obtain ⟨ad, c5, rfl⟩ := h5.addr (by rw [List.length_append, List.length_singleton]; omega); obtain ⟨N5, hN5⟩ : ∃ N5, (A ++ C ++ [(k : Int)]).length = N5 := ⟨_, rfl⟩; rw [hN5] at h5 ⊢; have H5 := Aside0.mk h5; have HN5 := Aside0.mk hN5; have HI5 := Aside0.mk (len_less (A ++ C) k N5 hN5 HLE.out); clear h5 hN5 HO1))
          go_loopw [7, 8] (fun vi _ wr => ∃ P D C' : List Int, vi = .int .i64 (P.length : Int) ∧ Aside0 (P = A ++ C' ∧ C' ++ D = C) ∧ Aside0 (Ow W (.slice (some ad) N5 c5) (P ++ (k : Int) :: D) wr)) (fun vi _ _ => (intOf vi).toNat)
          case atStart => exact ⟨A ++ C, [], C, by rw [HI5.out], ⟨rfl, by simp⟩, H5⟩
          case round =>
            clear H5 c0 c1 c2 c3 c4 d0 d1
            obtain ⟨P, D, C', rfl, HP, HO7⟩ := hrel
            rename World => W7
            have HB7 := Aside0.mk (HB.out.below HO7.out.b)
            obtain ⟨c0, c1, c2, c3, c4⟩ := HB7.out.cells
            obtain ⟨_, _, t1, _, _, _⟩ := HB7.out.hd HH.out
            simp only [Int.toNat_natCast] at t1
            rcases snoc_cases P with rfl | ⟨P', y, rfl⟩
            · obtain ⟨hA, hC'⟩ := List.append_eq_nil_iff.1 HP.out.1.symm
              have hD := HP.out.2
              rw [hC', List.nil_append] at hD
              have HF := HO7.out
              rw [hD, show ([] : List Int) = A from hA.symm, ← W2.out] at HF
              have HF := Aside0.mk HF
              clear hA hC' hD HO7 HP
              simp only [List.length_nil, Int.natCast_zero]
              go_wp2
              go_quiet (fail)
              go_wp2
              exact FIN.out _ _ HLT.out (HF.out.drewN _)
            · obtain ⟨tk, htk⟩ : ∃ x, tnAt tn (k : Int) = x := ⟨_, rfl⟩
              obtain ⟨ty, hty⟩ : ∃ x, tnAt tn y = x := ⟨_, rfl⟩
              have hmem : y ∈ A ∨ y ∈ C := by
                have h1 : y ∈ A ++ C' := by rw [← HP.out.1]; simp
                rcases List.mem_append.1 h1 with z | z
                · exact .inl z
                · exact .inr (by rw [← HP.out.2]; exact List.mem_append.2 (.inl z))
              obtain ⟨_, _, t2, _, y0, y1⟩ := HB7.out.hd (HIN.out y hmem)
              rw [htk] at t1
              rw [hty] at t2
              have hN : P'.length + 2 + D.length = N5 := by
                have h1 := congrArg List.length HP.out.1
                have h2 := congrArg List.length HP.out.2
                have h3 := HN5.out
                simp only [List.length_append, List.length_singleton] at h1 h2 h3
                omega
              have hNs : N5 ≤ 17 := by
                have h3 := HN5.out
                have h4 := HLE.out
                simp only [List.length_append, List.length_singleton] at h3 h4
                omega
              obtain ⟨I, hI⟩ : ∃ I : Int, ((P' ++ [y]).length : Int) = I := ⟨_, rfl⟩
              have hI1 : I = (P'.length : Int) + 1 := by rw [← hI]; simp
              obtain ⟨J, hJ⟩ : ∃ J : Int, (P'.length : Int) = J := ⟨_, rfl⟩
              have wJ : wrap64 (I - 1) = J := by rw [X.hwrId (by omega) (by omega)]; omega
              have eI : I.toNat = P'.length + 1 := by omega
              have eJ : J.toNat = P'.length := by omega
              have hO := HO7.out
              rw [List.append_assoc] at hO
              obtain ⟨ad2, e2, x1⟩ := hO.s.cell I (by omega) (by simp; omega)
              cases e2
              obtain ⟨ad2, e2, x2⟩ := hO.s.cell J (by omega) (by simp; omega)
              cases e2
              have m1 : rd (P' ++ ([y] ++ (k : Int) :: D)) I = (k : Int) := by
                have z := rd_mid (P' ++ [y]) (k : Int) D
                rw [hI, List.append_assoc] at z
                exact z
              have m2 : rd (P' ++ ([y] ++ (k : Int) :: D)) J = y := by
                have z := rd_mid P' y ((k : Int) :: D)
                rw [hJ] at z
                exact z
              rw [m1] at x1
              rw [m2] at x2
              have g0 : decide (0 < I) = true := decide_eq_true (by omega)
              have g00 : (0 < I) = True := eq_true (by omega)
              have g1 : (0 ≤ I) = True := eq_true (by omega)
              have g2 : (I < (N5 : Int)) = True := eq_true (by omega)
              have g3 : (0 ≤ J) = True := eq_true (by omega)
              have g4 : (J < (N5 : Int)) = True := eq_true (by omega)
              replace y0 := eq_true y0
              replace y1 := eq_true y1
              rw [hI]
              rcases snoc_cases C' with hC0 | ⟨C2, z, hC0⟩
              · have hPA := HP.out.1
                have hD := HP.out.2
                rw [hC0, List.append_nil] at hPA
                rw [hC0, List.nil_append] at hD
                have hcmp : ty < tk := by rw [← htk, ← hty]; exact HA.out y (by rw [← hPA]; simp)
                have cf : decide (tk < ty) = false := decide_eq_false (by omega)
                have HF := HO7.out
                rw [hPA, hD, ← W2.out] at HF
                have HF := Aside0.mk HF
                clear hC0 hPA hD hcmp htk hty hmem hN hNs hI hI1 hJ eI eJ hO m1 m2 HO7 HP
                go_wp2
                go_quiet (fail)
                go_wp2
                exact FIN.out _ _ HLT.out (HF.out.drewN _)
              · have hPA := HP.out.1
                have hD := HP.out.2
                rw [hC0, ← List.append_assoc] at hPA
                obtain ⟨hP2, hyz⟩ := List.append_inj' hPA rfl
                cases hyz
                rw [hC0, List.append_assoc] at hD
                have hcmp : tk < ty := by rw [← htk, ← hty]; exact HC.out y (by rw [← hD]; simp)
                have cf : decide (tk < ty) = true := decide_eq_true hcmp
                obtain ⟨s1, o1⟩ := hO.set I.toNat (by rw [eI]; simp) y
                obtain ⟨s2, o2⟩ := o1.set J.toNat (by rw [eJ]; simp) (k : Int)
                obtain ⟨ad2, e2, x3⟩ := o1.s.cell J (by omega) (by simp; omega)
                cases e2
                have s3 := (hO.set J.toNat (by rw [eJ]; simp) y).1
                have x4 : ∀ q, ((W7.drewN q).setCell (ad.add I.toNat) (.int .i64 y)).cell? (ad.add J.toNat) = _ := fun q => x3
                have hsw : ((P' ++ ([y] ++ (k : Int) :: D)).set I.toNat y).set J.toNat (k : Int) = P' ++ (k : Int) :: ([y] ++ D) := by
                  rw [eI, eJ]
                  exact swap_mid P' y (k : Int) D
                rw [hsw] at o2
                have O2 := Aside0.mk o2
                have NX := Aside0.mk (And.intro hP2 hD)
                have MS := Aside0.mk (show (intOf (Value.int .i64 J)).toNat < (intOf (Value.int .i64 I)).toNat by simp only [intOf]; omega)
                have HJ := Aside0.mk hJ
                clear hC0 hPA hD hcmp htk hty hmem hN hNs hI hI1 hJ eI eJ hO m1 m2 HO7 HP o1 o2 hsw hP2 x3 s2
                go_wp2
                go_quiet (fail)
                go_wp2
                exact ⟨⟨P', [y] ++ D, C2, by rw [HJ.out, wJ], ⟨NX.out.1, NX.out.2⟩, ⟨O2.out.drewN _⟩⟩, by rw [wJ]; exact MS.out⟩
        · have f2 : (o == on) = false := beq_eq_false_iff_ne.2 eo
          subst e2
          have hsame : wt (B.q on) (k + 1) = wt (B.q on) k := wt_same (fun z => eo (HOO.out.symm.trans ((HI.out.mem on k).1 z).2.2))
          have HSM := Aside0.mk hsame
          clear hsame hlt
          go_wp2
          exact FIN.out _ _ HLT.out (by rw [HSM.out]; exact HO.out)
      · have f2 : (s == 2) = false := beq_eq_false_iff_ne.2 e2
        have hsame : wt (B.q on) (k + 1) = wt (B.q on) k := wt_same (fun z => e2 (HS.out.symm.trans ((HI.out.mem on k).1 z).2.1))
        have HSM := Aside0.mk hsame
        clear hsame hlt
        go_wp2
        exact FIN.out _ _ HLT.out (by rw [HSM.out]; exact HO.out)
    · have q1 : decide (k < n) = false := decide_eq_false hlt
      have q2 : decide ((k : Int) < (n : Int)) = false := decide_eq_false (by omega)
      have hk : k = n := by have := Hk.out; omega
      have HOZ := HO.out
      rw [hk, ← HLN.out, HI.out.wt_all] at HOZ
      have HZ := Aside0.mk HOZ
      clear HOZ hk hlt
      go_wp2
      go_ret
      exact ⟨_, rfl, HZ.out⟩
end Go.Proofs.Ytfcjfjmjcmanaaa.B
