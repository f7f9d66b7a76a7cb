/- SchedBoards: the walks of the document's board: Wake, First, Ready, Longest, Pick. -/
import Derived.Test.YtfcjfjmjcmanaaaEd
set_option linter.unusedVariables false
namespace Go.Proofs.Ytfcjfjmjcmanaaa.B
open Go Go.RowKit Go.Proofs.YtfcjfjmjcmanaaaW.PrintWords Go.Proofs.YtfcjfjmjcmanaaaW.PrintLast Go.Proofs.YtfcjfjmjcmanaaaW.PrintMore
variable {W : World} {R : Nat → Prop} {r : Nat} {ar : Nat → Addr} {cr : Nat → Nat} {n : Nat} {l : List Hd} {tn : List Int} {B : Bd} {u : Int}
theorem RAt.notR (h : RAt W R r ar cr n l tn u) {v : Value} {L : List Int} {W' : World} (hs : SlB W' (fun j => W.heap.size ≤ j) v L) {j : Nat} (hj : v.ownBlock = some j) : ¬ R j := fun z => by
  have := h.2.2.lt j z
  have := (hs.own hj).1
  omega
theorem RAt.gone (h : RAt W R r ar cr n l tn u) {i : Nat} {y : Hd} (hy : l[i]? = some y) (x : Int) : W.frozen? ((ar 3).add i) = false ∧ RAt (W.setCell ((ar 3).add i) (.int .i64 x)) R r ar cr n (l.set i (y.1, y.2.1, x)) tn u ∧ Turn R W (W.setCell ((ar 3).add i) (.int .i64 x)) := by
  obtain ⟨e1, e2, f⟩ := h
  obtain ⟨hi, hyi⟩ := List.getElem?_eq_some_iff.1 hy
  have l3 : i < (Lf l tn 3).length := by simp [Lf]; omega
  obtain ⟨q1, q2, q3⟩ := f.set (i := 3) (by omega) rfl i l3 x
  refine ⟨q1, ⟨by simpa using e1, e2, q2.congr (fun k hk => ?_)⟩, q3⟩
  have same : ∀ (g : Hd → Int), g (y.1, y.2.1, x) = g y → (l.set i (y.1, y.2.1, x)).map g = l.map g := fun g hg => by
    rw [List.map_set, hg]
    apply List.ext_getElem?
    intro j
    rw [List.getElem?_set]
    split
    · rename_i e; subst e
      simp [hi, hyi]
    · rfl
  match k, hk with
  | 0, _ => simp only [Lf, show ¬ (0 : Nat) = 3 by omega, if_false]; exact (same (·.1) rfl).symm
  | 1, _ => simp only [Lf, show ¬ (1 : Nat) = 3 by omega, if_false]; exact (same (·.2.1) rfl).symm
  | 2, _ => simp [Lf]
  | 3, _ => simp [Lf, map_set']
theorem add0E (a : Addr) : a.add 0 = a := by cases a; simp [Addr.add]
set_option maxRecDepth 100000
set_option maxHeartbeats 8000000
theorem rwake_calls (hb : RAt W R r ar cr n B.l tn u) (I : TInv B tn u) (on : Int) : Calls Try.prog 95 #[.pointer (some ⟨r, 0, none⟩), .int .i64 on] W fun e W' => ∃ v, e = .returned v ∧ SlB W' (fun j => W.heap.size ≤ j) v (B.q on) ∧ RAt W' R r ar cr n (B.wake on).l tn u ∧ Turn R W W' := by
  have HWT := Aside0.mk (rwait_calls hb I on)
  have HQ := Aside0.mk (fun h (hh : h ∈ B.q on) => ((I.mem on h).1 hh).1)
  have HQL := Aside0.mk (I.q_len on)
  have HB := Aside0.mk hb
  clear hb I
  unfold Bd.wake
  obtain ⟨L, hL⟩ : ∃ L, B.q on = L := ⟨_, rfl⟩
  rw [hL] at HWT HQ HQL ⊢
  clear hL
  go_enter Try.func95, Try.ntmps95
  go_wp2_with (go_at_call 101; go_loud (refine HWT.out.mono ?_; rintro e w1 ⟨v, rfl, h1⟩; obtain ⟨A, cc, rfl⟩ := h1.s.slice; have H1 := Aside0.mk h1; clear h1))
  go_loopw [6] (fun vi wr => ∃ k : Nat, vi = .int .i64 (k : Int) ∧ Aside0 (k ≤ L.length) ∧ Aside0 (SlB wr (fun j => W.heap.size ≤ j) (.slice A L.length cc) L) ∧ Aside0 (RAt wr R r ar cr n (wakes (L.take k) B.l) tn u) ∧ Aside0 (Turn R W wr)) (fun vi _ => L.length - (intOf vi).toNat)
  case atStart => exact ⟨0, rfl, ⟨Nat.zero_le _⟩, ⟨H1.out.s⟩, ⟨by simpa [wakes] using HB.out.below H1.out.b⟩, ⟨Turn.of_below H1.out.b⟩⟩
  case round =>
    obtain ⟨k, rfl, Hk, HS, HR, HT⟩ := hrel
    rename World => W3
    have HW1 := Aside0.mk (show wrap64 ((k : Int) + 1) = ((k + 1 : Nat) : Int) by rw [X.hwrId (by omega) (by have := Hk.out; have := HQL.out; omega)]; omega)
    by_cases hlt : k < L.length
    · have q1 : decide (k < L.length) = true := decide_eq_true hlt
      have q2 : decide ((k : Int) < (L.length : Int)) = true := decide_eq_true (by omega)
      have p0 : ((0 : Int) ≤ (k : Int)) = True := eq_true (by omega)
      have p1 : ((k : Int) < (L.length : Int)) = True := eq_true (by omega)
      obtain ⟨ad, rfl, hx⟩ := HS.out.cell (k : Int) (by omega) (by omega)
      obtain ⟨x, hxx⟩ : ∃ x, L[k] = x := ⟨_, rfl⟩
      have hrd : rd L (k : Int) = x := by
        rw [← hxx]; unfold rd
        rw [Int.toNat_natCast, List.getD_eq_getElem?_getD, List.getElem?_eq_getElem hlt]; rfl
      rw [hrd, Int.toNat_natCast] at hx
      have hhas := HQ.out x (by rw [← hxx]; exact List.getElem_mem _)
      have TC := Aside0.mk (rturn_calls (B := ⟨wakes (L.take k) B.l, B.q⟩) HR.out (h := x) (by unfold Bd.has at hhas ⊢; simpa [wakes_length] using hhas) 1 0)
      have hsn : (wakes (L.take k) B.l).set x.toNat (1, 0, 0) = wakes (L.take (k + 1)) B.l := by
        rw [← wakes_snoc, List.take_add_one, List.getElem?_eq_getElem hlt, hxx]; rfl
      have HSN := Aside0.mk hsn
      have HLT := Aside0.mk hlt
      clear hrd hxx hhas hsn
      replace hlt := eq_true hlt
      go_wp2_with (go_at_call 129; go_loud (refine TC.out.mono ?_; rintro e w4 ⟨rfl, g1, g2⟩; have G1 := Aside0.mk g1; have G2 := Aside0.mk g2; clear g1 g2))
      have g1 := G1.out
      rw [HSN.out] at g1
      exact ⟨⟨k + 1, by rw [HW1.out], ⟨HLT.out⟩, ⟨HS.out.kept (fun j hj => G2.out.block j (HS.out.own hj).2 (HB.out.notR HS.out hj))⟩, ⟨g1⟩, ⟨HT.out.trans G2.out (fun _ z => .inl z)⟩⟩, by rw [HW1.out]; simp only [intOf]; have := HLT.out; omega⟩
    · have q1 : decide (k < L.length) = false := decide_eq_false hlt
      have q2 : decide ((k : Int) < (L.length : Int)) = false := decide_eq_false (by omega)
      have hk : k = L.length := by have := Hk.out; omega
      have hr := HR.out
      rw [hk, List.take_length] at hr
      have HR := Aside0.mk hr
      clear hr hk hlt
      go_wp2
      go_ret
      exact ⟨_, rfl, HS.out, HR.out, HT.out⟩
theorem rfirst_calls (hb : RAt W R r ar cr n B.l tn u) (I : TInv B tn u) (on : Int) : Calls Try.prog 96 #[.pointer (some ⟨r, 0, none⟩), .int .i64 on] W fun e W' => e = .returned (.tuple #[.int .i64 (B.first on).2.1, .bool (B.first on).2.2]) ∧ RAt W' R r ar cr n (B.first on).1.l tn u ∧ Turn R W W' := by
  have HWT := Aside0.mk (rwait_calls hb I on)
  have hq := fun h (hh : h ∈ B.q on) => ((I.mem on h).1 hh).1
  have hql := I.q_len on
  have HB := Aside0.mk hb
  clear hb I
  unfold Bd.first
  obtain ⟨L, hL⟩ : ∃ L, B.q on = L := ⟨_, rfl⟩
  rw [hL] at HWT hq hql ⊢
  clear hL
  cases L with
  | nil =>
    clear hq hql
    go_enter Try.func96, Try.ntmps96
    go_wp2_with (go_at_call 101; go_loud (refine HWT.out.mono ?_; rintro e w1 ⟨v, rfl, h1⟩; obtain ⟨A, cc, rfl⟩ := h1.s.slice; simp only [List.length_nil]; have H1 := Aside0.mk h1; clear h1))
    go_ret2
    exact ⟨rfl, HB.out.below H1.out.b, Turn.of_below H1.out.b⟩
  | cons h t =>
    have HH := Aside0.mk (hq h (by simp))
    obtain ⟨N, hN⟩ : ∃ N, (h :: t).length = N := ⟨_, rfl⟩
    have HN := Aside0.mk hN
    have p1 : ((0 : Int) < (N : Int)) = True := eq_true (by rw [← hN]; simp)
    have p2 : ((N : Int) == 0) = false := beq_eq_false_iff_ne.2 (by rw [← hN]; simp; omega)
    have p3 : (N == 0) = false := by rw [← hN]; simp
    have p4 : (N = 0) = False := by rw [← hN]; simp
    have p5 : (0 < N) = True := by rw [← hN]; simp
    clear hq hql hN
    simp only
    go_enter Try.func96, Try.ntmps96
    go_wp2_with (go_at_call 101; go_loud (refine HWT.out.mono ?_; rintro e w1 ⟨v, rfl, h1⟩; obtain ⟨ad, cc, rfl⟩ := h1.addr (by simp); obtain ⟨ad2, e2, x0⟩ := h1.s.cell 0 (by omega) (by simp); cases e2; rw [show rd (h :: t) 0 = h from rfl, show (0 : Int).toNat = 0 from rfl, add0E] at x0; rw [HN.out] at h1 ⊢; have H1 := Aside0.mk h1; clear h1))
    have TC := Aside0.mk (rturn_calls (HB.out.below H1.out.b) HH.out 1 0)
    go_wp2_with (go_at_call 129; go_loud (refine TC.out.mono ?_; rintro e w4 ⟨rfl, g1, g2⟩; have G1 := Aside0.mk g1; have G2 := Aside0.mk g2; obtain ⟨ad2, e2, x1⟩ := (H1.out.s.kept (fun j hj => g2.block j (H1.out.s.own hj).2 (HB.out.notR H1.out.s hj))).cell 0 (by omega) (by simp); cases e2; rw [show rd (h :: t) 0 = h from rfl, show (0 : Int).toNat = 0 from rfl, add0E] at x1; clear g1 g2))
    go_ret2
    exact ⟨rfl, G1.out, (Turn.of_below H1.out.b).trans G2.out (fun _ z => .inl z)⟩
theorem hd_getD (B : Bd) (k : Nat) : B.hd (k : Int) = B.l.getD k (0, 0, 0) := by unfold Bd.hd; rw [Int.toNat_natCast]
theorem rreadys_calls (hb : RAt W R r ar cr n B.l tn u) (hn : n ≤ 16) : Calls Try.prog 100 #[.pointer (some ⟨r, 0, none⟩)] W fun e W' => ∃ v, e = .returned v ∧ Ow W v B.ready W' := by
  have HB := Aside0.mk hb
  have HLN := Aside0.mk hb.1
  have HN := Aside0.mk hn
  clear hb hn
  unfold Bd.ready
  go_enter Try.func100, Try.ntmps100
  go_wp2
  go_loopw [3, 4] (fun v vi wr => ∃ k : Nat, vi = .int .i64 (k : Int) ∧ Aside0 (k ≤ n) ∧ Aside0 (Ow W v (rdyK B.l k) wr)) (fun _ vi _ => n - (intOf vi).toNat)
  case atStart => exact ⟨0, rfl, ⟨Nat.zero_le _⟩, ⟨Ow.nil _⟩⟩
  case round =>
    obtain ⟨k, rfl, Hk, HO⟩ := hrel
    rename World => W3
    have HB3 := Aside0.mk (HB.out.below HO.out.b)
    obtain ⟨c0, c1, c2, c3, c4⟩ := HB3.out.cells
    have HW1 := Aside0.mk (show wrap64 ((k : Int) + 1) = ((k + 1 : Nat) : Int) by rw [X.hwrId (by omega) (by have := Hk.out; have := HN.out; omega)]; omega)
    have FIN := Aside0.mk (fun (v : Value) (w : World) (hlt : k < n) (h : Ow W v (rdyK B.l (k + 1)) w) => (show (∃ k' : Nat, Value.int .i64 (wrap64 ((k : Int) + 1)) = .int .i64 (k' : Int) ∧ Aside0 (k' ≤ n) ∧ Aside0 (Ow W v (rdyK B.l k') w)) ∧ n - (intOf (Value.int .i64 (wrap64 ((k : Int) + 1)))).toNat < n - (intOf (Value.int .i64 (k : Int))).toNat from ⟨⟨k + 1, by rw [HW1.out], ⟨hlt⟩, ⟨h⟩⟩, by rw [HW1.out]; simp only [intOf]; omega⟩))
    by_cases hlt : k < n
    · have q1 : decide (k < n) = true := decide_eq_true hlt
      have q2 : decide ((k : Int) < (n : Int)) = true := decide_eq_true (by omega)
      have HLT := Aside0.mk hlt
      have hh : B.has (k : Int) = true := has_iff.2 ⟨by omega, by have := HLN.out; omega⟩
      obtain ⟨d0, d1, d2, d3, h0, h1⟩ := HB3.out.hd hh
      rw [hd_getD] at d0
      simp only [Int.toNat_natCast] at d0
      obtain ⟨s, hs⟩ : ∃ s, (B.l.getD k (0, 0, 0)).1 = s := ⟨_, rfl⟩
      rw [hs] at d0
      have HST := Aside0.mk (show rdyK B.l (k + 1) = if s = 1 then rdyK B.l k ++ [(k : Int)] else rdyK B.l k by rw [rdyK, hs])
      have HLE := Aside0.mk (rdyK_length B.l k)
      replace h0 := eq_true h0
      replace h1 := eq_true h1
      clear hs hh d1 d2 d3 hlt
      by_cases e1 : s = 1
      · subst e1
        go_wp2_with ((with_reducible refine gate_builtin (b := .append) (xs := #[.tmp 25, .tmp 27]) rfl ?_); at_builtin; go_loud (refine wpList_appO rfl (.tmp 25) (.tmp 27) rfl (HO.out.alloc (.cells #[.int .i64 (k : Int)] 3)) (ad := ⟨W3.heap.size, 0, none⟩) (c := 1) (y := (k : Int)) (cell_newO _ _) (by have := HLE.out; have := HLT.out; have := HN.out; omega) rfl (by first | rfl | simp) ?_; intro v5 w5 h5; have H5 := Aside0.mk h5; clear h5))
        exact FIN.out _ _ HLT.out (by rw [HST.out, if_pos rfl]; exact H5.out)
      · have f1 : (s == 1) = false := beq_eq_false_iff_ne.2 e1
        have HE := Aside0.mk e1
        clear e1
        go_wp2
        exact FIN.out _ _ HLT.out (by rw [HST.out, if_neg HE.out]; exact HO.out)
    · have q1 : decide (k < n) = false := decide_eq_false hlt
      have q2 : decide ((k : Int) < (n : Int)) = false := decide_eq_false (by omega)
      have hk : k = B.l.length := by have := Hk.out; have := HLN.out; omega
      rw [hk] at HO
      clear hk hlt
      go_wp2
      go_ret
      exact ⟨_, rfl, HO.out⟩
end Go.Proofs.Ytfcjfjmjcmanaaa.B
