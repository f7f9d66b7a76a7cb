/- SchedBoards: State; New of the document's board. -/
import Derived.Test.YtfcjfjmjcmanaaaEf
set_option linter.unusedVariables false
namespace Go.Proofs.Ytfcjfjmjcmanaaa.B
open Go Go.RowKit Go.Proofs.YtfcjfjmjcmanaaaW.PrintWords Go.Proofs.YtfcjfjmjcmanaaaW.PrintLast Go.Proofs.YtfcjfjmjcmanaaaW.PrintMore
theorem F4.congrV {W : World} {R : Nat → Prop} {r : Nat} {v v' : Nat → Value} {L : Nat → List Int} {u : Int} (h : F4 W R r v L u) (e : ∀ i, i < 4 → v i = v' i) : F4 W R r v' L u :=
  ⟨by rw [← e 0 (by omega), ← e 1 (by omega), ← e 2 (by omega), ← e 3 (by omega)]; exact h.hr, fun i hi => by rw [← e i hi]; exact h.s i hi, fun i k hi hk hne j hj => by rw [← e i hi] at hj; rw [← e k hk]; exact h.ap i k hi hk hne j hj, fun i hi j hj => by rw [← e i hi] at hj; exact h.off i hi j hj, h.own, h.lt⟩
theorem F4.start (W : World) : F4 (W.alloc (.cells #[.slice none 0 0, .slice none 0 0, .slice none 0 0, .slice none 0 0, .int .i64 0] 129)) (fun i => i = W.heap.size) W.heap.size (fun _ => .slice none 0 0) (fun _ => List.replicate 0 0) 0 :=
  ⟨World.alloc_heap_new W _, fun i _ => .inl ⟨rfl, rfl⟩, fun i k _ _ _ j hj => by simp [Value.ownBlock] at hj, fun i _ j hj => by simp [Value.ownBlock] at hj, rfl, fun i hi => by rw [hi]; simp⟩
variable {ops : Array Oper} {rest : List Oper} {o : Oper} {a : Act} {Q : Exit → Act → World → Prop}
theorem wpList_appF {W : World} {R : Nat → Prop} {r : Nat} {v : Nat → Value} {L : Nat → List Int} {u : Int} (hgd : o.guard = none) (s x : Operand) (ho : o.op = .call { callee := .builtin .append, args := #[s, x], argTypes := #[26, 26] }) (h : F4 W R r v L u) (i : Nat) (hi : i < 4) {ad : Addr} {c : Nat} {y : Int} (hy : W.cell? ad = some (.int .i64 y)) (hl : (L i).length + 1 ≤ 4398046511104) (hs : a.eval s = v i) (hx : a.eval x = .slice (some ad) 1 c)
    (hK : ∀ A m c' W', W'.frozen? ⟨r, i, none⟩ = false → (∃ y, W'.cell? ⟨r, i, none⟩ = some y) → F4 (W'.setCell ⟨r, i, none⟩ (.slice A m c')) (fun j => R j ∨ W.heap.size ≤ j ∧ j < W'.heap.size) r (fun a => if a = i then .slice A m c' else v a) (fun a => if a = i then L i ++ [y] else L a) u → Turn R W (W'.setCell ⟨r, i, none⟩ (.slice A m c')) → wpList Try.prog ops Q rest (a.put o.dst (.slice A m c')) W') : wpList Try.prog ops Q (o :: rest) a W := by
  refine wpList_plain hgd fun K hK' => ?_
  obtain ⟨v', W', hr, h1, h2, h3, h4, _⟩ := h.app hi (c := c) hy hl o.type
  unfold Oper.wp execOp
  simp only [ho, resolve, invoke, builtin, Sem.run_bind, Sem.run_pure, Result.andThen_ok, List.map_toArray, List.map_cons, List.map_nil, hs, hx, hr]
  obtain ⟨A, c', e⟩ := (h3.s i hi).slice
  simp only [if_pos rfl] at e
  subst e
  exact hK' _ _ (hK _ _ _ W' h1 h2 h3 h4)
def aOf : Value → Addr
  | .slice (some a) _ _ => a
  | _ => ⟨0, 0, none⟩
def cOf : Value → Nat
  | .slice _ _ c => c
  | _ => 0
/-- A new board: all rows are as long as there are handlers. -/
theorem F4.rat {W : World} {R : Nat → Prop} {r : Nat} {v : Nat → Value} {n : Nat} (h : F4 W R r v (fun _ => List.replicate n 0) 0) (hn : 1 ≤ n) : RAt W R r (fun i => aOf (v i)) (fun i => cOf (v i)) n (List.replicate n (0, 0, 0)) (List.replicate n 0) 0 := by
  refine ⟨by simp, by simp, (h.congrV (fun i hi => ?_)).congr (fun i hi => ?_)⟩
  · obtain ⟨A, c, e⟩ := (h.s i hi).slice
    have hs := h.s i hi
    rw [e] at hs
    obtain ⟨ad, e2, _⟩ := hs.cell 0 (by omega) (by simp; omega)
    show v i = Value.slice (some (aOf (v i))) n (cOf (v i))
    rw [e, e2, List.length_replicate]
    rfl
  · match i, hi with
    | 0, _ => simp [Lf]
    | 1, _ => simp [Lf]
    | 2, _ => simp [Lf]
    | 3, _ => simp [Lf]
/-- While New goes on: k handlers are in. -/
def Nw (W : World) (k : Nat) (w : World) : Prop := ∃ R v, F4 w R W.heap.size v (fun _ => List.replicate k 0) 0 ∧ (∀ i, R i → W.heap.size ≤ i) ∧ Below W.heap.size W w
set_option maxRecDepth 100000
set_option maxHeartbeats 8000000
theorem state_calls {W : World} {T : Nat → Prop} {p g m N : Nat} {B : Bd} {f : Int → Value} (hb : Bat W T p g m N B f) (h : Int) : Calls Try.prog 68 #[.pointer (some ⟨p, 0, none⟩), .int .i64 h] W fun e W' => e = .returned (.tuple #[.int .i64 (B.at h).1, .int .i64 (B.at h).2]) ∧ Drawn0 W W' := by
  obtain ⟨c0, c1⟩ := hb.cells
  have hc := has_calls hb h
  unfold Bd.at
  cases hh : B.has h with
  | false =>
    rw [hh] at hc
    rw [if_neg (by simp)]
    have HC := Aside0.mk hc
    clear hb hc
    go_enter Try.func68, Try.ntmps68
    go_wp2_with (go_at_call 91; refine HC.out.mono ?_; rintro e w1 ⟨rfl, ⟨n1, rfl⟩⟩)
    go_ret2
    exact ⟨rfl, ⟨_, rfl⟩⟩
  | true =>
    rw [hh] at hc
    rw [if_pos rfl]
    obtain ⟨hg, h0, h1, h2⟩ := B.get hh
    obtain ⟨d0, d1, d2⟩ := hb.hg.cells hg
    have HC := Aside0.mk hc
    clear hb hc hg d2
    replace h0 := eq_true h0
    replace h1 := eq_true h1
    go_enter Try.func68, Try.ntmps68
    go_wp2_with (go_at_call 91; refine HC.out.mono ?_; rintro e w1 ⟨rfl, ⟨n1, rfl⟩⟩)
    go_quiet (fail)
    go_wp2
    go_ret2
    exact ⟨rfl, Drawn0.step ⟨_, rfl⟩ _⟩
theorem rnew_bad (n : Int) (h : n < 1 ∨ 16 < n) (W : World) : Calls Try.prog 45 #[.int .i64 n] W fun e W' => e = .returned (.tuple #[.pointer none, .int .i64 2]) ∧ Below W.heap.size W W' := by
  by_cases h1 : n < 1
  · have t1 : decide (n < 1) = true := decide_eq_true h1
    clear h h1
    go_enter Try.func45, Try.ntmps45
    go_wp2
    go_ret2
    exact ⟨rfl, Below.refl _ _⟩
  · have t1 : decide (n < 1) = false := decide_eq_false h1
    have t2 : decide (16 < n) = true := decide_eq_true (by omega)
    clear h h1
    go_enter Try.func45, Try.ntmps45
    go_wp2
    go_ret2
    exact ⟨rfl, Below.refl _ _⟩
theorem rnew_calls (n : Int) (h1 : 1 ≤ n) (h2 : n ≤ 16) (W : World) : Calls Try.prog 45 #[.int .i64 n] W fun e W' => ∃ R r ar cr, e = .returned (.tuple #[.pointer (some ⟨r, 0, none⟩), .int .i64 0]) ∧ RAt W' R r ar cr n.toNat (Bd.new n).l (List.replicate n.toNat 0) 0 ∧ Below W.heap.size W W' ∧ ∀ i, R i → W.heap.size ≤ i := by
  have t1 : decide (n < 1) = false := decide_eq_false (by omega)
  have t2 : decide (16 < n) = false := decide_eq_false (by omega)
  have HN := Aside0.mk (And.intro h1 h2)
  have ST := Aside0.mk (F4.start W)
  have BL := Aside0.mk ((Below.refl W.heap.size W).alloc (Nat.le_refl _) (.cells #[.slice none 0 0, .slice none 0 0, .slice none 0 0, .slice none 0 0, .int .i64 0] 129))
  clear h1 h2
  go_enter Try.func45, Try.ntmps45
  go_wp2
  go_loopw [5] (fun vi wr => ∃ k : Nat, vi = .int .i64 (k : Int) ∧ Aside0 ((k : Int) ≤ n) ∧ Aside0 (Nw W k wr)) (fun vi _ => n.toNat - (intOf vi).toNat)
  case atStart => exact ⟨0, rfl, ⟨by have := HN.out; omega⟩, ⟨_, _, ST.out, fun i hi => by rw [hi]; exact Nat.le_refl _, BL.out⟩⟩
  case round =>
    clear ST BL
    obtain ⟨k, rfl, Hk, NW⟩ := hrel
    rename World => W3
    by_cases hlt : (k : Int) < n
    · have q2 : decide ((k : Int) < n) = true := decide_eq_true hlt
      have HLT := Aside0.mk hlt
      have HW1 := Aside0.mk (show wrap64 ((k : Int) + 1) = ((k + 1 : Nat) : Int) by rw [X.hwrId (by omega) (by have := HN.out; omega)]; omega)
      obtain ⟨R, v, f0, hR, b0⟩ := NW.out
      obtain ⟨c0, c1, c2, c3, c4⟩ := f0.cells
      have F0 := Aside0.mk f0
      have HR := Aside0.mk hR
      have B0 := Aside0.mk b0
      have hk1 : k + 1 ≤ 4398046511104 := by have := HN.out; omega
      have HK1 := Aside0.mk hk1
      clear f0 hR b0 hk1 hlt
      go_wp2_with (first
        | ((with_reducible refine gate_builtin (b := .append) (xs := #[.tmp 23, .tmp 24]) rfl ?_); at_builtin; go_loud (refine wpList_appF rfl (.tmp 23) (.tmp 24) rfl (F0.out.below ((Below.refl _ _).alloc (Nat.le_refl _) (.cells #[.int .i64 0] 3))) 0 (by omega) (ad := ⟨(W3).heap.size, 0, none⟩) (c := 1) (y := 0) (cell_newO _ _) (by simp; have := HK1.out; omega) rfl (by first | rfl | simp) ?_; intro A1 m1 d1 w1 z1 x1 f1 t1; obtain ⟨y1, x1⟩ := x1; have F1 := Aside0.mk f1; have T1 := Aside0.mk t1; obtain ⟨c0, c1, c2, c3, c4⟩ := f1.cells; simp at c0 c1 c2 c3; clear f1 t1))
        | ((with_reducible refine gate_builtin (b := .append) (xs := #[.tmp 32, .tmp 33]) rfl ?_); at_builtin; go_loud (refine wpList_appF rfl (.tmp 32) (.tmp 33) rfl (F1.out.below ((Below.refl _ _).alloc (Nat.le_refl _) (.cells #[.int .i64 0] 3))) 1 (by omega) (ad := ⟨w1.heap.size, 0, none⟩) (c := 1) (y := 0) (by have z := cell_newO (w1.setCell ⟨W.heap.size, 0, none⟩ (.slice A1 m1 d1)) 0; rw [show (w1.setCell ⟨W.heap.size, 0, none⟩ (.slice A1 m1 d1)).heap.size = w1.heap.size by simp] at z; exact z) (by simp; have := HK1.out; omega) rfl (by first | rfl | simp) ?_; intro A2 m2 d2 w2 z2 x2 f2 t2; obtain ⟨y2, x2⟩ := x2; have F2 := Aside0.mk f2; have T2 := Aside0.mk t2; obtain ⟨c0, c1, c2, c3, c4⟩ := f2.cells; simp at c0 c1 c2 c3; clear f2 t2))
        | ((with_reducible refine gate_builtin (b := .append) (xs := #[.tmp 41, .tmp 42]) rfl ?_); at_builtin; go_loud (refine wpList_appF rfl (.tmp 41) (.tmp 42) rfl (F2.out.below ((Below.refl _ _).alloc (Nat.le_refl _) (.cells #[.int .i64 0] 3))) 2 (by omega) (ad := ⟨w2.heap.size, 0, none⟩) (c := 1) (y := 0) (by have z := cell_newO (w2.setCell ⟨W.heap.size, 1, none⟩ (.slice A2 m2 d2)) 0; rw [show (w2.setCell ⟨W.heap.size, 1, none⟩ (.slice A2 m2 d2)).heap.size = w2.heap.size by simp] at z; exact z) (by simp; have := HK1.out; omega) rfl (by first | rfl | simp) ?_; intro A3 m3 d3 w3 z3 x3 f3 t3; obtain ⟨y3, x3⟩ := x3; have F3 := Aside0.mk f3; have T3 := Aside0.mk t3; obtain ⟨c0, c1, c2, c3, c4⟩ := f3.cells; simp at c0 c1 c2 c3; clear f3 t3))
        | ((with_reducible refine gate_builtin (b := .append) (xs := #[.tmp 50, .tmp 51]) rfl ?_); at_builtin; go_loud (refine wpList_appF rfl (.tmp 50) (.tmp 51) rfl (F3.out.below ((Below.refl _ _).alloc (Nat.le_refl _) (.cells #[.int .i64 0] 3))) 3 (by omega) (ad := ⟨w3.heap.size, 0, none⟩) (c := 1) (y := 0) (by have z := cell_newO (w3.setCell ⟨W.heap.size, 2, none⟩ (.slice A3 m3 d3)) 0; rw [show (w3.setCell ⟨W.heap.size, 2, none⟩ (.slice A3 m3 d3)).heap.size = w3.heap.size by simp] at z; exact z) (by simp; have := HK1.out; omega) rfl (by first | rfl | simp) ?_; intro A4 m4 d4 w4 z4 x4 f4 t4; obtain ⟨y4, x4⟩ := x4; have F4 := Aside0.mk f4; have T4 := Aside0.mk t4; obtain ⟨c0, c1, c2, c3, c4⟩ := f4.cells; simp at c0 c1 c2 c3; clear f4 t4)))
      have hsz : ∀ (w : World) (x : Value) (i : Nat), (w.setCell ⟨W.heap.size, i, none⟩ x).heap.size = w.heap.size := fun w x i => by simp
      have hal : ∀ (w : World), (w.alloc (.cells #[.int .i64 0] 3)).heap.size = w.heap.size + 1 := fun w => by simp
      have FF := F4.out
      have s0 := B0.out.size
      have s1 := T1.out.size
      have s2 := T2.out.size
      have s3 := T3.out.size
      have s4 := T4.out.size
      simp only [hsz, hal] at s1 s2 s3 s4
      have ab : ∀ w : World, Below w.heap.size w (w.alloc (.cells #[.int .i64 0] 3)) := fun w => (Below.refl _ w).alloc (Nat.le_refl _) _
      have tl : ∀ (w : World) (R' : Nat → Prop) (w' : World), (∀ i, R' i → W.heap.size ≤ i) → Turn R' (w.alloc (.cells #[.int .i64 0] 3)) w' → W.heap.size ≤ w.heap.size → Below W.heap.size W w → Below W.heap.size W w' := fun w R' w' h1 h2 h3 h4 => (h4.trans ((ab w).mono h3)).trans (h2.below h1 (by rw [hal]; omega))
      refine ⟨⟨k + 1, by rw [HW1.out], ⟨by have := HLT.out; omega⟩, ⟨_, _, FF.congr (fun i hi => ?_), ?_, ?_⟩⟩, by rw [HW1.out]; simp only [intOf]; have := HLT.out; omega⟩
      · rw [List.replicate_succ']
        match i, hi with
        | 0, _ => simp
        | 1, _ => simp
        | 2, _ => simp
        | 3, _ => simp
      · intro i hi
        simp only [hsz, hal] at hi
        rcases hi with ((((z | z) | z) | z) | z)
        · exact HR.out i z
        all_goals omega
      · have b1 := tl _ _ _ HR.out T1.out s0 B0.out
        have r1 : ∀ i, (R i ∨ (W3.alloc (.cells #[.int .i64 0] 3)).heap.size ≤ i ∧ i < w1.heap.size) → W.heap.size ≤ i := fun i hi => by
          rw [hal] at hi
          rcases hi with z | z
          · exact HR.out i z
          · omega
        have b2 := tl _ _ _ r1 T2.out (by rw [hsz]; omega) b1
        have r2 : ∀ i, ((R i ∨ (W3.alloc (.cells #[.int .i64 0] 3)).heap.size ≤ i ∧ i < w1.heap.size) ∨ ((w1.setCell ⟨W.heap.size, 0, none⟩ (.slice A1 m1 d1)).alloc (.cells #[.int .i64 0] 3)).heap.size ≤ i ∧ i < w2.heap.size) → W.heap.size ≤ i := fun i hi => by
          rw [hal (w1.setCell _ _), hsz] at hi
          rcases hi with z | z
          · exact r1 i z
          · omega
        have b3 := tl _ _ _ r2 T3.out (by rw [hsz]; omega) b2
        have r3 : ∀ i, (((R i ∨ (W3.alloc (.cells #[.int .i64 0] 3)).heap.size ≤ i ∧ i < w1.heap.size) ∨ ((w1.setCell ⟨W.heap.size, 0, none⟩ (.slice A1 m1 d1)).alloc (.cells #[.int .i64 0] 3)).heap.size ≤ i ∧ i < w2.heap.size) ∨ ((w2.setCell ⟨W.heap.size, 1, none⟩ (.slice A2 m2 d2)).alloc (.cells #[.int .i64 0] 3)).heap.size ≤ i ∧ i < w3.heap.size) → W.heap.size ≤ i := fun i hi => by
          rw [hal (w2.setCell _ _), hsz] at hi
          rcases hi with z | z
          · exact r2 i z
          · omega
        exact tl _ _ _ r3 T4.out (by rw [hsz]; omega) b3
    · have q2 : decide ((k : Int) < n) = false := decide_eq_false hlt
      have hk : k = n.toNat := by have := Hk.out; omega
      have HK := Aside0.mk hk
      clear hlt hk
      go_wp2
      go_ret2
      obtain ⟨R, v, f0, hR, b0⟩ := NW.out
      rw [HK.out] at f0
      exact ⟨R, W.heap.size, _, _, rfl, f0.rat (by have := HN.out; omega), b0, hR⟩
end Go.Proofs.Ytfcjfjmjcmanaaa.B
