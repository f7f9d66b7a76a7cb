/- Books: the walk of Ints. -/
import Derived.Test.YtfcjfjmjcmanaaaCf
import Derived.Deep.RegionHeld3
import Derived.Deep.DrawnRows
set_option linter.unusedVariables false
namespace Go.Proofs.Ytfcjfjmjcmanaaa.B
open Go Go.RowKit Go.Proofs.YtfcjfjmjcmanaaaW.PrintWords Go.Proofs.YtfcjfjmjcmanaaaW.PrintLast Go.Proofs.YtfcjfjmjcmanaaaW.PrintMore
attribute [local go_sem ↓] Go.wp_at_zero Go.wp_at_succ
variable {W W' : World} {T Tv T4 T5 : Nat → Prop} {b : Nat} {v v4 v5 : Value} {vs us : List Value} {L : List Int} {Ls : List (List Int)} {ops : Array Oper} {rest : List Oper} {o : Oper} {a : Act} {Q : Exit → Act → World → Prop} {K : Act → World → Prop} {E : Prop}
theorem wp_lpush (s x : Operand) (ho : o.op = .call { callee := .builtin .append, args := #[s, x], argTypes := #[37, 37] }) (h : Lists W T v4 vs Ls) (hv : SlB W Tv v L) (hap : ∀ j, v.ownBlock = some j → ¬ T j) (hL : L.length + 10 ≤ 4398046511104) (hn : vs.length + 11 ≤ 4398046511104) {ad : Addr} {c : Nat} (hs : a.eval s = v4) (hx : a.eval x = .slice (some ad) 1 c) (hc : W.cell? ad = some v)
    (hK : ∀ v4' W', Lists W' (fun j => T j ∨ v.ownBlock = some j ∨ j = W.heap.size ∧ j < W'.heap.size) v4' (vs ++ [v]) (Ls ++ [L]) → Turn T W W' → (∀ j, v4'.ownBlock = some j → T j ∨ j = W.heap.size) → K (a.put o.dst v4') W') : Oper.wp Try.prog o a W K Q := by
  obtain ⟨v4', W', hr, h1, h2, _, h3⟩ := h.push hv hap hL hn (c := c) hc o.type
  unfold Oper.wp execOp
  simp only [ho, resolve, invoke, builtin, Sem.run_bind, Sem.run_pure, Result.andThen_ok, List.map_toArray, List.map_cons, List.map_nil, hs, hx, hr]
  exact hK v4' W' h1 h2 h3
theorem wpList_lpush (hgd : o.guard = none) (s x : Operand) (ho : o.op = .call { callee := .builtin .append, args := #[s, x], argTypes := #[37, 37] }) (h : Lists W T v4 vs Ls) (hv : SlB W Tv v L) (hap : ∀ j, v.ownBlock = some j → ¬ T j) (hL : L.length + 10 ≤ 4398046511104) (hn : vs.length + 11 ≤ 4398046511104) {ad : Addr} {c : Nat} (hs : a.eval s = v4) (hx : a.eval x = .slice (some ad) 1 c) (hc : W.cell? ad = some v)
    (hK : ∀ v4' W', Lists W' (fun j => T j ∨ v.ownBlock = some j ∨ j = W.heap.size ∧ j < W'.heap.size) v4' (vs ++ [v]) (Ls ++ [L]) → Turn T W W' → (∀ j, v4'.ownBlock = some j → T j ∨ j = W.heap.size) → wpList Try.prog ops Q rest (a.put o.dst v4') W') : wpList Try.prog ops Q (o :: rest) a W :=
  wpList_plain hgd fun K hK' => wp_lpush s x ho h hv hap hL hn hs hx hc (fun v4' W' h1 h2 h3 => hK' _ _ (hK v4' W' h1 h2 h3))
theorem step_lpush (hgd : o.guard = none) (s x : Operand) (ho : o.op = .call { callee := .builtin .append, args := #[s, x], argTypes := #[37, 37] }) (h : Lists W T v4 vs Ls) (hv : SlB W Tv v L) (hap : ∀ j, v.ownBlock = some j → ¬ T j) (hL : L.length + 10 ≤ 4398046511104) (hn : vs.length + 11 ≤ 4398046511104) {ad : Addr} {c : Nat} (hs : a.eval s = v4) (hx : a.eval x = .slice (some ad) 1 c) (hc : W.cell? ad = some v)
    (hK : ∀ v4' W', Lists W' (fun j => T j ∨ v.ownBlock = some j ∨ j = W.heap.size ∧ j < W'.heap.size) v4' (vs ++ [v]) (Ls ++ [L]) → Turn T W W' → (∀ j, v4'.ownBlock = some j → T j ∨ j = W.heap.size) → K (a.put o.dst v4') W') : if Region.wanted o (yielded ops a.tmps) = true then Oper.wp Try.prog o a W K Q else E := by
  have hw : Region.wanted o (yielded ops a.tmps) = true := by simp [Region.wanted, hgd]
  rw [if_pos hw]
  exact wp_lpush s x ho h hv hap hL hn hs hx hc hK
theorem step_copy (hgd : o.guard = none) (s x : Operand) (ho : o.op = .call { callee := .builtin .append, args := #[s, x], argTypes := #[26, 26] }) {g : Nat} (hg : W.heap[g]? = some (.cells #[] 3 (0, 0))) (hv : SlB W Tv v L) (hl : L.length ≤ 4398046511104) (hs : a.eval s = .slice (some ⟨g, 0, none⟩) 0 0) (hx : a.eval x = v)
    (hK : ∀ u W', SlB W' (fun j => j = g ∨ j = W.heap.size) u L → W.grownBy W' (some g) → K (a.put o.dst u) W') : if Region.wanted o (yielded ops a.tmps) = true then Oper.wp Try.prog o a W K Q else E := by
  have hw : Region.wanted o (yielded ops a.tmps) = true := by simp [Region.wanted, hgd]
  rw [if_pos hw]
  obtain ⟨u, W', hr, h1, h2⟩ := hv.copy hg hl o.type
  unfold Oper.wp execOp
  simp only [ho, resolve, invoke, builtin, Sem.run_bind, Sem.run_pure, Result.andThen_ok, List.map_toArray, List.map_cons, List.map_nil, hs, hx, hr]
  exact hK u W' h1 h2
/-- The struct's cell is written. -/
theorem bk_set4 {v4' : Value} (h : W.heap[b]? = some (.cells #[.slice none 0 0, .slice none 0 0, .slice none 0 0, .slice none 0 0, v4, v5, .slice none 0 0, .slice none 0 0, .slice none 0 0, .slice none 0 0, .slice none 0 0, .slice none 0 0, .slice none 0 0, .slice none 0 0] 42 (0, 0))) :
    (W.setCell ⟨b, 4, none⟩ v4').heap[b]? = some (.cells #[.slice none 0 0, .slice none 0 0, .slice none 0 0, .slice none 0 0, v4', v5, .slice none 0 0, .slice none 0 0, .slice none 0 0, .slice none 0 0, .slice none 0 0, .slice none 0 0, .slice none 0 0, .slice none 0 0] 42 (0, 0)) := row_set h
theorem bk_set5 {v5' : Value} (h : W.heap[b]? = some (.cells #[.slice none 0 0, .slice none 0 0, .slice none 0 0, .slice none 0 0, v4, v5, .slice none 0 0, .slice none 0 0, .slice none 0 0, .slice none 0 0, .slice none 0 0, .slice none 0 0, .slice none 0 0, .slice none 0 0] 42 (0, 0))) :
    (W.setCell ⟨b, 5, none⟩ v5').heap[b]? = some (.cells #[.slice none 0 0, .slice none 0 0, .slice none 0 0, .slice none 0 0, v4, v5', .slice none 0 0, .slice none 0 0, .slice none 0 0, .slice none 0 0, .slice none 0 0, .slice none 0 0, .slice none 0 0, .slice none 0 0] 42 (0, 0)) := row_set h
theorem copy_keep {W2 w5 X : World} {o : Obj} (hX : X.heap = (W2.alloc o).heap) (hg : X.grownBy w5 (some W2.heap.size)) : W2.heap.size < w5.heap.size ∧ ∀ i, i < W2.heap.size → w5.heap[i]? = W2.heap[i]? ∧ ∀ o2, (w5.alloc o2).heap[i]? = W2.heap[i]? := by
  have hs := hg.size
  rw [hX] at hs
  simp only [World.size_alloc] at hs
  refine ⟨by omega, fun i hi => ?_⟩
  have h1 : w5.heap[i]? = W2.heap[i]? := by
    rw [hg.block i (by rw [hX]; simp only [World.size_alloc]; omega) (fun e => by injection e with e; omega), hX]
    exact Below.heap_alloc W2 _ i hi
  exact ⟨h1, fun o2 => (Below.heap_alloc w5 _ i (by omega)).trans h1⟩
theorem copy_turn {W2 w5 X : World} (hX : Turn (fun _ => False) W2 X) (hg : X.grownBy w5 (some W2.heap.size)) : Turn (fun _ => False) W2 w5 :=
  hX.trans (Turn.of_grown (T := fun j => j = W2.heap.size) hg (fun j hj => by cases hj; rfl)) (fun q e => .inr (by omega))
theorem bk_done {W2 w5 w6 X : World} {T4' T5' ov : Nat → Prop} {v4' v5' : Value} {vs' us' : List Value} {Ls' : List (List Int)} (HB : BkAt W T4 T5 b v4 v5 vs us Ls) (S2 : W.heap.size < W2.heap.size) (T2 : Turn (fun i => T4 i ∨ T5 i ∨ i = b) W W2)
    (HB2 : W2.heap[b]? = some (.cells #[.slice none 0 0, .slice none 0 0, .slice none 0 0, .slice none 0 0, v4', v5, .slice none 0 0, .slice none 0 0, .slice none 0 0, .slice none 0 0, .slice none 0 0, .slice none 0 0, .slice none 0 0, .slice none 0 0] 42 (0, 0)))
    (L42 : Lists W2 T4' v4' vs' Ls') (h4 : ∀ i, T4' i → i < W2.heap.size ∧ ¬ T5 i ∧ i ≠ b ∧ (T4 i ∨ ov i ∨ W.heap.size ≤ i)) (TG : Turn (fun _ => False) W2 w5) (TX : Turn (fun _ => False) w5 X) (T6 : Turn T5 X w6) (L6 : Lists w6 T5' v5' us' Ls') (h5 : ∀ i, T5' i → (T5 i ∨ W2.heap.size ≤ i) ∧ i < w6.heap.size) :
    BkAt (w6.setCell ⟨b, 5, none⟩ v5') T4' T5' b v4' v5' vs' us' Ls' ∧ Turn (fun i => T4 i ∨ T5 i ∨ i = b) W (w6.setCell ⟨b, 5, none⟩ v5') ∧ ∀ i, T4' i ∨ T5' i → T4 i ∨ T5 i ∨ ov i ∨ W.heap.size ≤ i := by
  have T26 : Turn T5 W2 w6 := ((TG.mono (fun _ h => h.elim)).trans (TX.mono (fun _ h => h.elim)) (fun _ h => .inl h)).trans T6 (fun _ h => .inl h)
  have tb := turn1 w6 b 5 v5'
  have hbl : b < W.heap.size := (Array.getElem?_eq_some_iff.1 HB.hb).1
  have hb6 : w6.heap[b]? = W2.heap[b]? := T26.block b (by omega) HB.b5
  have sz := T26.size
  refine ⟨⟨bk_set5 (hb6.trans HB2), L42.kept (fun i hi hl => (tb.block i (by omega) (h4 i hi).2.2.1).trans (T26.block i hl (h4 i hi).2.1)), L6.kept (fun i hi hl => tb.block i hl (fun e => ?_)), fun i hi hj => ?_, fun hi => (h4 b hi).2.2.1 rfl, fun hi => ?_, fun i hi => ?_⟩, (T2.trans (T26.mono (fun _ h => .inr (.inl h))) (fun _ h => .inl h)).trans (tb.mono (fun _ h => .inr (.inr h))) (fun _ h => .inl h), fun i hi => ?_⟩
  · rw [e] at hi
    rcases (h5 b hi).1 with z | z
    · exact HB.b5 z
    · omega
  · rcases (h5 i hj).1 with z | z
    · exact (h4 i hi).2.1 z
    · have := (h4 i hi).1; omega
  · rcases (h5 b hi).1 with z | z
    · exact HB.b5 z
    · omega
  · have : (w6.setCell ⟨b, 5, none⟩ v5').heap.size = w6.heap.size := by simp
    rw [this]
    rcases hi with hi | hi
    · have := (h4 i hi).1; omega
    · exact (h5 i hi).2
  · rcases hi with hi | hi
    · rcases (h4 i hi).2.2.2 with z | z | z
      · exact .inl z
      · exact .inr (.inr (.inl z))
      · exact .inr (.inr (.inr z))
    · rcases (h5 i hi).1 with z | z
      · exact .inr (.inl z)
      · exact .inr (.inr (.inr (by omega)))
theorem copy_new {W2 X w5 : World} {o : Obj} (hX : X.heap = (W2.alloc o).heap) {u : Value} {L : List Int} (hu : SlB w5 (fun j => j = W2.heap.size ∨ j = X.heap.size) u L) : ∀ j, u.ownBlock = some j → W2.heap.size ≤ j := fun j hj => by
  have h1 := (hu.own hj).1
  rw [hX] at h1
  simp only [World.size_alloc] at h1
  omega
set_option maxRecDepth 100000
set_option maxHeartbeats 8000000
theorem ints_calls (hbk : BkAt W T4 T5 b v4 v5 vs us Ls) (hv : SlB W Tv v L) (hap : ∀ j, v.ownBlock = some j → ¬ T4 j ∧ ¬ T5 j ∧ j ≠ b) (hL : L.length + 10 ≤ 4398046511104) (hn : vs.length + 11 ≤ 4398046511104) :
    Calls Try.prog 27 #[.pointer (some ⟨b, 0, none⟩), v] W fun e W' => (∃ r, e = .returned r) ∧ ∃ T4' T5' v4' v5' u, BkAt W' T4' T5' b v4' v5' (vs ++ [v]) (us ++ [u]) (Ls ++ [L]) ∧ Turn (fun i => T4 i ∨ T5 i ∨ i = b) W W' ∧ ∀ i, T4' i ∨ T5' i → T4 i ∨ T5 i ∨ v.ownBlock = some i ∨ W.heap.size ≤ i := by
  obtain ⟨c0, c2, c4, c5, c6, c8, c10, c12⟩ := hbk.cells
  obtain ⟨Av, cv, eV⟩ := hv.slice
  have HB := Aside0.mk hbk
  have HV := Aside0.mk hv
  have HAP := Aside0.mk hap
  have HL := Aside0.mk hL
  have HN := Aside0.mk hn
  have HBL := Aside0.mk (Array.getElem?_eq_some_iff.1 hbk.hb).1
  have HEV := Aside0.mk eV
  have h1c : v.oneCell' = true := by rw [eV]; rfl
  subst eV
  clear hbk hv hap hL hn c0 c2 c6 c8 c10 c12
  go_enter Try.func27, Try.ntmps27
  go_wp2_with ((with_reducible refine gate_builtin (b := .append) (xs := #[.tmp 8, .tmp 10]) rfl ?_); at_builtin; refine wpList_lpush rfl _ _ rfl (HB.out.l4.kept (fun i hi hl => Below.heap_alloc _ _ _ hl)) (HV.out.kept (fun j hj => Below.heap_alloc _ _ _ (HV.out.own hj).2)) (fun j hj => (HAP.out j hj).1) HL.out HN.out rfl rfl (by simp) ?_; intro v4' w1 l1 t1 o1; obtain ⟨A4', d4', e4, _⟩ := l1.row.slice; rw [List.length_append, List.length_singleton] at e4; subst e4; have hb1 : w1.heap[b]? = _ := (t1.block b (by simp; exact Nat.lt_succ_of_lt HBL.out) HB.out.b4).trans ((Below.heap_alloc _ _ _ HBL.out).trans HB.out.hb); have q4 : w1.cell? ⟨b, 4, none⟩ = some v4 := (by rw [cell_of_row w1 b 4 _ 42 (0, 0) hb1]; rfl); have f4 : w1.frozen? ⟨b, 4, none⟩ = false := (by simp [World.frozen?, hb1]); have HB1 := Aside0.mk hb1; have L1 := Aside0.mk l1; have T1 := Aside0.mk t1; have O1 := Aside0.mk o1; clear l1 t1 o1 hb1)
  have hs1 := T1.out.size
  simp only [World.size_alloc] at hs1
  have t2 : Turn (fun i => T4 i ∨ T5 i ∨ i = b) W (w1.setCell ⟨b, 4, none⟩ (.slice A4' (vs.length + 1) d4')) :=
    ((Turn.of_below (below_alloc (Below.refl _ _) _)).trans (T1.out.mono (fun _ h => .inl h)) (fun _ h => .inl h)).trans (Turn.setCell _ _ _ (.inr (.inr rfl))) (fun _ h => .inl h)
  have hb2 := bk_set4 (v4' := .slice A4' (vs.length + 1) d4') HB1.out
  have tb := turn1 w1 b 4 (.slice A4' (vs.length + 1) d4')
  have sz2 : (w1.setCell ⟨b, 4, none⟩ (.slice A4' (vs.length + 1) d4')).heap.size = w1.heap.size := by simp
  have l42 := L1.out.kept (W' := w1.setCell ⟨b, 4, none⟩ (.slice A4' (vs.length + 1) d4')) (fun i hi hl => tb.block i hl (fun e => by
    rw [e] at hi
    rcases hi with hi | hi | hi
    · exact HB.out.b4 hi
    · exact (HAP.out b hi).2.2 rfl
    · have := HBL.out; simp at hi; omega))
  have k5 : ∀ i, T5 i → (w1.setCell ⟨b, 4, none⟩ (.slice A4' (vs.length + 1) d4')).heap[i]? = W.heap[i]? := fun i hi => by
    have hl := HB.out.lt i (.inr hi)
    exact (tb.block i (by omega) (fun e => HB.out.b5 (by rw [← e]; exact hi))).trans ((T1.out.block i (by simp; omega) (fun z => HB.out.ap i z hi)).trans (Below.heap_alloc _ _ _ hl))
  have l52 := HB.out.l5.kept (fun i hi _ => k5 i hi)
  have v2 := HV.out.kept (W' := w1.setCell ⟨b, 4, none⟩ (.slice A4' (vs.length + 1) d4')) (fun j hj => by
    have hl := (HV.out.own hj).2
    have ha := HAP.out j hj
    exact (tb.block j (by omega) ha.2.2).trans ((T1.out.block j (by simp; omega) ha.1).trans (Below.heap_alloc _ _ _ hl)))
  have S2 := Aside0.mk (show W.heap.size < (w1.setCell ⟨b, 4, none⟩ (.slice A4' (vs.length + 1) d4')).heap.size ∧ w1.heap.size = (w1.setCell ⟨b, 4, none⟩ (.slice A4' (vs.length + 1) d4')).heap.size by simp; omega)
  have T2 := Aside0.mk t2
  have HB2 := Aside0.mk hb2
  have L42 := Aside0.mk l42
  have L52 := Aside0.mk l52
  have V2 := Aside0.mk v2
  clear t2 hb2 tb sz2 l42 k5 l52 v2 c4 c5 q4 f4 O1 T1 L1 HB1 hs1
  generalize w1.setCell ⟨b, 4, none⟩ (.slice A4' (vs.length + 1) d4') = W2 at S2 T2 HB2 L42 L52 V2 ⊢
  have cf : Aside0 (∀ X : World, X.heap[b]? = W2.heap[b]? → X.cell? ⟨b, 5, none⟩ = some v5 ∧ X.frozen? ⟨b, 5, none⟩ = false) := ⟨fun X hX => by
    have h := hX.trans HB2.out
    exact ⟨by rw [cell_of_row X b 5 _ 42 (0, 0) h]; rfl, by simp [World.frozen?, h]⟩⟩
  have hb2l := Aside0.mk (show b < W2.heap.size by have := HBL.out; have := S2.out; omega)
  have q5 := (cf.out W2 rfl).1
  have q5a := (cf.out (W2.alloc (.cells #[] 3)) (Below.heap_alloc _ _ _ hb2l.out)).1
  have HUS : Aside0 (us.length + 11 ≤ 4398046511104) := ⟨by have h1 := HB.out.l4.len; have h2 := HB.out.l5.len; have := HN.out; omega⟩
  go_region_law
    (first
      | (refine step_copy rfl _ _ (by rfl) (g := W2.heap.size) (by first | exact World.alloc_heap_new W2 _ | exact World.alloc_heap_new _ _) (V2.out.kept (fun j hj => Below.heap_alloc W2 (.cells #[] 3) j (V2.out.own hj).2)) (by have := HL.out; omega) (by rfl) (by rfl) ?_; intro u w5 hu hgu; obtain ⟨Au, cu, eu⟩ := hu.slice; subst eu; have K52 := Aside0.mk (copy_keep (o := .cells #[] 3) (by rfl) hgu); have TG := Aside0.mk (copy_turn (Turn.of_below (by repeat (first | exact Below.refl _ _ | apply below_drew | apply below_alloc))) hgu); have UP := Aside0.mk (copy_new (o := .cells #[] 3) (by rfl) hu); have q5b := (cf.out w5 (K52.out.2 b hb2l.out).1).1; have q5c := (cf.out (w5.alloc (.cells #[.slice Au L.length cu] 26)) ((K52.out.2 b hb2l.out).2 _)).1; have HU := Aside0.mk hu; clear hu hgu)
      | (refine step_lpush rfl _ _ (by rfl) (L52.out.kept (fun i hi hl => (K52.out.2 i hl).2 _)) (HU.out.kept (fun j hj => Below.heap_alloc w5 (.cells #[.slice Au L.length cu] 26) j (HU.out.own hj).2)) (fun j hj z => by have h1 := UP.out j hj; have h2 := HB.out.lt j (.inr z); have h3 := S2.out.1; omega) HL.out HUS.out (by rfl) (by rfl) (by simp) ?_; intro v5' w6 l6 t6 o6; obtain ⟨A5', d5', e5, _⟩ := l6.row.slice; rw [List.length_append, List.length_singleton] at e5; subst e5; have hb6 : w6.heap[b]? = W2.heap[b]? := (t6.block b (by have := hb2l.out; have := K52.out.1; simp; omega) HB.out.b5).trans ((K52.out.2 b hb2l.out).2 _); obtain ⟨q6, f6⟩ := cf.out w6 hb6; have L6 := Aside0.mk l6; have T6 := Aside0.mk t6; have HB6 := Aside0.mk hb6; clear l6 t6 o6 hb6))
  all_goals go_wp2
  all_goals go_end0
  all_goals (
    refine ⟨⟨_, rfl⟩, _, _, _, _, _, bk_done (ov := fun i => (Value.slice Av L.length cv).ownBlock = some i) HB.out S2.out.1 T2.out HB2.out L42.out (fun i hi => ?_) TG.out (Turn.of_below (by repeat (first | exact Below.refl _ _ | apply below_drew | apply below_alloc))) T6.out L6.out (fun i hi => ?_)⟩
    · have s2 := S2.out
      rcases hi with hi | hi | hi
      · have h1 := HB.out.lt i (.inl hi)
        exact ⟨by omega, fun z => HB.out.ap i hi z, fun e => HB.out.b4 (by rw [← e]; exact hi), .inl hi⟩
      · have h1 := HAP.out i hi
        have h2 := (HV.out.own hi).2
        exact ⟨by omega, h1.2.1, h1.2.2, .inr (.inl hi)⟩
      · have h2 := hi.1
        have h3 := HBL.out
        simp only [World.size_alloc] at h2
        exact ⟨by have := hi.2; omega, fun z => by have := HB.out.lt i (.inr z); omega, by omega, .inr (.inr (by omega))⟩
    · have t6 := T6.out.size
      have k52 := K52.out.1
      have s2 := S2.out
      simp only [World.size_alloc] at t6
      rcases hi with hi | hi | hi
      · have h1 := HB.out.lt i (.inr hi)
        exact ⟨.inl hi, by omega⟩
      · have h1 := UP.out i hi
        have h2 := (HU.out.own hi).2
        exact ⟨.inr h1, by omega⟩
      · have h1 := hi.1
        simp only [World.size_alloc] at h1
        exact ⟨.inr (by omega), hi.2⟩)
end Go.Proofs.Ytfcjfjmjcmanaaa.B
