/- SchedSmall: the law's walk. SchedSmall: the pairs that come in; the law's walk. -/
import Derived.Test.YtfcjfjmjcmanaaaGv
import Derived.Test.YtfcjfjmjcmanaaaNzq
import Derived.Deep.RegionLaw
import Derived.Deep.SlicePairs
import Derived.SizedLaws
import Derived.ChangeShapes
set_option linter.unusedVariables false
namespace Go.Proofs.Ytfcjfjmjcmanaaa.V
open Go Go.RowKit Go.Proofs.Ytfcjfjmjcmanaaa.X Go.Proofs.Ytfcjfjmjcmanaaa.O Go.Proofs.Ytfcjfjmjcmanaaa.B Go.Proofs.YtfcjfjmjcmanaaaW.PrintWords Go.Proofs.YtfcjfjmjcmanaaaW.PrintLast Go.Proofs.YtfcjfjmjcmanaaaW.PrintMore
attribute [local go_sem] Oper.semAt_some
theorem step_cat {ops : Array Oper} {o : Oper} {a : Act} {W : World} {T Tv : Nat → Prop} {m v : Value} {L Lv : List Int} {K : Act → World → Prop} {Q : Exit → Act → World → Prop} {E : Prop} (hgd : o.guard = none) (s x : Operand) (ho : o.op = .call { callee := .builtin .append, args := #[s, x], argTypes := #[26, 26] }) (h : RI W T m L) (hv : SlB W Tv v Lv) (hl : L.length + Lv.length ≤ 4398046511104) (hs : a.eval s = m) (hx : a.eval x = v)
    (hK : ∀ m' W', RI W' (fun j => T j ∨ j = W.heap.size) m' (L ++ Lv) → W.grownBy W' m.ownBlock → (m'.ownBlock = m.ownBlock ∨ m'.ownBlock = some W.heap.size) → K (a.put o.dst m') W') : if Region.wanted o (yielded ops a.tmps) = true then Oper.wp Try.prog o a W K Q else E := by
  have hw : Region.wanted o (yielded ops a.tmps) = true := by simp [Region.wanted, hgd]
  rw [if_pos hw]
  obtain ⟨m', W', hr, h1, h2, h3⟩ := h.cat hv hl o.type
  unfold Oper.wp execOp
  simp only [ho, resolve, invoke, builtin, Sem.run_bind, Sem.run_pure, Result.andThen_ok, List.map_toArray, List.map_cons, List.map_nil, hs, hx, hr]
  exact hK m' W' h1 h2 h3
theorem one_rowS (wr : World) (x : Int) : SlB (wr.alloc (.cells #[.int .i64 x] 3)) (fun b => b = wr.heap.size) (.slice (some ⟨wr.heap.size, 0, none⟩) 1 1) [x] := by
  refine .inr ⟨wr.heap.size, 0, 1, #[.int .i64 x], by simp, rfl, by simp, by unfold maxLen; omega, by simp, World.alloc_heap_new wr _, fun i y hy => ?_⟩
  have hi : i < 1 := by
    have := (List.getElem?_eq_some_iff.1 hy).1
    simpa using this
  have : i = 0 := by omega
  subst this
  simp at hy
  simp [hy]
/-- A piece of a walk inside the wide fence, by the plain walk. -/
theorem wide_law {c : Code} {n : Nat} {P : Program} {Q : Exit → Act → World → Prop} {a : Act} {w : World} (h : ∀ K : Act → World → Prop, (∀ a w, Q .normal a w → K a w) → c.wp P (Exit.then K (fun _ _ _ => False)) a w) : c.wpIn Fence.wide n P Q a w :=
  wpIn_mono (wpIn_wide.2 (h (Q .normal) (fun _ _ x => x))) (fun e a w hq => by cases e <;> first | exact hq | exact hq.elim)
theorem take_one (l : List Int) (i : Nat) (h : i < l.length) : l.take (i + 1) = l.take i ++ [rd l (i : Int)] := by
  rw [List.take_add_one, List.getElem?_eq_getElem h, rd_get l i h]; rfl
/-- While the first six are taken. -/
structure Fw (W : World) (b0 : Nat) (pv : Value) (L : List Int) (m : Value) (w : World) : Prop where
  bf : Boxed w (b0 + 1 + 1) 26 m
  row : RI w (fun j => b0 + 3 ≤ j) m L
  ba : Boxed w b0 56 pv
  br : Boxed w (b0 + 1) 4 (.bool false)
  below : Below b0 W w
  sz : b0 + 3 ≤ w.heap.size
theorem Fw.next {W w w7 X : World} {b0 : Nat} {pv m m' : Value} {L : List Int} {x : Int} {o : Obj} (f : Fw W b0 pv L m w) (hX : X.heap = (w.alloc o).heap) (hXo : Below w.heap.size w X) (h1 : RI w7 (fun j => b0 + 3 ≤ j ∨ j = X.heap.size) m' (L ++ [x])) (h2 : X.grownBy w7 m.ownBlock) : w7.frozen? ⟨b0 + 1 + 1, 0, none⟩ = false ∧ w7.cell? ⟨b0 + 1 + 1, 0, none⟩ = some m ∧ Fw W b0 pv (L ++ [x]) m' (w7.setCell ⟨b0 + 1 + 1, 0, none⟩ m') := by
  have hs := f.sz
  have hz : X.heap.size = w.heap.size + 1 := by rw [hX]; simp
  have h2s := h2.size
  have kp : ∀ b, b < w.heap.size → some b ≠ m.ownBlock → w7.heap[b]? = w.heap[b]? := fun b hb hn => (h2.block b (by omega) hn).trans (hXo.block b hb)
  have kl : ∀ b, b < b0 + 3 → w7.heap[b]? = w.heap[b]? := fun b hb => kp b (by omega) (fun e => by have := f.row.2 b e.symm; omega)
  have bf7 : Boxed w7 (b0 + 1 + 1) 26 m := (kl _ (by omega)).trans f.bf
  have k2 : ∀ b, b ≠ b0 + 1 + 1 → (w7.setCell ⟨b0 + 1 + 1, 0, none⟩ m').heap[b]? = w7.heap[b]? := fun b hb => Below.heap_setCell w7 _ _ b hb
  refine ⟨bf7.frozen, bf7.cell, bf7.set _, ?_, (k2 _ (by omega)).trans ((kl _ (by omega)).trans f.ba), (k2 _ (by omega)).trans ((kl _ (by omega)).trans f.br), ?_, by simp; omega⟩
  · exact (h1.mono (T' := fun j => b0 + 3 ≤ j) (fun j hj z => by rcases z with z | z; exact z; omega)).kept (fun j hj => k2 j (by have := h1.2 j hj; rcases this with z | z <;> omega))
  · have hb7 : Below b0 w w7 := ⟨h2.os.trans hXo.os, h2.tape.trans hXo.tape, h2.output.trans hXo.output, by omega, fun b hb => kl b (by omega)⟩
    exact (f.below.trans hb7).setCell (by show b0 ≤ b0 + 1 + 1; omega) _
/-- Behind Least: the boxes, the rows. -/
structure Sm (W : World) (b0 b7 : Nat) (pv : Value) (ps : List (Int × Int)) (F aL : List Int) (m u : Value) (w : World) : Prop where
  bf : Boxed w (b0 + 1 + 1) 26 m
  row : RI w (fun j => b0 + 3 ≤ j) m F
  ba : Boxed w b0 56 pv
  br : Boxed w (b0 + 1) 4 (.bool false)
  b7 : Boxed w b7 26 u
  rd : RdS w u aL
  rp : ∃ A c, pv = .slice A ps.length c ∧ Kd.C Kp w A ps.length ps
  below : Below b0 W w
  sz : b0 + 3 ≤ w.heap.size
theorem Sm.grow {W w w' : World} {b0 b7 : Nat} {pv : Value} {ps : List (Int × Int)} {F aL : List Int} {m u : Value} (s : Sm W b0 b7 pv ps F aL m u w) (hb : Below w.heap.size w w') : Sm W b0 b7 pv ps F aL m u w' := by
  have hz := hb.size
  have hs := s.sz
  obtain ⟨A, c, e, hC⟩ := s.rp
  exact ⟨(hb.block _ s.bf.lt).trans s.bf, s.row.kept (fun j hj => hb.block j (s.row.lt hj).2), (hb.block _ s.ba.lt).trans s.ba, (hb.block _ s.br.lt).trans s.br, (hb.block _ s.b7.lt).trans s.b7, s.rd.below hb, ⟨A, c, e, Kd.C_below hC hb⟩, s.below.trans (hb.mono (by omega)), by omega⟩
theorem Fw.sm {W w w2 : World} {b0 : Nat} {A1 : Option Addr} {c1 : Nat} {ps : List (Int × Int)} {F aL : List Int} {m : Value} {A : Option Addr} {c : Nat} (f : Fw W b0 (.slice A1 ps.length c1) F m w) (hps : Kd.C Kp w A1 ps.length ps) (hb : Below w.heap.size w w2) (hc : aL.length ≤ c) (hC : Kd.C (Kd.int .i64) w2 A aL.length aL) : Sm W b0 w2.heap.size (.slice A1 ps.length c1) ps F aL m (.slice A aL.length c) (w2.alloc (.cells #[.slice A aL.length c] 26)) := by
  have h0 : Below w2.heap.size w2 (w2.alloc (.cells #[.slice A aL.length c] 26)) := (Below.refl _ w2).alloc (Nat.le_refl _) _
  have h2 : Below w.heap.size w (w2.alloc (.cells #[.slice A aL.length c] 26)) := hb.trans (h0.mono hb.size)
  have hz := h2.size
  have hs := f.sz
  exact ⟨(h2.block _ f.bf.lt).trans f.bf, f.row.kept (fun j hj => h2.block j (f.row.lt hj).2), (h2.block _ f.ba.lt).trans f.ba, (h2.block _ f.br.lt).trans f.br, Boxed.new w2 26 _, ⟨A, c, rfl, hc, Kd.C_below hC h0⟩, ⟨A1, c1, rfl, Kd.C_below hps h2⟩, f.below.trans (h2.mono (by omega)), by omega⟩
theorem eq_nil17 (g : Nat) (lb : Array Value) (W : World) : (binOp BinOp.eql 31 (.func (.func g) #[] lb) .nilFunc).run Try.prog W = .ok (.bool false) W := by
  kernel_rfl
theorem i17_abides (w5 : World) (k0 : Nat) : AbidesS (fun (k : Nat) (T : Nat → Prop) (W' : World) => (∀ b, T b → w5.heap.size ≤ b) ∧ Below w5.heap.size w5 W' ∧ k ≤ k0) := by
  rintro k T A B T' ⟨h1, h2, h3⟩ hs hT
  have hsz := hs.size
  have h2s := h2.size
  have ht : Turn T A B := ⟨hs.os, hs.tape, hs.output, hs.size, hs.block⟩
  refine ⟨fun b hb => ?_, h2.trans (ht.below (fun b hb => h1 b hb) h2s), h3⟩
  rcases hT b hb with z | z
  · exact h1 b z
  · omega
theorem x17_abides (W : World) (b0 n : Nat) (hn : b0 + 1 < n) (p : Prop) : AbidesS (fun (k : Nat) (T : Nat → Prop) (W' : World) => (∀ b, T b → n ≤ b) ∧ Boxed W' (b0 + 1) 4 (.bool true) ∧ Below b0 W W' ∧ n ≤ W'.heap.size ∧ p) := by
  rintro k T A B T' ⟨h1, h2, h3, h4, h5⟩ hs hT
  have hsz := hs.size
  have ht : Turn T A B := ⟨hs.os, hs.tape, hs.output, hs.size, hs.block⟩
  refine ⟨fun b hb => ?_, (hs.block (b0 + 1) (by omega) (fun z => by have := h1 _ z; omega)).trans h2, h3.trans (ht.below (fun b hb => by have := h1 b hb; omega) (by omega)), by omega, h5⟩
  rcases hT b hb with z | z
  · exact h1 b z
  · omega
theorem results_cell17 {fn : Func} {p : Tmp} (h : fn.results = #[.cell p 4]) (tmps : Array Value) (w : World) (b : Nat) (v : Value) (hp : tmps.getD p undef = .pointer (some ⟨b, 0, none⟩)) (hb : Boxed w b 4 v) : (results fn tmps).run Try.prog w = .ok v w := by
  have hp' : tmps[p]?.getD undef = .pointer (some ⟨b, 0, none⟩) := by simpa using hp
  have hc := hb.cell
  simp [results, h, hp', asAddr, go_sem, hc]
theorem steps_row (w : World) : ∃ ad : Addr, ad.block = w.heap.size ∧ (Instr.makeSlice 26 (.int .i64 16) (.int .i64 16)).run Try.prog w = .ok (.slice (some ad) 16 16) (w.alloc (.cells (madeCells #[.int .i64 0] 16) 3)) ∧ SlB (w.alloc (.cells (madeCells #[.int .i64 0] 16) 3)) (fun b => b = w.heap.size) (.slice (some ad) 16 16) (lift (List.replicate 16 0)) := by
  refine ⟨⟨w.heap.size, 0, none⟩, rfl, make_row 16 (by omega) w, ?_⟩
  have h := made_row w 16 (by omega)
  rw [show lift (List.replicate 16 0) = List.replicate 16 0 by simp [lift]]
  exact h
theorem steps_next {W : World} {T : Nat → Prop} {ad : Addr} (F : List Int) (x : Nat) (hx : x < 16) (h : SlB W T (.slice (some ad) 16 16) (lift (cnts F))) :
    W.frozen? (ad.add x) = false ∧ W.cell? (ad.add x) = some (.int .i64 ((F.count (x : Int) : Nat) : Int)) ∧ (F.length ≤ 6 → SlB (W.setCell (ad.add x) (.int .i64 (wrap64 (((F.count (x : Int) : Nat) : Int) + 1)))) T (.slice (some ad) 16 16) (lift (cnts (F ++ [(x : Int)]))) ∧ W.grownBy (W.setCell (ad.add x) (.int .i64 (wrap64 (((F.count (x : Int) : Nat) : Int) + 1)))) (some ad.block)) := by
  have hlen : (lift (cnts F)).length = 16 := by rw [lift_length, cnts_len]
  obtain ⟨ad2, e2, hc⟩ := h.cell (x : Int) (by omega) (by rw [hlen]; omega)
  obtain rfl := Option.some.inj e2
  rw [rd_lift, cnts_at F x hx, Int.toNat_natCast] at hc
  obtain ⟨k1, k2, k3⟩ := h.set x (by rw [hlen]; exact hx) (wrap64 (((F.count (x : Int) : Nat) : Int) + 1))
  refine ⟨k1, hc, fun h6 => ⟨?_, k3⟩⟩
  have hcl := List.count_le_length (a := (x : Int)) (l := F)
  have e : (lift (cnts F)).set x (wrap64 (((F.count (x : Int) : Nat) : Int) + 1)) = lift (cnts (F ++ [(x : Int)])) := by
    rw [cnts_next F (x : Int) ⟨by omega, by omega⟩, X.hwrId (by omega) (by omega)]
    simp [lift, List.map_set]
  rw [e] at k2
  exact k2
set_option maxRecDepth 100000
set_option maxHeartbeats 4000000
theorem small_walk (A0 : Option Addr) (c0 : Nat) (l : List Int) (A1 : Option Addr) (c1 : Nat) (ps : List (Int × Int)) {W : World} (hr0 : Kd.C (Kd.int .i64) W A0 l.length l) (hc0 : l.length ≤ c0) (hr1 : Kd.C Kp W A1 ps.length ps) (hl : l.length ≤ 17592186043904) (hps : ps.length ≤ 8796093021952) :
    CallsIn Fence.wide 3 Try.prog 17 #[.slice A0 l.length c0, .slice A1 ps.length c1] W fun e W' => e = .returned (.bool true) ∧ Below W.heap.size W W' := by
  refine callsIn_of_wp_marks Try.func17 rfl trivial ?_ rfl
  simp only [Try.ntmps17, List.size_toArray, List.length_cons, List.length_nil, Nat.reduceAdd, Nat.reduceSub, Array.replicate_succ, Array.replicate_zero, List.push_toArray, List.append_toArray, List.nil_append, List.cons_append]
  obtain ⟨b0, hb0⟩ : ∃ b0, W.heap.size = b0 := ⟨_, rfl⟩
  have hF : Fw W b0 (.slice A1 ps.length c1) [] (.slice none 0 0) (((W.alloc (.cells #[.slice A1 ps.length c1] 56)).alloc (.cells #[.bool false] 4)).alloc (.cells #[.slice none 0 0] 26)) := by
    have b1 := ((Boxed.new W 56 (.slice A1 ps.length c1)).alloc (.cells #[.bool false] 4)).alloc (.cells #[.slice none 0 0] 26)
    have b2 := (Boxed.new (W.alloc (.cells #[.slice A1 ps.length c1] 56)) 4 (.bool false)).alloc (.cells #[.slice none 0 0] 26)
    have b3 := Boxed.new ((W.alloc (.cells #[.slice A1 ps.length c1] 56)).alloc (.cells #[.bool false] 4)) 26 (.slice none 0 0)
    simp only [World.size_alloc] at b2 b3
    rw [← hb0]
    exact ⟨b3, RI.nil _ _, b1, b2, ((((Below.refl _ W).alloc (Nat.le_refl _) _).alloc (by simp) _).alloc (by simp; omega) _), by simp⟩
  generalize hW0 : (((W.alloc (.cells #[.slice A1 ps.length c1] 56)).alloc (.cells #[.bool false] 4)).alloc (.cells #[.slice none 0 0] 26)) = W1 at hF
  have HF := Aside0.mk hF
  have HR0 := Aside0.mk hr0
  have HC0 := Aside0.mk hc0
  have HR1 := Aside0.mk hr1
  have HL := Aside0.mk hl
  have HPS := Aside0.mk hps
  have HB0 := Aside0.mk hb0
  clear hF hr0 hc0 hr1 hl hps
  gi_wp2
  gi_loopw [6] (fun p wr => ∃ (i : Nat) (m : Value), p = .int .i64 (i : Int) ∧ Aside0 (i ≤ l.length ∧ i ≤ 6) ∧ Aside0 (Fw W b0 (.slice A1 ps.length c1) (l.take i) m wr)) (fun p _ => 6 - (intOf p).toNat)
  case atStart => exact ⟨0, _, rfl, ⟨by omega⟩, HF⟩
  case round =>
    clear HF
    obtain ⟨i, m, rfl, Hi, HF⟩ := hrel
    have wi := Aside0.mk (w1 i (by have := Hi.out; omega))
    by_cases hlt : i < l.length ∧ i < 6
    · have q1 : decide (i < l.length) = true := decide_eq_true hlt.1
      have q2 : decide ((i : Int) < 6) = true := decide_eq_true (by omega)
      have q3 : decide (i < 6) = true := decide_eq_true hlt.2
      have p0 : ((0 : Int) ≤ (i : Int)) = True := eq_true (by omega)
      have p1 : ((i : Int) < (l.length : Int)) = True := eq_true (by omega)
      have cf := HF.out.bf.cell
      obtain ⟨ad, rfl, hcx⟩ := Kd.at_int (Kd.C_below HR0.out (by rw [HB0.out]; exact HF.out.below)) (i : Int) (by omega) (by omega)
      rw [Int.toNat_natCast] at hcx
      obtain ⟨x, hx⟩ : ∃ x, rd l (i : Int) = x := ⟨_, rfl⟩
      rw [hx] at hcx
      have HX := Aside0.mk hx
      have HLT := Aside0.mk hlt
      clear hx hlt
      gi_wp2
      refine wide_law fun KW hKW => ?_
      have cf2 : wr.drew.cell? ⟨b0 + 1 + 1, 0, none⟩ = some m := by simpa using cf
      have hcx2 : wr.drew.cell? (ad.add i) = some (.int .i64 x) := by simpa using hcx
      have cf3 : (wr.alloc (.cells #[.int .i64 x] 3)).drew.cell? ⟨b0 + 1 + 1, 0, none⟩ = some m := by simpa using (HF.out.bf.alloc (.cells #[.int .i64 x] 3)).cell
      have cf4 := (HF.out.bf.alloc (.cells #[.int .i64 x] 3)).cell
      go_region_law (first
        | (refine step_cat rfl _ _ (by rfl) (HF.out.row.kept (fun j hj => Below.heap_alloc wr.drew _ j (HF.out.row.lt hj).2)) (one_rowS wr.drew x) (by have := Hi.out; rw [List.length_take]; simp; omega) (by rfl) (by rfl) ?_; intro m' w7 h1 h2 h3; obtain ⟨f7, c7, fw7⟩ := HF.out.next (X := wr.drew.alloc (.cells #[.int .i64 x] 3)) (by rfl) ((below_drew1 (Below.refl wr.heap.size wr)).alloc (by simp) _) h1 h2; obtain ⟨A7, d7, e7⟩ := h1.slB.slice; obtain ⟨n7, hn7⟩ : ∃ n7, (l.take i ++ [x]).length = n7 := ⟨_, rfl⟩; rw [hn7] at e7; subst e7; have FW7 := Aside0.mk fw7; clear h1 h2 h3 fw7))
      all_goals refine hKW _ _ ?_
      all_goals (simp only [Exit.inBlock, Exit.then]; gi_wp2)
      all_goals exact ⟨⟨i + 1, _, by first | rfl | rw [wi.out], ⟨by have := HLT.out; omega⟩, ⟨by have e := take_one l i HLT.out.1; rw [HX.out] at e; rw [e]; exact FW7.out⟩⟩, by first | (simp only [intOf]; have := HLT.out; omega) | (rw [wi.out]; simp only [intOf]; have := HLT.out; omega)⟩
    · have HF6 : Aside0 (l.take i = l.take 6) := ⟨by have := Hi.out; by_cases h : i = 6; rw [h]; rw [List.take_of_length_le (by omega), List.take_of_length_le (by omega)]⟩
      have cf := HF.out.bf.cell
      have ca := HF.out.ba.cell
      obtain ⟨F, hF⟩ : ∃ F, l.take i = F := ⟨_, rfl⟩
      rw [hF] at HF
      have HFL : Aside0 (F.length ≤ 6) := ⟨by rw [← hF, List.length_take]; have := Hi.out; omega⟩
      obtain ⟨Am, cm, em⟩ := HF.out.row.slB.slice
      subst em
      obtain ⟨Am', cm', em', hm1, hm2, hmC⟩ := HF.out.row.slB.C
      obtain ⟨rfl, _, rfl⟩ : Am = Am' ∧ F.length = F.length ∧ cm = cm' := by simpa using em'
      have hPS := Kd.C_below HR1.out (show Below W.heap.size W wr by rw [HB0.out]; exact HF.out.below)
      obtain ⟨aL, r2, hlo⟩ : ∃ aL r2, X.leastOf F ps = (aL, r2) := ⟨_, _, rfl⟩
      have hpl := X.pl_calls Am cm F A1 c1 ps wr hmC hm1 hPS
      rw [hlo] at hpl
      have HPL := Aside0.mk hpl
      have HPP := Aside0.mk hPS
      have hq : (decide (i < l.length) = true ∧ decide ((i : Int) < 6) = false ∧ decide (i < 6) = false) ∨ (decide (i < l.length) = false) := by
        by_cases h1 : i < l.length
        · exact .inl ⟨decide_eq_true h1, decide_eq_false (by omega), decide_eq_false (by omega)⟩
        · exact .inr (decide_eq_false h1)
      have hbad : (r2 ≠ 0 ∧ aL = []) ∨ (r2 = 0 ∧ aL = lst (tab ps) F.length F ∧ (∀ x ∈ F, Hnum x)) := by
        unfold X.leastOf at hlo
        have h6 := HFL.out
        by_cases g1 : F.length ≤ 512 ∧ ps.length ≤ 256
        · rw [if_neg (fun z => z g1)] at hlo
          by_cases g2 : ∀ x ∈ F, Hnum x
          · rw [if_neg (fun z => z g2)] at hlo
            by_cases g3 : PairsOk ps
            · rw [if_neg (fun z => z g3)] at hlo
              obtain ⟨rfl, rfl⟩ := Prod.mk.inj hlo
              exact .inr ⟨rfl, rfl, g2⟩
            · rw [if_pos g3] at hlo
              obtain ⟨rfl, rfl⟩ := Prod.mk.inj hlo
              exact .inl ⟨by decide, rfl⟩
          · rw [if_pos g2] at hlo
            obtain ⟨rfl, rfl⟩ := Prod.mk.inj hlo
            exact .inl ⟨by decide, rfl⟩
        · rw [if_pos g1] at hlo
          obtain ⟨rfl, rfl⟩ := Prod.mk.inj hlo
          exact .inl ⟨by decide, rfl⟩
      have HLV := Aside0.mk (fun w => PThere.larderlaw07_lives.calls 30 true w (by decide +kernel))
      clear hlt hpl hPS hmC hm1 hm2 em' hlo hF HF6 hW0
      rcases hbad with ⟨hr2, hnil⟩ | ⟨rfl, haL, hnum⟩
      · subst hnil
        have hr2b : (r2 == 0) = false := by simpa using hr2
        rcases hq with ⟨q1, q2, q3⟩ | q1
        all_goals (
          gi_wp2_with (first
            | (refine ⟨trivial, ?_⟩; gi_at_call 36; go_loud (refine (callsIn_wide.2 HPL.out).mono ?_; rintro e w2 ⟨A, c, rfl, hc, hC, hb⟩; have SM := Aside0.mk (HF.out.sm HPP.out hb hc hC); have c7 := SM.out.b7.cell; have c4 := SM.out.br.cell; clear hc hC hb))
            | (refine ⟨trivial, ?_⟩; gi_at_call 53; go_loud (refine (callsIn_wide.2 (HLV.out _)).mono ?_; rintro e w3 ⟨rfl, hb3⟩; have SM3 := Aside0.mk (SM.out.grow hb3); have f4 := SM3.out.br.frozen; have d4 := SM3.out.br.cell; clear hb3 c7 c4)))
          exact ⟨_, results_cell17 rfl _ _ (b0 + 1) (.bool true) rfl (SM3.out.br.set _), rfl, by rw [HB0.out]; exact SM3.out.below.setCell (by show b0 ≤ b0 + 1; omega) _⟩)
      · have HAL := Aside0.mk haL
        have HNU := Aside0.mk hnum
        clear haL hnum
        rcases hq with ⟨q1, q2, q3⟩ | q1
        all_goals (
          gi_wp2_with (refine ⟨trivial, ?_⟩; gi_at_call 36; go_loud (refine (callsIn_wide.2 HPL.out).mono ?_; rintro e w2 ⟨A, c, rfl, hc, hC, hb⟩; have SM := Aside0.mk (HF.out.sm HPP.out hb hc hC); obtain ⟨w3, hw3⟩ : ∃ w3, w2.alloc (.cells #[.slice A aL.length c] 26) = w3 := ⟨_, rfl⟩; obtain ⟨ad, had, hmk, hrow⟩ := steps_row w3; clear hc hC hb))
          rw [hw3] at SM
          clear HPL HPP HF hmk
          have HROW := Aside0.mk hrow
          have HAD := Aside0.mk had
          have HBL : Aside0 (Below w3.heap.size w3 (w3.alloc (.cells (madeCells #[.int .i64 0] 16) 3))) := ⟨(Below.refl _ w3).alloc (Nat.le_refl _) _⟩
          clear hrow had hw3
          gi_loopw [10] (fun p wr => ∃ (j : Nat), p = .int .i64 (j : Int) ∧ Aside0 (j ≤ F.length) ∧ Aside0 (Below w3.heap.size w3 wr) ∧ Aside0 (SlB wr (fun b => b = w3.heap.size) (.slice (some ad) 16 16) (lift (cnts (F.take j))))) (fun p _ => F.length - (intOf p).toNat)
          case atStart => exact ⟨0, rfl, ⟨by omega⟩, HBL, ⟨by rw [List.take_zero, cnts_nil]; exact HROW.out⟩⟩
          case round =>
            clear HROW HBL
            obtain ⟨j, rfl, Hj, HB, HR⟩ := hrel
            have SMj := Aside0.mk (SM.out.grow HB.out)
            have wj := Aside0.mk (show wrap64 ((j : Int) + 1) = ((j + 1 : Nat) : Int) by rw [X.hwrId (by omega) (by have := Hj.out; have := HFL.out; omega)]; omega)
            have cfj := SMj.out.bf.cell
            by_cases hlt : j < F.length
            · have q5 : decide (j < F.length) = true := decide_eq_true hlt
              have p0 : ((0 : Int) ≤ (j : Int)) = True := eq_true (by omega)
              have p1 : ((j : Int) < (F.length : Int)) = True := eq_true (by omega)
              obtain ⟨am, em, hcx⟩ := SMj.out.row.slB.cell (j : Int) (by omega) (by omega)
              subst em
              rw [Int.toNat_natCast] at hcx
              obtain ⟨x, hx⟩ : ∃ x, rd F (j : Int) = x := ⟨_, rfl⟩
              have hxn : Hnum x := HNU.out x (by rw [← hx, rd_get F j hlt]; exact List.getElem_mem hlt)
              rw [hx] at hcx
              have HX := Aside0.mk hx
              have HLT := Aside0.mk hlt
              obtain ⟨xn, rfl⟩ : ∃ xn : Nat, x = (xn : Int) := ⟨x.toNat, by have := hxn.1; omega⟩
              have HXN := Aside0.mk hxn
              have hxl : xn < 16 := by have := hxn.2; omega
              have b1 : decide ((xn : Int) < 0) = false := decide_eq_false (by omega)
              have b2 : decide ((16 : Int) ≤ (xn : Int)) = false := decide_eq_false (by omega)
              have b3 : decide (16 ≤ xn) = false := decide_eq_false (by omega)
              have b4 : decide (xn < 16) = true := decide_eq_true hxl
              have p2 : ((0 : Int) ≤ (xn : Int)) = True := eq_true (by omega)
              have p3 : ((xn : Int) < 16) = True := eq_true (by omega)
              have hxl' : (xn < 16) = True := eq_true hxl
              have HXL := Aside0.mk hxl
              obtain ⟨fs, hcs, sl⟩ := steps_next (F.take j) xn hxl HR.out
              obtain ⟨n, hn⟩ : ∃ n, (F.take j).count (xn : Int) = n := ⟨_, rfl⟩
              rw [hn] at hcs sl
              have HSL := Aside0.mk sl
              have HN := Aside0.mk hn
              clear hx hlt hxn hxl sl hn HR
              gi_wp2
              exact ⟨⟨j + 1, by rw [wj.out], ⟨by have := HLT.out; omega⟩, ⟨HB.out.setCell (by rw [show (ad.add xn).block = ad.block by unfold Addr.add; split <;> rfl, HAD.out]; exact Nat.le_refl _) _⟩, ⟨by rw [take_one F j HLT.out, HX.out]; exact (HSL.out (by rw [List.length_take]; have := HFL.out; omega)).1⟩⟩, by rw [wj.out]; simp only [intOf]; have := HLT.out; omega⟩
            · have q5 : decide (j < F.length) = false := decide_eq_false hlt
              rw [List.take_of_length_le (by omega)] at HR
              have heq := eq_nil17 108
              have HMX := Aside0.mk (mixes_calls (SlB.rdS HR.out) (by rw [lift_length, cnts_len]; omega))
              clear hlt HR Hj wj
              gi_wp2_with (refine ⟨trivial, ?_⟩; gi_at_call 56; go_loud (refine (callsIn_wide.2 HMX.out).mono ?_; rintro e w5 ⟨Bo, Bs, sv, rfl, mb, hb5⟩; have MB5 := Aside0.mk mb; have SM5 := Aside0.mk (SMj.out.grow hb5); clear mb hb5 cfj SMj HMX))
              clear heq q5
              obtain ⟨k0, hk0⟩ := small_at (tab_ap ps) HFL.out HNU.out
              have HK0 := Aside0.mk hk0
              have HSZ : Aside0 (b0 + 1 < w5.heap.size) := ⟨by have := SM5.out.sz; omega⟩
              clear hk0
              refine wpIn_rangeFunc_V2 77 12 rfl (by omega) (gf := 108) rfl trivial (enters_of Try.func108 (by kernel_rfl) rfl) (seq_mixes 2 (by omega) w5 MB5.out) (fun b hb => by rcases hb with z | z; exact z.elim; exact (MB5.out.lt b z).2) (Below.refl _ _) (fun b hb => rfl) (fun (k : Nat) (T : Nat → Prop) (W' : World) => (∀ b, T b → w5.heap.size ≤ b) ∧ Below w5.heap.size w5 W' ∧ k ≤ k0)
                (fun c k T W' => (∀ b, T b → w5.heap.size ≤ b) ∧ Boxed W' (b0 + 1) 4 (.bool true) ∧ Below b0 W W' ∧ w5.heap.size ≤ W'.heap.size ∧ c = .ret) (i17_abides w5 k0) (fun c => x17_abides W b0 w5.heap.size HSZ.out _) ⟨fun b hb => hb.elim, Below.refl _ _, by omega⟩ ?assign0 ?body0 ?done0 ?stop0
              case assign0 =>
                intro l7 v W5 K hK
                simp only [axOf, List.setIfInBounds_toArray, List.set_cons_succ, List.set_cons_zero] at hK ⊢
                gi_wp2
                exact hK
              case body0 =>
                rintro l7 k M T T1 v W5 hL ⟨hT, hB5, hk⟩ hTT hlt1 hv
                have SM7 := Aside0.mk (SM5.out.grow hB5)
                have HT := Aside0.mk (fun b (hb : T b) => hT b (hTT b hb))
                have HHB := Aside0.mk hB5
                obtain ⟨hMl, hMn⟩ := small_mem HFL.out HNU.out (List.mem_of_getElem? hL)
                have HHIT := Aside0.mk (small_hit HFL.out HNU.out HK0.out hL hk)
                have HVR := Aside0.mk (SlB.rdS hv)
                obtain ⟨Av, cv, rfl, hv1, hvC⟩ := HVR.out
                obtain ⟨Af, cf7, ef7, hf1, _, hfC⟩ := SM7.out.row.slB.C
                obtain ⟨rfl, _, rfl⟩ : Am = Af ∧ F.length = F.length ∧ cm = cf7 := by simpa using ef7
                obtain ⟨Ap, cp7, ep7, hpC⟩ := SM7.out.rp
                obtain ⟨rfl, _, rfl⟩ : A1 = Ap ∧ ps.length = ps.length ∧ c1 = cp7 := by simpa using ep7
                obtain ⟨Aa, ca7, ea7, ha1, haC⟩ := SM7.out.rd
                obtain ⟨rfl, _, rfl⟩ : A = Aa ∧ aL.length = aL.length ∧ c = ca7 := by simpa using ea7
                have HAL7 := Aside0.mk (alike_any Av cv M Am cm F A1 c1 ps W5 hvC hv1 hfC hf1 hpC (by have := HFL.out; omega) hMl HPS.out)
                have HSA := Aside0.mk (fun (w' : World) (hw : Below W5.heap.size W5 w') (he : M = aL) => PBase.larderlaw07_same.calls (M.length + 2) Av cv M A c aL true w' (Kd.C_below hvC hw) hv1 (Kd.C_below haC hw) ha1 (by rw [same_any M aL (by have := HFL.out; omega), decide_eq_true he]))
                have cf7 := SM7.out.bf.cell
                have cp7 := SM7.out.ba.cell
                have HML := Aside0.mk hMl
                clear hT hB5 hk hTT hlt1 hv hL hMl hMn hv1 hvC hf1 hfC hpC ha1 haC ef7 ep7 ea7
                simp only [axOf, List.setIfInBounds_toArray, List.set_cons_succ, List.set_cons_zero]
                clear hb0 ca cf q1 wi Hi HLV HC0 HL HR0 HR1
                have tok := True.intro
                gi_wp2_with (first
                  | (refine ⟨trivial, ?_⟩; gi_at_call 64; go_loud (refine (CallsIn.inRound l7 (callsIn_wide.2 HAL7.out)).mono ?_; rintro e w7 ⟨r, rfl, hr1, hr2, hb7⟩; have SM8 := Aside0.mk (SM7.out.grow hb7); have c77 := SM8.out.b7.cell; have HY := Aside0.mk (And.intro hr1 hr2); have HB7 := Aside0.mk hb7; clear hr1 hr2 hb7 cf7 cp7 HAL7; cases r))
                  | (refine ⟨trivial, ?_⟩; gi_at_call 24; go_loud (refine (CallsIn.inRound l7 (callsIn_wide.2 (HSA.out _ HB7.out (by rw [HAL.out]; exact HHIT.out.1 (HY.out.1 (by first | exact trivial | rfl)))))).mono ?_; rintro e w8 ⟨rfl, ⟨m8, rfl⟩⟩; have SM9 := Aside0.mk (SM8.out.grow (pw_below_drewN (Below.refl _ _) m8)); have f9 := SM9.out.br.frozen; have d9 := SM9.out.br.cell; have HB9 := Aside0.mk (pw_below_drewN HB7.out m8); clear c77 HSA)))
                · exact ⟨⟨HB7.out.size, fun b _ hl => HB7.out.block b hl⟩, HT.out, HHB.out.trans (HB7.out.mono HHB.out.size), HHIT.out.2 (HY.out.2 (by first | exact trivial | rfl))⟩
                · have hst : Below (b0 + 1) W5 ((w7.drewN m8).setCell ⟨b0 + 1, 0, none⟩ (.bool true)) := (show Below (b0 + 1) W5 (w7.drewN m8) from HB9.out.mono (by have := SM7.out.sz; omega)).setCell (Nat.le_refl _) _
                  have hbb : Below b0 W ((w7.drewN m8).setCell ⟨b0 + 1, 0, none⟩ (.bool true)) := SM9.out.below.setCell (by show b0 ≤ b0 + 1; omega) _
                  have hkk : KeepsT T W5 ((w7.drewN m8).setCell ⟨b0 + 1, 0, none⟩ (.bool true)) := ⟨hst.size, fun b hb hl => (Below.heap_setCell _ _ _ b (by have := HT.out b hb; have := HSZ.out; show b ≠ b0 + 1; omega)).trans (HB9.out.block b hl)⟩
                  exact ⟨hkk, HT.out, SM9.out.br.set _, hbb, Nat.le_trans HHB.out.size hst.size, rfl⟩
              case done0 =>
                rintro D5 T W5 hD5 ⟨_, _, hk⟩ hK hTD
                have := (List.getElem?_eq_some_iff.1 HK0.out).1
                omega
              case stop0 =>
                rintro D5 c5 k T W5 hD5 hk ⟨hT, hb4, hbl, hsz, rfl⟩ hK hTD
                have e1 := HSZ.out
                have hD := hT D5 hTD
                have hl5 := (Array.getElem?_eq_some_iff.1 hK).1
                have hbx : Boxed (W5.putObj D5 (.deferred none)) (b0 + 1) 4 (.bool true) := (World.putObj_heap_other (by omega)).trans hb4
                have hbw : Below b0 W (W5.putObj D5 (.deferred none)) := hbl.trans ⟨rfl, rfl, rfl, by simp, fun b hb => World.putObj_heap_other (by omega)⟩
                gi_wp2
                exact ⟨by simp, .inl ⟨_, _, rfl, run_takeDeferred hK, _, results_cell17 rfl _ _ (b0 + 1) (.bool true) rfl hbx, rfl, by rw [HB0.out]; exact hbw⟩⟩)
end Go.Proofs.Ytfcjfjmjcmanaaa.V
set_option linter.unusedVariables false
namespace Go.Proofs.Ytfcjfjmjcmanaaa.V
open Go Go.RowKit Go.Proofs.Ytfcjfjmjcmanaaa.X Go.Proofs.YtfcjfjmjcmanaaaW.PrintWords Go.Proofs.YtfcjfjmjcmanaaaW.PrintLast Go.Proofs.YtfcjfjmjcmanaaaW.PrintMore
open Go.Deep Go.ChangeShapes
/-- A slice of pairs of numbers that came in, as one list. -/
theorem open_hpairs3 {H : Type} {enc : TypeId × Value → H} {W : World} {base : Nat} {spare : Nat → Bool} {held : Bool} {a : Option Addr} {len cap : Nat} {d : DataW H} {ps : List MemPlace} {ts : List TypeId} {ds : List (DataW H)} {j : Nat}
    (hsz : (DataW.weightsEach Try.prog ts ds).all (· ≤ reachBytes) = true) (ht : ts[j]? = some 56) (hd : ds[j]? = some d) (h : DataW.Trod enc Try.prog W base spare held 56 (.slice a len cap) d ps) :
    ∃ l : List (Int × Int), l.length = len ∧ len ≤ cap ∧ Kd.C Kp W a l.length l ∧ len * 16 ≤ 140737488351232 := by
  obtain ⟨fuel, hf⟩ := h
  have hu56 := Try.underlying56
  have hu58 := Try.underlying58
  have hu3 := Try.underlying3
  rcases open_slice_pairs hu56 hu58 (by kernel_rfl) rfl rfl (by kernel_rfl) (by kernel_rfl) hf with ⟨hcs, _⟩ | ⟨x, l, c, m, n, V0, V1, D0, D1, P0, P1, hcs, _, hl, hm, hmm, hx, hc⟩
  · simp [Value.cells] at hcs
    obtain ⟨rfl, rfl, rfl⟩ := hcs
    exact ⟨[], rfl, Nat.le_refl _, ⟨rfl, by simp, fun h => absurd h (by simp)⟩, by simp⟩
  · simp [Value.cells] at hcs
    obtain ⟨rfl, rfl, rfl⟩ := hcs
    obtain ⟨hx, _⟩ := Prod.mk.inj hx
    have hlm : len ≤ m := by rw [hmm]; split <;> omega
    have each : ∀ i, i < len → ∃ p : Int × Int, W.cell? (x.add (i * 2)) = some (.int .i64 p.1) ∧ W.cell? (x.add (i * 2 + 1)) = some (.int .i64 p.2) := by
      intro i hi
      obtain ⟨c0, c1, t0, t1⟩ := hc i (by omega)
      obtain ⟨s0, e0, _, _⟩ := DataW.trod_int hu3 t0
      obtain ⟨s1, e1, _, _⟩ := DataW.trod_int hu3 t1
      simp at e0 e1
      rw [e0] at c0
      rw [e1] at c1
      exact ⟨⟨s0, s1⟩, c0, c1⟩
    obtain ⟨f, hf2⟩ := Deep.choose_lt (p := fun i (p : Int × Int) => W.cell? (x.add (i * 2)) = some (.int .i64 p.1) ∧ W.cell? (x.add (i * 2 + 1)) = some (.int .i64 p.2)) each
    have hw : len * 16 ≤ 140737488351232 := by
      subst hx
      have z := sized_slice hsz ht hd hu56
      have hB : Try.prog.bytesOf 58 = 16 := by kernel_rfl
      rw [hB] at z
      simp at z
      have : len * 16 ≤ (len + (m - len)) * 16 := Nat.mul_le_mul_right _ (by omega)
      exact Nat.le_trans this z
    refine ⟨(List.range len).map f, by simp, hl, ⟨by simp, by simp; unfold maxLen at hm; omega, fun _ => ⟨x, rfl, fun i p hp => ?_⟩⟩, hw⟩
    have hi : i < len := by
      rcases Nat.lt_or_ge i len with h | h
      · exact h
      · rw [List.getElem?_eq_none (by simpa using h)] at hp; cases hp
    rw [List.getElem?_map, List.getElem?_range hi] at hp
    obtain rfl : f i = p := by simpa using hp
    obtain ⟨c0, c1⟩ := hf2 i hi
    refine ⟨[.int .i64 (f i).1, .int .i64 (f i).2], rfl, ⟨[.int .i64 (f i).1], [.int .i64 (f i).2], rfl, rfl, rfl⟩, fun q u hu => ?_⟩
    match q, hu with
    | 0, hu => simp at hu; subst hu; exact c0
    | 1, hu => simp at hu; subst hu; exact c1
theorem schedSmall_walk (A0 : Option Addr) (c0 : Nat) (l : List Int) {W : World} (hr0 : Kd.C (Kd.int .i64) W A0 l.length l) (hc0 : l.length ≤ c0) (y0 : l.length * 8 ≤ 140737488351232) (zw : ∀ x ∈ l, (Lit.int .i64 x).wf = true)
    (A1 : Option Addr) (c1 : Nat) (ps : List (Int × Int)) (hr1 : Kd.C Kp W A1 ps.length ps) (hc1 : ps.length ≤ c1) (y1 : ps.length * 16 ≤ 140737488351232) :
    Calls Try.prog 17 #[.slice A0 l.length c0, .slice A1 ps.length c1] W fun e W' => e = .returned (.bool true) ∧ Below W.heap.size W W' :=
  callsIn_wide.1 (small_walk A0 c0 l A1 c1 ps hr0 hc0 hr1 (by omega) (by omega))
end Go.Proofs.Ytfcjfjmjcmanaaa.V
