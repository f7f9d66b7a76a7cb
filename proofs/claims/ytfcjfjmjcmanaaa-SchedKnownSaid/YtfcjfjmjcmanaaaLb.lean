/- Least: the document's apartOf, by hand. -/
import Derived.Test.YtfcjfjmjcmanaaaLa
set_option linter.unusedVariables false
namespace Go.Proofs.Ytfcjfjmjcmanaaa.X
open Go.RowKit Go.Proofs.YtfcjfjmjcmanaaaW.PrintWords Go.Proofs.YtfcjfjmjcmanaaaW.PrintLast Go.Proofs.YtfcjfjmjcmanaaaW.PrintMore
def PairsOk (l : List (Int × Int)) : Prop := ∀ p ∈ l, Hnum p.1 ∧ Hnum p.2
/-- One round of the table: in memory. -/
theorem tab_step_eq (l : List (Int × Int)) (i : Int) (h0 : 0 ≤ i) (h1 : i < (l.length : Int)) (x y : Int) (hp : pd l i = (x, y)) (he : x = y) : ∀ a b, tab (l.take (i + 1).toNat) a b = tab (l.take i.toNat) a b := by
  intro a b
  rw [show (i + 1).toNat = i.toNat + 1 by omega, pd_take l i h0 h1, tab_next, hp, he]
  simp
theorem tab_step_ne (l : List (Int × Int)) (i : Int) (h0 : 0 ≤ i) (h1 : i < (l.length : Int)) (x y : Int) (hp : pd l i = (x, y)) (he : x ≠ y) : ∀ a b, tab (l.take (i + 1).toNat) a b = ((a == y && b == x) || ((a == x && b == y) || tab (l.take i.toNat) a b)) := by
  intro a b
  rw [show (i + 1).toNat = i.toNat + 1 by omega, pd_take l i h0 h1, tab_next, hp]
  have : (x != y) = true := bne_iff_ne.2 he
  rw [this, Bool.true_and]
  cases tab (l.take i.toNat) a b <;> cases (a == x && b == y) <;> cases (a == y && b == x) <;> rfl
theorem setRow_below {B g : Nat} {w0 w : World} (hb : Below B w0 w) (hBg : B ≤ g) (cs : Array Value) : Below B w0 (w.setRow g cs) :=
  hb.trans ⟨rfl, rfl, rfl, by simp [World.setRow], fun k hk => by
    unfold World.setRow
    simp only [Array.getElem?_modify]
    rw [if_neg (by omega)]⟩
theorem load118 {W : World} {B : Nat} {cs : Array Value} (h : Row W B cs) (hn : cs.size = 256) : (Instr.loadAt 118 (.pointer (some ⟨B, 0, none⟩))).run Try.prog W = .ok (.agg cs) W := by
  simp only [Instr.loadAt, Instr.sureAddr, Sem.run_bind, Sem.run_pure, Result.andThen]
  exact run_loadVar_row _ _ 118 118 cs (0, 0) _ h Try.underlying118 rfl (by rw [hn]; kernel_rfl)
theorem store118 {W : World} {B : Nat} {cs cs' : Array Value} (h : Row W B cs) (hs : cs.size = cs'.size) (h1 : ∀ v ∈ cs'.toList, v.oneCell' = true) (hn : cs'.size = 256) : (Instr.storeAt 118 (.pointer (some ⟨B, 0, none⟩)) (.agg cs')).run Try.prog W = .ok () (W.setRow B cs') := by
  simp only [Instr.storeAt, Instr.sureAddr, Sem.run_bind, Sem.run_pure, Result.andThen]
  exact run_storeVar_row _ _ 118 118 cs cs' h (by rw [hn]; kernel_rfl) hs (by rw [Array.all_eq_true_iff_forall_mem]; intro v hv; exact h1 v (by simpa using hv))
theorem op_load118 {W : World} {B : Nat} {cs : Array Value} {o : Oper} {a : Act} {K : Act → World → Prop} {Q : Exit → Act → World → Prop} (x : Operand) (ho : o.op = .load 118 x) (hx : a.eval x = .pointer (some ⟨B, 0, none⟩)) (h : Row W B cs) (hn : cs.size = 256) (hk : K (a.put o.dst (.agg cs)) W) : o.wp Try.prog a W K Q := by
  unfold Oper.wp execOp
  rw [ho]
  simp only [hx, Sem.run_bind, load118 h hn, Result.andThen]
  exact hk
theorem op_store118 {W : World} {B : Nat} {cs cs' : Array Value} {o : Oper} {a : Act} {K : Act → World → Prop} {Q : Exit → Act → World → Prop} (x y : Operand) (ho : o.op = .store 118 x y) (hx : a.eval x = .pointer (some ⟨B, 0, none⟩)) (hy : a.eval y = .agg cs') (h : Row W B cs) (hs : cs.size = cs'.size) (h1 : ∀ v ∈ cs'.toList, v.oneCell' = true) (hn : cs'.size = 256) (hk : K (a.put o.dst undef) (W.setRow B cs')) : o.wp Try.prog a W K Q := by
  unfold Oper.wp execOp
  rw [ho]
  simp only [hx, hy, Sem.run_bind, store118 h hs h1 hn, Result.andThen]
  exact hk
theorem wrn {l : List (Int × Int)} (hl : l.length ≤ 1000) {i : Int} (h0 : 0 ≤ i) (h1 : i < (l.length : Int)) : wrap64 (i + 1) = i + 1 := hwrId (by omega) (by omega)
set_option maxRecDepth 100000 in
set_option maxHeartbeats 4000000 in
theorem apartOf_calls (A0 : Option Addr) (c0 : Nat) (l : List (Int × Int)) (w : World) (hr0 : Kd.C Kp w A0 l.length l) (hl : Aside0 (l.length ≤ 1000)) (hok : Aside0 (PairsOk l)) :
    Calls Try.prog 90 #[.slice A0 l.length c0] w fun e w' => e = .returned (.agg (cellsOf (tab l))) ∧ Below w.heap.size w w' := by
  have HR0 := Aside0.mk hr0
  clear hr0
  have hT0 := Tab.new (w.alloc (.cells Try.zeroCells118 118))
  have hU0 := (Row.new w Try.zeroCells118).below (W' := (w.alloc (.cells Try.zeroCells118 118)).alloc (.cells Try.zeroCells118 118)) (n := w.heap.size + 1) (Nat.lt_succ_self _) ((Below.refl _ _).alloc (by simp) _)
  rw [World.size_alloc] at hT0
  have HT0 := Aside0.mk hT0
  have HU0 := Aside0.mk hU0
  clear hT0 hU0
  go_enter Try.func90, Try.ntmps90
  go_wp2
  go_loopw [4] (fun p wr => ∃ i : Int, p = .int .i64 i ∧ Aside0 (0 ≤ i ∧ i ≤ (l.length : Int)) ∧ Aside0 (Tab wr (w.heap.size + 1) (tab (l.take i.toNat))) ∧ Aside0 (Row wr w.heap.size Try.zeroCells118) ∧ Aside0 (Below w.heap.size w wr)) (fun p _ => ((l.length : Int) - intOf p).toNat)
  case atStart => exact ⟨0, rfl, ⟨by omega⟩, ⟨HT0.out.congr fun x y _ _ => by simp [tab]⟩, HU0, ⟨((Below.refl _ _).alloc (Nat.le_refl _) _).alloc (by simp) _⟩⟩
  case round =>
    clear HT0 HU0
    obtain ⟨i, rfl, Hi, HT, HU, HB⟩ := hrel
    by_cases hlt : i < (l.length : Int)
    · have p0 : 0 ≤ i := Hi.out.1
      obtain ⟨ad, rfl, hpa⟩ := at_pair HR0.out i p0 hlt
      have hblk := hpa.lt
      have hok' := hok.out _ (pd_mem l i p0 hlt)
      have hw1 := wrn hl.out p0 hlt
      have hltb : decide (i < (l.length : Int)) = true := decide_eq_true hlt
      have HI := Aside0.mk (show 0 ≤ i ∧ i < (l.length : Int) from ⟨p0, hlt⟩)
      replace p0 := eq_true p0
      replace hlt := eq_true hlt
      obtain ⟨⟨x, y⟩, hx⟩ : ∃ x, pd l i = x := ⟨_, rfl⟩
      rw [hx] at hpa hok'
      have HX := Aside0.mk hx
      clear hx
      have hpw := hpa.below hblk HB.out
      have HPA := Aside0.mk hpa
      obtain ⟨hc1, hc3⟩ := hpw
      have hc2 : wr.cell? (ad.add (i.toNat * 2 + 1)) = some (.int .i64 y) := by rw [add_next]; exact hc3
      have HBLK := Aside0.mk hblk
      clear hpa hblk
      by_cases hn : x = y
      · have hnb : (x != y) = false := bne_eq_false_iff_eq.2 hn
        have HN := Aside0.mk hn
        clear hn hok'
        go_wp2
        go_region
        go_wp2
        exact ⟨⟨wrap64 (i + 1), rfl, ⟨by rw [hw1]; have := HI.out; omega⟩, ⟨by rw [hw1]; exact HT.out.congr fun a b _ _ => (tab_step_eq l i HI.out.1 HI.out.2 x y HX.out HN.out a b).symm⟩, HU, ⟨below_drew1 HB.out⟩⟩, by rw [hw1]; simp only [intOf]; have := HI.out; omega⟩
      · have hnb : (x != y) = true := bne_iff_ne.2 hn
        have HN := Aside0.mk hn
        obtain ⟨nx, ny⟩ := hok'
        have HNx := Aside0.mk nx
        have HNy := Aside0.mk ny
        have px0 : 0 ≤ x := nx.1
        have px1 : x < 16 := nx.2
        have py0 : 0 ≤ y := ny.1
        have py1 : y < 16 := ny.2
        obtain ⟨hcell, hfro⟩ := HT.out.cell nx ny
        clear hn nx ny
        go_wp2
        go_region
        go_wp2
        go_region
        have HT1 := Aside0.mk (HT.out.set HNx.out HNy.out)
        have HU1 := Aside0.mk (HU.out.far ⟨w.heap.size + 1, x.toNat * 16 + y.toNat, none⟩ (.bool true) (Nat.ne_of_lt (Nat.lt_succ_self _)))
        have HB1 := Aside0.mk (HB.out.setCell (p := ⟨w.heap.size + 1, x.toNat * 16 + y.toNat, none⟩) (Nat.le_succ _) (.bool true))
        clear hcell hfro hc1 hc2 hc3 HT HU HB
        generalize hwr1 : wr.setCell ⟨w.heap.size + 1, x.toNat * 16 + y.toNat, none⟩ (.bool true) = wr1 at HT1 HU1 HB1 ⊢
        clear hwr1
        obtain ⟨hc1, hc3⟩ := HPA.out.below HBLK.out HB1.out
        obtain ⟨hcell, hfro⟩ := HT1.out.cell HNy.out HNx.out
        go_wp2
        go_region
        go_wp2
        exact ⟨⟨wrap64 (i + 1), rfl, ⟨by rw [hw1]; have := HI.out; omega⟩, ⟨by rw [hw1]; exact (HT1.out.set HNy.out HNx.out).congr fun a b _ _ => (tab_step_ne l i HI.out.1 HI.out.2 x y HX.out HN.out a b).symm⟩,
          ⟨HU1.out.far ⟨w.heap.size + 1, y.toNat * 16 + x.toNat, none⟩ (.bool true) (Nat.ne_of_lt (Nat.lt_succ_self _))⟩,
          ⟨below_drew1 (below_drew1 (below_drew1 (HB1.out.setCell (p := ⟨w.heap.size + 1, y.toNat * 16 + x.toNat, none⟩) (Nat.le_succ _) (.bool true))))⟩⟩, by rw [hw1]; simp only [intOf]; have := HI.out; omega⟩
    · have hltb : decide (i < (l.length : Int)) = false := decide_eq_false hlt
      have HTl : Aside0 (Tab wr (w.heap.size + 1) (tab l)) := ⟨by have := HT.out; rwa [List.take_of_length_le (by have := Hi.out; omega)] at this⟩
      have HW : Aside0 (Row (wr.setRow w.heap.size (cellsOf (tab l))) w.heap.size (cellsOf (tab l))) := ⟨setRow_heap wr w.heap.size _ _ 118 (0, 0) HU.out⟩
      have HBW := Aside0.mk (setRow_below HB.out (Nat.le_refl _) (cellsOf (tab l)))
      have HHl := Aside0.mk hltb
      clear hlt
      go_wp2
      refine op_load118 (.tmp 3) rfl rfl HTl.out.is (cellsOf_size _) ?_
      go_wp2
      have hst := row_store HU.out (cs' := cellsOf (tab l)) (by rw [cellsOf_size (tab l), zero118]; simp) (cellsOf_one (tab l))
      simp only [hst, Result.andThen]
      rw [Oper.upon_skip]
      clear hst
      go_wp2
      (try simp only [Exit.inBlock, Exit.then])
      refine bodyPost_ret (v := .agg (cellsOf (tab l))) ?_ rfl ⟨rfl, HBW.out⟩
      exact results_cell_row rfl _ _ w.heap.size 118 (cellsOf (tab l)) (0, 0) _ rfl HW.out Try.underlying118 rfl (by rw [cellsOf_size]; kernel_rfl)
end Go.Proofs.Ytfcjfjmjcmanaaa.X
