/- Least: by hand: rows of pairs, a table of sixteen by sixteen in memory. Least: the document's apartOf, by hand. Least: what it answers, in plain words. -/
import Derived.Test.YtfcjfjmjcmanaaaLzq
import Derived.RegionTactic
import Derived.BigRegion
import Derived.ChangeAlike
import Derived.Deep.WholeRow
import Derived.Laws.IdiomCopy
set_option linter.unusedVariables false
namespace Go.Proofs.Ytfcjfjmjcmanaaa.X
open Go.RowKit Go.Proofs.YtfcjfjmjcmanaaaW.PrintWords Go.Proofs.YtfcjfjmjcmanaaaW.PrintLast Go.Proofs.YtfcjfjmjcmanaaaW.PrintMore
abbrev Kp := Kd.pair (Kd.int .i64) (Kd.int .i64)
def pd (l : List (Int × Int)) (i : Int) : Int × Int := l.getD i.toNat (0, 0)
theorem pd_mem (l : List (Int × Int)) (i : Int) (h0 : 0 ≤ i) (h1 : i < (l.length : Int)) : pd l i ∈ l := by
  have hi : i.toNat < l.length := by omega
  unfold pd
  rw [List.getD_eq_getElem?_getD, List.getElem?_eq_getElem hi]
  exact List.getElem_mem hi
theorem pd_take (l : List (Int × Int)) (i : Int) (h0 : 0 ≤ i) (h1 : i < (l.length : Int)) : l.take (i.toNat + 1) = l.take i.toNat ++ [pd l i] := by
  have hi2 : i.toNat < l.length := by omega
  rw [List.take_add_one]; unfold pd
  rw [List.getD_eq_getElem?_getD, List.getElem?_eq_getElem hi2]; rfl
theorem add_next (ad : Addr) (k : Nat) : ad.add (k + 1) = ⟨(ad.add k).block, (ad.add k).off + 1, none⟩ := by
  unfold Addr.add
  rw [if_neg (by omega)]
  by_cases h : k = 0
  · subst h; rfl
  · rw [if_neg h]; simp only [Addr.mk.injEq]; refine ⟨?_, ?_, ?_⟩ <;> first | trivial | omega
/-- A pair of numbers at an address, in the words of a walk. -/
def PairAt (W : World) (a : Addr) (p : Int × Int) : Prop := W.cell? a = some (.int .i64 p.1) ∧ W.cell? ⟨a.block, a.off + 1, none⟩ = some (.int .i64 p.2)
theorem at_pair {W : World} {A : Option Addr} {n : Nat} {l : List (Int × Int)} (h : Kd.C Kp W A n l) (i : Int) (h0 : 0 ≤ i) (h1 : i < n) : ∃ ad, A = some ad ∧ PairAt W (ad.add (i.toNat * 2)) (pd l i) := by
  obtain ⟨g1, g2, g3⟩ := h
  obtain ⟨ad, rfl, hc⟩ := g3 (by omega)
  have hi : i.toNat < l.length := by omega
  obtain ⟨cs, hl, hk, hu⟩ := hc i.toNat l[i.toNat] (List.getElem?_eq_getElem hi)
  obtain ⟨a0, a1, rfl, e0, e1⟩ := hk
  have hp : pd l i = l[i.toNat] := by unfold pd; rw [List.getD_eq_getElem?_getD, List.getElem?_eq_getElem hi]; rfl
  obtain rfl : a0 = [.int .i64 l[i.toNat].1] := e0
  obtain rfl : a1 = [.int .i64 l[i.toNat].2] := e1
  rw [hp]
  exact ⟨ad, rfl, hu 0 _ rfl, by rw [← add_next]; exact hu 1 _ rfl⟩
theorem PairAt.next {W : World} {ad : Addr} {k : Nat} {p : Int × Int} (h : PairAt W (ad.add k) p) : W.cell? (ad.add (k + 1)) = some (.int .i64 p.2) := by rw [add_next]; exact h.2
theorem PairAt.lt {W : World} {a : Addr} {p : Int × Int} (h : PairAt W a p) : a.block < W.heap.size := by
  have h1 := h.1
  unfold World.cell? at h1
  cases hh : W.heap[a.block]? with
  | none => rw [hh] at h1; cases h1
  | some o => exact (Array.getElem?_eq_some_iff.1 hh).1
theorem PairAt.below {W W' : World} {a : Addr} {p : Int × Int} {n : Nat} (h : PairAt W a p) (hn : a.block < n) (hb : Below n W W') : PairAt W' a p :=
  ⟨(hb.cell (p := a) hn).trans h.1, (hb.cell (p := ⟨a.block, a.off + 1, none⟩) hn).trans h.2⟩
/-! the table -/
def Row (W : World) (B : Nat) (cs : Array Value) : Prop := W.heap[B]? = some (.cells cs 118 (0, 0))
def Tab (W : World) (B : Nat) (f : Int → Int → Bool) : Prop := ∃ cs, Row W B cs ∧ cs.size = 256 ∧ ∀ x y, Hnum x → Hnum y → cs[x.toNat * 16 + y.toNat]? = some (.bool (f x y))
theorem Row.new (W : World) (cs : Array Value)   : Row (W.alloc (.cells cs 118)) W.heap.size cs := heap_alloc_last W _
theorem Row.far {W : World} {B : Nat} {cs : Array Value} (h : Row W B cs) (a : Addr) (v : Value) (ha : B ≠ a.block) : Row (W.setCell a v) B cs := (Below.heap_setCell W a v B ha).trans h
theorem Row.below {W W' : World} {B n : Nat} {cs : Array Value} (h : Row W B cs) (hn : B < n) (hb : Below n W W') : Row W' B cs := (hb.block B hn).trans h
theorem Row.lt {W : World} {B : Nat} {cs : Array Value} (h : Row W B cs) : B < W.heap.size := (Array.getElem?_eq_some_iff.1 h).1
theorem Row.cell {W : World} {B : Nat} {cs : Array Value} (h : Row W B cs) (j : Nat) : W.cell? ⟨B, j, none⟩ = cs[j]? := cell_of_row W B j cs 118 (0, 0) h
theorem Row.frozen {W : World} {B : Nat} {cs : Array Value} (h : Row W B cs) (a : Addr) (ha : a.block = B) : W.frozen? a = false := by
  subst ha
  unfold World.frozen?
  have h' : W.heap[a.block]? = some (.cells cs 118 (0, 0)) := h
  rw [h']; simp
theorem zero118 : Try.zeroCells118 = Array.replicate 256 (.bool false) := by kernel_rfl
theorem Tab.new (W : World) : Tab (W.alloc (.cells Try.zeroCells118 118)) W.heap.size (fun _ _ => false) := by
  refine ⟨_, Row.new W _, by rw [zero118]; simp, fun x y hx hy => ?_⟩
  unfold Hnum at hx hy
  rw [zero118, Array.getElem?_replicate, if_pos (by omega)]
theorem Tab.cell {W : World} {B : Nat} {f : Int → Int → Bool} (h : Tab W B f) {x y : Int} (hx : Hnum x) (hy : Hnum y) : W.cell? ⟨B, x.toNat * 16 + y.toNat, none⟩ = some (.bool (f x y)) ∧ W.frozen? ⟨B, x.toNat * 16 + y.toNat, none⟩ = false := by
  obtain ⟨cs, hr, hs, hc⟩ := h
  exact ⟨(hr.cell _).trans (hc x y hx hy), hr.frozen _ rfl⟩
theorem Tab.far {W : World} {B : Nat} {f : Int → Int → Bool} (h : Tab W B f) (a : Addr) (v : Value) (ha : B ≠ a.block) : Tab (W.setCell a v) B f := by
  obtain ⟨cs, hr, hs, hc⟩ := h
  exact ⟨cs, hr.far a v ha, hs, hc⟩
theorem Tab.below {W W' : World} {B n : Nat} {f : Int → Int → Bool} (h : Tab W B f) (hn : B < n) (hb : Below n W W') : Tab W' B f := by
  obtain ⟨cs, hr, hs, hc⟩ := h
  exact ⟨cs, hr.below hn hb, hs, hc⟩
theorem Tab.congr {W : World} {B : Nat} {f g : Int → Int → Bool} (h : Tab W B f) (e : ∀ x y, Hnum x → Hnum y → f x y = g x y) : Tab W B g := by
  obtain ⟨cs, hr, hs, hc⟩ := h
  exact ⟨cs, hr, hs, fun x y hx hy => by rw [← e x y hx hy]; exact hc x y hx hy⟩
theorem Tab.set {W : World} {B : Nat} {f : Int → Int → Bool} (h : Tab W B f) {x y : Int} (hx : Hnum x) (hy : Hnum y) : Tab (W.setCell ⟨B, x.toNat * 16 + y.toNat, none⟩ (.bool true)) B (fun a b => (a == x && b == y) || f a b) := by
  obtain ⟨cs, hr, hs, hc⟩ := h
  refine ⟨cs.setIfInBounds (x.toNat * 16 + y.toNat) (.bool true), ?_, by simp [hs], fun a b ha hb => ?_⟩
  · have hl := hr.lt
    have hr' : W.heap[B] = .cells cs 118 (0, 0) := (Array.getElem?_eq_some_iff.1 hr).2
    unfold Row World.setCell
    rw [Array.getElem?_eq_getElem (by simp; exact hl), Array.getElem_modify, if_pos rfl, hr']
    rfl
  · unfold Hnum at hx hy ha hb
    rw [Array.getElem?_setIfInBounds]
    by_cases e : a = x ∧ b = y
    · obtain ⟨rfl, rfl⟩ := e
      rw [if_pos rfl, if_pos (by omega)]; simp
    · rw [if_neg (by omega), hc a b ha hb]
      have : (a == x && b == y) = false := by
        rw [Bool.and_eq_false_iff]
        by_cases e1 : a = x
        · right; simpa using fun z => e ⟨e1, z⟩
        · left; simpa using e1
      show _ = some (Value.bool ((a == x && b == y) || f a b))
      rw [this, Bool.false_or]
/-- What two handlers are apart. -/
def tab (l : List (Int × Int)) (x y : Int) : Bool := l.any fun p => p.1 != p.2 && (x == p.1 && y == p.2 || x == p.2 && y == p.1)
theorem tab_next (l : List (Int × Int)) (p : Int × Int) (x y : Int) : tab (l ++ [p]) x y = (tab l x y || (p.1 != p.2 && (x == p.1 && y == p.2 || x == p.2 && y == p.1))) := by simp [tab]
def cellsOf (f : Int → Int → Bool) : Array Value := ((List.range 256).map fun j => Value.bool (f ((j / 16 : Nat) : Int) ((j % 16 : Nat) : Int))).toArray
theorem cellsOf_size (f : Int → Int → Bool) : (cellsOf f).size = 256 := by simp [cellsOf]
theorem cellsOf_get (f : Int → Int → Bool) (x y : Int) (hx : Hnum x) (hy : Hnum y) : (cellsOf f)[x.toNat * 16 + y.toNat]? = some (.bool (f x y)) := by
  unfold Hnum at hx hy
  unfold cellsOf
  rw [List.getElem?_toArray, List.getElem?_map, List.getElem?_range (by omega)]
  simp only [Option.map_some]
  rw [show (((x.toNat * 16 + y.toNat) / 16 : Nat) : Int) = x by omega, show (((x.toNat * 16 + y.toNat) % 16 : Nat) : Int) = y by omega]
theorem cellsOf_one (f : Int → Int → Bool) : ∀ v ∈ (cellsOf f).toList, v.oneCell' = true := by
  intro v hv
  simp only [cellsOf, List.mem_map] at hv
  obtain ⟨j, _, rfl⟩ := hv
  rfl
theorem Tab.is {W : World} {B : Nat} {f : Int → Int → Bool} (h : Tab W B f) : Row W B (cellsOf f) := by
  obtain ⟨cs, hr, hs, hc⟩ := h
  have : cs = cellsOf f := by
    apply Array.ext
    · rw [hs, cellsOf_size]
    · intro j h1 h2
      have hn1 : Hnum ((j / 16 : Nat) : Int) := by unfold Hnum; omega
      have hn2 : Hnum ((j % 16 : Nat) : Int) := by unfold Hnum; omega
      have e1 := hc _ _ hn1 hn2
      have e2 := cellsOf_get f _ _ hn1 hn2
      rw [show ((j / 16 : Nat) : Int).toNat * 16 + ((j % 16 : Nat) : Int).toNat = j by omega] at e1 e2
      rw [Array.getElem?_eq_getElem h1] at e1
      rw [Array.getElem?_eq_getElem h2] at e2
      rw [← e2] at e1
      exact Option.some.inj e1
  rw [← this]; exact hr
theorem Tab.of {W : World} {B : Nat} (f : Int → Int → Bool) (h : Row W B (cellsOf f)) : Tab W B f := ⟨_, h, cellsOf_size f, cellsOf_get f⟩
theorem row_load {W : World} {B : Nat} {cs : Array Value} (h : Row W B cs) (n : Nat) (hn : cs.size = n) : (loadCellsFrom ⟨B, 0, none⟩ 0 n #[]).run Try.prog W = .ok cs W := by
  subst hn
  have := run_loadCells_list (P := Try.prog) W ⟨B, 0, none⟩ cs.toList (fun j v hv => by
    have hadd : (⟨B, 0, none⟩ : Addr).add j = ⟨B, j, none⟩ := by unfold Addr.add; split <;> simp_all
    rw [hadd, h.cell]
    simpa using hv)
  simpa [loadCells] using this
theorem row_store {W : World} {B : Nat} {cs cs' : Array Value} (h : Row W B cs) (hs : cs.size = cs'.size) (h1 : ∀ v ∈ cs'.toList, v.oneCell' = true) : (storeCells ⟨B, 0, none⟩ cs'.toList 0).run Try.prog W = .ok () (W.setRow B cs') := by
  have := run_storeCells_from (P := Try.prog) B 118 cs'.toList 0 cs W h (by simp [hs]) h1
  simpa using this
end Go.Proofs.Ytfcjfjmjcmanaaa.X
set_option linter.unusedVariables false
namespace Go.Proofs.Ytfcjfjmjcmanaaa.X
open Go.RowKit Go.Proofs.YtfcjfjmjcmanaaaW.PrintWords Go.Proofs.YtfcjfjmjcmanaaaW.PrintLast Go.Proofs.YtfcjfjmjcmanaaaW.PrintMore
def PairsOk (l : List (Int × Int)) : Prop := ∀ p ∈ l, Hnum p.1 ∧ Hnum p.2
/-- One round of the table: in memory. -/
theorem tab_step_eq (l : List (Int × Int)) (i : Int) (h0 : 0 ≤ i) (h1 : i < (l.length : Int)) (x y : Int) (hp : pd l i = (x, y)) (he : x = y) : ∀ a b, tab (l.take (i + 1).toNat) a b = tab (l.take i.toNat) a b := by
  intro a b
  rw [show (i + 1).toNat = i.toNat + 1 by omega, pd_take l i h0 h1, tab_next, hp, he]
  simp
theorem tab_step_ne (l : List (Int × Int)) (i : Int) (h0 : 0 ≤ i) (h1 : i < (l.length : Int)) (x y : Int) (hp : pd l i = (x, y)) (he : x ≠ y) : ∀ a b, tab (l.take (i + 1).toNat) a b = ((a == y && b == x) || ((a == x && b == y) || tab (l.take i.toNat) a b)) := by
  intro a b
  rw [show (i + 1).toNat = i.toNat + 1 by omega, pd_take l i h0 h1, tab_next, hp]
  have : (x != y) = true := bne_iff_ne.2 he
  rw [this, Bool.true_and]
  cases tab (l.take i.toNat) a b <;> cases (a == x && b == y) <;> cases (a == y && b == x) <;> rfl
theorem setRow_below {B g : Nat} {w0 w : World} (hb : Below B w0 w) (hBg : B ≤ g) (cs : Array Value) : Below B w0 (w.setRow g cs) :=
  hb.trans ⟨rfl, rfl, rfl, by simp [World.setRow], fun k hk => by
    unfold World.setRow
    simp only [Array.getElem?_modify]
    rw [if_neg (by omega)]⟩
theorem load118 {W : World} {B : Nat} {cs : Array Value} (h : Row W B cs) (hn : cs.size = 256) : (Instr.loadAt 118 (.pointer (some ⟨B, 0, none⟩))).run Try.prog W = .ok (.agg cs) W := by
  simp only [Instr.loadAt, Instr.sureAddr, Sem.run_bind, Sem.run_pure, Result.andThen]
  exact run_loadVar_row _ _ 118 118 cs (0, 0) _ h Try.underlying118 rfl (by rw [hn]; kernel_rfl)
theorem store118 {W : World} {B : Nat} {cs cs' : Array Value} (h : Row W B cs) (hs : cs.size = cs'.size) (h1 : ∀ v ∈ cs'.toList, v.oneCell' = true) (hn : cs'.size = 256) : (Instr.storeAt 118 (.pointer (some ⟨B, 0, none⟩)) (.agg cs')).run Try.prog W = .ok () (W.setRow B cs') := by
  simp only [Instr.storeAt, Instr.sureAddr, Sem.run_bind, Sem.run_pure, Result.andThen]
  exact run_storeVar_row _ _ 118 118 cs cs' h (by rw [hn]; kernel_rfl) hs (by rw [Array.all_eq_true_iff_forall_mem]; intro v hv; exact h1 v (by simpa using hv))
theorem op_load118 {W : World} {B : Nat} {cs : Array Value} {o : Oper} {a : Act} {K : Act → World → Prop} {Q : Exit → Act → World → Prop} (x : Operand) (ho : o.op = .load 118 x) (hx : a.eval x = .pointer (some ⟨B, 0, none⟩)) (h : Row W B cs) (hn : cs.size = 256) (hk : K (a.put o.dst (.agg cs)) W) : o.wp Try.prog a W K Q := by
  unfold Oper.wp execOp
  rw [ho]
  simp only [hx, Sem.run_bind, load118 h hn, Result.andThen]
  exact hk
theorem op_store118 {W : World} {B : Nat} {cs cs' : Array Value} {o : Oper} {a : Act} {K : Act → World → Prop} {Q : Exit → Act → World → Prop} (x y : Operand) (ho : o.op = .store 118 x y) (hx : a.eval x = .pointer (some ⟨B, 0, none⟩)) (hy : a.eval y = .agg cs') (h : Row W B cs) (hs : cs.size = cs'.size) (h1 : ∀ v ∈ cs'.toList, v.oneCell' = true) (hn : cs'.size = 256) (hk : K (a.put o.dst undef) (W.setRow B cs')) : o.wp Try.prog a W K Q := by
  unfold Oper.wp execOp
  rw [ho]
  simp only [hx, hy, Sem.run_bind, store118 h hs h1 hn, Result.andThen]
  exact hk
theorem wrn {l : List (Int × Int)} (hl : l.length ≤ 1000) {i : Int} (h0 : 0 ≤ i) (h1 : i < (l.length : Int)) : wrap64 (i + 1) = i + 1 := hwrId (by omega) (by omega)
set_option maxRecDepth 100000 in
set_option maxHeartbeats 4000000 in
theorem apartOf_calls (A0 : Option Addr) (c0 : Nat) (l : List (Int × Int)) (w : World) (hr0 : Kd.C Kp w A0 l.length l) (hl : Aside0 (l.length ≤ 1000)) (hok : Aside0 (PairsOk l)) :
    Calls Try.prog 90 #[.slice A0 l.length c0] w fun e w' => e = .returned (.agg (cellsOf (tab l))) ∧ Below w.heap.size w w' := by
  have HR0 := Aside0.mk hr0
  clear hr0
  have hT0 := Tab.new (w.alloc (.cells Try.zeroCells118 118))
  have hU0 := (Row.new w Try.zeroCells118).below (W' := (w.alloc (.cells Try.zeroCells118 118)).alloc (.cells Try.zeroCells118 118)) (n := w.heap.size + 1) (Nat.lt_succ_self _) ((Below.refl _ _).alloc (by simp) _)
  rw [World.size_alloc] at hT0
  have HT0 := Aside0.mk hT0
  have HU0 := Aside0.mk hU0
  clear hT0 hU0
  go_enter Try.func90, Try.ntmps90
  go_wp2
  go_loopw [4] (fun p wr => ∃ i : Int, p = .int .i64 i ∧ Aside0 (0 ≤ i ∧ i ≤ (l.length : Int)) ∧ Aside0 (Tab wr (w.heap.size + 1) (tab (l.take i.toNat))) ∧ Aside0 (Row wr w.heap.size Try.zeroCells118) ∧ Aside0 (Below w.heap.size w wr)) (fun p _ => ((l.length : Int) - intOf p).toNat)
  case atStart => exact ⟨0, rfl, ⟨by omega⟩, ⟨HT0.out.congr fun x y _ _ => by simp [tab]⟩, HU0, ⟨((Below.refl _ _).alloc (Nat.le_refl _) _).alloc (by simp) _⟩⟩
  case round =>
    clear HT0 HU0
    obtain ⟨i, rfl, Hi, HT, HU, HB⟩ := hrel
    by_cases hlt : i < (l.length : Int)
    · have p0 : 0 ≤ i := Hi.out.1
      obtain ⟨ad, rfl, hpa⟩ := at_pair HR0.out i p0 hlt
      have hblk := hpa.lt
      have hok' := hok.out _ (pd_mem l i p0 hlt)
      have hw1 := wrn hl.out p0 hlt
      have hltb : decide (i < (l.length : Int)) = true := decide_eq_true hlt
      have HI := Aside0.mk (show 0 ≤ i ∧ i < (l.length : Int) from ⟨p0, hlt⟩)
      replace p0 := eq_true p0
      replace hlt := eq_true hlt
      obtain ⟨⟨x, y⟩, hx⟩ : ∃ x, pd l i = x := ⟨_, rfl⟩
      rw [hx] at hpa hok'
      have HX := Aside0.mk hx
      clear hx
      have hpw := hpa.below hblk HB.out
      have HPA := Aside0.mk hpa
      obtain ⟨hc1, hc3⟩ := hpw
      have hc2 : wr.cell? (ad.add (i.toNat * 2 + 1)) = some (.int .i64 y) := by rw [add_next]; exact hc3
      have HBLK := Aside0.mk hblk
      clear hpa hblk
      by_cases hn : x = y
      · have hnb : (x != y) = false := bne_eq_false_iff_eq.2 hn
        have HN := Aside0.mk hn
        clear hn hok'
        go_wp2
        go_region
        go_wp2
        exact ⟨⟨wrap64 (i + 1), rfl, ⟨by rw [hw1]; have := HI.out; omega⟩, ⟨by rw [hw1]; exact HT.out.congr fun a b _ _ => (tab_step_eq l i HI.out.1 HI.out.2 x y HX.out HN.out a b).symm⟩, HU, ⟨below_drew1 HB.out⟩⟩, by rw [hw1]; simp only [intOf]; have := HI.out; omega⟩
      · have hnb : (x != y) = true := bne_iff_ne.2 hn
        have HN := Aside0.mk hn
        obtain ⟨nx, ny⟩ := hok'
        have HNx := Aside0.mk nx
        have HNy := Aside0.mk ny
        have px0 : 0 ≤ x := nx.1
        have px1 : x < 16 := nx.2
        have py0 : 0 ≤ y := ny.1
        have py1 : y < 16 := ny.2
        obtain ⟨hcell, hfro⟩ := HT.out.cell nx ny
        clear hn nx ny
        go_wp2
        go_region
        go_wp2
        go_region
        have HT1 := Aside0.mk (HT.out.set HNx.out HNy.out)
        have HU1 := Aside0.mk (HU.out.far ⟨w.heap.size + 1, x.toNat * 16 + y.toNat, none⟩ (.bool true) (Nat.ne_of_lt (Nat.lt_succ_self _)))
        have HB1 := Aside0.mk (HB.out.setCell (p := ⟨w.heap.size + 1, x.toNat * 16 + y.toNat, none⟩) (Nat.le_succ _) (.bool true))
        clear hcell hfro hc1 hc2 hc3 HT HU HB
        generalize hwr1 : wr.setCell ⟨w.heap.size + 1, x.toNat * 16 + y.toNat, none⟩ (.bool true) = wr1 at HT1 HU1 HB1 ⊢
        clear hwr1
        obtain ⟨hc1, hc3⟩ := HPA.out.below HBLK.out HB1.out
        obtain ⟨hcell, hfro⟩ := HT1.out.cell HNy.out HNx.out
        go_wp2
        go_region
        go_wp2
        exact ⟨⟨wrap64 (i + 1), rfl, ⟨by rw [hw1]; have := HI.out; omega⟩, ⟨by rw [hw1]; exact (HT1.out.set HNy.out HNx.out).congr fun a b _ _ => (tab_step_ne l i HI.out.1 HI.out.2 x y HX.out HN.out a b).symm⟩,
          ⟨HU1.out.far ⟨w.heap.size + 1, y.toNat * 16 + x.toNat, none⟩ (.bool true) (Nat.ne_of_lt (Nat.lt_succ_self _))⟩,
          ⟨below_drew1 (below_drew1 (below_drew1 (HB1.out.setCell (p := ⟨w.heap.size + 1, y.toNat * 16 + x.toNat, none⟩) (Nat.le_succ _) (.bool true))))⟩⟩, by rw [hw1]; simp only [intOf]; have := HI.out; omega⟩
    · have hltb : decide (i < (l.length : Int)) = false := decide_eq_false hlt
      have HTl : Aside0 (Tab wr (w.heap.size + 1) (tab l)) := ⟨by have := HT.out; rwa [List.take_of_length_le (by have := Hi.out; omega)] at this⟩
      have HW : Aside0 (Row (wr.setRow w.heap.size (cellsOf (tab l))) w.heap.size (cellsOf (tab l))) := ⟨setRow_heap wr w.heap.size _ _ 118 (0, 0) HU.out⟩
      have HBW := Aside0.mk (setRow_below HB.out (Nat.le_refl _) (cellsOf (tab l)))
      have HHl := Aside0.mk hltb
      clear hlt
      go_wp2
      refine op_load118 (.tmp 3) rfl rfl HTl.out.is (cellsOf_size _) ?_
      go_wp2
      have hst := row_store HU.out (cs' := cellsOf (tab l)) (by rw [cellsOf_size (tab l), zero118]; simp) (cellsOf_one (tab l))
      simp only [hst, Result.andThen]
      rw [Oper.upon_skip]
      clear hst
      go_wp2
      (try simp only [Exit.inBlock, Exit.then])
      refine bodyPost_ret (v := .agg (cellsOf (tab l))) ?_ rfl ⟨rfl, HBW.out⟩
      exact results_cell_row rfl _ _ w.heap.size 118 (cellsOf (tab l)) (0, 0) _ rfl HW.out Try.underlying118 rfl (by rw [cellsOf_size]; kernel_rfl)
end Go.Proofs.Ytfcjfjmjcmanaaa.X
set_option linter.unusedVariables false
namespace Go.Proofs.Ytfcjfjmjcmanaaa.X
open Go.RowKit Go.Proofs.YtfcjfjmjcmanaaaW.PrintWords Go.Proofs.YtfcjfjmjcmanaaaW.PrintLast Go.Proofs.YtfcjfjmjcmanaaaW.PrintMore
/-- May the pick at i come to the front? -/
def front (t : Int → Int → Bool) (L : List Int) (i : Nat) : Bool := (L.take i).all fun h => t h (rd L i)
/-- The best of the first i, as the document looks for it. -/
def rb (t : Int → Int → Bool) (L : List Int) : Nat → Int
  | 0 => -1
  | i + 1 => if front t L i = true ∧ (rb t L i < 0 ∨ rd L i < rd L (rb t L i)) then (i : Int) else rb t L i
/-- The same, as the program does. -/
def pb (t : Int → Int → Bool) (L : List Int) : Nat → Int
  | 0 => 0
  | i + 1 => if front t L i = true ∧ rd L i < rd L (pb t L i) then (i : Int) else pb t L i
theorem rb_range (t : Int → Int → Bool) (L : List Int) : ∀ i, -1 ≤ rb t L i ∧ rb t L i < (i : Int) ∧ (0 < i → 0 ≤ rb t L i)
  | 0 => by simp [rb]
  | i + 1 => by
    have ih := rb_range t L i
    unfold rb
    split
    · omega
    · rename_i h
      refine ⟨ih.1, by omega, fun _ => ?_⟩
      by_cases hi : 0 < i
      · exact ih.2.2 hi
      · exfalso
        obtain rfl : i = 0 := by omega
        exact h ⟨by simp [front], by simp [rb]⟩
theorem pb_eq (t : Int → Int → Bool) (L : List Int) : ∀ i, pb t L (i + 1) = rb t L (i + 1)
  | 0 => by
    unfold pb rb
    rw [if_neg (by simp [pb]), if_pos (by simp [front, rb])]
    simp [pb]
  | i + 1 => by
    have h := rb_range t L (i + 1)
    have e : (front t L (i + 1) = true ∧ (rb t L (i + 1) < 0 ∨ rd L ((i + 1 : Nat) : Int) < rd L (rb t L (i + 1)))) ↔ (front t L (i + 1) = true ∧ rd L ((i + 1 : Nat) : Int) < rd L (rb t L (i + 1))) := by
      constructor
      · rintro ⟨h1, h2⟩; exact ⟨h1, by rcases h2 with h2 | h2; exact absurd h2 (by omega); exact h2⟩
      · rintro ⟨h1, h2⟩; exact ⟨h1, .inr h2⟩
    show (if front t L (i + 1) = true ∧ rd L ((i + 1 : Nat) : Int) < rd L (pb t L (i + 1)) then ((i + 1 : Nat) : Int) else pb t L (i + 1)) = (if front t L (i + 1) = true ∧ (rb t L (i + 1) < 0 ∨ rd L ((i + 1 : Nat) : Int) < rd L (rb t L (i + 1))) then ((i + 1 : Nat) : Int) else rb t L (i + 1))
    rw [pb_eq t L i]
    simp only [e]
theorem pb_range (t : Int → Int → Bool) (L : List Int) (i : Nat) : 0 ≤ pb t L i ∧ (0 < i → pb t L i < (i : Int)) := by
  cases i with
  | zero => simp [pb]
  | succ i =>
    rw [pb_eq]
    have := rb_range t L (i + 1)
    exact ⟨this.2.2 (by omega), fun _ => this.2.1⟩
/-- The picks in their least order. -/
def lst (t : Int → Int → Bool) : Nat → List Int → List Int
  | 0, _ => []
  | n + 1, L => rd L (rb t L L.length) :: lst t n (L.eraseIdx (rb t L L.length).toNat)
theorem lst_step (t : Int → Int → Bool) (L : List Int) (h : 0 < L.length) (b : Int) (hb : b = rb t L L.length) : lst t L.length L = rd L b :: lst t (L.take b.toNat ++ L.drop (b.toNat + 1)).length (L.take b.toNat ++ L.drop (b.toNat + 1)) ∧ (L.take b.toNat ++ L.drop (b.toNat + 1)).length + 1 = L.length := by
  have hr := rb_range t L L.length
  rw [← hb] at hr
  have h0 := hr.2.2 h
  have e : L.eraseIdx b.toNat = L.take b.toNat ++ L.drop (b.toNat + 1) := List.eraseIdx_eq_take_drop_succ L b.toNat
  have hl : (L.take b.toNat ++ L.drop (b.toNat + 1)).length + 1 = L.length := by
    rw [List.length_append, List.length_take, List.length_drop]; omega
  refine ⟨?_, hl⟩
  obtain ⟨n, hn⟩ : ∃ n, L.length = n + 1 := ⟨L.length - 1, by omega⟩
  have hn2 : (L.take b.toNat ++ L.drop (b.toNat + 1)).length = n := by omega
  rw [hn2, ← e]
  conv => lhs; rw [hn]
  show rd L (rb t L L.length) :: lst t n (L.eraseIdx (rb t L L.length).toNat) = _
  rw [← hb]
theorem lst_length (t : Int → Int → Bool) : ∀ n (L : List Int), (lst t n L).length = n
  | 0, _ => rfl
  | n + 1, L => by show (lst t n _).length + 1 = n + 1; rw [lst_length t n]
theorem add_add (ad : Addr) (i j : Nat) : (ad.add i).add j = ad.add (i + j) := by
  unfold Addr.add
  by_cases h1 : i = 0
  · subst h1; simp
  · by_cases h2 : j = 0
    · subst h2; simp
    · rw [if_neg h1, if_neg h2, if_neg (by omega)]; simp; omega
theorem C_from {W : World} {A : Option Addr} {L : List Int} {c : Nat} (h : Kd.C (Kd.int .i64) W A L.length L) (hc : L.length ≤ c) (j : Nat) (hj : j ≤ L.length) :
    Kd.C (Kd.int .i64) W (if c = j then A else A.map (·.add (j * 1))) (L.length - j) (L.drop j) := by
  obtain ⟨h1, h2, h3⟩ := h
  refine ⟨by rw [List.length_drop], by omega, fun hn => ?_⟩
  obtain ⟨ad, rfl, hcell⟩ := h3 (by omega)
  rw [if_neg (by omega)]
  refine ⟨ad.add j, by simp, fun i p hp => ?_⟩
  rw [List.getElem?_drop] at hp
  obtain ⟨cs, hl, hk, hu⟩ := hcell (j + i) p hp
  refine ⟨cs, hl, hk, fun q u hq => ?_⟩
  have := hu q u hq
  rw [add_add]
  have e : (Kd.int .i64).sz = 1 := rfl
  rw [e] at this ⊢
  rw [show j + (i * 1 + q) = (j + i) * 1 + q by omega]
  exact this
theorem R_ok {W : World} {base : Nat} {ok ok' : Nat → Prop} {v : Value} {xs : List Int} (h : Kd.R (Kd.int .i64) 3 W base ok v xs) (hk : ∀ k, v.ownBlock = some k → ok' k) : Kd.R (Kd.int .i64) 3 W base ok' v xs :=
  Kd.R_of_own (Kd.own_of_R h) hk
theorem front_take (t : Int → Int → Bool) (L : List Int) (x : Int) (j : Nat) (hj : j < L.length) : (L.take (j + 1)).all (fun h => t h x) = ((L.take j).all (fun h => t h x) && t (rd L (j : Int)) x) := by
  rw [List.take_add_one, List.all_append, List.getElem?_eq_getElem hj]
  have : rd L (j : Int) = L[j] := by unfold rd; rw [Int.toNat_natCast, List.getD_eq_getElem?_getD, List.getElem?_eq_getElem hj]; rfl
  rw [this]
  simp
end Go.Proofs.Ytfcjfjmjcmanaaa.X
