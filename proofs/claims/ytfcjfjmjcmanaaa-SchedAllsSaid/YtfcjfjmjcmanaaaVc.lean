/- All: the lists in order, and the iterator. -/
import Derived.Test.YtfcjfjmjcmanaaaVb
import Derived.RangeFuncNested
import Derived.RangeFuncBound
import Derived.RangeFuncCalls
import Derived.RangeFuncLeaves
import Derived.OwnWalkIn
import Derived.TacticsInMore
import Derived.LoopNIn
import Derived.LoopIn
set_option linter.unusedVariables false
namespace Go.Proofs.Ytfcjfjmjcmanaaa.V
open Go Go.RowKit Go.Proofs.Ytfcjfjmjcmanaaa.O Go.Proofs.Ytfcjfjmjcmanaaa.B Go.Proofs.YtfcjfjmjcmanaaaW.PrintWords Go.Proofs.YtfcjfjmjcmanaaaW.PrintLast Go.Proofs.YtfcjfjmjcmanaaaW.PrintMore
attribute [local go_sem] Oper.semAt_some
/-- The digits of n to the base h, the last one behind. -/
def digs (h : Nat) : Nat → Nat → List Int
  | 0, _ => []
  | d + 1, n => digs h d (n / h) ++ [((n % h : Nat) : Int)]
theorem digs_len (h : Nat) (d n : Nat) : (digs h d n).length = d := by induction d generalizing n with
  | zero => rfl
  | succ d ih => simp [digs, ih]
/-- The lists of All. -/
def allOf (h d : Int) : List (List Int) := (List.range (cntAll h d)).map (digs h.toNat d.toNat)
theorem allOf_len (h d : Int) : (allOf h d).length = cntAll h d := by simp [allOf]
theorem allOf_get {h d : Int} {k : Nat} (hk : k < cntAll h d) : (allOf h d)[k]? = some (digs h.toNat d.toNat k) := by simp [allOf, hk]
theorem digs_front (h : Nat) (j n : Nat) : digs h (j + 1) n = ((n / h ^ j % h : Nat) : Int) :: digs h j n := by
  induction j generalizing n with
  | zero => simp [digs]
  | succ j ih =>
    show digs h (j + 1) (n / h) ++ _ = _ :: (digs h j (n / h) ++ _)
    rw [ih, Nat.div_div_eq_div_mul, Nat.pow_succ, Nat.mul_comm h]
    rfl
/-- The row behind j digits. -/
def half (H D k j : Nat) : List Int := List.replicate (D - j) 0 ++ digs H j k
theorem half_len {H D k j : Nat} (h : j ≤ D) : (half H D k j).length = D := by simp [half, digs_len]; omega
theorem half_next {H D k j x : Nat} (h : j < D) (hx : x + 1 + j = D) : (half H D k j).set x ((k / H ^ j % H : Nat) : Int) = half H D k (j + 1) := by
  unfold half
  rw [digs_front, show D - j = x + 1 by omega, show D - (j + 1) = x by omega, List.set_append_left _ _ (by simp), List.replicate_succ', List.set_append_right _ _ (by simp)]
  simp
theorem half_all (H D k : Nat) : half H D k D = digs H D k := by simp [half]
theorem info3v : (Try.prog.info? 3).map (fun i => (i.zero, i.size, i.bytes)) = some (some (.int .i64 0), 1, 8) := by kernel_rfl
theorem make_row (D : Nat) (hD : D ≤ 4096) (W : World) : (Instr.makeSlice 26 (.int .i64 (D : Int)) (.int .i64 (D : Int))).run Try.prog W = .ok (.slice (some ⟨W.heap.size, 0, none⟩) D D) (W.alloc (.cells (madeCells #[.int .i64 0] D) 3)) := by
  obtain ⟨i0, hi0, hz0, hz1, hz2⟩ := info_parts info3v
  have h := run_make (P := Try.prog) W 26 3 i0 (.int .i64 0) Try.underlying26 hi0 hz0 .i64 .i64 (D : Int) (D : Int) (by omega) (by omega) (by rw [hz2]; omega) (by omega)
  rw [h, hz1]
  simp [Value.cells]
theorem made_row (W : World) (D : Nat) (hD : D ≤ 4096) : SlB (W.alloc (.cells (madeCells #[.int .i64 0] D) 3)) (fun b => b = W.heap.size) (.slice (some ⟨W.heap.size, 0, none⟩) D D) (List.replicate D 0) := by
  refine .inr ⟨W.heap.size, 0, D, madeCells #[.int .i64 0] D, by simp, rfl, by simp, by unfold maxLen; omega, by simp [size_madeCells], World.alloc_heap_new W _, fun i x hx => ?_⟩
  have hi : i < D := by
    have := (List.getElem?_eq_some_iff.1 hx).1
    simpa using this
  simp [hi] at hx
  subst hx
  simp [madeCells, hi, Nat.mod_one]
set_option maxRecDepth 100000
set_option maxHeartbeats 4000000
/-- The iterator of All. -/
theorem all_in (n : Nat) (hn : 1 ≤ n) (l Ba Bd Bh : Nat) (h d : Int) (Rd : Nat → Prop) (ra : Rd Ba) (rd : Rd Bd) (rh : Rd Bh) (J Jx : Nat → (Nat → Prop) → World → Prop) (hJ : AbidesS J) (hJx : AbidesS Jx)
    (hY : ∀ i L T T1 v W1, (allOf h d)[i]? = some L → J i T1 W1 → (∀ b, T b → T1 b) → (∀ b, T1 b ∨ Rd b → b < W1.heap.size) → SlB W1 (fun b => T1 b ∧ ¬ T b ∧ ¬ Rd b) v L → YieldAt Fence.wide (n - 1) Try.prog l #[v] W1 fun e W' =>
      (e = .returned (.bool true) ∧ J (i + 1) T W' ∧ KeepsT (fun b => T b ∨ Rd b) W1 W') ∨ (e = .returned (.bool false) ∧ Jx (i + 1) T W' ∧ KeepsT T W1 W'))
    (W : World) (hR : ∀ b, Rd b → b < W.heap.size) (hBa : Boxed W Ba 3 (.int .i64 (cntAll h d : Int))) (hBd : Boxed W Bd 3 (.int .i64 d)) (hBh : Boxed W Bh 3 (.int .i64 h)) (h0 : J 0 (fun _ => False) W) :
    CallsIn Fence.wide n Try.prog 71 #[.func (.yield l) #[] #[], .pointer (some ⟨Ba, 0, none⟩), .pointer (some ⟨Bd, 0, none⟩), .pointer (some ⟨Bh, 0, none⟩)] W fun e W' => (∃ v, e = .returned v) ∧
      ((∃ T, J (allOf h d).length T W') ∨ (∃ i T, i ≤ (allOf h d).length ∧ Jx i T W')) := by
  have HJ := Aside0.mk hJ
  have HY := Aside0.mk hY
  clear hJ hY
  rw [allOf_len]
  refine callsIn_of_wp Try.func71 rfl trivial ?_ rfl
  simp only [Try.ntmps71, List.size_toArray, List.length_cons, List.length_nil, Nat.reduceAdd, Nat.reduceSub, Array.replicate_succ, Array.replicate_zero, List.push_toArray, List.append_toArray, List.nil_append, List.cons_append]
  have c1 := hBa.cell
  obtain ⟨N, hN⟩ : ∃ N, cntAll h d = N := ⟨_, rfl⟩
  have hN2 : N ≤ 1048576 := by rw [← hN]; unfold cntAll; split; rename_i z; exact z.2.2; omega
  have hok : 0 < N → okAll h d := fun z => by rw [← hN] at z; unfold cntAll at z; split at z; assumption; omega
  have HN := Aside0.mk hN
  have HOK := Aside0.mk hok
  rw [hN] at c1 hBa ⊢
  have HBX := Aside0.mk (And.intro hBa (And.intro hBd hBh))
  have HR := Aside0.mk hR
  clear hBa hBd hBh hR hok hN
  gi_wp2
  clear c1
  gi_loopw [9] (fun p wr => ∃ k : Nat, k ≤ N ∧ p = .int .i64 k ∧ Aside0 (J k (fun _ => False) wr) ∧ Aside0 (Boxed wr Ba 3 (.int .i64 (N : Int)) ∧ Boxed wr Bd 3 (.int .i64 d) ∧ Boxed wr Bh 3 (.int .i64 h)) ∧ Aside0 (∀ b, Rd b → b < wr.heap.size)) (fun p _ => N - (intOf p).toNat)
  case atStart => exact ⟨0, by omega, rfl, ⟨h0⟩, HBX, HR⟩
  case round =>
    obtain ⟨wo, rfl⟩ : ∃ wo : World, wo = wr := ⟨_, rfl⟩
    clear HR HBX h0
    obtain ⟨k, hk, rfl, HJ1, HB, HR⟩ := hrel
    by_cases hlt : k < N
    · have hokk := HOK.out (by omega)
      obtain ⟨D, rfl⟩ : ∃ D : Nat, d = (D : Int) := ⟨d.toNat, by have := hokk.2.1; omega⟩
      obtain ⟨H, rfl⟩ : ∃ H : Nat, h = (H : Int) := ⟨h.toNat, by have := hokk.1; omega⟩
      have hD : D ≤ 24 := by have := hokk.2.1; omega
      have hH : 1 ≤ H ∧ H ≤ 16 := by have := hokk.1; omega
      have c2 := HB.out.2.1.cell
      have hmk := make_row D (by omega) wo
      have wd : wrap64 ((D : Int) - 1) = (D : Int) - 1 := X.hwrId (by omega) (by omega)
      have HLT := Aside0.mk hlt
      have hk1 : ((k : Int) < (N : Int)) = True := eq_true (by omega)
      replace hlt := eq_true hlt
      clear hokk
      have cd2 : (wo.alloc (.cells (madeCells #[.int .i64 0] D) 3)).cell? ⟨Bd, 0, none⟩ = some (.int .i64 (D : Int)) := (HB.out.2.1.alloc _).cell
      gi_wp2
      have HS0 := Aside0.mk (show StepS (fun _ => False) wo (wo.alloc (.cells (madeCells #[.int .i64 0] D) 3)) ∧ (wo.alloc (.cells (madeCells #[.int .i64 0] D) 3)).heap.size = wo.heap.size + 1 ∧ SlB (wo.alloc (.cells (madeCells #[.int .i64 0] D) 3)) (fun b => b = wo.heap.size) (.slice (some ⟨wo.heap.size, 0, none⟩) D D) (half H D k 0) from ⟨stepS_alloc _ _, by simp, by have := made_row wo D (by omega); simpa [half, digs] using this⟩)
      generalize wo.alloc (.cells (madeCells #[.int .i64 0] D) 3) = wi at HS0 cd2 ⊢
      clear hmk c2
      gi_loopw [5, 7] (fun q p wr => ∃ j : Nat, q = .int .i64 ((k / H ^ j : Nat) : Int) ∧ p = .int .i64 ((D : Int) - 1 - (j : Int)) ∧ Aside0 (j ≤ D) ∧ Aside0 (StepS (fun _ => False) wo wr ∧ wr.heap.size = wo.heap.size + 1 ∧ SlB wr (fun b => b = wo.heap.size) (.slice (some ⟨wo.heap.size, 0, none⟩) D D) (half H D k j))) (fun _ p _ => (1 + intOf p).toNat)
      case atStart => exact ⟨0, by simp, by simp, ⟨by omega⟩, HS0⟩
      case round =>
        clear HS0
        obtain ⟨j, rfl, rfl, Hj, HS⟩ := hrel
        have ch : wr.cell? ⟨Bh, 0, none⟩ = some (.int .i64 (H : Int)) := by
          rw [Boxed.cell (show Boxed wr Bh 3 (.int .i64 (H : Int)) from (HS.out.1.block Bh HB.out.2.2.lt (fun z => z)).trans HB.out.2.2)]
        obtain ⟨q, hq⟩ : ∃ q, k / H ^ j = q := ⟨_, rfl⟩
        rw [hq]
        have HQ := Aside0.mk hq
        clear hq
        by_cases hj : j < D
        · obtain ⟨x, hx⟩ : ∃ x : Nat, D - 1 - j = x := ⟨_, rfl⟩
          have hx2 : (D : Int) - 1 - (j : Int) = (x : Int) := by omega
          rw [hx2]
          have HX := Aside0.mk (show x + 1 + j = D by omega)
          obtain ⟨hf, hs', hg⟩ := HS.out.2.2.set x (by rw [half_len Hj.out]; omega) ((q : Int) % (H : Int))
          obtain ⟨ad, ead, hcx⟩ := HS.out.2.2.cell (x : Int) (by omega) (by rw [half_len Hj.out]; omega)
          cases ead
          rw [Addr.add_lit, Nat.zero_add, Int.toNat_natCast] at hcx
          rw [Addr.add_lit, Nat.zero_add] at hf hs' hg
          have ch2 : (wr.setCell ⟨wo.heap.size, x, none⟩ (.int .i64 ((q : Int) % (H : Int)))).cell? ⟨Bh, 0, none⟩ = some (.int .i64 (H : Int)) := by
            rw [Boxed.cell (show Boxed (wr.setCell ⟨wo.heap.size, x, none⟩ (.int .i64 ((q : Int) % (H : Int)))) Bh 3 (.int .i64 (H : Int)) from (hg.block Bh (by have := HB.out.2.2.lt; have := HS.out.2.1; omega) (fun e => by have h1 := HB.out.2.2.lt; have e2 : Bh = wo.heap.size := Option.some.inj e; omega)).trans ((HS.out.1.block Bh HB.out.2.2.lt (fun z => z)).trans HB.out.2.2))]
          have HS2 := Aside0.mk (And.intro hs' hg)
          clear hs' hg
          have x0 : ((0 : Int) ≤ (x : Int)) = True := eq_true (by omega)
          have x1 : ((x : Int) < (D : Int)) = True := eq_true (by omega)
          have x2 : (x < D) = True := eq_true (by omega)
          have h0 : (H = 0) = False := eq_false (by omega)
          have hm0 : Int.tmod (q : Int) (H : Int) = ((q % H : Nat) : Int) := by rw [Int.tmod_eq_emod_of_nonneg (by omega)]; rfl
          have hd0 : Int.tdiv (q : Int) (H : Int) = ((q / H : Nat) : Int) := by rw [Int.tdiv_eq_ediv_of_nonneg (by omega)]; rfl
          clear hx hx2
          gi_wp2
          have hwq : wrap64 ((q : Int) / (H : Int)) = ((q / H : Nat) : Int) := by rw [show (q : Int) / (H : Int) = ((q / H : Nat) : Int) from rfl]; have h1 := Nat.div_le_self q H; have h2 := Nat.div_le_self k (H ^ j); rw [HQ.out] at h2; generalize q / H = y at h1 ⊢; exact X.hwrId (by omega) (by omega)
          have hqn : q / H = k / H ^ (j + 1) := by rw [← HQ.out, Nat.div_div_eq_div_mul, Nat.pow_succ]
          have hwx : wrap64 ((x : Int) - 1) = (D : Int) - 1 - ((j + 1 : Nat) : Int) := by rw [X.hwrId (by omega) (by have := HX.out; omega)]; have := HX.out; omega
          refine ⟨⟨j + 1, by rw [hwq, hqn], by rw [hwx], ⟨by omega⟩, ⟨?_, ?_, ?_⟩⟩, by rw [hwx]; simp only [intOf]; have := HX.out; omega⟩
          · have hg := HS2.out.2
            exact ⟨hg.os.trans HS.out.1.os, hg.tape.trans HS.out.1.tape, hg.output.trans HS.out.1.output, Nat.le_trans HS.out.1.size hg.size, fun b hb _ => (hg.block b (by have := HS.out.2.1; omega) (fun e => by have e2 : b = wo.heap.size := Option.some.inj e; omega)).trans (HS.out.1.block b hb (fun z => z))⟩
          · have := HS.out.2.1
            simpa using this
          · have h1 := HS2.out.1
            have h2 := half_next (H := H) (k := k) hj HX.out
            rw [HQ.out] at h2
            rw [← h2]
            exact h1
        · have hjD : j = D := by have := Hj.out; omega
          subst hjD
          rw [show (j : Int) - 1 - (j : Int) = -1 by omega]
          have hrow := HS.out.2.2
          rw [half_all] at hrow
          have hJ1 := HJ.out k (fun _ => False) wo wr (fun b => b = wo.heap.size) HJ1.out HS.out.1 (fun b hb => .inr (by have := HS.out.2.1; omega))
          have hgt : (allOf (H : Int) (j : Int))[k]? = some (digs H j k) := by
            have := allOf_get (h := (H : Int)) (d := (j : Int)) (k := k) (by rw [HN.out]; exact HLT.out)
            simpa using this
          obtain ⟨fn, tmps, assign, body, hy, hYR⟩ := HY.out k (digs H j k) (fun _ => False) (fun b => b = wo.heap.size) _ wr hgt hJ1 (fun b hb => hb.elim) (fun b hb => by have h1 := HS.out.2.1; rcases hb with z | z; omega; have := HR.out b z; omega) (hrow.mono (fun b _ hb => ⟨hb, fun z => z, fun z => by have := HR.out b z; omega⟩))
          clear hrow hJ1 hgt hj
          gi_wp2
          refine hYR.mono ?_
          have kb : Aside0 (∀ (b : Nat) (u : Value), Rd b → Boxed wo b 3 u → Boxed wr b 3 u) := ⟨fun b u hb h => (HS.out.1.block b h.lt (fun z => z)).trans h⟩
          rintro r W3 (⟨rfl, hJ4, hk4⟩ | ⟨rfl, hJx4, _⟩)
          · have HJ4 := Aside0.mk hJ4
            have HK4 := Aside0.mk hk4
            have kb4 : Aside0 (∀ (b : Nat) (u : Value), Rd b → Boxed wo b 3 u → Boxed W3 b 3 u) := ⟨fun b u hb h => (hk4.2 b (.inr hb) (kb.out b u hb h).lt).trans (kb.out b u hb h)⟩
            have wk : wrap64 ((k : Int) + 1) = ((k + 1 : Nat) : Int) := w1 k (by omega)
            have WK := Aside0.mk wk
            clear hJ4 hk4 wk
            gi_wp2
            go_roundw
            case rel => exact ⟨k + 1, by have := HLT.out; omega, by first | rfl | rw [WK.out], HJ4, ⟨kb4.out _ _ ra HB.out.1, kb4.out _ _ rd HB.out.2.1, kb4.out _ _ rh HB.out.2.2⟩, ⟨fun b hb => by have h1 := HR.out b hb; have h2 := HK4.out.1; have h3 := HS.out.2.1; omega⟩⟩
            case measure => first | rw [WK.out] | skip
                            simp only [intOf]; have := HLT.out; omega
          · gi_wp2
            go_end0
            exact ⟨⟨_, rfl⟩, .inr ⟨k + 1, _, by have := HLT.out; omega, hJx4⟩⟩
    · obtain rfl : k = N := by omega
      gi_wp2
      go_end0
      exact ⟨⟨_, rfl⟩, .inl ⟨_, HJ1.out⟩⟩
end Go.Proofs.Ytfcjfjmjcmanaaa.V
