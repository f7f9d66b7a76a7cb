/- Boards: the walks of New and Ready. -/
import Derived.Test.YtfcjfjmjcmanaaaBe
import Derived.Laws.MakeOwn
import Derived.Carry
set_option linter.unusedVariables false
namespace Go.Proofs.Ytfcjfjmjcmanaaa.B
open Go Go.RowKit Go.Proofs.YtfcjfjmjcmanaaaW.PrintWords Go.Proofs.YtfcjfjmjcmanaaaW.PrintLast Go.Proofs.YtfcjfjmjcmanaaaW.PrintMore
variable {W : World} {T : Nat → Prop} {p g m N : Nat} {B : Bd} {f : Int → Value}
def Bd.new (n : Int) : Bd := ⟨List.replicate n.toNat (0, 0, 0), fun _ => []⟩
theorem info127 : (Try.prog.info? 127).map (fun i => (i.zero, i.size, i.bytes)) = some (some (.agg #[.int .i64 0, .int .i64 0, .int .i64 0]), 3, 24) := by kernel_rfl
theorem make_hds (n : Int) (h1 : 1 ≤ n) (h2 : n ≤ 16) (W : World) : (Instr.makeSlice 122 (.int .i64 n) (.int .i64 n)).run Try.prog W = .ok (.slice (some ⟨W.heap.size, 0, none⟩) n.toNat n.toNat) (W.alloc (.cells (madeCells #[.int .i64 0, .int .i64 0, .int .i64 0] (n.toNat * 3)) 127)) := by
  obtain ⟨i, hi, hzz⟩ := Option.map_eq_some_iff.1 info127
  simp only [Prod.mk.injEq] at hzz
  obtain ⟨hz, hs, hb⟩ := hzz
  have hr := run_make (P := Try.prog) W 122 127 i (.agg #[.int .i64 0, .int .i64 0, .int .i64 0]) Try.underlying122 hi hz .i64 .i64 n n (by omega) (by omega) (by rw [hb]; omega) (by omega)
  rw [hs] at hr
  exact hr
theorem made_get (k j : Nat) (h : j < k * 3) : (madeCells #[.int .i64 0, .int .i64 0, .int .i64 0] (k * 3))[j]? = some (.int .i64 0) := by
  unfold madeCells
  rw [Array.getElem?_map, Array.getElem?_range, if_pos h]
  have : j % 3 = 0 ∨ j % 3 = 1 ∨ j % 3 = 2 := by omega
  rcases this with e | e | e <;> simp [e]
theorem new_Bat (n : Int) (h1 : 1 ≤ n) (W : World) :
    Bat (((W.alloc (.cells (madeCells #[.int .i64 0, .int .i64 0, .int .i64 0] (n.toNat * 3)) 127)).alloc (.map #[] 0)).alloc (.cells #[.slice (some ⟨W.heap.size, 0, none⟩) n.toNat n.toNat, .map (some (W.heap.size + 1))] 125))
      (fun i => W.heap.size ≤ i ∧ i < W.heap.size + 3) (W.heap.size + 2) W.heap.size (W.heap.size + 1) 0 (Bd.new n) (fun _ => nilv) := by
  generalize hA : Obj.cells (madeCells #[.int .i64 0, .int .i64 0, .int .i64 0] (n.toNat * 3)) 127 = oA
  generalize hC : Obj.cells #[.slice (some ⟨W.heap.size, 0, none⟩) n.toNat n.toNat, .map (some (W.heap.size + 1))] 125 = oC
  have e2 : (((W.alloc oA).alloc (.map #[] 0)).alloc oC).heap[W.heap.size + 2]? = some oC := by
    have := World.alloc_heap_new ((W.alloc oA).alloc (.map #[] 0)) oC
    simpa using this
  have e0 : (((W.alloc oA).alloc (.map #[] 0)).alloc oC).heap[W.heap.size]? = some oA := by
    rw [Below.heap_alloc _ _ _ (by simp; omega), Below.heap_alloc _ _ _ (by simp)]
    exact World.alloc_heap_new W oA
  have m1 : MapAt ((W.alloc oA).alloc (.map #[] 0)) (W.heap.size + 1) 0 (fun _ => nilv) := by
    have := MapAt.made (W.alloc oA)
    simpa using this
  have ln : (Bd.new n).l.length = n.toNat := by simp [Bd.new]
  refine ⟨?_, ⟨_, e0.trans (by rw [← hA]), ?_, ?_⟩, m1.of_block (by simp) (Below.heap_alloc _ _ _ (by simp)), fun k _ => Sl.nil _ _, fun k k' _ _ _ j hj => by simp [nilv, Value.ownBlock] at hj, fun k _ j hj => by simp [nilv, Value.ownBlock] at hj, by omega, by omega, fun i hi => by simp; omega⟩
  · rw [e2, ← hC, ln]
  · rw [size_madeCells, ln]
  · intro i x hi
    have hx : i < n.toNat ∧ x = (0, 0, 0) := by
      unfold Bd.new at hi
      rw [List.getElem?_replicate] at hi
      split at hi
      · rename_i h; cases hi; exact ⟨h, rfl⟩
      · cases hi
    rw [hx.2]
    exact ⟨made_get _ _ (by omega), made_get _ _ (by omega), made_get _ _ (by omega)⟩
set_option maxRecDepth 100000 in
set_option maxHeartbeats 4000000 in
theorem new_calls (n : Int) (h1 : 1 ≤ n) (h2 : n ≤ 16) : Calls Try.prog 38 #[.int .i64 n] W fun e W' => ∃ p T g m, e = .returned (.tuple #[.pointer (some ⟨p, 0, none⟩), .int .i64 0]) ∧ Bat W' T p g m 0 (Bd.new n) (fun _ => nilv) ∧ Below W.heap.size W W' ∧ ∀ i, T i → W.heap.size ≤ i := by
  have hmk := make_hds n h1 h2
  have hmm := @run_makeMap Try.prog
  have t1 : decide (n < 1) = false := decide_eq_false (by omega)
  have t2 : decide (16 < n) = false := decide_eq_false (by omega)
  have t3 : (16 < n) = False := eq_false (by omega)
  have HB := Aside0.mk (new_Bat n h1 W)
  clear h1 h2
  go_enter Try.func38, Try.ntmps38
  go_wp2
  go_ret2
  exact ⟨_, _, _, _, rfl, HB.out, by repeat (first | exact Below.refl _ _ | apply below_alloc), fun i hi => hi.1⟩
set_option maxRecDepth 100000 in
set_option maxHeartbeats 4000000 in
theorem new_bad (n : Int) (h : ¬ (1 ≤ n ∧ n ≤ 16)) : Calls Try.prog 38 #[.int .i64 n] W fun e W' => e = .returned (.tuple #[.pointer none, .int .i64 2]) ∧ Drawn0 W W' := by
  by_cases h1 : n < 1
  · have t1 : decide (n < 1) = true := decide_eq_true h1
    clear h
    go_enter Try.func38, Try.ntmps38
    go_wp2
    go_ret2
    exact ⟨rfl, ⟨0, rfl⟩⟩
  · have t1 : decide (n < 1) = false := decide_eq_false h1
    have h2 : 16 < n := by omega
    have t2 : decide (16 < n) = true := decide_eq_true h2
    clear h
    go_enter Try.func38, Try.ntmps38
    go_wp2
    go_ret2
    exact ⟨rfl, ⟨0, rfl⟩⟩
/-! ### Ready -/
def rdyK (l : List Hd) : Nat → List Int
  | 0 => []
  | k + 1 => if (l.getD k (0, 0, 0)).1 = 1 then rdyK l k ++ [(k : Int)] else rdyK l k
theorem rdyK_length (l : List Hd) : ∀ k, (rdyK l k).length ≤ k
  | 0 => Nat.le_refl _
  | k + 1 => by
    rw [rdyK]
    have := rdyK_length l k
    split
    · simp; exact this
    · omega
def Bd.ready (B : Bd) : List Int := rdyK B.l B.l.length
set_option maxRecDepth 100000 in
set_option maxHeartbeats 4000000 in
theorem readys_calls (hb : Bat W T p g m N B f) (hn : B.l.length ≤ 16) : Calls Try.prog 42 #[.pointer (some ⟨p, 0, none⟩)] W fun e W' => ∃ v, e = .returned v ∧ Kd.R (Kd.int .i64) 3 W' W.heap.size (fun _ => True) v B.ready ∧ Below W.heap.size W W' := by
  obtain ⟨c0, c1⟩ := hb.cells
  have HB := Aside0.mk hb
  have HN := Aside0.mk hn
  clear hb hn
  unfold Bd.ready
  obtain ⟨l, hl⟩ : ∃ l, B.l = l := ⟨_, rfl⟩
  have HG := Aside0.mk HB.out.hg
  rw [hl] at c0 HN HG ⊢
  clear hl
  go_enter Try.func42, Try.ntmps42
  go_wp2
  go_loopw [3, 13] (fun v vi wr => ∃ k : Int, vi = .int .i64 k ∧ Aside0 (0 ≤ k ∧ k ≤ (l.length : Int)) ∧ Aside0 (Kd.R (Kd.int .i64) 3 wr W.heap.size (fun _ => True) v (rdyK l k.toNat)) ∧ Aside0 (Below W.heap.size W wr)) (fun _ vi _ => ((l.length : Int) - intOf vi).toNat)
  case atStart => exact ⟨0, rfl, ⟨by omega⟩, ⟨Kd.R_nil _ _ _ _ (fun _ => True)⟩, ⟨Below.refl _ _⟩⟩
  case round =>
    obtain ⟨k, rfl, Hk, HR, HW⟩ := hrel
    rename World => W3
    by_cases hlt : k < (l.length : Int)
    · have hltb : decide (k < (l.length : Int)) = true := decide_eq_true hlt
      have p0 := Hk.out.1
      have hkn : k.toNat < l.length := by omega
      obtain ⟨⟨s, o, c⟩, hx⟩ : ∃ x, l[k.toNat]? = some x := ⟨_, List.getElem?_eq_getElem hkn⟩
      obtain ⟨d0, d1, d2⟩ := (HG.out.of_block (HW.out.block g HG.out.lt)).cells hx
      have hw1 : wrap64 (k + 1) = k + 1 := X.hwrId (by omega) (by have := HN.out; omega)
      have hkk : (k + 1).toNat = k.toNat + 1 := by omega
      have hst : rdyK l (k + 1).toNat = if s = 1 then rdyK l k.toNat ++ [k] else rdyK l k.toNat := by
        rw [hkk, rdyK, List.getD_eq_getElem?_getD, hx]
        simp only [Option.getD_some, Int.toNat_of_nonneg p0]
      have HST := Aside0.mk hst
      have HW1 := Aside0.mk hw1
      have HLEN := Aside0.mk (rdyK_length l k.toNat)
      replace p0 := eq_true p0
      replace hlt := eq_true hlt
      clear hst hx hkk hw1 hkn
      simp only at d0 d1 d2
      by_cases hs : s = 1
      · subst hs
        go_wp2_with ((with_reducible refine gate_builtin (b := .append) (xs := #[.tmp 21, .tmp 23]) rfl ?_); at_builtin; refine Kd.R_append (Kd.int .i64) (w0 := W) W.heap.size rfl (.tmp 21) (.tmp 23) 26 3 (.int .i64 0) 8 rfl Try.underlying26 info3' rfl (by decide) (by omega) _ (rdyK l k.toNat) k [.int .i64 k] (fun _ => True) (fun _ => False) rfl (by show Value.slice (some ⟨W3.heap.size + 1, 0, none⟩) 1 1 = _; simp) rfl (fun _ hk => hk.elim) (fun _ _ => trivial) (Kd.R_below HR.out (by (repeat (first | exact Below.refl _ _ | apply below_alloc | (refine Below.setCell ?_ (Nat.le_refl _) _))))) (below_step HW.out (by (repeat (first | exact Below.refl _ _ | apply below_alloc | (refine Below.setCell ?_ (Nat.le_refl _) _))))) (Nat.le_trans HW.out.size (by simp)) (by have := HLEN.out; have := HN.out; have := Hk.out; omega) ?_; intro v5 w5 ho hb hg hat; have HO5 := Aside0.mk ho; have HB5 := Aside0.mk hb; clear ho hb hg hat)
        exact ⟨⟨wrap64 (k + 1), rfl, ⟨by rw [HW1.out]; have := Hk.out; have := of_eq_true hlt; omega⟩, ⟨by rw [HW1.out, HST.out, if_pos rfl]; exact HO5.out⟩, HB5⟩, by rw [HW1.out]; simp only [intOf]; have := Hk.out; have := of_eq_true hlt; omega⟩
      · have hsb : (s == 1) = false := beq_eq_false_iff_ne.2 hs
        go_wp2
        exact ⟨⟨wrap64 (k + 1), rfl, ⟨by rw [HW1.out]; have := Hk.out; have := of_eq_true hlt; omega⟩, ⟨by rw [HW1.out, HST.out, if_neg hs]; exact Kd.R_below HR.out (by (repeat (first | exact Below.refl _ _ | apply below_alloc | (refine Below.setCell ?_ (Nat.le_refl _) _))))⟩, ⟨below_step HW.out (by (repeat (first | exact Below.refl _ _ | apply below_alloc | (refine Below.setCell ?_ (Nat.le_refl _) _))))⟩⟩, by rw [HW1.out]; simp only [intOf]; have := Hk.out; have := of_eq_true hlt; omega⟩
    · have hltb : decide (k < (l.length : Int)) = false := decide_eq_false hlt
      have hk : k.toNat = l.length := by have := Hk.out; omega
      rw [hk] at HR
      clear hlt hk
      go_wp2
      go_ret
      exact ⟨_, rfl, HR.out, HW.out⟩
end Go.Proofs.Ytfcjfjmjcmanaaa.B
