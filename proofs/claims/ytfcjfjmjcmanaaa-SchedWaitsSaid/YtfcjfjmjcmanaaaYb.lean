/- Mixed: the iterator. -/
import Derived.Test.YtfcjfjmjcmanaaaYa
import Derived.Test.YtfcjfjmjcmanaaaMh
set_option linter.unusedVariables false
namespace Go.Proofs.Ytfcjfjmjcmanaaa.X
open Go.RowKit Go.Shelf Go.Proofs.Ytfcjfjmjcmanaaa.O Go.Proofs.Ytfcjfjmjcmanaaa.PMixd Go.Proofs.YtfcjfjmjcmanaaaW.PrintWords Go.Proofs.YtfcjfjmjcmanaaaW.PrintLast Go.Proofs.YtfcjfjmjcmanaaaW.PrintMore
attribute [local go_sem] Oper.semAt_some
/-- What the iterator of Mixed holds of its own. -/
structure Own112 (S Bh Bk : Nat) (h kq st : Int) (T : Nat → Prop) (W : World) : Prop where
  state : Boxed W S 112 (.int .u64 st)
  bh : Boxed W Bh 3 (.int .i64 h)
  bk : Boxed W Bk 3 (.int .i64 kq)
  mine : T S
  lt : ∀ b, T b → b < W.heap.size
theorem take_nextZ (l : List Int) (i : Int) (h0 : 0 ≤ i) (h1 : i < (l.length : Int)) : l.take (i.toNat + 1) = l.take i.toNat ++ [rd l i] := by
  have hi2 : i.toNat < l.length := by omega
  rw [List.take_add_one]; unfold rd
  rw [List.getD_eq_getElem?_getD, List.getElem?_eq_getElem hi2]; rfl
theorem below_zero (w : World) : Below ({ w with heap := #[] } : World).heap.size { w with heap := #[] } w := ⟨rfl, rfl, rfl, Nat.zero_le _, fun k hk => absurd hk (Nat.not_lt_zero _)⟩
theorem Own112.kept {S Bh Bk : Nat} {h kq s : Int} {T : Nat → Prop} {Rd : Nat → Prop} {W W' : World} (o : Own112 S Bh Bk h kq s T W) (hh : Rd Bh) (hk : Rd Bk) (k : KeepsT (fun b => T b ∨ Rd b) W W') : Own112 S Bh Bk h kq s T W' :=
  ⟨(k.2 S (.inl o.mine) o.state.lt).trans o.state, (k.2 Bh (.inr hh) o.bh.lt).trans o.bh, (k.2 Bk (.inr hk) o.bk.lt).trans o.bk, o.mine, fun b hb => Nat.lt_of_lt_of_le (o.lt b hb) k.1⟩

theorem hne112 {W : World} {A B : Nat} {u v : Value} (h1 : Boxed W A 3 u) (h2 : Boxed W B 112 v) : A ≠ B := by
  rintro rfl
  have := (show W.heap[A]? = _ from h1).symm.trans h2
  simp at this
theorem gen_take (h m : Nat) (seed : Int) (j t : Nat) (s : Int) (L : List Int) (hs : (gen h m seed j).2 = s) (hL : (blk h m s).1 = L) (hm : 1 ≤ m) (ht : t ≤ m) (hj : j * m < 65536) (hjt : j * m + t ≤ 65536) : (gen h m seed j).1 ++ L.take t = (mixed h m seed).take (j * m + t) := by
  have hj2 : j + 1 ≤ 65536 := by
    have : j * 1 ≤ j * m := Nat.mul_le_mul_left _ hm
    omega
  rw [take_gen h m seed (j + 1) _ hj2 (by rw [Nat.succ_mul]; omega) hjt]
  show _ = ((gen h m seed j).1 ++ (blk h m (gen h m seed j).2).1).take (j * m + t)
  rw [hs, hL, show j * m = (gen h m seed j).1.length from (gen_length h m seed j).symm, List.take_length_add_append]
theorem all_given (h m : Nat) (seed : Int) (j t lf e : Nat) (s : Int) (L : List Int) (hs : (gen h m seed j).2 = s) (hL : (blk h m s).1 = L) (hm : 1 ≤ m) (ht : t ≤ m) (hlf : 65536 - j * m = lf) (he : lf - t = e) (hz : e = 0) (htl : t ≤ lf) (hj : j * m < 65536) : (gen h m seed j).1 ++ L.take t = mixed h m seed := by
  rw [gen_take h m seed j t s L hs hL hm ht hj (by omega), List.take_of_length_le (by rw [mixed_length h m seed hm]; omega)]
theorem take_next' (L : List Int) (t : Nat) (h : t < L.length) : L.take (t + 1) = L.take t ++ [rd L (t : Int)] := by
  have := take_nextZ L (t : Int) (by omega) (by omega)
  rw [Int.toNat_natCast] at this
  exact this
theorem some_given (h m : Nat) (seed : Int) (j t lf e : Nat) (s : Int) (L : List Int) (hs : (gen h m seed j).2 = s) (hL : (blk h m s).1 = L) (hm : 1 ≤ m) (ht : t < L.length) (hlen : L.length = m) (hlf : 65536 - j * m = lf) (he : lf - t = e) (hz : ¬ e = 0) (hj : j * m < 65536) : (gen h m seed j).1 ++ L.take t ++ [rd L (t : Int)] <+: mixed h m seed := by
  rw [List.append_assoc, ← take_next' L t ht, gen_take h m seed j (t + 1) s L hs hL hm (by omega) hj (by omega)]
  exact List.take_prefix _ _
theorem left_next (lf t e : Nat) (he : lf - t = e) (hz : ¬ e = 0) (hl : lf ≤ 65536) : Value.int IntKind.i64 (wrap64 ((e : Int) - 1)) = Value.int IntKind.i64 ((lf - (t + 1) : Nat) : Int) := by
  rw [mwr (by omega) (by omega), show (e : Int) - 1 = ((lf - (t + 1) : Nat) : Int) by omega]
theorem ind_next (t m : Nat) (h : t < m) (hm : m ≤ 513) : Value.int IntKind.i64 (wrap64 ((t : Int) + 1)) = Value.int IntKind.i64 ((t + 1 : Nat) : Int) := by
  rw [mwn t (by omega)]
set_option maxRecDepth 100000 in
set_option maxHeartbeats 4000000 in
theorem mixed_in (n : Nat) (hn : 1 ≤ n) (l Bh Bk Bs : Nat) (h m : Nat) (h1 : 1 ≤ h) (h2 : h ≤ 16) (hm1 : 1 ≤ m) (hm2 : m ≤ 513) (kq : Int) (q1 : 2 * (h : Int) - 1 ≤ kq) (q2 : kq ≤ 1024) (hq : Int.tdiv (kq + 1) 2 = (m : Int)) (seed : Int) (Rd : Nat → Prop) (rh : Rd Bh) (rk : Rd Bk) (J Jx : List Int → (Nat → Prop) → World → Prop) (hJ : AbidesS J) (hJx : AbidesS Jx)
    (hY : ∀ pre x T W, J pre T W → pre.length < (mixed h m seed).length → YieldAt Fence.wide (n - 1) Try.prog l #[.int .i64 x] W fun e W' =>
      (e = .returned (.bool true) ∧ J (pre ++ [x]) T W' ∧ KeepsT (fun b => T b ∨ Rd b) W W') ∨ (e = .returned (.bool false) ∧ Jx (pre ++ [x]) T W'))
    (W : World) (hBh : Boxed W Bh 3 (.int .i64 h)) (hBk : Boxed W Bk 3 (.int .i64 kq)) (hBs : Boxed W Bs 52 (.int .u64 seed)) (h0 : J [] (fun _ => False) W) :
    CallsIn Fence.wide n Try.prog 80 #[.func (.yield l) #[] #[], .pointer (some ⟨Bh, 0, none⟩), .pointer (some ⟨Bk, 0, none⟩), .pointer (some ⟨Bs, 0, none⟩)] W fun e W' => (∃ v, e = .returned v) ∧
      ((∃ ys T, ys = mixed h m seed ∧ J ys T W') ∨ (∃ pre T, pre <+: mixed h m seed ∧ Jx pre T W')) := by
  have HJ := Aside0.mk hJ
  have HY := Aside0.mk hY
  clear hJ hY
  refine callsIn_of_wp Try.func80 rfl trivial ?_ rfl
  simp only [Try.ntmps80, List.size_toArray, List.length_cons, List.length_nil, Nat.reduceAdd, Nat.reduceSub, Array.replicate_succ, Array.replicate_zero, List.push_toArray, List.append_toArray, List.nil_append, List.cons_append]
  have c1 := hBh.cell
  have c2 := hBk.cell
  have c3 := hBs.cell
  have hw2 : wrap64 (2 * (h : Int)) = 2 * (h : Int) := mwr (by omega) (by omega)
  have hw3 : wrap64 (2 * (h : Int) - 1) = 2 * (h : Int) - 1 := mwr (by omega) (by omega)
  have d1 : decide (kq < 2 * (h : Int) - 1) = false := decide_eq_false (by omega)
  have d2 : decide (1024 < kq) = false := decide_eq_false (by omega)
  have hr : handRight (h : Int) = true := (handRight_iff _).2 ⟨by omega, by omega⟩
  gi_wp2_with (refine ⟨trivial, ?_⟩; gi_at_call 70; refine (handRight_calls _ _ _).mono ?_; rintro e w ⟨rfl, rfl⟩; rw [hr])
  have HW := Aside0.mk (Own112.mk (S := w.heap.size) (T := fun b => b = w.heap.size) (Boxed.new w 112 (.int .u64 seed)) (hBh.alloc _) (hBk.alloc _) rfl (fun b hb => by subst hb; rw [World.size_alloc]; omega))
  have HJ0 := Aside0.mk (HJ.out _ _ _ _ (fun b => b = w.heap.size) h0 (stepS_alloc w (.cells #[.int .u64 seed] 112)) (fun b hb => .inr (by subst hb; rw [World.size_alloc]; omega)))
  obtain ⟨S, hS⟩ : ∃ S, w.heap.size = S := ⟨_, rfl⟩
  rw [hS] at HW HJ0 ⊢
  clear c1 c2 c3 hBh hBk hBs h0 hS d1 d2 hw2 hw3
  have hwk : wrap64 (kq + 1) = kq + 1 := mwr (by omega) (by omega)
  have hwm : wrap64 (m : Int) = (m : Int) := mwr (by omega) (by omega)
  gi_loopw [6] (fun p wr => ∃ j : Nat, p = .int .i64 ((65536 - j * m : Nat) : Int) ∧ Aside0 (j * m < 65536) ∧ ∃ T, Aside0 (J (gen h m seed j).1 T wr) ∧ Aside0 (Own112 S Bh Bk h kq (gen h m seed j).2 T wr)) (fun p _ => (intOf p).toNat)
  case atStart => exact ⟨0, by simp, ⟨by omega⟩, _, HJ0, HW⟩
  case round =>
    obtain ⟨wo, rfl⟩ : ∃ wo : World, wo = wr := ⟨_, rfl⟩
    obtain ⟨j, rfl, Hj, T, HJ1, HO⟩ := hrel
    have c1 := HO.out.bh.cell
    have c2 := HO.out.bk.cell
    obtain ⟨s, hs⟩ : ∃ s, (gen h m seed j).2 = s := ⟨_, rfl⟩
    have HO' : Aside0 (Own112 S Bh Bk h kq s T wo) := by rw [← hs]; exact HO
    have hcall := sched_source_block.calls 2100 S s h m (blk h m s).1 (blk h m s).2 _ wo ⟨HO'.out.state, Nat.zero_le _⟩ (below_zero wo) (source_block_spec h m h1 h2 hm1 (by omega) s 2100 (by omega))
    have HS := Aside0.mk hs
    clear HO hs
    obtain ⟨lf, hlf⟩ : ∃ lf : Nat, 65536 - j * m = lf := ⟨_, rfl⟩
    rw [hlf]
    have HLF := Aside0.mk hlf
    clear hlf
    gi_wp2_with (refine ⟨trivial, ?_⟩; gi_at_call 81; go_loud (refine (callsIn_wide.2 hcall).mono ?_; rintro e w2 ⟨v, rfl, hR, hI2, hB2, hK2⟩; obtain ⟨A, c, rfl, hc, hC⟩ := Kd.R_reads hR))
    have hlen : (blk h m s).1.length = m := blk_length h m s
    have hne1 := hne112 HO'.out.bh HO'.out.state
    have hne2 := hne112 HO'.out.bk HO'.out.state
    have HO2 := Aside0.mk (Own112.mk (S := S) (Bh := Bh) (Bk := Bk) (h := (h : Int)) (kq := kq) (T := fun b => T b ∨ (wo.heap.size ≤ b ∧ b < w2.heap.size)) hI2.1 ((hK2.2 Bh HO'.out.bh.lt hne1 (by simp)).trans HO'.out.bh) ((hK2.2 Bk HO'.out.bk.lt hne2 (by simp)).trans HO'.out.bk) (.inl HO'.out.mine) (fun b hb => hb.elim (fun z => Nat.lt_of_lt_of_le (HO'.out.lt b z) hK2.1) (fun z => z.2)))
    have HJ2 := Aside0.mk (HJ.out _ T wo w2 (fun b => T b ∨ (wo.heap.size ≤ b ∧ b < w2.heap.size)) HJ1.out ⟨hB2.os, hB2.tape, hB2.output, hK2.1, fun k hk hn => hK2.2 k hk (fun e => hn (by rw [e]; exact HO'.out.mine)) (by simp)⟩ (fun b hb => hb))
    have HRb := Aside0.mk (Kd.R_bound hR)
    have HSZ := Aside0.mk hK2.1
    obtain ⟨T2, hT2⟩ : ∃ T2 : Nat → Prop, (fun b => T b ∨ (wo.heap.size ≤ b ∧ b < w2.heap.size)) = T2 := ⟨_, rfl⟩
    have HT2 := Aside0.mk (fun (b : Nat) (hb1 : wo.heap.size ≤ b) (hb2 : b < w2.heap.size) => (show T2 b by rw [← hT2]; exact .inr ⟨hb1, hb2⟩))
    rw [hT2] at HO2 HJ2
    obtain ⟨L, hL⟩ : ∃ L, (blk h m s).1 = L := ⟨_, rfl⟩
    obtain ⟨s', hs'⟩ : ∃ s', (blk h m s).2 = s' := ⟨_, rfl⟩
    rw [hL] at hlen HRb ⊢
    rw [hs'] at HO2
    have HL := Aside0.mk hL
    have HS' := Aside0.mk hs'
    have Hlen := Aside0.mk hlen
    clear hcall hR hI2 hB2 hK2 hC hc hL hs' hlen hT2 hne1 hne2 c1 c2
    gi_loopw [6, 33] (fun p i wr => ∃ t : Nat, p = .int .i64 ((lf - t : Nat) : Int) ∧ i = .int .i64 (t : Int) ∧ Aside0 (t ≤ m ∧ t ≤ lf) ∧ Aside0 (J ((gen h m seed j).1 ++ L.take t) T2 wr) ∧ Aside0 (Own112 S Bh Bk h kq s' T2 wr) ∧ Aside0 (w2.heap.size ≤ wr.heap.size ∧ ∀ b, wo.heap.size ≤ b → b < w2.heap.size → wr.heap[b]? = w2.heap[b]?)) (fun _ i _ => m - (intOf i).toNat)
    case atStart => exact ⟨0, by simp, rfl, ⟨by omega⟩, ⟨by rw [List.take_zero, List.append_nil]; exact HJ2.out⟩, HO2, ⟨Nat.le_refl _, fun _ _ _ => rfl⟩⟩
    case round =>
      obtain ⟨t, rfl, rfl, Ht, HJ3, HO3, HR3⟩ := hrel
      obtain ⟨e, he⟩ : ∃ e : Nat, lf - t = e := ⟨_, rfl⟩
      rw [he]
      have HE := Aside0.mk he
      clear he
      by_cases hlt : t < m
      · have hC := (Kd.R_reads' (Kd.R_move HRb.out (fun k hk => HR3.out.2 k hk.2.1 hk.2.2.1))).2.2
        obtain ⟨ad, rfl, hxc⟩ := Kd.at_int hC (t : Int) (by omega) (by rw [Hlen.out]; omega)
        rw [Int.toNat_natCast] at hxc
        have hlt2 : t < L.length := by rw [Hlen.out]; exact hlt
        have HLT := Aside0.mk hlt
        clear hlt hC
        by_cases hz : e = 0
        · have hzb : ((e : Int) == 0) = true := by rw [hz]; rfl
          have HZ := Aside0.mk hz
          clear hz
          gi_wp2
          refine ⟨fun _ h => (by cases h), ?_⟩
          gi_wp2
          refine bodyPost_ret (results_none rfl _ _ _) rfl ?_
          exact ⟨⟨_, rfl⟩, .inl ⟨_, T2, all_given h m seed j t lf e s L HS.out HL.out hm1 Ht.out.1 HLF.out HE.out HZ.out Ht.out.2 Hj.out, HJ3.out⟩⟩
        · have hzb : ((e : Int) == 0) = false := by simpa using hz
          have HZ := Aside0.mk hz
          clear hz
          obtain ⟨fn, tmps, assign, body, hy, hYR⟩ := HY.out _ (rd L (t : Int)) T2 wr HJ3.out (by rw [mixed_length h m seed hm1, List.length_append, gen_length, List.length_take, Hlen.out]; have := Ht.out; have := HLF.out; have := HE.out; have := HZ.out; omega)
          gi_wp2
          refine hYR.mono ?_
          rintro r W3 (⟨rfl, hJ4, hk4⟩ | ⟨rfl, hJx4⟩)
          · have HJ4 := Aside0.mk hJ4
            have HO4 := Aside0.mk (HO3.out.kept rh rk hk4)
            have HR4 := Aside0.mk (show w2.heap.size ≤ W3.heap.size ∧ ∀ b, wo.heap.size ≤ b → b < w2.heap.size → W3.heap[b]? = w2.heap[b]? from ⟨Nat.le_trans HR3.out.1 hk4.1, fun b hb1 hb2 => (hk4.2 b (.inl (HT2.out b hb1 hb2)) (by have := HR3.out.1; omega)).trans (HR3.out.2 b hb1 hb2)⟩)
            clear hJ4 hk4
            gi_wp2
            go_roundw
            case rel => exact ⟨t + 1, left_next lf t e HE.out HZ.out (by have := HLF.out; omega), ind_next t m HLT.out hm2, ⟨by have := HE.out; have := HZ.out; have := HLT.out; omega⟩, ⟨by rw [take_next' L t hlt2, ← List.append_assoc]; exact HJ4.out⟩, HO4, HR4⟩
            case measure => rw [ind_next t m HLT.out hm2]; simp only [intOf, Int.toNat_natCast]; have := HLT.out; omega
          · gi_wp2
            refine bodyPost_ret (results_none rfl _ _ _) rfl ?_
            exact ⟨⟨_, rfl⟩, .inr ⟨_, T2, some_given h m seed j t lf e s L HS.out HL.out hm1 hlt2 Hlen.out HLF.out HE.out HZ.out Hj.out, hJx4⟩⟩
      · have htm : t = m := by have := Ht.out.1; omega
        subst htm
        have hlt2 : ¬ t < L.length := by rw [Hlen.out]; omega
        clear hlt
        by_cases hz : e = 0
        · have hzb : ((e : Int) == 0) = true := by rw [hz]; rfl
          have HZ := Aside0.mk hz
          clear hz
          gi_wp2
          go_end0
          exact ⟨⟨_, rfl⟩, .inl ⟨_, T2, all_given h t seed j t lf e s L HS.out HL.out hm1 (Nat.le_refl _) HLF.out HE.out HZ.out Ht.out.2 Hj.out, HJ3.out⟩⟩
        · have hzb : ((e : Int) == 0) = false := by simpa using hz
          have HZ := Aside0.mk hz
          clear hz
          gi_wp2
          have hg1 : (gen h t seed (j + 1)).1 = (gen h t seed j).1 ++ L.take t := by
            show (gen h t seed j).1 ++ (blk h t (gen h t seed j).2).1 = _
            rw [HS.out, HL.out, List.take_of_length_le (by rw [Hlen.out]; exact Nat.le_refl _)]
          have hg2 : (gen h t seed (j + 1)).2 = s' := by
            show (blk h t (gen h t seed j).2).2 = s'
            rw [HS.out, HS'.out]
          have hjm : (j + 1) * t = j * t + t := Nat.succ_mul j t
          have h1 := HLF.out
          have h2 := HE.out
          have h3 := HZ.out
          have h4 := Hj.out
          refine ⟨⟨j + 1, ?_, ⟨by omega⟩, T2, ⟨by rw [hg1]; exact HJ3.out⟩, ⟨by rw [hg2]; exact HO3.out⟩⟩, by simp only [intOf, Int.toNat_natCast]; omega⟩
          rw [show 65536 - (j + 1) * t = e by omega]
end Go.Proofs.Ytfcjfjmjcmanaaa.X
