/- SchedWaits: the law's walk. -/
import Derived.Test.YtfcjfjmjcmanaaaBk
import Derived.Test.YtfcjfjmjcmanaaaBi
import Derived.Test.YtfcjfjmjcmanaaaKw
set_option linter.unusedVariables false
namespace Go.Proofs.Ytfcjfjmjcmanaaa.B
open Go Go.RowKit Go.Shelf Go.Proofs.Ytfcjfjmjcmanaaa.PBase Go.Proofs.YtfcjfjmjcmanaaaW.PrintWords Go.Proofs.YtfcjfjmjcmanaaaW.PrintLast Go.Proofs.YtfcjfjmjcmanaaaW.PrintMore
open Go.Proofs.Ytfcjfjmjcmanaaa.X (mixedOf Fine mixed_seq some_inS lim lim_of mixed_calls)
theorem Sl.of_own {W : World} {b : Nat} {v : Value} {L : List Int} (h : W.ownsRow b 3 1 v L.length (L.map (Value.int .i64))) (hn : v = .slice none 0 0 ↔ L = []) : Sl W (fun j => b ≤ j) v L := by
  rcases h.2 with ⟨e, h0⟩ | ⟨k, cap, cur, rfl, hk, r⟩
  · exact .inl ⟨e, hn.1 e⟩
  · have hp : 0 < L.length := List.length_pos_iff.2 (fun z => by have := hn.2 z; cases this)
    refine Sl.of_row ⟨h.1, .inr ⟨k, cap, cur, rfl, Nat.zero_le _, r⟩⟩ hp (fun j hj => ?_)
    obtain rfl : k = j := by simpa [Value.ownBlock] using hj
    exact hk
theorem some_mixed1 (h kq seed m : Int) (Bh Bk Bs : Nat) (w : World) (hBh : Boxed w Bh 3 (.int .i64 h)) (hBk : Boxed w Bk 3 (.int .i64 kq)) (hBs : Boxed w Bs 52 (.int .u64 seed)) :
    Calls Try.prog 23 #[.func (.func 80) #[] #[.pointer (some ⟨Bh, 0, none⟩), .pointer (some ⟨Bk, 0, none⟩), .pointer (some ⟨Bs, 0, none⟩)], .int .i64 m] w fun e W' => ∃ v, e = .returned v ∧ Sl W' (fun j => w.heap.size ≤ j) v ((mixedOf h kq seed).take (lim m)) ∧ Below w.heap.size w W' :=
  (callsIn_wide.1 (some_inS Fence.wide 3 trivial 80 _ trivial (enters_of Try.func80 (by kernel_rfl) rfl) rfl (by omega) m (mixedOf h kq seed) w (fun b => b = Bh ∨ b = Bk ∨ b = Bs) (fun b hb => by
      rcases hb with rfl | rfl | rfl
      · exact hBh.lt
      · exact hBk.lt
      · exact hBs.lt)
    (fun W hW hs l J Jx W1 hW1 hJ hJx hY h0 => by
      have hk : ∀ b, b < w.heap.size → W1.heap[b]? = w.heap[b]? := fun b hb => ((hW1.mono hW.size).block b hb).trans (hW.block b hb)
      exact mixed_seq 2 (by omega) l Bh Bk Bs h kq seed _ (.inl rfl) (.inr (.inl rfl)) J Jx hJ hJx hY W1 ((hk Bh hBh.lt).trans hBh) ((hk Bk hBk.lt).trans hBk) ((hk Bs hBs.lt).trans hBs) h0))).mono fun e W' ⟨v, he, hr, hn, hB⟩ => ⟨v, he, Sl.of_own hr hn, hB⟩
theorem some_mixed2 (h kq seed : Int) (N : Nat) (hN : N ≤ 4000) (Bh Bk Bs : Nat) (w : World) (hBh : Boxed w Bh 3 (.int .i64 h)) (hBk : Boxed w Bk 3 (.int .i64 kq)) (hBs : Boxed w Bs 52 (.int .u64 seed)) :
    Calls Try.prog 23 #[.func (.func 80) #[] #[.pointer (some ⟨Bh, 0, none⟩), .pointer (some ⟨Bk, 0, none⟩), .pointer (some ⟨Bs, 0, none⟩)], .int .i64 (N : Int)] w fun e W' => ∃ v, e = .returned v ∧ Sl W' (fun j => w.heap.size ≤ j) v ((mixedOf h kq seed).take N) ∧ Below w.heap.size w W' := by
  have := some_mixed1 h kq seed N Bh Bk Bs w hBh hBk hBs
  rw [lim_of (by omega), Int.toNat_natCast] at this
  exact this
theorem add_nx (ad : Addr) (k j : Nat) : ad.add (k + (j + 1)) = ⟨(ad.add k).block, (ad.add k).off + (j + 1), none⟩ := by
  unfold Addr.add
  rw [if_neg (by omega)]
  by_cases h : k = 0
  · subst h; simp
  · rw [if_neg h]; simp only [Addr.mk.injEq]; refine ⟨?_, ?_, ?_⟩ <;> first | trivial | omega
variable {W wr : World} {p : Nat} {B : Bd} {v9 v10 : Value} {Lw Lr : List Int} {M : Nat}
theorem J.finish (h : J W wr p B v9 v10 Lw Lr M) (x : Int) : Calls Try.prog 48 #[.pointer (some ⟨p, 0, none⟩), .int .i64 x] wr fun e W' => e = .returned (.int .i64 (B.finish x).2) ∧ J W W' p (B.finish x).1 v9 v10 Lw Lr M := by
  obtain ⟨T, g, m, N, f, hN, hB, hT, h9, h10, hW⟩ := h
  refine (finish_calls hB x).mono ?_
  rintro e w ⟨rfl, hB', ht⟩
  exact ⟨rfl, J.turn hB hT h9 h10 hW hB' ht (fun _ h => .inl h) hN⟩
theorem J.pick (h : J W wr p B v9 v10 Lw Lr M) (hn : 1 ≤ B.l.length ∧ B.l.length ≤ 16) (x : Int) : Calls Try.prog 49 #[.pointer (some ⟨p, 0, none⟩), .int .i64 x] wr fun e W' => e = .returned (.tuple #[.int .i64 (B.pick x).2.1, .bool (B.pick x).2.2]) ∧ J W W' p (B.pick x).1 v9 v10 Lw Lr M := by
  obtain ⟨T, g, m, N, f, hN, hB, hT, h9, h10, hW⟩ := h
  refine (pick_calls hB hn x).mono ?_
  rintro e w ⟨rfl, hB', ht⟩
  exact ⟨rfl, J.turn hB hT h9 h10 hW hB' ht (fun _ h => .inl h) hN⟩
theorem J.longest (h : J W wr p B v9 v10 Lw Lr M) (hn : B.l.length ≤ 16) : Calls Try.prog 50 #[.pointer (some ⟨p, 0, none⟩)] wr fun e W' => e = .returned (.tuple #[.int .i64 B.longest.1, .int .i64 B.longest.2]) ∧ Below wr.heap.size wr W' := by
  obtain ⟨T, g, m, N, f, hN, hB, hT, h9, h10, hW⟩ := h
  exact longest_calls hB hn
set_option maxRecDepth 100000
set_option maxHeartbeats 8000000
/-- The loop and what is ahead of it, where picks come. -/
theorem waits_good (seed : Int) (h : Nat) (h1 : 1 ≤ h) (h2 : h ≤ 16) (k : Int) (k1 : 2 * (h : Int) - 1 ≤ k) (k2 : k ≤ 1024) (A : Option Addr) (c : Nat) (l : List Op3) {W : World} (hA : OpsAt W A l ∧ ∀ x ∈ l, (Lit.int .i64 x.2.2).wf = true) (hc : l.length ≤ c) :
    Calls Try.prog 11 #[.int .u64 seed, .int .i64 h, .int .i64 k, .slice A l.length c] W fun e W' => e = .returned (.bool true) ∧ Below W.heap.size W W' := by
  obtain ⟨N, hN⟩ : ∃ N, min l.length 4000 = N := ⟨_, rfl⟩
  have hNl : N ≤ l.length := by omega
  have hN4 : N ≤ 4000 := by omega
  have hf : Fine (h : Int) k := by unfold Fine; omega
  obtain ⟨wf, wl, wn⟩ := X.wmixed_wfair h ((k + 1) / 2).toNat seed k (by omega) (by omega) (by omega) (by omega) (by omega) N (by omega)
  have hm := X.mixedOf_yes (seed := seed) hf
  rw [Int.toNat_natCast] at hm
  rw [← hm] at wf wl wn
  have HSM := fun Bh Bk Bs w a b c => some_mixed2 (h : Int) k seed N hN4 Bh Bk Bs w a b c
  generalize (mixedOf (h : Int) k seed).take N = L at wf wl wn HSM
  have HSM := Aside0.mk HSM
  have HWF := Aside0.mk wf
  have HWL := Aside0.mk wl
  have HWN := Aside0.mk wn
  have HA := Aside0.mk hA
  have HC := Aside0.mk hc
  have HH := Aside0.mk (And.intro h1 h2)
  have HK := Aside0.mk (And.intro k1 k2)
  have HNN := Aside0.mk (And.intro hNl hN4)
  have hw : wrap64 (wrap64 (2 * (h : Int)) - 1) = 2 * (h : Int) - 1 := by rw [X.hwrId (x := 2 * (h : Int)) (by omega) (by omega), X.hwrId (by omega) (by omega)]
  have d5 : decide (k < 2 * (h : Int) - 1) = false := decide_eq_false (by omega)
  have d6 : decide (k > 1024) = false := decide_eq_false (by omega)
  have d7 : decide (1024 < k) = false := decide_eq_false (by omega)
  have HNW := Aside0.mk (new_calls (W := W) (h : Int) (by omega) (by omega))
  have hlb : ((L.length : Int) != (N : Int)) = false := by rw [wl]; simp
  have hmin : min (l.length : Int) 4000 = (N : Int) := by omega
  clear hNl hN4 hf hm wf wl wn hA hc h1 h2 k1 k2 hN
  go_enter Try.func11, Try.ntmps11
  go_wp2_with (first
    | (go_at_call 38; refine HNW.out.mono ?_; rintro e w1 ⟨p, T, g, m, rfl, hB, hW, hT⟩; have HB1 := Aside0.mk hB; have HW1 := Aside0.mk hW; have HT1 := Aside0.mk hT; clear hB hW hT)
    | (go_at_call 34; refine (mixed_calls seed h k _).mono ?_; rintro e w5 ⟨rfl, rfl⟩; have bS := Aside0.mk ((Boxed.new w1 52 (.int .u64 seed)).alloc (.cells #[.int .i64 h] 3) |>.alloc (.cells #[.int .i64 k] 3)); have bH := Aside0.mk ((Boxed.new (w1.alloc (.cells #[.int .u64 seed] 52)) 3 (.int .i64 h)).alloc (.cells #[.int .i64 k] 3)); have bK := Aside0.mk (Boxed.new ((w1.alloc (.cells #[.int .u64 seed] 52)).alloc (.cells #[.int .i64 h] 3)) 3 (.int .i64 k)); simp only [World.size_alloc] at bH bK)
    | (go_at_call 23; refine (HSM.out _ _ _ _ bH.out bK.out bS.out).mono ?_; rintro e w2 ⟨v11, rfl, hs, hb⟩; obtain ⟨A11, c11, rfl, hc11, _⟩ := hs.C; have HC11 := Aside0.mk hc11; have HJ0 : Aside0 (J W w2 p (Bd.new h) (.slice A11 L.length c11) nilv L [] 0) := ⟨by
        have hb2 : Below w1.heap.size w1 w2 := below_step (by (repeat (first | exact Below.refl _ _ | apply below_drew | apply pw_below_drewN | apply below_alloc))) hb
        refine ⟨T, g, m, 0, _, Nat.le_refl _, HB1.out.below hb2, HT1.out, hs.mono (fun j _ hj => ?_), Sl.nil _ _, below_step HW1.out hb2⟩
        simp only [World.size_alloc] at hj
        exact ⟨fun z => by have := HB1.out.lt j z; omega, by have := HW1.out.size; omega⟩⟩; clear hs hb hc11))
  go_loopw [12] (fun vi wr => ∃ (i : Nat) (B : Bd), vi = .int .i64 i ∧ Aside0 (i ≤ L.length) ∧ Aside0 (WInv B L h i i) ∧ Aside0 (J W wr p B (.slice A11 L.length c11) nilv L [] i)) (fun vi _ => ((L.length : Int) - intOf vi).toNat)
  case atStart => exact ⟨0, _, rfl, ⟨Nat.zero_le _⟩, ⟨by have := winv_new (h : Int) L; rwa [Int.toNat_natCast] at this⟩, HJ0⟩
  case round =>
    clear HJ0 HNW HSM bS bH bK HB1 HW1 HT1
    obtain ⟨i, B, rfl, Hi, HI, HJ⟩ := hrel
    rename World => W3
    by_cases hlt : i < L.length
    · have hltb : decide (i < L.length) = true := decide_eq_true hlt
      have hltc : decide ((i : Int) < (L.length : Int)) = true := decide_eq_true (by omega)
      have hil : i < l.length := by have := HWL.out; have := HNN.out; omega
      obtain ⟨⟨kd, hh, on⟩, hx⟩ : ∃ x, l[i]? = some x := ⟨_, List.getElem?_eq_getElem hil⟩
      obtain ⟨ad, rfl, d0, d1, d2⟩ := (HA.out.1.below (W' := W3) (HJ.out.base)) i _ hx
      obtain ⟨a11, rfl, _⟩ := Kd.at_int HJ.out.C9 (i : Int) (by omega) (by omega)
      obtain ⟨d, hd⟩ : ∃ d, rd L (i : Int) = d := ⟨_, rfl⟩
      have hgd : L.getD i 0 = d := by rw [← hd]; unfold rd; rw [Int.toNat_natCast]
      have HRP : Aside0 (∀ w B M, J W w p B (.slice (some a11) L.length c11) nilv L [] M → w.cell? (a11.add i) = some (.int .i64 d)) := ⟨fun w B M hj => by obtain ⟨a', e, hh⟩ := Kd.at_int hj.C9 (i : Int) (by omega) (by omega); cases e; rw [hd, Int.toNat_natCast] at hh; exact hh⟩
      have hmem : d ∈ L := by rw [← hgd, List.getD_eq_getElem?_getD, List.getElem?_eq_getElem hlt]; exact List.getElem_mem _
      have HD : Aside0 (0 ≤ d ∧ d < (h : Int) ∧ L.getD i 0 = d ∧ i ≤ 65536) := ⟨(HWN.out d hmem).1, (HWN.out d hmem).2, hgd, by have := HWL.out; have := HNN.out; omega⟩
      have HIL := Aside0.mk (show i + 1 ≤ L.length by omega)
      have hw1 : wrap64 ((i : Int) + 1) = ((i + 1 : Nat) : Int) := by have := HD.out.2.2.2; rw [X.hwrId (by omega) (by omega)]; omega
      have HW1 := Aside0.mk hw1
      have HON := Aside0.mk (HA.out.2 (kd, hh, on) (List.mem_of_getElem? hx))
      have HLT := Aside0.mk hlt
      have d1' : W3.cell? ⟨(ad.add (i * 3)).block, (ad.add (i * 3)).off + 1, none⟩ = some (.int .i64 hh) := by rw [← add_nx]; exact d1
      have d2' : W3.cell? ⟨(ad.add (i * 3)).block, (ad.add (i * 3)).off + 2, none⟩ = some (.int .i64 on) := by rw [← add_nx]; exact d2
      have HDC := Aside0.mk (And.intro d0 (And.intro d1 d2))
      simp only at d0
      replace hlt := eq_true hlt
      replace hil := eq_true hil
      have HMX : Aside0 (i + 1 < maxLen) := ⟨by have := HD.out.2.2.2; unfold maxLen; omega⟩
      have fin : ∀ (w : World) (B' : Bd), WInv B' L h (i + 1) (i + 1) → J W w p B' (.slice (some a11) L.length c11) nilv L [] (i + 1) → (∃ (i' : Nat) (B'' : Bd), Value.int .i64 (wrap64 ((i : Int) + 1)) = .int .i64 i' ∧ Aside0 (i' ≤ L.length) ∧ Aside0 (WInv B'' L h i' i') ∧ Aside0 (J W w p B'' (.slice (some a11) L.length c11) nilv L [] i')) ∧ ((L.length : Int) - intOf (Value.int .i64 (wrap64 ((i : Int) + 1)))).toNat < ((L.length : Int) - intOf (Value.int .i64 i)).toNat := fun w B' hi hj =>
        ⟨⟨i + 1, B', by rw [HW1.out], HIL, ⟨hi⟩, ⟨hj⟩⟩, by rw [HW1.out]; simp only [intOf]; have := HLT.out; omega⟩
      have FIN := Aside0.mk fin
      clear fin hx hd hgd hmem hw1 Hi
      have tA := True.intro
      have tP := True.intro
      have HLQ : Aside0 ((B.q on).length + 1 ≤ 4398046511104) := ⟨by have := HI.out.ln on; have := HD.out.2.2.2; omega⟩
      by_cases k0 : kd = 0
      · subst k0
        go_wp2_with (first
            | (go_at_call 39; have _t := tA; refine ((HJ.out.below (by (repeat (first | exact Below.refl _ _ | apply below_drew | apply pw_below_drewN | apply below_alloc)))).start hh).mono ?_; rintro e w5 ⟨rfl, hj⟩; have hi := HI.out.start hh; revert hj hi; generalize (Bd.start B hh).1 = B5; intro hj hi; have HJ5 := Aside0.mk (hj.mono (Nat.le_succ i)); have HI5 : Aside0 (WInv B5 L h i (i + 1)) := ⟨⟨hi.n, hi.hq, fun k => Nat.le_succ_of_le (hi.ln k), hi.ct⟩⟩; have hx5 := HRP.out _ _ _ hj; clear hj hi tA)
            | (go_at_call 49; have _t := tP; refine ((HJ5.out.below (by (repeat (first | exact Below.refl _ _ | apply below_drew | apply pw_below_drewN | apply below_alloc)))).pick (by rw [HI5.out.n]; exact HH.out) d).mono ?_; rintro e w6 ⟨rfl, hj⟩; have hi6 := HI5.out.pick d HD.out.1 HD.out.2.1 HD.out.2.2.1 HD.out.2.2.2; revert hj hi6; generalize (Bd.pick B5 d).1 = B6; intro hj hi6; have hlw := hi6.law k (by have := HK.out; have := HH.out; omega) HIL.out HWF.out; have hlg := hj.longest (by rw [hi6.n]; exact HH.out.2); have hrd := fun w (z : J W w p B6 (.slice (some a11) L.length c11) nilv L [] (i + 1)) => z.ready (by rw [hi6.n]; exact HH.out.2); obtain ⟨⟨a, b⟩, hab⟩ : ∃ ab, B6.longest = ab := ⟨_, rfl⟩; rw [hab] at hlw hlg; obtain ⟨l1, l2, l3⟩ := hlw; have q1 : decide (k ≤ b) = false := decide_eq_false (by simp only at l1; omega); have q2 : decide (b < 0) = false := decide_eq_false (by simp only at l2; omega); obtain ⟨r, hr⟩ : ∃ r, decide (a < 0) = r := ⟨_, rfl⟩; simp only at l3; rw [hr] at l3; have hrn : B6.ready.length = 0 ↔ r = true := ⟨fun z => by rw [l3, z]; rfl, fun z => by rw [z] at l3; have := eq_of_beq l3.symm; omega⟩; obtain ⟨nr, hnr⟩ : ∃ nr, B6.ready.length = nr := ⟨_, rfl⟩; have HNR := Aside0.mk hnr; rw [hnr] at l3 hrn; have HRN := Aside0.mk hrn; have q3 := l3.symm; have HJ6 := Aside0.mk hj; have HI6 := Aside0.mk hi6; have HLG := Aside0.mk hlg; have HRD := Aside0.mk hrd; clear hj hi6 hlg hrd l1 l2 l3 hab hrn hnr tP; have tQ := True.intro)
            | (go_at_call 50; have _t := tQ; refine HLG.out.mono ?_; rintro e w7 ⟨rfl, hb⟩; have HJ7 := Aside0.mk (HJ6.out.below hb); clear hb tQ; have tR := True.intro)
            | (go_at_call 42; have _t := tR; refine (HRD.out _ HJ7.out).mono ?_; rintro e w8 ⟨A8, c8, rfl, hc, hC, hb⟩; rw [HNR.out]; have HJ8 := Aside0.mk (HJ7.out.below hb); clear hc hC hb tR))
        exact FIN.out _ _ HI6.out HJ8.out
      have b0 : (kd == 0) = false := beq_eq_false_iff_ne.2 k0
      by_cases k1 : kd = 1
      · subst k1
        go_wp2_with (first
            | (go_at_call 40; have _t := tA; refine ((HJ.out.below (by (repeat (first | exact Below.refl _ _ | apply below_drew | apply pw_below_drewN | apply below_alloc)))).block HMX.out hh on HON.out HLQ.out).mono ?_; rintro e w5 ⟨rfl, hj⟩; have hi := HI.out.block hh on; revert hj hi; generalize (Bd.block B hh on).1 = B5; intro hj hi; have HJ5 := Aside0.mk (hj); have HI5 : Aside0 (WInv B5 L h i (i + 1)) := ⟨hi⟩; have hx5 := HRP.out _ _ _ hj; clear hj hi tA)
            | (go_at_call 49; have _t := tP; refine ((HJ5.out.below (by (repeat (first | exact Below.refl _ _ | apply below_drew | apply pw_below_drewN | apply below_alloc)))).pick (by rw [HI5.out.n]; exact HH.out) d).mono ?_; rintro e w6 ⟨rfl, hj⟩; have hi6 := HI5.out.pick d HD.out.1 HD.out.2.1 HD.out.2.2.1 HD.out.2.2.2; revert hj hi6; generalize (Bd.pick B5 d).1 = B6; intro hj hi6; have hlw := hi6.law k (by have := HK.out; have := HH.out; omega) HIL.out HWF.out; have hlg := hj.longest (by rw [hi6.n]; exact HH.out.2); have hrd := fun w (z : J W w p B6 (.slice (some a11) L.length c11) nilv L [] (i + 1)) => z.ready (by rw [hi6.n]; exact HH.out.2); obtain ⟨⟨a, b⟩, hab⟩ : ∃ ab, B6.longest = ab := ⟨_, rfl⟩; rw [hab] at hlw hlg; obtain ⟨l1, l2, l3⟩ := hlw; have q1 : decide (k ≤ b) = false := decide_eq_false (by simp only at l1; omega); have q2 : decide (b < 0) = false := decide_eq_false (by simp only at l2; omega); obtain ⟨r, hr⟩ : ∃ r, decide (a < 0) = r := ⟨_, rfl⟩; simp only at l3; rw [hr] at l3; have hrn : B6.ready.length = 0 ↔ r = true := ⟨fun z => by rw [l3, z]; rfl, fun z => by rw [z] at l3; have := eq_of_beq l3.symm; omega⟩; obtain ⟨nr, hnr⟩ : ∃ nr, B6.ready.length = nr := ⟨_, rfl⟩; have HNR := Aside0.mk hnr; rw [hnr] at l3 hrn; have HRN := Aside0.mk hrn; have q3 := l3.symm; have HJ6 := Aside0.mk hj; have HI6 := Aside0.mk hi6; have HLG := Aside0.mk hlg; have HRD := Aside0.mk hrd; clear hj hi6 hlg hrd l1 l2 l3 hab hrn hnr tP; have tQ := True.intro)
            | (go_at_call 50; have _t := tQ; refine HLG.out.mono ?_; rintro e w7 ⟨rfl, hb⟩; have HJ7 := Aside0.mk (HJ6.out.below hb); clear hb tQ; have tR := True.intro)
            | (go_at_call 42; have _t := tR; refine (HRD.out _ HJ7.out).mono ?_; rintro e w8 ⟨A8, c8, rfl, hc, hC, hb⟩; rw [HNR.out]; have HJ8 := Aside0.mk (HJ7.out.below hb); clear hc hC hb tR))
        exact FIN.out _ _ HI6.out HJ8.out
      have b1 : (kd == 1) = false := beq_eq_false_iff_ne.2 k1
      by_cases k2 : kd = 2
      · subst k2
        go_wp2_with (first
            | (go_at_call 44; have _t := tA; refine ((HJ.out.below (by (repeat (first | exact Below.refl _ _ | apply below_drew | apply pw_below_drewN | apply below_alloc)))).wake on HON.out (HI.out.hq on) (Nat.le_of_succ_le HLQ.out)).mono ?_; rintro e w5 ⟨A5, c5, rfl, _, _, hj⟩; have hi := HI.out.wake on; revert hj hi; generalize Bd.wake B on = B5; intro hj hi; have HJ5 := Aside0.mk (hj.mono (Nat.le_succ i)); have HI5 : Aside0 (WInv B5 L h i (i + 1)) := ⟨⟨hi.n, hi.hq, fun k => Nat.le_succ_of_le (hi.ln k), hi.ct⟩⟩; have hx5 := HRP.out _ _ _ hj; clear hj hi tA)
            | (go_at_call 49; have _t := tP; refine ((HJ5.out.below (by (repeat (first | exact Below.refl _ _ | apply below_drew | apply pw_below_drewN | apply below_alloc)))).pick (by rw [HI5.out.n]; exact HH.out) d).mono ?_; rintro e w6 ⟨rfl, hj⟩; have hi6 := HI5.out.pick d HD.out.1 HD.out.2.1 HD.out.2.2.1 HD.out.2.2.2; revert hj hi6; generalize (Bd.pick B5 d).1 = B6; intro hj hi6; have hlw := hi6.law k (by have := HK.out; have := HH.out; omega) HIL.out HWF.out; have hlg := hj.longest (by rw [hi6.n]; exact HH.out.2); have hrd := fun w (z : J W w p B6 (.slice (some a11) L.length c11) nilv L [] (i + 1)) => z.ready (by rw [hi6.n]; exact HH.out.2); obtain ⟨⟨a, b⟩, hab⟩ : ∃ ab, B6.longest = ab := ⟨_, rfl⟩; rw [hab] at hlw hlg; obtain ⟨l1, l2, l3⟩ := hlw; have q1 : decide (k ≤ b) = false := decide_eq_false (by simp only at l1; omega); have q2 : decide (b < 0) = false := decide_eq_false (by simp only at l2; omega); obtain ⟨r, hr⟩ : ∃ r, decide (a < 0) = r := ⟨_, rfl⟩; simp only at l3; rw [hr] at l3; have hrn : B6.ready.length = 0 ↔ r = true := ⟨fun z => by rw [l3, z]; rfl, fun z => by rw [z] at l3; have := eq_of_beq l3.symm; omega⟩; obtain ⟨nr, hnr⟩ : ∃ nr, B6.ready.length = nr := ⟨_, rfl⟩; have HNR := Aside0.mk hnr; rw [hnr] at l3 hrn; have HRN := Aside0.mk hrn; have q3 := l3.symm; have HJ6 := Aside0.mk hj; have HI6 := Aside0.mk hi6; have HLG := Aside0.mk hlg; have HRD := Aside0.mk hrd; clear hj hi6 hlg hrd l1 l2 l3 hab hrn hnr tP; have tQ := True.intro)
            | (go_at_call 50; have _t := tQ; refine HLG.out.mono ?_; rintro e w7 ⟨rfl, hb⟩; have HJ7 := Aside0.mk (HJ6.out.below hb); clear hb tQ; have tR := True.intro)
            | (go_at_call 42; have _t := tR; refine (HRD.out _ HJ7.out).mono ?_; rintro e w8 ⟨A8, c8, rfl, hc, hC, hb⟩; rw [HNR.out]; have HJ8 := Aside0.mk (HJ7.out.below hb); clear hc hC hb tR))
        exact FIN.out _ _ HI6.out HJ8.out
      have b2 : (kd == 2) = false := beq_eq_false_iff_ne.2 k2
      by_cases k3 : kd = 3
      · subst k3
        go_wp2_with (first
            | (go_at_call 43; have _t := tA; refine ((HJ.out.below (by (repeat (first | exact Below.refl _ _ | apply below_drew | apply pw_below_drewN | apply below_alloc)))).first HMX.out on HON.out (HI.out.hq on)).mono ?_; rintro e w5 ⟨rfl, hj⟩; have hi := HI.out.first on; revert hj hi; generalize (Bd.first B on).1 = B5; intro hj hi; have HJ5 := Aside0.mk (hj); have HI5 : Aside0 (WInv B5 L h i (i + 1)) := ⟨⟨hi.n, hi.hq, fun k => Nat.le_succ_of_le (hi.ln k), hi.ct⟩⟩; have hx5 := HRP.out _ _ _ hj; clear hj hi tA)
            | (go_at_call 49; have _t := tP; refine ((HJ5.out.below (by (repeat (first | exact Below.refl _ _ | apply below_drew | apply pw_below_drewN | apply below_alloc)))).pick (by rw [HI5.out.n]; exact HH.out) d).mono ?_; rintro e w6 ⟨rfl, hj⟩; have hi6 := HI5.out.pick d HD.out.1 HD.out.2.1 HD.out.2.2.1 HD.out.2.2.2; revert hj hi6; generalize (Bd.pick B5 d).1 = B6; intro hj hi6; have hlw := hi6.law k (by have := HK.out; have := HH.out; omega) HIL.out HWF.out; have hlg := hj.longest (by rw [hi6.n]; exact HH.out.2); have hrd := fun w (z : J W w p B6 (.slice (some a11) L.length c11) nilv L [] (i + 1)) => z.ready (by rw [hi6.n]; exact HH.out.2); obtain ⟨⟨a, b⟩, hab⟩ : ∃ ab, B6.longest = ab := ⟨_, rfl⟩; rw [hab] at hlw hlg; obtain ⟨l1, l2, l3⟩ := hlw; have q1 : decide (k ≤ b) = false := decide_eq_false (by simp only at l1; omega); have q2 : decide (b < 0) = false := decide_eq_false (by simp only at l2; omega); obtain ⟨r, hr⟩ : ∃ r, decide (a < 0) = r := ⟨_, rfl⟩; simp only at l3; rw [hr] at l3; have hrn : B6.ready.length = 0 ↔ r = true := ⟨fun z => by rw [l3, z]; rfl, fun z => by rw [z] at l3; have := eq_of_beq l3.symm; omega⟩; obtain ⟨nr, hnr⟩ : ∃ nr, B6.ready.length = nr := ⟨_, rfl⟩; have HNR := Aside0.mk hnr; rw [hnr] at l3 hrn; have HRN := Aside0.mk hrn; have q3 := l3.symm; have HJ6 := Aside0.mk hj; have HI6 := Aside0.mk hi6; have HLG := Aside0.mk hlg; have HRD := Aside0.mk hrd; clear hj hi6 hlg hrd l1 l2 l3 hab hrn hnr tP; have tQ := True.intro)
            | (go_at_call 50; have _t := tQ; refine HLG.out.mono ?_; rintro e w7 ⟨rfl, hb⟩; have HJ7 := Aside0.mk (HJ6.out.below hb); clear hb tQ; have tR := True.intro)
            | (go_at_call 42; have _t := tR; refine (HRD.out _ HJ7.out).mono ?_; rintro e w8 ⟨A8, c8, rfl, hc, hC, hb⟩; rw [HNR.out]; have HJ8 := Aside0.mk (HJ7.out.below hb); clear hc hC hb tR))
        exact FIN.out _ _ HI6.out HJ8.out
      have b3 : (kd == 3) = false := beq_eq_false_iff_ne.2 k3
      by_cases k4 : kd = 4
      · subst k4
        go_wp2_with (first
            | (go_at_call 48; have _t := tA; refine ((HJ.out.below (by (repeat (first | exact Below.refl _ _ | apply below_drew | apply pw_below_drewN | apply below_alloc)))).finish hh).mono ?_; rintro e w5 ⟨rfl, hj⟩; have hi := HI.out.finish hh; revert hj hi; generalize (Bd.finish B hh).1 = B5; intro hj hi; have HJ5 := Aside0.mk (hj.mono (Nat.le_succ i)); have HI5 : Aside0 (WInv B5 L h i (i + 1)) := ⟨⟨hi.n, hi.hq, fun k => Nat.le_succ_of_le (hi.ln k), hi.ct⟩⟩; have hx5 := HRP.out _ _ _ hj; clear hj hi tA)
            | (go_at_call 49; have _t := tP; refine ((HJ5.out.below (by (repeat (first | exact Below.refl _ _ | apply below_drew | apply pw_below_drewN | apply below_alloc)))).pick (by rw [HI5.out.n]; exact HH.out) d).mono ?_; rintro e w6 ⟨rfl, hj⟩; have hi6 := HI5.out.pick d HD.out.1 HD.out.2.1 HD.out.2.2.1 HD.out.2.2.2; revert hj hi6; generalize (Bd.pick B5 d).1 = B6; intro hj hi6; have hlw := hi6.law k (by have := HK.out; have := HH.out; omega) HIL.out HWF.out; have hlg := hj.longest (by rw [hi6.n]; exact HH.out.2); have hrd := fun w (z : J W w p B6 (.slice (some a11) L.length c11) nilv L [] (i + 1)) => z.ready (by rw [hi6.n]; exact HH.out.2); obtain ⟨⟨a, b⟩, hab⟩ : ∃ ab, B6.longest = ab := ⟨_, rfl⟩; rw [hab] at hlw hlg; obtain ⟨l1, l2, l3⟩ := hlw; have q1 : decide (k ≤ b) = false := decide_eq_false (by simp only at l1; omega); have q2 : decide (b < 0) = false := decide_eq_false (by simp only at l2; omega); obtain ⟨r, hr⟩ : ∃ r, decide (a < 0) = r := ⟨_, rfl⟩; simp only at l3; rw [hr] at l3; have hrn : B6.ready.length = 0 ↔ r = true := ⟨fun z => by rw [l3, z]; rfl, fun z => by rw [z] at l3; have := eq_of_beq l3.symm; omega⟩; obtain ⟨nr, hnr⟩ : ∃ nr, B6.ready.length = nr := ⟨_, rfl⟩; have HNR := Aside0.mk hnr; rw [hnr] at l3 hrn; have HRN := Aside0.mk hrn; have q3 := l3.symm; have HJ6 := Aside0.mk hj; have HI6 := Aside0.mk hi6; have HLG := Aside0.mk hlg; have HRD := Aside0.mk hrd; clear hj hi6 hlg hrd l1 l2 l3 hab hrn hnr tP; have tQ := True.intro)
            | (go_at_call 50; have _t := tQ; refine HLG.out.mono ?_; rintro e w7 ⟨rfl, hb⟩; have HJ7 := Aside0.mk (HJ6.out.below hb); clear hb tQ; have tR := True.intro)
            | (go_at_call 42; have _t := tR; refine (HRD.out _ HJ7.out).mono ?_; rintro e w8 ⟨A8, c8, rfl, hc, hC, hb⟩; rw [HNR.out]; have HJ8 := Aside0.mk (HJ7.out.below hb); clear hc hC hb tR))
        exact FIN.out _ _ HI6.out HJ8.out
      have b4 : (kd == 4) = false := beq_eq_false_iff_ne.2 k4
      have HJ5 := Aside0.mk (HJ.out.mono (Nat.le_succ i))
      obtain ⟨B5, hB5⟩ : ∃ B5, B = B5 := ⟨_, rfl⟩
      subst hB5
      have hx5 := HRP.out _ _ _ (HJ.out.below (w := W3.alloc (.cells #[.int .i64 kd, .int .i64 hh, .int .i64 on] 78)) (by (repeat (first | exact Below.refl _ _ | apply below_drew | apply pw_below_drewN | apply below_alloc))))
      have HI5 : Aside0 (WInv B L h i (i + 1)) := ⟨⟨HI.out.n, HI.out.hq, fun k => Nat.le_succ_of_le (HI.out.ln k), HI.out.ct⟩⟩
      clear k0 k1 k2 k3 k4
      go_wp2_with (first
            | (go_at_call 49; have _t := tP; refine ((HJ5.out.below (by (repeat (first | exact Below.refl _ _ | apply below_drew | apply pw_below_drewN | apply below_alloc)))).pick (by rw [HI5.out.n]; exact HH.out) d).mono ?_; rintro e w6 ⟨rfl, hj⟩; have hi6 := HI5.out.pick d HD.out.1 HD.out.2.1 HD.out.2.2.1 HD.out.2.2.2; revert hj hi6; generalize (Bd.pick B d).1 = B6; intro hj hi6; have hlw := hi6.law k (by have := HK.out; have := HH.out; omega) HIL.out HWF.out; have hlg := hj.longest (by rw [hi6.n]; exact HH.out.2); have hrd := fun w (z : J W w p B6 (.slice (some a11) L.length c11) nilv L [] (i + 1)) => z.ready (by rw [hi6.n]; exact HH.out.2); obtain ⟨⟨a, b⟩, hab⟩ : ∃ ab, B6.longest = ab := ⟨_, rfl⟩; rw [hab] at hlw hlg; obtain ⟨l1, l2, l3⟩ := hlw; have q1 : decide (k ≤ b) = false := decide_eq_false (by simp only at l1; omega); have q2 : decide (b < 0) = false := decide_eq_false (by simp only at l2; omega); obtain ⟨r, hr⟩ : ∃ r, decide (a < 0) = r := ⟨_, rfl⟩; simp only at l3; rw [hr] at l3; have hrn : B6.ready.length = 0 ↔ r = true := ⟨fun z => by rw [l3, z]; rfl, fun z => by rw [z] at l3; have := eq_of_beq l3.symm; omega⟩; obtain ⟨nr, hnr⟩ : ∃ nr, B6.ready.length = nr := ⟨_, rfl⟩; have HNR := Aside0.mk hnr; rw [hnr] at l3 hrn; have HRN := Aside0.mk hrn; have q3 := l3.symm; have HJ6 := Aside0.mk hj; have HI6 := Aside0.mk hi6; have HLG := Aside0.mk hlg; have HRD := Aside0.mk hrd; clear hj hi6 hlg hrd l1 l2 l3 hab hrn hnr tP; have tQ := True.intro)
            | (go_at_call 50; have _t := tQ; refine HLG.out.mono ?_; rintro e w7 ⟨rfl, hb⟩; have HJ7 := Aside0.mk (HJ6.out.below hb); clear hb tQ; have tR := True.intro)
            | (go_at_call 42; have _t := tR; refine (HRD.out _ HJ7.out).mono ?_; rintro e w8 ⟨A8, c8, rfl, hc, hC, hb⟩; rw [HNR.out]; have HJ8 := Aside0.mk (HJ7.out.below hb); clear hc hC hb tR))
      exact FIN.out _ _ HI6.out HJ8.out
    · have hltb : decide (i < L.length) = false := decide_eq_false hlt
      have hltc : decide ((i : Int) < (L.length : Int)) = false := decide_eq_false (by omega)
      clear hlt
      go_wp2
      go_ret
      exact ⟨rfl, HJ.out.base⟩
/-- Where nothing is to be gone over. -/
theorem waits_bad (seed h k : Int) (hb : ¬ (1 ≤ h ∧ h ≤ 16 ∧ 2 * h - 1 ≤ k ∧ k ≤ 1024)) (A : Option Addr) (c n : Nat) {W : World} :
    Calls Try.prog 11 #[.int .u64 seed, .int .i64 h, .int .i64 k, .slice A n c] W fun e W' => e = .returned (.bool true) ∧ Below W.heap.size W W' := by
  by_cases h0 : 1 ≤ h ∧ h ≤ 16
  · have HNW := Aside0.mk (new_calls (W := W) h h0.1 h0.2)
    have hw : wrap64 (wrap64 (2 * h) - 1) = 2 * h - 1 := by rw [X.hwrId (x := 2 * h) (by omega) (by omega), X.hwrId (by omega) (by omega)]
    have t1 : decide (1 ≤ h) = true := decide_eq_true h0.1
    have t2 : decide (h ≤ 16) = true := decide_eq_true h0.2
    by_cases h3 : k < 2 * h - 1
    · have d5 : decide (k < 2 * h - 1) = true := decide_eq_true h3
      clear hb h0 h3
      go_enter Try.func11, Try.ntmps11
      go_wp2_with (go_at_call 38; refine HNW.out.mono ?_; rintro e w1 ⟨p, T, g, m, rfl, hB, hW, hT⟩; have HW1 := Aside0.mk hW; clear hB hW hT)
      go_ret
      exact ⟨rfl, HW1.out⟩
    · have d5 : decide (k < 2 * h - 1) = false := decide_eq_false h3
      have d7 : decide (1024 < k) = true := decide_eq_true (by omega)
      clear hb h0 h3
      go_enter Try.func11, Try.ntmps11
      go_wp2_with (go_at_call 38; refine HNW.out.mono ?_; rintro e w1 ⟨p, T, g, m, rfl, hB, hW, hT⟩; have HW1 := Aside0.mk hW; clear hB hW hT)
      go_ret
      exact ⟨rfl, HW1.out⟩
  · have HNW := Aside0.mk (new_bad (W := W) h h0)
    by_cases h1 : 1 ≤ h
    · have t1 : decide (1 ≤ h) = true := decide_eq_true h1
      have t2 : decide (h ≤ 16) = false := decide_eq_false (fun z => h0 ⟨h1, z⟩)
      clear hb h0 h1
      go_enter Try.func11, Try.ntmps11
      go_wp2_with (go_at_call 38; refine HNW.out.mono ?_; rintro e w1 ⟨rfl, ⟨m1, rfl⟩⟩)
      go_ret
      exact ⟨rfl, pw_below_drewN (Below.refl _ _) m1⟩
    · have t1 : decide (1 ≤ h) = false := decide_eq_false h1
      clear hb h0 h1
      go_enter Try.func11, Try.ntmps11
      go_wp2_with (go_at_call 38; refine HNW.out.mono ?_; rintro e w1 ⟨rfl, ⟨m1, rfl⟩⟩)
      go_ret
      exact ⟨rfl, pw_below_drewN (Below.refl _ _) m1⟩
/-- In the order that the row hands its facts over. -/
theorem waits_walk (seed : Int) (ws : (Lit.int .u64 seed).wf = true) (h : Int) (wh : (Lit.int .i64 h).wf = true) (k : Int) (wk : (Lit.int .i64 k).wf = true) (A : Option Addr) (c : Nat) (l : List Op3) {W : World} (hA : OpsAt W A l ∧ ∀ x ∈ l, (Lit.int .i64 x.2.2).wf = true) (hc : l.length ≤ c) (y : l.length * 24 ≤ 140737488351232) :
    Calls Try.prog 11 #[.int .u64 seed, .int .i64 h, .int .i64 k, .slice A l.length c] W fun e W' => e = .returned (.bool true) ∧ Below W.heap.size W W' := by
  by_cases hb : 1 ≤ h ∧ h ≤ 16 ∧ 2 * h - 1 ≤ k ∧ k ≤ 1024
  · obtain ⟨a, rfl⟩ := Int.eq_ofNat_of_zero_le (show 0 ≤ h by omega)
    exact waits_good seed a (by omega) (by omega) k hb.2.2.1 hb.2.2.2 A c l hA hc
  · exact waits_bad seed h k hb A c l.length
end Go.Proofs.Ytfcjfjmjcmanaaa.B
