/- Least: the program's, by hand: the ways that answer nothing. -/
import Derived.Test.YtfcjfjmjcmanaaaLiq
set_option linter.unusedVariables false
namespace Go.Proofs.Ytfcjfjmjcmanaaa.X
open Go.RowKit Go.Proofs.Ytfcjfjmjcmanaaa.PNums Go.Proofs.YtfcjfjmjcmanaaaW.PrintWords Go.Proofs.YtfcjfjmjcmanaaaW.PrintLast Go.Proofs.YtfcjfjmjcmanaaaW.PrintMore
set_option maxRecDepth 100000
set_option maxHeartbeats 8000000
theorem pl_long (A0 : Option Addr) (c0 : Nat) (l : List Int) (A1 : Option Addr) (c1 : Nat) (ps : List (Int × Int)) (w : World) (hb : ¬ (l.length ≤ 512 ∧ ps.length ≤ 256)) :
    Calls Try.prog 36 #[.slice A0 l.length c0, .slice A1 ps.length c1] w fun e w' => e = .returned (.tuple #[.slice none 0 0, .int .i64 1]) ∧ Below w.heap.size w w' := by
  by_cases hl : (l.length : Int) > 512
  · have hlb : decide ((l.length : Int) > 512) = true := decide_eq_true hl
    clear hl hb
    go_enter Try.func36, Try.ntmps36
    go_wp2
    go_ret2
    exact ⟨rfl, by repeat (first | exact Below.refl w.heap.size w | apply pw_below_drewN | apply below_drew1)⟩
  · have hlb : decide ((l.length : Int) > 512) = false := decide_eq_false hl
    have hpb : decide ((ps.length : Int) > 256) = true := decide_eq_true (by omega)
    clear hl hb
    go_enter Try.func36, Try.ntmps36
    go_wp2
    go_ret2
    exact ⟨rfl, by repeat (first | exact Below.refl w.heap.size w | apply pw_below_drewN | apply below_drew1)⟩
theorem num_take (l : List Int) (i : Int) (h0 : 0 ≤ i) (h1 : i < (l.length : Int)) (h : ∀ x ∈ l.take i.toNat, Hnum x) (hx : Hnum (rd l i)) : ∀ x ∈ l.take (i + 1).toNat, Hnum x := by
  rw [show (i + 1).toNat = i.toNat + 1 by omega, htake_next l i h0 h1]
  intro y hy
  rcases List.mem_append.1 hy with hy | hy
  · exact h y hy
  · rw [List.mem_singleton.1 hy]; exact hx
theorem pl_num (A0 : Option Addr) (c0 : Nat) (l : List Int) (A1 : Option Addr) (c1 : Nat) (ps : List (Int × Int)) (w : World) (hr0 : Kd.C (Kd.int .i64) w A0 l.length l) (hc0 : l.length ≤ c0)
    (hl : l.length ≤ 512) (hp : ps.length ≤ 256) (hn : ¬ ∀ x ∈ l, Hnum x) :
    Calls Try.prog 36 #[.slice A0 l.length c0, .slice A1 ps.length c1] w fun e w' => e = .returned (.tuple #[.slice none 0 0, .int .i64 2]) ∧ Below w.heap.size w w' := by
  have HR0 := Aside0.mk hr0
  have HL := Aside0.mk hl
  have HN := Aside0.mk hn
  have hlb : decide ((l.length : Int) > 512) = false := decide_eq_false (by omega)
  have hpb : decide ((ps.length : Int) > 256) = false := decide_eq_false (by omega)
  clear hr0 hc0 hl hp hn
  go_enter Try.func36, Try.ntmps36
  go_wp2
  go_loopw [27] (fun p wr => ∃ i : Int, p = .int .i64 i ∧ Aside0 (0 ≤ i ∧ i ≤ (l.length : Int)) ∧ Aside0 (∀ x ∈ l.take i.toNat, Hnum x) ∧ Drawn0 w wr) (fun p _ => ((l.length : Int) - intOf p).toNat)
  case atStart => exact ⟨0, rfl, ⟨by omega⟩, ⟨by simp⟩, by repeat (first | exact Drawn0.refl _ | apply Drawn0.step)⟩
  case round =>
    obtain ⟨i, rfl, Hi, HT, ⟨m1, rfl⟩⟩ := hrel
    by_cases hlt : i < (l.length : Int)
    · have p0 : 0 ≤ i := Hi.out.1
      obtain ⟨ad, rfl, hxc⟩ := Kd.at_int HR0.out i p0 hlt
      have hltb : decide (i < (l.length : Int)) = true := decide_eq_true hlt
      have hw1 : wrap64 (i + 1) = i + 1 := hwrId (by omega) (by have := HL.out; omega)
      have HI := Aside0.mk (show 0 ≤ i ∧ i < (l.length : Int) from ⟨p0, hlt⟩)
      have hnt := num_take l i p0 hlt HT.out
      obtain ⟨x, hx⟩ : ∃ x, rd l i = x := ⟨_, rfl⟩
      rw [hx] at hxc hnt
      have HNT := Aside0.mk hnt
      replace p0 := eq_true p0
      replace hlt := eq_true hlt
      clear hx hnt
      by_cases nx : Hnum x
      · have dn : decide (Hnum x) = true := decide_eq_true nx
        have HNx := Aside0.mk nx
        clear nx
        go_wp2_with (go_at_call 84; refine (right_calls x _).mono ?_; rintro e w1 ⟨rfl, ⟨m2, rfl⟩⟩; rw [dn])
        exact ⟨⟨wrap64 (i + 1), rfl, ⟨by rw [hw1]; have := HI.out; omega⟩, ⟨by rw [hw1]; exact HNT.out HNx.out⟩, ⟨_, rfl⟩⟩, by rw [hw1]; simp only [intOf]; have := HI.out; omega⟩
      · have dn : decide (Hnum x) = false := decide_eq_false nx
        clear nx
        go_wp2_with (go_at_call 84; refine (right_calls x _).mono ?_; rintro e w1 ⟨rfl, ⟨m2, rfl⟩⟩; rw [dn])
        go_ret2
        exact ⟨rfl, pw_below_drewN (Below.refl _ _) _⟩
    · exfalso
      refine HN.out ?_
      have := HT.out
      rwa [List.take_of_length_le (by have := Hi.out; omega)] at this
theorem pair_take (l : List (Int × Int)) (i : Int) (h0 : 0 ≤ i) (h1 : i < (l.length : Int)) (h : PairsOk (l.take i.toNat)) (hx : Hnum (pd l i).1 ∧ Hnum (pd l i).2) : PairsOk (l.take (i + 1).toNat) := by
  rw [show (i + 1).toNat = i.toNat + 1 by omega, pd_take l i h0 h1]
  intro y hy
  rcases List.mem_append.1 hy with hy | hy
  · exact h y hy
  · rw [List.mem_singleton.1 hy]; exact hx
theorem pl_pair (A0 : Option Addr) (c0 : Nat) (l : List Int) (A1 : Option Addr) (c1 : Nat) (ps : List (Int × Int)) (w : World) (hr0 : Kd.C (Kd.int .i64) w A0 l.length l) (hc0 : l.length ≤ c0) (hr1 : Kd.C Kp w A1 ps.length ps)
    (hl : l.length ≤ 512) (hp : ps.length ≤ 256) (hn : ∀ x ∈ l, Hnum x) (hok : ¬ PairsOk ps) :
    Calls Try.prog 36 #[.slice A0 l.length c0, .slice A1 ps.length c1] w fun e w' => e = .returned (.tuple #[.slice none 0 0, .int .i64 2]) ∧ Below w.heap.size w w' := by
  have HR0 := Aside0.mk hr0
  have HC0 := Aside0.mk hc0
  have HR1 := Aside0.mk hr1
  have HL := Aside0.mk hl
  have HP := Aside0.mk hp
  have HN := Aside0.mk hn
  have HOK := Aside0.mk hok
  have hlb : decide ((l.length : Int) > 512) = false := decide_eq_false (by omega)
  have hpb : decide ((ps.length : Int) > 256) = false := decide_eq_false (by omega)
  clear hr0 hc0 hr1 hl hp hn hok
  go_enter Try.func36, Try.ntmps36
  go_wp2
  go_loopw [27] (fun p wr => ∃ i : Int, p = .int .i64 i ∧ Aside0 (0 ≤ i ∧ i ≤ (l.length : Int)) ∧ Drawn0 w wr) (fun p _ => ((l.length : Int) - intOf p).toNat)
  case atStart => exact ⟨0, rfl, ⟨by omega⟩, by repeat (first | exact Drawn0.refl _ | apply Drawn0.step)⟩
  case round =>
    obtain ⟨i, rfl, Hi, ⟨m1, rfl⟩⟩ := hrel
    by_cases hlt : i < (l.length : Int)
    · have p0 : 0 ≤ i := Hi.out.1
      obtain ⟨ad, rfl, hxc⟩ := Kd.at_int HR0.out i p0 hlt
      have hltb : decide (i < (l.length : Int)) = true := decide_eq_true hlt
      have nx := hrd_num l HN.out i p0 hlt
      have hw1 : wrap64 (i + 1) = i + 1 := hwrId (by omega) (by have := HL.out; omega)
      have HI := Aside0.mk (show 0 ≤ i ∧ i < (l.length : Int) from ⟨p0, hlt⟩)
      have dn : decide (Hnum (rd l i)) = true := decide_eq_true nx
      obtain ⟨x, hx⟩ : ∃ x, rd l i = x := ⟨_, rfl⟩
      rw [hx] at hxc dn
      replace p0 := eq_true p0
      replace hlt := eq_true hlt
      clear hx nx
      go_wp2_with (go_at_call 84; refine (right_calls x _).mono ?_; rintro e w1 ⟨rfl, ⟨m2, rfl⟩⟩; rw [dn])
      exact ⟨⟨wrap64 (i + 1), rfl, ⟨by rw [hw1]; have := HI.out; omega⟩, ⟨_, rfl⟩⟩, by rw [hw1]; simp only [intOf]; have := HI.out; omega⟩
    · have hltb : decide (i < (l.length : Int)) = false := decide_eq_false hlt
      clear hlt Hi
      have HT0 := Aside0.mk (Tab.new (w.drewN m1))
      have HB0 := Aside0.mk ((pw_below_drewN (Below.refl w.heap.size w) m1).alloc (Nat.le_refl _) (.cells Try.zeroCells118 118))
      go_wp2
      go_loopw [38] (fun p wr => ∃ i : Int, p = .int .i64 i ∧ Aside0 (0 ≤ i ∧ i ≤ (ps.length : Int)) ∧ Aside0 (PairsOk (ps.take i.toNat)) ∧ Aside0 (Tab wr w.heap.size (tab (ps.take i.toNat))) ∧ Aside0 (Below w.heap.size w wr)) (fun p _ => ((ps.length : Int) - intOf p).toNat)
      case atStart => exact ⟨0, rfl, ⟨by omega⟩, ⟨by simp [PairsOk]⟩, ⟨HT0.out.congr fun x y _ _ => by simp [tab]⟩, HB0⟩
      case round =>
        clear HT0 HB0
        obtain ⟨i, rfl, Hi, HPO, HT, HB⟩ := hrel
        by_cases hlt : i < (ps.length : Int)
        · have p0 : 0 ≤ i := Hi.out.1
          obtain ⟨ad, rfl, hpa⟩ := at_pair HR1.out i p0 hlt
          have hblk := hpa.lt
          have hpt := pair_take ps i p0 hlt HPO.out
          have hw1 := wrn (l := ps) (by have := HP.out; omega) p0 hlt
          have hltb : decide (i < (ps.length : Int)) = true := decide_eq_true hlt
          have HI := Aside0.mk (show 0 ≤ i ∧ i < (ps.length : Int) from ⟨p0, hlt⟩)
          replace p0 := eq_true p0
          replace hlt := eq_true hlt
          obtain ⟨⟨x, y⟩, hx⟩ : ∃ x, pd ps i = x := ⟨_, rfl⟩
          rw [hx] at hpa hpt
          have HPT := Aside0.mk hpt
          have HX := Aside0.mk hx
          clear hx
          obtain ⟨hc1, hc3⟩ := hpa.below hblk HB.out
          have hc2 : wr.cell? ((ad.add (i.toNat * 2)).add 1) = some (.int .i64 y) := by rw [add_add, add_next]; exact hc3
          clear hblk hpa hpt
          by_cases nx : Hnum x
          rotate_left
          · have dnx : decide (Hnum x) = false := decide_eq_false nx
            have HB2 := Aside0.mk (HB.out.alloc HB.out.size (.cells #[.int .i64 x, .int .i64 y] 58))
            clear nx
            go_wp2_with (go_at_call 84; refine (right_calls x _).mono ?_; rintro e w1 ⟨rfl, ⟨m2, rfl⟩⟩; rw [dnx])
            go_ret2
            exact ⟨rfl, pw_below_drewN HB2.out _⟩
          have HNx := Aside0.mk nx
          have dnx : decide (Hnum x) = true := decide_eq_true nx
          by_cases ny : Hnum y
          rotate_left
          · have dny : decide (Hnum y) = false := decide_eq_false ny
            have HB2 := Aside0.mk (HB.out.alloc HB.out.size (.cells #[.int .i64 x, .int .i64 y] 58))
            clear nx ny
            go_wp2_with (first | (go_at_call 84; refine (right_calls x _).mono ?_; rintro e w1 ⟨rfl, ⟨m2, rfl⟩⟩; rw [dnx]) | (go_at_call 84; refine (right_calls y _).mono ?_; rintro e w1 ⟨rfl, ⟨m3, rfl⟩⟩; rw [dny]))
            go_ret2
            exact ⟨rfl, pw_below_drewN HB2.out _⟩
          have HNy := Aside0.mk ny
          have dny : decide (Hnum y) = true := decide_eq_true ny
          have HT2 := Aside0.mk (HT.out.below (n := w.heap.size + 1) (Nat.lt_succ_self _) (W' := wr.alloc (.cells #[.int .i64 x, .int .i64 y] 58)) ((Below.refl _ _).alloc (by obtain ⟨cs, hr, _⟩ := HT.out; exact hr.lt) _))
          have HB2 := Aside0.mk (HB.out.alloc HB.out.size (.cells #[.int .i64 x, .int .i64 y] 58))
          by_cases hn : x = y
          · have hnb : (x != y) = false := bne_eq_false_iff_eq.2 hn
            have HN := Aside0.mk hn
            clear hn nx ny
            go_wp2_with (first | (go_at_call 84; refine (right_calls x _).mono ?_; rintro e w1 ⟨rfl, ⟨m2, rfl⟩⟩; rw [dnx]) | (go_at_call 84; refine (right_calls y _).mono ?_; rintro e w1 ⟨rfl, ⟨m3, rfl⟩⟩; rw [dny]))
            exact ⟨⟨wrap64 (i + 1), rfl, ⟨by rw [hw1]; have := HI.out; omega⟩, ⟨by rw [hw1]; exact HPT.out ⟨HNx.out, HNy.out⟩⟩, ⟨by rw [hw1]; exact HT2.out.congr fun a b _ _ => (tab_step_eq ps i HI.out.1 HI.out.2 x y HX.out HN.out a b).symm⟩, ⟨pw_below_drewN HB2.out _⟩⟩, by rw [hw1]; simp only [intOf]; have := HI.out; omega⟩
          · have hnb : (x != y) = true := bne_iff_ne.2 hn
            have HN := Aside0.mk hn
            clear hn nx ny
            go_wp2_with (first | (go_at_call 84; refine (right_calls x _).mono ?_; rintro e w1 ⟨rfl, ⟨m2, rfl⟩⟩; rw [dnx]) | (go_at_call 84; refine (right_calls y _).mono ?_; rintro e w1 ⟨rfl, ⟨m3, rfl⟩⟩; rw [dny]))
            have hx0 : ((wr.alloc (.cells #[.int .i64 x, .int .i64 y] 58)).drewN (m2 + m3)).cell? ⟨wr.heap.size, 0, none⟩ = some (.int .i64 x) := (World.cell?_alloc_new _ _ _ _).trans rfl
            have hx1 : ((wr.alloc (.cells #[.int .i64 x, .int .i64 y] 58)).drewN (m2 + m3)).cell? ⟨wr.heap.size, 1, none⟩ = some (.int .i64 y) := (World.cell?_alloc_new _ _ _ _).trans rfl
            have HT3 : Aside0 (Tab ((wr.alloc (.cells #[.int .i64 x, .int .i64 y] 58)).drewN (m2 + m3)) w.heap.size (tab (ps.take i.toNat))) := ⟨HT2.out⟩
            have HB3 := Aside0.mk (pw_below_drewN HB2.out (m2 + m3))
            generalize (wr.alloc (.cells #[.int .i64 x, .int .i64 y] 58)).drewN (m2 + m3) = W2 at hx0 hx1 HT3 HB3 ⊢
            have hBF : wr.heap.size ≠ w.heap.size := by obtain ⟨cs, hr, _⟩ := HT.out; exact Nat.ne_of_gt hr.lt
            have HBF := Aside0.mk hBF
            generalize wr.heap.size = B at hx0 hx1 hBF HBF ⊢
            clear HT HB HT2 HB2 hc1 hc2 hc3 dnx dny hBF
            obtain ⟨hxy, fxy⟩ := HT3.out.cell HNx.out HNy.out
            obtain ⟨hyx, fyx⟩ := HT3.out.cell HNy.out HNx.out
            have px0 : 0 ≤ x := HNx.out.1
            have px1 : x < 16 := HNx.out.2
            have py0 : 0 ≤ y := HNy.out.1
            have py1 : y < 16 := HNy.out.2
            have HT4 := Aside0.mk (HT3.out.set HNx.out HNy.out)
            have HB4 := Aside0.mk (HB3.out.setCell (p := ⟨w.heap.size, x.toNat * 16 + y.toNat, none⟩) (Nat.le_refl _) (.bool true))
            have hz0 : (W2.setCell ⟨w.heap.size, x.toNat * 16 + y.toNat, none⟩ (.bool true)).cell? ⟨B, 0, none⟩ = some (.int .i64 x) := by rw [World.cell?_setCell_other _ _ _ _ (by intro z; injection z with z; exact HBF.out z.symm)]; exact hx0
            have hz1 : (W2.setCell ⟨w.heap.size, x.toNat * 16 + y.toNat, none⟩ (.bool true)).cell? ⟨B, 1, none⟩ = some (.int .i64 y) := by rw [World.cell?_setCell_other _ _ _ _ (by intro z; injection z with z; exact HBF.out z.symm)]; exact hx1
            obtain ⟨hy2, fy2⟩ := HT4.out.cell HNy.out HNx.out
            go_region
            go_wp2
            exact ⟨⟨wrap64 (i + 1), rfl, ⟨by rw [hw1]; have := HI.out; omega⟩, ⟨by rw [hw1]; exact HPT.out ⟨HNx.out, HNy.out⟩⟩, ⟨by rw [hw1]; exact (HT4.out.set HNy.out HNx.out).congr fun a b _ _ => (tab_step_ne ps i HI.out.1 HI.out.2 x y HX.out HN.out a b).symm⟩, ⟨below_drew1 (HB4.out.setCell (p := ⟨w.heap.size, y.toNat * 16 + x.toNat, none⟩) (Nat.le_refl _) (.bool true))⟩⟩, by rw [hw1]; simp only [intOf]; have := HI.out; omega⟩
        · exfalso
          refine HOK.out ?_
          have := HPO.out
          rwa [List.take_of_length_le (by have := Hi.out; omega)] at this
end Go.Proofs.Ytfcjfjmjcmanaaa.X
