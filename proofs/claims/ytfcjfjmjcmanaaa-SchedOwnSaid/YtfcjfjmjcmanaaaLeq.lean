/- Least: the document's, by hand: the ways that answer nothing. -/
import Derived.Test.YtfcjfjmjcmanaaaLdq
set_option linter.unusedVariables false
namespace Go.Proofs.Ytfcjfjmjcmanaaa.X
open Go.RowKit Go.Proofs.Ytfcjfjmjcmanaaa.PNums Go.Proofs.YtfcjfjmjcmanaaaW.PrintWords Go.Proofs.YtfcjfjmjcmanaaaW.PrintLast Go.Proofs.YtfcjfjmjcmanaaaW.PrintMore
set_option maxRecDepth 100000
set_option maxHeartbeats 4000000
theorem rl_long (A0 : Option Addr) (c0 : Nat) (l : List Int) (A1 : Option Addr) (c1 : Nat) (ps : List (Int × Int)) (w : World) (hb : ¬ (l.length ≤ 512 ∧ ps.length ≤ 256)) :
    Calls Try.prog 37 #[.slice A0 l.length c0, .slice A1 ps.length c1] w fun e w' => e = .returned (.tuple #[.slice none 0 0, .int .i64 1]) ∧ Below w.heap.size w w' := by
  by_cases hl : (l.length : Int) > 512
  · have hlb : decide ((l.length : Int) > 512) = true := decide_eq_true hl
    clear hl hb
    go_enter Try.func37, Try.ntmps37
    go_wp2
    go_ret2
    exact ⟨rfl, by repeat (first | exact Below.refl w.heap.size w | apply pw_below_drewN | apply below_drew1)⟩
  · have hlb : decide ((l.length : Int) > 512) = false := decide_eq_false hl
    have hpb : decide ((ps.length : Int) > 256) = true := decide_eq_true (by omega)
    clear hl hb
    go_enter Try.func37, Try.ntmps37
    go_wp2
    go_ret2
    exact ⟨rfl, by repeat (first | exact Below.refl w.heap.size w | apply pw_below_drewN | apply below_drew1)⟩
theorem rl_num (A0 : Option Addr) (c0 : Nat) (l : List Int) (A1 : Option Addr) (c1 : Nat) (ps : List (Int × Int)) (w : World) (hr0 : Kd.C (Kd.int .i64) w A0 l.length l) (hc0 : l.length ≤ c0)
    (hl : l.length ≤ 512) (hp : ps.length ≤ 256) (hn : ¬ ∀ x ∈ l, Hnum x) :
    Calls Try.prog 37 #[.slice A0 l.length c0, .slice A1 ps.length c1] w fun e w' => e = .returned (.tuple #[.slice none 0 0, .int .i64 2]) ∧ Below w.heap.size w w' := by
  have HR0 := Aside0.mk hr0
  have HC0 := Aside0.mk hc0
  have hlb : decide ((l.length : Int) > 512) = false := decide_eq_false (by omega)
  have hpb : decide ((ps.length : Int) > 256) = false := decide_eq_false (by omega)
  have hnum := hnumbers_spec l (l.length + 1) (by omega) (by omega)
  rw [decide_eq_false hn] at hnum
  have HNUM := Aside0.mk hnum
  clear hr0 hc0 hl hp hn hnum
  go_enter Try.func37, Try.ntmps37
  go_wp2_with (go_at_call 89; refine (larderref07_numbers.calls (l.length + 1) A0 c0 l false _ HR0.out HC0.out HNUM.out).mono ?_; rintro e w1 ⟨rfl, ⟨m1, rfl⟩⟩)
  go_ret2
  exact ⟨rfl, by repeat (first | exact Below.refl w.heap.size w | apply pw_below_drewN | apply below_drew1)⟩
theorem rl_pair (A0 : Option Addr) (c0 : Nat) (l : List Int) (A1 : Option Addr) (c1 : Nat) (ps : List (Int × Int)) (w : World) (hr0 : Kd.C (Kd.int .i64) w A0 l.length l) (hc0 : l.length ≤ c0) (hr1 : Kd.C Kp w A1 ps.length ps)
    (hl : l.length ≤ 512) (hp : ps.length ≤ 256) (hn : ∀ x ∈ l, Hnum x) (hok : ¬ PairsOk ps) :
    Calls Try.prog 37 #[.slice A0 l.length c0, .slice A1 ps.length c1] w fun e w' => e = .returned (.tuple #[.slice none 0 0, .int .i64 2]) ∧ Below w.heap.size w w' := by
  have HR0 := Aside0.mk hr0
  have HC0 := Aside0.mk hc0
  have HR1 := Aside0.mk hr1
  have HP := Aside0.mk hp
  have HOK := Aside0.mk hok
  have hlb : decide ((l.length : Int) > 512) = false := decide_eq_false (by omega)
  have hpb : decide ((ps.length : Int) > 256) = false := decide_eq_false (by omega)
  have hnum := hnumbers_spec l (l.length + 1) (by omega) (by omega)
  rw [decide_eq_true hn] at hnum
  have HNUM := Aside0.mk hnum
  clear hr0 hc0 hr1 hl hp hn hok hnum
  go_enter Try.func37, Try.ntmps37
  go_wp2_with (go_at_call 89; refine (larderref07_numbers.calls (l.length + 1) A0 c0 l true _ HR0.out HC0.out HNUM.out).mono ?_; rintro e w1 ⟨rfl, ⟨m1, rfl⟩⟩)
  go_loopw [6] (fun p wr => ∃ i : Int, p = .int .i64 i ∧ Aside0 (0 ≤ i ∧ i ≤ (ps.length : Int)) ∧ Aside0 (PairsOk (ps.take i.toNat)) ∧ Aside0 (Below w.heap.size w wr)) (fun p _ => ((ps.length : Int) - intOf p).toNat)
  case atStart => exact ⟨0, rfl, ⟨by omega⟩, ⟨by simp [PairsOk]⟩, ⟨by repeat (first | exact Below.refl w.heap.size w | apply pw_below_drewN | apply below_drew1)⟩⟩
  case round =>
    obtain ⟨i, rfl, Hi, HPO, HB⟩ := hrel
    by_cases hlt : i < (ps.length : Int)
    · have p0 : 0 ≤ i := Hi.out.1
      obtain ⟨ad, rfl, hpa⟩ := at_pair HR1.out i p0 hlt
      have hblk := hpa.lt
      have htk := pd_take ps i p0 hlt
      have hw1 := wrn (l := ps) (by have := HP.out; omega) p0 hlt
      have hltb : decide (i < (ps.length : Int)) = true := decide_eq_true hlt
      have HI := Aside0.mk (show 0 ≤ i ∧ i < (ps.length : Int) from ⟨p0, hlt⟩)
      replace p0 := eq_true p0
      replace hlt := eq_true hlt
      obtain ⟨⟨x, y⟩, hx⟩ : ∃ x, pd ps i = x := ⟨_, rfl⟩
      rw [hx] at hpa htk
      have HTK := Aside0.mk htk
      clear hx htk
      obtain ⟨hc1, hc3⟩ := hpa.below hblk HB.out
      clear hblk hpa
      by_cases x0 : x < 0
      · have x0b : decide (x < 0) = true := decide_eq_true x0
        clear x0
        go_wp2
        go_ret2
        exact ⟨rfl, HB.out⟩
      by_cases x1 : 16 ≤ x
      · have x0b : decide (x < 0) = false := decide_eq_false x0
        have x1b : decide (16 ≤ x) = true := decide_eq_true x1
        clear x0 x1
        go_wp2
        go_ret2
        exact ⟨rfl, HB.out⟩
      have x0b : decide (x < 0) = false := decide_eq_false x0
      have x1b : decide (16 ≤ x) = false := decide_eq_false x1
      have HNX : Aside0 (Hnum x) := ⟨by unfold Hnum; omega⟩
      clear x0 x1
      by_cases y0 : y < 0
      · have y0b : decide (y < 0) = true := decide_eq_true y0
        clear y0
        go_wp2
        go_ret2
        exact ⟨rfl, HB.out⟩
      by_cases y1 : 16 ≤ y
      · have y0b : decide (y < 0) = false := decide_eq_false y0
        have y1b : decide (16 ≤ y) = true := decide_eq_true y1
        clear y0 y1
        go_wp2
        go_ret2
        exact ⟨rfl, HB.out⟩
      have y0b : decide (y < 0) = false := decide_eq_false y0
      have y1b : decide (16 ≤ y) = false := decide_eq_false y1
      have HNY : Aside0 (Hnum y) := ⟨by unfold Hnum; omega⟩
      clear y0 y1
      go_wp2
      exact ⟨⟨wrap64 (i + 1), rfl, ⟨by rw [hw1]; have := HI.out; omega⟩, ⟨by
        rw [hw1, show (i + 1).toNat = i.toNat + 1 by have := HI.out; omega, HTK.out]
        intro p hp
        rcases List.mem_append.1 hp with hp | hp
        · exact HPO.out p hp
        · rw [List.mem_singleton.1 hp]; exact ⟨HNX.out, HNY.out⟩⟩, HB⟩, by rw [hw1]; simp only [intOf]; have := HI.out; omega⟩
    · exfalso
      refine HOK.out ?_
      have := HPO.out
      rwa [List.take_of_length_le (by have := Hi.out; omega)] at this
end Go.Proofs.Ytfcjfjmjcmanaaa.X
