/- SchedLeast: 'are' by hand. -/
import Derived.Test.YtfcjfjmjcmanaaaNa
import Derived.BigQuiet
import Derived.Deep.QuietTactic
set_option linter.unusedVariables false
namespace Go.Proofs.Ytfcjfjmjcmanaaa.X
open Go.RowKit Go.Proofs.YtfcjfjmjcmanaaaW.PrintWords Go.Proofs.YtfcjfjmjcmanaaaW.PrintLast Go.Proofs.YtfcjfjmjcmanaaaW.PrintMore
theorem tab_more (l : List (Int × Int)) (i : Int) (h0 : 0 ≤ i) (h1 : i < (l.length : Int)) (x y a b : Int) (hp : pd l i = (x, y)) : tab (l.take (i + 1).toNat) a b = (tab (l.take i.toNat) a b || (x != y && (a == x && b == y || a == y && b == x))) := by
  rw [show (i + 1).toNat = i.toNat + 1 by omega, pd_take l i h0 h1, tab_next, hp]
theorem tab_has (l : List (Int × Int)) (i : Int) (h0 : 0 ≤ i) (h1 : i < (l.length : Int)) (x y a b : Int) (hp : pd l i = (x, y)) (hne : a ≠ b) (h : x = a ∧ y = b ∨ x = b ∧ y = a) : tab l a b = true := by
  unfold tab
  rw [List.any_eq_true]
  refine ⟨(x, y), by rw [← hp]; exact pd_mem l i h0 h1, ?_⟩
  rcases h with ⟨rfl, rfl⟩ | ⟨rfl, rfl⟩
  · simp [hne]
  · simp [Ne.symm hne]
theorem tab_not (l : List (Int × Int)) (i : Int) (h0 : 0 ≤ i) (h1 : i < (l.length : Int)) (x y a b : Int) (hp : pd l i = (x, y)) (h : tab (l.take i.toNat) a b = false) (hn : ¬ (x = a ∧ y = b ∨ x = b ∧ y = a)) : tab (l.take (i + 1).toNat) a b = false := by
  rw [tab_more l i h0 h1 x y a b hp, h, Bool.false_or]
  cases hz : (x != y && (a == x && b == y || a == y && b == x)) with
  | false => rfl
  | true =>
    exfalso
    simp only [Bool.and_eq_true, Bool.or_eq_true, beq_iff_eq] at hz
    exact hn (by rcases hz.2 with ⟨h1, h2⟩ | ⟨h1, h2⟩; exact .inl ⟨h1.symm, h2.symm⟩; exact .inr ⟨h2.symm, h1.symm⟩)
set_option maxRecDepth 100000 in
set_option maxHeartbeats 4000000 in
theorem are_calls (a b : Int) (A1 : Option Addr) (c1 : Nat) (ps : List (Int × Int)) (w : World) (hr1 : Kd.C Kp w A1 ps.length ps) (hp : ps.length ≤ 8796093021952) :
    Calls Try.prog 65 #[.int .i64 a, .int .i64 b, .slice A1 ps.length c1] w fun e w' => e = .returned (.bool (tab ps a b)) ∧ Drawn0 w w' := by
  have HR1 := Aside0.mk hr1
  have HP := Aside0.mk hp
  clear hr1 hp
  by_cases hab : a = b
  · have hrt : tab ps a b = false := by rw [hab]; exact (tab_ap ps).irr b
    have hnb : (a != b) = false := bne_eq_false_iff_eq.2 hab
    rw [hrt]
    clear hab hrt
    go_enter Try.func65, Try.ntmps65
    go_wp2
    go_loopw [7] (fun p wr => p = .int .i64 0 ∧ Drawn0 w wr) (fun p _ => 0)
    case atStart => exact ⟨rfl, by repeat (first | exact Drawn0.refl _ | apply Drawn0.step)⟩
    case round =>
      obtain ⟨rfl, ⟨m, rfl⟩⟩ := hrel
      go_wp2
      all_goals (go_ret; exact ⟨rfl, ⟨_, rfl⟩⟩)
  · have hnb : (a != b) = true := bne_iff_ne.2 hab
    have HAB := Aside0.mk hab
    clear hab
    obtain ⟨r, hr⟩ : ∃ r, tab ps a b = r := ⟨_, rfl⟩
    rw [hr]
    have HRR := Aside0.mk hr
    clear hr
    go_enter Try.func65, Try.ntmps65
    go_wp2
    go_loopw [7] (fun p wr => ∃ i : Int, p = .int .i64 i ∧ Aside0 (0 ≤ i ∧ i ≤ (ps.length : Int)) ∧ Aside0 (tab (ps.take i.toNat) a b = false) ∧ Drawn0 w wr) (fun p _ => ((ps.length : Int) - intOf p).toNat)
    case atStart => exact ⟨0, rfl, ⟨by omega⟩, ⟨by simp [tab]⟩, by repeat (first | exact Drawn0.refl _ | apply Drawn0.step)⟩
    case round =>
      obtain ⟨i, rfl, Hi, HT, ⟨m, rfl⟩⟩ := hrel
      by_cases hlt : i < (ps.length : Int)
      · have p0 : 0 ≤ i := Hi.out.1
        have hltb : decide (i < (ps.length : Int)) = true := decide_eq_true hlt
        obtain ⟨ad, rfl, hpa⟩ := at_pair HR1.out i p0 hlt
        have hw1 : wrap64 (i + 1) = i + 1 := hwrId (by omega) (by have := HP.out; omega)
        have HI := Aside0.mk (show 0 ≤ i ∧ i < (ps.length : Int) from ⟨p0, hlt⟩)
        obtain ⟨⟨x, y⟩, hx⟩ : ∃ x, pd ps i = x := ⟨_, rfl⟩
        rw [hx] at hpa
        obtain ⟨hc1, hc3⟩ := hpa
        have HX := Aside0.mk hx
        replace p0 := eq_true p0
        replace hlt := eq_true hlt
        clear hx Hi
        have fin1 : (x = a ∧ y = b ∨ x = b ∧ y = a) → r = true := fun h => by rw [← HRR.out]; exact tab_has ps i HI.out.1 HI.out.2 x y a b HX.out HAB.out h
        have fin0 : ¬ (x = a ∧ y = b ∨ x = b ∧ y = a) → tab (ps.take (i + 1).toNat) a b = false := tab_not ps i HI.out.1 HI.out.2 x y a b HX.out HT.out
        have F1 := Aside0.mk fin1
        have F0 := Aside0.mk fin0
        clear fin1 fin0
        cases hxa : (x == a) <;> cases hyb : (y == b) <;> cases hxb : (x == b) <;> cases hya : (y == a)
        all_goals (
          have HH := Aside0.mk (And.intro (And.intro hxa hyb) (And.intro hxb hya))
          go_wp2)
        all_goals (first
          | (go_ret; have hr := F1.out (by have h := HH.out; simp only [beq_iff_eq, beq_eq_false_iff_ne, ne_eq] at h; omega); rw [hr]; exact ⟨rfl, ⟨_, rfl⟩⟩)
          | exact ⟨⟨wrap64 (i + 1), rfl, ⟨by rw [hw1]; have := HI.out; omega⟩, ⟨by rw [hw1]; exact F0.out (by have h := HH.out; simp only [beq_iff_eq, beq_eq_false_iff_ne, ne_eq] at h; omega)⟩, ⟨_, rfl⟩⟩, by rw [hw1]; simp only [intOf]; have := HI.out; omega⟩)
      · have hltb : decide (i < (ps.length : Int)) = false := decide_eq_false hlt
        have hr : r = false := by
          rw [← HRR.out]
          have := HT.out
          rwa [List.take_of_length_le (by have := Hi.out; omega)] at this
        subst hr
        clear hlt Hi
        go_wp2
        go_ret
        exact ⟨rfl, ⟨_, rfl⟩⟩
end Go.Proofs.Ytfcjfjmjcmanaaa.X
