/- Boards: the walks of Longest and Pick. -/
import Derived.Test.YtfcjfjmjcmanaaaBf
import Derived.BigQuiet
import Derived.Deep.QuietTactic
set_option linter.unusedVariables false
namespace Go.Proofs.Ytfcjfjmjcmanaaa.B
open Go Go.RowKit Go.Proofs.YtfcjfjmjcmanaaaW.PrintWords Go.Proofs.YtfcjfjmjcmanaaaW.PrintLast Go.Proofs.YtfcjfjmjcmanaaaW.PrintMore
variable {W : World} {T : Nat → Prop} {p g m N : Nat} {B : Bd} {f : Int → Value}
def longK (l : List Hd) : Nat → Int × Int
  | 0 => (-1, 0)
  | k + 1 => if (l.getD k (0, 0, 0)).1 = 1 ∧ ((longK l k).1 < 0 ∨ (longK l k).2 < (l.getD k (0, 0, 0)).2.2) then ((k : Int), (l.getD k (0, 0, 0)).2.2) else longK l k
def Bd.longest (B : Bd) : Int × Int := longK B.l B.l.length
set_option maxRecDepth 100000 in
set_option maxHeartbeats 4000000 in
theorem longest_calls (hb : Bat W T p g m N B f) (hn : B.l.length ≤ 16) : Calls Try.prog 50 #[.pointer (some ⟨p, 0, none⟩)] W fun e W' => e = .returned (.tuple #[.int .i64 B.longest.1, .int .i64 B.longest.2]) ∧ Below W.heap.size W W' := by
  obtain ⟨c0, c1⟩ := hb.cells
  have HB := Aside0.mk hb
  have HN := Aside0.mk hn
  clear hb hn
  unfold Bd.longest
  obtain ⟨l, hl⟩ : ∃ l, B.l = l := ⟨_, rfl⟩
  have HG := Aside0.mk HB.out.hg
  rw [hl] at c0 HN HG ⊢
  clear hl
  go_enter Try.func50, Try.ntmps50
  go_wp2
  go_loopw [4, 5, 17] (fun v4 v5 vi wr => ∃ k : Int, vi = .int .i64 k ∧ Aside0 (0 ≤ k ∧ k ≤ (l.length : Int)) ∧ v4 = .int .i64 (longK l k.toNat).1 ∧ v5 = .int .i64 (longK l k.toNat).2 ∧ Aside0 (Below W.heap.size W wr)) (fun _ _ vi _ => ((l.length : Int) - intOf vi).toNat)
  case atStart => exact ⟨0, rfl, ⟨by omega⟩, rfl, rfl, ⟨Below.refl _ _⟩⟩
  case round =>
    obtain ⟨k, rfl, Hk, rfl, rfl, HW⟩ := hrel
    rename World => W3
    by_cases hlt : k < (l.length : Int)
    · have hltb : decide (k < (l.length : Int)) = true := decide_eq_true hlt
      have p0 := Hk.out.1
      have hkn : k.toNat < l.length := by omega
      obtain ⟨⟨s, o, c⟩, hx⟩ : ∃ x, l[k.toNat]? = some x := ⟨_, List.getElem?_eq_getElem hkn⟩
      obtain ⟨d0, d1, d2⟩ := (HG.out.of_block (HW.out.block g HG.out.lt)).cells hx
      have hw1 : wrap64 (k + 1) = k + 1 := X.hwrId (by omega) (by have := HN.out; omega)
      have hkk : (k + 1).toNat = k.toNat + 1 := by omega
      obtain ⟨⟨a, b⟩, hab⟩ : ∃ ab, longK l k.toNat = ab := ⟨_, rfl⟩
      have hst : longK l (k + 1).toNat = if s = 1 ∧ (a < 0 ∨ b < c) then (k, c) else (a, b) := by
        rw [hkk, longK, List.getD_eq_getElem?_getD, hx, hab]
        simp only [Option.getD_some, Int.toNat_of_nonneg p0]
      rw [hab]
      have HST := Aside0.mk hst
      have HW1 := Aside0.mk hw1
      replace p0 := eq_true p0
      replace hlt := eq_true hlt
      clear hst hx hkk hw1 hkn hab
      simp only at d0 d1 d2 ⊢
      have fin : ∀ (w : World) (a' b' : Int), (longK l (k + 1).toNat = (a', b')) → Below W.heap.size W w → (∃ k', Value.int .i64 (wrap64 (k + 1)) = Value.int .i64 k' ∧ Aside0 (0 ≤ k' ∧ k' ≤ (l.length : Int)) ∧ Value.int .i64 a' = .int .i64 (longK l k'.toNat).1 ∧ Value.int .i64 b' = .int .i64 (longK l k'.toNat).2 ∧ Aside0 (Below W.heap.size W w)) := fun w a' b' h1 h2 =>
        ⟨wrap64 (k + 1), rfl, ⟨by rw [HW1.out]; have := Hk.out; have := of_eq_true hlt; omega⟩, by rw [HW1.out, h1], by rw [HW1.out, h1], ⟨h2⟩⟩
      have FIN := Aside0.mk fin
      clear fin
      have msr : ((l.length : Int) - intOf (Value.int .i64 (wrap64 (k + 1)))).toNat < ((l.length : Int) - intOf (Value.int .i64 k)).toNat := by rw [HW1.out]; simp only [intOf]; have := Hk.out; have := of_eq_true hlt; omega
      have MSR := Aside0.mk msr
      clear msr
      by_cases hs : s = 1
      · subst hs
        by_cases ha : a < 0
        · have hab : decide (a < 0) = true := decide_eq_true ha
          have HS2 : Aside0 (longK l (k + 1).toNat = (k, c)) := ⟨by rw [HST.out, if_pos ⟨rfl, .inl ha⟩]⟩
          clear ha
          go_wp2
          go_quiet (fail)
          go_wp2
          exact ⟨FIN.out _ _ _ HS2.out (below_step HW.out (by (repeat (first | exact Below.refl _ _ | apply pw_below_drewN | apply below_alloc)))), MSR.out⟩
        · have hab : decide (a < 0) = false := decide_eq_false ha
          by_cases hb : b < c
          · have hbb : decide (b < c) = true := decide_eq_true hb
            have HS2 : Aside0 (longK l (k + 1).toNat = (k, c)) := ⟨by rw [HST.out, if_pos ⟨rfl, .inr hb⟩]⟩
            clear ha hb
            go_wp2
            go_quiet (fail)
            go_wp2
            exact ⟨FIN.out _ _ _ HS2.out (below_step HW.out (by (repeat (first | exact Below.refl _ _ | apply pw_below_drewN | apply below_alloc)))), MSR.out⟩
          · have hbb : decide (b < c) = false := decide_eq_false hb
            have HS2 : Aside0 (longK l (k + 1).toNat = (a, b)) := ⟨by rw [HST.out, if_neg (by rintro ⟨_, h | h⟩; exact ha h; exact hb h)]⟩
            clear ha hb
            go_wp2
            exact ⟨FIN.out _ _ _ HS2.out (below_step HW.out (by (repeat (first | exact Below.refl _ _ | apply pw_below_drewN | apply below_alloc)))), MSR.out⟩
      · have hsb : (s == 1) = false := beq_eq_false_iff_ne.2 hs
        have HS2 : Aside0 (longK l (k + 1).toNat = (a, b)) := ⟨by rw [HST.out, if_neg (fun h => hs h.1)]⟩
        clear hs
        go_wp2
        exact ⟨FIN.out _ _ _ HS2.out (below_step HW.out (by (repeat (first | exact Below.refl _ _ | apply pw_below_drewN | apply below_alloc)))), MSR.out⟩
    · have hltb : decide (k < (l.length : Int)) = false := decide_eq_false hlt
      have hk : k.toNat = l.length := by have := Hk.out; omega
      rw [hk]
      clear hlt hk
      go_wp2
      go_ret2
      exact ⟨rfl, HW.out⟩
/-! ### Pick -/
def bump (x : Hd) : Hd := if x.1 = 1 then (x.1, x.2.1, wrap64 (x.2.2 + 1)) else x
def bumpK (l : List Hd) (k : Nat) : List Hd := (l.take k).map bump ++ l.drop k
theorem bumpK_length (l : List Hd) (k : Nat) : (bumpK l k).length = l.length := by simp [bumpK]; omega
theorem bumpK_get {l : List Hd} {k : Nat} {x : Hd} (h : l[k]? = some x) : (bumpK l k)[k]? = some x := by
  have hk := (List.getElem?_eq_some_iff.1 h).1
  unfold bumpK
  rw [List.getElem?_append_right (by simp; omega)]
  simp [Nat.min_eq_left (Nat.le_of_lt hk), h]
theorem bumpK_step {l : List Hd} {k : Nat} {x : Hd} (h : l[k]? = some x) : (bumpK l k).set k (bump x) = bumpK l (k + 1) := by
  have hk := (List.getElem?_eq_some_iff.1 h).1
  have hx := (List.getElem?_eq_some_iff.1 h).2
  unfold bumpK
  have hl : ((l.take k).map bump).length = k := by simp; omega
  rw [List.set_append_right _ _ (by omega), hl, Nat.sub_self, List.drop_eq_getElem_cons hk, List.set_cons_zero, List.take_add_one, List.getElem?_eq_getElem hk, hx]
  simp
theorem bumpK_skip {l : List Hd} {k : Nat} {x : Hd} (h : l[k]? = some x) (hb : bump x = x) : bumpK l (k + 1) = bumpK l k := by
  rw [← bumpK_step h, hb]
  have hk := (List.getElem?_eq_some_iff.1 (bumpK_get h))
  rw [← hk.2, List.set_getElem_self]
theorem bumpK_all (l : List Hd) : bumpK l l.length = l.map bump := by simp [bumpK]
def pickAt (n : Nat) (k : Int) : Int := Int.tmod (Int.tmod k n + n) n
theorem pickAt_facts (n : Nat) (hn : 1 ≤ n ∧ n ≤ 16) (k : Int) : ∃ r h : Int, Int.tmod k n = r ∧ wrap64 r = r ∧ wrap64 (r + n) = r + n ∧ Int.tmod (r + n) n = h ∧ wrap64 h = h ∧ pickAt n k = h ∧ 0 ≤ h ∧ h < n := by
  have g1 := Int.tmod_lt_of_pos k (show (0 : Int) < (n : Int) by omega)
  have g2 := Int.lt_tmod_of_pos k (show (0 : Int) < (n : Int) by omega)
  unfold pickAt
  generalize Int.tmod k n = r at g1 g2
  have g3 := Int.tmod_lt_of_pos (r + n) (show (0 : Int) < (n : Int) by omega)
  have g4 := Int.tmod_nonneg (n : Int) (show 0 ≤ r + (n : Int) by omega)
  exact ⟨r, _, rfl, X.hwrId (by omega) (by omega), X.hwrId (by omega) (by omega), rfl, X.hwrId (by omega) (by omega), rfl, g4, g3⟩
def Bd.pick (B : Bd) (k : Int) : Bd × Int × Bool :=
  let h := pickAt B.l.length k
  let x := (B.l.map bump).getD h.toNat (0, 0, 0)
  (⟨(B.l.map bump).set h.toNat (x.1, x.2.1, 0), B.q⟩, h, x.1 == 1)
set_option maxRecDepth 100000 in
set_option maxHeartbeats 4000000 in
theorem pick_calls (hb : Bat W T p g m N B f) (hn : 1 ≤ B.l.length ∧ B.l.length ≤ 16) (k : Int) : Calls Try.prog 49 #[.pointer (some ⟨p, 0, none⟩), .int .i64 k] W fun e W' => e = .returned (.tuple #[.int .i64 (B.pick k).2.1, .bool (B.pick k).2.2]) ∧ Bat W' T p g m N (B.pick k).1 f ∧ Turn T W W' := by
  obtain ⟨c0, c1⟩ := hb.cells
  obtain ⟨r, h, e1, e2, e3, e4, e5, e6, h0, h1⟩ := pickAt_facts B.l.length hn k
  unfold Bd.pick
  rw [e6]
  simp only
  have HB := Aside0.mk hb
  have HN := Aside0.mk hn
  obtain ⟨l, hl⟩ : ∃ l, B.l = l := ⟨_, rfl⟩
  rw [hl] at c0 HN e1 e3 e4 h1 ⊢
  obtain ⟨n, hnn⟩ : ∃ n, l.length = n := ⟨_, rfl⟩
  have HL := Aside0.mk hl
  have HNN := Aside0.mk hnn
  have hnz : ((n : Int) = 0) = False := eq_false (by have := HN.out; omega)
  have hnz' : (n = 0) = False := eq_false (by have := HN.out; omega)
  have hn1 : ((n : Int) == 0) = false := by simp; have := HN.out; omega
  rw [hnn] at c0 e1 e3 e4 h1
  have H01 := Aside0.mk (And.intro h0 h1)
  have hml : (l.map bump).length = n := by rw [List.length_map]; exact hnn
  obtain ⟨⟨s, o, c⟩, hx⟩ : ∃ x, (l.map bump)[h.toNat]? = some x := ⟨_, List.getElem?_eq_getElem (by rw [hml]; omega)⟩
  rw [show (l.map bump).getD h.toNat (0, 0, 0) = (s, o, c) from by rw [List.getD_eq_getElem?_getD, hx]; rfl]
  simp only
  have HX := Aside0.mk hx
  have HML := Aside0.mk hml
  replace h0 := eq_true h0
  replace h1 := eq_true h1
  clear hb hn hl hnn e6 hx hml
  go_enter Try.func49, Try.ntmps49
  go_wp2
  go_loopw [28] (fun vi wr => ∃ k : Int, vi = .int .i64 k ∧ Aside0 (0 ≤ k ∧ k ≤ (n : Int)) ∧ Aside0 (Bat wr T p g m N ⟨bumpK l k.toNat, B.q⟩ f) ∧ Aside0 (Turn T W wr)) (fun vi _ => ((n : Int) - intOf vi).toNat)
  case atStart => exact ⟨0, rfl, ⟨by omega⟩, ⟨by have := HB.out; rw [← HL.out]; simpa [bumpK] using this⟩, ⟨Turn.refl _ _⟩⟩
  case round =>
    obtain ⟨k, rfl, Hk, HBk, HTk⟩ := hrel
    rename World => W3
    by_cases hlt : k < (n : Int)
    · have hltb : decide (k < (n : Int)) = true := decide_eq_true hlt
      have p0 := Hk.out.1
      have hkn : k.toNat < l.length := by have := HNN.out; omega
      obtain ⟨⟨s, o, c⟩, hx⟩ : ∃ x, l[k.toNat]? = some x := ⟨_, List.getElem?_eq_getElem hkn⟩
      obtain ⟨d0, d1, d2⟩ := HBk.out.hg.cells (bumpK_get hx)
      have e1 := HBk.out.hg.free
      obtain ⟨b0, b1⟩ := HBk.out.cells
      simp only [bumpK_length, HNN.out] at b0
      have HP := HBk.out.put3 k.toNat (bumpK_get hx) (wrap64 (c + 1))
      have hw1 : wrap64 (k + 1) = k + 1 := X.hwrId (by omega) (by have := HN.out; have := HNN.out; omega)
      have hkk : (k + 1).toNat = k.toNat + 1 := by omega
      have HW1 := Aside0.mk hw1
      have hst := bumpK_step hx
      have HSK := Aside0.mk (bumpK_skip hx)
      rw [← hkk] at hst HSK
      replace p0 := eq_true p0
      replace hlt := eq_true hlt
      clear hx hkk hw1 hkn
      simp only at d0 d1 d2 HP
      by_cases hs : s = 1
      · subst hs
        rw [show bump (1, o, c) = (1, o, wrap64 (c + 1)) from by simp [bump]] at hst
        rw [hst] at HP
        have HP := Aside0.mk HP
        clear hst
        go_wp2
        have hp := HP.out
        exact ⟨⟨wrap64 (k + 1), rfl, ⟨by rw [HW1.out]; have := Hk.out; have := of_eq_true hlt; omega⟩, ⟨by rw [HW1.out]; exact hp.1⟩, ⟨HTk.out.trans hp.2 (fun _ h => .inl h)⟩⟩, by rw [HW1.out]; simp only [intOf]; have := Hk.out; have := of_eq_true hlt; omega⟩
      · have hsb : (s == 1) = false := beq_eq_false_iff_ne.2 hs
        have hsk := HSK.out (by simp [bump, hs])
        have HSK2 := Aside0.mk hsk
        clear hst HP hsk hs
        go_wp2
        exact ⟨⟨wrap64 (k + 1), rfl, ⟨by rw [HW1.out]; have := Hk.out; have := of_eq_true hlt; omega⟩, ⟨by rw [HW1.out, HSK2.out]; exact HBk.out⟩, HTk⟩, by rw [HW1.out]; simp only [intOf]; have := Hk.out; have := of_eq_true hlt; omega⟩
    · have hltb : decide (k < (n : Int)) = false := decide_eq_false hlt
      have hk : k.toNat = l.length := by have := Hk.out; have := HNN.out; omega
      rw [hk, bumpK_all] at HBk
      have hx := HX.out
      have hml := HML.out
      obtain ⟨d0, d1, d2⟩ := HBk.out.hg.cells hx
      have e1 := HBk.out.hg.free
      obtain ⟨b0, b1⟩ := HBk.out.cells
      simp only [hml] at b0
      have HP := HBk.out.put3 h.toNat hx 0
      simp only at d0 d1 d2 HP
      have q0 : (W3.setCell ⟨g, h.toNat * 3 + 2, none⟩ (.int .i64 0)).cell? ⟨g, h.toNat * 3, none⟩ = some (.int .i64 s) := by
        have hlt := (List.getElem?_eq_some_iff.1 hx).1
        exact (HP.1.hg.cells (i := h.toNat) (x := (s, o, 0)) (List.getElem?_set_self hlt)).1
      have q1 := HP.1.cells
      simp only [List.length_set, hml] at q1
      obtain ⟨q2, q3⟩ := q1
      have HP := Aside0.mk HP
      clear hlt hk hx hml
      go_wp2
      go_quiet (fail)
      go_wp2
      go_ret2
      have hp := HP.out
      exact ⟨rfl, hp.1.drewN nq, (HTk.out.trans hp.2 (fun _ h => .inl h)).drewN nq⟩
end Go.Proofs.Ytfcjfjmjcmanaaa.B
