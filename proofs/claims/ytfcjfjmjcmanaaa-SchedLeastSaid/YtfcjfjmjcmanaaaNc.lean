/- SchedLeast: only, below: plain; alike: by hand. -/
import Derived.Test.YtfcjfjmjcmanaaaNb
import Derived.Test.YtfcjfjmjcmanaaaPOnlyx
set_option linter.unusedVariables false
namespace Go.Proofs.Ytfcjfjmjcmanaaa.X
open Go.RowKit Go.Proofs.Ytfcjfjmjcmanaaa.PBase Go.Proofs.Ytfcjfjmjcmanaaa.POnly Go.Proofs.YtfcjfjmjcmanaaaW.PrintWords Go.Proofs.YtfcjfjmjcmanaaaW.PrintLast Go.Proofs.YtfcjfjmjcmanaaaW.PrintMore
theorem only_l0 (l : List Int) (hl : l.length ≤ 1000000) (a b : Int) (e : Nat) : ∀ (i k : Nat) (acc : List Int), i + e = l.length → e < k → acc.length ≤ i → larderlaw07_only.l0 k l a b acc (i : Int) = some (acc ++ (l.drop i).filter (fun x => x == a || x == b)) := by
  induction e with
  | zero =>
    intro i k acc h hk ha
    obtain ⟨k, rfl⟩ : ∃ m, k = m + 1 := ⟨k - 1, by omega⟩
    simp only [larderlaw07_only.l0]
    rw [if_neg (by omega), List.drop_of_length_le (by omega)]
    simp
  | succ e ih =>
    intro i k acc h hk ha
    obtain ⟨k, rfl⟩ : ∃ m, k = m + 1 := ⟨k - 1, by omega⟩
    simp only [larderlaw07_only.l0]
    have hi : i < l.length := by omega
    rw [if_pos (by omega), if_pos (by omega), rd_get l i hi, show wrap64 ((i : Int) + 1) = ((i + 1 : Nat) : Int) by rw [hwrId (by omega) (by omega)]; omega, List.drop_eq_getElem_cons hi]
    by_cases h1 : l[i] = a
    · rw [if_pos h1, if_pos (by omega), ih (i + 1) k _ (by omega) (by omega) (by rw [List.length_append, List.length_singleton]; omega), List.filter_cons_of_pos (by simp [h1]), List.append_assoc, List.singleton_append]
    · rw [if_neg h1]
      by_cases h2 : l[i] = b
      · rw [if_pos h2, if_pos (by omega), ih (i + 1) k _ (by omega) (by omega) (by rw [List.length_append, List.length_singleton]; omega), List.filter_cons_of_pos (by simp [h2]), List.append_assoc, List.singleton_append]
      · rw [if_neg h2, ih (i + 1) k _ (by omega) (by omega) (by omega), List.filter_cons_of_neg (by simp [h1, h2])]
theorem only_spec (l : List Int) (hl : l.length ≤ 1000000) (a b : Int) : larderlaw07_only.f (l.length + 1) l a b = some (l.filter (fun x => x == a || x == b)) := by
  unfold larderlaw07_only.f
  have := only_l0 l hl a b l.length 0 (l.length + 1) [] (by omega) (by omega) (by simp)
  simpa using this
theorem below_l0 (l m : List Int) (hl : l.length ≤ 1000000) (hm : l.length = m.length) (e : Nat) : ∀ (i k : Nat), i + e = l.length → 2 * e + 1 < k → larderlaw07_below.l0 k l m (i : Int) = some (blw (l.drop i) (m.drop i)) := by
  induction e with
  | zero =>
    intro i k h hk
    obtain ⟨k, rfl⟩ : ∃ m, k = m + 2 := ⟨k - 2, by omega⟩
    simp only [larderlaw07_below.l0, larderlaw07_below.j1]
    rw [if_neg (by omega), if_neg (by simp), List.drop_of_length_le (by omega), List.drop_of_length_le (by omega)]
    rfl
  | succ e ih =>
    intro i k h hk
    obtain ⟨k, rfl⟩ : ∃ m, k = m + 2 := ⟨k - 2, by omega⟩
    have h1 : i < l.length := by omega
    have h2 : i < m.length := by omega
    have hw : wrap64 ((i : Int) + 1) = ((i + 1 : Nat) : Int) := by rw [hwrId (by omega) (by omega)]; omega
    have ih' := ih (i + 1) k (by omega) (by omega)
    clear ih
    obtain ⟨k', hk'⟩ : ∃ k', k = k' := ⟨_, rfl⟩
    rw [hk'] at ih' ⊢
    have s1 : larderlaw07_below.l0 (k' + 2) l m (i : Int) = larderlaw07_below.j1 (k' + 1) l m (i : Int) (decide ((i : Int) < (m.length : Int))) := by
      simp only [larderlaw07_below.l0]
      rw [if_pos (by omega)]
    have s2 : larderlaw07_below.j1 (k' + 1) l m (i : Int) true = if (rd l (i : Int)) = (rd m (i : Int)) then larderlaw07_below.l0 k' l m (wrap64 ((i : Int) + 1)) else some (decide ((rd l (i : Int)) < (rd m (i : Int)))) := by
      simp only [larderlaw07_below.j1]
      rw [if_pos trivial, if_pos (by omega), if_pos (by omega), if_pos (by omega)]
    rw [s1, decide_eq_true (by omega), s2, hw, ih', rd_get l i h1, rd_get m i h2, List.drop_eq_getElem_cons h1, List.drop_eq_getElem_cons h2]
    show _ = some (if l[i] = m[i] then blw (l.drop (i + 1)) (m.drop (i + 1)) else decide (l[i] < m[i]))
    split <;> rfl
theorem below_spec (l m : List Int) (hl : l.length ≤ 1000000) (hm : l.length = m.length) : larderlaw07_below.f (2 * l.length + 3) l m = some (blw l m) := by
  unfold larderlaw07_below.f
  have := below_l0 l m hl hm l.length 0 (2 * l.length + 3) (by omega) (by omega)
  simpa using this
set_option maxRecDepth 100000 in
set_option maxHeartbeats 4000000 in
theorem alike_calls (A0 : Option Addr) (c0 : Nat) (x : List Int) (A1 : Option Addr) (c1 : Nat) (y : List Int) (A2 : Option Addr) (c2 : Nat) (ps : List (Int × Int)) (w : World) (hr0 : Kd.C (Kd.int .i64) w A0 x.length x) (hc0 : x.length ≤ c0) (hr1 : Kd.C (Kd.int .i64) w A1 y.length y) (hc1 : y.length ≤ c1) (hr2 : Kd.C Kp w A2 ps.length ps)
    (hx : x.length ≤ 512) (hxy : x.length = y.length) (hp : ps.length ≤ 8796093021952) (hal : ∀ a b, tab ps a b = false → x.filter (fun z => z == a || z == b) = y.filter (fun z => z == a || z == b)) :
    Calls Try.prog 64 #[.slice A0 x.length c0, .slice A1 y.length c1, .slice A2 ps.length c2] w fun e w' => e = .returned (.bool true) ∧ Below w.heap.size w w' := by
  have HR0 := Aside0.mk hr0
  have HC0 := Aside0.mk hc0
  have HR1 := Aside0.mk hr1
  have HC1 := Aside0.mk hc1
  have HR2 := Aside0.mk hr2
  have HX := Aside0.mk hx
  have HXY := Aside0.mk hxy
  have HP := Aside0.mk hp
  have HAL := Aside0.mk hal
  have hlb : ((x.length : Int) == (y.length : Int)) = true := by simp [hxy]
  clear hr0 hc0 hr1 hc1 hr2 hx hxy hp hal
  go_enter Try.func64, Try.ntmps64
  go_wp2
  go_loopw [7] (fun p wr => ∃ a : Int, p = .int .i64 a ∧ Aside0 (0 ≤ a ∧ a ≤ 16) ∧ Aside0 (Below w.heap.size w wr)) (fun p _ => (16 - intOf p).toNat)
  case atStart => exact ⟨0, rfl, ⟨by omega⟩, ⟨by repeat (first | exact Below.refl w.heap.size w | apply pw_below_drewN | apply below_drew1)⟩⟩
  case round =>
    obtain ⟨a, rfl, Ha, HB⟩ := hrel
    rename World => W1
    by_cases hlt : a < 16
    · have hltb : decide (a < 16) = true := decide_eq_true hlt
      have hwa := Aside0.mk (show wrap64 (a + 1) = a + 1 from hwrId (by have := Ha.out; omega) (by omega))
      have HLT := Aside0.mk hlt
      clear hlt
      go_wp2
      go_loopw [8] (fun p wr => ∃ b : Int, p = .int .i64 b ∧ Aside0 (0 ≤ b ∧ b ≤ 16) ∧ Aside0 (Below w.heap.size w wr)) (fun p _ => (16 - intOf p).toNat)
      case atStart => exact ⟨a, rfl, Ha, HB⟩
      case round =>
        clear HB
        obtain ⟨b, rfl, Hb, HB⟩ := hrel
        by_cases hlt : b < 16
        · have hltb2 : decide (b < 16) = true := decide_eq_true hlt
          have hwb := Aside0.mk (show wrap64 (b + 1) = b + 1 from hwrId (by have := Hb.out; omega) (by omega))
          have HLB := Aside0.mk hlt
          clear hlt
          have car := are_calls a b A2 c2 ps wr (Kd.C_below HR2.out HB.out) HP.out
          obtain ⟨t, ht⟩ : ∃ t, tab ps a b = t := ⟨_, rfl⟩
          rw [ht] at car
          cases t with
          | true =>
            go_wp2_with (go_at_call 65; refine car.mono ?_; rintro e w2 ⟨rfl, ⟨m2, rfl⟩⟩)
            exact ⟨⟨wrap64 (b + 1), rfl, ⟨by rw [hwb.out]; have := Hb.out; have := HLB.out; omega⟩, ⟨pw_below_drewN HB.out m2⟩⟩, by rw [hwb.out]; simp only [intOf]; have := HLB.out; omega⟩
          | false =>
            obtain ⟨F, hF⟩ : ∃ F, x.filter (fun z => z == a || z == b) = F := ⟨_, rfl⟩
            have o1 := only_spec x (by have := HX.out; omega) a b
            have o2 := only_spec y (by have := HX.out; have := HXY.out; omega) a b
            rw [← HAL.out a b ht] at o2
            rw [hF] at o1 o2
            have HO1 := Aside0.mk o1
            have HO2 := Aside0.mk o2
            have hFl : F.length ≤ 512 := by rw [← hF]; exact Nat.le_trans (List.length_filter_le _ _) HX.out
            have HSS := Aside0.mk (hsame_self F (by omega))
            clear o1 o2 hF hFl ht
            have tok := True.intro
            go_wp2_with (first
              | (go_at_call 65; refine car.mono ?_; rintro e w2 ⟨rfl, ⟨m2, rfl⟩⟩)
              | (go_at_call 119; have _t := tok; refine (larderlaw07_only.calls (x.length + 1) A0 c0 x a b F _ (Kd.C_below HR0.out (pw_below_drewN HB.out m2)) HC0.out HO1.out).mono ?_; rintro e w3 ⟨v3, rfl, hv3, B3⟩; obtain ⟨A3, c3, rfl, hc3, hC3⟩ := Kd.R_reads hv3; have HC3 := Aside0.mk hC3; have Hc3 := Aside0.mk hc3; have HB3 := Aside0.mk (below_step (pw_below_drewN HB.out m2) B3); clear hv3 B3 hc3 hC3 tok)
              | (go_at_call 119; refine (larderlaw07_only.calls (y.length + 1) A1 c1 y a b F _ (Kd.C_below HR1.out HB3.out) HC1.out HO2.out).mono ?_; rintro e w4 ⟨v4, rfl, hv4, B4⟩; obtain ⟨A4, c4, rfl, hc4, hC4⟩ := Kd.R_reads hv4; have HC4 := Aside0.mk hC4; have Hc4 := Aside0.mk hc4; have HB4 := Aside0.mk B4; clear hv4 B4 hc4 hC4)
              | (go_at_call 24; refine (larderlaw07_same.calls (F.length + 2) A3 c3 F A4 c4 F true w4 (Kd.C_below HC3.out HB4.out) Hc3.out HC4.out Hc4.out HSS.out).mono ?_; rintro e w5 ⟨rfl, ⟨m5, rfl⟩⟩))
            exact ⟨⟨wrap64 (b + 1), rfl, ⟨by rw [hwb.out]; have := Hb.out; have := HLB.out; omega⟩, ⟨pw_below_drewN (below_step HB3.out HB4.out) m5⟩⟩, by rw [hwb.out]; simp only [intOf]; have := HLB.out; omega⟩
        · have hltb2 : decide (b < 16) = false := decide_eq_false hlt
          clear hlt
          go_wp2
          exact ⟨⟨wrap64 (a + 1), rfl, ⟨by rw [hwa.out]; have := Ha.out; have := HLT.out; omega⟩, HB⟩, by rw [hwa.out]; simp only [intOf]; have := HLT.out; omega⟩
    · have hltb : decide (a < 16) = false := decide_eq_false hlt
      clear hlt
      go_wp2
      go_ret
      exact ⟨rfl, HB.out⟩
end Go.Proofs.Ytfcjfjmjcmanaaa.X
