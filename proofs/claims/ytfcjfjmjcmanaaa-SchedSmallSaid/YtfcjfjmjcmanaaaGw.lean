/- SchedSmall: lists that are alike have one least. Plain. SchedSmall: alike, whatever the lists. -/
import Derived.Test.YtfcjfjmjcmanaaaGh
import Derived.Test.YtfcjfjmjcmanaaaGu
set_option linter.unusedVariables false
namespace Go.Proofs.Ytfcjfjmjcmanaaa.V
open Go Go.RowKit Go.Proofs.Ytfcjfjmjcmanaaa.X Go.Proofs.YtfcjfjmjcmanaaaW.PrintWords Go.Proofs.YtfcjfjmjcmanaaaW.PrintLast Go.Proofs.YtfcjfjmjcmanaaaW.PrintMore
abbrev two (a b : Int) : Int → Bool := fun z => z == a || z == b
/-- Alike: each two that are not apart come alike. -/
def Al (t : Int → Int → Bool) (x y : List Int) : Prop := ∀ a b, t a b = false → x.filter (two a b) = y.filter (two a b)
variable {t : Int → Int → Bool}
theorem Al.symm {x y : List Int} (h : Al t x y) : Al t y x := fun a b hab => (h a b hab).symm
theorem two_apart (ht : Ap t) {a b m : Int} (hab : t a b = false) (hm : two a b m = true) : ∀ y, two a b y = true → t y m = false := by
  intro y hy
  simp only [two, Bool.or_eq_true, beq_iff_eq] at hm hy
  rcases hm with rfl | rfl <;> rcases hy with rfl | rfl
  · exact ht.irr _
  · rw [ht.symm]; exact hab
  · exact hab
  · exact ht.irr _
theorem fv_heads (ht : Ap t) {m : Int} {L : List Int} (h : fv t m L = true) : ∀ b, t m b = false → (L.filter (two m b)).head? = some m := by
  intro b hb
  rw [filter_front t m (two m b) (by simp [two]) (two_apart ht hb (by simp [two])) L h]
  rfl
theorem fv_of_heads (ht : Ap t) {m : Int} : ∀ {L : List Int}, (∀ b, t m b = false → (L.filter (two m b)).head? = some m) → fv t m L = true
  | [], h => by have := h m (ht.irr m); simp at this
  | y :: r, h => by
    unfold fv
    by_cases e : y = m
    · rw [if_pos e]
    · rw [if_neg e, Bool.and_eq_true]
      have h1 : t m y = true := by
        cases z : t m y with
        | true => rfl
        | false =>
          have := h y z
          rw [List.filter_cons_of_pos (by simp [two])] at this
          simp at this
          exact absurd this e
      refine ⟨by rw [ht.symm]; exact h1, fv_of_heads ht fun b hb => ?_⟩
      have hyb : y ≠ b := fun z => by rw [z, hb] at h1; cases h1
      have := h b hb
      rwa [List.filter_cons_of_neg (by simp [two, e, hyb])] at this
theorem Al.fv (ht : Ap t) {x y : List Int} (h : Al t x y) {m : Int} (hm : X.fv t m x = true) : X.fv t m y = true :=
  fv_of_heads ht fun b hb => by rw [← h m b hb]; exact fv_heads ht hm b hb
theorem Al.erase (ht : Ap t) {x y : List Int} (h : Al t x y) {m : Int} (hx : X.fv t m x = true) (hy : X.fv t m y = true) : Al t (x.erase m) (y.erase m) := by
  intro a b hab
  have e := h a b hab
  cases hm : two a b m with
  | true =>
    rw [filter_front t m (two a b) hm (two_apart ht hab hm) x hx, filter_front t m (two a b) hm (two_apart ht hab hm) y hy] at e
    exact List.tail_eq_of_cons_eq e
  | false => rw [← filter_erase m (two a b) hm x, ← filter_erase m (two a b) hm y]; exact e
/-- Alike: the same least. -/
theorem al_lst (ht : Ap t) : ∀ (n : Nat) (x y : List Int), x.length = n → y.length = n → Al t x y → lst t n x = lst t n y
  | 0, x, y, hx, hy, _ => by rw [List.length_eq_zero_iff.1 hx, List.length_eq_zero_iff.1 hy]
  | n + 1, x, y, hx, hy, h => by
    obtain ⟨m, f1, l1, e1⟩ := lst_next ht x (by omega)
    obtain ⟨k, f2, l2, e2⟩ := lst_next ht y (by omega)
    have hk : m = k := by
      have h1 := l2 m (h.fv ht f1)
      have h2 := l1 k (h.symm.fv ht f2)
      omega
    subst hk
    have n1 : (x.erase m).length = n := by rw [List.length_erase_of_mem (fv_mem f1)]; omega
    have n2 : (y.erase m).length = n := by rw [List.length_erase_of_mem (fv_mem f2)]; omega
    rw [hx, n1] at e1
    rw [hy, n2] at e2
    rw [e1, e2, al_lst ht n _ _ n1 n2 (h.erase ht f1 f2)]
theorem lst_al (ht : Ap t) (x : List Int) : Al t (lst t x.length x) x := fun a b hab => lst_filter ht a b hab x.length x rfl
/-- The least is not above any that is alike. -/
theorem al_low (ht : Ap t) {x y : List Int} (hl : x.length = y.length) (h : Al t x y) : blw x (lst t y.length y) = false := by
  rw [← al_lst ht y.length x y hl rfl h]
  exact lst_low ht y.length x hl
/-- Of handlers' numbers alone. -/
theorem al_of_nums (ht : Ap t) {x y : List Int} (hx : ∀ z ∈ x, Hnum z) (hy : ∀ z ∈ y, Hnum z) (h : ∀ a b, Hnum a → Hnum b → a ≤ b → t a b = false → x.filter (two a b) = y.filter (two a b)) : Al t x y := by
  have sw : ∀ (a b : Int) (L : List Int), L.filter (two a b) = L.filter (two b a) := fun a b L => List.filter_congr fun z _ => by simp [two, Bool.or_comm]
  have key : ∀ a b, Hnum a → Hnum b → t a b = false → x.filter (two a b) = y.filter (two a b) := fun a b ha hb hab => by
    rcases Int.le_total a b with z | z
    · exact h a b ha hb z hab
    · rw [sw a b x, sw a b y]; exact h b a hb ha z (by rw [ht.symm]; exact hab)
  intro a b hab
  by_cases ha : Hnum a
  · by_cases hb : Hnum b
    · exact key a b ha hb hab
    · have e : ∀ L : List Int, (∀ z ∈ L, Hnum z) → L.filter (two a b) = L.filter (two a a) := fun L hL => List.filter_congr fun z hz => by
        have : z ≠ b := fun q => hb (q ▸ hL z hz)
        simp [two, this]
      rw [e x hx, e y hy]; exact key a a ha ha (ht.irr a)
  · by_cases hb : Hnum b
    · have e : ∀ L : List Int, (∀ z ∈ L, Hnum z) → L.filter (two a b) = L.filter (two b b) := fun L hL => List.filter_congr fun z hz => by
        have : z ≠ a := fun q => ha (q ▸ hL z hz)
        simp [two, this]
      rw [e x hx, e y hy]; exact key b b hb hb (ht.irr b)
    · have e : ∀ L : List Int, (∀ z ∈ L, Hnum z) → L.filter (two a b) = [] := fun L hL => by
        rw [List.filter_eq_nil_iff]
        intro z hz
        have h1 : z ≠ a := fun q => ha (q ▸ hL z hz)
        have h2 : z ≠ b := fun q => hb (q ▸ hL z hz)
        simp [two, h1, h2]
      rw [e x hx, e y hy]
end Go.Proofs.Ytfcjfjmjcmanaaa.V
set_option linter.unusedVariables false
namespace Go.Proofs.Ytfcjfjmjcmanaaa.V
open Go Go.RowKit Go.Proofs.Ytfcjfjmjcmanaaa.X Go.Proofs.Ytfcjfjmjcmanaaa.PBase Go.Proofs.Ytfcjfjmjcmanaaa.POnly Go.Proofs.YtfcjfjmjcmanaaaW.PrintWords Go.Proofs.YtfcjfjmjcmanaaaW.PrintLast Go.Proofs.YtfcjfjmjcmanaaaW.PrintMore
theorem same_l0 (L M : List Int) (hL : L.length ≤ 70000) (hl : L.length = M.length) (e : Nat) : ∀ (k i : Nat), i + e = L.length → e < k → larderlaw07_same.l0 k L M (i : Int) = some (decide (L.drop i = M.drop i)) := by
  induction e with
  | zero =>
    intro k i h hk
    obtain ⟨k, rfl⟩ : ∃ m, k = m + 1 := ⟨k - 1, by omega⟩
    simp only [larderlaw07_same.l0]
    rw [if_neg (by omega), List.drop_of_length_le (by omega), List.drop_of_length_le (by omega)]
    simp
  | succ e ih =>
    intro k i h hk
    obtain ⟨k, rfl⟩ : ∃ m, k = m + 1 := ⟨k - 1, by omega⟩
    simp only [larderlaw07_same.l0]
    rw [if_pos (by omega), if_pos (by omega), if_pos (by omega), show wrap64 ((i : Int) + 1) = ((i + 1 : Nat) : Int) from by rw [hwrId (by omega) (by omega)]; omega, ih k (i + 1) (by omega) (by omega), rd_get L i (by omega), rd_get M i (by omega), List.drop_eq_getElem_cons (show i < L.length by omega), List.drop_eq_getElem_cons (show i < M.length by omega)]
    by_cases z : L[i] = M[i]
    · rw [if_pos z]
      congr 1
      rw [decide_eq_decide, z]
      exact ⟨fun y => by rw [y], fun y => List.tail_eq_of_cons_eq y⟩
    · rw [if_neg z, decide_eq_false]
      intro y
      exact z (List.head_eq_of_cons_eq y)
theorem same_any (L M : List Int) (hL : L.length ≤ 70000) : larderlaw07_same.f (L.length + 2) L M = some (decide (L = M)) := by
  unfold larderlaw07_same.f
  by_cases h : L.length = M.length
  · rw [if_pos (by omega)]
    have := same_l0 L M hL h L.length (L.length + 2) 0 (by omega) (by omega)
    simpa using this
  · rw [if_neg (by omega), decide_eq_false (fun z => h (by rw [z]))]
/-- Alike, as the law asks it. -/
def AlN (ps : List (Int × Int)) (x y : List Int) : Prop := ∀ a b : Int, 0 ≤ a → a ≤ b → b < 16 → tab ps a b = false → x.filter (two a b) = y.filter (two a b)
def DnA (ps : List (Int × Int)) (x y : List Int) (a : Int) : Prop := ∀ a' b' : Int, 0 ≤ a' → a' < a → a' ≤ b' → b' < 16 → tab ps a' b' = false → x.filter (two a' b') = y.filter (two a' b')
def DnB (ps : List (Int × Int)) (x y : List Int) (a b : Int) : Prop := ∀ b' : Int, a ≤ b' → b' < b → tab ps a b' = false → x.filter (two a b') = y.filter (two a b')
theorem DnB.next {ps : List (Int × Int)} {x y : List Int} {a b : Int} (h : DnB ps x y a b) (e : tab ps a b = false → x.filter (two a b) = y.filter (two a b)) : DnB ps x y a (b + 1) := fun b' h1 h2 h3 => by
  by_cases z : b' = b
  · subst z; exact e h3
  · exact h b' h1 (by omega) h3
theorem DnA.next {ps : List (Int × Int)} {x y : List Int} {a b : Int} (h : DnA ps x y a) (hb : DnB ps x y a b) (e : 16 ≤ b) : DnA ps x y (a + 1) := fun a' b' h1 h2 h3 h4 h5 => by
  by_cases z : a' = a
  · subst z; exact hb b' h3 (by omega) h5
  · exact h a' b' h1 (by omega) h3 h4 h5
set_option maxRecDepth 100000 in
set_option maxHeartbeats 4000000 in
theorem alike_any (A0 : Option Addr) (c0 : Nat) (x : List Int) (A1 : Option Addr) (c1 : Nat) (y : List Int) (A2 : Option Addr) (c2 : Nat) (ps : List (Int × Int)) (w : World) (hr0 : Kd.C (Kd.int .i64) w A0 x.length x) (hc0 : x.length ≤ c0) (hr1 : Kd.C (Kd.int .i64) w A1 y.length y) (hc1 : y.length ≤ c1) (hr2 : Kd.C Kp w A2 ps.length ps)
    (hx : x.length ≤ 512) (hxy : x.length = y.length) (hp : ps.length ≤ 8796093021952) :
    Calls Try.prog 64 #[.slice A0 x.length c0, .slice A1 y.length c1, .slice A2 ps.length c2] w fun e w' => ∃ r : Bool, e = .returned (.bool r) ∧ (r = true → AlN ps x y) ∧ (r = false → ¬ AlN ps x y) ∧ Below w.heap.size w w' := by
  have HR0 := Aside0.mk hr0
  have HC0 := Aside0.mk hc0
  have HR1 := Aside0.mk hr1
  have HC1 := Aside0.mk hc1
  have HR2 := Aside0.mk hr2
  have HX := Aside0.mk hx
  have HXY := Aside0.mk hxy
  have HP := Aside0.mk hp
  have hlb : ((x.length : Int) == (y.length : Int)) = true := by simp [hxy]
  clear hr0 hc0 hr1 hc1 hr2 hx hxy hp
  go_enter Try.func64, Try.ntmps64
  go_wp2
  go_loopw [7] (fun p wr => ∃ a : Int, p = .int .i64 a ∧ Aside0 (0 ≤ a ∧ a ≤ 16) ∧ Aside0 (DnA ps x y a) ∧ Aside0 (Below w.heap.size w wr)) (fun p _ => (16 - intOf p).toNat)
  case atStart => exact ⟨0, rfl, ⟨by omega⟩, ⟨fun a' b' h1 h2 => by omega⟩, ⟨by repeat (first | exact Below.refl w.heap.size w | apply pw_below_drewN | apply below_drew1)⟩⟩
  case round =>
    obtain ⟨a, rfl, Ha, DA, HB⟩ := hrel
    rename World => W1
    by_cases hlt : a < 16
    · have hltb : decide (a < 16) = true := decide_eq_true hlt
      have hwa := Aside0.mk (show wrap64 (a + 1) = a + 1 from hwrId (by have := Ha.out; omega) (by omega))
      have HLT := Aside0.mk hlt
      clear hlt
      go_wp2
      go_loopw [8] (fun p wr => ∃ b : Int, p = .int .i64 b ∧ Aside0 (a ≤ b ∧ b ≤ 16) ∧ Aside0 (DnB ps x y a b) ∧ Aside0 (Below w.heap.size w wr)) (fun p _ => (16 - intOf p).toNat)
      case atStart => exact ⟨a, rfl, ⟨by have := Ha.out; omega⟩, ⟨fun b' h1 h2 => by omega⟩, HB⟩
      case round =>
        clear HB
        obtain ⟨b, rfl, Hb, DB, HB⟩ := hrel
        by_cases hlt : b < 16
        · have hltb2 : decide (b < 16) = true := decide_eq_true hlt
          have hwb := Aside0.mk (show wrap64 (b + 1) = b + 1 from hwrId (by have := Hb.out; have := Ha.out; omega) (by omega))
          have HLB := Aside0.mk hlt
          clear hlt
          have car := are_calls a b A2 c2 ps wr (Kd.C_below HR2.out HB.out) HP.out
          obtain ⟨t, ht⟩ : ∃ t, tab ps a b = t := ⟨_, rfl⟩
          rw [ht] at car
          have HT := Aside0.mk ht
          clear ht
          cases t with
          | true =>
            go_wp2_with (go_at_call 65; refine car.mono ?_; rintro e w2 ⟨rfl, ⟨m2, rfl⟩⟩)
            exact ⟨⟨wrap64 (b + 1), rfl, ⟨by rw [hwb.out]; have := Hb.out; have := HLB.out; omega⟩, ⟨by rw [hwb.out]; exact DB.out.next (fun z => by rw [HT.out] at z; cases z)⟩, ⟨pw_below_drewN HB.out m2⟩⟩, by rw [hwb.out]; simp only [intOf]; have := HLB.out; omega⟩
          | false =>
            obtain ⟨F, hF⟩ : ∃ F, x.filter (fun z => z == a || z == b) = F := ⟨_, rfl⟩
            obtain ⟨G, hG⟩ : ∃ G, y.filter (fun z => z == a || z == b) = G := ⟨_, rfl⟩
            have o1 := only_spec x (by have := HX.out; omega) a b
            have o2 := only_spec y (by have := HX.out; have := HXY.out; omega) a b
            rw [hF] at o1
            rw [hG] at o2
            have HO1 := Aside0.mk o1
            have HO2 := Aside0.mk o2
            have hFl : F.length ≤ 512 := by rw [← hF]; exact Nat.le_trans (List.length_filter_le _ _) HX.out
            have HFF := Aside0.mk (And.intro hF hG)
            have hss := same_any F G (by omega)
            by_cases hfg : F = G
            · rw [decide_eq_true hfg] at hss
              have HSS := Aside0.mk hss
              have HFG := Aside0.mk hfg
              clear o1 o2 hF hG hFl hss hfg
              have tok := True.intro
              go_wp2_with (first
                | (go_at_call 65; refine car.mono ?_; rintro e w2 ⟨rfl, ⟨m2, rfl⟩⟩)
                | (go_at_call 119; have _t := tok; refine (larderlaw07_only.calls (x.length + 1) A0 c0 x a b F _ (Kd.C_below HR0.out (pw_below_drewN HB.out m2)) HC0.out HO1.out).mono ?_; rintro e w3 ⟨v3, rfl, hv3, B3⟩; obtain ⟨A3, c3, rfl, hc3, hC3⟩ := Kd.R_reads hv3; have HC3 := Aside0.mk hC3; have Hc3 := Aside0.mk hc3; have HB3 := Aside0.mk (below_step (pw_below_drewN HB.out m2) B3); clear hv3 B3 hc3 hC3 tok)
                | (go_at_call 119; refine (larderlaw07_only.calls (y.length + 1) A1 c1 y a b G _ (Kd.C_below HR1.out HB3.out) HC1.out HO2.out).mono ?_; rintro e w4 ⟨v4, rfl, hv4, B4⟩; obtain ⟨A4, c4, rfl, hc4, hC4⟩ := Kd.R_reads hv4; have HC4 := Aside0.mk hC4; have Hc4 := Aside0.mk hc4; have HB4 := Aside0.mk B4; clear hv4 B4 hc4 hC4)
                | (go_at_call 24; refine (larderlaw07_same.calls (F.length + 2) A3 c3 F A4 c4 G true w4 (Kd.C_below HC3.out HB4.out) Hc3.out HC4.out Hc4.out HSS.out).mono ?_; rintro e w5 ⟨rfl, ⟨m5, rfl⟩⟩))
              exact ⟨⟨wrap64 (b + 1), rfl, ⟨by rw [hwb.out]; have := Hb.out; have := HLB.out; omega⟩, ⟨by rw [hwb.out]; exact DB.out.next (fun _ => HFF.out.1.trans (HFG.out.trans HFF.out.2.symm))⟩, ⟨pw_below_drewN (below_step HB3.out HB4.out) m5⟩⟩, by rw [hwb.out]; simp only [intOf]; have := HLB.out; omega⟩
            · rw [decide_eq_false hfg] at hss
              have HSS := Aside0.mk hss
              have HFG := Aside0.mk hfg
              clear o1 o2 hF hG hFl hss hfg
              have tok := True.intro
              go_wp2_with (first
                | (go_at_call 65; refine car.mono ?_; rintro e w2 ⟨rfl, ⟨m2, rfl⟩⟩)
                | (go_at_call 119; have _t := tok; refine (larderlaw07_only.calls (x.length + 1) A0 c0 x a b F _ (Kd.C_below HR0.out (pw_below_drewN HB.out m2)) HC0.out HO1.out).mono ?_; rintro e w3 ⟨v3, rfl, hv3, B3⟩; obtain ⟨A3, c3, rfl, hc3, hC3⟩ := Kd.R_reads hv3; have HC3 := Aside0.mk hC3; have Hc3 := Aside0.mk hc3; have HB3 := Aside0.mk (below_step (pw_below_drewN HB.out m2) B3); clear hv3 B3 hc3 hC3 tok)
                | (go_at_call 119; refine (larderlaw07_only.calls (y.length + 1) A1 c1 y a b G _ (Kd.C_below HR1.out HB3.out) HC1.out HO2.out).mono ?_; rintro e w4 ⟨v4, rfl, hv4, B4⟩; obtain ⟨A4, c4, rfl, hc4, hC4⟩ := Kd.R_reads hv4; have HC4 := Aside0.mk hC4; have Hc4 := Aside0.mk hc4; have HB4 := Aside0.mk B4; clear hv4 B4 hc4 hC4)
                | (go_at_call 24; refine (larderlaw07_same.calls (F.length + 2) A3 c3 F A4 c4 G false w4 (Kd.C_below HC3.out HB4.out) Hc3.out HC4.out Hc4.out HSS.out).mono ?_; rintro e w5 ⟨rfl, ⟨m5, rfl⟩⟩))
              go_ret
              exact ⟨false, rfl, fun z => (by cases z), fun _ hal => HFG.out (HFF.out.1.symm.trans ((hal a b Ha.out.1 Hb.out.1 HLB.out HT.out).trans HFF.out.2)), pw_below_drewN (below_step HB3.out HB4.out) m5⟩
        · have hltb2 : decide (b < 16) = false := decide_eq_false hlt
          have HGE := Aside0.mk (show 16 ≤ b by omega)
          clear hlt
          go_wp2
          exact ⟨⟨wrap64 (a + 1), rfl, ⟨by rw [hwa.out]; have := Ha.out; have := HLT.out; omega⟩, ⟨by rw [hwa.out]; exact DA.out.next DB.out (by have := HGE.out; omega)⟩, HB⟩, by rw [hwa.out]; simp only [intOf]; have := HLT.out; omega⟩
    · have hltb : decide (a < 16) = false := decide_eq_false hlt
      have HGA := Aside0.mk (show 16 ≤ a by omega)
      clear hlt
      go_wp2
      go_ret
      exact ⟨true, rfl, fun _ a' b' h1 h2 h3 h4 => DA.out a' b' h1 (by have := HGA.out; omega) h2 h3 h4, fun z => (by cases z), HB.out⟩
end Go.Proofs.Ytfcjfjmjcmanaaa.V
