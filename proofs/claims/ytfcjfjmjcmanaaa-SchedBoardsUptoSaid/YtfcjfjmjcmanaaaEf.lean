/- SchedBoards: the walks of the document's board: Longest, Pick. -/
import Derived.Test.YtfcjfjmjcmanaaaEe
set_option linter.unusedVariables false
namespace Go.Proofs.Ytfcjfjmjcmanaaa.B
open Go Go.RowKit Go.Proofs.YtfcjfjmjcmanaaaW.PrintWords Go.Proofs.YtfcjfjmjcmanaaaW.PrintLast Go.Proofs.YtfcjfjmjcmanaaaW.PrintMore
variable {W : World} {R : Nat → Prop} {r : Nat} {ar : Nat → Addr} {cr : Nat → Nat} {n : Nat} {l : List Hd} {tn : List Int} {B : Bd} {u : Int}
set_option maxRecDepth 100000
set_option maxHeartbeats 8000000
theorem rlongest_calls (hb : RAt W R r ar cr n B.l tn u) (hn : n ≤ 16) : Calls Try.prog 99 #[.pointer (some ⟨r, 0, none⟩)] W fun e W' => e = .returned (.tuple #[.int .i64 B.longest.1, .int .i64 B.longest.2]) ∧ Below W.heap.size W W' := by
  have HB := Aside0.mk hb
  have HLN := Aside0.mk hb.1
  have HN := Aside0.mk hn
  clear hb hn
  unfold Bd.longest
  go_enter Try.func99, Try.ntmps99
  go_wp2
  go_loopw [4, 5, 6] (fun v4 v5 vi wr => ∃ k : Nat, vi = .int .i64 (k : Int) ∧ Aside0 (k ≤ n) ∧ v4 = .int .i64 (longK B.l k).1 ∧ v5 = .int .i64 (longK B.l k).2 ∧ Aside0 (Below W.heap.size W wr)) (fun _ _ vi _ => n - (intOf vi).toNat)
  case atStart => exact ⟨0, rfl, ⟨Nat.zero_le _⟩, rfl, rfl, ⟨Below.refl _ _⟩⟩
  case round =>
    obtain ⟨k, rfl, Hk, rfl, rfl, HW⟩ := hrel
    rename World => W3
    have HB3 := Aside0.mk (HB.out.below HW.out)
    obtain ⟨c0, c1, c2, c3, c4⟩ := HB3.out.cells
    have HW1 := Aside0.mk (show wrap64 ((k : Int) + 1) = ((k + 1 : Nat) : Int) by rw [X.hwrId (by omega) (by have := Hk.out; have := HN.out; omega)]; omega)
    have FIN := Aside0.mk (fun (w : World) (a' b' : Int) (hlt : k < n) (h : longK B.l (k + 1) = (a', b')) (hb : Below W.heap.size W w) => (show (∃ k' : Nat, Value.int .i64 (wrap64 ((k : Int) + 1)) = .int .i64 (k' : Int) ∧ Aside0 (k' ≤ n) ∧ Value.int .i64 a' = .int .i64 (longK B.l k').1 ∧ Value.int .i64 b' = .int .i64 (longK B.l k').2 ∧ Aside0 (Below W.heap.size W w)) ∧ n - (intOf (Value.int .i64 (wrap64 ((k : Int) + 1)))).toNat < n - (intOf (Value.int .i64 (k : Int))).toNat from ⟨⟨k + 1, by rw [HW1.out], ⟨hlt⟩, by rw [h], by rw [h], ⟨hb⟩⟩, by rw [HW1.out]; simp only [intOf]; omega⟩))
    by_cases hlt : k < n
    · have q1 : decide (k < n) = true := decide_eq_true hlt
      have q2 : decide ((k : Int) < (n : Int)) = true := decide_eq_true (by omega)
      have HLT := Aside0.mk hlt
      have hh : B.has (k : Int) = true := has_iff.2 ⟨by omega, by have := HLN.out; omega⟩
      obtain ⟨d0, d1, d2, d3, h0, h1⟩ := HB3.out.hd hh
      rw [hd_getD] at d0 d3
      simp only [Int.toNat_natCast] at d0 d3
      obtain ⟨⟨s, o, c⟩, hs⟩ : ∃ x, B.l.getD k (0, 0, 0) = x := ⟨_, rfl⟩
      rw [hs] at d0 d3
      obtain ⟨⟨a, b⟩, hab⟩ : ∃ ab, longK B.l k = ab := ⟨_, rfl⟩
      have HST := Aside0.mk (show longK B.l (k + 1) = if s = 1 ∧ (a < 0 ∨ b < c) then ((k : Int), c) else (a, b) by rw [longK, hs, hab])
      rw [hab]
      replace h0 := eq_true h0
      replace h1 := eq_true h1
      simp only at d0 d3 ⊢
      clear hs hh d1 d2 hlt hab
      by_cases e1 : s = 1
      · subst e1
        by_cases ha : a < 0
        · have f1 : decide (a < 0) = true := decide_eq_true ha
          have HS2 := Aside0.mk (show longK B.l (k + 1) = ((k : Int), c) by rw [HST.out, if_pos ⟨rfl, .inl ha⟩])
          clear ha
          go_wp2
          exact FIN.out _ _ _ HLT.out HS2.out HW.out
        · have f1 : decide (a < 0) = false := decide_eq_false ha
          by_cases hbc : b < c
          · have f2 : decide (b < c) = true := decide_eq_true hbc
            have HS2 := Aside0.mk (show longK B.l (k + 1) = ((k : Int), c) by rw [HST.out, if_pos ⟨rfl, .inr hbc⟩])
            clear ha hbc
            go_wp2
            exact FIN.out _ _ _ HLT.out HS2.out HW.out
          · have f2 : decide (b < c) = false := decide_eq_false hbc
            have HS2 := Aside0.mk (show longK B.l (k + 1) = (a, b) by rw [HST.out, if_neg (fun z => z.2.elim ha hbc)])
            clear ha hbc
            go_wp2
            exact FIN.out _ _ _ HLT.out HS2.out HW.out
      · have f1 : (s == 1) = false := beq_eq_false_iff_ne.2 e1
        have HS2 := Aside0.mk (show longK B.l (k + 1) = (a, b) by rw [HST.out, if_neg (fun z => e1 z.1)])
        clear e1
        go_wp2
        exact FIN.out _ _ _ HLT.out HS2.out HW.out
    · have q1 : decide (k < n) = false := decide_eq_false hlt
      have q2 : decide ((k : Int) < (n : Int)) = false := decide_eq_false (by omega)
      have hk : k = B.l.length := by have := Hk.out; have := HLN.out; omega
      subst hk
      clear hlt
      go_wp2
      go_ret2
      exact ⟨rfl, HW.out⟩
/-! ### Pick -/
/-- Behind k handlers, g left out. -/
def pk (l : List Hd) (g : Int) : Nat → List Hd
  | 0 => l
  | k + 1 => if (k : Int) = g then pk l g k else (pk l g k).set k (bump (l.getD k (0, 0, 0)))
theorem pk_len (l : List Hd) (g : Int) : ∀ k, (pk l g k).length = l.length
  | 0 => rfl
  | k + 1 => by
    rw [pk]
    split
    · exact pk_len l g k
    · rw [List.length_set]; exact pk_len l g k
theorem pk_get (l : List Hd) (g : Int) : ∀ k, k ≤ l.length → ∀ i : Nat, (pk l g k)[i]? = if i < k ∧ (i : Int) ≠ g then (l[i]?).map bump else l[i]?
  | 0, _, i => by simp [pk]
  | k + 1, hk, i => by
    have ih := pk_get l g k (by omega) i
    rw [pk]
    by_cases e : (k : Int) = g
    · rw [if_pos e, ih]
      by_cases h1 : i < k ∧ (i : Int) ≠ g
      · rw [if_pos h1, if_pos ⟨by omega, h1.2⟩]
      · rw [if_neg h1, if_neg (fun z => h1 ⟨by rcases Nat.lt_or_ge i k with y | y; exact y; exact absurd (show (i : Int) = g by omega) z.2, z.2⟩)]
    · rw [if_neg e, List.getElem?_set]
      by_cases e2 : k = i
      · subst e2
        rw [if_pos rfl, if_pos (by rw [pk_len]; omega), if_pos ⟨by omega, e⟩, List.getD_eq_getElem?_getD, List.getElem?_eq_getElem (by omega)]
        rfl
      · rw [if_neg e2, ih]
        by_cases h1 : i < k ∧ (i : Int) ≠ g
        · rw [if_pos h1, if_pos ⟨by omega, h1.2⟩]
        · rw [if_neg h1, if_neg (fun z => h1 ⟨by omega, z.2⟩)]
theorem pk_all {l : List Hd} {g : Int} (g0 : 0 ≤ g) (g1 : g < (l.length : Int)) (x : Hd) : (pk l g l.length).set g.toNat x = (l.map bump).set g.toNat x := by
  apply List.ext_getElem?
  intro i
  rw [List.getElem?_set, List.getElem?_set, pk_len, List.length_map]
  by_cases e : g.toNat = i
  · rw [if_pos e, if_pos e]
  · rw [if_neg e, if_neg e, pk_get l g _ (Nat.le_refl _), List.getElem?_map]
    by_cases h : i < l.length
    · rw [if_pos ⟨h, by omega⟩]
    · rw [if_neg (fun z => h z.1), List.getElem?_eq_none (by omega)]; rfl
theorem pick_mod (n : Nat) (hn : 1 ≤ n ∧ n ≤ 16) (k : Int) : ∃ q : Int, Int.tmod k n = q ∧ wrap64 q = q ∧ wrap64 (q + n) = q + n ∧ -(n : Int) < q ∧ q < n ∧ pickAt n k = if q < 0 then q + n else q := by
  have g1 := Int.tmod_lt_of_pos k (show (0 : Int) < (n : Int) by omega)
  have g2 := Int.lt_tmod_of_pos k (show (0 : Int) < (n : Int) by omega)
  unfold pickAt
  generalize Int.tmod k n = q at g1 g2
  refine ⟨q, rfl, X.hwrId (by omega) (by omega), X.hwrId (by omega) (by omega), by omega, g1, ?_⟩
  split
  · rw [Int.tmod_eq_emod_of_nonneg (by omega), Int.emod_eq_of_lt (by omega) (by omega)]
  · rw [Int.tmod_eq_emod_of_nonneg (by omega), Int.add_emod_right, Int.emod_eq_of_lt (by omega) g1]
theorem rpick_calls (hb : RAt W R r ar cr n B.l tn u) (hn : 1 ≤ n ∧ n ≤ 16) (k : Int) : Calls Try.prog 98 #[.pointer (some ⟨r, 0, none⟩), .int .i64 k] W fun e W' => e = .returned (.tuple #[.int .i64 (B.pick k).2.1, .bool (B.pick k).2.2]) ∧ RAt W' R r ar cr n (B.pick k).1.l tn u ∧ Turn R W W' := by
  obtain ⟨c0, c1, c2, c3, c4⟩ := hb.cells
  obtain ⟨q, e1, e2, e3, e4, e5, e6⟩ := pick_mod n hn k
  have hl := hb.1
  have HB := Aside0.mk hb
  have HN := Aside0.mk hn
  have HLN := Aside0.mk hl
  unfold Bd.pick
  rw [hl, e6]
  clear e6
  simp only
  have FINP : ∀ g : Int, 0 ≤ g → g < (n : Int) → ∀ w, RAt w R r ar cr n (pk B.l g n) tn u → ∀ s o cc, (B.l.map bump).getD g.toNat (0, 0, 0) = (s, o, cc) → w.cell? ⟨r, 3, none⟩ = some (.slice (some (ar 3)) n (cr 3)) ∧ w.frozen? ((ar 3).add g.toNat) = false ∧ (∃ y, w.cell? ((ar 3).add g.toNat) = some y) ∧ (∀ m, ((w.setCell ((ar 3).add g.toNat) (.int .i64 0)).drewN m).cell? ⟨r, 0, none⟩ = some (.slice (some (ar 0)) n (cr 0))) ∧ (∀ m, ((w.setCell ((ar 3).add g.toNat) (.int .i64 0)).drewN m).cell? ((ar 0).add g.toNat) = some (.int .i64 s)) ∧ RAt (w.setCell ((ar 3).add g.toNat) (.int .i64 0)) R r ar cr n ((B.l.map bump).set g.toNat (s, o, 0)) tn u ∧ Turn R w (w.setCell ((ar 3).add g.toNat) (.int .i64 0)) := by
    intro g g0 g1 w hw s o cc hx
    have hgl : g.toNat < B.l.length := by omega
    obtain ⟨y, hy⟩ : ∃ y, B.l[g.toNat]? = some y := ⟨_, List.getElem?_eq_getElem hgl⟩
    have hp : (pk B.l g n)[g.toNat]? = some y := by
      rw [← hl, pk_get B.l g _ (Nat.le_refl _), if_neg (fun z => z.2 (by omega)), hy]
    obtain ⟨h1, h2, h3⟩ := hw.gone hp 0
    have hm : (B.l.map bump).getD g.toNat (0, 0, 0) = bump y := by
      rw [List.getD_eq_getElem?_getD, List.getElem?_map, hy]; rfl
    have hset : (pk B.l g n).set g.toNat (y.1, y.2.1, 0) = (B.l.map bump).set g.toNat (y.1, y.2.1, 0) := by
      have := pk_all (l := B.l) g0 (by omega) (y.1, y.2.1, 0)
      rwa [hl] at this
    rw [hset] at h2
    have hcell : w.cell? ((ar 3).add g.toNat) = some (.int .i64 y.2.2) := by
      have z := (RAt.hd (B := ⟨pk B.l g n, B.q⟩) hw (k := g) (has_iff.2 ⟨g0, by show g < ((pk B.l g n).length : Int); rw [pk_len]; omega⟩)).2.2.2.1
      unfold Bd.hd at z
      simp only [List.getD_eq_getElem?_getD, hp, Option.getD_some] at z
      exact z
    rw [hm] at hx
    obtain ⟨f1, f2⟩ := bump_fst y
    rw [hx] at f1 f2
    simp only at f1 f2
    subst f1
    subst f2
    refine ⟨hw.cells.2.2.2.1, h1, ⟨_, hcell⟩, fun m => h2.cells.1, fun m => ?_, h2, h3⟩
    · have z := (RAt.hd (B := ⟨(B.l.map bump).set g.toNat (y.1, y.2.1, 0), B.q⟩) h2 (k := g) (has_iff.2 ⟨g0, by show g < (((B.l.map bump).set g.toNat (y.1, y.2.1, 0)).length : Int); rw [List.length_set, List.length_map]; omega⟩)).1
      unfold Bd.hd at z
      simp only [List.getD_eq_getElem?_getD, List.getElem?_set_self (show g.toNat < (B.l.map bump).length by rw [List.length_map]; exact hgl), Option.getD_some] at z
      exact z
  have FP := Aside0.mk FINP
  clear hb hl FINP
  have hnz : ((n : Int) = 0) = False := eq_false (by have := HN.out; omega)
  have hnz' : (n = 0) = False := eq_false (by have := HN.out; omega)
  have hn1 : ((n : Int) == 0) = false := beq_eq_false_iff_ne.2 (by have := HN.out; omega)
  by_cases hq : q < 0
  · rw [if_pos hq]
    have hqd : decide (q < 0) = true := decide_eq_true hq
    obtain ⟨g, hg⟩ : ∃ g, q + (n : Int) = g := ⟨_, rfl⟩
    have e3 : wrap64 (q + (n : Int)) = g := e3.trans hg
    rw [hg]
    have g0 : 0 ≤ g := by omega
    have g1 : g < (n : Int) := by omega
    clear hg e4 e5 hn hq
    obtain ⟨⟨s0, o0, cc0⟩, hx0⟩ : ∃ x, (B.l.map bump).getD g.toNat (0, 0, 0) = x := ⟨_, rfl⟩
    rw [hx0]
    simp only
    have HX0 := Aside0.mk hx0
    clear hx0
    have G0 := Aside0.mk g0
    have G1 := Aside0.mk g1
    replace g0 := eq_true g0
    replace g1 := eq_true g1
    go_enter Try.func98, Try.ntmps98
    go_wp2
    simp only [e3]
    clear e1 e2 e3 hqd
    go_loopw [8] (fun vi wr => ∃ j : Nat, vi = .int .i64 (j : Int) ∧ Aside0 (j ≤ n) ∧ Aside0 (RAt wr R r ar cr n (pk B.l g j) tn u) ∧ Aside0 (Turn R W wr)) (fun vi _ => n - (intOf vi).toNat)
    case atStart => exact ⟨0, rfl, ⟨Nat.zero_le _⟩, HB, ⟨Turn.refl _ _⟩⟩
    case round =>
      clear c0 c1 c2 c3 c4
      obtain ⟨j, rfl, Hj, HR, HT⟩ := hrel
      rename World => W3
      obtain ⟨c0, c1, c2, c3, c4⟩ := HR.out.cells
      have HW1 := Aside0.mk (show wrap64 ((j : Int) + 1) = ((j + 1 : Nat) : Int) by rw [X.hwrId (by omega) (by have := Hj.out; have := HN.out; omega)]; omega)
      have FIN := Aside0.mk (fun (w : World) (hlt : j < n) (h : RAt w R r ar cr n (pk B.l g (j + 1)) tn u) (t : Turn R W w) => (show (∃ j' : Nat, Value.int .i64 (wrap64 ((j : Int) + 1)) = .int .i64 (j' : Int) ∧ Aside0 (j' ≤ n) ∧ Aside0 (RAt w R r ar cr n (pk B.l g j') tn u) ∧ Aside0 (Turn R W w)) ∧ n - (intOf (Value.int .i64 (wrap64 ((j : Int) + 1)))).toNat < n - (intOf (Value.int .i64 (j : Int))).toNat from ⟨⟨j + 1, by rw [HW1.out], ⟨hlt⟩, ⟨h⟩, ⟨t⟩⟩, by rw [HW1.out]; simp only [intOf]; omega⟩))
      by_cases hlt : j < n
      · have q1 : decide (j < n) = true := decide_eq_true hlt
        have q2 : decide ((j : Int) < (n : Int)) = true := decide_eq_true (by omega)
        have HLT := Aside0.mk hlt
        have hjl : j < B.l.length := by have := HLN.out; omega
        obtain ⟨⟨s, o, c⟩, hy⟩ : ∃ y, B.l[j]? = some y := ⟨_, List.getElem?_eq_getElem hjl⟩
        have hp : (pk B.l g j)[j]? = some (s, o, c) := by rw [pk_get B.l g _ (by omega), if_neg (fun z => Nat.lt_irrefl _ z.1), hy]
        have hst : pk B.l g (j + 1) = if (j : Int) = g then pk B.l g j else (pk B.l g j).set j (bump (s, o, c)) := by
          rw [pk, List.getD_eq_getElem?_getD, hy]; rfl
        have hd := RAt.hd (B := ⟨pk B.l g j, B.q⟩) HR.out (k := (j : Int)) (has_iff.2 ⟨by omega, by show (j : Int) < ((pk B.l g j).length : Int); rw [pk_len]; omega⟩)
        obtain ⟨d0, _, _, d3, h0, h1⟩ := hd
        rw [hd_getD] at d0 d3
        simp only [List.getD_eq_getElem?_getD, hp, Option.getD_some, Int.toNat_natCast] at d0 d3
        obtain ⟨p1, p2, p3⟩ := HR.out.gone hp (wrap64 (c + 1))
        replace h0 := eq_true h0
        replace h1 := eq_true h1
        by_cases eg : (j : Int) = g
        · have hs : pk B.l g (j + 1) = pk B.l g j := by rw [hst, if_pos eg]
          have HS := Aside0.mk hs
          clear hst hs hp hy hjl hlt p2 p3
          subst eg
          go_wp2
          exact FIN.out _ HLT.out (by rw [HS.out]; exact HR.out) HT.out
        · have f1 : ((j : Int) == g) = false := beq_eq_false_iff_ne.2 eg
          have f3 : ((j : Int) = g) = False := eq_false eg
          by_cases e1 : s = 1
          · subst e1
            have hs : pk B.l g (j + 1) = (pk B.l g j).set j (1, o, wrap64 (c + 1)) := by rw [hst, if_neg eg]; rfl
            rw [← hs] at p2
            have P2 := Aside0.mk p2
            have P3 := Aside0.mk p3
            clear hst hs hp hy hjl hlt p2 p3 eg
            go_wp2
            exact FIN.out _ HLT.out P2.out (HT.out.trans P3.out (fun _ z => .inl z))
          · have f2 : (s == 1) = false := beq_eq_false_iff_ne.2 e1
            have hs : pk B.l g (j + 1) = pk B.l g j := by
              rw [hst, if_neg eg, show bump (s, o, c) = (s, o, c) by simp [bump, e1]]
              apply List.ext_getElem?
              intro i
              rw [List.getElem?_set]
              split
              · rename_i e; subst e
                rw [if_pos (by rw [pk_len]; exact hjl), hp]
              · rfl
            have HS := Aside0.mk hs
            clear hst hs hp hy hjl hlt p2 p3 eg e1
            go_wp2
            exact FIN.out _ HLT.out (by rw [HS.out]; exact HR.out) HT.out
      · have q1 : decide (j < n) = false := decide_eq_false hlt
        have q2 : decide ((j : Int) < (n : Int)) = false := decide_eq_false (by omega)
        have hj : j = n := by have := Hj.out; omega
        subst hj
        obtain ⟨m2, m3, ⟨y, m4⟩, m5, m6, m7, m8⟩ := FP.out g G0.out G1.out _ HR.out _ _ _ HX0.out
        have M7 := Aside0.mk m7
        have M8 := Aside0.mk m8
        have m50 := m5 0
        have m60 := m6 0
        clear hlt m7 m8
        go_wp2
        go_quiet (fail)
        go_wp2
        go_ret2
        exact ⟨rfl, M7.out.drewN _, (HT.out.trans M8.out (fun _ z => .inl z)).drewN _⟩
  · rw [if_neg hq]
    have hqd : decide (q < 0) = false := decide_eq_false hq
    have g0 : 0 ≤ q := by omega
    have g1 : q < (n : Int) := by omega
    clear e4 e5 hn hq
    obtain ⟨⟨s0, o0, cc0⟩, hx0⟩ : ∃ x, (B.l.map bump).getD q.toNat (0, 0, 0) = x := ⟨_, rfl⟩
    rw [hx0]
    simp only
    have HX0 := Aside0.mk hx0
    clear hx0
    have G0 := Aside0.mk g0
    have G1 := Aside0.mk g1
    replace g0 := eq_true g0
    replace g1 := eq_true g1
    go_enter Try.func98, Try.ntmps98
    go_wp2
    clear e1 e2 e3 hqd
    go_loopw [8] (fun vi wr => ∃ j : Nat, vi = .int .i64 (j : Int) ∧ Aside0 (j ≤ n) ∧ Aside0 (RAt wr R r ar cr n (pk B.l q j) tn u) ∧ Aside0 (Turn R W wr)) (fun vi _ => n - (intOf vi).toNat)
    case atStart => exact ⟨0, rfl, ⟨Nat.zero_le _⟩, HB, ⟨Turn.refl _ _⟩⟩
    case round =>
      clear c0 c1 c2 c3 c4
      obtain ⟨j, rfl, Hj, HR, HT⟩ := hrel
      rename World => W3
      obtain ⟨c0, c1, c2, c3, c4⟩ := HR.out.cells
      have HW1 := Aside0.mk (show wrap64 ((j : Int) + 1) = ((j + 1 : Nat) : Int) by rw [X.hwrId (by omega) (by have := Hj.out; have := HN.out; omega)]; omega)
      have FIN := Aside0.mk (fun (w : World) (hlt : j < n) (h : RAt w R r ar cr n (pk B.l q (j + 1)) tn u) (t : Turn R W w) => (show (∃ j' : Nat, Value.int .i64 (wrap64 ((j : Int) + 1)) = .int .i64 (j' : Int) ∧ Aside0 (j' ≤ n) ∧ Aside0 (RAt w R r ar cr n (pk B.l q j') tn u) ∧ Aside0 (Turn R W w)) ∧ n - (intOf (Value.int .i64 (wrap64 ((j : Int) + 1)))).toNat < n - (intOf (Value.int .i64 (j : Int))).toNat from ⟨⟨j + 1, by rw [HW1.out], ⟨hlt⟩, ⟨h⟩, ⟨t⟩⟩, by rw [HW1.out]; simp only [intOf]; omega⟩))
      by_cases hlt : j < n
      · have q1 : decide (j < n) = true := decide_eq_true hlt
        have q2 : decide ((j : Int) < (n : Int)) = true := decide_eq_true (by omega)
        have HLT := Aside0.mk hlt
        have hjl : j < B.l.length := by have := HLN.out; omega
        obtain ⟨⟨s, o, c⟩, hy⟩ : ∃ y, B.l[j]? = some y := ⟨_, List.getElem?_eq_getElem hjl⟩
        have hp : (pk B.l q j)[j]? = some (s, o, c) := by rw [pk_get B.l q _ (by omega), if_neg (fun z => Nat.lt_irrefl _ z.1), hy]
        have hst : pk B.l q (j + 1) = if (j : Int) = q then pk B.l q j else (pk B.l q j).set j (bump (s, o, c)) := by
          rw [pk, List.getD_eq_getElem?_getD, hy]; rfl
        have hd := RAt.hd (B := ⟨pk B.l q j, B.q⟩) HR.out (k := (j : Int)) (has_iff.2 ⟨by omega, by show (j : Int) < ((pk B.l q j).length : Int); rw [pk_len]; omega⟩)
        obtain ⟨d0, _, _, d3, h0, h1⟩ := hd
        rw [hd_getD] at d0 d3
        simp only [List.getD_eq_getElem?_getD, hp, Option.getD_some, Int.toNat_natCast] at d0 d3
        obtain ⟨p1, p2, p3⟩ := HR.out.gone hp (wrap64 (c + 1))
        replace h0 := eq_true h0
        replace h1 := eq_true h1
        by_cases eg : (j : Int) = q
        · have hs : pk B.l q (j + 1) = pk B.l q j := by rw [hst, if_pos eg]
          have HS := Aside0.mk hs
          clear hst hs hp hy hjl hlt p2 p3
          subst eg
          go_wp2
          exact FIN.out _ HLT.out (by rw [HS.out]; exact HR.out) HT.out
        · have f1 : ((j : Int) == q) = false := beq_eq_false_iff_ne.2 eg
          have f3 : ((j : Int) = q) = False := eq_false eg
          by_cases e1 : s = 1
          · subst e1
            have hs : pk B.l q (j + 1) = (pk B.l q j).set j (1, o, wrap64 (c + 1)) := by rw [hst, if_neg eg]; rfl
            rw [← hs] at p2
            have P2 := Aside0.mk p2
            have P3 := Aside0.mk p3
            clear hst hs hp hy hjl hlt p2 p3 eg
            go_wp2
            exact FIN.out _ HLT.out P2.out (HT.out.trans P3.out (fun _ z => .inl z))
          · have f2 : (s == 1) = false := beq_eq_false_iff_ne.2 e1
            have hs : pk B.l q (j + 1) = pk B.l q j := by
              rw [hst, if_neg eg, show bump (s, o, c) = (s, o, c) by simp [bump, e1]]
              apply List.ext_getElem?
              intro i
              rw [List.getElem?_set]
              split
              · rename_i e; subst e
                rw [if_pos (by rw [pk_len]; exact hjl), hp]
              · rfl
            have HS := Aside0.mk hs
            clear hst hs hp hy hjl hlt p2 p3 eg e1
            go_wp2
            exact FIN.out _ HLT.out (by rw [HS.out]; exact HR.out) HT.out
      · have q1 : decide (j < n) = false := decide_eq_false hlt
        have q2 : decide ((j : Int) < (n : Int)) = false := decide_eq_false (by omega)
        have hj : j = n := by have := Hj.out; omega
        subst hj
        obtain ⟨m2, m3, ⟨y, m4⟩, m5, m6, m7, m8⟩ := FP.out q G0.out G1.out _ HR.out _ _ _ HX0.out
        have M7 := Aside0.mk m7
        have M8 := Aside0.mk m8
        have m50 := m5 0
        have m60 := m6 0
        clear hlt m7 m8
        go_wp2
        go_quiet (fail)
        go_wp2
        go_ret2
        exact ⟨rfl, M7.out.drewN _, (HT.out.trans M8.out (fun _ z => .inl z)).drewN _⟩
end Go.Proofs.Ytfcjfjmjcmanaaa.B
