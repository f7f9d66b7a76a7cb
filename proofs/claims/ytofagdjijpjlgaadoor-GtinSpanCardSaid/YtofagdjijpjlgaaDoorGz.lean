/- gtin: the scanner's row. gtin: the scanner's plain: six digits. gtin: the scanner's element: a day that is none. gtin: Parse of a text that begins with a day (15) that is none. gtin: Parse of a text that begins with a day (15) that is none: the walk. -/
import Derived.Test.YtofagdjijpjlgaaDoorZb
import Derived.Test.YtofagdjijpjlgaaDoorXx
import Derived.Deep.RegionHeld3
import Derived.Defers
set_option linter.unusedVariables false
set_option linter.unusedSimpArgs false
namespace Go.Proofs.YtofagdjijpjlgaaDoor.X
open Go Go.RowKit Go.Proofs.YtofagdjijpjlgaaDoorW.PrintWords Go.Proofs.YtofagdjijpjlgaaDoorW.PrintLast Go.Proofs.YtofagdjijpjlgaaDoorW.PrintMore
/-- The first row from place i on whose Ai this text begins with. -/
def prefFrom (rest : List UInt8) : Nat → Nat → Option Row5
  | 0, _ => none
  | f + 1, i => if i < 39 then (if Lib.hasPrefix rest (rowAt i).ai = true then some (rowAt i) else prefFrom rest f (i + 1)) else none
variable {W W' : World} {z m N : Nat} {t : ByteArray} {p : Int}
set_option maxHeartbeats 4000000
set_option maxRecDepth 100000
theorem row_hit (hS : ScAt W z t 0 m) (HT_ : Aside0 (Tab W)) (ht : t.size ≤ 140737488351232) (r0_ : Row5) (hpre : prefFrom (t.extract 0 t.size).data.toList 40 0 = some r0_) :
    Calls Tryd.prog 55 #[.pointer (some ⟨z, 0, none⟩)] W fun e w' => e = .returned (.agg (rowC r0_).toArray) ∧ Below W.heap.size W w' := by
  obtain ⟨c0, c1, _, _⟩ := (hS.of_block (W' := W.alloc (.cells #[.string ⟨#[]⟩, .int .i64 0, .int .i64 0, .int .i64 0, .bool false] 51)) (Below.heap_alloc _ _ _ hS.lt)).cells
  have HF : Aside0 (prefFrom (t.extract 0 t.size).data.toList 40 0 = some r0_) := ⟨hpre⟩
  obtain ⟨V0, hV0⟩ : ∃ V0, (rowC r0_).toArray = V0 := ⟨_, rfl⟩
  rw [hV0]
  have HV0 := Aside0.mk hV0
  clear hV0
  obtain ⟨Rt, hRt⟩ : ∃ Rt, t.extract 0 t.size = Rt := ⟨_, rfl⟩
  rw [hRt] at HF
  clear hpre hS
  have g0 : ((0 : Int) ≤ (t.size : Int)) = True := eq_true (by omega)
  obtain ⟨tg, hT0⟩ := HT_.out.out
  have hlt : 0 < W.heap.size := (Array.getElem?_eq_some_iff.1 hT0).1
  obtain ⟨T, hTT⟩ : ∃ T, tabCells = T := ⟨_, rfl⟩
  have hidx := tab_index
  have hsz : (Tryd.prog.info? 97).map (·.size) = some T.size := by rw [← hTT, tab_size]; exact info97
  rw [hTT] at hT0 hidx
  have HI := Aside0.mk hidx
  clear hidx hTT
  go_enter Tryd.func55, Tryd.ntmps55
  go_wp2
  go_quiet (fail)
  clear c0 c1
  obtain ⟨w1, hw1⟩ : ∃ w1, (W.alloc (.cells #[.string ⟨#[]⟩, .int .i64 0, .int .i64 0, .int .i64 0, .bool false] 51)).drewN nq = w1 := ⟨_, rfl⟩
  have hb1 : Below W.heap.size W w1 := by rw [← hw1]; exact pw_below_drewN ((Below.refl _ _).alloc (Nat.le_refl _) _) _
  have hz1 : w1.heap.size = W.heap.size + 1 := by rw [← hw1]; simp
  have hc1 : w1.heap[W.heap.size]? = some (.cells #[.string ⟨#[]⟩, .int .i64 0, .int .i64 0, .int .i64 0, .bool false] 51 (0, 0)) := by rw [← hw1]; exact heap_alloc_new W _
  have hT1 : w1.heap[0]? = some (.cells T tg (0, 0)) := (hb1.block 0 hlt).trans hT0
  rw [hw1]
  go_wp2_with (refine wpList_load_row rfl 97 _ rfl 0 rfl tg T (0, 0) _ hT1 Tryd.underlying97 rfl hsz ?_)
  clear hT0 hsz hT1
  have HB1 := Aside0.mk hb1
  have HZ1 := Aside0.mk hz1
  have HC1 := Aside0.mk hc1
  clear hb1 hz1 hc1 hw1
  go_loopw [5, 18] (fun v5 v18 wr => ∃ i : Nat, v18 = .int .i64 (i : Int) ∧ i ≤ 39 ∧ Aside0 (prefFrom Rt.data.toList (40 - i) i = some r0_) ∧ Aside0 (Below w1.heap.size w1 wr)) (fun _ v18 _ => 39 - (intOf v18).toNat)
  case atStart => exact ⟨0, rfl, by omega, HF, ⟨Below.refl _ _⟩⟩
  case round =>
    obtain ⟨i, rfl, hi, HF1, HB⟩ := hrel
    clear HF
    have hbb := HB.out
    have hsz := hbb.size
    have hz1 := HZ1.out
    have hcell := (hbb.block W.heap.size (by omega)).trans HC1.out
    have hlt2 : W.heap.size < wr.heap.size := by omega
    have q0 : wr.cell? ⟨W.heap.size, 0, none⟩ = some (.string ⟨#[]⟩) := by simp [World.cell?, hcell]
    have q1 : wr.cell? ⟨W.heap.size, 1, none⟩ = some (.int .i64 0) := by simp [World.cell?, hcell]
    have q2 : wr.cell? ⟨W.heap.size, 2, none⟩ = some (.int .i64 0) := by simp [World.cell?, hcell]
    have q3 : wr.cell? ⟨W.heap.size, 3, none⟩ = some (.int .i64 0) := by simp [World.cell?, hcell]
    have q4 : wr.cell? ⟨W.heap.size, 4, none⟩ = some (.bool false) := by simp [World.cell?, hcell]
    have p0 : wr.frozen? ⟨W.heap.size, 0, none⟩ = false := by simp [World.frozen?, hcell]
    have p1 : wr.frozen? ⟨W.heap.size, 1, none⟩ = false := by simp [World.frozen?, hcell]
    have p2 : wr.frozen? ⟨W.heap.size, 2, none⟩ = false := by simp [World.frozen?, hcell]
    have p3 : wr.frozen? ⟨W.heap.size, 3, none⟩ = false := by simp [World.frozen?, hcell]
    have p4 : wr.frozen? ⟨W.heap.size, 4, none⟩ = false := by simp [World.frozen?, hcell]
    clear hbb hsz hz1 hcell
    by_cases hlt9 : i < 39
    · have hix := HI.out i hlt9
      obtain ⟨r, hr⟩ : ∃ r, rowAt i = r := ⟨_, rfl⟩
      have hff : prefFrom Rt.data.toList (40 - i) i = if Lib.hasPrefix Rt.data.toList r.ai = true then some r else prefFrom Rt.data.toList (40 - (i + 1)) (i + 1) := by
        rw [show 40 - i = (40 - (i + 1)) + 1 from by omega]
        simp only [prefFrom]
        rw [if_pos hlt9, hr]
      rw [hr] at hix
      obtain ⟨s, hs⟩ : ∃ s, S r = s := ⟨_, rfl⟩
      obtain ⟨l, hl⟩ : ∃ l, r.least = l := ⟨_, rfl⟩
      obtain ⟨mm, hm⟩ : ∃ l, r.most = l := ⟨_, rfl⟩
      obtain ⟨kk, hk⟩ : ∃ l, r.kind = l := ⟨_, rfl⟩
      obtain ⟨b, hb⟩ : ∃ l, r.plain = l := ⟨_, rfl⟩
      have hrc : (rowC r).toArray = #[.string s, .int .i64 l, .int .i64 mm, .int .i64 kk, .bool b] := by rw [← hs, ← hl, ← hm, ← hk, ← hb]; rfl
      rw [hrc] at hix
      have hsa : s.data.toList = r.ai := by rw [← hs]; rfl
      obtain ⟨q, hq⟩ : ∃ q, Lib.hasPrefix Rt.data.toList r.ai = q := ⟨_, rfl⟩
      have HP := Aside0.mk (fun (w : World) => (Tryd.strings_HasPrefix Rt s w))
      rw [hsa, hq] at HP
      cases q
      · have hF := HF1.out
        rw [hff, if_neg (by rw [hq]; simp)] at hF
        have HF2 := Aside0.mk hF
        clear hrc hff hs hl hm hk hb hr hq HF1 hF hsa
        have hlt9b : decide ((i : Int) < 39) = true := decide_eq_true (by omega)
        have hi1 : i + 1 ≤ 39 := by omega
        have HLE : Aside0 (w1.heap.size ≤ wr.heap.size) := ⟨HB.out.size⟩
        clear hi hlt9 q0 q1 q2 q3 q4 p0 p1 p2 p3 p4
        go_wp2_with (go_at_call 68; refine (HP.out _).mono ?_; rintro e w3 ⟨rfl, rfl⟩)
        go_roundw
        case rel => exact ⟨i + 1, by go_num, hi1, HF2, ⟨by repeat (first | exact HB.out | refine Below.setCell ?_ (by have := HLE.out; simp; omega) _ | refine Below.alloc ?_ (by have := HLE.out; simp; omega) _)⟩⟩
        case measure => simp [intOf]; omega
      · have hF := HF1.out
        rw [hff, if_pos hq] at hF
        have hF := Option.some.inj hF
        subst hF
        have hV := HV0.out
        rw [hrc] at hV
        have HVV := Aside0.mk hV
        clear hV hrc hff hs hl hm hk hb hr hq HF1 hsa
        have hlt9b : decide ((i : Int) < 39) = true := decide_eq_true (by omega)
        clear hi hlt9
        have HBW : Aside0 (Below W.heap.size W wr) := ⟨HB1.out.trans (HB.out.mono (by have := HZ1.out; omega))⟩
        have HLE : Aside0 (W.heap.size ≤ wr.heap.size) := ⟨by omega⟩
        go_wp2_with (go_at_call 68; refine (HP.out _).mono ?_; rintro e w3 ⟨rfl, rfl⟩)
        refine bodyPost_ret (v := .agg #[.string s, .int .i64 l, .int .i64 mm, .int .i64 kk, .bool b]) (by simp [results, Tryd.results55, go_sem, q0, q1, q2, q3, q4, hlt2]) rfl ⟨by rw [← HVV.out], ?_⟩
        repeat (first | exact HBW.out | refine Below.setCell ?_ (show W.heap.size ≤ W.heap.size from Nat.le_refl _) _ | refine Below.alloc ?_ (by have := HLE.out; simp; omega) _)
    · have hie : i = 39 := by omega
      subst hie
      have := HF1.out
      simp [prefFrom] at this
end Go.Proofs.YtofagdjijpjlgaaDoor.X
set_option linter.unusedVariables false
set_option linter.unusedSimpArgs false
namespace Go.Proofs.YtofagdjijpjlgaaDoor.X
open Go Go.RowKit Go.Proofs.YtofagdjijpjlgaaDoorW.PrintWords Go.Proofs.YtofagdjijpjlgaaDoorW.PrintLast Go.Proofs.YtofagdjijpjlgaaDoorW.PrintMore Go.Proofs.YtofagdjijpjlgaaDoor.PBase
variable {W W' : World} {z m N : Nat} {t : ByteArray} {p : Int}
abbrev row15 : Value := .agg #[.string ⟨#[49, 53]⟩, .int .i64 6, .int .i64 6, .int .i64 1, .bool true]
set_option maxHeartbeats 4000000
set_option maxRecDepth 100000
theorem plain15 (hS : ScAt W z t p m) (ht : t.size = 8) (hd : ∀ i : Nat, i < 6 → isD (bt t ((i + 2 : Nat) : Int)) = true) :
    Calls Tryd.prog 56 #[.pointer (some ⟨z, 0, none⟩), row15, .int .i64 2] W fun e w' => e = .returned (.string (t.extract 2 8)) ∧ Below W.heap.size W w' := by
  have hG : ∀ args w, (callFunc 62 args).run Tryd.prog w = .ok (.enter 62 args) w := enters_of Tryd.func62 (by kernel_rfl) rfl
  have HF := Aside0.mk (fun w => form_days ⟨#[49, 53]⟩ 6 6 1 true w (by decide) (by decide))
  have HS := Aside0.mk hS
  have HD := Aside0.mk hd
  have HT := Aside0.mk ht
  clear hS hd ht
  go_enter Tryd.func56, Tryd.ntmps56
  go_wp2_with (go_at_call 51; (with_reducible refine (HF.out _).mono ?_); rintro e w1 ⟨rfl, hb1⟩; have hz1 : W.heap.size < w1.heap.size := (by have z := hb1.size; simp only [World.size_alloc] at z; omega); have k1 : (w1.alloc (.cells #[.func (.func 62) #[] #[], .int .i64 20, .func (.func 64) #[] #[], .int .i64 28, .bool false] 99)).cell? ⟨W.heap.size, 1, none⟩ = some (.int .i64 6) := (((Below.refl w1.heap.size w1).alloc (Nat.le_refl _) _).cell (p := ⟨W.heap.size, 1, none⟩) hz1).trans ((hb1.cell (p := ⟨W.heap.size, 1, none⟩) (by simp)).trans (by simp)); have HB2 : Aside0 (∀ k, Below W.heap.size W ((w1.alloc (.cells #[.func (.func 62) #[] #[], .int .i64 20, .func (.func 64) #[] #[], .int .i64 28, .bool false] 99)).drewN k)) := ⟨fun k => by
      have h1 := below_step ((Below.refl W.heap.size W).alloc (Nat.le_refl _) _) hb1
      exact pw_below_drewN (h1.alloc h1.size _) k⟩; clear hb1)
  have K1 := Aside0.mk k1
  clear k1
  go_loopw [8, 13, 16, 33] (fun _ v13 _ _ wr => ∃ (i n : Nat), v13 = .int .i64 (i : Int) ∧ i ≤ 6 ∧ wr = (w1.alloc (.cells #[.func (.func 62) #[] #[], .int .i64 20, .func (.func 64) #[] #[], .int .i64 28, .bool false] 99)).drewN n) (fun _ v13 _ _ _ => 6 - (intOf v13).toNat)
  case atStart => exact ⟨0, 0, rfl, by omega, rfl⟩
  case round =>
    obtain ⟨i, n, rfl, hi, rfl⟩ := hrel
    obtain ⟨s0, _, _, _⟩ := (HS.out.of_block (W' := w1.alloc (.cells #[.func (.func 62) #[] #[], .int .i64 20, .func (.func 64) #[] #[], .int .i64 28, .bool false] 99)) ((HB2.out 0).block z HS.out.lt)).cells
    have hsz := HT.out
    by_cases hlt : i < 6
    · obtain ⟨J, hJ⟩ : ∃ J : Int, 2 + (i : Int) = J := ⟨_, rfl⟩
      have hJn : J.toNat = i + 2 := by omega
      have hx := hx_of t J.toNat
      obtain ⟨c, hc⟩ : ∃ c, bt t ((J.toNat : Nat) : Int) = c := ⟨_, rfl⟩
      have hdd := HD.out i hlt
      rw [← hJn, hc] at hdd
      rw [hc] at hx
      have HM : Aside0 (∀ w : World, Calls Tryd.prog 62 #[.int .u8 c] w fun e w' => e = .returned (.bool true) ∧ Drawn0 w w') := ⟨fun w => by have z := isDigit_any c w; rw [hdd] at z; exact z⟩
      have hi1 : i + 1 ≤ 6 := by omega
      have g0 : decide ((i : Int) < 6) = true := decide_eq_true (by omega)
      have g00 : decide (i < 6) = true := decide_eq_true (by omega)
      have hw : wrap64 (2 + (i : Int)) = J := (wrap_id (x := 2 + (i : Int)) (by omega) (by omega)).trans hJ
      have hw2 : IntKind.i64.wrap (2 + (i : Int)) = J := by rw [IntKind.wrap_i64]; omega
      have g1 : decide ((t.size : Int) ≤ J) = false := decide_eq_false (by omega)
      have g2 : (0 ≤ J) = True := eq_true (by omega)
      have g3 : (J < (t.size : Int)) = True := eq_true (by omega)
      have g4 : (J.toNat < t.size) = True := eq_true (by omega)
      clear hc hdd hsz hJ hJn hi hlt
      go_wp2
      go_quiet ((go_at_call 62; (with_reducible refine (HM.out _).mono ?_); rintro e w' ⟨rfl, ⟨nd, rfl⟩⟩; (try first | exact ⟨rfl, _, World.drewN_drewN _ _ _⟩ | exact ⟨rfl, _, Eq.trans (World.drewN_drewN _ _ _) (congrArg (World.drewN _) (Nat.add_assoc _ _ _))⟩)))
      go_wp2
      go_roundw
      case rel => exact ⟨i + 1, _, by go_num, hi1, rfl⟩
      case measure => simp [intOf]; omega
    · have hi6 : i = 6 := by omega
      subst hi6
      have K := K1.out
      have g8 : ((8 : Int) ≤ (t.size : Int)) = True := eq_true (by omega)
      have g9 : (8 ≤ t.size) = True := eq_true (by omega)
      clear hsz hlt hi
      go_wp2
      go_quiet (fail)
      go_wp2
      go_ret
      refine ⟨rfl, ?_⟩
      have z := HB2.out (n + nq)
      rw [← World.drewN_drewN] at z
      exact z
end Go.Proofs.YtofagdjijpjlgaaDoor.X
set_option linter.unusedVariables false
set_option linter.unusedSimpArgs false
namespace Go.Proofs.YtofagdjijpjlgaaDoor.X
open Go Go.RowKit Go.Proofs.YtofagdjijpjlgaaDoorW.PrintWords Go.Proofs.YtofagdjijpjlgaaDoorW.PrintLast Go.Proofs.YtofagdjijpjlgaaDoorW.PrintMore Go.Proofs.YtofagdjijpjlgaaDoor.PBase
/-- The scanner, and a row in its box. -/
structure El (W : World) (z m b : Nat) (t : ByteArray) (p : Int) (w : World) : Prop where
  sc : ScAt w z t p m
  bx : w.heap[b]? = some (.cells #[.string ⟨#[49, 53]⟩, .int .i64 6, .int .i64 6, .int .i64 1, .bool true] 51 (0, 0))
  fr : ∀ B0, B0 ≤ z → B0 ≤ m → B0 ≤ W.heap.size → Below B0 W w
  bz : b ≠ z
  bm : b ≠ m
variable {W w w' : World} {z m b : Nat} {t : ByteArray} {p : Int}
theorem El.below (h : El W z m b t p w) (hb : Below w.heap.size w w') : El W z m b t p w' :=
  ⟨h.sc.of_block (hb.block z h.sc.lt), (hb.block b (Array.getElem?_eq_some_iff.1 h.bx).1).trans h.bx, fun B0 h1 h2 h3 => (h.fr B0 h1 h2 h3).trans (hb.mono (Nat.le_trans h3 (h.fr B0 h1 h2 h3).size)), h.bz, h.bm⟩
theorem El.cells (h : El W z m b t p w) : w.cell? ⟨b, 0, none⟩ = some (.string ⟨#[49, 53]⟩) ∧ w.cell? ⟨b, 1, none⟩ = some (.int .i64 6) ∧ w.cell? ⟨b, 2, none⟩ = some (.int .i64 6) ∧ w.cell? ⟨b, 3, none⟩ = some (.int .i64 1) ∧ w.cell? ⟨b, 4, none⟩ = some (.bool true) := by
  have hb := h.bx
  refine ⟨?_, ?_, ?_, ?_, ?_⟩ <;> simp [World.cell?, hb]
theorem El.put (h : El W z m b t p w) (hzm : z ≠ m) (hf : ∀ i, i < w.heap.size → i ≠ m → w'.heap[i]? = w.heap[i]?) (hs : w.heap.size ≤ w'.heap.size) (ho : w'.os = w.os) (ht : w'.tape = w.tape) (hu : w'.output = w.output) : El W z m b t p w' :=
  ⟨h.sc.of_block (hf z h.sc.lt hzm), (hf b (Array.getElem?_eq_some_iff.1 h.bx).1 h.bm).trans h.bx, fun B0 h1 h2 h3 => by
    have q := h.fr B0 h1 h2 h3
    have hq := q.size
    exact q.trans ⟨ho, ht, hu, hs, fun i hi => hf i (by omega) (by omega)⟩, h.bz, h.bm⟩
theorem El.set (h : El W z m b t p w) (p' : Int) : El W z m b t p' (w.setCell ⟨z, 1, none⟩ (.int .i64 p')) := by
  have hsc : w.heap[z]? = some (.cells #[.string t, .int .i64 p, .map (some m)] 73 (0, 0)) := h.sc
  have hl := (Array.getElem?_eq_some_iff.1 hsc).1
  have hr' : w.heap[z] = .cells #[.string t, .int .i64 p, .map (some m)] 73 (0, 0) := (Array.getElem?_eq_some_iff.1 hsc).2
  refine ⟨?_, (Below.heap_setCell w _ _ b h.bz).trans h.bx, fun B0 h1 h2 h3 => (h.fr B0 h1 h2 h3).setCell h1 _, h.bz, h.bm⟩
  show (w.setCell ⟨z, 1, none⟩ (.int .i64 p')).heap[z]? = _
  unfold World.setCell
  rw [Array.getElem?_eq_getElem (by simp; exact hl), Array.getElem_modify, if_pos rfl, hr']
  rfl
set_option maxHeartbeats 4000000
set_option maxRecDepth 100000
theorem element15 (hS : ScAt W z t 0 m) (hM : SeenAt W m 0 []) (HT_ : Aside0 (Tab W)) (hzm : z ≠ m) (ht : t.size = 8) (hp : prefFrom (t.extract 0 t.size).data.toList 40 0 = some (rowAt 6)) (hd : ∀ i : Nat, i < 6 → isD (bt t ((i + 2 : Nat) : Int)) = true) (hday : gtin_isDay.f (t.extract 2 8) = some false) :
    Calls Tryd.prog 36 #[.pointer (some ⟨z, 0, none⟩)] W fun e w' => e = .panicked [{ v := faultV 28 2, recovered := false }] ∧ ∀ B0, B0 ≤ z → B0 ≤ m → B0 ≤ W.heap.size → Below B0 W w' := by
  have hH : ∀ args w, (callFunc 64 args).run Tryd.prog w = .ok (.enter 64 args) w := enters_of Tryd.func64 (by kernel_rfl) rfl
  have b0 := (Below.refl W.heap.size W).alloc (Nat.le_refl _) (.cells #[.string ⟨#[]⟩, .string ⟨#[]⟩] 23)
  have hS0 := hS.of_block (b0.block z hS.lt)
  have hM0 := hM.of_block (b0.block m hM.lt)
  have X := Aside0.mk (row_hit hS0 ⟨HT_.out.alloc _⟩ (by omega) (rowAt 6) hp)
  rw [show (rowC (rowAt 6)).toArray = #[.string ⟨#[49, 53]⟩, .int .i64 6, .int .i64 6, .int .i64 1, .bool true] from rfl] at X
  have c1 := hS0.cells.2.1
  have HS0 := Aside0.mk hS0
  have HM0 := Aside0.mk hM0
  have HB0 := Aside0.mk b0
  have HZ := Aside0.mk (And.intro hS.lt (And.intro hM.lt hzm))
  have HT := Aside0.mk ht
  have HD := Aside0.mk hd
  have HY := Aside0.mk hday
  clear hS hM b0 hS0 hM0 hp hd hday ht hzm
  go_enter Tryd.func36, Tryd.ntmps36
  go_wp2_with (go_at_call 55; go_loud ((with_reducible refine X.out.mono ?_); rintro e w1 ⟨rfl, hb1⟩; have hz1 := hb1.size; simp only [World.size_alloc] at hz1; have E1 : El W z m w1.heap.size t 0 (w1.alloc (.cells #[.string ⟨#[49, 53]⟩, .int .i64 6, .int .i64 6, .int .i64 1, .bool true] 51)) := ⟨HS0.out.of_block ((Below.heap_alloc _ _ _ (by have := HZ.out.1; omega)).trans (hb1.block z (by have := HZ.out.1; simp; omega))), heap_alloc_new _ _, fun B0 h1 h2 h3 => ((HB0.out.mono h3).trans (hb1.mono (by simp; omega))).alloc (by omega) _, by have := HZ.out.1; omega, by have := HZ.out.2.1; omega⟩; have M1 := HM0.out.of_block (W' := w1.alloc (.cells #[.string ⟨#[49, 53]⟩, .int .i64 6, .int .i64 6, .int .i64 1, .bool true] 51)) ((Below.heap_alloc _ _ _ (by have := HZ.out.2.1; omega)).trans (hb1.block m (by have := HZ.out.2.1; simp; omega))); have k2 := E1.sc.cells.2.2.1; have HE1 := Aside0.mk E1; have HM1 := Aside0.mk M1; clear E1 M1 hb1))
  clear X
  have HP := Aside0.mk (fun (w : World) (hb : Below (w1.alloc (.cells #[.string ⟨#[49, 53]⟩, .int .i64 6, .int .i64 6, .int .i64 1, .bool true] 51)).heap.size (w1.alloc (.cells #[.string ⟨#[49, 53]⟩, .int .i64 6, .int .i64 6, .int .i64 1, .bool true] 51)) w) => (show Calls Tryd.prog 47 #[.agg #[.map (some m)], .string ⟨#[49, 53]⟩, .int .i64 0] w (fun e w' => e = .returned (.int .i64 0) ∧ El W z m w1.heap.size t 0 w') from
    (put_new (HM1.out.of_block (hb.block m HM1.out.lt)) (by unfold maxLen; omega) ⟨#[49, 53]⟩ (by decide) 0 (by decide) (by rw [ByteArray.toList_eq]; rfl) (by rw [ByteArray.toList_eq]; rfl) rfl rfl).mono (by rintro e w' ⟨rfl, _, q1, q2, q3, q4, q5⟩; exact ⟨rfl, (HE1.out.below hb).put HZ.out.2.2 q1 q2 q3 q4 q5⟩)))
  have a0 := HE1.out.cells.1
  have SS := Aside0.mk (And.intro k2 a0)
  go_region_held3 (fun w' => w'.cell? ⟨z, 2, none⟩ = some (.map (some m)) ∧ w'.cell? ⟨w1.heap.size, 0, none⟩ = some (.string ⟨#[49, 53]⟩))
    (first | exact SS.out | exact ⟨E3.out.sc.cells.2.2.1, E3.out.cells.1⟩)
    ((go_at_call 47; go_loud (refine (HP.out _ (by repeat (first | exact Below.refl _ _ | apply below_drew | apply pw_below_drewN | apply below_alloc))).mono ?_; rintro e w3 ⟨rfl, e3⟩; have E3 := Aside0.mk e3; clear e3)))
  clear HP SS HM1 HE1 HS0 HM0 k2 a0 c1
  obtain ⟨r0, r1, r2, r3, r4⟩ := E3.out.cells
  have X := Aside0.mk (plain15 E3.out.sc HT.out HD.out)
  have hv : (t.extract 2 8).size = 6 := by rw [ByteArray.size_extract]; have := HT.out; omega
  go_wp2_with (go_at_call 56; go_loud ((with_reducible refine X.out.mono ?_); rintro e w4 ⟨rfl, hb4⟩; have E4 := E3.out.below hb4; have s1 := E4.sc.cells.2.1; have s2 := E4.sc.cells.2.2.2; have E5 := E4.set 8; obtain ⟨u0, u1, u2, u3, u4⟩ := E5.cells; have HE5 := Aside0.mk E5; clear E4 E5 hb4))
  clear X r0 r1 r2 r3 r4
  have HF := Aside0.mk (fun w => form_days ⟨#[49, 53]⟩ 6 6 1 true w (by decide) (by decide))
  go_wp2_with (go_at_call 51; go_loud ((with_reducible refine (HF.out _).mono ?_); rintro e w6 ⟨rfl, hb6⟩; have E6 := Aside0.mk ((HE5.out.below hb6).below ((Below.refl w6.heap.size w6).alloc (Nat.le_refl _) (.cells #[.func (.func 62) #[] #[], .int .i64 20, .func (.func 64) #[] #[], .int .i64 28, .bool false] 99))); clear hb6))
  clear HF
  have X := Aside0.mk (fun w => gtin_isDay.calls _ false w HY.out)
  go_wp2_with (go_at_call 64; go_loud ((with_reducible refine (X.out _).mono ?_); rintro e w7 ⟨rfl, ⟨n7, rfl⟩⟩))
  clear X
  have X := Aside0.mk (fun w => wrong_calls z 28 2 w)
  go_wp2_with (go_at_call 38; go_loud ((with_reducible refine (X.out _).mono ?_); rintro e w8 ⟨rfl, rfl⟩))
  exact ⟨rfl, rfl, fun B0 h1 h2 h3 => pw_below_drewN (E6.out.fr B0 h1 h2 h3) _⟩
end Go.Proofs.YtofagdjijpjlgaaDoor.X
set_option linter.unusedVariables false
set_option linter.unusedSimpArgs false
namespace Go.Proofs.YtofagdjijpjlgaaDoor.X
open Go Go.RowKit Go.Proofs.YtofagdjijpjlgaaDoorW.PrintWords Go.Proofs.YtofagdjijpjlgaaDoorW.PrintLast Go.Proofs.YtofagdjijpjlgaaDoorW.PrintMore Go.Proofs.YtofagdjijpjlgaaDoor.PBase
variable {W w w' : World} {t : ByteArray}
set_option maxHeartbeats 4000000
set_option maxRecDepth 100000
theorem row_setD {W : World} {g o : Nat} {cur : Array Value} {ty : TypeId} {fr : Nat × Nat} {v : Value} (h : W.heap[g]? = some (.cells cur ty fr)) : (W.setCell ⟨g, o, none⟩ v).heap[g]? = some (.cells (cur.setIfInBounds o v) ty fr) := by
  have hl := (Array.getElem?_eq_some_iff.1 h).1
  have hr' : W.heap[g] = .cells cur ty fr := (Array.getElem?_eq_some_iff.1 h).2
  unfold World.setCell
  rw [Array.getElem?_eq_getElem (by simp; exact hl), Array.getElem_modify, if_pos rfl, hr']
  rfl
/-- The deferred closure, where Parse gave up: the fault is taken, and laid into the three results. -/
theorem catch15 (b : Nat) (e p : Int) (older : List PanicEntry) (w : World) (h0 : w.heap[b]? = some (.cells #[.slice none 0 0] 30 (0, 0))) (h1 : w.heap[b + 1]? = some (.cells #[.int .i64 0] 31 (0, 0))) (h2 : w.heap[b + 2]? = some (.cells #[.int .i64 0] 3 (0, 0))) :
    CallsD Tryd.prog 34 #[.pointer (some ⟨b, 0, none⟩), .pointer (some ⟨b + 1, 0, none⟩), .pointer (some ⟨b + 2, 0, none⟩)] (.panicking ({ v := faultV e p, recovered := false } :: older)) w fun en u' w' =>
      en = .returned (.tuple #[]) ∧ u' = .panicking ({ v := faultV e p, recovered := true } :: older) ∧ w'.heap[b]? = some (.cells #[.slice none 0 0] 30 (0, 0)) ∧ w'.heap[b + 1]? = some (.cells #[.int .i64 e] 31 (0, 0)) ∧ w'.heap[b + 2]? = some (.cells #[.int .i64 p] 3 (0, 0)) ∧ ∀ B0, B0 ≤ b → Below B0 w w' := by
  have al : ∀ i, i < w.heap.size → (w.alloc (.cells #[.int .i64 e, .int .i64 p] 65)).heap[i]? = w.heap[i]? := fun i hi => Below.heap_alloc _ _ _ hi
  have l0 := (Array.getElem?_eq_some_iff.1 h0).1
  have l1 := (Array.getElem?_eq_some_iff.1 h1).1
  have l2 := (Array.getElem?_eq_some_iff.1 h2).1
  have k0 := (al b l0).trans h0
  have k1 := (al (b + 1) l1).trans h1
  have k2 := (al (b + 2) l2).trans h2
  have c0 : (w.alloc (.cells #[.int .i64 e, .int .i64 p] 65)).cell? ⟨b, 0, none⟩ = some (.slice none 0 0) := by simp [World.cell?, k0]
  have c1 : (w.alloc (.cells #[.int .i64 e, .int .i64 p] 65)).cell? ⟨b + 1, 0, none⟩ = some (.int .i64 0) := by simp [World.cell?, k1]
  have c2 : (w.alloc (.cells #[.int .i64 e, .int .i64 p] 65)).cell? ⟨b + 2, 0, none⟩ = some (.int .i64 0) := by simp [World.cell?, k2]
  have f0 : (w.alloc (.cells #[.int .i64 e, .int .i64 p] 65)).frozen? ⟨b, 0, none⟩ = false := by simp [World.frozen?, k0]
  have f1 : (w.alloc (.cells #[.int .i64 e, .int .i64 p] 65)).frozen? ⟨b + 1, 0, none⟩ = false := by simp [World.frozen?, k1]
  have f2 : (w.alloc (.cells #[.int .i64 e, .int .i64 p] 65)).frozen? ⟨b + 2, 0, none⟩ = false := by simp [World.frozen?, k2]
  have HK := Aside0.mk (And.intro k0 (And.intro k1 k2))
  have HL := Aside0.mk l0
  have n0 : (b = w.heap.size) = False := eq_false (by omega)
  have n1 : (b + 1 = w.heap.size) = False := eq_false (by omega)
  have n2 : (b + 2 = w.heap.size) = False := eq_false (by omega)
  have m0 : (w.heap.size = b) = False := eq_false (by omega)
  have m1 : (w.heap.size = b + 1) = False := eq_false (by omega)
  have m2 : (w.heap.size = b + 2) = False := eq_false (by omega)
  clear k0 k1 k2 al h0 h1 h2 l1 l2 l0
  refine callsD_of_wpS Tryd.func34 rfl fun c₀ cs hu => ?_
  unfold faultV at hu ⊢
  simp only [Tryd.ntmps34, List.size_toArray, List.length_cons, List.length_nil, Nat.reduceAdd, Nat.reduceSub, Array.replicate_succ, Array.replicate_zero, List.push_toArray, List.append_toArray, List.nil_append, List.cons_append]
  apply wpS_seq
  apply wpS_region
  simp [wpOpsS, go_sem, recoverD, hu, Exit.thenS]
  have hta : ∀ w : World, (Instr.typeAssert (.iface 65 (.agg #[.int .i64 e, .int .i64 p])) 20 65 true).run Tryd.prog w = .ok (.tuple #[.agg #[.int .i64 e, .int .i64 p], .bool true]) w := fun w => by kernel_rfl
  apply wpS_seq
  apply wpS_region
  simp [wpOpsS, go_sem, Exit.thenS]
  refine wpS_cond (t := true) (by simp [Act.eval]) ?_
  simp only [if_true]
  apply wpS_seq
  apply wpS_region
  simp [wpOpsS, go_sem, Exit.thenS, hta]
  apply wpS_seq
  apply wpS_seq
  apply wpS_region
  simp [wpOpsS, go_sem, Exit.thenS]
  refine wpS_cond (t := false) (by simp [Act.eval]) ?_
  simp only [Bool.false_eq_true, if_false]
  refine wpS_of_wp (wp_skip ?_)
  simp only [Exit.thenS]
  refine wpS_of_wp ?_
  go_region
  have g0 : ((((w.alloc (.cells #[.int .i64 e, .int .i64 p] 65)).setCell ⟨b, 0, none⟩ (.slice none 0 0)).setCell ⟨b + 1, 0, none⟩ (.int .i64 e)).setCell ⟨b + 2, 0, none⟩ (.int .i64 p)).heap[b]? = some (.cells #[.slice none 0 0] 30 (0, 0)) :=
    (Below.heap_setCell _ _ _ b (by show b ≠ b + 2; omega)).trans ((Below.heap_setCell _ _ _ b (by show b ≠ b + 1; omega)).trans (row_setD HK.out.1))
  have g1 : ((((w.alloc (.cells #[.int .i64 e, .int .i64 p] 65)).setCell ⟨b, 0, none⟩ (.slice none 0 0)).setCell ⟨b + 1, 0, none⟩ (.int .i64 e)).setCell ⟨b + 2, 0, none⟩ (.int .i64 p)).heap[b + 1]? = some (.cells #[.int .i64 e] 31 (0, 0)) :=
    (Below.heap_setCell _ _ _ (b + 1) (by show b + 1 ≠ b + 2; omega)).trans (row_setD ((Below.heap_setCell _ _ _ (b + 1) (by show b + 1 ≠ b; omega)).trans HK.out.2.1))
  have g2 : ((((w.alloc (.cells #[.int .i64 e, .int .i64 p] 65)).setCell ⟨b, 0, none⟩ (.slice none 0 0)).setCell ⟨b + 1, 0, none⟩ (.int .i64 e)).setCell ⟨b + 2, 0, none⟩ (.int .i64 p)).heap[b + 2]? = some (.cells #[.int .i64 p] 3 (0, 0)) :=
    row_setD ((Below.heap_setCell _ _ _ (b + 2) (by show b + 2 ≠ b + 1; omega)).trans ((Below.heap_setCell _ _ _ (b + 2) (by show b + 2 ≠ b; omega)).trans HK.out.2.2))
  have gb : ∀ B0, B0 ≤ b → Below B0 w ((((w.alloc (.cells #[.int .i64 e, .int .i64 p] 65)).setCell ⟨b, 0, none⟩ (.slice none 0 0)).setCell ⟨b + 1, 0, none⟩ (.int .i64 e)).setCell ⟨b + 2, 0, none⟩ (.int .i64 p)) := fun B0 hB =>
    ((((Below.refl B0 w).alloc (by have := HL.out; omega) _).setCell hB _).setCell (show B0 ≤ b + 1 by omega) _).setCell (show B0 ≤ b + 2 by omega) _
  generalize ((((w.alloc (.cells #[.int .i64 e, .int .i64 p] 65)).setCell ⟨b, 0, none⟩ (.slice none 0 0)).setCell ⟨b + 1, 0, none⟩ (.int .i64 e)).setCell ⟨b + 2, 0, none⟩ (.int .i64 p)) = FW at g0 g1 g2 gb ⊢
  exact ⟨rfl, _, rfl, .tuple #[], results_none rfl _ _ _, rfl, rfl, g0, g1, g2, fun B0 hB => by first | exact below_drew1 (gb B0 hB) | exact pw_below_drewN (gb B0 hB) 1⟩
/-- Such a text: 15, six digits, and they are no day. -/
def spanT (t : ByteArray) : Bool := decide (t.size = 8) && ((t.data.toList.take 2 == [49, 53]) && ((List.range 6).all (fun i => isD (bt t ((i + 2 : Nat) : Int))) && (gtin_isDay.f (t.extract 2 8) == some false)))
theorem pref15 (tl : List UInt8) : prefFrom (49 :: 53 :: tl) 40 0 = some (rowAt 6) := by
  simp [prefFrom, rowAt, rws, Lib.hasPrefix]
theorem spanT_iff {t : ByteArray} (h : spanT t = true) : t.size = 8 ∧ prefFrom (t.extract 0 t.size).data.toList 40 0 = some (rowAt 6) ∧ (∀ i : Nat, i < 6 → isD (bt t ((i + 2 : Nat) : Int)) = true) ∧ gtin_isDay.f (t.extract 2 8) = some false := by
  unfold spanT at h
  simp only [Bool.and_eq_true, decide_eq_true_eq, beq_iff_eq, List.all_eq_true, List.mem_range] at h
  obtain ⟨h1, h2, h3, h4⟩ := h
  refine ⟨h1, ?_, h3, h4⟩
  have hL : (t.extract 0 t.size).data.toList = t.data.toList := by
    simp [List.extract_eq_take_drop, ByteArray.size_data]
  rw [hL]
  match t.data.toList, h2 with
  | a :: b :: tl, h2 =>
    simp at h2
    obtain ⟨rfl, rfl⟩ := h2
    exact pref15 tl
end Go.Proofs.YtofagdjijpjlgaaDoor.X
set_option linter.unusedVariables false
set_option linter.unusedSimpArgs false
namespace Go.Proofs.YtofagdjijpjlgaaDoor.X
open Go Go.RowKit Go.Proofs.YtofagdjijpjlgaaDoorW.PrintWords Go.Proofs.YtofagdjijpjlgaaDoorW.PrintLast Go.Proofs.YtofagdjijpjlgaaDoorW.PrintMore Go.Proofs.YtofagdjijpjlgaaDoor.PBase
variable {W w w' : World} {t : ByteArray}
set_option maxHeartbeats 4000000
set_option maxRecDepth 100000
theorem door15 {R : Ending → World → Prop} (tm : Array Value) (b : Nat) (w6 : World) (ht2 : tm.getD 2 undef = .pointer (some ⟨b, 0, none⟩)) (ht3 : tm.getD 3 undef = .pointer (some ⟨b + 1, 0, none⟩)) (ht4 : tm.getD 4 undef = .pointer (some ⟨b + 1 + 1, 0, none⟩))
    (h0 : w6.heap[b]? = some (.cells #[.slice none 0 0] 30 (0, 0))) (h1 : w6.heap[b + 1]? = some (.cells #[.int .i64 0] 31 (0, 0))) (h2 : w6.heap[b + 2]? = some (.cells #[.int .i64 0] 3 (0, 0)))
    (hR : ∀ w', (∀ B0, B0 ≤ b → Below B0 w6 w') → R (.returned (.tuple #[.slice none 0 0, .int .i64 28, .int .i64 2])) w') :
    bodyPostD Tryd.prog Tryd.f16 R (.panic [{ v := faultV 28 2, recovered := false }]) { tmps := tm, defers := [{ target := Target.fn (.func 34) #[.pointer (some ⟨b, 0, none⟩), .pointer (some ⟨b + 1, 0, none⟩), .pointer (some ⟨b + 1 + 1, 0, none⟩)], args := #[] }] } w6 := by
  have ht2' : tm[2]?.getD undef = .pointer (some ⟨b, 0, none⟩) := by simpa using ht2
  have ht3' : tm[3]?.getD undef = .pointer (some ⟨b + 1, 0, none⟩) := by simpa using ht3
  have ht4' : tm[4]?.getD undef = .pointer (some ⟨b + 1 + 1, 0, none⟩) := by simpa using ht4
  refine leaves_cons (f := 34) (args := #[.pointer (some ⟨b, 0, none⟩), .pointer (some ⟨b + 1, 0, none⟩), .pointer (some ⟨b + 1 + 1, 0, none⟩)]) (by simp) (by simp [go_sem]) ?_
  refine (catch15 b 28 2 [] w6 h0 h1 h2).mono ?_
  rintro e u' w'' ⟨rfl, rfl, g0, g1, g2, gb⟩
  have c0 : w''.cell? ⟨b, 0, none⟩ = some (.slice none 0 0) := by simp [World.cell?, g0]
  have c1 : w''.cell? ⟨b + 1, 0, none⟩ = some (.int .i64 28) := by simp [World.cell?, g1]
  have c2 : w''.cell? ⟨b + 1 + 1, 0, none⟩ = some (.int .i64 2) := by simp [World.cell?, g2]
  have hz := hR w'' gb
  simp [Leaves, settle, results, Tryd.results16, go_sem, ht2', ht3', ht4', c0, c1, c2]
  exact hz
theorem parse15 (HT_ : Aside0 (Tab W)) (h : spanT t = true) : Calls Tryd.prog 16 #[.string t] W fun e W' => e = .returned (.tuple #[.slice none 0 0, .int .i64 28, .int .i64 2]) ∧ Below W.heap.size W W' := by
  obtain ⟨ht, hp, hd, hy⟩ := spanT_iff h
  have hmf : ∀ (fn : Fn) (first cap : Array Value) (w : World), (Instr.makeFunc fn first cap).run Tryd.prog w = .ok (.func fn first cap) w := fun _ _ _ _ => rfl
  have g0 : decide ((512 : Int) < (t.size : Int)) = false := decide_eq_false (by omega)
  have g1 : decide (512 < t.size) = false := decide_eq_false (by omega)
  have g2 : decide ((0 : Int) < (t.size : Int)) = true := decide_eq_true (by omega)
  have g3 : decide (0 < t.size) = true := decide_eq_true (by omega)
  have HH := Aside0.mk (And.intro ht (And.intro hp (And.intro hd hy)))
  clear h ht hp hd hy
  have X := Aside0.mk (fun w => newSeen_calls w)
  go_enter_defers Tryd.func16, Tryd.ntmps16
  go_wp2_with (go_at_call 35; go_loud ((with_reducible refine (X.out _).mono ?_); rintro e w4 ⟨m, rfl, hM, hm, hb4⟩; have HM := Aside0.mk hM; have Hm := Aside0.mk hm; have HB4 := Aside0.mk hb4; clear hM hm hb4))
  clear X
  have hsz4 := HB4.out.size
  simp only [World.size_alloc] at hsz4
  have ab : Below w4.heap.size w4 (w4.alloc (.cells #[.string t, .int .i64 0, .map (some m)] 73)) := (Below.refl _ _).alloc (Nat.le_refl _) _
  have b3 : Below W.heap.size W (((W.alloc (.cells #[.slice none 0 0] 30)).alloc (.cells #[.int .i64 0] 31)).alloc (.cells #[.int .i64 0] 3)) := (((Below.refl _ W).alloc (Nat.le_refl _) _).alloc (by simp) _).alloc (by simp only [World.size_alloc]; omega) _
  have q0 : w4.heap[W.heap.size]? = some (.cells #[.slice none 0 0] 30 (0, 0)) := by
    rw [HB4.out.block _ (by simp only [World.size_alloc]; omega), Below.heap_alloc _ _ _ (by simp only [World.size_alloc]; omega), Below.heap_alloc _ _ _ (by simp)]
    exact heap_alloc_new W _
  have q1 : w4.heap[W.heap.size + 1]? = some (.cells #[.int .i64 0] 31 (0, 0)) := by
    rw [HB4.out.block _ (by simp only [World.size_alloc]; omega), Below.heap_alloc _ _ _ (by simp)]
    have z := heap_alloc_new (W.alloc (.cells #[.slice none 0 0] 30)) (.cells #[.int .i64 0] 31)
    rw [World.size_alloc] at z
    exact z
  have q2 : w4.heap[W.heap.size + 2]? = some (.cells #[.int .i64 0] 3 (0, 0)) := by
    rw [HB4.out.block _ (by simp)]
    have z := heap_alloc_new ((W.alloc (.cells #[.slice none 0 0] 30)).alloc (.cells #[.int .i64 0] 31)) (.cells #[.int .i64 0] 3)
    rw [World.size_alloc, World.size_alloc] at z
    exact z
  have HW5 : Aside0 (Below W.heap.size W (w4.alloc (.cells #[.string t, .int .i64 0, .map (some m)] 73))) := ⟨(b3.trans (HB4.out.mono (by simp only [World.size_alloc]; omega))).trans (ab.mono (by omega))⟩
  have HQ := Aside0.mk (And.intro ((ab.block _ (by omega)).trans q0) (And.intro ((ab.block _ (by omega)).trans q1) ((ab.block _ (by omega)).trans q2)))
  have hsc : ScAt (w4.alloc (.cells #[.string t, .int .i64 0, .map (some m)] 73)) w4.heap.size t 0 m := heap_alloc_new w4 _
  have hse := HM.out.of_block (ab.block _ HM.out.lt)
  have HE := Aside0.mk (fun (w : World) (hb : Below (w4.alloc (.cells #[.string t, .int .i64 0, .map (some m)] 73)).heap.size (w4.alloc (.cells #[.string t, .int .i64 0, .map (some m)] 73)) w) => element15 (hsc.of_block (hb.block _ hsc.lt)) (hse.of_block (hb.block _ hse.lt)) ⟨Tab.below HT_.out (HW5.out.trans (hb.mono HW5.out.size))⟩ (by have := HM.out.lt; omega) HH.out.1 HH.out.2.1 HH.out.2.2.1 HH.out.2.2.2)
  have cl : (w4.alloc (.cells #[.string t, .int .i64 0, .map (some m)] 73)).cell? ⟨W.heap.size, 0, none⟩ = some (.slice none 0 0) := by simp [World.cell?, HQ.out.1]
  clear hsz4 ab b3 q0 q1 q2 hsc hse
  have DR : Aside0 (∀ (tm : Array Value) (w6 : World), tm.getD 2 undef = .pointer (some ⟨W.heap.size, 0, none⟩) → tm.getD 3 undef = .pointer (some ⟨W.heap.size + 1, 0, none⟩) → tm.getD 4 undef = .pointer (some ⟨W.heap.size + 1 + 1, 0, none⟩) → (∀ B0, B0 ≤ w4.heap.size → B0 ≤ m → B0 ≤ (w4.alloc (.cells #[.string t, .int .i64 0, .map (some m)] 73)).heap.size → Below B0 (w4.alloc (.cells #[.string t, .int .i64 0, .map (some m)] 73)).drew w6) →
      bodyPostD Tryd.prog Tryd.f16 (fun e W' => e = .returned (.tuple #[.slice none 0 0, .int .i64 28, .int .i64 2]) ∧ Below W.heap.size W W') (.panic [{ v := faultV 28 2, recovered := false }]) { tmps := tm, defers := [{ target := Target.fn (.func 34) #[.pointer (some ⟨W.heap.size, 0, none⟩), .pointer (some ⟨W.heap.size + 1, 0, none⟩), .pointer (some ⟨W.heap.size + 1 + 1, 0, none⟩)], args := #[] }] } w6) := ⟨fun tm w6 e2 e3 e4 h6 => by
    have hm3 := Hm.out
    simp only [World.size_alloc] at hm3
    have s4 := HB4.out.size
    simp only [World.size_alloc] at s4
    have b6 := h6 (W.heap.size + 3) (by omega) (by omega) (by simp only [World.size_alloc]; omega)
    have k : ∀ i, i < W.heap.size + 3 → w6.heap[i]? = (w4.alloc (.cells #[.string t, .int .i64 0, .map (some m)] 73)).heap[i]? := fun i hi => b6.block i hi
    exact door15 tm W.heap.size w6 e2 e3 e4 ((k _ (by omega)).trans HQ.out.1) ((k _ (by omega)).trans HQ.out.2.1) ((k _ (by omega)).trans HQ.out.2.2) (fun w' hb => ⟨rfl, ((show Below W.heap.size W (w4.alloc (.cells #[.string t, .int .i64 0, .map (some m)] 73)).drew from by first | exact below_drew1 HW5.out | exact pw_below_drewN HW5.out 1).trans ((h6 W.heap.size (by omega) (by omega) (by simp only [World.size_alloc]; omega)))).trans (hb _ (Nat.le_refl _))⟩)⟩
  refine wp_loop_once ?_
  go_wp2
  refine wp_region_any (by kernel_rfl) ?_
  change wpAny _ _ _ _ _ _ _ (World.drew _)
  refine wpAny_ready (rs := [0, 1]) (by kernel_rfl) (by simp) ?_
  refine AllReady.cons rfl (fun K hK => ?_) ?_
  · go_simp
    refine hK _ _ ?_
    clear hK K
    refine wpAny_ready (rs := [1]) (by kernel_rfl) (by simp) ?_
    refine AllReady.cons rfl (fun K hK => ?_) AllReady.nil
    go_simp
    refine hK _ _ ?_
    clear hK K
    refine wpAny_ready (rs := [2]) (by kernel_rfl) (by simp) ?_
    refine AllReady.cons rfl (fun K hK => ?_) AllReady.nil
    go_simp
    refine (HE.out _ (by repeat (first | exact Below.refl _ _ | apply below_drew | apply pw_below_drewN | apply below_alloc))).mono ?_
    rintro e w6 ⟨rfl, h6⟩
    exact DR.out _ _ rfl rfl rfl h6
  · refine AllReady.cons rfl (fun K hK => ?_) AllReady.nil
    go_simp
    refine hK _ _ ?_
    clear hK K
    refine wpAny_ready (rs := [0, 2]) (by kernel_rfl) (by simp) ?_
    refine AllReady.cons rfl (fun K hK => ?_) ?_
    · go_simp
      refine hK _ _ ?_
      clear hK K
      refine wpAny_ready (rs := [2]) (by kernel_rfl) (by simp) ?_
      refine AllReady.cons rfl (fun K hK => ?_) AllReady.nil
      go_simp
      refine (HE.out _ (by repeat (first | exact Below.refl _ _ | apply below_drew | apply pw_below_drewN | apply below_alloc))).mono ?_
      rintro e w6 ⟨rfl, h6⟩
      exact DR.out _ _ rfl rfl rfl h6
    · refine AllReady.cons rfl (fun K hK => ?_) AllReady.nil
      go_simp
      refine (HE.out _ (by repeat (first | exact Below.refl _ _ | apply below_drew | apply pw_below_drewN | apply below_alloc))).mono ?_
      rintro e w6 ⟨rfl, h6⟩
      exact DR.out _ _ rfl rfl rfl h6
/-- Parse, where it is told here. -/
def gtin_Parse.f (a0 : ByteArray) : Option (List Int × Int × Int) := if spanT a0 = true then some ([], 28, 2) else none
theorem gtin_Parse.calls (a0 : ByteArray) (r1 : List Int) (r2 r3 : Int) (w : World) (HT_ : Aside0 (Tab w)) (h : gtin_Parse.f a0 = some (r1, r2, r3)) :
    Calls Tryd.prog 16 #[.string a0] w fun e w' => ∃ v, e = .returned (.tuple #[v, .int .i64 r2, .int .i64 r3]) ∧ Kd.R (Kd.int .i64) 3 w' w.heap.size (fun _ => True) v r1 ∧ Below w.heap.size w w' := by
  unfold gtin_Parse.f at h
  split at h
  · rename_i hs
    simp only [Option.some.injEq, Prod.mk.injEq] at h
    obtain ⟨rfl, rfl, rfl⟩ := h
    exact (parse15 HT_ hs).mono (by rintro e w' ⟨rfl, hb⟩; exact ⟨_, rfl, Kd.R_nil _ _ _ _ (fun _ => True), hb⟩)
  · cases h
end Go.Proofs.YtofagdjijpjlgaaDoor.X
