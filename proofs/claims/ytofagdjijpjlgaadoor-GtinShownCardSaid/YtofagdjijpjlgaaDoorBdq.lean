/- gtin.Print, walked. -/
import Derived.Test.YtofagdjijpjlgaaDoorBcq
import Derived.Test.YtofagdjijpjlgaaDoorXxq
import Derived.Test.YtofagdjijpjlgaaDoorGe
import Derived.Deep.RegionHeld3
set_option linter.unusedVariables false
set_option linter.unusedSimpArgs false
namespace Go.Proofs.YtofagdjijpjlgaaDoor.X
open Go Go.RowKit Go.Proofs.YtofagdjijpjlgaaDoorW.PrintWords Go.Proofs.YtofagdjijpjlgaaDoorW.PrintLast Go.Proofs.YtofagdjijpjlgaaDoorW.PrintMore Go.Proofs.YtofagdjijpjlgaaDoor.PBase Go.Proofs.YtofagdjijpjlgaaDoor.PElem
/-- What Print answers, from the i-th element on. -/
def prL (l : List S23) : Nat → Nat → Sn → List UInt8 → Option (ByteArray × Int × Int)
  | 0, _, _, _ => none
  | f + 1, i, sn, acc =>
    if i < l.length then
      let x := rd_T23 l i
      let t := told (findFrom x.f0.toList 40 0)
      if t.2.2.2.2.2 = true then
        if putE sn x.f0.data.toList = 0 then
          (gtin_fits.f 200 t.1 t.2.1 t.2.2.1 t.2.2.2.1 t.2.2.2.2.1 x.f1).bind fun e =>
            if e = 0 then
              if acc.length + x.f0.size + x.f1.size + 1 ≤ 140737488355328 then
                prL l f (i + 1) (putS sn x.f0.data.toList i) (acc ++ (x.f0 ++ x.f1).data.toList ++ (if t.2.2.2.2.1 = false ∧ i + 1 < l.length then [29] else []))
              else none
            else some (⟨#[]⟩, e, i)
        else some (⟨#[]⟩, putE sn x.f0.data.toList, i)
      else some (⟨#[]⟩, 23, i)
    else if loneOf sn ≥ 0 then some (⟨#[]⟩, 25, loneOf sn) else if acc.length > 512 then some (⟨#[]⟩, 1, l.length) else some (⟨acc.toArray⟩, 0, 0)
def gtin_Print.f (l : List S23) : Option (ByteArray × Int × Int) := if (∀ x ∈ l, x.f0.size ≤ 140737488351232 ∧ x.f1.size ≤ 140737488351232) then prL l (l.length + 1) 0 [] [] else none
set_option maxHeartbeats 8000000
set_option maxRecDepth 100000
theorem gtin_Print.calls (A0 : Option Addr) (c0 : Nat) (l0 : List (S23)) (r1 : ByteArray) (r2 : Int) (r3 : Int) (w : World) (HT_ : Aside0 (Tab w)) (hr0 : Kd.C k23 w A0 l0.length l0) (hc0 : l0.length ≤ c0) (h : gtin_Print.f l0 = some (r1, r2, r3)) :
    Calls Tryd.prog 23 #[.slice A0 l0.length c0] w fun e w' => e = .returned (.tuple #[.string r1, .int .i64 r2, .int .i64 r3]) ∧ Below w.heap.size w w' := by
  unfold gtin_Print.f at h
  split at h
  case isFalse => cases h
  rename_i hsz
  have HSZ := Aside0.mk hsz
  have HR0 := Aside0.mk hr0
  have hmax := Kd.C_max hr0
  have H' := Aside0.mk h
  clear hr0 h hsz
  obtain ⟨W, hW⟩ : ∃ W, w = W := ⟨_, rfl⟩
  rw [hW] at HT_ HR0 ⊢
  clear hW
  go_enter Tryd.func23, Tryd.ntmps23
  go_wp2_with (go_at_call 35; go_loud ((with_reducible refine (newSeen_calls _).mono ?_); rintro e w1 ⟨m, rfl, hm, hml, hb1⟩))
  have hP0 : Pr W m (w1.heap.size + 1) 0 [] [] [(w1.heap.size, .cells #[.map (some m)] 70 (0, 0))] ((w1.alloc (.cells #[.map (some m)] 70)).alloc (.cells #[.pointer none, .slice none 0 0] 90)) := by
    have hz := hb1.size
    have hl := hm.lt
    have b1 := (Below.refl w1.heap.size w1).alloc (Nat.le_refl _) (.cells #[.map (some m)] 70)
    have b2 := b1.alloc (by simp) (.cells #[.pointer none, .slice none 0 0] 90)
    have bn := builder_new W (w1.alloc (.cells #[.map (some m)] 70)) (by simp; omega)
    rw [World.size_alloc] at bn
    refine ⟨hm.of_block (b2.block m hl), bn, hb1.trans (b2.mono hz), hml, fun i o hi => ?_⟩
    simp only [List.mem_singleton, Prod.mk.injEq] at hi
    obtain ⟨rfl, rfl⟩ := hi
    exact ⟨(Below.heap_alloc _ _ _ (by simp)).trans (heap_alloc_new _ _), by omega, by omega, fun c fz e => by cases e⟩
  have HP0 := Aside0.mk hP0
  have HM := Aside0.mk hmax
  clear hm hml hb1 hP0
  go_loopw [17] (fun v17 wr => ∃ (f i : Nat) (sn : Sn) (acc : List UInt8), v17 = .int .i64 (i : Int) ∧ i ≤ l0.length ∧ Aside0 (prL l0 f i sn acc = some (r1, r2, r3)) ∧ Aside0 (Pr W m (w1.heap.size + 1) i sn acc [(w1.heap.size, .cells #[.map (some m)] 70 (0, 0))] wr)) (fun v17 _ => l0.length - (intOf v17).toNat)
  case atStart => exact ⟨_, 0, [], [], rfl, Nat.zero_le _, H', HP0⟩
  case round =>
    clear HP0 H'
    obtain ⟨f, i, sn, acc, rfl, hi, HA, HP⟩ := hrel
    cases f with
    | zero => exact absurd HA.out (by simp [prL])
    | succ f =>
      have H := HA.out
      simp only [prL] at H
      have hmax := HM.out
      by_cases hlt : i < l0.length
      · rw [if_pos hlt] at H
        have g0 : decide (i < l0.length) = true := decide_eq_true hlt
        have g1 : (i < l0.length) = True := eq_true hlt
        have g2 : (0 ≤ (i : Int)) = True := eq_true (by omega)
        have g3 : ((i : Int) < (l0.length : Int)) = True := eq_true (by omega)
        obtain ⟨ad, e0, hx0, hx1⟩ := at_T23 (Kd.C_below HR0.out HP.out.fr) (i : Int) (by omega) (by omega)
        cases e0
        obtain ⟨x, hx⟩ : ∃ x, rd_T23 l0 (i : Int) = x := ⟨_, rfl⟩
        rw [hx] at hx0 hx1 H
        rw [Int.toNat_natCast] at hx0 hx1
        have hxs : x.f0.size ≤ 140737488351232 ∧ x.f1.size ≤ 140737488351232 := by
          refine HSZ.out x ?_
          rw [← hx]; unfold rd_T23
          rw [Int.toNat_natCast, List.getD_eq_getElem?_getD, List.getElem?_eq_getElem hlt]
          exact List.getElem_mem _
        clear hx HA
        obtain ⟨⟨t1, t2, t3, t4, t5, t6⟩, ht⟩ : ∃ t, told (findFrom x.f0.toList 40 0) = t := ⟨_, rfl⟩
        rw [ht] at H
        have X := Aside0.mk (fun W' (hT : Aside0 (Tab W')) => gtin_find.calls x.f0 t1 t2 t3 t4 t5 t6 W' hT (show gtin_find.f x.f0 = _ from congrArg some ht))
        have HS := Aside0.mk hxs
        have HL := Aside0.mk hlt
        have H1 := Aside0.mk H
        clear ht H hlt hmax hxs
        obtain ⟨rowC, hrow⟩ : ∃ o, o = Obj.cells #[.string t1, .int .i64 t2, .int .i64 t3, .int .i64 t4, .bool t5] 51 (0, 0) := ⟨_, rfl⟩
        have HST := Aside0.mk (fun w2 (hb2 : Below (wr.alloc (.cells #[.string x.f0, .string x.f1] 23)).heap.size (wr.alloc (.cells #[.string x.f0, .string x.f1] 23)) w2) => ((HP.out.alloc (.cells #[.string x.f0, .string x.f1] 23) (fun c fz e => by cases e)).below hb2).alloc (.cells #[.string t1, .int .i64 t2, .int .i64 t3, .int .i64 t4, .bool t5] 51) (fun c fz e => by cases e))
        cases t6 with
        | false =>
          have H2 := H1.out
          rw [if_neg (by simp)] at H2
          simp only [Option.some.injEq, Prod.mk.injEq] at H2
          obtain ⟨rfl, rfl, rfl⟩ := H2
          clear H1
          go_wp2_with (go_at_call 24; go_loud ((with_reducible refine (X.out _ ⟨HT_.out.below (HP.out.fr.alloc HP.out.fr.size _)⟩).mono ?_); rintro e w2 ⟨rfl, hb2⟩; have E1 := Aside0.mk (HST.out _ hb2); clear hb2))
          go_ret3
          exact ⟨rfl, E1.out.fr⟩
        | true =>
          have H2 := H1.out
          rw [if_pos rfl] at H2
          have hm := HM.out
          have hl := HL.out
          have XP := Aside0.mk (fun W' (h : SeenAt W' m i sn) => put_calls h (by unfold maxLen; omega) x.f0 (by have := HS.out.1; unfold maxLen; omega) (i : Int) (wf_nat i (by omega)))
          clear H1 hm hl
          obtain ⟨pe, hpe⟩ : ∃ pe, putE sn x.f0.data.toList = pe := ⟨_, rfl⟩
          rw [hpe] at H2 XP
          by_cases hp0 : pe = 0
          case neg =>
            rw [if_neg hp0] at H2
            have n0 : (pe != 0) = true := bne_iff_ne.2 hp0
            simp only [Option.some.injEq, Prod.mk.injEq] at H2
            obtain ⟨rfl, rfl, rfl⟩ := H2
            clear hpe hp0
            go_wp2_with (go_at_call 24; go_loud ((with_reducible refine (X.out _ ⟨HT_.out.below (HP.out.fr.alloc HP.out.fr.size _)⟩).mono ?_); rintro e w2 ⟨rfl, hb2⟩; have E1 := Aside0.mk (HST.out _ hb2); have k0 := E1.out.at2 0 rfl; have k1 := E1.out.at1 0 rfl; clear hb2))
            go_wp2_with (go_at_call 47; go_loud ((with_reducible refine (XP.out _ E1.out.mp).mono ?_); rintro e w3 ⟨rfl, s1, f1, f2, f3, f4, f5⟩; have E2 := Aside0.mk (E1.out.put s1 f1 f2 f3 f4 f5); have r0 := E2.out.at0 0 rfl; have r1' := E2.out.at0 1 rfl; have r2' := E2.out.at0 2 rfl; have r3' := E2.out.at0 3 rfl; have r4' := E2.out.at0 4 rfl; have k1' := E2.out.at1 1 rfl; clear s1 f1 f2 f3 f4 f5 E1))
            go_ret3
            exact ⟨rfl, E2.out.fr⟩
          case pos =>
            subst hp0
            rw [if_pos rfl] at H2
            clear hpe
            obtain ⟨fe, hfe, H3⟩ := Option.bind_eq_some_iff.1 H2
            have XF := Aside0.mk (fun W' => gtin_fits.calls 200 t1 t2 t3 t4 t5 x.f1 fe W' hfe)
            clear H2 hfe
            by_cases hf0 : fe = 0
            case neg =>
              rw [if_neg hf0] at H3
              have n0 : (fe != 0) = true := bne_iff_ne.2 hf0
              simp only [Option.some.injEq, Prod.mk.injEq] at H3
              obtain ⟨rfl, rfl, rfl⟩ := H3
              clear hf0
              go_wp2_with (go_at_call 24; go_loud ((with_reducible refine (X.out _ ⟨HT_.out.below (HP.out.fr.alloc HP.out.fr.size _)⟩).mono ?_); rintro e w2 ⟨rfl, hb2⟩; have E1 := Aside0.mk (HST.out _ hb2); have k0 := E1.out.at2 0 rfl; have k1 := E1.out.at1 0 rfl; clear hb2))
              go_wp2_with (go_at_call 47; go_loud ((with_reducible refine (XP.out _ E1.out.mp).mono ?_); rintro e w3 ⟨rfl, s1, f1, f2, f3, f4, f5⟩; have E2 := Aside0.mk (E1.out.put s1 f1 f2 f3 f4 f5); have r0 := E2.out.at0 0 rfl; have r1' := E2.out.at0 1 rfl; have r2' := E2.out.at0 2 rfl; have r3' := E2.out.at0 3 rfl; have r4' := E2.out.at0 4 rfl; have k1' := E2.out.at1 1 rfl; clear s1 f1 f2 f3 f4 f5 E1))
              go_wp2_with (go_at_call 25; go_loud ((with_reducible refine (XF.out _).mono ?_); rintro e w4 ⟨rfl, hb4⟩; have E3 := Aside0.mk (E2.out.below hb4); have k2 := E3.out.at1 0 rfl; have k3 := E3.out.at1 1 rfl; clear hb4 E2))
              go_ret3
              exact ⟨rfl, E3.out.fr⟩
            case pos =>
              subst hf0
              rw [if_pos rfl] at H3
              split at H3
              case isFalse => cases H3
              rename_i hlen
              have hsz : x.f0.size + x.f1.size ≤ 9223372036854775807 := by omega
              have z1 : (9223372036854775807 < x.f0.size + x.f1.size) = False := eq_false (by omega)
              have XS := Aside0.mk (fun W' (hb : Lib.IsBuilderF 90 5 W.heap.size (w1.heap.size + 1) (Lib.byteCells acc) W') (hs : W.heap.size ≤ W'.heap.size) => bputs W.heap.size (w1.heap.size + 1) (Lib.byteCells acc) (x.f0 ++ x.f1) W' hb (by rw [Lib.byteCells_length, ByteArray.size_append]; omega) hs)
              have HW1 : Aside0 (wrap64 ((i : Int) + 1) = ((i + 1 : Nat) : Int)) := ⟨by rw [wrap_id (by omega) (by have := HM.out; have := HL.out; omega)]; omega⟩
              cases t5 with
              | true =>
                rw [if_neg (by simp), List.append_nil] at H3
                have H4 := Aside0.mk H3
                clear H3 hlen hsz
                go_wp2_with (go_at_call 24; go_loud ((with_reducible refine (X.out _ ⟨HT_.out.below (HP.out.fr.alloc HP.out.fr.size _)⟩).mono ?_); rintro e w2 ⟨rfl, hb2⟩; have E1 := Aside0.mk (HST.out _ hb2); have k0 := E1.out.at2 0 rfl; have k1 := E1.out.at1 0 rfl; clear hb2))
                go_wp2_with (go_at_call 47; go_loud ((with_reducible refine (XP.out _ E1.out.mp).mono ?_); rintro e w3 ⟨rfl, s1, f1, f2, f3, f4, f5⟩; have E2 := Aside0.mk (E1.out.put s1 f1 f2 f3 f4 f5); have r0 := E2.out.at0 0 rfl; have r1' := E2.out.at0 1 rfl; have r2' := E2.out.at0 2 rfl; have r3' := E2.out.at0 3 rfl; have r4' := E2.out.at0 4 rfl; have k1' := E2.out.at1 1 rfl; clear s1 f1 f2 f3 f4 f5 E1))
                go_wp2_with (go_at_call 25; go_loud ((with_reducible refine (XF.out _).mono ?_); rintro e w4 ⟨rfl, hb4⟩; have E3 := Aside0.mk (E2.out.below hb4); have k2 := E3.out.at1 0 rfl; have k3 := E3.out.at1 1 rfl; clear hb4 E2))
                go_wp2_with (go_at_call 48; go_loud ((with_reducible refine (XS.out _ E3.out.bd E3.out.fr.size).mono ?_); rintro e w5 ⟨rfl, q1, q2, q3, q4⟩; have E4 := Aside0.mk (E3.out.write (bs' := acc ++ (x.f0 ++ x.f1).data.toList) (by rw [Lib.byteCells_append]; exact .inr q1) q2 q3); have r4 := E4.out.at0 4 rfl; clear q1 q2 q3 q4 E3))
                refine ⟨⟨f, i + 1, _, _, by rw [HW1.out], HL.out, H4, ⟨E4.out.drop.drop⟩⟩, ?_⟩
                rw [HW1.out]; have := HL.out; simp [intOf]; omega
              | false =>
                have hw : wrap64 ((l0.length : Int) - 1) = (l0.length : Int) - 1 := wrap_id (by omega) (by have := HM.out; omega)
                have hw' : IntKind.i64.wrap ((l0.length : Int) - 1) = (l0.length : Int) - 1 := (i64_w _).trans hw
                by_cases hlast : i + 1 < l0.length
                · rw [if_pos ⟨rfl, hlast⟩] at H3
                  have d1 : decide ((i : Int) < (l0.length : Int) - 1) = true := decide_eq_true (by omega)
                  have d2 : ((i : Int) < (l0.length : Int) - 1) = True := eq_true (by omega)
                  have H4 := Aside0.mk H3
                  have XT := Aside0.mk (fun W' (hb : Lib.IsBuilderF 90 5 W.heap.size (w1.heap.size + 1) (Lib.byteCells (acc ++ (x.f0 ++ x.f1).data.toList)) W') (hs : W.heap.size ≤ W'.heap.size) => bputs W.heap.size (w1.heap.size + 1) (Lib.byteCells (acc ++ (x.f0 ++ x.f1).data.toList)) ⟨#[29]⟩ W' hb (by rw [Lib.byteCells_length, List.length_append, show (x.f0 ++ x.f1).data.toList.length = x.f0.size + x.f1.size by rw [Array.length_toList]; exact ByteArray.size_append]; show _ + 1 ≤ _; omega) hs)
                  clear H3 hlen hsz hlast
                  go_wp2_with (go_at_call 24; go_loud ((with_reducible refine (X.out _ ⟨HT_.out.below (HP.out.fr.alloc HP.out.fr.size _)⟩).mono ?_); rintro e w2 ⟨rfl, hb2⟩; have E1 := Aside0.mk (HST.out _ hb2); have k0 := E1.out.at2 0 rfl; have k1 := E1.out.at1 0 rfl; clear hb2))
                  go_wp2_with (go_at_call 47; go_loud ((with_reducible refine (XP.out _ E1.out.mp).mono ?_); rintro e w3 ⟨rfl, s1, f1, f2, f3, f4, f5⟩; have E2 := Aside0.mk (E1.out.put s1 f1 f2 f3 f4 f5); have r0 := E2.out.at0 0 rfl; have r1' := E2.out.at0 1 rfl; have r2' := E2.out.at0 2 rfl; have r3' := E2.out.at0 3 rfl; have r4' := E2.out.at0 4 rfl; have k1' := E2.out.at1 1 rfl; clear s1 f1 f2 f3 f4 f5 E1))
                  go_wp2_with (go_at_call 25; go_loud ((with_reducible refine (XF.out _).mono ?_); rintro e w4 ⟨rfl, hb4⟩; have E3 := Aside0.mk (E2.out.below hb4); have k2 := E3.out.at1 0 rfl; have k3 := E3.out.at1 1 rfl; clear hb4 E2))
                  go_wp2_with (go_at_call 48; go_loud ((with_reducible refine (XS.out _ E3.out.bd E3.out.fr.size).mono ?_); rintro e w5 ⟨rfl, q1, q2, q3, q4⟩; have E4 := Aside0.mk (E3.out.write (bs' := acc ++ (x.f0 ++ x.f1).data.toList) (by rw [Lib.byteCells_append]; exact .inr q1) q2 q3); have r4 := E4.out.at0 4 rfl; clear q1 q2 q3 q4 E3))
                  go_wp2_with (go_at_call 48; go_loud ((with_reducible refine (XT.out _ E4.out.bd E4.out.fr.size).mono ?_); rintro e w6 ⟨rfl, q1, q2, q3, q4⟩; have E5 := Aside0.mk (E4.out.write (bs' := acc ++ (x.f0 ++ x.f1).data.toList ++ [29]) (by rw [Lib.byteCells_append (acc ++ (x.f0 ++ x.f1).data.toList)]; exact .inr q1) q2 q3); clear q1 q2 q3 q4 E4))
                  refine ⟨⟨f, i + 1, _, _, by rw [HW1.out], HL.out, H4, ⟨E5.out.drop.drop⟩⟩, ?_⟩
                  rw [HW1.out]; have := HL.out; simp [intOf]; omega
                · rw [if_neg (fun z => hlast z.2), List.append_nil] at H3
                  have d1 : decide ((i : Int) < (l0.length : Int) - 1) = false := decide_eq_false (by omega)
                  have d2 : ((i : Int) < (l0.length : Int) - 1) = False := eq_false (by omega)
                  have H4 := Aside0.mk H3
                  clear H3 hlen hsz hlast
                  go_wp2_with (go_at_call 24; go_loud ((with_reducible refine (X.out _ ⟨HT_.out.below (HP.out.fr.alloc HP.out.fr.size _)⟩).mono ?_); rintro e w2 ⟨rfl, hb2⟩; have E1 := Aside0.mk (HST.out _ hb2); have k0 := E1.out.at2 0 rfl; have k1 := E1.out.at1 0 rfl; clear hb2))
                  go_wp2_with (go_at_call 47; go_loud ((with_reducible refine (XP.out _ E1.out.mp).mono ?_); rintro e w3 ⟨rfl, s1, f1, f2, f3, f4, f5⟩; have E2 := Aside0.mk (E1.out.put s1 f1 f2 f3 f4 f5); have r0 := E2.out.at0 0 rfl; have r1' := E2.out.at0 1 rfl; have r2' := E2.out.at0 2 rfl; have r3' := E2.out.at0 3 rfl; have r4' := E2.out.at0 4 rfl; have k1' := E2.out.at1 1 rfl; clear s1 f1 f2 f3 f4 f5 E1))
                  go_wp2_with (go_at_call 25; go_loud ((with_reducible refine (XF.out _).mono ?_); rintro e w4 ⟨rfl, hb4⟩; have E3 := Aside0.mk (E2.out.below hb4); have k2 := E3.out.at1 0 rfl; have k3 := E3.out.at1 1 rfl; clear hb4 E2))
                  go_wp2_with (go_at_call 48; go_loud ((with_reducible refine (XS.out _ E3.out.bd E3.out.fr.size).mono ?_); rintro e w5 ⟨rfl, q1, q2, q3, q4⟩; have E4 := Aside0.mk (E3.out.write (bs' := acc ++ (x.f0 ++ x.f1).data.toList) (by rw [Lib.byteCells_append]; exact .inr q1) q2 q3); have r4 := E4.out.at0 4 rfl; clear q1 q2 q3 q4 E3))
                  refine ⟨⟨f, i + 1, _, _, by rw [HW1.out], HL.out, H4, ⟨E4.out.drop.drop⟩⟩, ?_⟩
                  rw [HW1.out]; have := HL.out; simp [intOf]; omega
      · rw [if_neg hlt] at H
        have hil : i = l0.length := by omega
        have g0 : decide (i < l0.length) = false := decide_eq_false hlt
        have g1 : (i < l0.length) = False := eq_false hlt
        have g2 : decide ((i : Int) < (l0.length : Int)) = false := decide_eq_false (by omega)
        have k0 := HP.out.at0 0 rfl
        have X := Aside0.mk (lone_calls HP.out.mp)
        obtain ⟨lo, hlo⟩ : ∃ lo, loneOf sn = lo := ⟨_, rfl⟩
        rw [hlo] at H X
        have HIL := Aside0.mk hil
        clear hlo HA hlt hil
        by_cases hge : lo ≥ 0
        · rw [if_pos hge] at H
          have d1 : decide (lo ≥ 0) = true := decide_eq_true hge
          have d2 : decide (0 ≤ lo) = true := decide_eq_true hge
          have d3 : (0 ≤ lo) = True := eq_true hge
          simp only [Option.some.injEq, Prod.mk.injEq] at H
          obtain ⟨rfl, rfl, rfl⟩ := H
          clear hge
          go_wp2_with (go_at_call 37; go_loud ((with_reducible refine X.out.mono ?_); rintro e w2 ⟨rfl, hb2⟩; have E1 := Aside0.mk (HP.out.below hb2); clear hb2))
          go_ret3
          exact ⟨rfl, E1.out.fr⟩
        · rw [if_neg hge] at H
          have d1 : decide (lo ≥ 0) = false := decide_eq_false hge
          have d2 : decide (0 ≤ lo) = false := decide_eq_false hge
          have d3 : (0 ≤ lo) = False := eq_false hge
          have XL := Aside0.mk (fun W' (hb : Lib.IsBuilderF 90 5 W.heap.size (w1.heap.size + 1) (Lib.byteCells acc) W') => Tryd.Builder_Len_f W.heap.size (w1.heap.size + 1) (Lib.byteCells acc) W' hb)
          obtain ⟨n, hn⟩ : ∃ n : Nat, acc.length = n := ⟨_, rfl⟩
          have hn' : (Lib.byteCells acc).length = n := (Lib.byteCells_length acc).trans hn
          rw [hn'] at XL
          rw [hn] at H
          clear hge hn hn'
          by_cases hlong : n > 512
          · rw [if_pos hlong] at H
            have c1 : decide ((n : Int) > 512) = true := decide_eq_true (by omega)
            have c2 : decide (512 < (n : Int)) = true := decide_eq_true (by omega)
            have c3 : decide (512 < n) = true := decide_eq_true (by omega)
            simp only [Option.some.injEq, Prod.mk.injEq] at H
            obtain ⟨rfl, rfl, rfl⟩ := H
            clear hlong
            go_wp2_with (go_at_call 37; go_loud ((with_reducible refine X.out.mono ?_); rintro e w2 ⟨rfl, hb2⟩; have E1 := Aside0.mk (HP.out.below hb2); clear hb2))
            go_wp2_with (go_at_call 49; go_loud ((with_reducible refine (XL.out _ E1.out.bd).mono ?_); rintro e w3 ⟨rfl, rfl⟩))
            go_ret3
            exact ⟨rfl, E1.out.fr⟩
          · rw [if_neg hlong] at H
            have c1 : decide ((n : Int) > 512) = false := decide_eq_false (by omega)
            have c2 : decide (512 < (n : Int)) = false := decide_eq_false (by omega)
            have c3 : decide (512 < n) = false := decide_eq_false (by omega)
            have XT := Aside0.mk (fun W' (hb : Lib.IsBuilderF 90 5 W.heap.size (w1.heap.size + 1) (Lib.byteCells acc) W') (hs : W.heap.size ≤ W'.heap.size) => Tryd.Builder_String_any_k W.heap.size (w1.heap.size + 1) acc W' hb hs)
            simp only [Option.some.injEq, Prod.mk.injEq] at H
            obtain ⟨rfl, rfl, rfl⟩ := H
            clear hlong
            go_wp2_with (go_at_call 37; go_loud ((with_reducible refine X.out.mono ?_); rintro e w2 ⟨rfl, hb2⟩; have E1 := Aside0.mk (HP.out.below hb2); clear hb2))
            go_wp2_with (go_at_call 49; go_loud ((with_reducible refine (XL.out _ E1.out.bd).mono ?_); rintro e w3 ⟨rfl, rfl⟩))
            go_wp2_with (go_at_call 50; go_loud ((with_reducible refine (XT.out _ E1.out.bd E1.out.fr.size).mono ?_); rintro e w4 ⟨rfl, q1, q2, q3⟩))
            go_ret3
            exact ⟨rfl, E1.out.fr.trans q2⟩
end Go.Proofs.YtofagdjijpjlgaaDoor.X
