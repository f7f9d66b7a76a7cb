/- Books: Still, Apart. -/
import Derived.Test.YtfcjfjmjcmanaaaCd
set_option linter.unusedVariables false
namespace Go.Proofs.Ytfcjfjmjcmanaaa.B
open Go Go.RowKit Go.Proofs.YtfcjfjmjcmanaaaW.PrintWords Go.Proofs.YtfcjfjmjcmanaaaW.PrintLast Go.Proofs.YtfcjfjmjcmanaaaW.PrintMore
/-- The books lie at b: the lists that were answered (T4), what they were (T5). -/
structure BkAt (W : World) (T4 T5 : Nat → Prop) (b : Nat) (v4 v5 : Value) (vs us : List Value) (Ls : List (List Int)) : Prop where
  hb : W.heap[b]? = some (.cells #[.slice none 0 0, .slice none 0 0, .slice none 0 0, .slice none 0 0, v4, v5, .slice none 0 0, .slice none 0 0, .slice none 0 0, .slice none 0 0, .slice none 0 0, .slice none 0 0, .slice none 0 0, .slice none 0 0] 42 (0, 0))
  l4 : Lists W T4 v4 vs Ls
  l5 : Lists W T5 v5 us Ls
  ap : ∀ i, T4 i → T5 i → False
  b4 : ¬ T4 b
  b5 : ¬ T5 b
  lt : ∀ i, (T4 i ∨ T5 i) → i < W.heap.size
variable {W W' : World} {T4 T5 : Nat → Prop} {b : Nat} {v4 v5 : Value} {vs us : List Value} {Ls : List (List Int)}
theorem BkAt.cells (h : BkAt W T4 T5 b v4 v5 vs us Ls) : W.cell? ⟨b, 0, none⟩ = some (.slice none 0 0) ∧ W.cell? ⟨b, 2, none⟩ = some (.slice none 0 0) ∧ W.cell? ⟨b, 4, none⟩ = some v4 ∧ W.cell? ⟨b, 5, none⟩ = some v5 ∧ W.cell? ⟨b, 6, none⟩ = some (.slice none 0 0) ∧ W.cell? ⟨b, 8, none⟩ = some (.slice none 0 0) ∧ W.cell? ⟨b, 10, none⟩ = some (.slice none 0 0) ∧ W.cell? ⟨b, 12, none⟩ = some (.slice none 0 0) := by
  refine ⟨?_, ?_, ?_, ?_, ?_, ?_, ?_, ?_⟩ <;> (rw [cell_of_row W b _ _ 42 (0, 0) h.hb]; rfl)
theorem BkAt.kept (h : BkAt W T4 T5 b v4 v5 vs us Ls) (hk : ∀ i, T4 i ∨ T5 i ∨ i = b → i < W.heap.size → W'.heap[i]? = W.heap[i]?) (hs : W.heap.size ≤ W'.heap.size) : BkAt W' T4 T5 b v4 v5 vs us Ls :=
  ⟨(hk b (.inr (.inr rfl)) (Array.getElem?_eq_some_iff.1 h.hb).1).trans h.hb, h.l4.kept (fun i hi => hk i (.inl hi)), h.l5.kept (fun i hi => hk i (.inr (.inl hi))), h.ap, h.b4, h.b5, fun i hi => Nat.lt_of_lt_of_le (h.lt i hi) hs⟩
theorem BkAt.below (h : BkAt W T4 T5 b v4 v5 vs us Ls) (hb : Below W.heap.size W W') : BkAt W' T4 T5 b v4 v5 vs us Ls := h.kept (fun i _ hi => hb.block i hi) hb.size
set_option maxRecDepth 100000
set_option maxHeartbeats 8000000
theorem still_calls (hbk : BkAt W T4 T5 b v4 v5 vs us Ls) : Calls Try.prog 72 #[.pointer (some ⟨b, 0, none⟩)] W fun e W' => e = .returned (.bool true) ∧ Drawn0 W W' := by
  obtain ⟨c0, c2, c4, c5, c6, c8, c10, c12⟩ := hbk.cells
  obtain ⟨A4, d4, rfl, _⟩ := hbk.l4.row.slice
  obtain ⟨A5, d5, rfl, _⟩ := hbk.l5.row.slice
  obtain ⟨n, hn⟩ : ∃ n, vs.length = n := ⟨_, rfl⟩
  have hn5 : us.length = n := by rw [← hn, ← hbk.l4.len, hbk.l5.len]
  rw [hn] at c4 hbk
  rw [hn5] at c5 hbk
  have HNS : Aside0 (n + 10 ≤ 4398046511104) := ⟨by have := hbk.l4.ns; omega⟩
  have HB := Aside0.mk hbk
  have HN := Aside0.mk hn
  have HN5 := Aside0.mk hn5
  clear hbk hn hn5
  go_enter Try.func72, Try.ntmps72
  go_wp2
  go_loopw [3] (fun p wr => p = .int .i64 0 ∧ Drawn0 W wr) (fun p _ => 0)
  case atStart => exact ⟨rfl, Drawn0.refl _⟩
  case round =>
    obtain ⟨rfl, ⟨m, rfl⟩⟩ := hrel
    go_wp2
    go_loopw [4] (fun p wr => p = .int .i64 0 ∧ Drawn0 W wr) (fun p _ => 0)
    case atStart => exact ⟨rfl, ⟨m, rfl⟩⟩
    case round =>
      obtain ⟨rfl, ⟨m, rfl⟩⟩ := hrel
      go_wp2
      go_loopw [6] (fun p wr => ∃ i : Nat, p = .int .i64 i ∧ Aside0 (i ≤ n) ∧ Drawn0 W wr) (fun p _ => ((n : Int) - intOf p).toNat)
      case atStart => exact ⟨0, rfl, ⟨Nat.zero_le _⟩, ⟨m, rfl⟩⟩
      case round =>
        obtain ⟨i, rfl, Hi, ⟨m, rfl⟩⟩ := hrel
        by_cases hlt : i < n
        · have hltb : decide (i < n) = true := decide_eq_true hlt
          obtain ⟨v, L, hv, hL, hs⟩ := HB.out.l4.at (i := i) (by rw [HN.out]; exact hlt)
          obtain ⟨u, hu⟩ : ∃ u, us[i]? = some u := ⟨_, List.getElem?_eq_getElem (by rw [HN5.out]; exact hlt)⟩
          have hs5 := HB.out.l5.ls i u L hu hL
          obtain ⟨Ai, ci, rfl⟩ := hs.slice
          obtain ⟨Au, cu, rfl⟩ := hs5.slice
          obtain ⟨ni, hni⟩ : ∃ ni, L.length = ni := ⟨_, rfl⟩
          have hsm := HB.out.l4.sm i L hL
          rw [hni] at hv hs hs5 hsm hu
          obtain ⟨j, rfl, hc⟩ := HB.out.l4.row.cell i hv
          obtain ⟨ju, rfl, hcu⟩ := HB.out.l5.row.cell i hu
          have HS := Aside0.mk hs
          have HS5 := Aside0.mk hs5
          have HNI := Aside0.mk hsm
          have HI := Aside0.mk hlt
          have HLN := Aside0.mk hni
          have hwi := Aside0.mk (w1 i (by have := HNS.out; omega))
          replace hlt := eq_true hlt
          clear hs hs5 hv hu hL hsm hni Hi
          go_wp2
          go_loopw [7] (fun p wr => ∃ k : Nat, p = .int .i64 k ∧ Aside0 (k ≤ ni) ∧ Drawn0 W wr) (fun p _ => ((ni : Int) - intOf p).toNat)
          case atStart => exact ⟨0, rfl, ⟨Nat.zero_le _⟩, ⟨m, rfl⟩⟩
          case round =>
            obtain ⟨k, rfl, Hk, ⟨m, rfl⟩⟩ := hrel
            by_cases hlk : k < ni
            · have hlkb : decide (k < ni) = true := decide_eq_true hlk
              obtain ⟨ad, rfl, hx⟩ := HS.out.cell (k : Int) (by omega) (by rw [HLN.out]; omega)
              obtain ⟨ad5, rfl, hx5⟩ := HS5.out.cell (k : Int) (by omega) (by rw [HLN.out]; omega)
              obtain ⟨y, hy⟩ : ∃ y, rd L (k : Int) = y := ⟨_, rfl⟩
              rw [hy, Int.toNat_natCast] at hx hx5
              have hwk := Aside0.mk (w1 k (by have := HNI.out; omega))
              have HLK := Aside0.mk hlk
              have hlk2 : ((k : Int) < (ni : Int)) = True := eq_true (by omega)
              have hlt2 : ((i : Int) < (n : Int)) = True := eq_true (by have := HI.out; omega)
              have i0 : ((0 : Int) ≤ (i : Int)) = True := eq_true (by omega)
              have k0 : ((0 : Int) ≤ (k : Int)) = True := eq_true (by omega)
              replace hlk := eq_true hlk
              clear hy
              go_wp2
              go_quiet (fail)
              go_wp2
              exact ⟨⟨k + 1, by rw [hwk.out], ⟨by have := HLK.out; omega⟩, ⟨_, rfl⟩⟩, by rw [hwk.out]; exact msr ni k HLK.out⟩
            · have hlkb : decide (k < ni) = false := decide_eq_false hlk
              clear hlk
              go_wp2
              exact ⟨⟨i + 1, by rw [hwi.out], ⟨by have := HI.out; omega⟩, ⟨_, rfl⟩⟩, by rw [hwi.out]; exact msr n i HI.out⟩
        · have hltb : decide (i < n) = false := decide_eq_false hlt
          clear hlt Hi
          go_wp2
          go_loopw [8] (fun p wr => p = .int .i64 0 ∧ Drawn0 W wr) (fun p _ => 0)
          case atStart => exact ⟨rfl, ⟨m, rfl⟩⟩
          case round =>
            obtain ⟨rfl, ⟨m, rfl⟩⟩ := hrel
            go_wp2
            go_loopw [10] (fun p wr => p = .int .i64 0 ∧ Drawn0 W wr) (fun p _ => 0)
            case atStart => exact ⟨rfl, ⟨m, rfl⟩⟩
            case round =>
              obtain ⟨rfl, ⟨m, rfl⟩⟩ := hrel
              go_wp2
              go_loopw [12] (fun p wr => p = .int .i64 0 ∧ Drawn0 W wr) (fun p _ => 0)
              case atStart => exact ⟨rfl, ⟨m, rfl⟩⟩
              case round =>
                obtain ⟨rfl, ⟨m, rfl⟩⟩ := hrel
                go_wp2
                go_loopw [14] (fun p wr => p = .int .i64 0 ∧ Drawn0 W wr) (fun p _ => 0)
                case atStart => exact ⟨rfl, ⟨m, rfl⟩⟩
                case round =>
                  obtain ⟨rfl, ⟨m, rfl⟩⟩ := hrel
                  go_wp2
                  go_ret
                  exact ⟨rfl, ⟨m, rfl⟩⟩
theorem apart_calls (hbk : BkAt W T4 T5 b v4 v5 vs us Ls) : Calls Try.prog 29 #[.pointer (some ⟨b, 0, none⟩)] W fun e W' => e = .returned (.bool true) ∧ Turn T4 W W' := by
  obtain ⟨c0, c2, c4, c5, c6, c8, c10, c12⟩ := hbk.cells
  have HST := Aside0.mk (still_calls hbk)
  obtain ⟨A4, d4, rfl, _⟩ := hbk.l4.row.slice
  obtain ⟨n, hn⟩ : ∃ n, vs.length = n := ⟨_, rfl⟩
  rw [hn] at c4 hbk
  have HB := Aside0.mk hbk
  have HN := Aside0.mk hn
  have HBL := Aside0.mk (Array.getElem?_eq_some_iff.1 hbk.hb).1
  clear hbk hn
  go_enter Try.func29, Try.ntmps29
  go_wp2_with (first
    | (go_at_call 72; refine HST.out.mono ?_; rintro e w1 ⟨rfl, ⟨m1, rfl⟩⟩)
    | (go_at_call 73; refine (none_73 _).mono ?_; rintro e w2 ⟨rfl, ⟨m2, rfl⟩⟩)
    | (go_at_call 74; refine (none_74 _).mono ?_; rintro e w3 ⟨rfl, ⟨m3, rfl⟩⟩)
    | (go_at_call 75; refine (apartInts_calls A4 d4 n HN.out (show Lists _ _ _ _ _ from HB.out.l4.kept (W' := W.drewN (m1 + m2 + m3)) (fun _ _ _ => rfl))).mono ?_; rintro e w4 ⟨rfl, ht⟩; have HT := Aside0.mk ht; have q : ∀ k, w4.cell? ⟨b, k, none⟩ = W.cell? ⟨b, k, none⟩ := (fun k => World.cell?_of_block (ht.block b HBL.out HB.out.b4)); have q6 := (q 6).trans c6; have q8 := (q 8).trans c8; have q10 := (q 10).trans c10; have q12 := (q 12).trans c12; clear ht q)
    | (go_at_call 76; refine (none_76 _).mono ?_; rintro e w5 ⟨rfl, ⟨m5, rfl⟩⟩)
    | (go_at_call 77; refine (none_77 _).mono ?_; rintro e w6 ⟨rfl, ⟨m6, rfl⟩⟩)
    | (go_at_call 78; refine (none_78 _).mono ?_; rintro e w7 ⟨rfl, ⟨m7, rfl⟩⟩)
    | (go_at_call 79; refine (none_79 _).mono ?_; rintro e w8 ⟨rfl, ⟨m8, rfl⟩⟩))
  go_ret
  exact ⟨rfl, ⟨HT.out.os, HT.out.tape, HT.out.output, HT.out.size, HT.out.block⟩⟩
end Go.Proofs.Ytfcjfjmjcmanaaa.B
