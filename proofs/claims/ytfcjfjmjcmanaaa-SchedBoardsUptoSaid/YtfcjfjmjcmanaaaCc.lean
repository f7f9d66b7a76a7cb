/- Books: the walk of apartInts. -/
import Derived.Test.YtfcjfjmjcmanaaaCb
set_option linter.unusedVariables false
namespace Go.Proofs.Ytfcjfjmjcmanaaa.B
open Go Go.RowKit Go.Proofs.YtfcjfjmjcmanaaaW.PrintWords Go.Proofs.YtfcjfjmjcmanaaaW.PrintLast Go.Proofs.YtfcjfjmjcmanaaaW.PrintMore
variable {W : World} {T : Nat → Prop} {v4 vm m : Value} {vs ms : List Value} {Ls : List (List Int)} {L Lm : List Int} {ops : Array Oper} {rest : List Oper} {o : Oper} {a : Act} {Q : Exit → Act → World → Prop}
theorem wpList_app (hgd : o.guard = none) (s x : Operand) (ho : o.op = .call { callee := .builtin .append, args := #[s, x], argTypes := #[26, 26] }) (h : Grown W T v4 vs Ls vm ms) (hT : ∀ j, W.heap.size ≤ j → T j) {i : Nat} (hi : ms.length = i) {v : Value} (hv : vs[i]? = some v) (hL : Ls[i]? = some L) (hm : SlB W T m Lm) (hlm : Lm.length + 1 ≤ 4398046511104) (hlo : Lone v4 vm vs ms i m) (hp : Pre v m) (y : Int)
    (hs : a.eval s = m) (hx : a.eval x = .slice (some ⟨W.heap.size, 0, none⟩) 1 1)
    (hK : ∀ m' W', Grown W' T v4 vs Ls vm ms → SlB W' T m' (Lm ++ [y]) → Lone v4 vm vs ms i m' → Pre v m' → Turn T W W' → wpList Try.prog ops Q rest (a.put o.dst m') W') : wpList Try.prog ops Q (o :: rest) a (W.alloc (.cells #[.int .i64 y] 3)) := by
  have hb : Below W.heap.size W (W.alloc (.cells #[.int .i64 y] 3)) := by repeat (first | exact Below.refl _ _ | apply below_alloc)
  refine wpList_plain hgd fun K hK' => ?_
  obtain ⟨m', W', hr, h1, h2, h3, h4, h5⟩ := (h.below hb).app (c := 1) (x := y) (a := ⟨W.heap.size, 0, none⟩) (fun j hj => hT j (Nat.le_trans hb.size hj)) hi hv hL (hm.kept (fun j hj => hb.block j (hm.own hj).2)) hlm hlo hp (by simp) o.type
  unfold Oper.wp execOp
  simp only [ho, resolve, invoke, builtin, Sem.run_bind, Sem.run_pure, Result.andThen_ok, List.map_toArray, List.map_cons, List.map_nil, hs, hx, hr]
  exact hK' _ _ (hK m' W' h1 h2 h3 h4 ((Turn.of_below hb).trans h5 (fun _ h => .inl h)))
theorem wpList_push (hgd : o.guard = none) (s x : Operand) (ho : o.op = .call { callee := .builtin .append, args := #[s, x], argTypes := #[37, 37] }) (h : Grown W T v4 vs Ls vm ms) (hT : ∀ j, W.heap.size ≤ j → T j) {i : Nat} (hi : ms.length = i) {v : Value} (hv : vs[i]? = some v) (hL : Ls[i]? = some L) (hm : SlB W T m (List.replicate (L.length + 9) (i : Int))) (hlo : Lone v4 vm vs ms i m)
    (hs : a.eval s = vm) (hx : a.eval x = .slice (some ⟨W.heap.size, 0, none⟩) 1 1)
    (hK : ∀ vm' W', Grown W' T v4 vs Ls vm' (ms ++ [m]) → Turn T W W' → wpList Try.prog ops Q rest (a.put o.dst vm') W') : wpList Try.prog ops Q (o :: rest) a (W.alloc (.cells #[m] 26)) := by
  have hb : Below W.heap.size W (W.alloc (.cells #[m] 26)) := by repeat (first | exact Below.refl _ _ | apply below_alloc)
  refine wpList_plain hgd fun K hK' => ?_
  obtain ⟨vm', W', hr, h1, h5⟩ := (h.below hb).push (c := 1) (a := ⟨W.heap.size, 0, none⟩) (fun j hj => hT j (Nat.le_trans hb.size hj)) hi hv hL (hm.kept (fun j hj => hb.block j (hm.own hj).2)) hlo (by simp) o.type
  unfold Oper.wp execOp
  simp only [ho, resolve, invoke, builtin, Sem.run_bind, Sem.run_pure, Result.andThen_ok, List.map_toArray, List.map_cons, List.map_nil, hs, hx, hr]
  exact hK' _ _ (hK vm' W' h1 ((Turn.of_below hb).trans h5 (fun _ h => .inl h)))
theorem Turn.less {A B : World} (h : Turn (fun j => T j ∨ A.heap.size ≤ j) A B) : Turn T A B := ⟨h.os, h.tape, h.output, h.size, fun k hk hn => h.block k hk (fun z => z.elim hn (fun y => by omega))⟩
def Marks (i : Nat) (Ls : List (List Int)) : Prop := ∀ (k : Nat) L, k < i → Ls[k]? = some L → ∀ y ∈ L, y = (k : Int)
theorem rd_nat (L : List Int) (k : Nat) (hk : k < L.length) : rd L (k : Int) = L[k] := by unfold rd; rw [Int.toNat_natCast, List.getD_eq_getElem?_getD, List.getElem?_eq_getElem hk]; rfl
theorem w1 (k : Nat) (h : k ≤ 4398046511104) : wrap64 ((k : Int) + 1) = ((k + 1 : Nat) : Int) := by rw [X.hwrId (by omega) (by omega)]; omega
theorem msr (n k : Nat) (h : k < n) : ((n : Int) - intOf (Value.int .i64 ((k + 1 : Nat) : Int))).toNat < ((n : Int) - intOf (Value.int .i64 (k : Int))).toNat := by simp only [intOf]; omega
set_option maxRecDepth 100000
set_option maxHeartbeats 8000000
theorem apartInts_calls (A : Option Addr) (c n : Nat) (hn : vs.length = n) (hl : Lists W T (.slice A n c) vs Ls) : Calls Try.prog 75 #[.slice A n c] W fun e W' => e = .returned (.bool true) ∧ Turn T W W' := by
  have HL0 := Aside0.mk hl
  have HN := Aside0.mk hn
  have HNS : Aside0 (n + 10 ≤ 4398046511104) := ⟨by have := hl.ns; omega⟩
  clear hl hn
  go_enter Try.func75, Try.ntmps75
  go_wp2
  go_loopw [3] (fun vi wr => ∃ (i : Nat) (Ls' : List (List Int)), vi = .int .i64 i ∧ Aside0 (i ≤ n) ∧ Aside0 (Lists wr T (.slice A n c) vs Ls') ∧ Aside0 (Marks i Ls') ∧ Aside0 (Turn T W wr)) (fun vi _ => ((n : Int) - intOf vi).toNat)
  case atStart => exact ⟨0, Ls, rfl, ⟨Nat.zero_le _⟩, HL0, ⟨fun k L hk => by omega⟩, ⟨Turn.refl _ _⟩⟩
  case round =>
    clear HL0
    obtain ⟨i, Ls, rfl, Hi, HL, HM, HT⟩ := hrel
    rename World => W1
    by_cases hlt : i < n
    · have hltb : decide (i < n) = true := decide_eq_true hlt
      obtain ⟨v, L, hv, hL, hs⟩ := HL.out.at (i := i) (by rw [HN.out]; exact hlt)
      obtain ⟨Ai, ci, rfl⟩ := hs.slice
      obtain ⟨ni, hni⟩ : ∃ ni, L.length = ni := ⟨_, rfl⟩
      rw [hni] at hv
      have hsm := HL.out.sm i L hL
      obtain ⟨j, rfl, _⟩ := HL.out.row.cell i hv
      have HV := Aside0.mk hv
      have HI := Aside0.mk hlt
      have HNI : Aside0 (ni + 10 ≤ 4398046511104) := ⟨by rw [← hni]; exact hsm⟩
      have hwi := Aside0.mk (w1 i (by have := HNS.out; omega))
      have st : Aside0 (∃ L', Ls[i]? = some L' ∧ L'.length = ni) := ⟨L, hL, hni⟩
      replace hlt := eq_true hlt
      clear hs hL hsm hv hni Hi
      go_wp2
      go_loopw [4] (fun vj wr => ∃ (k : Nat) (Ls' : List (List Int)), vj = .int .i64 k ∧ Aside0 (k ≤ ni) ∧ Aside0 (Lists wr T (.slice (some ⟨j, 0, none⟩) n c) vs Ls') ∧ Aside0 (Marks i Ls') ∧ Aside0 (∃ L', Ls'[i]? = some L' ∧ L'.length = ni ∧ ∀ y ∈ L'.take k, y = (i : Int)) ∧ Aside0 (Turn T W wr)) (fun vj _ => ((ni : Int) - intOf vj).toNat)
      case atStart => exact ⟨0, Ls, rfl, ⟨Nat.zero_le _⟩, HL, HM, ⟨by obtain ⟨L', a, b⟩ := st.out; exact ⟨L', a, b, by simp⟩⟩, HT⟩
      case round =>
        clear HL HM HT st
        obtain ⟨k, Ls, rfl, Hk, HL, HM, HK, HT⟩ := hrel
        rename World => W2
        obtain ⟨L', hL', hl', hm'⟩ := HK.out
        have hc := (HL.out.row.cell i HV.out)
        obtain ⟨j', ej, hc⟩ := hc
        cases ej
        by_cases hlk : k < ni
        · have hlkb : decide (k < ni) = true := decide_eq_true hlk
          have hs := HL.out.ls i _ L' HV.out hL'
          obtain ⟨ad, rfl, hx⟩ := hs.cell (k : Int) (by omega) (by omega)
          rw [Int.toNat_natCast] at hx
          obtain ⟨f1, f2, f3⟩ := HL.out.set HV.out hL' k (by omega) (i : Int)
          have F2 := Aside0.mk f2
          have F3 := Aside0.mk f3
          have hwk := Aside0.mk (w1 k (by have := HNI.out; omega))
          have NEW : Aside0 (∃ L2, (Ls.set i (L'.set k (i : Int)))[i]? = some L2 ∧ L2.length = ni ∧ ∀ y ∈ L2.take (k + 1), y = (i : Int)) := ⟨L'.set k (i : Int), by rw [List.getElem?_set_self (List.getElem?_eq_some_iff.1 hL').1], by simpa using hl', fun y hy => by
            rw [List.take_add_one, List.getElem?_set_self (by omega), List.take_set_of_le (Nat.le_refl k)] at hy
            rcases List.mem_append.1 hy with h | h
            · exact hm' y h
            · simpa using h⟩
          have NM : Aside0 (Marks i (Ls.set i (L'.set k (i : Int)))) := ⟨fun q L2 hq h2 => by rw [List.getElem?_set_ne (by omega)] at h2; exact HM.out q L2 hq h2⟩
          have HLK := Aside0.mk hlk
          replace hlk := eq_true hlk
          clear hs hL' hl' hm' f2 f3 HL HM HK
          go_wp2
          exact ⟨⟨k + 1, _, by rw [hwk.out], ⟨by have := HLK.out; omega⟩, F2, NM, NEW, ⟨HT.out.trans F3.out (fun _ h => .inl h)⟩⟩, by rw [hwk.out]; exact msr ni k HLK.out⟩
        · have hlkb : decide (k < ni) = false := decide_eq_false hlk
          have NM : Aside0 (Marks (i + 1) Ls) := ⟨fun q L2 hq h2 y hy => by
            by_cases e : q = i
            · subst e
              rw [hL'] at h2
              cases h2
              rw [List.take_of_length_le (by omega)] at hm'
              exact hm' y hy
            · exact HM.out q L2 (by omega) h2 y hy⟩
          clear hlk hL' hl' hm' HM HK
          go_wp2
          exact ⟨⟨i + 1, Ls, by rw [hwi.out], ⟨by have := HI.out; omega⟩, HL, NM, HT⟩, by rw [hwi.out]; exact msr n i HI.out⟩
    · have hltb : decide (i < n) = false := decide_eq_false hlt
      have HMN : Aside0 (Marks n Ls) := ⟨fun q L2 hq h2 => HM.out q L2 (by omega) h2⟩
      clear hlt HM Hi
      go_wp2
      have HG := Aside0.mk (Grown.start (HL.out.mono (T' := fun j => T j ∨ W.heap.size ≤ j) (fun _ h => .inl h)))
      have HTT := Aside0.mk (HT.out.mono (T' := fun j => T j ∨ W.heap.size ≤ j) (fun _ h => .inl h))
      have HLC := Aside0.mk HL.out.len
      clear HL HT
      go_loopw [5, 6] (fun v5 vi wr => ∃ (i : Nat) (ms : List Value), vi = .int .i64 i ∧ Aside0 (i ≤ n) ∧ Aside0 (ms.length = i) ∧ Aside0 (Grown wr (fun j => T j ∨ W.heap.size ≤ j) (.slice A n c) vs Ls v5 ms) ∧ Aside0 (Turn (fun j => T j ∨ W.heap.size ≤ j) W wr)) (fun _ vi _ => ((n : Int) - intOf vi).toNat)
      case atStart => exact ⟨0, [], rfl, ⟨Nat.zero_le _⟩, ⟨rfl⟩, HG, HTT⟩
      case round =>
        clear HG HTT
        obtain ⟨i, ms, rfl, Hi, Hm, HG, HT⟩ := hrel
        rename World => W2
        by_cases hlt : i < n
        · have hltb : decide (i < n) = true := decide_eq_true hlt
          obtain ⟨v, L, hv, hL, hs⟩ := HG.out.l.at (i := i) (by rw [HN.out]; exact hlt)
          obtain ⟨j, rfl, hc⟩ := HG.out.l.row.cell i hv
          have hsm := HG.out.l.sm i L hL
          have HV := Aside0.mk hv
          have HLL := Aside0.mk hL
          have HSM := Aside0.mk hsm
          have HI := Aside0.mk hlt
          have hwi := Aside0.mk (w1 i (by have := HNS.out; omega))
          have hrep : L = List.replicate L.length (i : Int) := List.eq_replicate_of_mem (HMN.out i L hlt hL)
          have HREP := Aside0.mk hrep
          have hmm : SlB W2 (fun j => T j ∨ W.heap.size ≤ j) v (List.replicate (L.length + 0) (i : Int)) := by rw [Nat.add_zero, ← hrep]; exact hs
          have HMM := Aside0.mk hmm
          have HLO := Aside0.mk (HG.out.lone hv)
          have HPR := Aside0.mk (Pre.refl W2 hs)
          replace hlt := eq_true hlt
          clear hs hv hL hsm hmm hrep Hi
          go_wp2
          go_loopw [7, 8] (fun v7 vj wr => ∃ (k : Nat), vj = .int .i64 k ∧ Aside0 (k ≤ 9) ∧ Aside0 (Grown wr (fun j => T j ∨ W.heap.size ≤ j) (.slice (some ⟨j, 0, none⟩) n c) vs Ls u5 ms) ∧ Aside0 (SlB wr (fun j => T j ∨ W.heap.size ≤ j) v7 (List.replicate (L.length + k) (i : Int))) ∧ Aside0 (Lone (.slice (some ⟨j, 0, none⟩) n c) u5 vs ms i v7) ∧ Aside0 (Pre v v7) ∧ Aside0 (Turn (fun j => T j ∨ W.heap.size ≤ j) W wr)) (fun _ vj _ => ((9 : Nat) - intOf vj).toNat)
          case atStart => exact ⟨0, rfl, ⟨by omega⟩, HG, HMM, HLO, HPR, HT⟩
          case round =>
            clear HG HMM HLO HPR HT
            obtain ⟨k, rfl, Hk, HG, HMM, HLO, HPR, HT⟩ := hrel
            rename World => W3
            by_cases hlk : k < 9
            · have hlkb : decide ((k : Int) < 9) = true := decide_eq_true (by omega)
              have hwk := Aside0.mk (w1 k (by omega))
              have HLK := Aside0.mk hlk
              clear hlk
              go_wp2_with ((with_reducible refine gate_builtin (b := .append) (xs := #[.tmp 47, .tmp 49]) rfl ?_); at_builtin; refine wpList_app rfl _ _ rfl HG.out (fun q hq => .inr (Nat.le_trans HT.out.size hq)) Hm.out HV.out HLL.out HMM.out (by have := HSM.out; have := HLK.out; rw [List.length_replicate]; omega) HLO.out HPR.out (i : Int) rfl rfl ?_; intro m5 w5 g1 g2 g3 g4 g5; have G1 := Aside0.mk g1; have G2 := Aside0.mk g2; have G3 := Aside0.mk g3; have G4 := Aside0.mk g4; have G5 := Aside0.mk g5; clear g1 g2 g3 g4 g5)
              exact ⟨⟨k + 1, by first | rw [hwk.out] | rfl, ⟨by have := HLK.out; omega⟩, G1, ⟨by have := G2.out; rw [← List.replicate_succ'] at this; exact this⟩, G3, G4, ⟨HT.out.trans G5.out (fun _ h => .inl h)⟩⟩, by first | (rw [hwk.out]; exact msr 9 k HLK.out) | exact msr 9 k HLK.out⟩
            · have hlkb : decide (((9 : Nat) : Int) < 9) = false := decide_eq_false (by omega)
              obtain rfl : k = 9 := by have := Hk.out; omega
              obtain ⟨Am, cm, eA⟩ := HMM.out.slice
              rw [List.length_replicate] at eA
              subst eA
              clear hlk
              go_wp2_with ((with_reducible refine gate_builtin (b := .append) (xs := #[.tmp 51, .tmp 53]) rfl ?_); at_builtin; refine wpList_push rfl _ _ rfl HG.out (fun q hq => .inr (Nat.le_trans HT.out.size hq)) Hm.out HV.out HLL.out HMM.out HLO.out rfl rfl ?_; intro m5 w5 g1 g5; have G1 := Aside0.mk g1; have G5 := Aside0.mk g5; clear g1 g5)
              exact ⟨⟨i + 1, _, by rw [hwi.out], ⟨by have := HI.out; omega⟩, ⟨by rw [List.length_append, List.length_singleton, Hm.out]⟩, G1, ⟨HT.out.trans G5.out (fun _ h => .inl h)⟩⟩, by rw [hwi.out]; exact msr n i HI.out⟩
        · have hltb : decide (i < n) = false := decide_eq_false hlt
          have ein : i = n := by have := Hi.out; omega
          rw [ein] at Hm
          clear hlt Hi ein
          go_wp2
          obtain ⟨Av, cv, eV, _⟩ := HG.out.row.slice
          rw [Hm.out] at eV
          subst eV
          go_loopw [9] (fun vi wr => ∃ (i : Nat), vi = .int .i64 i ∧ Aside0 (i ≤ n) ∧ Aside0 (Grown wr (fun j => T j ∨ W.heap.size ≤ j) (.slice A n c) vs Ls (.slice Av n cv) ms) ∧ Aside0 (Turn (fun j => T j ∨ W.heap.size ≤ j) W wr)) (fun vi _ => ((n : Int) - intOf vi).toNat)
          case atStart => exact ⟨0, rfl, ⟨Nat.zero_le _⟩, HG, HT⟩
          case round =>
            clear HG HT
            obtain ⟨i, rfl, Hi, HG, HT⟩ := hrel
            rename World => W3
            by_cases hlt : i < n
            · have hltb : decide (i < n) = true := decide_eq_true hlt
              obtain ⟨v, L, hv, hL, hs⟩ := HG.out.l.at (i := i) (by rw [HN.out]; exact hlt)
              obtain ⟨m, hm⟩ : ∃ m, ms[i]? = some m := ⟨_, List.getElem?_eq_getElem (by rw [Hm.out]; exact hlt)⟩
              have hms := HG.out.mv i m L hm hL
              obtain ⟨Ai, ci, rfl⟩ := hs.slice
              obtain ⟨Am, cm, eA⟩ := hms.slice
              rw [List.length_replicate] at eA
              subst eA
              obtain ⟨ni, hni⟩ : ∃ ni, L.length = ni := ⟨_, rfl⟩
              have hmk : ∀ k, k < ni → rd L (k : Int) = (i : Int) := fun k hk => by
                rw [rd_nat L k (by omega)]
                exact HMN.out i L hlt hL _ (List.getElem_mem _)
              have hrp : ∀ k, k < ni + 9 → rd (List.replicate (ni + 9) (i : Int)) (k : Int) = (i : Int) := fun k hk => by
                rw [rd_nat _ k (by rw [List.length_replicate]; exact hk), List.getElem_replicate]
              have hsm := HG.out.l.sm i L hL
              rw [hni] at hv hm hms hsm
              obtain ⟨j, rfl, hc⟩ := HG.out.l.row.cell i hv
              obtain ⟨jm, rfl, hcm⟩ := HG.out.row.cell i hm
              have HV := Aside0.mk hv
              have HM := Aside0.mk hm
              have HLL := Aside0.mk hL
              have HNI := Aside0.mk hsm
              have HI := Aside0.mk hlt
              have HMK := Aside0.mk hmk
              have HRP := Aside0.mk hrp
              have HLN := Aside0.mk hni
              have hwi := Aside0.mk (w1 i (by have := HNS.out; omega))
              replace hlt := eq_true hlt
              clear hs hms hv hm hL hsm hmk hrp hni Hi
              go_wp2
              go_loopw [10] (fun vj wr => ∃ (k : Nat), vj = .int .i64 k ∧ Aside0 (k ≤ ni + 9) ∧ Aside0 (Grown wr (fun j => T j ∨ W.heap.size ≤ j) (.slice (some ⟨j, 0, none⟩) n c) vs Ls (.slice (some ⟨jm, 0, none⟩) n cv) ms) ∧ Aside0 (Turn (fun j => T j ∨ W.heap.size ≤ j) W wr)) (fun vj _ => (((ni + 9 : Nat) : Int) - intOf vj).toNat)
              case atStart => exact ⟨0, rfl, ⟨Nat.zero_le _⟩, HG, HT⟩
              case round =>
                clear HG HT hc hcm
                obtain ⟨k, rfl, Hk, HG, HT⟩ := hrel
                rename World => W4
                have hc := HG.out.l.row.cell i HV.out
                obtain ⟨j', ej, hc⟩ := hc
                cases ej
                have hcm := HG.out.row.cell i HM.out
                obtain ⟨j', ej, hcm⟩ := hcm
                cases ej
                by_cases hlk : k < ni + 9
                · have hlkb : decide (k < ni + 9) = true := decide_eq_true hlk
                  have hlkc : decide ((k : Int) < (ni : Int) + 9) = true := decide_eq_true (by omega)
                  have hms := HG.out.mv i _ _ HM.out HLL.out
                  rw [HLN.out] at hms
                  obtain ⟨adm, rfl, hxm⟩ := hms.cell (k : Int) (by omega) (by rw [List.length_replicate]; omega)
                  rw [HRP.out k hlk, Int.toNat_natCast] at hxm
                  have hwk := Aside0.mk (w1 k (by have := HNI.out; omega))
                  have HLK := Aside0.mk hlk
                  have hlk2 : ((k : Int) < (ni : Int) + 9) = True := eq_true (by omega)
                  have hfin : (∃ k' : Nat, Value.int .i64 (wrap64 ((k : Int) + 1)) = .int .i64 k' ∧ Aside0 (k' ≤ ni + 9) ∧ Aside0 (Grown W4 (fun j => T j ∨ W.heap.size ≤ j) (.slice (some ⟨j, 0, none⟩) n c) vs Ls (.slice (some ⟨jm, 0, none⟩) n cv) ms) ∧ Aside0 (Turn (fun j => T j ∨ W.heap.size ≤ j) W W4)) ∧ (((ni + 9 : Nat) : Int) - intOf (Value.int .i64 (wrap64 ((k : Int) + 1)))).toNat < (((ni + 9 : Nat) : Int) - intOf (Value.int .i64 (k : Int))).toNat :=
                    ⟨⟨k + 1, by rw [hwk.out], ⟨by have := HLK.out; omega⟩, HG, HT⟩, by rw [hwk.out]; exact msr (ni + 9) k HLK.out⟩
                  have FIN := Aside0.mk hfin
                  replace hlk := eq_true hlk
                  clear hms hfin
                  by_cases hin : k < ni
                  · have hinb : decide (k < ni) = true := decide_eq_true hin
                    have hs := HG.out.l.ls i _ _ HV.out HLL.out
                    obtain ⟨ad, rfl, hx⟩ := hs.cell (k : Int) (by omega) (by rw [HLN.out]; omega)
                    rw [HMK.out k hin, Int.toNat_natCast] at hx
                    replace hin := eq_true hin
                    clear hs
                    go_wp2
                    exact FIN.out
                  · have hinb : decide (k < ni) = false := decide_eq_false hin
                    clear hin
                    go_wp2
                    exact FIN.out
                · have hlkb : decide (k < ni + 9) = false := decide_eq_false hlk
                  have hlkc : decide ((k : Int) < (ni : Int) + 9) = false := decide_eq_false (by omega)
                  clear hlk
                  go_wp2
                  exact ⟨⟨i + 1, by rw [hwi.out], ⟨by have := HI.out; omega⟩, HG, HT⟩, by rw [hwi.out]; exact msr n i HI.out⟩
            · have hltb : decide (i < n) = false := decide_eq_false hlt
              clear hlt Hi
              go_wp2
              go_ret
              exact ⟨rfl, HT.out.less⟩
end Go.Proofs.Ytfcjfjmjcmanaaa.B
