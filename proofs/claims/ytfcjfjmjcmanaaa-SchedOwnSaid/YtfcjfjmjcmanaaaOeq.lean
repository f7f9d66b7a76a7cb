/- SchedOwn: the law's walk. -/
import Derived.Test.YtfcjfjmjcmanaaaOfq
import Derived.Test.YtfcjfjmjcmanaaaPTherex3
import Derived.Deep.SlicePairs
import Derived.SizedLaws
import Derived.ChangeShapes
set_option linter.unusedVariables false
namespace Go.Proofs.Ytfcjfjmjcmanaaa.V
open Go Go.RowKit Go.Proofs.Ytfcjfjmjcmanaaa.X Go.Proofs.Ytfcjfjmjcmanaaa.O Go.Proofs.Ytfcjfjmjcmanaaa.B Go.Proofs.YtfcjfjmjcmanaaaW.PrintWords Go.Proofs.YtfcjfjmjcmanaaaW.PrintLast Go.Proofs.YtfcjfjmjcmanaaaW.PrintMore
open Go.Deep Go.ChangeShapes
/-- A slice of pairs of numbers that came in, as one list. -/
theorem open_hpairs4 {H : Type} {enc : TypeId × Value → H} {W : World} {base : Nat} {spare : Nat → Bool} {held : Bool} {a : Option Addr} {len cap : Nat} {d : DataW H} {ps : List MemPlace} {ts : List TypeId} {ds : List (DataW H)} {j : Nat}
    (hsz : (DataW.weightsEach Try.prog ts ds).all (· ≤ reachBytes) = true) (ht : ts[j]? = some 56) (hd : ds[j]? = some d) (h : DataW.Trod enc Try.prog W base spare held 56 (.slice a len cap) d ps) :
    ∃ l : List (Int × Int), l.length = len ∧ len ≤ cap ∧ Kd.C Kp W a l.length l ∧ len * 16 ≤ 140737488351232 := by
  obtain ⟨fuel, hf⟩ := h
  have hu56 := Try.underlying56
  have hu58 := Try.underlying58
  have hu3 := Try.underlying3
  rcases open_slice_pairs hu56 hu58 (by kernel_rfl) rfl rfl (by kernel_rfl) (by kernel_rfl) hf with ⟨hcs, _⟩ | ⟨x, l, c, m, n, V0, V1, D0, D1, P0, P1, hcs, _, hl, hm, hmm, hx, hc⟩
  · simp [Value.cells] at hcs
    obtain ⟨rfl, rfl, rfl⟩ := hcs
    exact ⟨[], rfl, Nat.le_refl _, ⟨rfl, by simp, fun h => absurd h (by simp)⟩, by simp⟩
  · simp [Value.cells] at hcs
    obtain ⟨rfl, rfl, rfl⟩ := hcs
    obtain ⟨hx, _⟩ := Prod.mk.inj hx
    have hlm : len ≤ m := by rw [hmm]; split <;> omega
    have each : ∀ i, i < len → ∃ p : Int × Int, W.cell? (x.add (i * 2)) = some (.int .i64 p.1) ∧ W.cell? (x.add (i * 2 + 1)) = some (.int .i64 p.2) := by
      intro i hi
      obtain ⟨c0, c1, t0, t1⟩ := hc i (by omega)
      obtain ⟨s0, e0, _, _⟩ := DataW.trod_int hu3 t0
      obtain ⟨s1, e1, _, _⟩ := DataW.trod_int hu3 t1
      simp at e0 e1
      rw [e0] at c0
      rw [e1] at c1
      exact ⟨⟨s0, s1⟩, c0, c1⟩
    obtain ⟨f, hf2⟩ := Deep.choose_lt (p := fun i (p : Int × Int) => W.cell? (x.add (i * 2)) = some (.int .i64 p.1) ∧ W.cell? (x.add (i * 2 + 1)) = some (.int .i64 p.2)) each
    have hw : len * 16 ≤ 140737488351232 := by
      subst hx
      have z := sized_slice hsz ht hd hu56
      have hB : Try.prog.bytesOf 58 = 16 := by kernel_rfl
      rw [hB] at z
      simp at z
      have : len * 16 ≤ (len + (m - len)) * 16 := Nat.mul_le_mul_right _ (by omega)
      exact Nat.le_trans this z
    refine ⟨(List.range len).map f, by simp, hl, ⟨by simp, by simp; unfold maxLen at hm; omega, fun _ => ⟨x, rfl, fun i p hp => ?_⟩⟩, hw⟩
    have hi : i < len := by
      rcases Nat.lt_or_ge i len with h | h
      · exact h
      · rw [List.getElem?_eq_none (by simpa using h)] at hp; cases hp
    rw [List.getElem?_map, List.getElem?_range hi] at hp
    obtain rfl : f i = p := by simpa using hp
    obtain ⟨c0, c1⟩ := hf2 i hi
    refine ⟨[.int .i64 (f i).1, .int .i64 (f i).2], rfl, ⟨[.int .i64 (f i).1], [.int .i64 (f i).2], rfl, rfl, rfl⟩, fun q u hu => ?_⟩
    match q, hu with
    | 0, hu => simp at hu; subst hu; exact c0
    | 1, hu => simp at hu; subst hu; exact c1
variable {W w w' : World} {B : Nat → Prop} {b n0 : Nat}
/-- The books of a call, in blocks of its own. -/
structure Sk (W : World) (B : Nat → Prop) (b n : Nat) (w : World) : Prop where
  bk : Bks w b B n
  ge : ∀ i, B i → W.heap.size ≤ i
  lt : ∀ i, B i → i < w.heap.size
  bel : Below W.heap.size W w
theorem Sk.go (h : Sk W B b n0 w) (hb : Below w.heap.size w w') : Sk W B b n0 w' := by
  obtain ⟨T4, T5, v4, v5, vs, us, Ls, hbk, hl, hB⟩ := h.bk
  exact ⟨⟨T4, T5, v4, v5, vs, us, Ls, hbk.below hb, hl, hB⟩, h.ge, fun i hi => Nat.lt_of_lt_of_le (h.lt i hi) hb.size, h.bel.trans (hb.mono h.bel.size)⟩
theorem Sk.new (hb : Below W.heap.size W w) : Sk W (fun i => i = w.heap.size) w.heap.size 0 (w.alloc (.cells #[.slice none 0 0, .slice none 0 0, .slice none 0 0, .slice none 0 0, .slice none 0 0, .slice none 0 0, .slice none 0 0, .slice none 0 0, .slice none 0 0, .slice none 0 0, .slice none 0 0, .slice none 0 0, .slice none 0 0, .slice none 0 0] 42)) :=
  ⟨⟨_, _, _, _, _, _, _, BkAt.new w, rfl, fun i hi => by rcases hi with z | z | z; exact z.elim; exact z.elim; exact z⟩, fun i hi => by rw [hi]; exact hb.size, fun i hi => by rw [hi]; simp, hb.alloc hb.size _⟩
abbrev bksO : Obj := .cells #[.slice none 0 0, .slice none 0 0, .slice none 0 0, .slice none 0 0, .slice none 0 0, .slice none 0 0, .slice none 0 0, .slice none 0 0, .slice none 0 0, .slice none 0 0, .slice none 0 0, .slice none 0 0, .slice none 0 0, .slice none 0 0] 42
/-- A list that is not the books'. -/
def Hd2 (B : Nat → Prop) (w : World) (v : Value) (L : List Int) : Prop := SlB w (fun j => ¬ B j) v L
theorem Hd2.go {v : Value} {L : List Int} (h : Hd2 B w v L) (hb : Below w.heap.size w w') : Hd2 B w' v L := SlB.kept h (fun j hj => hb.block j (SlB.own h hj).2)
theorem Hd2.new {v : Value} {L : List Int} (h : Hd2 B w v L) (o : Obj) : Hd2 (fun i => i = w.heap.size) (w.alloc o) v L :=
  (SlB.kept h (fun j hj => ((Below.refl w.heap.size w).alloc (Nat.le_refl _) o).block j (SlB.own h hj).2)).mono (fun j hj _ z => by have := (SlB.own h hj).2; omega)
theorem Hd2.rd {v : Value} {L : List Int} (h : Hd2 B w v L) : ∀ w', Turn B w w' → RdS w' v L := fun w' t => SlB.rdS (SlB.kept h (fun j hj => t.block j (SlB.own h hj).2 (SlB.own h hj).1))
theorem Sk.rd (st : Sk W B b n0 w) {v : Value} {L : List Int} (h : RdS W v L) : ∀ w', Turn B w w' → RdS w' v L := fun w' t => h.below (st.bel.trans (t.below st.ge st.bel.size))
theorem Sk.rp (st : Sk W B b n0 w) {A : Option Addr} {ps : List (Int × Int)} (h : Kd.C Kp W A ps.length ps) : ∀ w', Turn B w w' → Kd.C Kp w' A ps.length ps := fun w' t => Kd.C_below h (st.bel.trans (t.below st.ge st.bel.size))
theorem Sk.ans (st : Sk W B b n0 w) {sv pv : Value} {S P : List Int} {A2 : Option Addr} {c2 : Nat} {ps : List (Int × Int)} (hs : ∀ w', Turn B w w' → RdS w' sv S) (hp : ∀ w', Turn B w w' → RdS w' pv P) (hq : Kd.C Kp W A2 ps.length ps) (hl : S.length ≤ 17592186043904) (hn0 : n0 ≤ 1000000) (n : Int) :
    Calls Try.prog 67 #[.pointer (some ⟨b, 0, none⟩), sv, .int .i64 n, pv, .slice A2 ps.length c2] w fun e w' => ∃ v B' n1, e = .returned v ∧ Hd2 B' w' v (ansOf S n P ps) ∧ Sk W B' b n1 w' ∧ n1 ≤ n0 + 44 ∧ ∀ u L, Hd2 B w u L → Hd2 B' w' u L := by
  refine (callsIn_wide.1 (answers_in st.bk st.lt hs hp (st.rp hq) hl hn0 n)).mono ?_
  rintro e w' ⟨v, rfl, h1, B', n1, h2, h3, h4, h5⟩
  refine ⟨v, B', n1, rfl, SlB.mono h1 (fun j hj _ z => (h4 j z).2.2 hj), ⟨h2, fun i hi => ?_, fun i hi => (h4 i hi).2.1, st.bel.trans (h5.below st.ge st.bel.size)⟩, h3, fun u L hu => ?_⟩
  · have := st.bel.size
    exact (h4 i hi).1.elim (st.ge i) (fun z => by omega)
  · refine (SlB.kept hu (fun j hj => h5.block j (SlB.own hu hj).2 (SlB.own hu hj).1)).mono (fun j hj hn z => ?_)
    rcases (h4 j z).1 with y | y
    · exact hn y
    · have := (SlB.own hu hj).2; omega
theorem Sk.apart (st : Sk W B b n0 w) : Calls Try.prog 29 #[.pointer (some ⟨b, 0, none⟩)] w fun e w' => e = .returned (.bool true) ∧ Below W.heap.size W w' ∧ ∀ u L, Hd2 B w u L → Hd2 B w' u L := by
  obtain ⟨T4, T5, v4, v5, vs, us, Ls, hbk, hl, hB⟩ := st.bk
  refine (apart_calls hbk).mono ?_
  rintro e w' ⟨rfl, t⟩
  have t := t.mono (fun i hi => hB i (.inl hi))
  exact ⟨rfl, st.bel.trans (t.below st.ge st.bel.size), fun u L hu => SlB.kept hu (fun j hj => t.block j (SlB.own hu hj).2 (SlB.own hu hj).1)⟩
theorem Hd2.same {B' : Nat → Prop} {u v : Value} {L : List Int} (hu : Hd2 B w u L) (hv : Hd2 B' w v L) (hl : L.length ≤ 70000) : Calls Try.prog 24 #[u, v] w fun e w' => e = .returned (.bool true) ∧ Below w.heap.size w w' :=
  (same_calls hu hv hl).mono (by rintro e w' ⟨rfl, hd⟩; exact ⟨rfl, drawn_bel hd _⟩)
theorem row3O (w : World) (x y z : Int) : SlB (w.alloc (.cells #[.int .i64 x, .int .i64 y, .int .i64 z] 3)) (fun b => b = w.heap.size) (.slice (some ⟨w.heap.size, 0, none⟩) 3 3) [x, y, z] := by
  refine .inr ⟨w.heap.size, 0, 3, #[.int .i64 x, .int .i64 y, .int .i64 z], by simp, rfl, by simp, by unfold maxLen; omega, by simp, World.alloc_heap_new w _, fun i u hu => ?_⟩
  match i, hu with
  | 0, hu => simp at hu; simp [hu]
  | 1, hu => simp at hu; simp [hu]
  | 2, hu => simp at hu; simp [hu]
theorem two_rows (st : Sk W B b n0 w) (x y z x' y' z' : Int) : Below w.heap.size w ((w.alloc (.cells #[.int .i64 x, .int .i64 y, .int .i64 z] 3)).alloc (.cells #[.int .i64 x', .int .i64 y', .int .i64 z'] 3)) ∧ Hd2 B ((w.alloc (.cells #[.int .i64 x, .int .i64 y, .int .i64 z] 3)).alloc (.cells #[.int .i64 x', .int .i64 y', .int .i64 z'] 3)) (.slice (some ⟨w.heap.size, 0, none⟩) 3 3) [x, y, z] ∧ Hd2 B ((w.alloc (.cells #[.int .i64 x, .int .i64 y, .int .i64 z] 3)).alloc (.cells #[.int .i64 x', .int .i64 y', .int .i64 z'] 3)) (.slice (some ⟨w.heap.size + 1, 0, none⟩) 3 3) [x', y', z'] := by
  have b1 := (Below.refl w.heap.size w).alloc (Nat.le_refl _) (.cells #[.int .i64 x, .int .i64 y, .int .i64 z] 3)
  have b2 := (Below.refl (w.alloc (.cells #[.int .i64 x, .int .i64 y, .int .i64 z] 3)).heap.size (w.alloc (.cells #[.int .i64 x, .int .i64 y, .int .i64 z] 3))).alloc (Nat.le_refl _) (.cells #[.int .i64 x', .int .i64 y', .int .i64 z'] 3)
  have r1 := row3O w x y z
  have r2 := row3O (w.alloc (.cells #[.int .i64 x, .int .i64 y, .int .i64 z] 3)) x' y' z'
  have hz : (w.alloc (.cells #[.int .i64 x, .int .i64 y, .int .i64 z] 3)).heap.size = w.heap.size + 1 := by simp
  rw [hz] at r2
  refine ⟨b1.trans (b2.mono b1.size), (r1.kept (fun j hj => b2.block j (r1.own hj).2)).mono (fun j hj e z => ?_), r2.mono (fun j hj e z => ?_)⟩
  · have := st.lt j z; omega
  · have := st.lt j z; omega
set_option maxRecDepth 100000
set_option maxHeartbeats 40000000
theorem schedOwn_walk (A0 : Option Addr) (c0 : Nat) (S : List Int) {W : World} (hr0 : Kd.C (Kd.int .i64) W A0 S.length S) (hc0 : S.length ≤ c0) (y0 : S.length * 8 ≤ 140737488351232) (zw0 : ∀ x ∈ S, (Lit.int .i64 x).wf = true)
    (n : Int) (_ : (Lit.int .i64 n).wf = true)
    (A1 : Option Addr) (c1 : Nat) (P : List Int) (hr1 : Kd.C (Kd.int .i64) W A1 P.length P) (hc1 : P.length ≤ c1) (y1 : P.length * 8 ≤ 140737488351232) (zw1 : ∀ x ∈ P, (Lit.int .i64 x).wf = true)
    (A2 : Option Addr) (c2 : Nat) (ps : List (Int × Int)) (hr2 : Kd.C Kp W A2 ps.length ps) (hc2 : ps.length ≤ c2) (y2 : ps.length * 16 ≤ 140737488351232) :
    Calls Try.prog 18 #[.slice A0 S.length c0, .int .i64 n, .slice A1 P.length c1, .slice A2 ps.length c2] W fun e W' => e = .returned (.bool true) ∧ Below W.heap.size W W' := by
  have HS := Aside0.mk (show RdS W (.slice A0 S.length c0) S from ⟨A0, c0, rfl, hc0, hr0⟩)
  have HP := Aside0.mk (show RdS W (.slice A1 P.length c1) P from ⟨A1, c1, rfl, hc1, hr1⟩)
  have HQ := Aside0.mk hr2
  have HL := Aside0.mk (show S.length ≤ 17592186043904 by omega)
  have HLV := Aside0.mk (fun w => PThere.larderlaw07_lives.calls 30 true w (by decide +kernel))
  have HA := Aside0.mk (fun S n P => Nat.le_trans (ansOf_len S n P ps) (show 1000 ≤ 70000 by decide))
  clear hr0 hc0 y0 zw0 hr1 hc1 y1 zw1 hr2 hc2 y2
  go_enter Try.func18, Try.ntmps18
  go_wp2_with (go_at_call 53; go_loud (refine (HLV.out _).mono ?_; rintro e w1 ⟨rfl, b1⟩; have S1 := Aside0.mk (Sk.new b1); clear b1))
  clear HLV
  have X := Aside0.mk (S1.out.ans (c2 := c2) (S1.out.rd HS.out) (S1.out.rd HP.out) HQ.out HL.out (by omega) n)
  go_wp2_with (go_at_call 67; go_loud (with_reducible refine X.out.mono ?_; rintro e w2 ⟨v1, B2, n2, rfl, h1, s2, k2, _⟩; have S2 := Aside0.mk s2; have F2 := Aside0.mk h1; have N2 := Aside0.mk k2; clear s2 h1 k2))
  clear X
  clear S1
  have R2 := Aside0.mk (two_rows S2.out 1 2 1 1 0 2)
  have S2' := Aside0.mk (S2.out.go R2.out.1)
  have F2' := Aside0.mk (F2.out.go R2.out.1)
  clear F2 S2
  have X := Aside0.mk (S2'.out.ans (c2 := c2) (S := [1, 2, 1]) (P := [1, 0, 2]) R2.out.2.1.rd R2.out.2.2.rd HQ.out (by simp) (by have := N2.out; omega) 3)
  go_wp2_with (go_at_call 67; go_loud (with_reducible refine X.out.mono ?_; rintro e w3 ⟨v2, B3, n3, rfl, h2, s3, k3, hold⟩; have S3 := Aside0.mk s3; have O3 := Aside0.mk h2; have F3 := Aside0.mk (hold _ _ F2'.out); have N3 := Aside0.mk (show n3 ≤ 88 by have := N2.out; omega); clear s3 h2 k3 hold))
  clear X
  clear S2' F2' R2 N2
  have X := Aside0.mk (S3.out.ans (c2 := c2) (S3.out.rd HS.out) (S3.out.rd HP.out) HQ.out HL.out (by have := N3.out; omega) n)
  go_wp2_with (go_at_call 67; go_loud (with_reducible refine X.out.mono ?_; rintro e w4 ⟨v3, B4, n4, rfl, h3, s4, k4, hold⟩; have S4 := Aside0.mk s4; have A4 := Aside0.mk h3; have F4 := Aside0.mk (hold _ _ F3.out); have O4 := Aside0.mk (hold _ _ O3.out); clear s4 h3 k4 hold))
  clear X
  clear S3 F3 O3 N3
  have X := Aside0.mk (F4.out.same A4.out (HA.out _ _ _))
  go_wp2_with (go_at_call 24; go_loud (with_reducible refine X.out.mono ?_; rintro e w5 ⟨rfl, hb⟩; have S5 := Aside0.mk (S4.out.go hb); have F5 := Aside0.mk (F4.out.go hb); have O5 := Aside0.mk (O4.out.go hb); clear hb))
  clear X
  clear S4 F4 O4 A4
  have X := Aside0.mk (S5.out.apart)
  go_wp2_with (go_at_call 29; go_loud (with_reducible refine X.out.mono ?_; rintro e w6 ⟨rfl, hb, hold⟩; have S6 := Aside0.mk (Sk.new hb); have F6 := Aside0.mk (Hd2.new (hold _ _ F5.out) bksO); have O6 := Aside0.mk (Hd2.new (hold _ _ O5.out) bksO); clear hb hold))
  clear X
  clear S5 F5 O5
  have X := Aside0.mk (S6.out.ans (c2 := c2) (S6.out.rd HS.out) (S6.out.rd HP.out) HQ.out HL.out (by omega) n)
  go_wp2_with (go_at_call 67; go_loud (with_reducible refine X.out.mono ?_; rintro e w7 ⟨v4, B7, n7, rfl, h4, s7, k7, hold⟩; have S7 := Aside0.mk s7; have A7 := Aside0.mk h4; have F7 := Aside0.mk (hold _ _ F6.out); have O7 := Aside0.mk (hold _ _ O6.out); have N7 := Aside0.mk k7; clear s7 h4 k7 hold))
  clear X
  clear S6 F6 O6
  have X := Aside0.mk (A7.out.same F7.out (HA.out _ _ _))
  go_wp2_with (go_at_call 24; go_loud (with_reducible refine X.out.mono ?_; rintro e w8 ⟨rfl, hb⟩; have S8 := Aside0.mk (S7.out.go hb); have O8 := Aside0.mk (O7.out.go hb); clear hb))
  clear X
  clear S7 F7 O7 A7
  have R8 := Aside0.mk (two_rows S8.out 1 2 1 1 0 2)
  have S8' := Aside0.mk (S8.out.go R8.out.1)
  have O8' := Aside0.mk (O8.out.go R8.out.1)
  clear S8 O8
  have X := Aside0.mk (S8'.out.ans (c2 := c2) (S := [1, 2, 1]) (P := [1, 0, 2]) R8.out.2.1.rd R8.out.2.2.rd HQ.out (by simp) (by have := N7.out; omega) 3)
  go_wp2_with (go_at_call 67; go_loud (with_reducible refine X.out.mono ?_; rintro e w9 ⟨v5, B9, n9, rfl, h5, s9, k9, hold⟩; have S9 := Aside0.mk s9; have A9 := Aside0.mk h5; have O9 := Aside0.mk (hold _ _ O8'.out); clear s9 h5 k9 hold))
  clear X
  clear S8' O8' R8
  have X := Aside0.mk (A9.out.same O9.out (HA.out _ _ _))
  go_wp2_with (go_at_call 24; go_loud (with_reducible refine X.out.mono ?_; rintro e w10 ⟨rfl, hb⟩; have S10 := Aside0.mk (S9.out.go hb); clear hb))
  clear X
  clear S9 O9 A9
  have X := Aside0.mk (S10.out.apart)
  go_wp2_with (go_at_call 29; go_loud (with_reducible refine X.out.mono ?_; rintro e w11 ⟨rfl, hb, hold⟩; have E11 := Aside0.mk hb; clear hb hold))
  clear X
  go_ret
  exact ⟨rfl, E11.out⟩
end Go.Proofs.Ytfcjfjmjcmanaaa.V
