/- gtin: the scanner's element, whole. gtin: Parse: its deferred closure, where it gave up and where it did not; its state. gtin: Parse, walked. gtin: the contract of Parse in the printer's form. -/
import Derived.Test.YtofagdjijpjlgaaDoorGr
import Derived.Test.YtofagdjijpjlgaaDoorSbq
import Derived.Defers
import Derived.Recover
set_option linter.unusedVariables false
set_option linter.unusedSimpArgs false
namespace Go.Proofs.YtofagdjijpjlgaaDoor.X
open Go Go.RowKit Go.Proofs.YtofagdjijpjlgaaDoorW.PrintWords Go.Proofs.YtofagdjijpjlgaaDoorW.PrintLast Go.Proofs.YtofagdjijpjlgaaDoorW.PrintMore Go.Proofs.YtofagdjijpjlgaaDoor.PBase
variable {W w w' : World} {z m N : Nat} {sn : Sn} {t : ByteArray}
theorem prefFrom_some (rest : List UInt8) : ∀ (f i : Nat) (r : Row5), prefFrom rest f i = some r → r ∈ rws ∧ Lib.hasPrefix rest r.ai = true
  | 0, i, r, h => by simp [prefFrom] at h
  | f + 1, i, r, h => by
    simp only [prefFrom] at h
    split at h
    · rename_i hi
      split at h
      · rename_i hp
        have := Option.some.inj h
        subst this
        refine ⟨?_, hp⟩
        unfold rowAt
        rw [List.getD_eq_getElem?_getD, List.getElem?_eq_getElem (show i < rws.length by rw [show rws.length = 39 from rfl]; exact hi)]
        exact List.getElem_mem _
      · exact prefFrom_some rest f (i + 1) r h
    · cases h
theorem rest_len (t : ByteArray) (p : Nat) : (restOf t p).length = t.size - p := by
  unfold restOf
  rw [Array.length_toList, ByteArray.size_data, ByteArray.size_extract]
  omega
theorem rowR_ok {p : Nat} {r : Row5} (h : rowR t p = .ok r) : r ∈ rws ∧ r.ai.length ≤ t.size - p := by
  unfold rowR at h
  cases hp : prefFrom (restOf t p) 40 0 with
  | some r' =>
    rw [hp] at h
    simp only [Except.ok.injEq] at h
    subst h
    obtain ⟨h1, h2⟩ := prefFrom_some _ _ _ _ hp
    refine ⟨h1, ?_⟩
    rw [← rest_len]
    unfold Lib.hasPrefix at h2
    exact (List.isPrefixOf_iff_prefix.1 h2).length_le
  | none =>
    rw [hp] at h
    simp only at h
    split at h <;> cases h
theorem plL_ok (kd : Int) (fr l : Nat) : ∀ (f i : Nat) (v : ByteArray), f + i = l + 1 → i ≤ l → plL t kd fr l f i = .ok v → v = t.extract fr (fr + l) ∧ (i < l → fr + l ≤ t.size) ∧ ∀ j, i ≤ j → j < l → mayOf kd (bt t ((fr + j : Nat) : Int)) = true
  | 0, i, v, hf, hi, h => by omega
  | f + 1, i, v, hf, hi, h => by
    simp only [plL] at h
    by_cases hl : i < l
    · rw [if_pos hl] at h
      by_cases hs : t.size ≤ fr + i
      · rw [if_pos hs] at h; cases h
      · rw [if_neg hs] at h
        by_cases hm : mayOf kd (bt t ((fr + i : Nat) : Int)) = true
        · rw [if_pos hm] at h
          obtain ⟨h1, h2, h3⟩ := plL_ok kd fr l f (i + 1) v (by omega) (by omega) h
          refine ⟨h1, fun _ => ?_, fun j hj hjl => ?_⟩
          · by_cases e : i + 1 < l
            · exact h2 e
            · omega
          · by_cases e : j = i
            · rw [e]; exact hm
            · exact h3 j (by omega) hjl
        · rw [if_neg hm] at h; cases h
    · rw [if_neg hl] at h
      simp only [Except.ok.injEq] at h
      exact ⟨h.symm, fun e => absurd e hl, fun j hj hjl => by omega⟩
theorem enL_ok (v : ByteArray) (kd : Int) (fr l m : Nat) : ∀ (f i : Nat) (u : ByteArray), enL v kd fr l m f i = .ok u → u = v
  | 0, i, u, h => by simp only [enL, Except.ok.injEq] at h; exact h.symm
  | f + 1, i, u, h => by
    simp only [enL] at h
    split at h
    · split at h
      · cases h
      · split at h
        · exact enL_ok v kd fr l m f (i + 1) u h
        · cases h
    · split at h
      · cases h
      · simp only [Except.ok.injEq] at h; exact h.symm
theorem enR_ok {kd : Int} {fr l m : Nat} {u : ByteArray} (h : enR t kd fr l m = .ok u) : u = cutV t fr := by
  unfold enR at h
  split at h
  · cases h
  · exact enL_ok _ _ _ _ _ _ _ _ h
theorem plain_val {r : Row5} (hr : r ∈ rws) {fr : Nat} {v : ByteArray} (h : plL t r.kind fr r.least.toNat (r.least.toNat + 1) 0 = .ok v) : v = t.extract fr (fr + r.least.toNat) ∧ fr + r.least.toNat ≤ t.size ∧ v.size = r.least.toNat ∧ ∀ j : Nat, j < v.size → mayOf r.kind (bt v (j : Int)) = true := by
  obtain ⟨m1, m2, m3, m4, m5⟩ := rows_most r hr
  obtain ⟨h1, h2, h3⟩ := plL_ok r.kind fr r.least.toNat (r.least.toNat + 1) 0 v (by omega) (by omega) h
  have hle := h2 (by omega)
  have hsz : v.size = r.least.toNat := by rw [h1, ByteArray.size_extract]; omega
  refine ⟨h1, hle, hsz, fun j hj => ?_⟩
  rw [h1, bt_sub t fr (fr + r.least.toNat) j (by omega) hle]
  exact h3 j (by omega) (by omega)
/-- The last test of a value, called. -/
theorem whole_code {r : Row5} (hr : r ∈ rws) (hk : r.kind = 0) {fr : Nat} {v : ByteArray} (h : plL t r.kind fr r.least.toNat (r.least.toNat + 1) 0 = .ok v) : gtin_sound.f 200 v = some (decide (Int.tmod (sumOf v) 10 = 0)) := by
  obtain ⟨h1, h2, h3, h4⟩ := plain_val hr h
  obtain ⟨c1, c2⟩ := code_rows r hr hk
  refine sound_is v (by omega) (fun j hj => ?_) 200 (by omega)
  have := h4 j hj
  unfold mayOf at this
  rw [if_neg (by omega)] at this
  exact this
theorem whole_day {r : Row5} (hr : r ∈ rws) (hk : r.kind = 1) {fr : Nat} {v : ByteArray} (h : plL t r.kind fr r.least.toNat (r.least.toNat + 1) 0 = .ok v) : gtin_isDay.f v = some (isDayB (tw v 0) (tw v 2) (tw v 4)) := by
  obtain ⟨h1, h2, h3, h4⟩ := plain_val hr h
  obtain ⟨c1, c2⟩ := day_rows r hr hk
  unfold gtin_isDay.f
  rw [if_pos (by omega)]
theorem kinds : ∀ r ∈ rws, (r.plain = true ∧ (r.kind = 0 ∨ r.kind = 1 ∨ r.kind = 2)) ∨ (r.plain = false ∧ (r.kind = 2 ∨ r.kind = 3)) := by decide +kernel
theorem least_most : ∀ r ∈ rws, r.least ≤ r.most := by decide +kernel
set_option maxHeartbeats 4000000
set_option maxRecDepth 100000
theorem element_rowerr (p : Nat) (c q : Int) (hS : ScAt W z t (p : Int) m) (hM : SeenAt W m N sn) (HT_ : Aside0 (Tab W)) (hp : p ≤ t.size) (ht : t.size ≤ 512) (hrow : rowR t p = .error (c, q)) :
    Calls Tryd.prog 36 #[.pointer (some ⟨z, 0, none⟩)] W fun e w' => e = faultE c q ∧ Two z m W w' := by
  have b0 := (Below.refl W.heap.size W).alloc (Nat.le_refl _) (.cells #[.string ⟨#[]⟩, .string ⟨#[]⟩] 23)
  have hS0 := hS.of_block (b0.block z hS.lt)
  have X := Aside0.mk (row_calls p hS0 ⟨HT_.out.alloc _⟩ hp (by omega))
  rw [hrow] at X
  simp only [outR, faultE] at X
  have c1 := hS0.cells.2.1
  have HB0 := Aside0.mk b0
  clear hS hM hp ht hrow b0 hS0
  go_enter Tryd.func36, Tryd.ntmps36
  go_wp2_with (go_at_call 55; go_loud ((with_reducible refine X.out.mono ?_); rintro e w1 ⟨rfl, hb1⟩; have HB1 := Aside0.mk hb1; clear hb1))
  exact ⟨rfl, rfl, Two.of_below (HB0.out.trans (HB1.out.mono (by simp))) (Nat.le_refl _)⟩
/-- element: what elR says. -/
theorem element_calls (p : Nat) (hS : ScAt W z t (p : Int) m) (hM : SeenAt W m N sn) (hN : N ≤ 1000) (HT_ : Aside0 (Tab W)) (hzm : z ≠ m) (hp : p ≤ t.size) (ht : t.size ≤ 512) :
    Calls Tryd.prog 36 #[.pointer (some ⟨z, 0, none⟩)] W fun e w' => e = outEl (elR t p sn) ∧ Two z m W w' ∧ ∀ r' v p', elR t p sn = .ok (r', v, p') → ScAt w' z t (p' : Int) m ∧ SeenAt w' m (N + 1) (putS sn r'.ai (p : Int)) := by
  rcases hrow : rowR t p with ⟨c, q⟩ | r
  · have hE : elR t p sn = .error (c, q) := elR_row hrow
    refine (element_rowerr p c q hS hM HT_ hp ht hrow).mono ?_
    rintro e w' ⟨rfl, h2⟩
    rw [hE]
    exact ⟨rfl, h2, fun r' v p' h => by cases h⟩
  · obtain ⟨hr, hlen⟩ := rowR_ok hrow
    obtain ⟨m1, m2, m3, m4, m5⟩ := rows_most r hr
    have hlm := least_most r hr
    have hai0 : 0 < r.ai.length := List.length_pos_iff.2 m3
    have hsz : (S r).size = r.ai.length := by simp [S, ByteArray.size]
    have hsl : (S r).data.toList = r.ai := rfl
    have hL : r.least = ((r.least.toNat : Nat) : Int) := by omega
    have hM2 : r.most = ((r.most.toNat : Nat) : Int) := by omega
    have hex : p + (S r).size ≤ t.size := by rw [hsz]; omega
    have hL9 : r.least.toNat ≤ 90 := by omega
    have hM9 : r.most.toNat ≤ 90 := by omega
    have hrc : ∀ (kd : Int) (pl : Bool), r.kind = kd → r.plain = pl → (rowC r).toArray = #[.string (S r), .int .i64 ((r.least.toNat : Nat) : Int), .int .i64 ((r.most.toNat : Nat) : Int), .int .i64 kd, .bool pl] := by
      intro kd pl h1 h2
      rw [← h1, ← h2, ← hL, ← hM2]
      rfl
    have hvp : ∀ kd, r.kind = kd → ∀ v, plL t kd (p + (S r).size) r.least.toNat (r.least.toNat + 1) 0 = .ok v → p + (S r).size + v.size ≤ t.size := by
      intro kd hk v hv
      rw [← hk] at hv
      obtain ⟨h1, h2, h3, h4⟩ := plain_val hr hv
      omega
    have hve : ∀ kd v, enR t kd (p + (S r).size) r.least.toNat r.most.toNat = .ok v → p + (S r).size + v.size ≤ t.size := by
      intro kd v hv
      rw [enR_ok hv]
      have := cutV_size t (p + (S r).size)
      omega
    rcases kinds r hr with ⟨hpl, hk | hk | hk⟩ | ⟨hpl, hk | hk⟩
    · exact element_p0 r (S r) _ _ p hS hM hN HT_ hzm hp ht hrow (hrc 0 true hk hpl) hsl rfl hk hpl hL hM2 hL9 hM9 hex ⟨fun v hv w => by
        have h := whole_code hr hk (by rw [hk]; exact hv)
        have hq : wholeOf 0 v = decide (Int.tmod (sumOf v) 10 = 0) := by unfold wholeOf; rw [if_pos rfl, h]; rfl
        rw [hq]
        exact gtin_sound.calls 200 v _ w h⟩ (hvp 0 hk)
    · exact element_p1 r (S r) _ _ p hS hM hN HT_ hzm hp ht hrow (hrc 1 true hk hpl) hsl rfl hk hpl hL hM2 hL9 hM9 hex ⟨fun v hv w => by
        have h := whole_day hr hk (by rw [hk]; exact hv)
        have hq : wholeOf 1 v = isDayB (tw v 0) (tw v 2) (tw v 4) := by unfold wholeOf; rw [if_neg (by decide), if_pos rfl, h]; rfl
        rw [hq]
        exact (gtin_isDay.calls v _ w h).mono (by rintro e w' ⟨rfl, ⟨n, rfl⟩⟩; exact ⟨rfl, pw_below_drewN (Below.refl _ _) _⟩)⟩ (hvp 1 hk)
    · exact element_p2 r (S r) _ _ p hS hM hN HT_ hzm hp ht hrow (hrc 2 true hk hpl) hsl rfl hk hpl hL hM2 hL9 hM9 hex ⟨fun v hv w => by
        have hq : wholeOf 2 v = true := rfl
        rw [hq]
        exact anything_any v w⟩ (hvp 2 hk)
    · exact element_e2 r (S r) _ _ p hS hM hN HT_ hzm hp ht hrow (hrc 2 false hk hpl) hsl rfl hk hpl hL hM2 hL9 hM9 hex ⟨fun v hv w => by
        have hq : wholeOf 2 v = true := rfl
        rw [hq]
        exact anything_any v w⟩ (hve 2)
    · exact element_e3 r (S r) _ _ p hS hM hN HT_ hzm hp ht hrow (hrc 3 false hk hpl) hsl rfl hk hpl hL hM2 hL9 hM9 hex ⟨fun v hv w => by
        have hq : wholeOf 3 v = true := rfl
        rw [hq]
        exact anything_any v w⟩ (hve 3)
end Go.Proofs.YtofagdjijpjlgaaDoor.X
set_option linter.unusedVariables false
set_option linter.unusedSimpArgs false
namespace Go.Proofs.YtofagdjijpjlgaaDoor.X
open Go Go.RowKit Go.Proofs.YtofagdjijpjlgaaDoorW.PrintWords Go.Proofs.YtofagdjijpjlgaaDoorW.PrintLast Go.Proofs.YtofagdjijpjlgaaDoorW.PrintMore Go.Proofs.YtofagdjijpjlgaaDoor.PBase Go.Proofs.YtofagdjijpjlgaaDoor.PElem
variable {W w w' w1 u : World} {z m N : Nat} {sn : Sn} {t : ByteArray}
set_option maxHeartbeats 4000000
set_option maxRecDepth 100000
/-- The deferred closure, where Parse gave up: the fault is taken, and laid into the three results. -/
theorem catchG (b : Nat) (v0 : Value) (e p : Int) (older : List PanicEntry) (w : World) (h0 : w.heap[b]? = some (.cells #[v0] 30 (0, 0))) (h1 : w.heap[b + 1]? = some (.cells #[.int .i64 0] 31 (0, 0))) (h2 : w.heap[b + 2]? = some (.cells #[.int .i64 0] 3 (0, 0))) :
    CallsD Tryd.prog 34 #[.pointer (some ⟨b, 0, none⟩), .pointer (some ⟨b + 1, 0, none⟩), .pointer (some ⟨b + 2, 0, none⟩)] (.panicking ({ v := faultV e p, recovered := false } :: older)) w fun en u' w' =>
      en = .returned (.tuple #[]) ∧ u' = .panicking ({ v := faultV e p, recovered := true } :: older) ∧ w'.heap[b]? = some (.cells #[.slice none 0 0] 30 (0, 0)) ∧ w'.heap[b + 1]? = some (.cells #[.int .i64 e] 31 (0, 0)) ∧ w'.heap[b + 2]? = some (.cells #[.int .i64 p] 3 (0, 0)) ∧ ∀ B0, B0 ≤ b → Below B0 w w' := by
  have al : ∀ i, i < w.heap.size → (w.alloc (.cells #[.int .i64 e, .int .i64 p] 65)).heap[i]? = w.heap[i]? := fun i hi => Below.heap_alloc _ _ _ hi
  have l0 := (Array.getElem?_eq_some_iff.1 h0).1
  have l1 := (Array.getElem?_eq_some_iff.1 h1).1
  have l2 := (Array.getElem?_eq_some_iff.1 h2).1
  have k0 := (al b l0).trans h0
  have k1 := (al (b + 1) l1).trans h1
  have k2 := (al (b + 2) l2).trans h2
  have c0 : (w.alloc (.cells #[.int .i64 e, .int .i64 p] 65)).cell? ⟨b, 0, none⟩ = some v0 := by simp [World.cell?, k0]
  have c1 : (w.alloc (.cells #[.int .i64 e, .int .i64 p] 65)).cell? ⟨b + 1, 0, none⟩ = some (.int .i64 0) := by simp [World.cell?, k1]
  have c2 : (w.alloc (.cells #[.int .i64 e, .int .i64 p] 65)).cell? ⟨b + 2, 0, none⟩ = some (.int .i64 0) := by simp [World.cell?, k2]
  have f0 : (w.alloc (.cells #[.int .i64 e, .int .i64 p] 65)).frozen? ⟨b, 0, none⟩ = false := by simp [World.frozen?, k0]
  have f1 : (w.alloc (.cells #[.int .i64 e, .int .i64 p] 65)).frozen? ⟨b + 1, 0, none⟩ = false := by simp [World.frozen?, k1]
  have f2 : (w.alloc (.cells #[.int .i64 e, .int .i64 p] 65)).frozen? ⟨b + 2, 0, none⟩ = false := by simp [World.frozen?, k2]
  have HK := Aside0.mk (And.intro k0 (And.intro k1 k2))
  have HL := Aside0.mk l0
  have n0 : (b = w.heap.size) = False := eq_false (by omega)
  have n1 : (b + 1 = w.heap.size) = False := eq_false (by omega)
  have n2 : (b + 2 = w.heap.size) = False := eq_false (by omega)
  have m0 : (w.heap.size = b) = False := eq_false (by omega)
  have m1 : (w.heap.size = b + 1) = False := eq_false (by omega)
  have m2 : (w.heap.size = b + 2) = False := eq_false (by omega)
  clear k0 k1 k2 al h0 h1 h2 l1 l2 l0
  refine callsD_of_wpS Tryd.func34 rfl fun c₀ cs hu => ?_
  unfold faultV at hu ⊢
  simp only [Tryd.ntmps34, List.size_toArray, List.length_cons, List.length_nil, Nat.reduceAdd, Nat.reduceSub, Array.replicate_succ, Array.replicate_zero, List.push_toArray, List.append_toArray, List.nil_append, List.cons_append]
  apply wpS_seq
  apply wpS_region
  simp [wpOpsS, go_sem, recoverD, hu, Exit.thenS]
  have hta : ∀ w : World, (Instr.typeAssert (.iface 65 (.agg #[.int .i64 e, .int .i64 p])) 20 65 true).run Tryd.prog w = .ok (.tuple #[.agg #[.int .i64 e, .int .i64 p], .bool true]) w := fun w => by kernel_rfl
  apply wpS_seq
  apply wpS_region
  simp [wpOpsS, go_sem, Exit.thenS]
  refine wpS_cond (t := true) (by simp [Act.eval]) ?_
  simp only [if_true]
  apply wpS_seq
  apply wpS_region
  simp [wpOpsS, go_sem, Exit.thenS, hta]
  apply wpS_seq
  apply wpS_seq
  apply wpS_region
  simp [wpOpsS, go_sem, Exit.thenS]
  refine wpS_cond (t := false) (by simp [Act.eval]) ?_
  simp only [Bool.false_eq_true, if_false]
  refine wpS_of_wp (wp_skip ?_)
  simp only [Exit.thenS]
  refine wpS_of_wp ?_
  go_region
  have g0 : ((((w.alloc (.cells #[.int .i64 e, .int .i64 p] 65)).setCell ⟨b, 0, none⟩ (.slice none 0 0)).setCell ⟨b + 1, 0, none⟩ (.int .i64 e)).setCell ⟨b + 2, 0, none⟩ (.int .i64 p)).heap[b]? = some (.cells #[.slice none 0 0] 30 (0, 0)) :=
    (Below.heap_setCell _ _ _ b (by show b ≠ b + 2; omega)).trans ((Below.heap_setCell _ _ _ b (by show b ≠ b + 1; omega)).trans (fin_set HK.out.1))
  have g1 : ((((w.alloc (.cells #[.int .i64 e, .int .i64 p] 65)).setCell ⟨b, 0, none⟩ (.slice none 0 0)).setCell ⟨b + 1, 0, none⟩ (.int .i64 e)).setCell ⟨b + 2, 0, none⟩ (.int .i64 p)).heap[b + 1]? = some (.cells #[.int .i64 e] 31 (0, 0)) :=
    (Below.heap_setCell _ _ _ (b + 1) (by show b + 1 ≠ b + 2; omega)).trans (fin_set ((Below.heap_setCell _ _ _ (b + 1) (by show b + 1 ≠ b; omega)).trans HK.out.2.1))
  have g2 : ((((w.alloc (.cells #[.int .i64 e, .int .i64 p] 65)).setCell ⟨b, 0, none⟩ (.slice none 0 0)).setCell ⟨b + 1, 0, none⟩ (.int .i64 e)).setCell ⟨b + 2, 0, none⟩ (.int .i64 p)).heap[b + 2]? = some (.cells #[.int .i64 p] 3 (0, 0)) :=
    fin_set ((Below.heap_setCell _ _ _ (b + 2) (by show b + 2 ≠ b + 1; omega)).trans ((Below.heap_setCell _ _ _ (b + 2) (by show b + 2 ≠ b; omega)).trans HK.out.2.2))
  have gb : ∀ B0, B0 ≤ b → Below B0 w ((((w.alloc (.cells #[.int .i64 e, .int .i64 p] 65)).setCell ⟨b, 0, none⟩ (.slice none 0 0)).setCell ⟨b + 1, 0, none⟩ (.int .i64 e)).setCell ⟨b + 2, 0, none⟩ (.int .i64 p)) := fun B0 hB =>
    ((((Below.refl B0 w).alloc (by have := HL.out; omega) _).setCell hB _).setCell (show B0 ≤ b + 1 by omega) _).setCell (show B0 ≤ b + 2 by omega) _
  generalize ((((w.alloc (.cells #[.int .i64 e, .int .i64 p] 65)).setCell ⟨b, 0, none⟩ (.slice none 0 0)).setCell ⟨b + 1, 0, none⟩ (.int .i64 e)).setCell ⟨b + 2, 0, none⟩ (.int .i64 p)) = FW at g0 g1 g2 gb ⊢
  exact ⟨rfl, _, rfl, .tuple #[], results_none rfl _ _ _, rfl, rfl, g0, g1, g2, fun B0 hB => by first | exact below_drew1 (gb B0 hB) | exact pw_below_drewN (gb B0 hB) 1⟩
/-- The deferred closure, where nothing was given up. -/
theorem calm (a0 a1 a2 : Value) (w : World) :
    CallsD Tryd.prog 34 #[a0, a1, a2] .returning w fun en u' w' => en = .returned (.tuple #[]) ∧ u' = .returning ∧ w' = w := by
  refine callsD_of_wpS Tryd.func34 rfl fun c₀ cs hu => ?_
  simp only [Tryd.ntmps34, List.size_toArray, List.length_cons, List.length_nil, Nat.reduceAdd, Nat.reduceSub, Array.replicate_succ, Array.replicate_zero, List.push_toArray, List.append_toArray, List.nil_append, List.cons_append]
  apply wpS_seq
  apply wpS_region
  simp [wpOpsS, go_sem, recoverD, hu, Exit.thenS]
  apply wpS_seq
  apply wpS_region
  simp [wpOpsS, go_sem, Exit.thenS]
  refine wpS_cond (t := false) (by simp [Act.eval]) ?_
  simp only [Bool.false_eq_true, if_false]
  refine wpS_of_wp (wp_skip ?_)
  exact ⟨rfl, _, rfl, .tuple #[], results_none rfl _ _ _, rfl, hu, rfl⟩
theorem doorG {R : Ending → World → Prop} (tm : Array Value) (b : Nat) (v0 : Value) (c q : Int) (w6 : World) (ht2 : tm.getD 2 undef = .pointer (some ⟨b, 0, none⟩)) (ht3 : tm.getD 3 undef = .pointer (some ⟨b + 1, 0, none⟩)) (ht4 : tm.getD 4 undef = .pointer (some ⟨b + 1 + 1, 0, none⟩))
    (h0 : w6.heap[b]? = some (.cells #[v0] 30 (0, 0))) (h1 : w6.heap[b + 1]? = some (.cells #[.int .i64 0] 31 (0, 0))) (h2 : w6.heap[b + 2]? = some (.cells #[.int .i64 0] 3 (0, 0)))
    (hR : ∀ w', (∀ B0, B0 ≤ b → Below B0 w6 w') → R (.returned (.tuple #[.slice none 0 0, .int .i64 c, .int .i64 q])) w') :
    bodyPostD Tryd.prog Tryd.f16 R (.panic [{ v := faultV c q, recovered := false }]) { tmps := tm, defers := [{ target := Target.fn (.func 34) #[.pointer (some ⟨b, 0, none⟩), .pointer (some ⟨b + 1, 0, none⟩), .pointer (some ⟨b + 1 + 1, 0, none⟩)], args := #[] }] } w6 := by
  have ht2' : tm[2]?.getD undef = .pointer (some ⟨b, 0, none⟩) := by simpa using ht2
  have ht3' : tm[3]?.getD undef = .pointer (some ⟨b + 1, 0, none⟩) := by simpa using ht3
  have ht4' : tm[4]?.getD undef = .pointer (some ⟨b + 1 + 1, 0, none⟩) := by simpa using ht4
  refine leaves_cons (f := 34) (args := #[.pointer (some ⟨b, 0, none⟩), .pointer (some ⟨b + 1, 0, none⟩), .pointer (some ⟨b + 1 + 1, 0, none⟩)]) (by simp) (by simp [go_sem]) ?_
  refine (catchG b v0 c q [] w6 h0 h1 h2).mono ?_
  rintro e u' w'' ⟨rfl, rfl, g0, g1, g2, gb⟩
  have c0 : w''.cell? ⟨b, 0, none⟩ = some (.slice none 0 0) := by simp [World.cell?, g0]
  have c1 : w''.cell? ⟨b + 1, 0, none⟩ = some (.int .i64 c) := by simp [World.cell?, g1]
  have c2 : w''.cell? ⟨b + 1 + 1, 0, none⟩ = some (.int .i64 q) := by simp [World.cell?, g2]
  have hz := hR w'' gb
  simp [Leaves, settle, results, Tryd.results16, go_sem, ht2', ht3', ht4', c0, c1, c2]
  exact hz
theorem doorN {R : Ending → World → Prop} (ex : Exit) (hex : ex = .normal ∨ ex = .ret) (tm : Array Value) (b : Nat) (v0 : Value) (w6 : World) (ht2 : tm.getD 2 undef = .pointer (some ⟨b, 0, none⟩)) (ht3 : tm.getD 3 undef = .pointer (some ⟨b + 1, 0, none⟩)) (ht4 : tm.getD 4 undef = .pointer (some ⟨b + 1 + 1, 0, none⟩))
    (h0 : w6.heap[b]? = some (.cells #[v0] 30 (0, 0))) (h1 : w6.heap[b + 1]? = some (.cells #[.int .i64 0] 31 (0, 0))) (h2 : w6.heap[b + 2]? = some (.cells #[.int .i64 0] 3 (0, 0)))
    (hR : R (.returned (.tuple #[v0, .int .i64 0, .int .i64 0])) w6) :
    bodyPostD Tryd.prog Tryd.f16 R ex { tmps := tm, defers := [{ target := Target.fn (.func 34) #[.pointer (some ⟨b, 0, none⟩), .pointer (some ⟨b + 1, 0, none⟩), .pointer (some ⟨b + 1 + 1, 0, none⟩)], args := #[] }] } w6 := by
  have ht2' : tm[2]?.getD undef = .pointer (some ⟨b, 0, none⟩) := by simpa using ht2
  have ht3' : tm[3]?.getD undef = .pointer (some ⟨b + 1, 0, none⟩) := by simpa using ht3
  have ht4' : tm[4]?.getD undef = .pointer (some ⟨b + 1 + 1, 0, none⟩) := by simpa using ht4
  have c0 : w6.cell? ⟨b, 0, none⟩ = some v0 := by simp [World.cell?, h0]
  have c1 : w6.cell? ⟨b + 1, 0, none⟩ = some (.int .i64 0) := by simp [World.cell?, h1]
  have c2 : w6.cell? ⟨b + 1 + 1, 0, none⟩ = some (.int .i64 0) := by simp [World.cell?, h2]
  have key : Leaves Tryd.prog Tryd.f16 tm R [{ target := Target.fn (.func 34) #[.pointer (some ⟨b, 0, none⟩), .pointer (some ⟨b + 1, 0, none⟩), .pointer (some ⟨b + 1 + 1, 0, none⟩)], args := #[] }] .returning w6 := by
    refine leaves_cons (f := 34) (args := #[.pointer (some ⟨b, 0, none⟩), .pointer (some ⟨b + 1, 0, none⟩), .pointer (some ⟨b + 1 + 1, 0, none⟩)]) (by simp) (by simp [go_sem]) ?_
    refine (calm _ _ _ w6).mono ?_
    rintro e u' w'' ⟨rfl, rfl, rfl⟩
    simp [Leaves, settle, results, Tryd.results16, go_sem, ht2', ht3', ht4', c0, c1, c2]
    exact hR
  rcases hex with rfl | rfl
  · exact key
  · exact key
/-- Which blocks are neither a result's box nor the scanner's nor the map's. -/
def okP (W : World) (z m k : Nat) : Prop := k ≠ z ∧ k ≠ m ∧ W.heap.size + 3 ≤ k
/-- Parse's state at the loop's head. -/
structure Ps (W : World) (z m N : Nat) (sn : Sn) (t : ByteArray) (p : Int) (v : Value) (acc : List S23) (w : World) : Prop where
  sc : ScAt w z t p m
  mp : SeenAt w m N sn
  bl : w.heap[W.heap.size]? = some (.cells #[v] 30 (0, 0))
  be : w.heap[W.heap.size + 1]? = some (.cells #[.int .i64 0] 31 (0, 0))
  bp : w.heap[W.heap.size + 2]? = some (.cells #[.int .i64 0] 3 (0, 0))
  rr : Kd.R k23 23 w W.heap.size (okP W z m) v acc
  fr : Below W.heap.size W w
  ne : z ≠ m ∧ W.heap.size + 3 ≤ z ∧ W.heap.size + 3 ≤ m
variable {p : Int} {v : Value} {acc : List S23}
theorem hlt {w : World} {i : Nat} {o : Obj} (h : w.heap[i]? = some o) : i < w.heap.size := (Array.getElem?_eq_some_iff.1 h).1
theorem Ps.below (h : Ps W z m N sn t p v acc w) (hb : Below w.heap.size w w') : Ps W z m N sn t p v acc w' :=
  ⟨h.sc.of_block (hb.block z h.sc.lt), h.mp.of_block (hb.block m h.mp.lt), (hb.block _ (hlt h.bl)).trans h.bl, (hb.block _ (hlt h.be)).trans h.be, (hb.block _ (hlt h.bp)).trans h.bp, Kd.R_below h.rr hb, h.fr.trans (hb.mono h.fr.size), h.ne⟩
theorem Ps.two {p' : Int} {N' : Nat} {sn' : Sn} (h : Ps W z m N sn t p v acc w) (h2 : Two z m w w') (hs : ScAt w' z t p' m) (hm : SeenAt w' m N' sn') : Ps W z m N' sn' t p' v acc w' := by
  have hne := h.ne
  exact ⟨hs, hm, (h2.block _ (hlt h.bl) (by omega) (by omega)).trans h.bl, (h2.block _ (hlt h.be) (by omega) (by omega)).trans h.be, (h2.block _ (hlt h.bp) (by omega) (by omega)).trans h.bp,
    Kd.R_step h.rr (fun k hk hlt => h2.block k hlt hk.1 hk.2.1), h.fr.trans (h2.below (by omega) (by omega) h.fr.size), hne⟩
/-- The list has been grown, and is stored. -/
theorem Ps.push {x : S23} {v1 : Value} (h : Ps W z m N sn t p v acc w) (hR : Kd.R k23 23 w1 W.heap.size (okP W z m) v1 (acc ++ [x])) (hg : w.grownBy w1 v.ownBlock) (hb : Below W.heap.size W w1) : Ps W z m N sn t p v1 (acc ++ [x]) (w1.setCell ⟨W.heap.size, 0, none⟩ v1) := by
  have hne := h.ne
  have own : ∀ k, v.ownBlock = some k → okP W z m k := fun k hk => h.rr.1 k hk
  have far : ∀ i, i < w.heap.size → ¬ okP W z m i → w1.heap[i]? = w.heap[i]? := fun i hi hn => hg.block i hi (fun e => hn (own i e.symm))
  have nz : ¬ okP W z m z := fun h => h.1 rfl
  have nm : ¬ okP W z m m := fun h => h.2.1 rfl
  have n0 : ¬ okP W z m W.heap.size := fun h => by have := h.2.2; omega
  have n1 : ¬ okP W z m (W.heap.size + 1) := fun h => by have := h.2.2; omega
  have n2 : ¬ okP W z m (W.heap.size + 2) := fun h => by have := h.2.2; omega
  have st : ∀ i, i ≠ W.heap.size → (w1.setCell ⟨W.heap.size, 0, none⟩ v1).heap[i]? = w1.heap[i]? := fun i hi => Below.heap_setCell w1 _ v1 i hi
  refine ⟨h.sc.of_block ((st z (by omega)).trans (far z h.sc.lt nz)), h.mp.of_block ((st m (by omega)).trans (far m h.mp.lt nm)), fin_set ((far _ (hlt h.bl) n0).trans h.bl), (st _ (by omega)).trans ((far _ (hlt h.be) n1).trans h.be), (st _ (by omega)).trans ((far _ (hlt h.bp) n2).trans h.bp), ?_, hb.setCell (Nat.le_refl _) _, hne⟩
  exact Kd.R_far hR (fun k hk => by have := hk.2.2; show k ≠ W.heap.size; omega) v1
end Go.Proofs.YtofagdjijpjlgaaDoor.X
set_option linter.unusedVariables false
set_option linter.unusedSimpArgs false
namespace Go.Proofs.YtofagdjijpjlgaaDoor.X
open Go Go.RowKit Go.Proofs.YtofagdjijpjlgaaDoorW.PrintWords Go.Proofs.YtofagdjijpjlgaaDoorW.PrintLast Go.Proofs.YtofagdjijpjlgaaDoorW.PrintMore Go.Proofs.YtofagdjijpjlgaaDoor.PBase Go.Proofs.YtofagdjijpjlgaaDoor.PElem
variable {W w w' w1 u : World} {z m N : Nat} {sn : Sn} {t : ByteArray}
/-- What Parse reads, from a place on. -/
def paL (t : ByteArray) : Nat → Nat → Sn → List S23 → Option (Fl (List S23))
  | 0, _, _, _ => none
  | f + 1, p, sn, acc => if p < t.size then
      (match elR t p sn with
      | .error x => some (.error x)
      | .ok (r, v, p') => paL t f p' (putS sn r.ai (p : Int)) (acc ++ [⟨S r, v⟩]))
    else if 0 ≤ loneOf sn then some (.error (25, loneOf sn)) else some (.ok acc)
def tri : Fl (List S23) → List S23 × Int × Int
  | .ok l => (l, 0, 0)
  | .error (c, q) => ([], c, q)
def muP (z : Nat) (w : World) : Nat := match w.cell? ⟨z, 1, none⟩ with | some v => (intOf v).toNat | none => 0
theorem muP_at {p : Int} {w : World} (h : w.cell? ⟨z, 1, none⟩ = some (.int .i64 p)) : muP z w = p.toNat := by unfold muP; rw [h]; rfl
theorem ai_two : ∀ r ∈ rws, 2 ≤ r.ai.length := by decide +kernel
theorem valR_fits {r : Row5} (hr : r ∈ rws) {fr : Nat} {v : ByteArray} (hf : fr ≤ t.size) (h : valR t r fr = .ok v) : fr + v.size ≤ t.size := by
  unfold valR at h
  split at h
  · obtain ⟨h1, h2, h3, h4⟩ := plain_val hr h
    omega
  · rw [enR_ok h]
    have := cutV_size t fr
    omega
theorem elR_adv {p : Nat} {r : Row5} {v : ByteArray} {p' : Nat} (hp : p ≤ t.size) (h : elR t p sn = .ok (r, v, p')) : r ∈ rws ∧ p + 2 ≤ p' ∧ p' ≤ t.size := by
  unfold elR at h
  cases hrow : rowR t p with
  | error x => rw [hrow] at h; cases h
  | ok r0 =>
    rw [hrow] at h
    obtain ⟨hr, hlen⟩ := rowR_ok hrow
    have h2 := ai_two r0 hr
    simp only at h
    split at h
    · cases hv : valR t r0 (p + r0.ai.length) with
      | error x => rw [hv] at h; cases h
      | ok v0 =>
        rw [hv] at h
        have h3 := valR_fits hr (by omega) hv
        simp only at h
        split at h
        · split at h
          · split at h
            · cases h
            · cases h
              exact ⟨hr, by omega, by omega⟩
          · cases h
            exact ⟨hr, by omega, by omega⟩
        · split at h <;> cases h
    · cases h
set_option maxHeartbeats 16000000
set_option maxRecDepth 100000
theorem parse_walk (HT_ : Aside0 (Tab W)) (ht : t.size ≤ 512) (res : Fl (List S23)) (h : paL t (t.size + 1) 0 [] [] = some res) : Calls Tryd.prog 16 #[.string t] W fun e W' => ∃ v, e = .returned (.tuple #[v, .int .i64 (tri res).2.1, .int .i64 (tri res).2.2]) ∧ Kd.R k23 23 W' W.heap.size (fun _ => True) v (tri res).1 ∧ Below W.heap.size W W' := by
  have hmf : ∀ (fn : Fn) (first cap : Array Value) (w : World), (Instr.makeFunc fn first cap).run Tryd.prog w = .ok (.func fn first cap) w := fun _ _ _ _ => rfl
  have g0 : decide ((512 : Int) < (t.size : Int)) = false := decide_eq_false (by omega)
  have g1 : decide (512 < t.size) = false := decide_eq_false (by omega)
  have HT5 := Aside0.mk ht
  have HA := Aside0.mk h
  clear h ht
  have X := Aside0.mk (fun w => newSeen_calls w)
  go_enter_defers Tryd.func16, Tryd.ntmps16
  go_wp2_with (go_at_call 35; go_loud ((with_reducible refine (X.out _).mono ?_); rintro e w4 ⟨m, rfl, hM, hm, hb4⟩; have HM := Aside0.mk hM; have Hm := Aside0.mk hm; have HB4 := Aside0.mk hb4; clear hM hm hb4))
  clear X
  have hsz4 := HB4.out.size
  simp only [World.size_alloc] at hsz4
  have hm3 := Hm.out
  simp only [World.size_alloc] at hm3
  have ab : Below w4.heap.size w4 (w4.alloc (.cells #[.string t, .int .i64 0, .map (some m)] 73)) := (Below.refl _ _).alloc (Nat.le_refl _) _
  have b3 : Below W.heap.size W (((W.alloc (.cells #[.slice none 0 0] 30)).alloc (.cells #[.int .i64 0] 31)).alloc (.cells #[.int .i64 0] 3)) := (((Below.refl _ W).alloc (Nat.le_refl _) _).alloc (by simp) _).alloc (by simp only [World.size_alloc]; omega) _
  have q0 : w4.heap[W.heap.size]? = some (.cells #[.slice none 0 0] 30 (0, 0)) := by
    rw [HB4.out.block _ (by simp only [World.size_alloc]; omega), Below.heap_alloc _ _ _ (by simp only [World.size_alloc]; omega), Below.heap_alloc _ _ _ (by simp)]
    exact heap_alloc_new W _
  have q1 : w4.heap[W.heap.size + 1]? = some (.cells #[.int .i64 0] 31 (0, 0)) := by
    rw [HB4.out.block _ (by simp only [World.size_alloc]; omega), Below.heap_alloc _ _ _ (by simp)]
    have z := heap_alloc_new (W.alloc (.cells #[.slice none 0 0] 30)) (.cells #[.int .i64 0] 31)
    rw [World.size_alloc] at z
    exact z
  have q2 : w4.heap[W.heap.size + 2]? = some (.cells #[.int .i64 0] 3 (0, 0)) := by
    rw [HB4.out.block _ (by simp)]
    have z := heap_alloc_new ((W.alloc (.cells #[.slice none 0 0] 30)).alloc (.cells #[.int .i64 0] 31)) (.cells #[.int .i64 0] 3)
    rw [World.size_alloc, World.size_alloc] at z
    exact z
  have hW5 : Below W.heap.size W (w4.alloc (.cells #[.string t, .int .i64 0, .map (some m)] 73)) := (b3.trans (HB4.out.mono (by simp only [World.size_alloc]; omega))).trans (ab.mono (by omega))
  have hsc : ScAt (w4.alloc (.cells #[.string t, .int .i64 0, .map (some m)] 73)) w4.heap.size t 0 m := heap_alloc_new w4 _
  have hse := HM.out.of_block (ab.block _ HM.out.lt)
  have hml := HM.out.lt
  have P0 : Aside0 (Ps W w4.heap.size m 0 [] t 0 (.slice none 0 0) [] (w4.alloc (.cells #[.string t, .int .i64 0, .map (some m)] 73))) := ⟨⟨hsc, hse, (ab.block _ (hlt q0)).trans q0, (ab.block _ (hlt q1)).trans q1, (ab.block _ (hlt q2)).trans q2, Kd.R_nil k23 23 _ _ _, hW5, by omega, by omega, by omega⟩⟩
  clear hsz4 hm3 ab b3 q0 q1 q2 hW5 hsc hse hml Hm HM
  obtain ⟨z, hz⟩ : ∃ z, w4.heap.size = z := ⟨_, rfl⟩
  rw [hz] at P0
  obtain ⟨w5, hw5⟩ : ∃ w5, w4.alloc (.cells #[.string t, .int .i64 0, .map (some m)] 73) = w5 := ⟨_, rfl⟩
  rw [hw5] at P0
  simp only [hz, hw5]
  clear hz hw5 HB4
  go_loopw [15] (fun _ wr => ∃ (f p : Nat) (sn : Sn) (N : Nat) (acc : List S23) (v : Value), Aside0 (paL t f p sn acc = some res) ∧ p ≤ t.size ∧ N ≤ p ∧ acc.length ≤ p ∧ Aside0 (Ps W z m N sn t (p : Int) v acc wr)) (fun _ wr => t.size - muP z wr)
  case atStart => exact ⟨_, 0, [], 0, [], _, HA, Nat.zero_le _, Nat.le_refl _, Nat.le_refl _, P0⟩
  case round =>
    clear HA P0
    obtain ⟨f, p, sn, N, acc, v, HA, hp, hN, hac, HPs⟩ := hrel
    cases f with
    | zero => exact absurd HA.out (by simp [paL])
    | succ f =>
      have H := HA.out
      simp only [paL] at H
      obtain ⟨A0, k0, rfl⟩ := Kd.R_slice HPs.out.rr
      obtain ⟨c0, c1, c2, c3⟩ := HPs.out.sc.cells
      have cl : wr.cell? ⟨W.heap.size, 0, none⟩ = some (.slice A0 acc.length k0) := by have z := HPs.out.bl; simp [World.cell?, z]
      have ht := HT5.out
      by_cases hlt9 : p < t.size
      · rw [if_pos hlt9] at H
        have g2 : decide ((p : Int) < (t.size : Int)) = true := decide_eq_true (by omega)
        have g3 : decide (p < t.size) = true := decide_eq_true hlt9
        have HE := fun (w : World) (hb : Below wr.heap.size wr w) => element_calls p (HPs.out.below hb).sc (HPs.out.below hb).mp (by omega) ⟨Tab.below HT_.out (HPs.out.fr.trans (hb.mono HPs.out.fr.size))⟩ HPs.out.ne.1 hp ht
        rcases hel : elR t p sn with ⟨c, q⟩ | ⟨r, x, p'⟩
        · rw [hel] at H
          simp only [Option.some.injEq] at H
          subst H
          simp only [hel, outEl, faultE] at HE
          have HE := Aside0.mk (fun (w : World) (hb : Below wr.heap.size wr w) => (HE w hb).mono (R' := fun e w' => e = .panicked [{ v := faultV c q, recovered := false }] ∧ (w'.heap[W.heap.size]? = some (.cells #[(.slice A0 acc.length k0)] 30 (0, 0)) ∧ w'.heap[W.heap.size + 1]? = some (.cells #[.int .i64 0] 31 (0, 0)) ∧ w'.heap[W.heap.size + 2]? = some (.cells #[.int .i64 0] 3 (0, 0)) ∧ Below W.heap.size W w')) (by
            rintro e w' ⟨rfl, h2, _⟩
            have hq := HPs.out.below hb
            have hne := hq.ne
            exact ⟨rfl, (h2.block _ (hlt hq.bl) (by omega) (by omega)).trans hq.bl, (h2.block _ (hlt hq.be) (by omega) (by omega)).trans hq.be, (h2.block _ (hlt hq.bp) (by omega) (by omega)).trans hq.bp, hq.fr.trans (h2.below (by omega) (by omega) hq.fr.size)⟩))
          have DR : Aside0 (∀ (tm : Array Value) (w6 : World), tm.getD 2 undef = .pointer (some ⟨W.heap.size, 0, none⟩) → tm.getD 3 undef = .pointer (some ⟨W.heap.size + 1, 0, none⟩) → tm.getD 4 undef = .pointer (some ⟨W.heap.size + 1 + 1, 0, none⟩) → (w6.heap[W.heap.size]? = some (.cells #[(.slice A0 acc.length k0)] 30 (0, 0)) ∧ w6.heap[W.heap.size + 1]? = some (.cells #[.int .i64 0] 31 (0, 0)) ∧ w6.heap[W.heap.size + 2]? = some (.cells #[.int .i64 0] 3 (0, 0)) ∧ Below W.heap.size W w6) →
              bodyPostD Tryd.prog Tryd.f16 (fun e W' => ∃ v, e = .returned (.tuple #[v, .int .i64 (tri (.error (c, q))).2.1, .int .i64 (tri (.error (c, q))).2.2]) ∧ Kd.R k23 23 W' W.heap.size (fun _ => True) v (tri (.error (c, q))).1 ∧ Below W.heap.size W W') (.panic [{ v := faultV c q, recovered := false }]) { tmps := tm, defers := [{ target := Target.fn (.func 34) #[.pointer (some ⟨W.heap.size, 0, none⟩), .pointer (some ⟨W.heap.size + 1, 0, none⟩), .pointer (some ⟨W.heap.size + 1 + 1, 0, none⟩)], args := #[] }] } w6) := ⟨fun tm w6 e2 e3 e4 h6 =>
            doorG tm W.heap.size (.slice A0 acc.length k0) c q w6 e2 e3 e4 h6.1 h6.2.1 h6.2.2.1 (fun w' hb => ⟨_, rfl, Kd.R_nil k23 23 _ _ _, h6.2.2.2.trans (hb _ (Nat.le_refl _))⟩)⟩
          clear hel hlt9 hp hN hac ht HA
          go_wp2
          refine wp_region_any (by kernel_rfl) ?_
          change wpAny _ _ _ _ _ _ _ (World.drew _)
          refine wpAny_ready (rs := [0, 1]) (by kernel_rfl) (by simp) ?_
          refine AllReady.cons rfl (fun K hK => ?_) ?_
          · skip
            go_simp
            refine hK _ _ ?_
            clear hK K
            refine wpAny_ready (rs := [1]) (by kernel_rfl) (by simp) ?_
            refine AllReady.cons rfl (fun K hK => ?_) AllReady.nil
            go_simp
            refine hK _ _ ?_
            clear hK K
            refine wpAny_ready (rs := [2]) (by kernel_rfl) (by simp) ?_
            refine AllReady.cons rfl (fun K hK => ?_) AllReady.nil
            go_simp
            refine (HE.out _ (by repeat (first | exact Below.refl _ _ | apply below_drew | apply pw_below_drewN | apply below_alloc))).mono ?_
            rintro e w6 ⟨rfl, h6⟩
            exact DR.out _ _ rfl rfl rfl h6
          refine AllReady.cons rfl (fun K hK => ?_) AllReady.nil
          go_simp
          refine hK _ _ ?_
          clear hK K
          refine wpAny_ready (rs := [0, 2]) (by kernel_rfl) (by simp) ?_
          refine AllReady.cons rfl (fun K hK => ?_) ?_
          · skip
            go_simp
            refine hK _ _ ?_
            clear hK K
            refine wpAny_ready (rs := [2]) (by kernel_rfl) (by simp) ?_
            refine AllReady.cons rfl (fun K hK => ?_) AllReady.nil
            go_simp
            refine (HE.out _ (by repeat (first | exact Below.refl _ _ | apply below_drew | apply pw_below_drewN | apply below_alloc))).mono ?_
            rintro e w6 ⟨rfl, h6⟩
            exact DR.out _ _ rfl rfl rfl h6
          refine AllReady.cons rfl (fun K hK => ?_) AllReady.nil
          go_simp
          refine (HE.out _ (by repeat (first | exact Below.refl _ _ | apply below_drew | apply pw_below_drewN | apply below_alloc))).mono ?_
          rintro e w6 ⟨rfl, h6⟩
          exact DR.out _ _ rfl rfl rfl h6
        · rw [hel] at H
          simp only at H
          obtain ⟨hr, hadv, hp2⟩ := elR_adv hp hel
          simp only [hel, outEl] at HE
          have HE := Aside0.mk (fun (w : World) (hb : Below wr.heap.size wr w) => (HE w hb).mono (R' := fun e w' => e = .returned (.agg #[.string (S r), .string x]) ∧ Ps W z m (N + 1) (putS sn r.ai (p : Int)) t (p' : Int) (.slice A0 acc.length k0) acc w') (by
            rintro e w' ⟨rfl, h2, h3⟩
            obtain ⟨h4, h5⟩ := h3 r x p' rfl
            exact ⟨rfl, (HPs.out.below hb).two h2 h4 h5⟩))
          have HA2 := Aside0.mk H
          have hN2 : N + 1 ≤ p' := by omega
          have hac2 : (acc ++ [(⟨S r, x⟩ : S23)]).length ≤ p' := by rw [List.length_append, List.length_singleton]; omega
          have HC := Aside0.mk (show acc.length ≤ 512 by omega)
          have MU : Aside0 (∀ w, w.cell? ⟨z, 1, none⟩ = some (.int .i64 (p' : Int)) → t.size - muP z w < t.size - muP z wr) := ⟨fun w hw => by rw [muP_at hw, muP_at c1]; omega⟩
          clear hel hlt9 hp hN hac ht HA H hr hadv
          go_wp2
          refine wp_region_any (by kernel_rfl) ?_
          change wpAny _ _ _ _ _ _ _ (World.drew _)
          refine wpAny_ready (rs := [0, 1]) (by kernel_rfl) (by simp) ?_
          refine AllReady.cons rfl (fun K hK => ?_) ?_
          · skip
            go_simp
            refine hK _ _ ?_
            clear hK K
            refine wpAny_ready (rs := [1]) (by kernel_rfl) (by simp) ?_
            refine AllReady.cons rfl (fun K hK => ?_) AllReady.nil
            go_simp
            refine hK _ _ ?_
            clear hK K
            refine wpAny_ready (rs := [2]) (by kernel_rfl) (by simp) ?_
            refine AllReady.cons rfl (fun K hK => ?_) AllReady.nil
            go_simp
            refine (HE.out _ (by repeat (first | exact Below.refl _ _ | apply below_drew | apply pw_below_drewN | apply below_alloc))).mono ?_
            rintro e w6 ⟨rfl, h6⟩
            have H6 := Aside0.mk h6
            have c6 : w6.cell? ⟨W.heap.size, 0, none⟩ = some (.slice A0 acc.length k0) := by have z := h6.bl; simp [World.cell?, z]
            have c6' : (w6.alloc (.cells #[.string (S r), .string x] 23)).cell? ⟨W.heap.size, 0, none⟩ = some (.slice A0 acc.length k0) := by have z := (Below.heap_alloc w6 (.cells #[.string (S r), .string x] 23) _ (hlt h6.bl)).trans h6.bl; simp [World.cell?, z]
            clear h6
            refine hK _ _ ?_
            clear hK K
            refine wpAny_ready (rs := [3]) (by kernel_rfl) (by simp) ?_
            refine AllReady.cons rfl (fun K hK => ?_) AllReady.nil
            go_simp
            refine hK _ _ ?_
            clear hK K
            refine wpAny_ready (rs := [4]) (by kernel_rfl) (by simp) ?_
            refine AllReady.cons rfl (fun K hK => ?_) AllReady.nil
            refine Kd.R_append_step k23 (w0 := W) (W := w6) W.heap.size rfl (.tmp 22) (.tmp 25) 30 23 (.agg #[(.string ⟨#[]⟩), (.string ⟨#[]⟩)]) 32 rfl Tryd.underlying30 info23 rfl (by decide) (by omega) (.slice A0 acc.length k0) acc (⟨S r, x⟩ : S23) [.string (S r), .string x] (okP W z m) (fun _ => False) rfl rfl (k23_mkM _ _ _ (⟨S r, x⟩ : S23)) (fun _ hk => hk.elim) ?_ H6.out.rr H6.out.fr H6.out.fr.size (by have := HC.out; omega) ?_
            · exact fun k hk => ⟨by have := H6.out.sc.lt; omega, by have := H6.out.mp.lt; omega, by have := hlt H6.out.bp; omega⟩
            intro v1 w7 hR hB hg _
            obtain ⟨A1, k1, e1⟩ := Kd.R_slice hR
            rw [List.length_append, List.length_singleton] at e1
            subst e1
            have PS := Aside0.mk (H6.out.push hR hg hB)
            have hb7 : w7.heap[W.heap.size]? = some (.cells #[.slice A0 acc.length k0] 30 (0, 0)) := (hg.block _ (hlt H6.out.bl) (fun e => by have := (H6.out.rr.1 _ e.symm).2.2; omega)).trans H6.out.bl
            have c7 : w7.cell? ⟨W.heap.size, 0, none⟩ = some (.slice A0 acc.length k0) := by simp [World.cell?, hb7]
            have f7 : w7.frozen? ⟨W.heap.size, 0, none⟩ = false := by simp [World.frozen?, hb7]
            clear hb7 hR hB hg
            refine hK _ _ ?_
            clear hK K
            refine wpAny_ready (rs := [5]) (by kernel_rfl) (by simp) ?_
            refine AllReady.cons rfl (fun K hK => ?_) AllReady.nil
            go_simp
            refine hK _ _ ?_
            clear hK K
            refine wpAny_done (by kernel_rfl) ?_ _
            go_wp2
            go_roundw
            case rel => exact ⟨f, p', putS sn r.ai (p : Int), N + 1, acc ++ [⟨S r, x⟩], _, HA2, hp2, hN2, hac2, ⟨by repeat (first | exact PS.out | apply Ps.below PS.out | apply below_drew | apply pw_below_drewN | exact Below.refl _ _)⟩⟩
            case measure => exact MU.out _ PS.out.sc.cells.2.1
          refine AllReady.cons rfl (fun K hK => ?_) AllReady.nil
          go_simp
          refine hK _ _ ?_
          clear hK K
          refine wpAny_ready (rs := [0, 2]) (by kernel_rfl) (by simp) ?_
          refine AllReady.cons rfl (fun K hK => ?_) ?_
          · skip
            go_simp
            refine hK _ _ ?_
            clear hK K
            refine wpAny_ready (rs := [2]) (by kernel_rfl) (by simp) ?_
            refine AllReady.cons rfl (fun K hK => ?_) AllReady.nil
            go_simp
            refine (HE.out _ (by repeat (first | exact Below.refl _ _ | apply below_drew | apply pw_below_drewN | apply below_alloc))).mono ?_
            rintro e w6 ⟨rfl, h6⟩
            have H6 := Aside0.mk h6
            have c6 : w6.cell? ⟨W.heap.size, 0, none⟩ = some (.slice A0 acc.length k0) := by have z := h6.bl; simp [World.cell?, z]
            have c6' : (w6.alloc (.cells #[.string (S r), .string x] 23)).cell? ⟨W.heap.size, 0, none⟩ = some (.slice A0 acc.length k0) := by have z := (Below.heap_alloc w6 (.cells #[.string (S r), .string x] 23) _ (hlt h6.bl)).trans h6.bl; simp [World.cell?, z]
            clear h6
            refine hK _ _ ?_
            clear hK K
            refine wpAny_ready (rs := [3]) (by kernel_rfl) (by simp) ?_
            refine AllReady.cons rfl (fun K hK => ?_) AllReady.nil
            go_simp
            refine hK _ _ ?_
            clear hK K
            refine wpAny_ready (rs := [4]) (by kernel_rfl) (by simp) ?_
            refine AllReady.cons rfl (fun K hK => ?_) AllReady.nil
            refine Kd.R_append_step k23 (w0 := W) (W := w6) W.heap.size rfl (.tmp 22) (.tmp 25) 30 23 (.agg #[(.string ⟨#[]⟩), (.string ⟨#[]⟩)]) 32 rfl Tryd.underlying30 info23 rfl (by decide) (by omega) (.slice A0 acc.length k0) acc (⟨S r, x⟩ : S23) [.string (S r), .string x] (okP W z m) (fun _ => False) rfl rfl (k23_mkM _ _ _ (⟨S r, x⟩ : S23)) (fun _ hk => hk.elim) ?_ H6.out.rr H6.out.fr H6.out.fr.size (by have := HC.out; omega) ?_
            · exact fun k hk => ⟨by have := H6.out.sc.lt; omega, by have := H6.out.mp.lt; omega, by have := hlt H6.out.bp; omega⟩
            intro v1 w7 hR hB hg _
            obtain ⟨A1, k1, e1⟩ := Kd.R_slice hR
            rw [List.length_append, List.length_singleton] at e1
            subst e1
            have PS := Aside0.mk (H6.out.push hR hg hB)
            have hb7 : w7.heap[W.heap.size]? = some (.cells #[.slice A0 acc.length k0] 30 (0, 0)) := (hg.block _ (hlt H6.out.bl) (fun e => by have := (H6.out.rr.1 _ e.symm).2.2; omega)).trans H6.out.bl
            have c7 : w7.cell? ⟨W.heap.size, 0, none⟩ = some (.slice A0 acc.length k0) := by simp [World.cell?, hb7]
            have f7 : w7.frozen? ⟨W.heap.size, 0, none⟩ = false := by simp [World.frozen?, hb7]
            clear hb7 hR hB hg
            refine hK _ _ ?_
            clear hK K
            refine wpAny_ready (rs := [5]) (by kernel_rfl) (by simp) ?_
            refine AllReady.cons rfl (fun K hK => ?_) AllReady.nil
            go_simp
            refine hK _ _ ?_
            clear hK K
            refine wpAny_done (by kernel_rfl) ?_ _
            go_wp2
            go_roundw
            case rel => exact ⟨f, p', putS sn r.ai (p : Int), N + 1, acc ++ [⟨S r, x⟩], _, HA2, hp2, hN2, hac2, ⟨by repeat (first | exact PS.out | apply Ps.below PS.out | apply below_drew | apply pw_below_drewN | exact Below.refl _ _)⟩⟩
            case measure => exact MU.out _ PS.out.sc.cells.2.1
          refine AllReady.cons rfl (fun K hK => ?_) AllReady.nil
          go_simp
          refine (HE.out _ (by repeat (first | exact Below.refl _ _ | apply below_drew | apply pw_below_drewN | apply below_alloc))).mono ?_
          rintro e w6 ⟨rfl, h6⟩
          have H6 := Aside0.mk h6
          have c6 : w6.cell? ⟨W.heap.size, 0, none⟩ = some (.slice A0 acc.length k0) := by have z := h6.bl; simp [World.cell?, z]
          have c6' : (w6.alloc (.cells #[.string (S r), .string x] 23)).cell? ⟨W.heap.size, 0, none⟩ = some (.slice A0 acc.length k0) := by have z := (Below.heap_alloc w6 (.cells #[.string (S r), .string x] 23) _ (hlt h6.bl)).trans h6.bl; simp [World.cell?, z]
          clear h6
          refine hK _ _ ?_
          clear hK K
          refine wpAny_ready (rs := [0, 3]) (by kernel_rfl) (by simp) ?_
          refine AllReady.cons rfl (fun K hK => ?_) ?_
          · skip
            go_simp
            refine hK _ _ ?_
            clear hK K
            refine wpAny_ready (rs := [3]) (by kernel_rfl) (by simp) ?_
            refine AllReady.cons rfl (fun K hK => ?_) AllReady.nil
            go_simp
            refine hK _ _ ?_
            clear hK K
            refine wpAny_ready (rs := [4]) (by kernel_rfl) (by simp) ?_
            refine AllReady.cons rfl (fun K hK => ?_) AllReady.nil
            refine Kd.R_append_step k23 (w0 := W) (W := w6) W.heap.size rfl (.tmp 22) (.tmp 25) 30 23 (.agg #[(.string ⟨#[]⟩), (.string ⟨#[]⟩)]) 32 rfl Tryd.underlying30 info23 rfl (by decide) (by omega) (.slice A0 acc.length k0) acc (⟨S r, x⟩ : S23) [.string (S r), .string x] (okP W z m) (fun _ => False) rfl rfl (k23_mkM _ _ _ (⟨S r, x⟩ : S23)) (fun _ hk => hk.elim) ?_ H6.out.rr H6.out.fr H6.out.fr.size (by have := HC.out; omega) ?_
            · exact fun k hk => ⟨by have := H6.out.sc.lt; omega, by have := H6.out.mp.lt; omega, by have := hlt H6.out.bp; omega⟩
            intro v1 w7 hR hB hg _
            obtain ⟨A1, k1, e1⟩ := Kd.R_slice hR
            rw [List.length_append, List.length_singleton] at e1
            subst e1
            have PS := Aside0.mk (H6.out.push hR hg hB)
            have hb7 : w7.heap[W.heap.size]? = some (.cells #[.slice A0 acc.length k0] 30 (0, 0)) := (hg.block _ (hlt H6.out.bl) (fun e => by have := (H6.out.rr.1 _ e.symm).2.2; omega)).trans H6.out.bl
            have c7 : w7.cell? ⟨W.heap.size, 0, none⟩ = some (.slice A0 acc.length k0) := by simp [World.cell?, hb7]
            have f7 : w7.frozen? ⟨W.heap.size, 0, none⟩ = false := by simp [World.frozen?, hb7]
            clear hb7 hR hB hg
            refine hK _ _ ?_
            clear hK K
            refine wpAny_ready (rs := [5]) (by kernel_rfl) (by simp) ?_
            refine AllReady.cons rfl (fun K hK => ?_) AllReady.nil
            go_simp
            refine hK _ _ ?_
            clear hK K
            refine wpAny_done (by kernel_rfl) ?_ _
            go_wp2
            go_roundw
            case rel => exact ⟨f, p', putS sn r.ai (p : Int), N + 1, acc ++ [⟨S r, x⟩], _, HA2, hp2, hN2, hac2, ⟨by repeat (first | exact PS.out | apply Ps.below PS.out | apply below_drew | apply pw_below_drewN | exact Below.refl _ _)⟩⟩
            case measure => exact MU.out _ PS.out.sc.cells.2.1
          refine AllReady.cons rfl (fun K hK => ?_) AllReady.nil
          go_simp
          refine hK _ _ ?_
          clear hK K
          refine wpAny_ready (rs := [0]) (by kernel_rfl) (by simp) ?_
          refine AllReady.cons rfl (fun K hK => ?_) AllReady.nil
          go_simp
          refine hK _ _ ?_
          clear hK K
          refine wpAny_ready (rs := [4]) (by kernel_rfl) (by simp) ?_
          refine AllReady.cons rfl (fun K hK => ?_) AllReady.nil
          refine Kd.R_append_step k23 (w0 := W) (W := w6) W.heap.size rfl (.tmp 22) (.tmp 25) 30 23 (.agg #[(.string ⟨#[]⟩), (.string ⟨#[]⟩)]) 32 rfl Tryd.underlying30 info23 rfl (by decide) (by omega) (.slice A0 acc.length k0) acc (⟨S r, x⟩ : S23) [.string (S r), .string x] (okP W z m) (fun _ => False) rfl rfl (k23_mkM _ _ _ (⟨S r, x⟩ : S23)) (fun _ hk => hk.elim) ?_ H6.out.rr H6.out.fr H6.out.fr.size (by have := HC.out; omega) ?_
          · exact fun k hk => ⟨by have := H6.out.sc.lt; omega, by have := H6.out.mp.lt; omega, by have := hlt H6.out.bp; omega⟩
          intro v1 w7 hR hB hg _
          obtain ⟨A1, k1, e1⟩ := Kd.R_slice hR
          rw [List.length_append, List.length_singleton] at e1
          subst e1
          have PS := Aside0.mk (H6.out.push hR hg hB)
          have hb7 : w7.heap[W.heap.size]? = some (.cells #[.slice A0 acc.length k0] 30 (0, 0)) := (hg.block _ (hlt H6.out.bl) (fun e => by have := (H6.out.rr.1 _ e.symm).2.2; omega)).trans H6.out.bl
          have c7 : w7.cell? ⟨W.heap.size, 0, none⟩ = some (.slice A0 acc.length k0) := by simp [World.cell?, hb7]
          have f7 : w7.frozen? ⟨W.heap.size, 0, none⟩ = false := by simp [World.frozen?, hb7]
          clear hb7 hR hB hg
          refine hK _ _ ?_
          clear hK K
          refine wpAny_ready (rs := [5]) (by kernel_rfl) (by simp) ?_
          refine AllReady.cons rfl (fun K hK => ?_) AllReady.nil
          go_simp
          refine hK _ _ ?_
          clear hK K
          refine wpAny_done (by kernel_rfl) ?_ _
          go_wp2
          go_roundw
          case rel => exact ⟨f, p', putS sn r.ai (p : Int), N + 1, acc ++ [⟨S r, x⟩], _, HA2, hp2, hN2, hac2, ⟨by repeat (first | exact PS.out | apply Ps.below PS.out | apply below_drew | apply pw_below_drewN | exact Below.refl _ _)⟩⟩
          case measure => exact MU.out _ PS.out.sc.cells.2.1
      · rw [if_neg hlt9] at H
        have g2 : decide ((p : Int) < (t.size : Int)) = false := decide_eq_false (by omega)
        have g3 : decide (p < t.size) = false := decide_eq_false hlt9
        obtain ⟨lo, hlo⟩ : ∃ lo, loneOf sn = lo := ⟨_, rfl⟩
        have X := Aside0.mk (fun (w : World) (hb : Below wr.heap.size wr w) => lone_calls (HPs.out.below hb).mp)
        rw [hlo] at X H
        clear hlt9 hp hN hac ht HA hlo
        by_cases hl0 : 0 ≤ lo
        · rw [if_pos hl0] at H
          simp only [Option.some.injEq] at H
          subst H
          have g4 : decide (0 ≤ lo) = true := decide_eq_true hl0
          have Y := Aside0.mk (fun w => wrong_calls z 25 lo w)
          clear hl0
          go_wp2_with (first | (go_at_call 37; go_loud ((with_reducible refine (X.out _ (by repeat (first | exact Below.refl _ _ | apply below_drew | apply pw_below_drewN | apply below_alloc))).mono ?_); rintro e w6 ⟨rfl, hb6⟩; have P6 := Aside0.mk (HPs.out.below hb6); clear hb6)) | (go_at_call 38; go_loud ((with_reducible refine (Y.out _).mono ?_); rintro e w8 ⟨rfl, rfl⟩)))
          refine doorG _ W.heap.size (.slice A0 acc.length k0) 25 lo _ rfl rfl rfl P6.out.bl P6.out.be P6.out.bp (fun w' hb => ⟨_, rfl, Kd.R_nil k23 23 _ _ _, P6.out.fr.trans (hb _ (Nat.le_refl _))⟩)
        · rw [if_neg hl0] at H
          simp only [Option.some.injEq] at H
          subst H
          have g4 : decide (0 ≤ lo) = false := decide_eq_false hl0
          clear hl0
          go_wp2_with (go_at_call 37; go_loud ((with_reducible refine (X.out _ (by repeat (first | exact Below.refl _ _ | apply below_drew | apply pw_below_drewN | apply below_alloc))).mono ?_); rintro e w6 ⟨rfl, hb6⟩; have P6 := Aside0.mk (HPs.out.below hb6); have e0 : w6.cell? ⟨W.heap.size, 0, none⟩ = some (.slice A0 acc.length k0) := (by have z := P6.out.bl; simp [World.cell?, z]); have e1 : w6.cell? ⟨W.heap.size + 1, 0, none⟩ = some (.int .i64 0) := (by have z := P6.out.be; simp [World.cell?, z]); have e2 : w6.cell? ⟨W.heap.size + 1 + 1, 0, none⟩ = some (.int .i64 0) := (by have z := P6.out.bp; simp [World.cell?, z]); have f0 : w6.frozen? ⟨W.heap.size, 0, none⟩ = false := (by have z := P6.out.bl; simp [World.frozen?, z]); have f1 : w6.frozen? ⟨W.heap.size + 1, 0, none⟩ = false := (by have z := P6.out.be; simp [World.frozen?, z]); have f2 : w6.frozen? ⟨W.heap.size + 1 + 1, 0, none⟩ = false := (by have z := P6.out.bp; simp [World.frozen?, z]); clear hb6))
          have P6' := P6.out
          have b0 := fin_set (o := 0) (v := (.slice A0 acc.length k0)) P6'.bl
          have s0 : ∀ i, i ≠ W.heap.size → (w6.setCell ⟨W.heap.size, 0, none⟩ (.slice A0 acc.length k0)).heap[i]? = w6.heap[i]? := fun i hi => Below.heap_setCell w6 _ (.slice A0 acc.length k0) i hi
          have s1 : ∀ i, i ≠ W.heap.size + 1 → ((w6.setCell ⟨W.heap.size, 0, none⟩ (.slice A0 acc.length k0)).setCell ⟨W.heap.size + 1, 0, none⟩ (.int .i64 0)).heap[i]? = (w6.setCell ⟨W.heap.size, 0, none⟩ (.slice A0 acc.length k0)).heap[i]? := fun i hi => Below.heap_setCell _ _ _ i hi
          have s2 : ∀ i, i ≠ W.heap.size + 2 → (((w6.setCell ⟨W.heap.size, 0, none⟩ (.slice A0 acc.length k0)).setCell ⟨W.heap.size + 1, 0, none⟩ (.int .i64 0)).setCell ⟨W.heap.size + 2, 0, none⟩ (.int .i64 0)).heap[i]? = ((w6.setCell ⟨W.heap.size, 0, none⟩ (.slice A0 acc.length k0)).setCell ⟨W.heap.size + 1, 0, none⟩ (.int .i64 0)).heap[i]? := fun i hi => Below.heap_setCell _ _ _ i hi
          refine doorN _ (by first | exact .inl rfl | exact .inr rfl) _ W.heap.size (.slice A0 acc.length k0) _ rfl rfl rfl ((s2 _ (by omega)).trans ((s1 _ (by omega)).trans b0)) ((s2 _ (by omega)).trans (fin_set ((s0 _ (by omega)).trans P6'.be))) (fin_set ((s1 _ (by omega)).trans ((s0 _ (by omega)).trans P6'.bp))) ⟨_, rfl, ?_, ?_⟩
          · refine Kd.R_mono (Kd.R_far (Kd.R_far (Kd.R_far P6'.rr (fun k hk => by have := hk.2.2; show k ≠ W.heap.size; omega) _) (fun k hk => by have := hk.2.2; show k ≠ W.heap.size + 1; omega) _) (fun k hk => by have := hk.2.2; show k ≠ W.heap.size + 2; omega) _) (fun _ _ => trivial)
          · exact ((P6'.fr.setCell (Nat.le_refl _) _).setCell (show W.heap.size ≤ W.heap.size + 1 by omega) _).setCell (show W.heap.size ≤ W.heap.size + 2 by omega) _
end Go.Proofs.YtofagdjijpjlgaaDoor.X
set_option linter.unusedVariables false
set_option linter.unusedSimpArgs false
namespace Go.Proofs.YtofagdjijpjlgaaDoor.X
open Go Go.RowKit Go.Proofs.YtofagdjijpjlgaaDoorW.PrintWords Go.Proofs.YtofagdjijpjlgaaDoorW.PrintLast Go.Proofs.YtofagdjijpjlgaaDoorW.PrintMore Go.Proofs.YtofagdjijpjlgaaDoor.PBase Go.Proofs.YtofagdjijpjlgaaDoor.PElem
variable {W w w' w1 u : World} {t : ByteArray}
set_option maxHeartbeats 4000000
set_option maxRecDepth 100000
theorem parse_long (ht : 512 < t.size) : Calls Tryd.prog 16 #[.string t] W fun e W' => e = .returned (.tuple #[.slice none 0 0, .int .i64 1, .int .i64 0]) ∧ Below W.heap.size W W' := by
  have g0 : decide ((512 : Int) < (t.size : Int)) = true := decide_eq_true (by omega)
  have g1 : decide (512 < t.size) = true := decide_eq_true ht
  clear ht
  have b0 : (((W.alloc (.cells #[.slice none 0 0] 30)).alloc (.cells #[.int .i64 0] 31)).alloc (.cells #[.int .i64 0] 3)).heap[W.heap.size]? = some (.cells #[.slice none 0 0] 30 (0, 0)) := by
    rw [Below.heap_alloc _ _ _ (by simp only [World.size_alloc]; omega), Below.heap_alloc _ _ _ (by simp)]
    exact heap_alloc_new W _
  have b1 : (((W.alloc (.cells #[.slice none 0 0] 30)).alloc (.cells #[.int .i64 0] 31)).alloc (.cells #[.int .i64 0] 3)).heap[W.heap.size + 1]? = some (.cells #[.int .i64 0] 31 (0, 0)) := by
    rw [Below.heap_alloc _ _ _ (by simp)]
    have z := heap_alloc_new (W.alloc (.cells #[.slice none 0 0] 30)) (.cells #[.int .i64 0] 31)
    rw [World.size_alloc] at z
    exact z
  have b2 : (((W.alloc (.cells #[.slice none 0 0] 30)).alloc (.cells #[.int .i64 0] 31)).alloc (.cells #[.int .i64 0] 3)).heap[W.heap.size + 2]? = some (.cells #[.int .i64 0] 3 (0, 0)) := by
    have z := heap_alloc_new ((W.alloc (.cells #[.slice none 0 0] 30)).alloc (.cells #[.int .i64 0] 31)) (.cells #[.int .i64 0] 3)
    rw [World.size_alloc, World.size_alloc] at z
    exact z
  obtain ⟨w3, hw3⟩ : ∃ w3, ((W.alloc (.cells #[.slice none 0 0] 30)).alloc (.cells #[.int .i64 0] 31)).alloc (.cells #[.int .i64 0] 3) = w3 := ⟨_, rfl⟩
  have hb3 : Below W.heap.size W w3 := by rw [← hw3]; exact (((Below.refl _ W).alloc (Nat.le_refl _) _).alloc (by simp) _).alloc (by simp only [World.size_alloc]; omega) _
  rw [hw3] at b0 b1 b2
  have HB := Aside0.mk hb3
  have e0 : (((w3.setCell ⟨W.heap.size, 0, none⟩ (.slice none 0 0)).setCell ⟨W.heap.size + 1, 0, none⟩ (.int .i64 1)).setCell ⟨W.heap.size + 1 + 1, 0, none⟩ (.int .i64 0)).heap[W.heap.size]? = some (.cells #[.slice none 0 0] 30 (0, 0)) :=
    (Below.heap_setCell _ _ _ _ (by show W.heap.size ≠ W.heap.size + 1 + 1; omega)).trans ((Below.heap_setCell _ _ _ _ (by show W.heap.size ≠ W.heap.size + 1; omega)).trans (fin_set b0))
  have e1 : (((w3.setCell ⟨W.heap.size, 0, none⟩ (.slice none 0 0)).setCell ⟨W.heap.size + 1, 0, none⟩ (.int .i64 1)).setCell ⟨W.heap.size + 1 + 1, 0, none⟩ (.int .i64 0)).heap[W.heap.size + 1]? = some (.cells #[.int .i64 1] 31 (0, 0)) :=
    (Below.heap_setCell _ _ _ _ (by show W.heap.size + 1 ≠ W.heap.size + 1 + 1; omega)).trans (fin_set ((Below.heap_setCell _ _ _ _ (by show W.heap.size + 1 ≠ W.heap.size; omega)).trans b1))
  have e2 : (((w3.setCell ⟨W.heap.size, 0, none⟩ (.slice none 0 0)).setCell ⟨W.heap.size + 1, 0, none⟩ (.int .i64 1)).setCell ⟨W.heap.size + 1 + 1, 0, none⟩ (.int .i64 0)).heap[W.heap.size + 1 + 1]? = some (.cells #[.int .i64 0] 3 (0, 0)) :=
    fin_set ((Below.heap_setCell _ _ _ _ (by show W.heap.size + 2 ≠ W.heap.size + 1; omega)).trans ((Below.heap_setCell _ _ _ _ (by show W.heap.size + 2 ≠ W.heap.size; omega)).trans b2))
  have k0 : (((w3.setCell ⟨W.heap.size, 0, none⟩ (.slice none 0 0)).setCell ⟨W.heap.size + 1, 0, none⟩ (.int .i64 1)).setCell ⟨W.heap.size + 1 + 1, 0, none⟩ (.int .i64 0)).cell? ⟨W.heap.size, 0, none⟩ = some (.slice none 0 0) := by simp [World.cell?, e0]
  have k1 : (((w3.setCell ⟨W.heap.size, 0, none⟩ (.slice none 0 0)).setCell ⟨W.heap.size + 1, 0, none⟩ (.int .i64 1)).setCell ⟨W.heap.size + 1 + 1, 0, none⟩ (.int .i64 0)).cell? ⟨W.heap.size + 1, 0, none⟩ = some (.int .i64 1) := by simp [World.cell?, e1]
  have k2 : (((w3.setCell ⟨W.heap.size, 0, none⟩ (.slice none 0 0)).setCell ⟨W.heap.size + 1, 0, none⟩ (.int .i64 1)).setCell ⟨W.heap.size + 1 + 1, 0, none⟩ (.int .i64 0)).cell? ⟨W.heap.size + 1 + 1, 0, none⟩ = some (.int .i64 0) := by simp [World.cell?, e2]
  have f0 : w3.frozen? ⟨W.heap.size, 0, none⟩ = false := by simp [World.frozen?, b0]
  have f1 : w3.frozen? ⟨W.heap.size + 1, 0, none⟩ = false := by simp [World.frozen?, b1]
  have f2 : w3.frozen? ⟨W.heap.size + 1 + 1, 0, none⟩ = false := by have z : w3.heap[W.heap.size + 1 + 1]? = _ := b2; simp [World.frozen?, z]
  have c0 : w3.cell? ⟨W.heap.size, 0, none⟩ = some (.slice none 0 0) := by simp [World.cell?, b0]
  have c1 : w3.cell? ⟨W.heap.size + 1, 0, none⟩ = some (.int .i64 0) := by simp [World.cell?, b1]
  have c2 : w3.cell? ⟨W.heap.size + 1 + 1, 0, none⟩ = some (.int .i64 0) := by have z : w3.heap[W.heap.size + 1 + 1]? = _ := b2; simp [World.cell?, z]
  have HK := Aside0.mk (And.intro k0 (And.intro k1 k2))
  clear b0 b1 b2 hb3 e0 e1 e2 k0 k1 k2
  go_enter_defers Tryd.func16, Tryd.ntmps16
  go_wp2
  obtain ⟨k0, k1, k2⟩ := HK.out
  refine ⟨.tuple #[.slice none 0 0, .int .i64 1, .int .i64 0], by simp [results, Tryd.results16, go_sem, k0, k1, k2], rfl, ?_⟩
  exact ((HB.out.setCell (Nat.le_refl _) _).setCell (show W.heap.size ≤ W.heap.size + 1 by omega) _).setCell (show W.heap.size ≤ W.heap.size + 1 + 1 by omega) _
def gtin_ParseG.f (a0 : ByteArray) : Option (List S23 × Int × Int) := if 512 < a0.size then some ([], 1, 0) else (paL a0 (a0.size + 1) 0 [] []).map tri
theorem gtin_ParseG.calls (a0 : ByteArray) (r1 : List S23) (r2 r3 : Int) (w : World) (HT_ : Aside0 (Tab w)) (h : gtin_ParseG.f a0 = some (r1, r2, r3)) :
    Calls Tryd.prog 16 #[.string a0] w fun e w' => ∃ v0_ : Value, e = .returned (.tuple #[v0_, .int .i64 r2, .int .i64 r3]) ∧ Kd.R k23 23 w' w.heap.size (fun _ => True) v0_ r1 ∧ Below w.heap.size w w' := by
  unfold gtin_ParseG.f at h
  by_cases ht : 512 < a0.size
  · rw [if_pos ht] at h
    simp only [Option.some.injEq, Prod.mk.injEq] at h
    obtain ⟨rfl, rfl, rfl⟩ := h
    exact (parse_long ht).mono (by rintro e w' ⟨rfl, hb⟩; exact ⟨_, rfl, Kd.R_nil k23 23 _ _ _, hb⟩)
  · rw [if_neg ht] at h
    cases hp : paL a0 (a0.size + 1) 0 [] [] with
    | none => rw [hp] at h; cases h
    | some res =>
      rw [hp] at h
      simp only [Option.map_some, Option.some.injEq] at h
      have hw := parse_walk HT_ (by omega) res hp
      rw [h] at hw
      exact hw
end Go.Proofs.YtofagdjijpjlgaaDoor.X
