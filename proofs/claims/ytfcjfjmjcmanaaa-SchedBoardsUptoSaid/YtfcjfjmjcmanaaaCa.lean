/- Books: lists that were answered, each in a row of its own. -/
import Derived.Test.YtfcjfjmjcmanaaaBm
set_option linter.unusedVariables false
namespace Go.Proofs.Ytfcjfjmjcmanaaa.B
open Go Go.RowKit Go.Proofs.YtfcjfjmjcmanaaaW.PrintWords Go.Proofs.YtfcjfjmjcmanaaaW.PrintLast Go.Proofs.YtfcjfjmjcmanaaaW.PrintMore
/-- A slice of numbers of one's own; it may be empty and not nil. -/
def SlB (W : World) (T : Nat → Prop) (v : Value) (L : List Int) : Prop :=
  (v = .slice none 0 0 ∧ L = []) ∨ ∃ j off cap cur, v = .slice (some ⟨j, off, none⟩) L.length cap ∧ T j ∧ L.length ≤ cap ∧ cap ≤ maxLen ∧ off + cap ≤ cur.size ∧ W.heap[j]? = some (.cells cur 3 (0, 0)) ∧ ∀ i x, L[i]? = some x → cur[off + i]? = some (.int .i64 x)
variable {W W' : World} {T T' : Nat → Prop} {v m : Value} {L L0 : List Int}
theorem Sl.toB (h : Sl W T v L) : SlB W T v L := by
  rcases h with h | ⟨j, off, cap, cur, e, h1, _, h2, h3, h4, h5, h6⟩
  · exact .inl h
  · exact .inr ⟨j, off, cap, cur, e, h1, h2, h3, h4, h5, h6⟩
theorem SlB.mono (h : SlB W T v L) (hT : ∀ j, v.ownBlock = some j → T j → T' j) : SlB W T' v L := by
  rcases h with h | ⟨j, off, cap, cur, rfl, h1, r⟩
  · exact .inl h
  · exact .inr ⟨j, off, cap, cur, rfl, hT j rfl h1, r⟩
theorem SlB.kept (h : SlB W T v L) (hk : ∀ j, v.ownBlock = some j → W'.heap[j]? = W.heap[j]?) : SlB W' T v L := by
  rcases h with h | ⟨j, off, cap, cur, rfl, h1, h3, h4, h5, h6, h7⟩
  · exact .inl h
  · exact .inr ⟨j, off, cap, cur, rfl, h1, h3, h4, h5, (hk j rfl).trans h6, h7⟩
theorem SlB.own (h : SlB W T v L) {j : Nat} (hj : v.ownBlock = some j) : T j ∧ j < W.heap.size := by
  rcases h with ⟨rfl, _⟩ | ⟨j', off, cap, cur, rfl, h1, h3, h4, h5, h6, h7⟩
  · simp [Value.ownBlock] at hj
  · simp [Value.ownBlock] at hj
    subst hj
    exact ⟨h1, (Array.getElem?_eq_some_iff.1 h6).1⟩
theorem SlB.C (h : SlB W T v L) : ∃ A c, v = .slice A L.length c ∧ L.length ≤ c ∧ c ≤ maxLen ∧ Kd.C (Kd.int .i64) W A L.length L := by
  rcases h with ⟨rfl, rfl⟩ | ⟨j, off, cap, cur, rfl, h1, h3, h4, h5, h6, h7⟩
  · exact ⟨none, 0, rfl, Nat.le_refl _, Nat.zero_le _, Kd.C_nil _ _⟩
  · refine ⟨some ⟨j, off, none⟩, cap, rfl, h3, h4, Kd.C_of_reads (d := (0 : Int)) (h1 := fun _ => rfl) ⟨rfl, Nat.le_trans h3 h4, fun _ => ⟨_, rfl, fun i hi => ?_⟩⟩⟩
    rw [Addr.add_lit, cell_of_row W j _ cur 3 (0, 0) h6, h7 i (L.getD i 0) (by rw [List.getD_eq_getElem?_getD, List.getElem?_eq_getElem hi]; rfl)]
theorem SlB.slice (h : SlB W T v L) : ∃ A c, v = .slice A L.length c := by obtain ⟨A, c, e, _⟩ := h.C; exact ⟨A, c, e⟩
theorem SlB.cell {A : Option Addr} {n c : Nat} (h : SlB W T (.slice A n c) L) (k : Int) (h0 : 0 ≤ k) (h1 : k < (L.length : Int)) : ∃ ad, A = some ad ∧ W.cell? (ad.add k.toNat) = some (.int .i64 (rd L k)) := by
  obtain ⟨A', c', e, _, _, hC⟩ := h.C
  have eA : A = A' := by injection e
  subst eA
  exact Kd.at_int hC k h0 h1
/-- A number is written. -/
theorem SlB.set {ad : Addr} {n c : Nat} (h : SlB W T (.slice (some ad) n c) L) (k : Nat) (hk : k < L.length) (x : Int) :
    W.frozen? (ad.add k) = false ∧ SlB (W.setCell (ad.add k) (.int .i64 x)) T (.slice (some ad) n c) (L.set k x) ∧ W.grownBy (W.setCell (ad.add k) (.int .i64 x)) (some ad.block) := by
  rcases h with ⟨e, rfl⟩ | ⟨j, off, cap, cur, e, h1, h3, h4, h5, h6, h7⟩
  · simp at hk
  · simp only [Value.slice.injEq, Option.some.injEq] at e
    obtain ⟨rfl, rfl, rfl⟩ := e
    rw [Addr.add_lit]
    refine ⟨by simp [World.frozen?, h6], .inr ⟨j, off, c, _, by simp, h1, by simpa using h3, h4, by simpa using h5, row_set h6, fun i y hi => ?_⟩, ⟨rfl, rfl, rfl, by simp, fun i hi hn => Below.heap_setCell W _ _ i (fun e => hn (by rw [e]))⟩⟩
    rw [Array.getElem?_setIfInBounds]
    by_cases e : k = i
    · subst e
      rw [List.getElem?_set_self hk] at hi
      cases hi
      rw [if_pos rfl, if_pos (by omega)]
    · rw [List.getElem?_set_ne e] at hi
      rw [if_neg (by omega)]
      exact h7 i y hi
/-- v is a beginning of m, or lies apart from it. -/
def Pre (v m : Value) : Prop := (∀ j, v.ownBlock = some j → m.ownBlock ≠ some j) ∨ ∃ a n n' c, v = .slice (some a) n c ∧ m = .slice (some a) n' c ∧ n ≤ n'
theorem Pre.refl (W : World) (h : SlB W T v L) : Pre v v := by
  rcases h with ⟨rfl, _⟩ | ⟨j, off, cap, cur, rfl, r⟩
  · exact .inl (fun j hj => by simp [Value.ownBlock] at hj)
  · exact .inr ⟨_, _, _, _, rfl, rfl, Nat.le_refl _⟩
/-- One number more; what is a beginning stays as it was. -/
theorem SlB.append (h : SlB W T m L) {a : Addr} {c : Nat} {x : Int} (hx : W.cell? a = some (.int .i64 x)) (hl : L.length + 1 ≤ 4398046511104) (ty : TypeId) (hv : SlB W T v L0) (hp : Pre v m) :
    ∃ m' W', (Builtin.append_ #[26, 26] ty #[m, .slice (some a) 1 c]).run Try.prog W = .ok m' W' ∧ SlB W' (fun j => T j ∨ W.heap.size ≤ j) m' (L ++ [x]) ∧ W.grownBy W' m.ownBlock ∧ (m'.ownBlock = m.ownBlock ∨ ∃ j, m'.ownBlock = some j ∧ W.heap.size ≤ j) ∧ SlB W' T v L0 ∧ Pre v m' := by
  obtain ⟨i0, hi0, hz0, hz1, hz2⟩ := info_parts info3'
  have hn : ∀ j u, ([Value.int .i64 x] : List Value)[j]? = some u → W.cell? (a.add j) = some u := fun j u hj => by
    match j, hj with
    | 0, hj => cases hj; rw [show a.add 0 = a by cases a; simp [Addr.add]]; exact hx
  have hml : (4398046511104 : Nat) ≤ maxLen := by unfold maxLen; omega
  -- a new row
  have new : ∀ (m' : Value) (W' : World), W'.ownsRow W.heap.size 3 1 m' (L.length + 1) (L.map (Value.int .i64) ++ [.int .i64 x]) → W.grownBy W' none →
      SlB W' (fun j => T j ∨ W.heap.size ≤ j) m' (L ++ [x]) ∧ W.grownBy W' m.ownBlock ∧ (m'.ownBlock = m.ownBlock ∨ ∃ j, m'.ownBlock = some j ∧ W.heap.size ≤ j) ∧ SlB W' T v L0 ∧ Pre v m' := fun m' W' ho hg => by
    have hge : ∀ k, m'.ownBlock = some k → W.heap.size ≤ k := fun k hk => (ho.lt k hk).1
    have hs : Sl W' (fun j => T j ∨ W.heap.size ≤ j) m' (L ++ [x]) := Sl.of_row (ho' ho) (by simp) (fun k hk => .inr (hge k hk))
    refine ⟨hs.toB, ⟨hg.os, hg.tape, hg.output, hg.size, fun k hk _ => hg.block k hk (by simp)⟩, .inr ?_, hv.kept (fun j hj => hg.block j (hv.own hj).2 (by simp)), .inl (fun j hj e => by have := (hv.own hj).2; have := hge j e; omega)⟩
    obtain ⟨_, h0 | ⟨k, _, _, rfl, hk, _⟩⟩ := ho
    · omega
    · exact ⟨k, rfl, hk⟩
  rcases h with ⟨rfl, rfl⟩ | ⟨j, off, cap, cur, rfl, h1, h3, h4, h5, h6, h7⟩
  · obtain ⟨m', W', hr, ho, hg, _, hat⟩ := run_append_own_at (P := Try.prog) W W.heap.size 26 ty 3 i0 (.int .i64 0) 1 8 Try.underlying26 hi0 hz0 hz1 hz2 rfl (by omega) (.slice none 0 0) 0 [] (World.ownsRow_nil _ _ _ _) a 1 c [.int .i64 x] rfl hn (by simp [Value.oneCell']) (by omega) (by omega) (Nat.le_refl _)
    exact ⟨m', W', hr, new m' W' (by simpa using ho) hg⟩
  · by_cases hroom : L.length + 1 ≤ cap
    · have hlt : off + L.length < cur.size := by omega
      have hr := run_append_room_cells (P := Try.prog) W 26 ty 3 i0 Try.underlying26 hi0 j off L.length cap a 1 c [.int .i64 x] (by rw [hz1]; rfl) hn (by simp [Value.oneCell']) hroom
        (fun k hk => by simp at hk; subst hk; rw [hz1, cell_of_row W j _ cur 3 (0, 0) h6]; simp; omega) (fun k hk => by simp [World.frozen?, h6])
      rw [hz1, Nat.mul_one] at hr
      have hg : W.grownBy (W.setCells j (off + L.length) [.int .i64 x]) (some j) := ⟨rfl, rfl, rfl, by simp [World.setCells], fun k hk hn => Below.heap_setCell W _ _ k (fun e => hn (by rw [e]))⟩
      refine ⟨_, _, hr, .inr ⟨j, off, cap, cur.setIfInBounds (off + L.length) (.int .i64 x), by simp, .inl h1, by simpa using hroom, h4, by simpa using h5, row_set h6, fun k y hk => ?_⟩, hg, .inl rfl, ?_, ?_⟩
      · rw [Array.getElem?_setIfInBounds]
        by_cases e : L.length = k
        · subst e
          rw [List.getElem?_append_right (Nat.le_refl _)] at hk
          simp at hk
          rw [if_pos rfl, if_pos hlt, hk]
        · rw [if_neg (by omega)]
          have hkl : k < L.length := by
            have := (List.getElem?_eq_some_iff.1 hk).1
            simp at this; omega
          rw [List.getElem?_append_left hkl] at hk
          exact h7 k y hk
      · rcases hp with hp | ⟨a', n, n', c', e1, e2, hle⟩
        · exact hv.kept (fun k hk => hg.block k (hv.own hk).2 (fun e => by cases e; exact hp j hk rfl))
        · simp only [Value.slice.injEq, Option.some.injEq] at e2
          obtain ⟨rfl, rfl, rfl⟩ := e2
          rcases hv with ⟨rfl, rfl⟩ | ⟨j', off', cap', cur', e3, g1, g3, g4, g5, g6, g7⟩
          · exact .inl ⟨rfl, rfl⟩
          · rw [e1] at e3
            simp only [Value.slice.injEq, Option.some.injEq, Addr.mk.injEq] at e3
            obtain ⟨⟨rfl, rfl, _⟩, rfl, rfl⟩ := e3
            rw [h6] at g6
            cases g6
            refine .inr ⟨j, off, cap, _, e1, g1, g3, g4, by simpa using g5, row_set h6, fun k y hk => ?_⟩
            have := (List.getElem?_eq_some_iff.1 hk).1
            rw [Array.getElem?_setIfInBounds, if_neg (by omega)]
            exact g7 k y hk
      · rcases hp with hp | ⟨a', n, n', c', e1, e2, hle⟩
        · exact .inl hp
        · simp only [Value.slice.injEq, Option.some.injEq] at e2
          obtain ⟨rfl, rfl, rfl⟩ := e2
          exact .inr ⟨_, n, _, _, e1, rfl, by omega⟩
    · have holds : ∀ k u, (L.map (Value.int .i64))[k]? = some u → W.cell? ((⟨j, off, none⟩ : Addr).add k) = some u := fun k u hk => by
        rw [List.getElem?_map] at hk
        obtain ⟨y, hy, rfl⟩ := Option.map_eq_some_iff.1 hk
        rw [Addr.add_lit, cell_of_row W j _ cur 3 (0, 0) h6]
        exact h7 k y hy
      obtain ⟨m', W', hr, ho, hg⟩ := run_append_arg_grows (P := Try.prog) W 26 ty 3 i0 (.int .i64 0) 1 8 Try.underlying26 hi0 hz0 hz1 hz2 rfl (by omega) ⟨j, off, none⟩ L.length cap (L.map (Value.int .i64)) (by simp) holds a 1 c [.int .i64 x] rfl hn (by omega) (by omega) (by omega)
      exact ⟨m', W', hr, new m' W' ho hg⟩
/-! ### rows of slices -/
def RowV (W : World) (T : Nat → Prop) (v : Value) (vs : List Value) : Prop := W.ownsRow 0 26 1 v vs.length vs ∧ ∀ j, v.ownBlock = some j → T j
theorem RowV.nil (W : World) (T : Nat → Prop) : RowV W T nilv [] := ⟨World.ownsRow_nil _ _ _ _, fun j hj => by simp [nilv, Value.ownBlock] at hj⟩
theorem RowV.kept {vs : List Value} (h : RowV W T v vs) (hk : ∀ j, v.ownBlock = some j → W'.heap[j]? = W.heap[j]?) : RowV W' T v vs := by
  obtain ⟨⟨h1, h2⟩, h3⟩ := h
  refine ⟨⟨h1, ?_⟩, h3⟩
  rcases h2 with h2 | ⟨g, cap, cur, rfl, hb, hg, r⟩
  · exact .inl h2
  · exact .inr ⟨g, cap, cur, rfl, hb, (hk g rfl).trans hg, r⟩
theorem RowV.mono {vs : List Value} (h : RowV W T v vs) (hT : ∀ j, v.ownBlock = some j → T j → T' j) : RowV W T' v vs := ⟨h.1, fun j hj => hT j hj (h.2 j hj)⟩
theorem RowV.lt {vs : List Value} (h : RowV W T v vs) {j : Nat} (hj : v.ownBlock = some j) : T j ∧ j < W.heap.size := ⟨h.2 j hj, (h.1.lt j hj).2⟩
theorem RowV.slice {vs : List Value} (h : RowV W T v vs) : ∃ A c, v = .slice A vs.length c ∧ (0 < vs.length → ∃ j, A = some ⟨j, 0, none⟩) ∧ vs.length ≤ maxLen := by
  rcases h.1.2 with ⟨rfl, h0⟩ | ⟨g, cap, cur, rfl, _, _, h3, h4, _⟩
  · exact ⟨none, 0, by rw [h0], fun h => by omega, by omega⟩
  · exact ⟨_, cap, rfl, fun _ => ⟨g, rfl⟩, by omega⟩
theorem RowV.cell {vs : List Value} {A : Option Addr} {n c : Nat} (h : RowV W T (.slice A n c) vs) (i : Nat) {u : Value} (hu : vs[i]? = some u) : ∃ j, A = some ⟨j, 0, none⟩ ∧ W.cell? ⟨j, i, none⟩ = some u := by
  have hi := (List.getElem?_eq_some_iff.1 hu).1
  obtain ⟨A', c', e, hA, _⟩ := h.slice
  obtain ⟨j, e2⟩ := hA (by omega)
  have eA : A = A' := by injection e
  subst eA e2
  refine ⟨j, rfl, ?_⟩
  have := h.1.cells (g := j) (by simp [Value.ownBlock]) i u hu
  rwa [add_plain] at this
theorem info26' : (Try.prog.info? 26).map (fun i => (i.zero, i.size, i.bytes)) = some (some (.slice none 0 0), 1, 24) := by kernel_rfl
theorem RowV.append {vs : List Value} (h : RowV W T v vs) {a : Addr} {c : Nat} {u : Value} (hx : W.cell? a = some u) (h1 : u.oneCell' = true) (hl : vs.length + 1 ≤ 4398046511104) (ty : TypeId) :
    ∃ v' W', (Builtin.append_ #[37, 37] ty #[v, .slice (some a) 1 c]).run Try.prog W = .ok v' W' ∧ RowV W' (fun j => T j ∨ W.heap.size ≤ j) v' (vs ++ [u]) ∧ W.grownBy W' v.ownBlock ∧ (v'.ownBlock = v.ownBlock ∨ v'.ownBlock = some W.heap.size) := by
  obtain ⟨i0, hi0, hz0, hz1, hz2⟩ := info_parts info26'
  have hn : ∀ j z, ([u] : List Value)[j]? = some z → W.cell? (a.add j) = some z := fun j z hj => by
    match j, hj with
    | 0, hj => cases hj; rw [show a.add 0 = a by cases a; simp [Addr.add]]; exact hx
  have hml : (4398046511104 : Nat) ≤ maxLen := by unfold maxLen; omega
  obtain ⟨v', W', hr, ho, hg, _, hat⟩ := run_append_own_at (P := Try.prog) W 0 37 ty 26 i0 (.slice none 0 0) 1 24 Try.underlying37 hi0 hz0 hz1 hz2 rfl (by omega) v vs.length vs h.1 a 1 c [u] rfl hn (by simpa using h1) (by omega) (by omega) (Nat.zero_le _)
  refine ⟨v', W', hr, ⟨by simpa using ho, fun j hj => ?_⟩, hg, hat⟩
  rcases hat with e | e
  · rw [e] at hj; exact .inl (h.2 j hj)
  · rw [e] at hj; cases hj; exact .inr (Nat.le_refl _)
end Go.Proofs.Ytfcjfjmjcmanaaa.B
