/- Books: Ints: one list more. -/
import Derived.Test.YtfcjfjmjcmanaaaCe
import Derived.Deep.AppendSrc
set_option linter.unusedVariables false
namespace Go.Proofs.Ytfcjfjmjcmanaaa.B
open Go Go.RowKit Go.Proofs.YtfcjfjmjcmanaaaW.PrintWords Go.Proofs.YtfcjfjmjcmanaaaW.PrintLast Go.Proofs.YtfcjfjmjcmanaaaW.PrintMore
variable {W W' : World} {T Tv T4 T5 : Nat → Prop} {b : Nat} {v v4 v5 : Value} {vs us : List Value} {L : List Int} {Ls : List (List Int)}
theorem Lists.nil (W : World) (T : Nat → Prop) : Lists W T nilv [] [] := ⟨RowV.nil _ _, rfl, by simp, by simp, by simp, by simp, by simp⟩
theorem BkAt.new (W : World) : BkAt (W.alloc (.cells #[.slice none 0 0, .slice none 0 0, .slice none 0 0, .slice none 0 0, .slice none 0 0, .slice none 0 0, .slice none 0 0, .slice none 0 0, .slice none 0 0, .slice none 0 0, .slice none 0 0, .slice none 0 0, .slice none 0 0, .slice none 0 0] 42)) (fun _ => False) (fun _ => False) W.heap.size nilv nilv [] [] [] :=
  ⟨World.alloc_heap_new W _, Lists.nil _ _, Lists.nil _ _, fun _ h => h.elim, fun h => h, fun h => h, fun i h => h.elim False.elim False.elim⟩
theorem get_snoc {α : Type} {l : List α} {a x : α} {k : Nat} (hk : (l ++ [a])[k]? = some x) : (l[k]? = some x ∧ k < l.length) ∨ (k = l.length ∧ x = a) := by
  by_cases hlt : k < l.length
  · rw [List.getElem?_append_left hlt] at hk
    exact .inl ⟨hk, hlt⟩
  · rw [List.getElem?_append_right (by omega)] at hk
    have h0 : k - l.length = 0 := by
      have := (List.getElem?_eq_some_iff.1 hk).1
      simp at this; omega
    rw [h0] at hk
    simp at hk
    exact .inr ⟨by omega, hk.symm⟩
/-- One list more in the row. -/
theorem Lists.push (h : Lists W T v4 vs Ls) (hv : SlB W Tv v L) (hap : ∀ j, v.ownBlock = some j → ¬ T j) (hL : L.length + 10 ≤ 4398046511104) (hn : vs.length + 11 ≤ 4398046511104) {a : Addr} {c : Nat} (hx : W.cell? a = some v) (ty : TypeId) :
    ∃ v4' W', (Builtin.append_ #[37, 37] ty #[v4, .slice (some a) 1 c]).run Try.prog W = .ok v4' W' ∧ Lists W' (fun j => T j ∨ v.ownBlock = some j ∨ j = W.heap.size ∧ j < W'.heap.size) v4' (vs ++ [v]) (Ls ++ [L]) ∧ Turn T W W' ∧ W.heap.size ≤ W'.heap.size ∧ (∀ j, v4'.ownBlock = some j → T j ∨ j = W.heap.size) := by
  have h1c : v.oneCell' = true := by obtain ⟨A, c', e⟩ := hv.slice; rw [e]; rfl
  obtain ⟨v4', W', hr, h1, hg, hat⟩ := h.row.append (c := c) hx h1c (by omega) ty
  have keep : ∀ j, j < W.heap.size → v4.ownBlock ≠ some j → W'.heap[j]? = W.heap[j]? := fun j hj hn => hg.block j hj (fun e => hn e.symm)
  have new : ∀ j, v4'.ownBlock = some j → v4.ownBlock = some j ∨ j = W.heap.size := fun j hj => by
    rcases hat with e | e
    · exact .inl (by rw [← e]; exact hj)
    · rw [e] at hj; cases hj; exact .inr rfl
  have ltv : ∀ {k : Nat} {u : Value} {j : Nat}, vs[k]? = some u → u.ownBlock = some j → T j ∧ j < W.heap.size := fun {k u j} hu hj => by
    obtain ⟨u', L', a1, a2, a3⟩ := h.at (List.getElem?_eq_some_iff.1 hu).1
    rw [hu] at a1
    cases a1
    exact a3.own hj
  have hlen := h.len
  refine ⟨v4', W', hr, ⟨h1.mono (fun j hj hT => ?_), by simp [h.len], fun k u L' hu hL' => ?_, fun k k2 x y j hk hx hy hj => ?_, fun k u j hu hj e => ?_, fun k L' hL' => ?_, by simp; omega⟩, Turn.of_grown hg (fun j hj => (h.row.lt hj).1), hg.size, fun j hj => (new j hj).imp (fun e => (h.row.lt e).1) id⟩
  · rcases new j hj with e | e
    · exact .inl (h.row.lt e).1
    · exact .inr (.inr ⟨e, (h1.1.lt j hj).2⟩)
  · rcases get_snoc hu with ⟨hu, hk⟩ | ⟨rfl, rfl⟩
    · rcases get_snoc hL' with ⟨hL', _⟩ | ⟨e, _⟩
      · have h3 := h.ls k u L' hu hL'
        exact (h3.kept (fun j hj => keep j (h3.own hj).2 (h.rs k u j hu hj))).mono (fun j _ hj => .inl hj)
      · omega
    · rcases get_snoc hL' with ⟨_, h0⟩ | ⟨_, rfl⟩
      · omega
      · exact (hv.kept (fun j hj => keep j (hv.own hj).2 (fun e => hap j hj (h.row.lt e).1))).mono (fun j hj _ => .inr (.inl hj))
  · rcases get_snoc hx with ⟨hx1, _⟩ | ⟨e1, e2⟩
    · rcases get_snoc hy with ⟨hy1, _⟩ | ⟨e3, e4⟩
      · exact h.sep k k2 x y j hk hx1 hy1 hj
      · rw [e4]; exact fun e => hap j e (ltv hx1 hj).1
    · rcases get_snoc hy with ⟨hy1, _⟩ | ⟨e3, e4⟩
      · rw [e2] at hj; exact fun e => hap j hj (ltv hy1 e).1
      · omega
  · rcases get_snoc hu with ⟨hu1, _⟩ | ⟨e1, e2⟩
    · rcases new j e with e3 | e3
      · exact h.rs k u j hu1 hj e3
      · have := (ltv hu1 hj).2; omega
    · rw [e2] at hj
      rcases new j e with e3 | e3
      · exact hap j hj (h.row.lt e3).1
      · have := (hv.own hj).2; omega
  · rcases get_snoc hL' with ⟨hL1, _⟩ | ⟨_, e2⟩
    · exact h.sm k L' hL1
    · rw [e2]; exact hL
/-- A copy in a row that is new. -/
theorem SlB.of_row0 {u : Value} (h : W.ownsRow 0 3 1 u L.length (L.map (Value.int .i64))) (hT : ∀ j, u.ownBlock = some j → T j) : SlB W T u L := by
  obtain ⟨_, ⟨e, h0⟩ | ⟨j, cap, cur, rfl, _, h6, h3, h4, h5, h7⟩⟩ := h
  · exact .inl ⟨e, List.length_eq_zero_iff.1 h0⟩
  · refine .inr ⟨j, 0, cap, cur, rfl, hT j rfl, h3, h4, by omega, h6, fun i x hi => ?_⟩
    have hi' : i < L.length := (List.getElem?_eq_some_iff.1 hi).1
    have e : (cur.toList.take (L.length * 1))[i]? = cur.toList[i]? := by rw [List.getElem?_take, if_pos (by omega)]
    rw [Nat.zero_add, ← Array.getElem?_toList, ← e, h7, List.getElem?_map, hi]; rfl
theorem SlB.copy {g : Nat} (hg : W.heap[g]? = some (.cells #[] 3 (0, 0))) (hv : SlB W Tv v L) (hl : L.length ≤ 4398046511104) (ty : TypeId) :
    ∃ u W', (Builtin.append_ #[26, 26] ty #[.slice (some ⟨g, 0, none⟩) 0 0, v]).run Try.prog W = .ok u W' ∧ SlB W' (fun j => j = g ∨ j = W.heap.size) u L ∧ W.grownBy W' (some g) := by
  obtain ⟨i0, hi0, hz0, hz1, hz2⟩ := info_parts info3'
  have hml : (4398046511104 : Nat) ≤ maxLen := by unfold maxLen; omega
  have hown : W.ownsRow 0 3 1 (.slice (some ⟨g, 0, none⟩) 0 0) 0 [] := ⟨rfl, .inr ⟨g, 0, #[], rfl, Nat.zero_le _, hg, Nat.le_refl _, Nat.zero_le _, rfl, rfl⟩⟩
  rcases hv with ⟨rfl, rfl⟩ | ⟨j, off, cap, cur, rfl, h1, h3, h4, h5, h6, h7⟩
  · have hr := run_append_room_src (P := Try.prog) W 26 26 ty 3 i0 Try.underlying26 hi0 g 0 0 0 (.slice none 0 0) 0 [] (Src.ofNil W Try.underlying26 0) (Nat.le_refl _) (fun k hk => by simp at hk) (fun k hk => by simp at hk)
    exact ⟨_, _, hr, SlB.of_row0 (L := []) hown (fun k hk => .inl (by simpa [Value.ownBlock] using hk.symm)), ⟨rfl, rfl, rfl, Nat.le_refl _, fun _ _ _ => rfl⟩⟩
  · have hc : ∀ k u, (L.map (Value.int .i64))[k]? = some u → W.cell? ((⟨j, off, none⟩ : Addr).add k) = some u := fun k u hk => by
      rw [List.getElem?_map] at hk
      obtain ⟨y, hy, rfl⟩ := Option.map_eq_some_iff.1 hk
      rw [Addr.add_lit, cell_of_row W j _ cur 3 (0, 0) h6]
      exact h7 k y hy
    obtain ⟨u, W', hr, ho, hgr, _, hat⟩ := run_append_own_at (P := Try.prog) W 0 26 ty 3 i0 (.int .i64 0) 1 8 Try.underlying26 hi0 hz0 hz1 hz2 rfl (by omega) (.slice (some ⟨g, 0, none⟩) 0 0) 0 [] hown ⟨j, off, none⟩ L.length cap (L.map (Value.int .i64)) (by simp) hc (by intro u hu; obtain ⟨y, _, rfl⟩ := List.mem_map.1 hu; rfl) (by omega) (by omega) (Nat.zero_le _)
    refine ⟨u, W', hr, SlB.of_row0 (by simpa using ho) (fun k hk => ?_), hgr⟩
    rcases hat with e | e
    · rw [e] at hk; exact .inl (by simpa [Value.ownBlock] using hk.symm)
    · rw [e] at hk; cases hk; exact .inr rfl
end Go.Proofs.Ytfcjfjmjcmanaaa.B
