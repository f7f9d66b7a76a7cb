/- Lists appended whole; the document's Next. -/
import Derived.Test.YtfcjfjmjcmanaaaVc
import Derived.Test.YtfcjfjmjcmanaaaCg
import Derived.Deep.Upon
import Derived.Maps.AppendAt
set_option linter.unusedVariables false
namespace Go.Proofs.Ytfcjfjmjcmanaaa.V
open Go Go.RowKit Go.Proofs.Ytfcjfjmjcmanaaa.O Go.Proofs.Ytfcjfjmjcmanaaa.B Go.Proofs.YtfcjfjmjcmanaaaW.PrintWords Go.Proofs.YtfcjfjmjcmanaaaW.PrintLast Go.Proofs.YtfcjfjmjcmanaaaW.PrintMore
/-- A row of numbers of one's own, from its start. -/
def RI (W : World) (T : Nat → Prop) (v : Value) (L : List Int) : Prop := W.ownsRow 0 3 1 v L.length (L.map (Value.int .i64)) ∧ ∀ j, v.ownBlock = some j → T j
variable {W W' : World} {T T' Tv : Nat → Prop} {v m : Value} {L Lv : List Int}
theorem RI.nil (W : World) (T : Nat → Prop) : RI W T (.slice none 0 0) [] := ⟨World.ownsRow_nil _ _ _ _, fun j hj => by simp [Value.ownBlock] at hj⟩
theorem RI.slB (h : RI W T v L) : SlB W T v L := SlB.of_row0 h.1 h.2
theorem RI.kept (h : RI W T v L) (hk : ∀ j, v.ownBlock = some j → W'.heap[j]? = W.heap[j]?) : RI W' T v L := by
  obtain ⟨⟨h1, h2⟩, h3⟩ := h
  refine ⟨⟨h1, ?_⟩, h3⟩
  rcases h2 with h2 | ⟨g, cap, cur, rfl, hb, hg, r⟩
  · exact .inl h2
  · exact .inr ⟨g, cap, cur, rfl, hb, (hk g rfl).trans hg, r⟩
theorem RI.mono (h : RI W T v L) (hT : ∀ j, v.ownBlock = some j → T j → T' j) : RI W T' v L := ⟨h.1, fun j hj => hT j hj (h.2 j hj)⟩
theorem RI.lt (h : RI W T v L) {j : Nat} (hj : v.ownBlock = some j) : T j ∧ j < W.heap.size := ⟨h.2 j hj, (h.1.lt j hj).2⟩
theorem RI.cat (h : RI W T m L) (hv : SlB W Tv v Lv) (hl : L.length + Lv.length ≤ 4398046511104) (ty : TypeId) :
    ∃ m' W', (Builtin.append_ #[26, 26] ty #[m, v]).run Try.prog W = .ok m' W' ∧ RI W' (fun j => T j ∨ j = W.heap.size) m' (L ++ Lv) ∧ W.grownBy W' m.ownBlock ∧ (m'.ownBlock = m.ownBlock ∨ m'.ownBlock = some W.heap.size) := by
  obtain ⟨i0, hi0, hz0, hz1, hz2⟩ := info_parts info3'
  have hml : (4398046511104 : Nat) ≤ maxLen := by unfold maxLen; omega
  rcases hv with ⟨rfl, rfl⟩ | ⟨j, off, cap, cur, rfl, h1, h3, h4, h5, h6, h7⟩
  · have hsl : ∃ A c, m = .slice A L.length c ∧ L.length ≤ c := by
      rcases h.1.2 with ⟨rfl, h0⟩ | ⟨g, c, cur, rfl, _, _, hc, _⟩
      · exact ⟨none, 0, by rw [h0], by omega⟩
      · exact ⟨_, c, rfl, hc⟩
    obtain ⟨A, c, rfl, hc⟩ := hsl
    have hr := run_append_nothing (P := Try.prog) W 26 26 ty 3 i0 Try.underlying26 hi0 A L.length c hc (.slice none 0 0) (Src.ofNil W Try.underlying26 0)
    exact ⟨_, _, hr, by rw [List.append_nil]; exact h.mono (fun j _ => .inl), ⟨rfl, rfl, rfl, Nat.le_refl _, fun _ _ _ => rfl⟩, .inl rfl⟩
  · have hc : ∀ k u, (Lv.map (Value.int .i64))[k]? = some u → W.cell? ((⟨j, off, none⟩ : Addr).add k) = some u := fun k u hk => by
      rw [List.getElem?_map] at hk
      obtain ⟨y, hy, rfl⟩ := Option.map_eq_some_iff.1 hk
      rw [Addr.add_lit, cell_of_row W j _ cur 3 (0, 0) h6]
      exact h7 k y hy
    obtain ⟨u, W', hr, ho, hgr, _, hat⟩ := run_append_own_at (P := Try.prog) W 0 26 ty 3 i0 (.int .i64 0) 1 8 Try.underlying26 hi0 hz0 hz1 hz2 rfl (by omega) m L.length (L.map (.int .i64)) h.1 ⟨j, off, none⟩ Lv.length cap (Lv.map (Value.int .i64)) (by simp) hc (by intro u hu; obtain ⟨y, _, rfl⟩ := List.mem_map.1 hu; rfl) (by omega) (by omega) (Nat.zero_le _)
    refine ⟨u, W', hr, ⟨by simpa using ho, fun k hk => ?_⟩, hgr, hat⟩
    rcases hat with e | e
    · rw [e] at hk; exact .inl (h.2 k hk)
    · rw [e] at hk; cases hk; exact .inr rfl
variable {ops : Array Oper} {rest : List Oper} {o : Oper} {a : Act} {Q : Exit → Act → World → Prop}
theorem wpList_cat (hgd : o.guard = none) (s x : Operand) (ho : o.op = .call { callee := .builtin .append, args := #[s, x], argTypes := #[26, 26] }) (h : RI W T m L) (hv : SlB W Tv v Lv) (hl : L.length + Lv.length ≤ 4398046511104) (hs : a.eval s = m) (hx : a.eval x = v)
    (hK : ∀ m' W', RI W' (fun j => T j ∨ j = W.heap.size) m' (L ++ Lv) → W.grownBy W' m.ownBlock → (m'.ownBlock = m.ownBlock ∨ m'.ownBlock = some W.heap.size) → wpList Try.prog ops Q rest (a.put o.dst m') W') : wpList Try.prog ops Q (o :: rest) a W := by
  refine wpList_plain hgd fun K hK' => ?_
  obtain ⟨m', W', hr, h1, h2, h3⟩ := h.cat hv hl o.type
  unfold Oper.wp execOp
  simp only [ho, resolve, invoke, builtin, Sem.run_bind, Sem.run_pure, Result.andThen_ok, List.map_toArray, List.map_cons, List.map_nil, hs, hx, hr]
  exact hK' _ _ (hK m' W' h1 h2 h3)
/-! ### the list behind one -/
theorem digs_zeros (h d j m : Nat) (hh : 0 < h) : digs h (d + j) (m * h ^ j) = digs h d m ++ List.replicate j 0 := by
  induction j with
  | zero => simp
  | succ j ih =>
    show digs h (d + j) (m * h ^ (j + 1) / h) ++ [((m * h ^ (j + 1) % h : Nat) : Int)] = _
    rw [Nat.pow_succ, ← Nat.mul_assoc, Nat.mul_div_cancel _ hh, Nat.mul_mod_left, ih, List.append_assoc, List.replicate_succ']
    rfl
/-- Behind j digits that came round. -/
structure Rd28 (H D k j m : Nat) : Prop where
  hj : j ≤ D
  eq : k + 1 = (m + 1) * H ^ j
theorem Rd28.next {H D k j m : Nat} (h : Rd28 H D k j m) (hj : j < D) (hH : 1 ≤ H) (e : ¬ m % H + 1 < H) : Rd28 H D k (j + 1) (m / H) := by
  refine ⟨hj, ?_⟩
  have h1 := Nat.mod_lt m (show 0 < H by omega)
  have h2 := Nat.div_add_mod m H
  have h3 : m + 1 = (m / H + 1) * H := by rw [Nat.add_mul, Nat.one_mul, Nat.mul_comm]; omega
  rw [h.eq, h3, Nat.pow_succ, Nat.mul_assoc, Nat.mul_comm H]
theorem Rd28.found {H D k j m : Nat} (h : Rd28 H D k j m) (hj : j < D) (hH : 1 ≤ H) (hk : k < H ^ D) (e : m % H + 1 < H) : k + 1 < H ^ D ∧ digs H (D - j) (m + 1) ++ List.replicate j 0 = digs H D (k + 1) ∧ digs H (D - j) m = digs H (D - j - 1) (m / H) ++ [((m % H : Nat) : Int)] ∧ digs H (D - j) (m + 1) = digs H (D - j - 1) (m / H) ++ [((m % H : Nat) : Int) + 1] := by
  obtain ⟨t, ht⟩ : ∃ t, D - j = t + 1 := ⟨D - j - 1, by omega⟩
  have h2 := Nat.div_add_mod m H
  have hd : (m + 1) / H = m / H := by
    rw [Nat.div_eq_of_lt_le (k := m / H)]
    · rw [Nat.mul_comm]; omega
    · rw [Nat.add_mul, Nat.one_mul, Nat.mul_comm]; omega
  have hm : (m + 1) % H = m % H + 1 := by
    have h3 := Nat.div_add_mod (m + 1) H
    rw [hd] at h3
    omega
  have hD : D = t + 1 + j := by omega
  refine ⟨?_, ?_, ?_, ?_⟩
  · have hp : H ^ D = H ^ (t + 1) * H ^ j := by rw [hD, Nat.pow_add]
    have hpj : 0 < H ^ j := Nat.pow_pos (by omega)
    have h4 : (m + 1) * H ^ j ≤ H ^ (t + 1) * H ^ j := by rw [← h.eq, ← hp]; omega
    have h5 : m + 1 ≤ H ^ (t + 1) := Nat.le_of_mul_le_mul_right h4 hpj
    have h6 : m + 1 ≠ H ^ (t + 1) := fun z => by
      have h7 : (m + 1) % H = 0 := by rw [z, Nat.pow_succ]; exact Nat.mul_mod_left _ _
      omega
    rw [h.eq, hp]
    exact Nat.mul_lt_mul_of_pos_right (by omega) hpj
  · rw [h.eq, ← digs_zeros _ _ _ _ (by omega), show D - j + j = D by omega]
  · rw [ht]; rfl
  · rw [ht]
    show digs H t ((m + 1) / H) ++ [(((m + 1) % H : Nat) : Int)] = _
    rw [hd, hm]; rfl
theorem Rd28.last {H D k m : Nat} (h : Rd28 H D k D m) : ¬ k + 1 < H ^ D := by
  have h1 := h.eq
  have h2 : 1 * H ^ D ≤ (m + 1) * H ^ D := Nat.mul_le_mul_right _ (by omega)
  omega
end Go.Proofs.Ytfcjfjmjcmanaaa.V
