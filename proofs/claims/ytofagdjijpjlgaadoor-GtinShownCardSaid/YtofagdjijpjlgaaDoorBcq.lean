/- gtin: the state of a printer: what was seen, the builder, what stays. -/
import Derived.Test.YtofagdjijpjlgaaDoorBa
import Derived.Test.YtofagdjijpjlgaaDoorBbq
import Derived.Test.YtofagdjijpjlgaaDoorXp
set_option linter.unusedVariables false
set_option linter.unusedSimpArgs false
namespace Go.Proofs.YtofagdjijpjlgaaDoor.X
open Go Go.RowKit Go.Proofs.YtofagdjijpjlgaaDoorW.PrintWords Go.Proofs.YtofagdjijpjlgaaDoorW.PrintLast Go.Proofs.YtofagdjijpjlgaaDoorW.PrintMore
theorem wf_nat (i : Nat) (h : i ≤ 9223372036854775807) : (Lit.int .i64 (i : Int)).wf = true := by
  simp [Lit.wf]
  exact ⟨show (-9223372036854775808 : Int) ≤ _ by omega, show _ ≤ (9223372036854775807 : Int) by omega⟩
theorem heap_lt {w : World} {i : Nat} {o : Obj} (h : w.heap[i]? = some o) : i < w.heap.size := (Array.getElem?_eq_some_iff.1 h).1
/-- A builder stays where its blocks stay. -/
theorem builderAt_kept {B b : Nat} {p : Value} {bs : List Value} {w w' : World} (h : Lib.BuilderAtF 90 5 B b p bs w) (hk : ∀ (i : Nat) (c : Array Value) (t : TypeId) (fz : Nat × Nat), w.heap[i]? = some (Obj.cells c t fz) → t = 90 ∨ t = 5 → w'.heap[i]? = w.heap[i]?) : Lib.BuilderAtF 90 5 B b p bs w' := by
  obtain ⟨hB, v, hb, hown, hne⟩ := h
  refine ⟨hB, v, (hk b _ _ _ hb (.inl rfl)).trans hb, ⟨hown.1, ?_⟩, hne⟩
  rcases hown.2 with hn | ⟨g, cap, cur, fz, hv, hbg, hg, rest⟩
  · exact .inl hn
  · exact .inr ⟨g, cap, cur, fz, hv, hbg, (hk g _ _ _ hg (.inr rfl)).trans hg, rest⟩
theorem builder_kept {B b : Nat} {bs : List Value} {w w' : World} (h : Lib.IsBuilderF 90 5 B b bs w) (hk : ∀ (i : Nat) (c : Array Value) (t : TypeId) (fz : Nat × Nat), w.heap[i]? = some (Obj.cells c t fz) → t = 90 ∨ t = 5 → w'.heap[i]? = w.heap[i]?) : Lib.IsBuilderF 90 5 B b bs w' :=
  h.elim (fun x => .inl (builderAt_kept x hk)) (fun x => .inr (builderAt_kept x hk))
theorem builder_below {B b : Nat} {bs : List Value} {w w' : World} (h : Lib.IsBuilderF 90 5 B b bs w) (hb : Below w.heap.size w w') : Lib.IsBuilderF 90 5 B b bs w' :=
  builder_kept h (fun i c t fz hi _ => hb.block i (heap_lt hi))
theorem builder_block {B b : Nat} {bs : List Value} {w : World} (h : Lib.IsBuilderF 90 5 B b bs w) : B ≤ b ∧ ∃ c fz, w.heap[b]? = some (.cells c 90 fz) := by
  rcases h with ⟨hB, v, hb, _⟩ | ⟨hB, v, hb, _⟩ <;> exact ⟨hB, _, _, hb⟩
theorem SeenAt.obj {w : World} {m N : Nat} {sn : Sn} (h : SeenAt w m N sn) : ∃ es clock, w.heap[m]? = some (.map es clock) := by
  obtain ⟨D, ⟨es, clock, hb, _⟩, _⟩ := h
  exact ⟨es, clock, hb⟩
/-- A new builder. -/
theorem builder_new (W w : World) (h : W.heap.size ≤ w.heap.size) : Lib.IsBuilderF 90 5 W.heap.size w.heap.size (Lib.byteCells []) (w.alloc (.cells #[.pointer none, .slice none 0 0] 90)) :=
  .inl ⟨h, .slice none 0 0, heap_alloc_new _ _, ⟨by simp [Lib.byteCells], .inl ⟨rfl, rfl⟩⟩, by simp [Value.ownBlock]⟩
abbrev Kept := List (Nat × Obj)
structure Pr (W : World) (m b N : Nat) (sn : Sn) (bs : List UInt8) (K : Kept) (w : World) : Prop where
  mp : SeenAt w m N sn
  bd : Lib.IsBuilderF 90 5 W.heap.size b (Lib.byteCells bs) w
  fr : Below W.heap.size W w
  ml : W.heap.size ≤ m
  ks : ∀ i o, (i, o) ∈ K → w.heap[i]? = some o ∧ i ≠ m ∧ i ≠ b ∧ ∀ c fz, o ≠ .cells c 5 fz
variable {W w w' : World} {m b N : Nat} {sn : Sn} {bs : List UInt8} {K : Kept}
theorem Pr.mb (h : Pr W m b N sn bs K w) : m ≠ b := by
  obtain ⟨es, clock, hm⟩ := h.mp.obj
  obtain ⟨_, c, fz, hb⟩ := builder_block h.bd
  intro e
  rw [e, hb] at hm
  cases hm
theorem Pr.below (h : Pr W m b N sn bs K w) (hb : Below w.heap.size w w') : Pr W m b N sn bs K w' :=
  ⟨h.mp.of_block (hb.block m h.mp.lt), builder_below h.bd hb, h.fr.trans (hb.mono h.fr.size), h.ml, fun i o hi => by
    obtain ⟨h1, h2, h3, h4⟩ := h.ks i o hi
    exact ⟨(hb.block i (heap_lt h1)).trans h1, h2, h3, h4⟩⟩
theorem Pr.drewN (h : Pr W m b N sn bs K w) (n : Nat) : Pr W m b N sn bs K (w.drewN n) := h.below (pw_below_drewN (Below.refl _ _) n)
theorem Pr.alloc (h : Pr W m b N sn bs K w) (o : Obj) (ho : ∀ c fz, o ≠ .cells c 5 fz) : Pr W m b N sn bs ((w.heap.size, o) :: K) (w.alloc o) := by
  have h' := h.below ((Below.refl w.heap.size w).alloc (Nat.le_refl _) o)
  refine ⟨h'.mp, h'.bd, h'.fr, h'.ml, fun i x hi => ?_⟩
  rcases List.mem_cons.1 hi with e | e
  · cases e
    obtain ⟨_, c, fz, hb⟩ := builder_block h.bd
    exact ⟨heap_alloc_new _ _, fun e => by have := h.mp.lt; omega, fun e => by have := heap_lt hb; omega, ho⟩
  · exact h'.ks i x e
theorem Pr.drop {x : Nat × Obj} (h : Pr W m b N sn bs (x :: K) w) : Pr W m b N sn bs K w := ⟨h.mp, h.bd, h.fr, h.ml, fun i o hi => h.ks i o (List.mem_cons_of_mem _ hi)⟩
theorem Pr.put {N' : Nat} {sn' : Sn} (h : Pr W m b N sn bs K w) (hm : SeenAt w' m N' sn') (hf : ∀ i, i < w.heap.size → i ≠ m → w'.heap[i]? = w.heap[i]?) (hs : w.heap.size ≤ w'.heap.size) (ho : w'.os = w.os) (ht : w'.tape = w.tape) (hu : w'.output = w.output) : Pr W m b N' sn' bs K w' := by
  obtain ⟨es, clock, hm0⟩ := h.mp.obj
  refine ⟨hm, builder_kept h.bd (fun i c t fz hi _ => hf i (heap_lt hi) (fun e => by rw [e, hm0] at hi; cases hi)), h.fr.trans ⟨ho, ht, hu, Nat.le_trans h.fr.size hs |> fun _ => ?_, fun i hi => ?_⟩, h.ml, fun i o hi => ?_⟩
  · exact hs
  · have := h.fr.size; have := h.ml; exact hf i (by omega) (by omega)
  · obtain ⟨h1, h2, h3, h4⟩ := h.ks i o hi
    exact ⟨(hf i (heap_lt h1) h2).trans h1, h2, h3, h4⟩
theorem Pr.write {bs' : List UInt8} (h : Pr W m b N sn bs K w) (hb : Lib.IsBuilderF 90 5 W.heap.size b (Lib.byteCells bs') w') (hB : Below W.heap.size w w') (hO : Lib.OthersKept 5 (some b) w w') : Pr W m b N sn bs' K w' := by
  obtain ⟨es, clock, hm0⟩ := h.mp.obj
  have hmk := hO m _ hm0 (fun e => h.mb (Option.some.inj e)) (fun c fz e => by cases e)
  refine ⟨h.mp.of_block (hmk.trans hm0.symm), hb, h.fr.trans hB, h.ml, fun i o hi => ?_⟩
  obtain ⟨h1, h2, h3, h4⟩ := h.ks i o hi
  exact ⟨hO i o h1 (fun e => h3 (Option.some.inj e)) h4, h2, h3, h4⟩
theorem Pr.cell (h : Pr W m b N sn bs K w) {i : Nat} {c : Array Value} {t : TypeId} (hi : (i, Obj.cells c t (0, 0)) ∈ K) (j : Nat) : w.cell? ⟨i, j, none⟩ = c[j]? := by
  have := (h.ks i _ hi).1
  simp [World.cell?, this]
/-- The j-th cell of the first, second, third block that is kept. -/
theorem Pr.at0 {i : Nat} {c : Array Value} {t : TypeId} {fz : Nat × Nat} (h : Pr W m b N sn bs ((i, Obj.cells c t fz) :: K) w) (j : Nat) {v : Value} (hv : c[j]? = some v) : w.cell? ⟨i, j, none⟩ = some v := by
  have := (h.ks i _ (List.mem_cons_self ..)).1
  simp [World.cell?, this, hv]
theorem Pr.at1 {i : Nat} {c : Array Value} {t : TypeId} {fz : Nat × Nat} {a : Nat × Obj} (h : Pr W m b N sn bs (a :: (i, Obj.cells c t fz) :: K) w) (j : Nat) {v : Value} (hv : c[j]? = some v) : w.cell? ⟨i, j, none⟩ = some v := h.drop.at0 j hv
theorem Pr.at2 {i : Nat} {c : Array Value} {t : TypeId} {fz : Nat × Nat} {a a' : Nat × Obj} (h : Pr W m b N sn bs (a :: a' :: (i, Obj.cells c t fz) :: K) w) (j : Nat) {v : Value} (hv : c[j]? = some v) : w.cell? ⟨i, j, none⟩ = some v := h.drop.drop.at0 j hv
end Go.Proofs.YtofagdjijpjlgaaDoor.X
