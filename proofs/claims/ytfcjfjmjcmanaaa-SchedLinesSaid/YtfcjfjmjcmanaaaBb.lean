/- Boards: a board in memory (Bat), and what the operations do to it as numbers. -/
import Derived.Test.YtfcjfjmjcmanaaaBa
set_option linter.unusedVariables false
namespace Go.Proofs.Ytfcjfjmjcmanaaa.B
open Go Go.RowKit Go.Proofs.YtfcjfjmjcmanaaaW.PrintWords Go.Proofs.YtfcjfjmjcmanaaaW.PrintLast Go.Proofs.YtfcjfjmjcmanaaaW.PrintMore
structure Bd where
  l : List Hd
  q : Int → List Int
def Bd.has (B : Bd) (h : Int) : Bool := decide (0 ≤ h) && decide (h < (B.l.length : Int))
def Bd.hd (B : Bd) (h : Int) : Hd := B.l.getD h.toNat (0, 0, 0)
def Bd.rdy (B : Bd) (h : Int) : Int := if B.has h = false then 70 else if (B.hd h).1 = 0 then 71 else if (B.hd h).1 = 2 then 72 else 0
def Bd.put (B : Bd) (h : Int) (x : Hd) : Bd := ⟨B.l.set h.toNat x, B.q⟩
def Bd.start (B : Bd) (h : Int) : Bd × Int := if B.has h = false then (B, 70) else if (B.hd h).1 = 0 then (B.put h (1, 0, 0), 0) else (B, 9)
def Bd.block (B : Bd) (h on : Int) : Bd × Int := if B.rdy h = 0 then (⟨B.l.set h.toNat (2, on, 0), upd B.q on (B.q on ++ [h])⟩, 0) else (B, B.rdy h)
def Bd.finish (B : Bd) (h : Int) : Bd × Int := if B.rdy h = 0 then (B.put h (0, 0, 0), 0) else (B, B.rdy h)
def wakes : List Int → List Hd → List Hd
  | [], l => l
  | h :: t, l => wakes t (l.set h.toNat (1, 0, 0))
def Bd.wake (B : Bd) (on : Int) : Bd := ⟨wakes (B.q on) B.l, upd B.q on []⟩
def Bd.first (B : Bd) (on : Int) : Bd × Int × Bool :=
  match B.q on with
  | [] => (B, -1, false)
  | h :: t => (⟨B.l.set h.toNat (1, 0, 0), upd B.q on t⟩, h, true)
/-- The board lies at p: T its blocks, g its handlers, m its map (of at most N entries), f the map's slices. -/
structure Bat (W : World) (T : Nat → Prop) (p g m N : Nat) (B : Bd) (f : Int → Value) : Prop where
  hp : W.heap[p]? = some (.cells #[.slice (some ⟨g, 0, none⟩) B.l.length B.l.length, .map (some m)] 125 (0, 0))
  hg : HRow W g B.l
  hm : MapAt W m N f
  hf : ∀ k, (Lit.int .i64 k).wf = true → Sl W T (f k) (B.q k)
  ap : ∀ k k', (Lit.int .i64 k).wf = true → (Lit.int .i64 k').wf = true → k ≠ k' → ∀ j, (f k).ownBlock = some j → (f k').ownBlock ≠ some j
  off : ∀ k, (Lit.int .i64 k).wf = true → ∀ j, (f k).ownBlock = some j → j ≠ p ∧ j ≠ g ∧ j ≠ m
  ne : p ≠ g ∧ p ≠ m ∧ g ≠ m
  own : T p ∧ T g ∧ T m
  lt : ∀ i, T i → i < W.heap.size
variable {W W' W1 : World} {T T' : Nat → Prop} {p g m N : Nat} {B : Bd} {f : Int → Value}
theorem Bat.cells (h : Bat W T p g m N B f) : W.cell? ⟨p, 0, none⟩ = some (.slice (some ⟨g, 0, none⟩) B.l.length B.l.length) ∧ W.cell? ⟨p, 1, none⟩ = some (.map (some m)) :=
  ⟨by rw [cell_of_row W p 0 _ 125 (0, 0) h.hp]; rfl, by rw [cell_of_row W p 1 _ 125 (0, 0) h.hp]; rfl⟩
theorem Bat.turn (h : Bat W T p g m N B f) (e : ∀ i, T i → W'.heap[i]? = W.heap[i]?) (hs : W.heap.size ≤ W'.heap.size) : Bat W' T p g m N B f :=
  ⟨(e p h.own.1).trans h.hp, h.hg.of_block (e g h.own.2.1), h.hm.of_block hs (e m h.own.2.2), fun k hk => (h.hf k hk).kept (fun j hj => e j ((h.hf k hk).own hj).1), h.ap, h.off, h.ne, h.own, fun i hi => Nat.lt_of_lt_of_le (h.lt i hi) hs⟩
theorem Bat.drewN (h : Bat W T p g m N B f) (n : Nat) : Bat (W.drewN n) T p g m N B f := h.turn (fun _ _ => rfl) (Nat.le_refl _)
theorem Bat.below (h : Bat W T p g m N B f) (hb : Below W.heap.size W W') : Bat W' T p g m N B f := h.turn (fun i hi => hb.block i (h.lt i hi)) hb.size
theorem Bat.widen (h : Bat W T p g m N B f) (hT : ∀ i, T i → T' i) (hl : ∀ i, T' i → i < W.heap.size) : Bat W T' p g m N B f := ⟨h.hp, h.hg, h.hm, fun k hk => (h.hf k hk).mono (fun j _ hj => hT j hj), h.ap, h.off, h.ne, ⟨hT _ h.own.1, hT _ h.own.2.1, hT _ h.own.2.2⟩, hl⟩
theorem Bat.mono {N' : Nat} (h : Bat W T p g m N B f) (hN : N ≤ N') : Bat W T p g m N' B f := ⟨h.hp, h.hg, h.hm.mono hN, h.hf, h.ap, h.off, h.ne, h.own, h.lt⟩
theorem turn1 (A : World) (g o : Nat) (v : Value) : Turn (fun k => k = g) A (A.setCell ⟨g, o, none⟩ v) := Turn.setCell A _ v rfl
theorem Bd.get (B : Bd) {h : Int} (hh : B.has h = true) : B.l[h.toNat]? = some (B.hd h) ∧ 0 ≤ h ∧ h < (B.l.length : Int) ∧ h.toNat < B.l.length := by
  unfold Bd.has at hh
  simp only [Bool.and_eq_true, decide_eq_true_eq] at hh
  have hl : h.toNat < B.l.length := by omega
  refine ⟨?_, hh.1, hh.2, hl⟩
  unfold Bd.hd
  rw [List.getD_eq_getElem?_getD, List.getElem?_eq_getElem hl]; rfl
/-- One handler is written anew. -/
theorem Bat.put (h : Bat W T p g m N B f) (i : Nat) (x : Hd) :
    Bat (((W.setCell ⟨g, i * 3, none⟩ (.int .i64 x.1)).setCell ⟨g, i * 3 + 1, none⟩ (.int .i64 x.2.1)).setCell ⟨g, i * 3 + 2, none⟩ (.int .i64 x.2.2)) T p g m N ⟨B.l.set i x, B.q⟩ f ∧
      Turn T W (((W.setCell ⟨g, i * 3, none⟩ (.int .i64 x.1)).setCell ⟨g, i * 3 + 1, none⟩ (.int .i64 x.2.1)).setCell ⟨g, i * 3 + 2, none⟩ (.int .i64 x.2.2)) := by
  have tr : Turn (fun k => k = g) W (((W.setCell ⟨g, i * 3, none⟩ (.int .i64 x.1)).setCell ⟨g, i * 3 + 1, none⟩ (.int .i64 x.2.1)).setCell ⟨g, i * 3 + 2, none⟩ (.int .i64 x.2.2)) :=
    ((turn1 W g _ _).trans (turn1 _ g _ _) (fun _ h => .inl h)).trans (turn1 _ g _ _) (fun _ h => .inl h)
  refine ⟨⟨?_, h.hg.set i x, h.hm.of_block tr.size (tr.block m h.hm.lt (fun e => h.ne.2.2 e.symm)), fun k hk => (h.hf k hk).kept (fun j hj => tr.block j ((h.hf k hk).own hj).2 (h.off k hk j hj).2.1), h.ap, h.off, h.ne, h.own, fun j hj => Nat.lt_of_lt_of_le (h.lt j hj) tr.size⟩, tr.mono (fun k e => by rw [e]; exact h.own.2.1)⟩
  rw [tr.block p (h.lt p h.own.1) h.ne.1, h.hp, List.length_set]
theorem Bat.put3 (h : Bat W T p g m N B f) (i : Nat) {x : Hd} (hx : B.l[i]? = some x) (c : Int) :
    Bat (W.setCell ⟨g, i * 3 + 2, none⟩ (.int .i64 c)) T p g m N ⟨B.l.set i (x.1, x.2.1, c), B.q⟩ f ∧ Turn T W (W.setCell ⟨g, i * 3 + 2, none⟩ (.int .i64 c)) := by
  have tr : Turn (fun k => k = g) W (W.setCell ⟨g, i * 3 + 2, none⟩ (.int .i64 c)) := turn1 W g _ _
  refine ⟨⟨?_, h.hg.set3 i hx c, h.hm.of_block tr.size (tr.block m h.hm.lt (fun e => h.ne.2.2 e.symm)), fun k hk => (h.hf k hk).kept (fun j hj => tr.block j ((h.hf k hk).own hj).2 (h.off k hk j hj).2.1), h.ap, h.off, h.ne, h.own, fun j hj => Nat.lt_of_lt_of_le (h.lt j hj) tr.size⟩, tr.mono (fun k e => by rw [e]; exact h.own.2.1)⟩
  rw [tr.block p (h.lt p h.own.1) h.ne.1, h.hp, List.length_set]
/-- A slice of the map's turns, and is stored anew. -/
theorem Bat.store (h : Bat W T p g m N B f) (hN : N < maxLen) {k : Int} (hk : (Lit.int .i64 k).wf = true) {v' : Value} {L' : List Int} (hs : Sl W1 (fun j => T j ∨ W.heap.size ≤ j) v' L') (hg : W.grownBy W1 (f k).ownBlock)
    (hat : v'.ownBlock = (f k).ownBlock ∨ ∃ j, v'.ownBlock = some j ∧ W.heap.size ≤ j) :
    ∃ W2, (Instr.mapUpdate 123 (.map (some m)) (.int .i64 k) v').run Try.prog W1 = .ok () W2 ∧ Bat W2 (fun i => T i ∨ W.heap.size ≤ i ∧ i < W2.heap.size) p g m (N + 1) ⟨B.l, upd B.q k L'⟩ (upd f k v') ∧ Turn T W W2 := by
  have lm := h.hm.lt
  have fne : ∀ x j, (Lit.int .i64 x).wf = true → (f x).ownBlock = some j → T j ∧ j < W.heap.size := fun x j hx hj => (h.hf x hx).own hj
  have keep1 : ∀ i, i < W.heap.size → (∀ j, (f k).ownBlock = some j → i ≠ j) → W1.heap[i]? = W.heap[i]? := fun i hi hn => hg.block i hi (fun e => hn i e.symm rfl)
  have hm1 : MapAt W1 m N f := h.hm.of_block hg.size (keep1 m lm (fun j hj e => (h.off k hk j hj).2.2 e.symm))
  obtain ⟨W2, hr, hm2, hg2⟩ := hm1.store hN hk v'
  have keep2 : ∀ i, i < W1.heap.size → i ≠ m → W2.heap[i]? = W1.heap[i]? := fun i hi hn => hg2.block i hi (fun e => hn (by cases e; rfl))
  have keep : ∀ i, i < W.heap.size → i ≠ m → (∀ j, (f k).ownBlock = some j → i ≠ j) → W2.heap[i]? = W.heap[i]? := fun i hi hn hj => (keep2 i (Nat.lt_of_lt_of_le hi hg.size) hn).trans (keep1 i hi hj)
  have v'lt : ∀ j, v'.ownBlock = some j → j < W1.heap.size := fun j hj => (hs.own hj).2
  have v'off : ∀ j, v'.ownBlock = some j → j ≠ p ∧ j ≠ g ∧ j ≠ m := fun j hj => by
    rcases hat with e | ⟨j', e, hle⟩
    · rw [e] at hj; exact h.off k hk j hj
    · rw [e] at hj; cases hj
      have h1 := h.lt p h.own.1
      have h2 := h.lt g h.own.2.1
      exact ⟨by omega, by omega, by omega⟩
  have size2 : W.heap.size ≤ W2.heap.size := Nat.le_trans hg.size hg2.size
  refine ⟨W2, hr, ⟨?_, ?_, hm2, ?_, ?_, ?_, h.ne, ⟨.inl h.own.1, .inl h.own.2.1, .inl h.own.2.2⟩, fun i hi => ?_⟩, ⟨hg2.os.trans hg.os, hg2.tape.trans hg.tape, hg2.output.trans hg.output, size2, fun i hi hn => ?_⟩⟩
  · rw [keep p (h.lt p h.own.1) h.ne.2.1 (fun j hj e => (h.off k hk j hj).1 e.symm)]; exact h.hp
  · exact h.hg.of_block (keep g (h.lt g h.own.2.1) h.ne.2.2 (fun j hj e => (h.off k hk j hj).2.1 e.symm))
  · intro x hx
    show Sl W2 _ (upd f k v' x) (upd B.q k L' x)
    unfold upd
    by_cases e : x = k
    · rw [if_pos e, if_pos e]
      refine (hs.kept (fun j hj => keep2 j (v'lt j hj) (v'off j hj).2.2)).mono (fun j hj hT => hT.imp id (fun hle => ⟨hle, Nat.lt_of_lt_of_le (v'lt j hj) hg2.size⟩))
    · rw [if_neg e, if_neg e]
      refine ((h.hf x hx).kept (fun j hj => keep j (fne x j hx hj).2 (h.off x hx j hj).2.2 (fun j' hj' ej => h.ap k x hk hx (fun z => e z.symm) j' hj' (by rw [hj, ej])))).mono (fun j _ hT => .inl hT)
  · intro x y hx hy hxy j hj
    show (upd f k v' y).ownBlock ≠ some j
    have hj' : (upd f k v' x).ownBlock = some j := hj
    unfold upd at hj' ⊢
    have old : ∀ z, (Lit.int .i64 z).wf = true → z ≠ k → ∀ j, (f z).ownBlock = some j → v'.ownBlock ≠ some j := fun z hz hzk j hj e => by
      rcases hat with e2 | ⟨j2, e2, hle⟩
      · rw [e2] at e; exact h.ap z k hz hk hzk j hj e
      · rw [e2] at e; cases e; have := (fne z j hz hj).2; omega
    by_cases ex : x = k
    · rw [if_pos ex] at hj'
      rw [if_neg (fun ey => hxy (ex.trans ey.symm))]
      exact fun e => old y hy (fun ey => hxy (ex.trans ey.symm)) j e hj'
    · rw [if_neg ex] at hj'
      by_cases ey : y = k
      · rw [if_pos ey]; exact old x hx ex j hj'
      · rw [if_neg ey]; exact h.ap x y hx hy hxy j hj'
  · intro x hx j hj
    have hj' : (upd f k v' x).ownBlock = some j := hj
    unfold upd at hj'
    by_cases ex : x = k
    · rw [if_pos ex] at hj'; exact v'off j hj'
    · rw [if_neg ex] at hj'; exact h.off x hx j hj'
  · rcases hi with hi | hi
    · exact Nat.lt_of_lt_of_le (h.lt i hi) size2
    · exact hi.2
  · refine keep i hi (fun e => hn (by rw [e]; exact h.own.2.2)) (fun j hj e => hn (by rw [e]; exact (fne k j hk hj).1))
/-- A slice of the map's is handed out, and its entry is struck: the board no longer owns the slice's row. -/
theorem Bat.drop (h : Bat W T p g m N B f) {k : Int} (hk : (Lit.int .i64 k).wf = true) (ty : TypeId) :
    ∃ W2, (Builtin.delete_ #[123, 3] ty #[.map (some m), .int .i64 k]).run Try.prog W = .ok (.tuple #[]) W2 ∧ Bat W2 (fun i => T i ∧ (f k).ownBlock ≠ some i) p g m N ⟨B.l, upd B.q k []⟩ (upd f k nilv) ∧ Sl W2 (fun i => T i ∧ (f k).ownBlock = some i) (f k) (B.q k) ∧ Turn T W W2 := by
  obtain ⟨W2, hr, hm2, hg2⟩ := h.hm.drop hk ty
  have keep : ∀ i, i < W.heap.size → i ≠ m → W2.heap[i]? = W.heap[i]? := fun i hi hn => hg2.block i hi (fun e => hn (by cases e; rfl))
  have fne : ∀ x j, (Lit.int .i64 x).wf = true → (f x).ownBlock = some j → T j ∧ j < W.heap.size := fun x j hx hj => (h.hf x hx).own hj
  have hne : ∀ i, (i = p ∨ i = g ∨ i = m) → (f k).ownBlock ≠ some i := fun i hi e => by
    have := h.off k hk i e
    rcases hi with rfl | rfl | rfl
    · exact this.1 rfl
    · exact this.2.1 rfl
    · exact this.2.2 rfl
  refine ⟨W2, hr, ⟨?_, ?_, hm2, ?_, ?_, ?_, h.ne, ⟨⟨h.own.1, hne p (.inl rfl)⟩, ⟨h.own.2.1, hne g (.inr (.inl rfl))⟩, ⟨h.own.2.2, hne m (.inr (.inr rfl))⟩⟩, fun i hi => Nat.lt_of_lt_of_le (h.lt i hi.1) hg2.size⟩, ?_, Turn.of_grown hg2 (fun j hj => by cases hj; exact h.own.2.2)⟩
  · rw [keep p (h.lt p h.own.1) h.ne.2.1]; exact h.hp
  · exact h.hg.of_block (keep g (h.lt g h.own.2.1) h.ne.2.2)
  · intro x hx
    show Sl W2 _ (upd f k nilv x) (upd B.q k [] x)
    unfold upd
    by_cases e : x = k
    · rw [if_pos e, if_pos e]; exact Sl.nil _ _
    · rw [if_neg e, if_neg e]
      exact ((h.hf x hx).kept (fun j hj => keep j (fne x j hx hj).2 (h.off x hx j hj).2.2)).mono (fun j hj hT => ⟨hT, h.ap x k hx hk e j hj⟩)
  · intro x y hx hy hxy j hj
    show (upd f k nilv y).ownBlock ≠ some j
    have hj' : (upd f k nilv x).ownBlock = some j := hj
    unfold upd at hj' ⊢
    by_cases ey : y = k
    · rw [if_pos ey]; simp [nilv, Value.ownBlock]
    · rw [if_neg ey]
      by_cases ex : x = k
      · rw [if_pos ex] at hj'; simp [nilv, Value.ownBlock] at hj'
      · rw [if_neg ex] at hj'; exact h.ap x y hx hy hxy j hj'
  · intro x hx j hj
    have hj' : (upd f k nilv x).ownBlock = some j := hj
    unfold upd at hj'
    by_cases ex : x = k
    · rw [if_pos ex] at hj'; simp [nilv, Value.ownBlock] at hj'
    · rw [if_neg ex] at hj'; exact h.off x hx j hj'
  · exact ((h.hf k hk).kept (fun j hj => keep j (fne k j hk hj).2 (h.off k hk j hj).2.2)).mono (fun j hj hT => ⟨hT, hj⟩)
/-- A slice of the map's is stored anew, looked up, and struck. -/
theorem Bat.strike (h : Bat W T p g m N B f) (hN : N < maxLen) {k : Int} (hk : (Lit.int .i64 k).wf = true) (v' : Value) :
    ∃ W2, (Instr.mapUpdate 123 (.map (some m)) (.int .i64 k) v').run Try.prog W = .ok () W2 ∧ (Instr.lookup 123 (.map (some m)) (.int .i64 k) false).run Try.prog W2 = .ok v' W2 ∧ W2.cell? ⟨p, 0, none⟩ = W.cell? ⟨p, 0, none⟩ ∧ W2.cell? ⟨p, 1, none⟩ = W.cell? ⟨p, 1, none⟩ ∧
      ∃ W3, (∀ ty, (Builtin.delete_ #[123, 3] ty #[.map (some m), .int .i64 k]).run Try.prog W2 = .ok (.tuple #[]) W3) ∧ Bat W3 T p g m (N + 1) ⟨B.l, upd B.q k []⟩ (upd f k nilv) ∧ Turn T W W3 := by
  obtain ⟨W2, hr, hm2, hg2⟩ := h.hm.store hN hk v'
  obtain ⟨W3, hr3, hm3, hg3⟩ := hm2.drop hk 0
  have ty : ∀ ty, (Builtin.delete_ #[123, 3] ty #[.map (some m), .int .i64 k]).run Try.prog W2 = .ok (.tuple #[]) W3 := fun _ => hr3
  have keep2 : ∀ i, i < W.heap.size → i ≠ m → W2.heap[i]? = W.heap[i]? := fun i hi hn => hg2.block i hi (fun e => hn (by cases e; rfl))
  have keep : ∀ i, i < W.heap.size → i ≠ m → W3.heap[i]? = W.heap[i]? := fun i hi hn => (hg3.block i (Nat.lt_of_lt_of_le hi hg2.size) (fun e => hn (by cases e; rfl))).trans (keep2 i hi hn)
  have fne : ∀ x j, (Lit.int .i64 x).wf = true → (f x).ownBlock = some j → T j ∧ j < W.heap.size := fun x j hx hj => (h.hf x hx).own hj
  have ef : upd (upd f k v') k nilv = upd f k nilv := by funext x; unfold upd; by_cases e : x = k <;> simp [e]
  rw [ef] at hm3
  refine ⟨W2, hr, by rw [hm2.look hk]; unfold upd; rw [if_pos rfl], World.cell?_of_block (keep2 p (h.lt p h.own.1) h.ne.2.1), World.cell?_of_block (keep2 p (h.lt p h.own.1) h.ne.2.1), W3, ty, ⟨?_, ?_, hm3, ?_, ?_, ?_, h.ne, h.own, fun i hi => Nat.lt_of_lt_of_le (h.lt i hi) (Nat.le_trans hg2.size hg3.size)⟩, ?_⟩
  · rw [keep p (h.lt p h.own.1) h.ne.2.1]; exact h.hp
  · exact h.hg.of_block (keep g (h.lt g h.own.2.1) h.ne.2.2)
  · intro x hx
    show Sl W3 _ (upd f k nilv x) (upd B.q k [] x)
    unfold upd
    by_cases e : x = k
    · rw [if_pos e, if_pos e]; exact Sl.nil _ _
    · rw [if_neg e, if_neg e]
      exact (h.hf x hx).kept (fun j hj => keep j (fne x j hx hj).2 (h.off x hx j hj).2.2)
  · intro x y hx hy hxy j hj
    show (upd f k nilv y).ownBlock ≠ some j
    have hj' : (upd f k nilv x).ownBlock = some j := hj
    unfold upd at hj' ⊢
    by_cases ey : y = k
    · rw [if_pos ey]; simp [nilv, Value.ownBlock]
    · rw [if_neg ey]
      by_cases ex : x = k
      · rw [if_pos ex] at hj'; simp [nilv, Value.ownBlock] at hj'
      · rw [if_neg ex] at hj'; exact h.ap x y hx hy hxy j hj'
  · intro x hx j hj
    have hj' : (upd f k nilv x).ownBlock = some j := hj
    unfold upd at hj'
    by_cases ex : x = k
    · rw [if_pos ex] at hj'; simp [nilv, Value.ownBlock] at hj'
    · rw [if_neg ex] at hj'; exact h.off x hx j hj'
  · exact (Turn.of_grown (T := T) hg2 (fun j hj => by cases hj; exact h.own.2.2)).trans (Turn.of_grown (T := T) hg3 (fun j hj => by cases hj; exact h.own.2.2)) (fun _ h => .inl h)
end Go.Proofs.Ytfcjfjmjcmanaaa.B
