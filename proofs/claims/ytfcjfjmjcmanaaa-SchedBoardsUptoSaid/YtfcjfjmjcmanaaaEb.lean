/- SchedBoards: the document's board in memory: four rows of numbers and a count. -/
import Derived.Test.YtfcjfjmjcmanaaaEa
import Derived.Test.YtfcjfjmjcmanaaaCa
set_option linter.unusedVariables false
namespace Go.Proofs.Ytfcjfjmjcmanaaa.B
open Go Go.RowKit Go.Proofs.YtfcjfjmjcmanaaaW.PrintWords Go.Proofs.YtfcjfjmjcmanaaaW.PrintLast Go.Proofs.YtfcjfjmjcmanaaaW.PrintMore
/-- Four rows of numbers and a count: r the struct's block, R all blocks. -/
structure F4 (W : World) (R : Nat → Prop) (r : Nat) (v : Nat → Value) (L : Nat → List Int) (u : Int) : Prop where
  hr : W.heap[r]? = some (.cells #[v 0, v 1, v 2, v 3, .int .i64 u] 129 (0, 0))
  s : ∀ i, i < 4 → SlB W R (v i) (L i)
  ap : ∀ i k, i < 4 → k < 4 → i ≠ k → ∀ j, (v i).ownBlock = some j → (v k).ownBlock ≠ some j
  off : ∀ i, i < 4 → ∀ j, (v i).ownBlock = some j → j ≠ r
  own : R r
  lt : ∀ i, R i → i < W.heap.size
variable {W W' : World} {R : Nat → Prop} {r : Nat} {v : Nat → Value} {L : Nat → List Int} {u : Int}
theorem F4.kept (h : F4 W R r v L u) (e : ∀ i, R i → W'.heap[i]? = W.heap[i]?) (hs : W.heap.size ≤ W'.heap.size) : F4 W' R r v L u :=
  ⟨(e r h.own).trans h.hr, fun i hi => (h.s i hi).kept (fun j hj => e j ((h.s i hi).own hj).1), h.ap, h.off, h.own, fun i hi => Nat.lt_of_lt_of_le (h.lt i hi) hs⟩
theorem F4.below (h : F4 W R r v L u) (hb : Below W.heap.size W W') : F4 W' R r v L u := h.kept (fun i hi => hb.block i (h.lt i hi)) hb.size
theorem F4.cells (h : F4 W R r v L u) : W.cell? ⟨r, 0, none⟩ = some (v 0) ∧ W.cell? ⟨r, 1, none⟩ = some (v 1) ∧ W.cell? ⟨r, 2, none⟩ = some (v 2) ∧ W.cell? ⟨r, 3, none⟩ = some (v 3) ∧ W.cell? ⟨r, 4, none⟩ = some (.int .i64 u) := by
  refine ⟨?_, ?_, ?_, ?_, ?_⟩ <;> (rw [cell_of_row W r _ _ 129 (0, 0) h.hr]; rfl)
theorem F4.free (h : F4 W R r v L u) (o : Nat) : W.frozen? ⟨r, o, none⟩ = false := by
  simp [World.frozen?, h.hr]
/-- One number of one row is written. -/
theorem F4.set (h : F4 W R r v L u) {i : Nat} (hi : i < 4) {ad : Addr} {n c : Nat} (hv : v i = .slice (some ad) n c) (k : Nat) (hk : k < (L i).length) (x : Int) :
    W.frozen? (ad.add k) = false ∧ F4 (W.setCell (ad.add k) (.int .i64 x)) R r v (fun a => if a = i then (L i).set k x else L a) u ∧ Turn R W (W.setCell (ad.add k) (.int .i64 x)) := by
  have hs := h.s i hi
  rw [hv] at hs
  obtain ⟨h1, h2, h3⟩ := hs.set k hk x
  have hown := (hs.own (j := ad.block) rfl).1
  have keep : ∀ j, j < W.heap.size → j ≠ ad.block → (W.setCell (ad.add k) (.int .i64 x)).heap[j]? = W.heap[j]? := fun j hj hn => h3.block j hj (fun e => hn (by cases e; rfl))
  refine ⟨h1, ⟨?_, fun a ha => ?_, h.ap, h.off, h.own, fun j hj => Nat.lt_of_lt_of_le (h.lt j hj) h3.size⟩, Turn.of_grown h3 (fun j hj => by cases hj; exact hown)⟩
  · rw [keep r (h.lt r h.own) (fun e => h.off i hi ad.block (by rw [hv]; rfl) e.symm)]; exact h.hr
  · by_cases e : a = i
    · subst e
      simp only [if_pos rfl]
      rw [hv]; exact h2
    · simp only [if_neg e]
      exact (h.s a ha).kept (fun j hj => keep j ((h.s a ha).own hj).2 (fun e2 => h.ap a i ha hi e j hj (by rw [hv, e2]; rfl)))
/-- The count is written. -/
theorem F4.count (h : F4 W R r v L u) (x : Int) : F4 (W.setCell ⟨r, 4, none⟩ (.int .i64 x)) R r v L x ∧ Turn R W (W.setCell ⟨r, 4, none⟩ (.int .i64 x)) := by
  have t : Turn R W (W.setCell ⟨r, 4, none⟩ (.int .i64 x)) := Turn.setCell W _ _ h.own
  refine ⟨⟨?_, fun i hi => (h.s i hi).kept (fun j hj => Below.heap_setCell W _ _ j (h.off i hi j hj)), h.ap, h.off, h.own, fun j hj => Nat.lt_of_lt_of_le (h.lt j hj) t.size⟩, t⟩
  rw [row_set h.hr]; rfl
/-- One row grows by one, and is stored. -/
theorem F4.app (h : F4 W R r v L u) {i : Nat} (hi : i < 4) {a : Addr} {c : Nat} {x : Int} (hx : W.cell? a = some (.int .i64 x)) (hl : (L i).length + 1 ≤ 4398046511104) (ty : TypeId) :
    ∃ v' W', (Builtin.append_ #[26, 26] ty #[v i, .slice (some a) 1 c]).run Try.prog W = .ok v' W' ∧ W'.frozen? ⟨r, i, none⟩ = false ∧ (∃ y, W'.cell? ⟨r, i, none⟩ = some y) ∧ F4 (W'.setCell ⟨r, i, none⟩ v') (fun j => R j ∨ W.heap.size ≤ j ∧ j < W'.heap.size) r (fun a => if a = i then v' else v a) (fun a => if a = i then L i ++ [x] else L a) u ∧ Turn R W (W'.setCell ⟨r, i, none⟩ v') ∧ (W'.setCell ⟨r, i, none⟩ v').heap.size = W'.heap.size := by
  obtain ⟨v', W', hr, hs', hg, hat, _, _⟩ := (h.s i hi).append hx hl ty (h.s i hi) (Pre.refl W (h.s i hi))
  have hz := hg.size
  have hs : (W'.setCell ⟨r, i, none⟩ v').heap.size = W'.heap.size := by simp
  have hrl := h.lt r h.own
  have keep : ∀ j, j < W.heap.size → (v i).ownBlock ≠ some j → W'.heap[j]? = W.heap[j]? := fun j hj hn => hg.block j hj (fun e => hn e.symm)
  have hr' : W'.heap[r]? = some (.cells #[v 0, v 1, v 2, v 3, .int .i64 u] 129 (0, 0)) := (keep r hrl (fun e => h.off i hi r e rfl)).trans h.hr
  have k2 : ∀ j, j ≠ r → (W'.setCell ⟨r, i, none⟩ v').heap[j]? = W'.heap[j]? := fun j hj => Below.heap_setCell W' _ _ j hj
  have v'off : ∀ j, v'.ownBlock = some j → j ≠ r := fun j hj => by
    rcases hat with e | ⟨j', e, hle⟩
    · rw [e] at hj; exact h.off i hi j hj
    · rw [e] at hj; cases hj; omega
  have v'ap : ∀ k, k < 4 → k ≠ i → ∀ j, v'.ownBlock = some j → (v k).ownBlock ≠ some j := fun k hk hne j hj e2 => by
    rcases hat with e | ⟨j', e, hle⟩
    · rw [e] at hj; exact h.ap i k hi hk (fun z => hne z.symm) j hj e2
    · rw [e] at hj; cases hj; have := ((h.s k hk).own e2).2; omega
  refine ⟨v', W', hr, by simp [World.frozen?, hr'], ?_, ⟨?_, fun a ha => ?_, fun a k ha hk hne j hj => ?_, fun a ha j hj => ?_, .inl h.own, fun j hj => ?_⟩, ?_, hs⟩
  · rw [cell_of_row W' r i _ 129 (0, 0) hr']
    have i4 : i = 0 ∨ i = 1 ∨ i = 2 ∨ i = 3 := by omega
    rcases i4 with e | e | e | e <;> (rw [e]; exact ⟨_, rfl⟩)
  · rw [row_set hr']
    have i4 : i = 0 ∨ i = 1 ∨ i = 2 ∨ i = 3 := by omega
    rcases i4 with e | e | e | e <;> (rw [e]; rfl)
  · by_cases e : a = i
    · simp only [if_pos e]
      refine (hs'.kept (fun j hj => k2 j (v'off j hj))).mono (fun j hj hT => hT.imp id (fun hle => ⟨hle, (hs'.own hj).2⟩))
    · simp only [if_neg e]
      refine ((h.s a ha).kept (fun j hj => (k2 j (h.off a ha j hj)).trans (keep j ((h.s a ha).own hj).2 (fun e2 => h.ap a i ha hi e j hj e2)))).mono (fun j _ hT => .inl hT)
  · by_cases e : a = i
    · by_cases e2 : k = i
      · exact absurd (e.trans e2.symm) hne
      · simp only [if_pos e] at hj
        simp only [if_neg e2]
        exact v'ap k hk e2 j hj
    · simp only [if_neg e] at hj
      by_cases e2 : k = i
      · simp only [if_pos e2]
        exact fun e3 => v'ap a ha e j e3 hj
      · simp only [if_neg e2]
        exact h.ap a k ha hk hne j hj
  · by_cases e : a = i
    · simp only [if_pos e] at hj; exact v'off j hj
    · simp only [if_neg e] at hj; exact h.off a ha j hj
  · rw [hs]
    rcases hj with z | z
    · have := h.lt j z; omega
    · exact z.2
  · exact (Turn.of_grown hg (fun j hj => ((h.s i hi).own hj).1)).trans (Turn.setCell W' ⟨r, i, none⟩ v' (T := R) h.own) (fun _ z => .inl z)
/-! ### the board -/
def Lf (l : List Hd) (tn : List Int) : Nat → List Int
  | 0 => l.map (·.1)
  | 1 => l.map (·.2.1)
  | 2 => tn
  | _ => l.map (·.2.2)
/-- The document's board: handlers l, turns tn, u turns so far; its rows lie at a. -/
def RAt (W : World) (R : Nat → Prop) (r : Nat) (a : Nat → Addr) (c : Nat → Nat) (n : Nat) (l : List Hd) (tn : List Int) (u : Int) : Prop :=
  l.length = n ∧ tn.length = n ∧ F4 W R r (fun i => .slice (some (a i)) n (c i)) (Lf l tn) u
variable {a : Nat → Addr} {c : Nat → Nat} {n : Nat} {l : List Hd} {tn : List Int} {B : Bd}
theorem RAt.kept (h : RAt W R r a c n l tn u) (e : ∀ i, R i → W'.heap[i]? = W.heap[i]?) (hs : W.heap.size ≤ W'.heap.size) : RAt W' R r a c n l tn u := ⟨h.1, h.2.1, h.2.2.kept e hs⟩
theorem RAt.below (h : RAt W R r a c n l tn u) (hb : Below W.heap.size W W') : RAt W' R r a c n l tn u := ⟨h.1, h.2.1, h.2.2.below hb⟩
theorem RAt.drewN (h : RAt W R r a c n l tn u) (k : Nat) : RAt (W.drewN k) R r a c n l tn u := h.kept (fun _ _ => rfl) (Nat.le_refl _)
theorem RAt.turn (h : RAt W R r a c n l tn u) {T : Nat → Prop} (t : Turn T W W') (hT : ∀ i, R i → ¬ T i) : RAt W' R r a c n l tn u := h.kept (fun i hi => t.block i (h.2.2.lt i hi) (hT i hi)) t.size
theorem RAt.cells (h : RAt W R r a c n l tn u) : W.cell? ⟨r, 0, none⟩ = some (.slice (some (a 0)) n (c 0)) ∧ W.cell? ⟨r, 1, none⟩ = some (.slice (some (a 1)) n (c 1)) ∧ W.cell? ⟨r, 2, none⟩ = some (.slice (some (a 2)) n (c 2)) ∧ W.cell? ⟨r, 3, none⟩ = some (.slice (some (a 3)) n (c 3)) ∧ W.cell? ⟨r, 4, none⟩ = some (.int .i64 u) := h.2.2.cells
theorem rd_map (l : List Hd) (f : Hd → Int) (h : Int) (hh : h.toNat < l.length) : rd (l.map f) h = f (l.getD h.toNat (0, 0, 0)) := by
  unfold rd
  simp only [List.getD_eq_getElem?_getD, List.getElem?_map, List.getElem?_eq_getElem hh]
  rfl
/-- What the rows hold of one handler. -/
theorem RAt.hd (h : RAt W R r a c n B.l tn u) {k : Int} (hk : B.has k = true) : W.cell? ((a 0).add k.toNat) = some (.int .i64 (B.hd k).1) ∧ W.cell? ((a 1).add k.toNat) = some (.int .i64 (B.hd k).2.1) ∧ W.cell? ((a 2).add k.toNat) = some (.int .i64 (tnAt tn k)) ∧ W.cell? ((a 3).add k.toNat) = some (.int .i64 (B.hd k).2.2) ∧ (0 ≤ k) ∧ k < (n : Int) := by
  obtain ⟨h0, h1⟩ := has_iff.1 hk
  obtain ⟨e1, e2, f⟩ := h
  have g : ∀ i, i < 4 → ∀ (M : List Int), Lf B.l tn i = M → M.length = n → W.cell? ((a i).add k.toNat) = some (.int .i64 (rd M k)) := fun i hi M hM hMn => by
    have s := f.s i hi
    simp only [hM] at s
    rw [← hMn] at s
    obtain ⟨ad, e, hc⟩ := s.cell k h0 (by omega)
    cases e
    exact hc
  have kl : k.toNat < B.l.length := by omega
  refine ⟨?_, ?_, ?_, ?_, h0, by omega⟩
  · rw [g 0 (by omega) (B.l.map (·.1)) rfl (by simpa using e1), rd_map _ _ _ kl]; rfl
  · rw [g 1 (by omega) (B.l.map (·.2.1)) rfl (by simpa using e1), rd_map _ _ _ kl]; rfl
  · rw [g 2 (by omega) tn rfl e2]; rfl
  · rw [g 3 (by omega) (B.l.map (·.2.2)) rfl (by simpa using e1), rd_map _ _ _ kl]; rfl
theorem F4.congr {L' : Nat → List Int} (h : F4 W R r v L u) (e : ∀ i, i < 4 → L i = L' i) : F4 W R r v L' u := ⟨h.hr, fun i hi => by rw [← e i hi]; exact h.s i hi, h.ap, h.off, h.own, h.lt⟩
theorem map_set' (l : List Hd) (f : Hd → Int) (i : Nat) (x : Hd) : (l.set i x).map f = (l.map f).set i (f x) := by rw [List.map_set]
theorem add_ne {W : World} {ad : Addr} {r o k : Nat} {x : Value} (h : ad.block ≠ r) : (W.setCell (ad.add k) x).cell? ⟨r, o, none⟩ = W.cell? ⟨r, o, none⟩ := by
  have e := Below.heap_setCell W (ad.add k) x r (fun z => h (by rw [z]; cases ad; simp only [Addr.add]; split <;> rfl))
  unfold World.cell?
  rw [e]
/-- turn: a handler's state, what it is blocked on, its count. -/
theorem RAt.put (h : RAt W R r a c n l tn u) {i : Nat} (hi : i < n) (x : Hd) :
    W.frozen? ((a 0).add i) = false ∧ (W.setCell ((a 0).add i) (.int .i64 x.1)).frozen? ((a 1).add i) = false ∧ ((W.setCell ((a 0).add i) (.int .i64 x.1)).setCell ((a 1).add i) (.int .i64 x.2.1)).frozen? ((a 3).add i) = false ∧
    (∃ y, W.cell? ((a 0).add i) = some y) ∧ (∃ y, (W.setCell ((a 0).add i) (.int .i64 x.1)).cell? ((a 1).add i) = some y) ∧ (∃ y, ((W.setCell ((a 0).add i) (.int .i64 x.1)).setCell ((a 1).add i) (.int .i64 x.2.1)).cell? ((a 3).add i) = some y) ∧
    (W.setCell ((a 0).add i) (.int .i64 x.1)).cell? ⟨r, 1, none⟩ = some (.slice (some (a 1)) n (c 1)) ∧ ((W.setCell ((a 0).add i) (.int .i64 x.1)).setCell ((a 1).add i) (.int .i64 x.2.1)).cell? ⟨r, 3, none⟩ = some (.slice (some (a 3)) n (c 3)) ∧
    RAt (((W.setCell ((a 0).add i) (.int .i64 x.1)).setCell ((a 1).add i) (.int .i64 x.2.1)).setCell ((a 3).add i) (.int .i64 x.2.2)) R r a c n (l.set i x) tn u ∧
    Turn R W (((W.setCell ((a 0).add i) (.int .i64 x.1)).setCell ((a 1).add i) (.int .i64 x.2.1)).setCell ((a 3).add i) (.int .i64 x.2.2)) := by
  obtain ⟨e1, e2, f⟩ := h
  have le : ∀ {w : World} {L : Nat → List Int} {k j : Nat} (g : F4 w R r (fun i => .slice (some (a i)) n (c i)) L u), k < 4 → j < (L k).length → ∃ y, w.cell? ((a k).add j) = some y := fun {w L k j} g hk hj => by
    have s := g.s k hk
    have en : n = (L k).length := by
      rcases s with ⟨z, _⟩ | ⟨_, _, _, _, z, _⟩
      · cases z
      · injection z
    rw [en] at s
    obtain ⟨ad, e, hc⟩ := s.cell (j : Int) (by omega) (by omega)
    cases e
    exact ⟨_, by simpa using hc⟩
  have l0 : i < (Lf l tn 0).length := by simp [Lf]; omega
  obtain ⟨p1, p2, p3⟩ := f.set (i := 0) (by omega) rfl i l0 x.1
  have l1 : i < ((fun b => if b = 0 then (Lf l tn 0).set i x.1 else Lf l tn b) 1).length := by simp [Lf]; omega
  obtain ⟨q1, q2, q3⟩ := p2.set (i := 1) (by omega) rfl i l1 x.2.1
  have l3 : i < ((fun b => if b = 1 then ((fun b => if b = 0 then (Lf l tn 0).set i x.1 else Lf l tn b) 1).set i x.2.1 else (fun b => if b = 0 then (Lf l tn 0).set i x.1 else Lf l tn b) b) 3).length := by simp [Lf]; omega
  obtain ⟨s1, s2, s3⟩ := q2.set (i := 3) (by omega) rfl i l3 x.2.2
  refine ⟨p1, q1, s1, le f (k := 0) (by omega) l0, le p2 (k := 1) (by omega) l1, le q2 (k := 3) (by omega) l3, p2.cells.2.1, q2.cells.2.2.2.1, ⟨by simpa using e1, e2, s2.congr (fun k hk => ?_)⟩, (p3.trans q3 (fun _ z => .inl z)).trans s3 (fun _ z => .inl z)⟩
  match k, hk with
  | 0, _ => simp [Lf, map_set']
  | 1, _ => simp [Lf, map_set']
  | 2, _ => simp [Lf]
  | 3, _ => simp [Lf, map_set']
/-- A block's number is written. -/
theorem RAt.mark (h : RAt W R r a c n l tn u) {i : Nat} (hi : i < n) (x : Int) :
    RAt (W.setCell ⟨r, 4, none⟩ (.int .i64 x)) R r a c n l tn x ∧ (W.setCell ⟨r, 4, none⟩ (.int .i64 x)).frozen? ((a 2).add i) = false ∧ (∃ y, (W.setCell ⟨r, 4, none⟩ (.int .i64 x)).cell? ((a 2).add i) = some y) ∧ RAt ((W.setCell ⟨r, 4, none⟩ (.int .i64 x)).setCell ((a 2).add i) (.int .i64 x)) R r a c n l (tn.set i x) x ∧ Turn R W ((W.setCell ⟨r, 4, none⟩ (.int .i64 x)).setCell ((a 2).add i) (.int .i64 x)) := by
  obtain ⟨e1, e2, f⟩ := h
  obtain ⟨p1, p2⟩ := f.count x
  have l2 : i < (Lf l tn 2).length := by simp [Lf]; omega
  obtain ⟨q1, q2, q3⟩ := p1.set (i := 2) (by omega) rfl i l2 x
  have s := p1.s 2 (by omega)
  have en : n = (Lf l tn 2).length := e2.symm
  rw [en] at s
  obtain ⟨ad, e, hc⟩ := s.cell (i : Int) (by omega) (by omega)
  cases e
  refine ⟨⟨e1, e2, p1⟩, q1, ⟨_, by simpa using hc⟩, ⟨e1, by simpa using e2, q2.congr (fun k hk => ?_)⟩, p2.trans q3 (fun _ z => .inl z)⟩
  match k, hk with
  | 0, _ => simp [Lf]
  | 1, _ => simp [Lf]
  | 2, _ => simp [Lf]
  | 3, _ => simp [Lf]
end Go.Proofs.Ytfcjfjmjcmanaaa.B
