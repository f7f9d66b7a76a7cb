/- Books: many lists, each in a row of its own; marked, and grown. -/
import Derived.Test.YtfcjfjmjcmanaaaCa
set_option linter.unusedVariables false
namespace Go.Proofs.Ytfcjfjmjcmanaaa.B
open Go Go.RowKit Go.Proofs.YtfcjfjmjcmanaaaW.PrintWords Go.Proofs.YtfcjfjmjcmanaaaW.PrintLast Go.Proofs.YtfcjfjmjcmanaaaW.PrintMore
structure Lists (W : World) (T : Nat → Prop) (v4 : Value) (vs : List Value) (Ls : List (List Int)) : Prop where
  row : RowV W T v4 vs
  len : Ls.length = vs.length
  ls : ∀ (i : Nat) v L, vs[i]? = some v → Ls[i]? = some L → SlB W T v L
  sep : ∀ (i k : Nat) u v j, i ≠ k → vs[i]? = some u → vs[k]? = some v → u.ownBlock = some j → v.ownBlock ≠ some j
  rs : ∀ (i : Nat) u j, vs[i]? = some u → u.ownBlock = some j → v4.ownBlock ≠ some j
  sm : ∀ (i : Nat) L, Ls[i]? = some L → L.length + 10 ≤ 4398046511104
  ns : vs.length + 10 ≤ 4398046511104
variable {W W' : World} {T T' : Nat → Prop} {v4 vm m : Value} {vs ms : List Value} {Ls : List (List Int)} {L Lm : List Int}
theorem Lists.at (h : Lists W T v4 vs Ls) {i : Nat} (hi : i < vs.length) : ∃ v L, vs[i]? = some v ∧ Ls[i]? = some L ∧ SlB W T v L :=
  ⟨vs[i], Ls[i]'(by rw [h.len]; exact hi), List.getElem?_eq_getElem hi, List.getElem?_eq_getElem _, h.ls i _ _ (List.getElem?_eq_getElem hi) (List.getElem?_eq_getElem _)⟩
theorem Lists.kept (h : Lists W T v4 vs Ls) (hk : ∀ i, T i → i < W.heap.size → W'.heap[i]? = W.heap[i]?) : Lists W' T v4 vs Ls :=
  ⟨h.row.kept (fun j hj => hk j (h.row.lt hj).1 (h.row.lt hj).2), h.len, fun i v L a b => (h.ls i v L a b).kept (fun j hj => hk j ((h.ls i v L a b).own hj).1 ((h.ls i v L a b).own hj).2), h.sep, h.rs, h.sm, h.ns⟩
theorem Lists.mono (h : Lists W T v4 vs Ls) (hT : ∀ i, T i → T' i) : Lists W T' v4 vs Ls := ⟨h.row.mono (fun j _ => hT j), h.len, fun i v L a b => (h.ls i v L a b).mono (fun j _ => hT j), h.sep, h.rs, h.sm, h.ns⟩
/-- A number is written. -/
theorem Lists.set (h : Lists W T v4 vs Ls) {i : Nat} {ad : Addr} {n c : Nat} (hv : vs[i]? = some (.slice (some ad) n c)) (hL : Ls[i]? = some L) (k : Nat) (hk : k < L.length) (x : Int) :
    W.frozen? (ad.add k) = false ∧ Lists (W.setCell (ad.add k) (.int .i64 x)) T v4 vs (Ls.set i (L.set k x)) ∧ Turn T W (W.setCell (ad.add k) (.int .i64 x)) := by
  have hs := h.ls i _ L hv hL
  obtain ⟨hf, hs', hg⟩ := hs.set k hk x
  have hown : (Value.slice (some ad) n c).ownBlock = some ad.block := rfl
  have keep : ∀ j, j < W.heap.size → j ≠ ad.block → (W.setCell (ad.add k) (.int .i64 x)).heap[j]? = W.heap[j]? := fun j hj hn => hg.block j hj (fun e => hn (by cases e; rfl))
  have hil : i < Ls.length := (List.getElem?_eq_some_iff.1 hL).1
  refine ⟨hf, ⟨h.row.kept (fun j hj => keep j (h.row.lt hj).2 (fun e => h.rs i _ ad.block hv hown (by rw [← e]; exact hj))), by simp [h.len], fun a v L' ha hb => ?_, h.sep, h.rs, fun a L' hb => ?_, h.ns⟩, Turn.of_grown hg (fun j hj => by cases hj; exact (hs.own hown).1)⟩
  · by_cases ea : i = a
    · subst ea
      rw [List.getElem?_set_self hil] at hb
      cases hb
      rw [hv] at ha
      cases ha
      exact hs'
    · rw [List.getElem?_set_ne ea] at hb
      have h1 := h.ls a v L' ha hb
      exact h1.kept (fun j hj => keep j (h1.own hj).2 (fun e => h.sep i a _ v ad.block ea hv ha hown (by rw [← e]; exact hj)))
  · by_cases ea : i = a
    · subst ea
      rw [List.getElem?_set_self hil] at hb
      cases hb
      have := h.sm i L hL
      simpa using this
    · rw [List.getElem?_set_ne ea] at hb
      exact h.sm a L' hb
/-- The lists behind the marks, and some of them grown. -/
structure Grown (W : World) (T : Nat → Prop) (v4 : Value) (vs : List Value) (Ls : List (List Int)) (vm : Value) (ms : List Value) : Prop where
  l : Lists W T v4 vs Ls
  row : RowV W T vm ms
  ml : ms.length ≤ vs.length
  mv : ∀ (k : Nat) m L, ms[k]? = some m → Ls[k]? = some L → SlB W T m (List.replicate (L.length + 9) (k : Int))
  s1 : ∀ (k k2 : Nat) m u j, k ≠ k2 → ms[k]? = some m → vs[k2]? = some u → m.ownBlock = some j → u.ownBlock ≠ some j
  s2 : ∀ (k k2 : Nat) m m2 j, k ≠ k2 → ms[k]? = some m → ms[k2]? = some m2 → m.ownBlock = some j → m2.ownBlock ≠ some j
  s3 : ∀ (k : Nat) m j, ms[k]? = some m → m.ownBlock = some j → v4.ownBlock ≠ some j ∧ vm.ownBlock ≠ some j
  s4 : ∀ (k : Nat) u j, vs[k]? = some u → u.ownBlock = some j → vm.ownBlock ≠ some j
  s5 : ∀ j, v4.ownBlock = some j → vm.ownBlock ≠ some j
/-- m lies apart from all but the list i. -/
def Lone (v4 vm : Value) (vs ms : List Value) (i : Nat) (m : Value) : Prop :=
  ∀ j, m.ownBlock = some j → v4.ownBlock ≠ some j ∧ vm.ownBlock ≠ some j ∧ (∀ (k : Nat) u, k ≠ i → vs[k]? = some u → u.ownBlock ≠ some j) ∧ ∀ (k : Nat) m', k ≠ i → ms[k]? = some m' → m'.ownBlock ≠ some j
theorem Grown.start (h : Lists W T v4 vs Ls) : Grown W T v4 vs Ls nilv [] :=
  ⟨h, RowV.nil _ _, Nat.zero_le _, by simp, by simp, by simp, by simp, fun k u j _ _ e => by simp [nilv, Value.ownBlock] at e, fun j _ e => by simp [nilv, Value.ownBlock] at e⟩
theorem Grown.kept (h : Grown W T v4 vs Ls vm ms) (hk : ∀ i, T i → i < W.heap.size → W'.heap[i]? = W.heap[i]?) : Grown W' T v4 vs Ls vm ms :=
  ⟨h.l.kept hk, h.row.kept (fun j hj => hk j (h.row.lt hj).1 (h.row.lt hj).2), h.ml, fun k m L a b => (h.mv k m L a b).kept (fun j hj => hk j ((h.mv k m L a b).own hj).1 ((h.mv k m L a b).own hj).2), h.s1, h.s2, h.s3, h.s4, h.s5⟩
theorem Grown.below (h : Grown W T v4 vs Ls vm ms) (hb : Below W.heap.size W W') : Grown W' T v4 vs Ls vm ms := h.kept (fun i _ hi => hb.block i hi)
/-- A list's beginning. -/
theorem Grown.lone (h : Grown W T v4 vs Ls vm ms) {i : Nat} {v : Value} (hv : vs[i]? = some v) : Lone v4 vm vs ms i v := fun j hj =>
  ⟨h.l.rs i v j hv hj, h.s4 i v j hv hj, fun k u hk hu => h.l.sep i k v u j (Ne.symm hk) hv hu hj, fun k m' hk hm e => h.s1 k i m' v j hk hm hv e hj⟩
/-- One number more behind the list i. -/
theorem Grown.app (h : Grown W T v4 vs Ls vm ms) (hT : ∀ j, W.heap.size ≤ j → T j) {i : Nat} (hi : ms.length = i) {v : Value} (hv : vs[i]? = some v) (hL : Ls[i]? = some L) (hm : SlB W T m Lm) (hlm : Lm.length + 1 ≤ 4398046511104) (hlo : Lone v4 vm vs ms i m) (hp : Pre v m) {a : Addr} {c : Nat} {x : Int} (hx : W.cell? a = some (.int .i64 x)) (ty : TypeId) :
    ∃ m' W', (Builtin.append_ #[26, 26] ty #[m, .slice (some a) 1 c]).run Try.prog W = .ok m' W' ∧ Grown W' T v4 vs Ls vm ms ∧ SlB W' T m' (Lm ++ [x]) ∧ Lone v4 vm vs ms i m' ∧ Pre v m' ∧ Turn T W W' := by
  obtain ⟨m', W', hr, h1, hg, hat, hv', hp'⟩ := hm.append (c := c) hx hlm ty (h.l.ls i v L hv hL) hp
  have keep : ∀ j, j < W.heap.size → m.ownBlock ≠ some j → W'.heap[j]? = W.heap[j]? := fun j hj hn => hg.block j hj (fun e => hn e.symm)
  have k4 : ∀ j, v4.ownBlock = some j → W'.heap[j]? = W.heap[j]? := fun j hj => keep j (h.l.row.lt hj).2 (fun e => (hlo j e).1 hj)
  have km : ∀ j, vm.ownBlock = some j → W'.heap[j]? = W.heap[j]? := fun j hj => keep j (h.row.lt hj).2 (fun e => (hlo j e).2.1 hj)
  refine ⟨m', W', hr, ⟨⟨h.l.row.kept k4, h.l.len, fun k u L' hu hL' => ?_, h.l.sep, h.l.rs, h.l.sm, h.l.ns⟩, h.row.kept km, h.ml, fun k m2 L' h2 hL' => ?_, h.s1, h.s2, h.s3, h.s4, h.s5⟩, h1.mono (fun j _ hj => hj.elim id (hT j)), ?_, hp', Turn.of_grown hg (fun j hj => (hm.own hj).1)⟩
  · by_cases ek : k = i
    · subst ek
      rw [hv] at hu
      cases hu
      rw [hL] at hL'
      cases hL'
      exact hv'
    · have h3 := h.l.ls k u L' hu hL'
      exact h3.kept (fun j hj => keep j (h3.own hj).2 (fun e => (hlo j e).2.2.1 k u ek hu hj))
  · have h3 := h.mv k m2 L' h2 hL'
    have ek : k ≠ i := fun e => by have := (List.getElem?_eq_some_iff.1 h2).1; omega
    exact h3.kept (fun j hj => keep j (h3.own hj).2 (fun e => (hlo j e).2.2.2 k m2 ek h2 hj))
  · intro j hj
    rcases hat with e | ⟨j2, e, hle⟩
    · rw [e] at hj; exact hlo j hj
    · rw [e] at hj
      cases hj
      refine ⟨fun z => by have := (h.l.row.lt z).2; omega, fun z => by have := (h.row.lt z).2; omega, fun k u hk hu z => ?_, fun k m2 hk h2 z => ?_⟩
      · obtain ⟨u', L', a1, a2, a3⟩ := h.l.at (List.getElem?_eq_some_iff.1 hu).1
        rw [hu] at a1
        cases a1
        have := (a3.own z).2; omega
      · have hkl : k < Ls.length := by rw [h.l.len]; exact Nat.lt_of_lt_of_le (List.getElem?_eq_some_iff.1 h2).1 h.ml
        have := ((h.mv k m2 _ h2 (List.getElem?_eq_getElem hkl)).own z).2; omega
/-- The grown list is kept. -/
theorem Grown.push (h : Grown W T v4 vs Ls vm ms) (hT : ∀ j, W.heap.size ≤ j → T j) {i : Nat} (hi : ms.length = i) {v : Value} (hv : vs[i]? = some v) (hL : Ls[i]? = some L) (hm : SlB W T m (List.replicate (L.length + 9) (i : Int))) (hlo : Lone v4 vm vs ms i m) {a : Addr} {c : Nat} (hx : W.cell? a = some m) (ty : TypeId) :
    ∃ vm' W', (Builtin.append_ #[37, 37] ty #[vm, .slice (some a) 1 c]).run Try.prog W = .ok vm' W' ∧ Grown W' T v4 vs Ls vm' (ms ++ [m]) ∧ Turn T W W' := by
  have h1c : m.oneCell' = true := by obtain ⟨A, c', e⟩ := hm.slice; rw [e]; rfl
  have hil : i < vs.length := (List.getElem?_eq_some_iff.1 hv).1
  obtain ⟨vm', W', hr, h1, hg, hat⟩ := h.row.append (c := c) hx h1c (by have := h.l.ns; omega) ty
  have keep : ∀ j, j < W.heap.size → vm.ownBlock ≠ some j → W'.heap[j]? = W.heap[j]? := fun j hj hn => hg.block j hj (fun e => hn e.symm)
  have new : ∀ j, vm'.ownBlock = some j → vm.ownBlock = some j ∨ j = W.heap.size := fun j hj => by
    rcases hat with e | e
    · exact .inl (by rw [← e]; exact hj)
    · rw [e] at hj; cases hj; exact .inr rfl
  have cases_ms : ∀ {k : Nat} {m2 : Value}, (ms ++ [m])[k]? = some m2 → (ms[k]? = some m2 ∧ k < i) ∨ (k = i ∧ m2 = m) := fun {k m2} hk => by
    by_cases hlt : k < ms.length
    · rw [List.getElem?_append_left hlt] at hk
      exact .inl ⟨hk, by omega⟩
    · rw [List.getElem?_append_right (by omega)] at hk
      have h0 : k - ms.length = 0 := by
        have := (List.getElem?_eq_some_iff.1 hk).1
        simp at this; omega
      rw [h0] at hk
      simp at hk
      exact .inr ⟨by omega, hk.symm⟩
  have lt_v : ∀ {k : Nat} {u : Value} {j : Nat}, vs[k]? = some u → u.ownBlock = some j → j < W.heap.size := fun {k u j} hu hj => by
    obtain ⟨u', L', a1, a2, a3⟩ := h.l.at (List.getElem?_eq_some_iff.1 hu).1
    rw [hu] at a1
    cases a1
    exact (a3.own hj).2
  have lt_m : ∀ {k : Nat} {m2 : Value} {j : Nat}, ms[k]? = some m2 → m2.ownBlock = some j → j < W.heap.size := fun {k m2 j} h2 hj => by
    have hkl : k < Ls.length := by rw [h.l.len]; exact Nat.lt_of_lt_of_le (List.getElem?_eq_some_iff.1 h2).1 h.ml
    exact ((h.mv k m2 _ h2 (List.getElem?_eq_getElem hkl)).own hj).2
  refine ⟨vm', W', hr, ⟨⟨h.l.row.kept (fun j hj => keep j (h.l.row.lt hj).2 (fun e => h.s5 j hj e)), h.l.len, fun k u L' hu hL' => ?_, h.l.sep, h.l.rs, h.l.sm, h.l.ns⟩, h1.mono (fun j _ hj => hj.elim id (hT j)), by simp; omega, fun k m2 L' h2 hL' => ?_, fun k k2 m2 u j hk h2 hu hj => ?_, fun k k2 a b j hk ha hb hj => ?_, fun k m2 j h2 hj => ?_, fun k u j hu hj e => ?_, fun j hj e => ?_⟩, Turn.of_grown hg (fun j hj => (h.row.lt hj).1)⟩
  · have h3 := h.l.ls k u L' hu hL'
    exact h3.kept (fun j hj => keep j (h3.own hj).2 (h.s4 k u j hu hj))
  · rcases cases_ms h2 with ⟨h2, hk⟩ | ⟨rfl, rfl⟩
    · have h3 := h.mv k m2 L' h2 hL'
      exact h3.kept (fun j hj => keep j (h3.own hj).2 (h.s3 k m2 j h2 hj).2)
    · rw [hL] at hL'
      cases hL'
      exact hm.kept (fun j hj => keep j (hm.own hj).2 (hlo j hj).2.1)
  · rcases cases_ms h2 with ⟨h2, _⟩ | ⟨rfl, rfl⟩
    · exact h.s1 k k2 m2 u j hk h2 hu hj
    · exact (hlo j hj).2.2.1 k2 u (Ne.symm hk) hu
  · rcases cases_ms ha with ⟨ha1, _⟩ | ⟨rfl, rfl⟩
    · rcases cases_ms hb with ⟨hb1, _⟩ | ⟨rfl, rfl⟩
      · exact h.s2 k k2 a b j hk ha1 hb1 hj
      · exact fun e => (hlo j e).2.2.2 k a hk ha1 hj
    · rcases cases_ms hb with ⟨hb, _⟩ | ⟨rfl, rfl⟩
      · exact (hlo j hj).2.2.2 k2 b (Ne.symm hk) hb
      · exact absurd rfl hk
  · rcases cases_ms h2 with ⟨h2, _⟩ | ⟨rfl, rfl⟩
    · refine ⟨(h.s3 k m2 j h2 hj).1, fun e => ?_⟩
      rcases new j e with e | e
      · exact (h.s3 k m2 j h2 hj).2 e
      · have := lt_m h2 hj; omega
    · refine ⟨(hlo j hj).1, fun e => ?_⟩
      rcases new j e with e | e
      · exact (hlo j hj).2.1 e
      · have := (hm.own hj).2; omega
  · rcases new j e with e | e
    · exact h.s4 k u j hu hj e
    · have := lt_v hu hj; omega
  · rcases new j e with e | e
    · exact h.s5 j hj e
    · have := (h.l.row.lt hj).2; omega
end Go.Proofs.Ytfcjfjmjcmanaaa.B
