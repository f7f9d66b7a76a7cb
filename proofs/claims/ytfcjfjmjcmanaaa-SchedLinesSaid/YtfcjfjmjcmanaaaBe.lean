/- Boards: the walk of Wake. -/
import Derived.Test.YtfcjfjmjcmanaaaBd
set_option linter.unusedVariables false
namespace Go.Proofs.Ytfcjfjmjcmanaaa.B
open Go Go.RowKit Go.Proofs.YtfcjfjmjcmanaaaW.PrintWords Go.Proofs.YtfcjfjmjcmanaaaW.PrintLast Go.Proofs.YtfcjfjmjcmanaaaW.PrintMore
variable {W : World} {T : Nat → Prop} {p g m N : Nat} {B : Bd} {f : Int → Value}
theorem wakes_length : ∀ (L : List Int) (l : List Hd), (wakes L l).length = l.length
  | [], _ => rfl
  | h :: t, l => by rw [wakes, wakes_length t]; simp
theorem wakes_snoc (x : Int) : ∀ (A : List Int) (l : List Hd), wakes (A ++ [x]) l = (wakes A l).set x.toNat (1, 0, 0)
  | [], _ => rfl
  | h :: t, l => by rw [List.cons_append, wakes, wakes, wakes_snoc x t]
theorem Sl.cell {A : Option Addr} {n c : Nat} {L : List Int} (h : Sl W T (.slice A n c) L) (k : Int) (h0 : 0 ≤ k) (h1 : k < (L.length : Int)) : ∃ ad, A = some ad ∧ W.cell? (ad.add k.toNat) = some (.int .i64 (rd L k)) := by
  obtain ⟨A', c', e, _, hC⟩ := h.C
  have eA : A = A' := by injection e
  subst eA
  exact Kd.at_int hC k h0 h1
set_option maxRecDepth 100000 in
set_option maxHeartbeats 4000000 in
theorem wake_calls (hb : Bat W T p g m N B f) (on : Int) (hon : (Lit.int .i64 on).wf = true) (hq : ∀ h ∈ B.q on, B.has h = true) (hlen : (B.q on).length ≤ 1000) :
    Calls Try.prog 44 #[.pointer (some ⟨p, 0, none⟩), .int .i64 on] W fun e W' => ∃ v, e = .returned v ∧ Sl W' (fun i => T i ∧ v.ownBlock = some i) v (B.q on) ∧ ∃ T' f', Bat W' T' p g m N (B.wake on) f' ∧ Turn T W W' ∧ ∀ i, T' i → T i ∧ v.ownBlock ≠ some i := by
  obtain ⟨c0, c1⟩ := hb.cells
  obtain ⟨A, c, hv, hc, _⟩ := (hb.hf on hon).C
  have hl := hb.hm.look hon
  obtain ⟨W2, hr, hb2, hs2, ht2⟩ := hb.drop hon 0
  have s5 : ∀ ty, (Builtin.delete_ #[123, 3] ty #[.map (some m), .int .i64 on]).run Try.prog W = .ok (.tuple #[]) W2 := fun _ => hr
  rw [hv] at hl hs2
  obtain ⟨L, hL⟩ : ∃ L, B.q on = L := ⟨_, rfl⟩
  unfold Bd.wake
  rw [hL] at hl hs2 hq hlen hv ⊢
  have HV := Aside0.mk hv
  have HB2 := Aside0.mk hb2
  have HS2 := Aside0.mk hs2
  have HT2 := Aside0.mk ht2
  have HQ := Aside0.mk hq
  have HL := Aside0.mk hlen
  clear hb hv hc hr hb2 hs2 ht2 hq hlen hon hL
  go_enter Try.func44, Try.ntmps44
  go_wp2
  go_loopw [23] (fun vi wr => ∃ k : Int, vi = .int .i64 k ∧ Aside0 (0 ≤ k ∧ k ≤ (L.length : Int)) ∧ Aside0 (Bat wr (fun i => T i ∧ (f on).ownBlock ≠ some i) p g m N ⟨wakes (L.take k.toNat) B.l, upd B.q on []⟩ (upd f on nilv)) ∧ Aside0 (Turn (fun i => T i ∧ (f on).ownBlock ≠ some i) W2 wr)) (fun vi _ => ((L.length : Int) - intOf vi).toNat)
  case atStart => exact ⟨0, rfl, ⟨by omega⟩, ⟨by simpa [wakes] using HB2.out⟩, ⟨Turn.refl _ _⟩⟩
  case round =>
    obtain ⟨k, rfl, Hk, HBk, HTk⟩ := hrel
    rename World => W3
    have hs3 : Sl W3 (fun i => T i ∧ (Value.slice A L.length c).ownBlock = some i) (.slice A L.length c) L := HS2.out.kept (fun j hj => HTk.out.block j (HS2.out.own hj).2 (fun h => h.2 (by rw [HV.out]; exact hj)))
    by_cases hlt : k < (L.length : Int)
    · have hltb : decide (k < (L.length : Int)) = true := decide_eq_true hlt
      have p0 := Hk.out.1
      obtain ⟨ad, rfl, hx⟩ := hs3.cell k p0 hlt
      obtain ⟨x, hxx⟩ : ∃ x, rd L k = x := ⟨_, rfl⟩
      rw [hxx] at hx
      have hkn : k.toNat < L.length := by omega
      have hgx : L[k.toNat] = x := by rw [← hxx]; unfold rd; rw [List.getD_eq_getElem?_getD, List.getElem?_eq_getElem hkn]; rfl
      obtain ⟨_, h0, h1, h2⟩ := B.get (HQ.out x (by rw [← hgx]; exact List.getElem_mem _))
      have hwl : (wakes (L.take k.toNat) B.l).length = B.l.length := wakes_length _ _
      obtain ⟨y, hy⟩ : ∃ y, (wakes (L.take k.toNat) B.l)[x.toNat]? = some y := ⟨_, List.getElem?_eq_getElem (by rw [hwl]; exact h2)⟩
      obtain ⟨d0, d1, d2⟩ := HBk.out.hg.cells hy
      have e1 := HBk.out.hg.free
      obtain ⟨e2, e3⟩ := HBk.out.cells
      simp only [hwl] at e2
      have HP := HBk.out.put x.toNat (1, 0, 0)
      have hw1 : wrap64 (k + 1) = k + 1 := X.hwrId (by omega) (by have := HL.out; omega)
      have hsn : (wakes (L.take k.toNat) B.l).set x.toNat (1, 0, 0) = wakes (L.take (k + 1).toNat) B.l := by
        rw [← wakes_snoc, show (k + 1).toNat = k.toNat + 1 by omega, List.take_add_one, List.getElem?_eq_getElem hkn, hgx]; rfl
      simp only [hsn] at HP
      have HP := Aside0.mk HP
      have HW := Aside0.mk hw1
      replace p0 := eq_true p0
      replace hlt := eq_true hlt
      replace h0 := eq_true h0
      replace h1 := eq_true h1
      clear hs3 hgx hkn hxx hw1 hsn hy hwl h2
      go_wp2
      have hp := HP.out
      exact ⟨⟨wrap64 (k + 1), rfl, ⟨by rw [HW.out]; have := Hk.out; have := of_eq_true hlt; omega⟩, ⟨by rw [HW.out]; exact hp.1⟩, ⟨HTk.out.trans hp.2 (fun _ h => .inl h)⟩⟩, by rw [HW.out]; simp only [intOf]; have := Hk.out; have := of_eq_true hlt; omega⟩
    · have hltb : decide (k < (L.length : Int)) = false := decide_eq_false hlt
      have hk : k.toNat = L.length := by have := Hk.out; omega
      have HBz := HBk.out
      rw [hk, List.take_length] at HBz
      have HBZ := Aside0.mk HBz
      have HS3 := Aside0.mk hs3
      clear hlt hk HBz hs3
      go_wp2
      go_ret
      exact ⟨.slice A L.length c, rfl, HS3.out, _, _, HBZ.out, HT2.out.trans (HTk.out.mono (fun _ h => h.1)) (fun _ h => .inl h), fun i hi => ⟨hi.1, by have h := hi.2; rw [HV.out] at h; exact h⟩⟩
end Go.Proofs.Ytfcjfjmjcmanaaa.B
