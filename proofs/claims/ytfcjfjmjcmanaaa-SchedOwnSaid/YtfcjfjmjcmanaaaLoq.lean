/- SchedOwn: what Least answers, in a row of its own; Nth answers always. -/
import Derived.Test.YtfcjfjmjcmanaaaLhq
import Derived.Test.YtfcjfjmjcmanaaaLjq
import Derived.Test.YtfcjfjmjcmanaaaGc
set_option linter.unusedVariables false
namespace Go.Proofs.Ytfcjfjmjcmanaaa.V
open Go Go.RowKit Go.Proofs.Ytfcjfjmjcmanaaa.X Go.Proofs.Ytfcjfjmjcmanaaa.O Go.Proofs.Ytfcjfjmjcmanaaa.B Go.Proofs.Ytfcjfjmjcmanaaa.PThere Go.Proofs.YtfcjfjmjcmanaaaW.PrintWords Go.Proofs.YtfcjfjmjcmanaaaW.PrintLast Go.Proofs.YtfcjfjmjcmanaaaW.PrintMore
theorem slB_own {W : World} {base : Nat} {ok : Nat → Prop} {v : Value} {L : List Int} (h : Kd.R (Kd.int .i64) 3 W base ok v L) : SlB W (fun j => ok j ∧ base ≤ j) v L := by
  have h0 := h.1
  obtain ⟨A, c, rfl, hc, hC⟩ := Kd.R_reads h
  obtain ⟨inner, ho⟩ := Kd.R_own h
  obtain ⟨hi, ⟨e, h0⟩ | ⟨g, cap, cur, e, hb, hg, hn, hm, hs, ht⟩⟩ := ho
  · exact .inl ⟨e, List.length_eq_zero_iff.1 h0⟩
  · obtain ⟨rfl, _, rfl⟩ : A = some ⟨g, 0, none⟩ ∧ L.length = L.length ∧ c = cap := by simpa using e
    refine .inr ⟨g, 0, c, cur, rfl, ⟨h0 g rfl, hb⟩, hn, hm, by rw [hs]; show 0 + c ≤ c * 1; omega, hg, fun i x hx => ?_⟩
    have hil : i < L.length := (List.getElem?_eq_some_iff.1 hx).1
    obtain ⟨ad, e2, hcell⟩ := Kd.at_int hC (i : Int) (by omega) (by omega)
    obtain rfl : (⟨g, 0, none⟩ : Addr) = ad := by simpa using e2
    rw [Int.toNat_natCast, Addr.add_lit, cell_of_row W g _ cur 3 (0, 0) hg] at hcell
    rw [hcell]
    congr 2
    unfold rd
    rw [Int.toNat_natCast, List.getD_eq_getElem?_getD, hx]; rfl
open Classical in
/-- What Least answers. -/
noncomputable def leastOn (l : List Int) (ps : List (Int × Int)) : List Int × Int :=
  if ¬ (l.length ≤ 512 ∧ ps.length ≤ 256) then ([], 1) else if ¬ (∀ x ∈ l, Hnum x) then ([], 2) else if ¬ PairsOk ps then ([], 2) else (lst (tab ps) l.length l, 0)
theorem leastOn_len (l : List Int) (ps : List (Int × Int)) : (leastOn l ps).1.length ≤ 512 := by
  unfold leastOn
  split
  · simp
  · rename_i h
    have h : l.length ≤ 512 ∧ ps.length ≤ 256 := Classical.not_not.1 h
    split
    · simp
    · split
      · simp
      · rw [lst_length]; exact h.1
theorem pl_own (A0 : Option Addr) (c0 : Nat) (l : List Int) (A1 : Option Addr) (c1 : Nat) (ps : List (Int × Int)) (w : World) (hr0 : Kd.C (Kd.int .i64) w A0 l.length l) (hc0 : l.length ≤ c0) (hr1 : Kd.C Kp w A1 ps.length ps) :
    Calls Try.prog 36 #[.slice A0 l.length c0, .slice A1 ps.length c1] w fun e w' => ∃ v, e = .returned (.tuple #[v, .int .i64 (leastOn l ps).2]) ∧ SlB w' (fun j => w.heap.size ≤ j) v (leastOn l ps).1 ∧ Below w.heap.size w w' := by
  unfold leastOn
  by_cases d1 : l.length ≤ 512 ∧ ps.length ≤ 256
  · rw [if_neg (by simpa using d1)]
    by_cases d2 : ∀ x ∈ l, Hnum x
    · rw [if_neg (by simpa using d2)]
      by_cases d3 : PairsOk ps
      · rw [if_neg (by simpa using d3)]
        refine (pl_goodR A0 c0 l A1 c1 ps w hr0 hc0 hr1 d1.1 d1.2 d2 d3).mono ?_
        rintro e w' ⟨v, rfl, hR, hB⟩
        exact ⟨v, rfl, (slB_own hR).mono (fun j _ h => h.1), hB⟩
      · rw [if_pos d3]
        refine (pl_pair A0 c0 l A1 c1 ps w hr0 hc0 hr1 d1.1 d1.2 d2 d3).mono ?_
        rintro e w' ⟨rfl, hB⟩
        exact ⟨_, rfl, .inl ⟨rfl, rfl⟩, hB⟩
    · rw [if_pos d2]
      refine (pl_num A0 c0 l A1 c1 ps w hr0 hc0 d1.1 d1.2 d2).mono ?_
      rintro e w' ⟨rfl, hB⟩
      exact ⟨_, rfl, .inl ⟨rfl, rfl⟩, hB⟩
  · rw [if_pos d1]
    refine (pl_long A0 c0 l A1 c1 ps w d1).mono ?_
    rintro e w' ⟨rfl, hB⟩
    exact ⟨_, rfl, .inl ⟨rfl, rfl⟩, hB⟩
/-- What Nth answers. -/
def nthOf (l : List Int) (n : Int) : List Int × Int := (sched_Nth.f 1000 l n).getD ([], 0)
theorem nth_any (l : List Int) (n : Int) : sched_Nth.f 1000 l n = some ((nthOf l n).1, (nthOf l n).2) ∧ (nthOf l n).1.length ≤ 24 := by
  have key : ∃ r : List Int × Int, r.1.length ≤ 24 ∧ sched_Nth.f 1000 l n = some r := by
    rcases Count_any l 1000 (by omega) with ⟨s, rfl, hR, hM, hC⟩ | ⟨e, he, hC⟩
    · by_cases hout : n < 0 ∨ ((Mu.M s : Nat) : Int) ≤ n
      · exact ⟨([], 2), by simp, Nth_out s hR hM n hout 1000 (Nat.le_refl _)⟩
      · obtain ⟨n, rfl⟩ := Int.eq_ofNat_of_zero_le (show 0 ≤ n by omega)
        obtain ⟨l, hA, hN⟩ := Nth_spec s hR hM n (by omega) 1000 (Nat.le_refl _)
        have h24 := hR.2.2
        refine ⟨_, ?_, hN⟩
        show (lift l).length ≤ 24
        rw [lift_length, hA.length]; omega
    · exact ⟨([], e), by simp, Nth_wrong l n e he 1000 hC⟩
  obtain ⟨r, h1, h2⟩ := key
  unfold nthOf
  rw [h2]
  exact ⟨rfl, h1⟩
theorem nth_own {W : World} {v : Value} {L : List Int} (h : RdS W v L) (n : Int) : Calls Try.prog 52 #[v, .int .i64 n] W fun e W' => ∃ u, e = .returned (.tuple #[u, .int .i64 (nthOf L n).2]) ∧ SlB W' (fun j => W.heap.size ≤ j) u (nthOf L n).1 ∧ Below W.heap.size W W' := by
  obtain ⟨A, c, rfl, h1, hC⟩ := h
  refine (sched_Nth.calls 1000 A c L n _ _ W hC h1 (nth_any L n).1).mono ?_
  rintro e w' ⟨u, rfl, hR, hB⟩
  exact ⟨u, rfl, (slB_own hR).mono (fun j _ h => h.2), hB⟩
end Go.Proofs.Ytfcjfjmjcmanaaa.V
