/- Mixes: the iterator. SchedSmall: how often each stands; where the least lies among the mixes. Plain. Mixes: the iterator's walk. Mixes: what it answers. -/
import Derived.Test.YtfcjfjmjcmanaaaGb
import Derived.Test.YtfcjfjmjcmanaaaGm
import Derived.Test.YtfcjfjmjcmanaaaGw
import Derived.Laws.EntriesVeiled
set_option linter.unusedVariables false
namespace Go.Proofs.Ytfcjfjmjcmanaaa.V
open Go Go.RowKit Go.Proofs.Ytfcjfjmjcmanaaa.X Go.Proofs.Ytfcjfjmjcmanaaa.PThere Go.Proofs.Ytfcjfjmjcmanaaa.O Go.Proofs.Ytfcjfjmjcmanaaa.B Go.Proofs.YtfcjfjmjcmanaaaW.PrintWords Go.Proofs.YtfcjfjmjcmanaaaW.PrintLast Go.Proofs.YtfcjfjmjcmanaaaW.PrintMore
attribute [local go_sem] Oper.semAt_some
/-- Steps whose mixes are gone over. -/
def Okm (s : List Nat) : Prop := Right s ∧ Mu.M s ≤ 1048576
instance (s : List Nat) : Decidable (Okm s) := by unfold Okm Right; infer_instance
def toN (L : List Int) : List Nat := L.map Int.toNat
theorem toN_lift (s : List Nat) : toN (lift s) = s := by
  unfold toN lift
  rw [List.map_map]
  conv => rhs; rw [← List.map_id s]
  rfl
/-- Is there anything to go over? -/
def fewOk (L : List Int) : Bool := decide (lift (toN L) = L ∧ Okm (toN L))
theorem few_yes {L : List Int} (h : fewOk L = true) : ∃ s, L = lift s ∧ Okm s ∧ toN L = s := by
  have := of_decide_eq_true h
  exact ⟨toN L, this.1.symm, this.2, rfl⟩
theorem few_lift {s : List Nat} (h : Okm s) : fewOk (lift s) = true := by
  unfold fewOk
  rw [toN_lift]
  exact decide_eq_true ⟨rfl, h⟩
theorem le_mil (m : Nat) : decide (((m : Nat) : Int) ≤ 1048576) = decide (m ≤ 1048576) := decide_eq_decide.2 (by omega)
/-- What Count tells of it. -/
theorem count_few (L : List Int) : ∃ r1 r2 : Int, sched_Count.f 80 L = some (r1, r2) ∧ fewOk L = (decide (r2 = 0) && decide (r1 ≤ 1048576)) := by
  rcases Count_any L 80 (Nat.le_refl _) with ⟨s, rfl, h1, h2, h3⟩ | ⟨e, h1, h2⟩
  · refine ⟨_, _, h3, ?_⟩
    unfold fewOk
    rw [toN_lift, le_mil]
    simp [Okm, h1]
  · refine ⟨_, _, h2, ?_⟩
    rw [decide_eq_false h1, Bool.false_and]
    refine decide_eq_false ?_
    rintro ⟨h3, h4⟩
    have hm : Mu.M (toN L) ≤ 4611686018427387904 := Nat.le_trans h4.2 (by decide)
    have := Count_spec (toN L) h4.1 80 (Nat.le_refl _)
    rw [if_pos hm, h3, h2] at this
    injection this with this
    injection this with _ this
    exact h1 this
variable {W W' : World} {T : Nat → Prop} {v : Value} {L : List Int}
theorem few_calls (h : RdS W v L) : Calls Try.prog 107 #[v] W fun e W' => e = .returned (.bool (fewOk L)) ∧ Drawn0 W W' := by
  obtain ⟨r1, r2, hc, hf⟩ := count_few L
  obtain ⟨A, c, rfl, h1, hC⟩ := h
  have hk := sched_Count.calls 80 A c L r1 r2 W hC h1 hc
  rw [hf]
  have HK := Aside0.mk hk
  clear hc hf hk hC h1
  by_cases e2 : r2 = 0
  · subst e2
    by_cases e1 : r1 ≤ 1048576
    · have e1b : decide (r1 ≤ 1048576) = true := decide_eq_true e1
      go_enter Try.func107, Try.ntmps107
      go_wp2_with (go_at_call 51; refine HK.out.mono ?_; rintro e w2 ⟨rfl, hd⟩)
      go_ret
      exact ⟨by first | rfl | (simp; done) | (simp [*]; done), hd⟩
    · have e1b : decide (r1 ≤ 1048576) = false := decide_eq_false e1
      go_enter Try.func107, Try.ntmps107
      go_wp2_with (go_at_call 51; refine HK.out.mono ?_; rintro e w2 ⟨rfl, hd⟩)
      go_ret
      exact ⟨by first | rfl | (simp; done) | (simp [*]; done), hd⟩
  · have e2b : (r2 == 0) = false := by simpa using e2
    rw [decide_eq_false e2, Bool.false_and]
    go_enter Try.func107, Try.ntmps107
    go_wp2_with (go_at_call 51; refine HK.out.mono ?_; rintro e w2 ⟨rfl, hd⟩)
    go_ret
    exact ⟨by first | rfl | (simp; done) | (simp [*]; done), hd⟩
/-- The lists of Mixes. -/
def mixesOf (L : List Int) : List (List Int) := if fewOk L = true then genL nxtM (toN L).sum (toN L) () else []
theorem own_rw {b : Nat} (h : W.ownsRow b 3 1 v L.length (L.map (Value.int .i64))) (hL : L ≠ []) : ∃ g cap, v = .slice (some ⟨g, 0, none⟩) L.length cap ∧ b ≤ g ∧ L.length ≤ cap ∧ cap ≤ maxLen ∧ Rw W g cap L := by
  obtain ⟨_, ⟨_, h0⟩ | ⟨g, cap, cur, rfl, hb, hg, hc, hm, hs, ht⟩⟩ := h
  · exact absurd (List.length_eq_zero_iff.1 h0) hL
  · refine ⟨g, cap, rfl, hb, hc, hm, cur, hg, by omega, hc, fun i x hi => ?_⟩
    have hl := (List.getElem?_eq_some_iff.1 hi).1
    have := congrArg (fun l => l[i]?) ht
    simp only [Nat.mul_one] at this
    rw [List.getElem?_take_of_lt hl, List.getElem?_map, hi] at this
    simpa using this
theorem Rw.slB {r n cap : Nat} (h : Rw W r n L) (hc : L.length ≤ cap) (hn : cap ≤ n) (hm : cap ≤ maxLen) : SlB W (fun b => b = r) (.slice (some ⟨r, 0, none⟩) L.length cap) L := by
  obtain ⟨cur, h1, h2, h3, h4⟩ := h
  exact .inr ⟨r, 0, cap, cur, rfl, rfl, hc, hm, by omega, h1, fun i x hi => by rw [Nat.zero_add]; exact h4 i x hi⟩
theorem sum_calls {s : List Nat} (hr : Right s) (h : SlB W T v (lift s)) : Calls Try.prog 105 #[v] W fun e W' => e = .returned (.int .i64 ((s.sum : Nat) : Int)) ∧ Drawn0 W W' := by
  obtain ⟨A, c, rfl, h1, h2, hC⟩ := h.C
  exact sched_sum.calls 80 A c (lift s) _ W hC h1 (sum_spec s hr 80 (Nat.le_refl _))
theorem make_zero (S : Nat) (hS : S ≤ 4096) (W : World) : (Instr.makeSlice 26 (.int .i64 0) (.int .i64 (S : Int))).run Try.prog W = .ok (.slice (some ⟨W.heap.size, 0, none⟩) 0 S) (W.alloc (.cells (madeCells #[.int .i64 0] S) 3)) := by
  obtain ⟨i0, hi0, hz0, hz1, hz2⟩ := info_parts info3v
  have h := run_make (P := Try.prog) W 26 3 i0 (.int .i64 0) Try.underlying26 hi0 hz0 .i64 .i64 (0 : Int) (S : Int) (by omega) (by omega) (by rw [hz2]; omega) (by omega)
  rw [h, hz1]
  simp [Value.cells]
/-- The six blocks laid. -/
theorem m_start {By Bl rl cl n l S Z : Nat} {fv : Value} {ts : TypeId} {s : List Nat} {w4 : World} (hy : Boxed w4 By 102 (.func (.yield l) #[] #[])) (hl : Boxed w4 Bl 26 (.slice (some ⟨rl, 0, none⟩) s.length cl)) (hrl : Rw w4 rl n (s.map fun x : Nat => (x : Int))) (cll : s.length ≤ cl) (h1 : By ≠ rl) (h2 : Bl ≠ rl) (hZ : w4.heap.size = Z) :
    (((w4.alloc (.cells (madeCells #[.int .i64 0] S) 3)).alloc (.cells #[.slice (some ⟨Z, 0, none⟩) 0 S] 26)).alloc (.cells #[fv] ts)).frozen? ⟨Z + 1 + 1, 0, none⟩ = false ∧
    (((w4.alloc (.cells (madeCells #[.int .i64 0] S) 3)).alloc (.cells #[.slice (some ⟨Z, 0, none⟩) 0 S] 26)).alloc (.cells #[fv] ts)).cell? ⟨Z + 1 + 1, 0, none⟩ = some fv ∧
    OM ⟨Z + 1, By, Bl, Z + 1 + 1, Z, rl⟩ ts fv S cl n l (((w4.alloc (.cells (madeCells #[.int .i64 0] S) 3)).alloc (.cells #[.slice (some ⟨Z, 0, none⟩) 0 S] 26)).alloc (.cells #[fv] ts)) 0 [] s ∧
    StepS (fun _ => False) w4 (((w4.alloc (.cells (madeCells #[.int .i64 0] S) 3)).alloc (.cells #[.slice (some ⟨Z, 0, none⟩) 0 S] 26)).alloc (.cells #[fv] ts)) ∧
    (((w4.alloc (.cells (madeCells #[.int .i64 0] S) 3)).alloc (.cells #[.slice (some ⟨Z, 0, none⟩) 0 S] 26)).alloc (.cells #[fv] ts)).heap.size = Z + 3 := by
  subst hZ
  have bs := Boxed.new ((w4.alloc (.cells (madeCells #[.int .i64 0] S) 3)).alloc (.cells #[.slice (some ⟨w4.heap.size, 0, none⟩) 0 S] 26)) ts fv
  have bp := (Boxed.new (w4.alloc (.cells (madeCells #[.int .i64 0] S) 3)) 26 (.slice (some ⟨w4.heap.size, 0, none⟩) 0 S)).alloc (.cells #[fv] ts)
  simp only [World.size_alloc] at bs bp
  have br : (((w4.alloc (.cells (madeCells #[.int .i64 0] S) 3)).alloc (.cells #[.slice (some ⟨w4.heap.size, 0, none⟩) 0 S] 26)).alloc (.cells #[fv] ts)).heap[w4.heap.size]? = some (.cells (madeCells #[.int .i64 0] S) 3 (0, 0)) :=
    (Below.heap_alloc _ _ _ (by simp; omega)).trans ((Below.heap_alloc _ _ _ (by simp)).trans (World.alloc_heap_new w4 _))
  have kb : ∀ b, b < w4.heap.size → (((w4.alloc (.cells (madeCells #[.int .i64 0] S) 3)).alloc (.cells #[.slice (some ⟨w4.heap.size, 0, none⟩) 0 S] 26)).alloc (.cells #[fv] ts)).heap[b]? = w4.heap[b]? := fun b hb =>
    (Below.heap_alloc _ _ _ (by simp; omega)).trans ((Below.heap_alloc _ _ _ (by simp; omega)).trans (Below.heap_alloc _ _ _ hb))
  have hsz : (((w4.alloc (.cells (madeCells #[.int .i64 0] S) 3)).alloc (.cells #[.slice (some ⟨w4.heap.size, 0, none⟩) 0 S] 26)).alloc (.cells #[fv] ts)).heap.size = w4.heap.size + 3 := by simp
  have hst : StepS (fun _ => False) w4 (((w4.alloc (.cells (madeCells #[.int .i64 0] S) 3)).alloc (.cells #[.slice (some ⟨w4.heap.size, 0, none⟩) 0 S] 26)).alloc (.cells #[fv] ts)) := stepS_trans (stepS_trans (stepS_alloc _ _) (stepS_alloc _ _)) (stepS_alloc _ _)
  generalize (((w4.alloc (.cells (madeCells #[.int .i64 0] S) 3)).alloc (.cells #[.slice (some ⟨w4.heap.size, 0, none⟩) 0 S] 26)).alloc (.cells #[fv] ts)) = X at *
  have ly := hy.lt
  have ll := hl.lt
  have lr := hrl.lt
  exact ⟨bs.frozen, bs.cell, ⟨bp, (kb _ ly).trans hy, (kb _ ll).trans hl, bs, ⟨_, br, by simp [size_madeCells], by simp, fun i x hi => by simp at hi⟩, hrl.of_block (kb _ lr), ⟨by simp; omega, by simp; omega, by simp, by simp, by simp; omega, by simp; omega, by simp; omega, by simp; omega, by simp; omega, h1, h2, by simp; omega⟩, cll⟩, hst, hsz⟩
theorem below_step0 {n : Nat} {A B : World} (h : Below n A B) (hn : A.heap.size ≤ n) : StepS (fun _ => False) A B := ⟨h.os, h.tape, h.output, h.size, fun k hk _ => h.block k (by omega)⟩
theorem drawn_step0 {A B : World} (h : Drawn0 A B) : StepS (fun _ => False) A B ∧ B.heap = A.heap := by
  obtain ⟨k, rfl⟩ := h
  exact ⟨below_step0 (pw_below_drewN (Below.refl A.heap.size A) k) (Nat.le_refl _), by simp⟩
/-- A copy of steps. -/
theorem clone_lift {s : List Nat} (hr : Right s) (h : SlB W T v (lift s)) : Calls Try.prog 85 #[v] W fun e W' => ∃ rl cl, e = .returned (.slice (some ⟨rl, 0, none⟩) s.length cl) ∧ W.heap.size ≤ rl ∧ s.length ≤ cl ∧ cl ≤ maxLen ∧ Rw W' rl cl (s.map fun x : Nat => (x : Int)) ∧ Below W.heap.size W W' := by
  have hl := hr.2.1
  have h1 := hr.1
  refine (clone_row h (by rw [lift_length]; omega)).mono ?_
  rintro e W' ⟨u, rfl, ho, hB⟩
  obtain ⟨g, cap, rfl, q1, q2, q3, q4⟩ := own_rw ho (by intro z; have h2 := congrArg List.length z; rw [lift_length] at h2; have h3 : s.length = 0 := h2; omega)
  rw [lift_length] at q2 ⊢
  exact ⟨g, cap, rfl, q1, q2, q3, q4, hB⟩
end Go.Proofs.Ytfcjfjmjcmanaaa.V
set_option linter.unusedVariables false
namespace Go.Proofs.Ytfcjfjmjcmanaaa.V
open Go Go.RowKit Go.Proofs.Ytfcjfjmjcmanaaa.X Go.Proofs.YtfcjfjmjcmanaaaW.PrintWords Go.Proofs.YtfcjfjmjcmanaaaW.PrintLast Go.Proofs.YtfcjfjmjcmanaaaW.PrintMore
/-- How often each handler stands in a list. -/
def cnts (F : List Int) : List Nat := (List.range 16).map fun h : Nat => F.count (h : Int)
theorem cnts_len (F : List Int) : (cnts F).length = 16 := by simp [cnts]
theorem cnts_at (F : List Int) (i : Nat) (hi : i < 16) : (cnts F).getD i 0 = F.count (i : Int) := by
  rw [List.getD_eq_getElem?_getD]
  simp [cnts, hi]
theorem cnts_nil : cnts [] = List.replicate 16 0 := by decide
theorem cnts_next (F : List Int) (x : Int) (hx : Hnum x) : cnts (F ++ [x]) = (cnts F).set x.toNat (F.count x + 1) := by
  apply List.ext_getElem
  · simp [cnts_len]
  · intro i h1 h2
    rw [cnts_len] at h1
    rw [List.getElem_set]
    simp only [cnts, List.getElem_map, List.getElem_range]
    rw [List.count_append]
    have hxn : ((x.toNat : Nat) : Int) = x := by have := hx.1; omega
    by_cases e : x.toNat = i
    · rw [if_pos e]
      subst e
      rw [hxn]; simp
    · rw [if_neg e]
      have : (x == (i : Int)) = false := by simp; omega
      rw [List.count_singleton, this]; simp
theorem sum_set (l : List Nat) : ∀ (i : Nat), i < l.length → (l.set i (l.getD i 0 + 1)).sum = l.sum + 1 := by
  induction l with
  | nil => intro i h; simp at h
  | cons n l ih =>
    intro i h
    cases i with
    | zero => simp; omega
    | succ i => have := ih i (by simpa using h); simp at this ⊢; omega
theorem cnts_sum : ∀ (n : Nat) (F : List Int), F.length = n → (∀ x ∈ F, Hnum x) → (cnts F).sum = n
  | 0, F, h, _ => by rw [List.length_eq_zero_iff.1 h]; decide
  | n + 1, F, h, hF => by
    obtain ⟨G, x, rfl⟩ : ∃ G x, F = G ++ [x] := by
      have hne : F ≠ [] := by intro z; rw [z] at h; simp at h
      exact ⟨F.dropLast, F.getLast hne, (List.dropLast_concat_getLast hne).symm⟩
    have hx : Hnum x := hF x (by simp)
    rw [cnts_next G x hx]
    have hi : x.toNat < 16 := by have := hx.1; have := hx.2; omega
    have e : G.count x = (cnts G).getD x.toNat 0 := by
      rw [cnts_at G _ hi]
      congr 1
      have := hx.1; omega
    rw [e, sum_set _ _ (by rw [cnts_len]; exact hi), cnts_sum n G (by simpa using h) (fun y hy => hF y (by simp [hy]))]
theorem fac_six {n : Nat} (h : n ≤ 6) : Mu.fac n ≤ 720 := by
  rcases (show n = 0 ∨ n = 1 ∨ n = 2 ∨ n = 3 ∨ n = 4 ∨ n = 5 ∨ n = 6 by omega) with z | z | z | z | z | z | z <;> subst z <;> decide
theorem cnts_okm {F : List Int} (h : F.length ≤ 6) (hF : ∀ x ∈ F, Hnum x) : Okm (cnts F) := by
  have hs := cnts_sum F.length F rfl hF
  refine ⟨⟨by rw [cnts_len]; omega, by rw [cnts_len]; omega, by omega⟩, ?_⟩
  have h1 := Mu.M_fac (cnts F)
  rw [hs] at h1
  have h2 := fac_six h
  have h3 := Mu.facs_pos (cnts F)
  have h4 : Mu.M (cnts F) * 1 ≤ Mu.M (cnts F) * Mu.facs (cnts F) := Nat.mul_le_mul_left _ h3
  omega
/-- Where the least lies. -/
theorem small_at {t : Int → Int → Bool} (ht : Ap t) {F : List Int} (h : F.length ≤ 6) (hF : ∀ x ∈ F, Hnum x) : ∃ k0 : Nat, (mixesOf (lift (cnts F)))[k0]? = some (lst t F.length F) := by
  have hok := cnts_okm h hF
  have hm : mixesOf (lift (cnts F)) = genL nxtM (cnts F).sum (cnts F) () := by unfold mixesOf; rw [if_pos (few_lift hok), toN_lift]
  rw [hm, cnts_sum F.length F rfl hF]
  have hnum : ∀ x ∈ lst t F.length F, Hnum x := fun x hx => hF x (lst_mem ht x F.length F rfl hx)
  have mem : lst t F.length F ∈ genL nxtM F.length (cnts F) () := by
    refine mix_mem _ _ _ (lst_length _ _ _) (fun x hx => ?_) (fun i => ?_)
    · rw [cnts_len]; exact hnum x hx
    · by_cases hi : i < 16
      · rw [cnts_at F i hi]
        have e := lst_al ht F (i : Int) (i : Int) (ht.irr _)
        have c : ∀ M : List Int, M.count (i : Int) = (M.filter (two (i : Int) (i : Int))).length := fun M => by
          rw [List.count_eq_length_filter]
          congr 1
          exact List.filter_congr fun z _ => by simp [two]
        rw [c, c, e]
      · rw [List.getD_eq_getElem?_getD, List.getElem?_eq_none (by rw [cnts_len]; omega)]
        exact List.count_eq_zero.2 fun z => by have := hnum _ z; have := this.2; omega
  obtain ⟨k0, hk, e⟩ := List.mem_iff_getElem.1 mem
  exact ⟨k0, by rw [List.getElem?_eq_getElem hk, e]⟩
theorem small_mem {F : List Int} (h : F.length ≤ 6) (hF : ∀ x ∈ F, Hnum x) {M : List Int} (hM : M ∈ mixesOf (lift (cnts F))) : M.length = F.length ∧ ∀ x ∈ M, Hnum x := by
  have hok := cnts_okm h hF
  have hm : mixesOf (lift (cnts F)) = genL nxtM (cnts F).sum (cnts F) () := by unfold mixesOf; rw [if_pos (few_lift hok), toN_lift]
  rw [hm, cnts_sum F.length F rfl hF] at hM
  refine ⟨gen_len _ _ _ _ hM, fun x hx => ?_⟩
  have := gen_num _ _ _ _ hM x hx
  rw [cnts_len] at this
  exact this
theorem small_rise {F : List Int} (h : F.length ≤ 6) (hF : ∀ x ∈ F, Hnum x) : (mixesOf (lift (cnts F))).Pairwise (fun a b => blw a b = true) := by
  unfold mixesOf
  split
  · exact gen_rise _ _ _
  · exact List.Pairwise.nil
/-- At or ahead of the least: alike just there. -/
theorem small_hit {ps : List (Int × Int)} {F : List Int} (h : F.length ≤ 6) (hF : ∀ x ∈ F, Hnum x) {k k0 : Nat} {M : List Int} (hk0 : (mixesOf (lift (cnts F)))[k0]? = some (lst (tab ps) F.length F)) (hk : (mixesOf (lift (cnts F)))[k]? = some M) (hle : k ≤ k0) : (AlN ps M F → M = lst (tab ps) F.length F) ∧ (¬ AlN ps M F → k + 1 ≤ k0) := by
  have ht := tab_ap ps
  obtain ⟨hMl, hMn⟩ := small_mem h hF (List.mem_of_getElem? hk)
  have key : k < k0 → AlN ps M F → False := fun hlt hal => by
    have hA : Al (tab ps) M F := al_of_nums ht hMn hF (fun a b ha hb hab hap => hal a b ha.1 hab hb.2 hap)
    have h1 := al_low ht hMl hA
    obtain ⟨i1, e1⟩ := List.getElem?_eq_some_iff.1 hk
    obtain ⟨i2, e2⟩ := List.getElem?_eq_some_iff.1 hk0
    have h2 := List.pairwise_iff_getElem.1 (small_rise h hF) k k0 i1 i2 hlt
    rw [e1, e2, h1] at h2
    cases h2
  refine ⟨fun hal => ?_, fun hn => ?_⟩
  · rcases Nat.lt_or_ge k k0 with z | z
    · exact (key z hal).elim
    · obtain rfl : k = k0 := by omega
      rw [hk] at hk0; exact Option.some.inj hk0
  · rcases Nat.lt_or_ge k k0 with z | z
    · exact z
    · obtain rfl : k = k0 := by omega
      rw [hk] at hk0
      obtain rfl := Option.some.inj hk0
      refine (hn fun a b h1 h2 h3 hap => ?_).elim
      exact lst_al ht F a b hap
end Go.Proofs.Ytfcjfjmjcmanaaa.V
set_option linter.unusedVariables false
namespace Go.Proofs.Ytfcjfjmjcmanaaa.V
open Go Go.RowKit Go.Proofs.Ytfcjfjmjcmanaaa.X Go.Proofs.Ytfcjfjmjcmanaaa.PThere Go.Proofs.Ytfcjfjmjcmanaaa.O Go.Proofs.Ytfcjfjmjcmanaaa.B Go.Proofs.YtfcjfjmjcmanaaaW.PrintWords Go.Proofs.YtfcjfjmjcmanaaaW.PrintLast Go.Proofs.YtfcjfjmjcmanaaaW.PrintMore
attribute [local go_sem] Oper.semAt_some
set_option maxRecDepth 100000
set_option maxHeartbeats 4000000
/-- The iterator of Mixes. -/
theorem mixes_in (n : Nat) (hn : 1 ≤ n) (l Bo Bs : Nat) (L : List Int) (sv : Value) (Rd : Nat → Prop) (J Jx : Nat → (Nat → Prop) → World → Prop) (hJ : AbidesS J) (hJx : AbidesS Jx)
    (hY : ∀ i L' T T1 v W1, (mixesOf L)[i]? = some L' → J i T1 W1 → (∀ b, T b → T1 b) → (∀ b, T1 b ∨ Rd b → b < W1.heap.size) → SlB W1 (fun b => T1 b ∧ ¬ T b ∧ ¬ Rd b) v L' → YieldAt Fence.wide (n - 1) Try.prog l #[v] W1 fun e W' =>
      (e = .returned (.bool true) ∧ J (i + 1) T W' ∧ KeepsT (fun b => T b ∨ Rd b) W1 W') ∨ (e = .returned (.bool false) ∧ Jx (i + 1) T W' ∧ KeepsT T W1 W'))
    (W : World) (hR : ∀ b, Rd b → b < W.heap.size) (hBo : Boxed W Bo 4 (.bool (fewOk L))) (hBs : Boxed W Bs 26 sv) (hsv : SlB W Rd sv L) (h0 : J 0 (fun _ => False) W) :
    CallsIn Fence.wide n Try.prog 108 #[.func (.yield l) #[] #[], .pointer (some ⟨Bo, 0, none⟩), .pointer (some ⟨Bs, 0, none⟩)] W fun e W' => (∃ v, e = .returned v) ∧
      ((∃ T, J (mixesOf L).length T W') ∨ (∃ i T, i ≤ (mixesOf L).length ∧ Jx i T W')) := by
  by_cases hf : fewOk L = true
  · obtain ⟨s, rfl, hok, hs⟩ := few_yes hf
    have hm : mixesOf (lift s) = genL nxtM s.sum s () := by unfold mixesOf; rw [if_pos hf, toN_lift]
    rw [hm] at hY ⊢
    have C := fun (B : Blk) => (⟨hJ, hJx, fun i L' T' T1 v W1 h1 h2 h3 h4 h5 => yieldAt_wide (hY i L' T' T1 v W1 h1 h2 h3 h4 h5)⟩ : Ctx (genL nxtM s.sum s ()) l Rd B.T J Jx)
    have HC := Aside0.mk C
    have HJ := Aside0.mk h0
    have HOK := Aside0.mk hok
    have HSV := Aside0.mk hsv
    have HR := Aside0.mk hR
    clear hJ hJx hY C h0 hok hsv hm hs hR
    rw [hf] at hBo
    refine callsIn_of_wp Try.func108 rfl trivial ?_ rfl
    simp only [Try.ntmps108, List.size_toArray, List.length_cons, List.length_nil, Nat.reduceAdd, Nat.reduceSub, Array.replicate_succ, Array.replicate_zero, List.push_toArray, List.append_toArray, List.nil_append, List.cons_append]
    have hy1 := Boxed.new W 102 (.func (.yield l) #[] #[])
    have kw : ∀ b, b < W.heap.size → (W.alloc (.cells #[.func (.yield l) #[] #[]] 102)).heap[b]? = W.heap[b]? := fun b hb => Below.heap_alloc W _ b hb
    have co := Boxed.cell (show Boxed (W.alloc (.cells #[.func (.yield l) #[] #[]] 102)) Bo 4 (.bool true) from (kw Bo hBo.lt).trans hBo)
    have cs := Boxed.cell (show Boxed (W.alloc (.cells #[.func (.yield l) #[] #[]] 102)) Bs 26 sv from (kw Bs hBs.lt).trans hBs)
    have hst0 : StepS (fun _ => False) W (W.alloc (.cells #[.func (.yield l) #[] #[]] 102)) := stepS_alloc _ _
    have hsz0 : (W.alloc (.cells #[.func (.yield l) #[] #[]] 102)).heap.size = W.heap.size + 1 := by simp
    have HSV1 := Aside0.mk (HSV.out.kept (W' := W.alloc (.cells #[.func (.yield l) #[] #[]] 102)) (fun j hj => kw j (HSV.out.own hj).2))
    obtain ⟨By, hBy⟩ : ∃ By, W.heap.size = By := ⟨_, rfl⟩
    rw [hBy] at hy1 hsz0
    gi_wp2_with (first
      | (refine ⟨trivial, ?_⟩; gi_at_call 85; go_loud (refine (callsIn_wide.2 (clone_lift HOK.out.1 HSV1.out)).mono ?_; rintro e w2 ⟨rl, cl, rfl, hrl, hcl, hcm, hrw, hB⟩; rw [hsz0] at hB hrl; have hyl := (show Boxed (w2.alloc (.cells #[.slice (some ⟨rl, 0, none⟩) s.length cl] 26)) By 102 (.func (.yield l) #[] #[]) from (Below.heap_alloc w2 _ _ (by have := hB.size; omega)).trans ((hB.block By (by omega)).trans hy1)); have hll := Boxed.new w2 26 (.slice (some ⟨rl, 0, none⟩) s.length cl); have hrw2 : Rw (w2.alloc (.cells #[.slice (some ⟨rl, 0, none⟩) s.length cl] 26)) rl cl (s.map fun x : Nat => (x : Int)) := hrw.of_block (Below.heap_alloc w2 _ _ hrw.lt); have hcl2 := hll.cell; have HL3 := Aside0.mk (And.intro hyl (And.intro hll (And.intro hrw2 (And.intro hcl (And.intro hcm (And.intro hrl hrw.lt)))))); have HS3 := Aside0.mk (stepS_trans (stepS_trans hst0 (below_step0 hB (by omega))) (stepS_alloc w2 (.cells #[.slice (some ⟨rl, 0, none⟩) s.length cl] 26))); have HZ3 := Aside0.mk hB.size; clear hrw hrw2 hyl hll hB hrl hcl hcm))
      | (refine ⟨trivial, ?_⟩; gi_at_call 105; go_loud (refine (callsIn_wide.2 (sum_calls HOK.out.1 (by have := HL3.out.2.2.1.slB (by simpa using HL3.out.2.2.2.1) (Nat.le_refl _) HL3.out.2.2.2.2.1; rw [List.length_map] at this; exact this))).mono ?_; rintro e w4 ⟨rfl, hd⟩; obtain ⟨Z, hZ⟩ : ∃ Z, w4.heap.size = Z := ⟨_, rfl⟩; obtain ⟨st4, hp4⟩ := drawn_step0 hd; have hp5 : ∀ b : Nat, w4.heap[b]? = (w2.alloc (.cells #[.slice (some ⟨rl, 0, none⟩) s.length cl] 26)).heap[b]? := fun b => (by rw [hp4]); have HZ4 := Aside0.mk (show w2.heap.size + 1 = Z by rw [← hZ, hp4]; simp); clear hp4 hd; have hmk := make_zero s.sum (by have := HOK.out.1.2.2; omega) w4; rw [hZ] at hmk; have ms := fun fv : Value => m_start (ts := 46) (S := s.sum) (Z := Z) (fv := fv) ((hp5 By).trans HL3.out.1) ((hp5 w2.heap.size).trans HL3.out.2.1) (HL3.out.2.2.1.of_block (hp5 rl)) HL3.out.2.2.2.1 (by have := HL3.out.2.2.2.2.2.1; omega) (by have := HL3.out.2.2.2.2.2.2; omega) hZ; have m1 := (ms .nilFunc).1; have m2 := (ms .nilFunc).2.1; obtain ⟨_, m3, m4, m5, m6⟩ := ms (fvM ⟨Z + 1, By, w2.heap.size, Z + 1 + 1, Z, rl⟩); clear ms; have HM := Aside0.mk (And.intro m4 (And.intro (stepS_trans (stepS_trans HS3.out st4) m5) m6)); clear m4 m5 m6 hp5 st4))
      | (refine ⟨trivial, ?_⟩; gi_at_call 109; go_loud (refine (callsIn_wide.2 (msearch (HC.out ⟨Z + 1, By, w2.heap.size, Z + 1 + 1, Z, rl⟩) HOK.out.1.2.2 s.sum [] s 0 _ (fun b hb => Nat.lt_of_lt_of_le (HR.out b hb) HM.out.2.1.size) HM.out.1 HOK.out.1.2.1 rfl (by simp) (fun k L hk => by simpa using hk) ((HC.out ⟨Z + 1, By, w2.heap.size, Z + 1 + 1, Z, rl⟩).hJ 0 _ W _ _ HJ.out HM.out.2.1 (fun b hb => .inr ⟨by have h1 := HZ3.out; have h2 := HZ4.out; have h3 := HL3.out.2.2.2.2.2.1; rcases hb with e | e | e | e | e | e <;> (simp only at e; omega), HM.out.1.lt b hb⟩)))).mono ?_; rintro e w7 ⟨bb, rfl, o7, z7, c7⟩; have C7 := Aside0.mk c7; clear o7 z7 c7)))
    refine bodyPost_end (results_none rfl _ _ _) rfl ?_
    refine ⟨⟨_, rfl⟩, ?_⟩
    rcases C7.out with ⟨_, h⟩ | ⟨_, i, hi, h⟩
    · rw [Nat.zero_add] at h
      exact .inl ⟨_, h⟩
    · exact .inr ⟨i, _, hi, h⟩
  · have hf' : fewOk L = false := by simpa using hf
    have hm : mixesOf L = [] := by unfold mixesOf; rw [if_neg hf]
    rw [hm]
    have HJ := Aside0.mk (hJ 0 _ W (W.alloc (.cells #[.func (.yield l) #[] #[]] 102)) (fun _ => False) h0 (stepS_alloc _ _) (fun b hb => .inl hb))
    rw [hf'] at hBo
    clear hY hJ hJx h0 hsv hBs hR hm hf
    refine callsIn_of_wp Try.func108 rfl trivial ?_ rfl
    simp only [Try.ntmps108, List.size_toArray, List.length_cons, List.length_nil, Nat.reduceAdd, Nat.reduceSub, Array.replicate_succ, Array.replicate_zero, List.push_toArray, List.append_toArray, List.nil_append, List.cons_append]
    have co := Boxed.cell (show Boxed (W.alloc (.cells #[.func (.yield l) #[] #[]] 102)) Bo 4 (.bool false) from (Below.heap_alloc W _ _ hBo.lt).trans hBo)
    gi_wp2
    refine bodyPost_ret (results_none rfl _ _ _) rfl ?_
    exact ⟨⟨_, rfl⟩, .inl ⟨_, HJ.out⟩⟩
end Go.Proofs.Ytfcjfjmjcmanaaa.V
set_option linter.unusedVariables false
namespace Go.Proofs.Ytfcjfjmjcmanaaa.V
open Go Go.RowKit Go.Proofs.Ytfcjfjmjcmanaaa.X Go.Proofs.Ytfcjfjmjcmanaaa.PThere Go.Proofs.Ytfcjfjmjcmanaaa.O Go.Proofs.Ytfcjfjmjcmanaaa.B Go.Proofs.YtfcjfjmjcmanaaaW.PrintWords Go.Proofs.YtfcjfjmjcmanaaaW.PrintLast Go.Proofs.YtfcjfjmjcmanaaaW.PrintMore
variable {W W' : World} {T : Nat → Prop} {v : Value} {L : List Int}
theorem drawn_bel {w w' : World} (h : Drawn0 w w') (n : Nat) : Below n w w' := by
  obtain ⟨k, rfl⟩ := h
  exact pw_below_drewN (Below.refl _ _) k
/-- What an iterator of Mixes reads. -/
structure MB (base Bo Bs : Nat) (sv : Value) (L : List Int) (W : World) : Prop where
  o0 : base ≤ Bo
  s0 : base ≤ Bs
  bo : Boxed W Bo 4 (.bool (fewOk L))
  bs : Boxed W Bs 26 sv
  row : SlB W (fun b => base ≤ b ∧ b ≠ Bo ∧ b ≠ Bs) sv L
def MB.Rd (Bo Bs : Nat) (sv : Value) : Nat → Prop := fun b => b = Bo ∨ b = Bs ∨ sv.ownBlock = some b
variable {base Bo Bs : Nat} {sv : Value}
theorem MB.lt (h : MB base Bo Bs sv L W) : ∀ b, MB.Rd Bo Bs sv b → base ≤ b ∧ b < W.heap.size := by
  rintro b (e | e | e)
  · rw [e]; exact ⟨h.o0, h.bo.lt⟩
  · rw [e]; exact ⟨h.s0, h.bs.lt⟩
  · exact ⟨(h.row.own e).1.1, (h.row.own e).2⟩
theorem MB.kept (h : MB base Bo Bs sv L W) (hk : ∀ b, MB.Rd Bo Bs sv b → W'.heap[b]? = W.heap[b]?) : MB base Bo Bs sv L W' :=
  ⟨h.o0, h.s0, (hk _ (.inl rfl)).trans h.bo, (hk _ (.inr (.inl rfl))).trans h.bs, h.row.kept (fun j hj => hk j (.inr (.inr hj)))⟩
theorem MB.below {n : Nat} (h : MB base Bo Bs sv L W) (hb : Below n W W') (hn : W.heap.size ≤ n) : MB base Bo Bs sv L W' :=
  h.kept (fun b hb2 => hb.block b (Nat.lt_of_lt_of_le (h.lt b hb2).2 hn))
theorem seq_mixes (n : Nat) (hn : 1 ≤ n) (w0 : World) (h : MB base Bo Bs sv L w0) : SeqV Fence.wide n Try.prog 108 #[.pointer (some ⟨Bo, 0, none⟩), .pointer (some ⟨Bs, 0, none⟩)] (MB.Rd Bo Bs sv) (fun _ => False) (mixesOf L) w0 := by
  intro l J Jx W hW hk hJ hJx hY h0
  have h' : MB base Bo Bs sv L W := h.kept (fun b hb => hk b (.inr hb))
  exact mixes_in n hn l Bo Bs L sv _ J Jx hJ hJx hY W (fun b hb => (h'.lt b hb).2) h'.bo h'.bs (h'.row.mono (fun j hj _ => .inr (.inr hj))) h0
set_option maxRecDepth 100000 in
set_option maxHeartbeats 4000000 in
theorem mixes_calls (h : RdS W v L) (hl : L.length ≤ 17592186043904) : Calls Try.prog 56 #[v] W fun e W' => ∃ Bo Bs sv, e = .returned (.func (.func 108) #[] #[.pointer (some ⟨Bo, 0, none⟩), .pointer (some ⟨Bs, 0, none⟩)]) ∧ MB W.heap.size Bo Bs sv L W' ∧ Below W.heap.size W W' := by
  obtain ⟨A, c, rfl⟩ := h.slice
  have kw : ∀ b, b < W.heap.size → (W.alloc (.cells #[.slice A L.length c] 26)).heap[b]? = W.heap[b]? := fun b hb => Below.heap_alloc W _ b hb
  have hs1 := Boxed.new W 26 (.slice A L.length c)
  have HSV := Aside0.mk (h.below ((Below.refl W.heap.size W).alloc (Nat.le_refl _) (.cells #[.slice A L.length c] 26)))
  have HL := Aside0.mk hl
  have c1 := hs1.cell
  have hsz : (W.alloc (.cells #[.slice A L.length c] 26)).heap.size = W.heap.size + 1 := by simp
  have HB1 := Aside0.mk ((Below.refl W.heap.size W).alloc (Nat.le_refl _) (.cells #[.slice A L.length c] 26))
  obtain ⟨Bs, hBs⟩ : ∃ Bs, W.heap.size = Bs := ⟨_, rfl⟩
  rw [hBs] at hs1 hsz c1
  have HS1 := Aside0.mk hs1
  have HZ := Aside0.mk hsz
  clear h hl hs1 hsz kw
  go_enter Try.func56, Try.ntmps56
  go_wp2_with (first
    | (go_at_call 107; go_loud (refine (few_calls HSV.out).mono ?_; rintro e w2 ⟨rfl, hd⟩; obtain ⟨st2, hp2⟩ := drawn_step0 hd; have HP2 := Aside0.mk hp2; have hz2 : w2.heap.size = Bs + 1 := (by rw [hp2]; exact HZ.out); have bo := Boxed.new w2 4 (.bool (fewOk L)); rw [hz2] at bo; have HBO := Aside0.mk bo; have hs3 : Boxed (w2.alloc (.cells #[.bool (fewOk L)] 4)) Bs 26 (.slice A L.length c) := (Below.heap_alloc w2 _ _ (by omega)).trans (by rw [hp2]; exact HS1.out); have HS3 := Aside0.mk hs3; have c3 := hs3.cell; have HD2 := Aside0.mk (drawn_bel hd W.heap.size); have HD3 := Aside0.mk (drawn_bel hd (W.alloc (.cells #[.slice A L.length c] 26)).heap.size); clear bo hd st2 hp2 hs3))
    | (go_at_call 85; go_loud (refine (clone_rd (HSV.out.below (HD3.out.alloc (by rw [hz2, HZ.out]; exact Nat.le_refl _) (.cells #[.bool (fewOk L)] 4))) HL.out).mono ?_; rintro e w4 ⟨u, rfl, ho, hB⟩; obtain ⟨A2, c2, rfl⟩ := (RI.of_own ho).slB.slice; have HO := Aside0.mk ho; have HB4 := Aside0.mk hB; have hs4 : Boxed w4 Bs 26 (.slice A L.length c) := (hB.block Bs (by simp; omega)).trans HS3.out; have HS4 := Aside0.mk hs4; have f4 := hs4.frozen; have c4 := hs4.cell; clear ho hB hs4)))
  go_ret
  have h4 := HB4.out.size
  simp only [World.size_alloc] at h4
  refine ⟨Bs + 1, Bs, .slice A2 L.length c2, rfl, ⟨by omega, by omega, ?_, HS4.out.set _, ?_⟩, ?_⟩
  · exact (Below.heap_setCell w4 _ _ _ (by simp)).trans ((HB4.out.block _ (by simp; omega)).trans HBO.out)
  · have hr := (RI.of_own HO.out).slB
    refine (hr.mono (T' := fun b => W.heap.size ≤ b ∧ b ≠ Bs + 1 ∧ b ≠ Bs) (fun j hj hT => ?_)).kept (fun j hj => ?_)
    · have := hT.1
      simp at this
      omega
    · have := (hr.own hj).1.1
      simp at this
      exact Below.heap_setCell w4 _ _ _ (by show j ≠ Bs; omega)
  · have b2 := HB1.out.trans HD2.out
    have b3 := b2.alloc (by rw [hz2]; omega) (.cells #[.bool (fewOk L)] 4)
    have b4 := b3.trans (HB4.out.mono (by simp; omega))
    exact b4.setCell (by show W.heap.size ≤ Bs; omega) _
end Go.Proofs.Ytfcjfjmjcmanaaa.V
