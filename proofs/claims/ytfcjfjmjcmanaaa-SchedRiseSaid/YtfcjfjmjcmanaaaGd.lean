/- SchedRise: what holds while it goes over the four. SchedRise: what holds between two of the four. -/
import Derived.Test.YtfcjfjmjcmanaaaGc
import Derived.Test.YtfcjfjmjcmanaaaGu
set_option linter.unusedVariables false
namespace Go.Proofs.Ytfcjfjmjcmanaaa.V
open Go Go.RowKit Go.Proofs.Ytfcjfjmjcmanaaa.X Go.Proofs.Ytfcjfjmjcmanaaa.PThere Go.Proofs.Ytfcjfjmjcmanaaa.POnly Go.Proofs.Ytfcjfjmjcmanaaa.O Go.Proofs.Ytfcjfjmjcmanaaa.B Go.Proofs.YtfcjfjmjcmanaaaW.PrintWords Go.Proofs.YtfcjfjmjcmanaaaW.PrintLast Go.Proofs.YtfcjfjmjcmanaaaW.PrintMore
/-- Lists that rise, all of one length. -/
structure Good (Ls : List (List Int)) (d : Nat) : Prop where
  rise : Ls.Pairwise (fun a b => blw a b = true)
  len : ∀ L ∈ Ls, L.length = d
  num : Ls.length ≤ 1048576
  small : d ≤ 24
def lsOf (prev : List Int) (Ls : List (List Int)) (i : Nat) : List Int := if i = 0 then prev else Ls.getD (i - 1) []
theorem lsOf_zero (prev : List Int) (Ls : List (List Int)) : lsOf prev Ls 0 = prev := rfl
theorem lsOf_next {prev : List Int} {Ls : List (List Int)} {k : Nat} {L : List Int} (h : Ls[k]? = some L) : lsOf prev Ls (k + 1) = L := by
  unfold lsOf
  rw [if_neg (by omega), Nat.add_sub_cancel, List.getD_eq_getElem?_getD, h]
  rfl
theorem Good.prev {prev : List Int} {Ls : List (List Int)} {d k : Nat} {L : List Int} (g : Good Ls d) (hk : 0 < k) (h : Ls[k]? = some L) : blw (lsOf prev Ls k) L = true ∧ (lsOf prev Ls k).length = L.length := by
  obtain ⟨j, rfl⟩ : ∃ j, k = j + 1 := ⟨k - 1, by omega⟩
  obtain ⟨hk, rfl⟩ := List.getElem?_eq_some_iff.1 h
  have hj : j < Ls.length := by omega
  rw [lsOf_next (List.getElem?_eq_getElem hj)]
  exact ⟨List.pairwise_iff_getElem.1 g.rise j (j + 1) hj hk (by omega), by rw [g.len _ (List.getElem_mem hj), g.len _ (List.getElem_mem hk)]⟩
theorem Good.at {Ls : List (List Int)} {d k : Nat} {L : List Int} (g : Good Ls d) (h : Ls[k]? = some L) : L.length = d ∧ k < 1048576 :=
  ⟨g.len _ (List.mem_of_getElem? h), by have := (List.getElem?_eq_some_iff.1 h).1; have := g.num; omega⟩
theorem good_nil : Good [] 0 := ⟨List.Pairwise.nil, (fun L h => nomatch h), by simp, by omega⟩
theorem mixes_good (L : List Int) : ∃ d, Good (mixesOf L) d := by
  unfold mixesOf
  split
  · rename_i h
    obtain ⟨s, rfl, hok, hs⟩ := few_yes h
    rw [hs]
    exact ⟨s.sum, gen_rise _ _ _, gen_len _ _ _, by rw [mixes_count _ _ rfl]; exact hok.2, hok.1.2.2⟩
  · exact ⟨0, good_nil⟩
theorem fews_good (L : List Int) (most : Int) : ∃ d, Good (fewsOf L most) d := by
  unfold fewsOf
  split
  · rename_i h
    unfold fewO at h
    rw [Bool.and_eq_true] at h
    obtain ⟨s, rfl, hok, hs⟩ := few_yes h.1
    rw [hs]
    refine ⟨s.sum, gen_rise _ _ _, gen_len _ _ _, ?_, hok.1.2.2⟩
    rw [few_filter most _ _ _ _ rfl (by have := of_decide_eq_true h.2; omega)]
    have := List.length_filter_le (fun L => decide (((0 + swF none L : Nat) : Int) ≤ most)) (genL nxtM s.sum s ())
    rw [mixes_count _ _ rfl] at this
    exact Nat.le_trans this hok.2
  · exact ⟨0, good_nil⟩
theorem blw_app : ∀ (a b x y : List Int), a.length = b.length → blw a b = true → blw (a ++ x) (b ++ y) = true
  | [], [], _, _, _, h => by simp [blw] at h
  | [], _ :: _, _, _, h, _ => by simp at h
  | _ :: _, [], _, _, h, _ => by simp at h
  | p :: a, q :: b, x, y, hl, h => by
    rw [List.cons_append, List.cons_append, blw_cons]
    rw [blw_cons] at h
    by_cases e : p = q
    · rw [if_pos e] at h ⊢; exact blw_app a b x y (by simpa using hl) h
    · rw [if_neg e] at h ⊢; exact h
theorem digs_rise (h : Nat) (hh : 0 < h) (d : Nat) : ∀ n m, n < m → m < h ^ d → blw (digs h d n) (digs h d m) = true := by
  induction d with
  | zero => intro n m h1 h2; simp at h2; omega
  | succ d ih =>
    intro n m h1 h2
    show blw (digs h d (n / h) ++ [((n % h : Nat) : Int)]) (digs h d (m / h) ++ [((m % h : Nat) : Int)]) = true
    have e1 := Nat.div_add_mod n h
    have e2 := Nat.div_add_mod m h
    have l1 := Nat.mod_lt n hh
    have l2 := Nat.mod_lt m hh
    rcases Nat.lt_or_ge (n / h) (m / h) with z | z
    · refine blw_app _ _ _ _ (by rw [digs_len, digs_len]) (ih _ _ z ?_)
      rw [Nat.pow_succ] at h2
      exact (Nat.div_lt_iff_lt_mul hh).2 h2
    · have z2 : n / h = m / h := by
        have := Nat.div_le_div_right (c := h) (Nat.le_of_lt h1)
        omega
      rw [z2]
      have z3 : n % h < m % h := by rw [z2] at e1; omega
      exact blw_front _ _ [] [] (by omega) _
theorem all_good (h d : Int) : ∃ D, Good (allOf h d) D ∧ (0 < (allOf h d).length → (D : Int) = d) := by
  by_cases hok : okAll h d
  · refine ⟨d.toNat, ⟨?_, fun L hL => ?_, ?_, by have := hok.2.1; omega⟩, fun _ => by have := hok.2.1; omega⟩
    · unfold allOf
      rw [List.pairwise_map]
      refine (List.pairwise_lt_range (n := cntAll h d)).imp_of_mem (fun {a b} ha hb hab => ?_)
      refine digs_rise _ (by have := hok.1; omega) _ _ _ hab ?_
      have := List.mem_range.1 hb
      unfold cntAll at this
      rwa [if_pos hok] at this
    · obtain ⟨k, _, rfl⟩ := List.mem_map.1 hL
      exact digs_len _ _ _
    · rw [allOf_len]; unfold cntAll; rw [if_pos hok]; exact hok.2.2
  · have : allOf h d = [] := by unfold allOf cntAll; rw [if_neg hok]; rfl
    rw [this]
    exact ⟨0, good_nil, fun z => by simp at z⟩
/-- What Count tells, and how many there are. -/
theorem count_rise (L : List Int) : ∃ r1 r2 : Int, sched_Count.f 80 L = some (r1, r2) ∧ fewOk L = (decide (r2 = 0) && decide (r1 ≤ 1048576)) ∧ (fewOk L = true → r1 = ((mixesOf L).length : Int)) := by
  obtain ⟨r1, r2, h1, h2⟩ := count_few L
  refine ⟨r1, r2, h1, h2, fun h => ?_⟩
  obtain ⟨s, rfl, hok, hs⟩ := few_yes h
  have hm : Mu.M s ≤ 4611686018427387904 := Nat.le_trans hok.2 (by decide)
  have := Count_spec s hok.1 80 (Nat.le_refl _)
  rw [if_pos hm, h1] at this
  injection this with this
  injection this with this _
  rw [this]
  unfold mixesOf
  rw [if_pos h, hs, mixes_count _ _ rfl]
theorem mixes_no {L : List Int} (h : fewOk L = false) : mixesOf L = [] := by unfold mixesOf; rw [h]; rfl
theorem fews_no {L : List Int} {most : Int} (h : fewOk L = false ∨ most < 0) : fewsOf L most = [] := by
  unfold fewsOf fewO
  rcases h with h | h
  · rw [h]; rfl
  · rw [decide_eq_false (by omega), Bool.and_false]; rfl
theorem fews_eq {L : List Int} {most : Int} (h : fewOk L = true) (hm : 0 ≤ most) : fewsOf L most = (mixesOf L).filter (fun l => decide ((nsw l : Int) ≤ most)) := by
  unfold fewsOf fewO mixesOf
  rw [h, decide_eq_true hm]
  simp only [Bool.and_self, if_true]
  rw [few_filter most _ _ _ _ rfl hm]
  refine List.filter_congr fun l _ => ?_
  rw [Nat.zero_add]; rfl
theorem fews_all {L : List Int} (h : fewOk L = true) : fewsOf L 24 = mixesOf L := by
  rw [fews_eq h (by decide)]
  refine List.filter_eq_self.2 fun l hl => ?_
  obtain ⟨d, g⟩ := mixes_good L
  have h1 := nsw_le l
  have h2 := g.len l hl
  have h3 := g.small
  exact decide_eq_true (by omega)
theorem fews_some {L : List Int} {most : Int} (h : fewOk L = true) (hm : 0 ≤ most) : 0 < (fewsOf L most).length := by
  rw [fews_eq h hm]
  obtain ⟨s, rfl, hok, hs⟩ := few_yes h
  refine List.length_pos_of_mem (a := runs 0 s) (List.mem_filter.2 ⟨?_, ?_⟩)
  · unfold mixesOf; rw [if_pos h, hs]; exact runs_mix s
  · rw [nsw_sorted _ (runs_sorted s 0)]; exact decide_eq_true hm
theorem fews_mem {L l : List Int} {most : Int} (hl : l ∈ fewsOf L most) : (nsw l : Int) ≤ most ∧ ∀ x ∈ l, Hnum x := by
  by_cases h : fewOk L = true
  · by_cases hm : 0 ≤ most
    · rw [fews_eq h hm] at hl
      obtain ⟨h1, h2⟩ := List.mem_filter.1 hl
      obtain ⟨s, rfl, hok, hs⟩ := few_yes h
      unfold mixesOf at h1
      rw [if_pos h, hs] at h1
      exact ⟨of_decide_eq_true h2, fun x hx => by have h3 := gen_num _ _ _ _ h1 x hx; have h4 := hok.1.2.1; exact ⟨h3.1, by omega⟩⟩
    · rw [fews_no (.inr (by omega))] at hl; cases hl
  · rw [fews_no (.inl (by simpa using h))] at hl; cases hl
/-! ### the walks of what it calls -/
variable {W W' : World} {T T' : Nat → Prop} {u v : Value} {L M : List Int}
theorem below_true (hu : SlB W T u L) (hv : SlB W T' v M) (hl : L.length ≤ 1000000) (he : L.length = M.length) (hb : blw L M = true) : Calls Try.prog 55 #[u, v] W fun e W' => e = .returned (.bool true) ∧ Drawn0 W W' := by
  obtain ⟨A, c, rfl, h1, h2, hC⟩ := hu.C
  obtain ⟨A', c', rfl, h1', h2', hC'⟩ := hv.C
  exact larderlaw07_below.calls (2 * L.length + 3) A c L A' c' M true W hC h1 hC' h1' (by rw [below_spec L M hl he, hb])
theorem sw_true (hu : SlB W T u L) (hl : L.length ≤ 65536) (hn : ∀ x ∈ L, Hnum x) : Calls Try.prog 62 #[u] W fun e W' => e = .returned (.tuple #[.int .i64 ((nsw L : Nat) : Int), .int .i64 0]) ∧ Below W.heap.size W W' := by
  obtain ⟨A, c, rfl, h1, h2, hC⟩ := hu.C
  exact sw_good A c L W hC ⟨by omega⟩ ⟨hn⟩ _ _ ⟨fun _ => ⟨rfl, rfl⟩⟩ ⟨fun z => absurd hl z⟩
theorem eq_nilf (g : Nat) (lb : Array Value) (W : World) : (binOp BinOp.eql 31 (.func (.func g) #[] lb) .nilFunc).run Try.prog W = .ok (.bool false) W := by
  kernel_rfl
theorem whole_calls (g : Nat) (lb : Array Value) (W : World) : Calls Try.prog 66 #[.func (.func g) #[] lb] W fun e W' => e = .returned (.func (.func g) #[] lb) ∧ W' = W := by
  have heq := eq_nilf g lb
  go_enter Try.func66, Try.ntmps66
  go_wp2
  go_ret
  exact ⟨rfl, rfl⟩
/-! ### what holds between two rounds -/
/-- w0: the world as the range began; bk: the count's box; bl: the last list's. -/
def Ri (w0 : World) (bk bl : Nat) (ls : Nat → List Int) (i : Nat) (T : Nat → Prop) (W : World) : Prop :=
  (∀ b, T b → w0.heap.size ≤ b ∧ b < W.heap.size) ∧ Turn (fun b => b = bk ∨ b = bl) w0 W ∧ Boxed W bk 3 (.int .i64 (i : Int)) ∧ ∃ lv Tl, Boxed W bl 26 lv ∧ SlB W Tl lv (ls i) ∧ ∀ b, Tl b → ¬ T b ∧ b ≠ bk ∧ b ≠ bl
variable {w0 : World} {bk bl : Nat} {ls : Nat → List Int}
theorem ri_abides (hk : bk < w0.heap.size) (hl : bl < w0.heap.size) : AbidesS (Ri w0 bk bl ls) := by
  rintro i T A B T' ⟨h1, h2, h3, lv, Tl, h4, h5, h6⟩ hs hT
  have hsz := hs.size
  have h2s := h2.size
  have nk : ¬ T bk := fun z => by have := (h1 bk z).1; omega
  have nl : ¬ T bl := fun z => by have := (h1 bl z).1; omega
  refine ⟨fun b hb => ?_, ⟨hs.os.trans h2.os, hs.tape.trans h2.tape, hs.output.trans h2.output, Nat.le_trans h2.size hs.size, fun b hb hn => (hs.block b (by omega) (fun z => by have := (h1 b z).1; omega)).trans (h2.block b hb hn)⟩, (hs.block bk h3.lt nk).trans h3, lv, fun b => Tl b ∧ lv.ownBlock = some b, (hs.block bl h4.lt nl).trans h4, (h5.mono (fun j hj hT => ⟨hT, hj⟩)).kept (fun j hj => hs.block j (h5.own hj).2 (h6 j (h5.own hj).1).1), fun b hb => ?_⟩
  · rcases hT b hb with z | z
    · have := h1 b z; omega
    · omega
  · have q := h6 b hb.1
    refine ⟨fun z => ?_, q.2⟩
    rcases hT b z with y | y
    · exact q.1 y
    · have := (h5.own hb.2).2; omega
/-- One round: the list becomes the last, the count rises. -/
theorem ri_step {i : Nat} {x : Int} {T1 Rd : Nat → Prop} {wd : World} (hx : x = ((i + 1 : Nat) : Int)) (hne : bk ≠ bl) (hk : bk < w0.heap.size) (hl : bl < w0.heap.size) (hRk : ¬ Rd bk) (hRl : ¬ Rd bl) (h : Ri w0 bk bl ls i T1 W) (hTT : ∀ b, T b → T1 b) (hv : SlB W (fun b => T1 b ∧ ¬ T b ∧ ¬ Rd b) v L) (hL : ls (i + 1) = L) (hd : Below W.heap.size W wd) :
    wd.frozen? ⟨bl, 0, none⟩ = false ∧ (∃ lv, wd.cell? ⟨bl, 0, none⟩ = some lv) ∧ (wd.setCell ⟨bl, 0, none⟩ v).cell? ⟨bk, 0, none⟩ = some (.int .i64 (i : Int)) ∧ (wd.setCell ⟨bl, 0, none⟩ v).frozen? ⟨bk, 0, none⟩ = false ∧
    KeepsT (fun b => T b ∨ Rd b) W ((wd.setCell ⟨bl, 0, none⟩ v).setCell ⟨bk, 0, none⟩ (.int .i64 x)) ∧ Ri w0 bk bl ls (i + 1) T ((wd.setCell ⟨bl, 0, none⟩ v).setCell ⟨bk, 0, none⟩ (.int .i64 x)) := by
  subst hx
  obtain ⟨h1, h2, h3, lv, Tl, h4, h5, h6⟩ := h
  have h2s := h2.size
  have hds := hd.size
  have b3 : Boxed wd bk 3 (.int .i64 (i : Int)) := (hd.block bk h3.lt).trans h3
  have b4 : Boxed wd bl 26 lv := (hd.block bl h4.lt).trans h4
  have b3' : Boxed (wd.setCell ⟨bl, 0, none⟩ v) bk 3 (.int .i64 (i : Int)) := (Below.heap_setCell wd _ _ bk hne).trans b3
  have kp : ∀ b, b < W.heap.size → b ≠ bk → b ≠ bl → ((wd.setCell ⟨bl, 0, none⟩ v).setCell ⟨bk, 0, none⟩ (.int .i64 ((i + 1 : Nat) : Int))).heap[b]? = W.heap[b]? := fun b hb n1 n2 => (Below.heap_setCell _ _ _ b n1).trans ((Below.heap_setCell wd _ _ b n2).trans (hd.block b hb))
  have nT : ∀ b, T b → b ≠ bk ∧ b ≠ bl := fun b hb => by have := (h1 b (hTT b hb)).1; omega
  have hsz : ((wd.setCell ⟨bl, 0, none⟩ v).setCell ⟨bk, 0, none⟩ (.int .i64 ((i + 1 : Nat) : Int))).heap.size = wd.heap.size := by simp
  refine ⟨b4.frozen, ⟨lv, b4.cell⟩, b3'.cell, b3'.frozen, ⟨by rw [hsz]; exact hds, fun b hb hlt => ?_⟩, fun b hb => ⟨(h1 b (hTT b hb)).1, by rw [hsz]; have := (h1 b (hTT b hb)).2; omega⟩, ⟨hd.os.trans h2.os, hd.tape.trans h2.tape, hd.output.trans h2.output, by rw [hsz]; omega, fun b hb hn => (kp b (by omega) (fun e => hn (.inl e)) (fun e => hn (.inr e))).trans (h2.block b hb hn)⟩, b3'.set _, v, fun b => (T1 b ∧ ¬ T b ∧ ¬ Rd b) ∧ v.ownBlock = some b, ?_, ?_, fun b hb => ⟨hb.1.2.1, by have := (h1 b hb.1.1).1; omega⟩⟩
  · rcases hb with hb | hb
    · exact kp b hlt (nT b hb).1 (nT b hb).2
    · exact kp b hlt (fun e => hRk (e ▸ hb)) (fun e => hRl (e ▸ hb))
  · exact (Below.heap_setCell _ _ _ bl (fun e => hne e.symm)).trans (b4.set v)
  · rw [hL]
    exact (hv.mono (fun j hj hT => ⟨hT, hj⟩)).kept (fun j hj => have q := hv.own hj; have p := (h1 j q.1.1).1; kp j q.2 (by omega) (by omega))
end Go.Proofs.Ytfcjfjmjcmanaaa.V
set_option linter.unusedVariables false
namespace Go.Proofs.Ytfcjfjmjcmanaaa.V
open Go Go.RowKit Go.Proofs.Ytfcjfjmjcmanaaa.X Go.Proofs.Ytfcjfjmjcmanaaa.O Go.Proofs.Ytfcjfjmjcmanaaa.B Go.Proofs.YtfcjfjmjcmanaaaW.PrintWords Go.Proofs.YtfcjfjmjcmanaaaW.PrintLast Go.Proofs.YtfcjfjmjcmanaaaW.PrintMore
theorem results_cellv {fn : Func} {p : Tmp} (h : fn.results = #[.cell p 4]) (tmps : Array Value) (w : World) (b : Nat) (v : Value) (hp : tmps.getD p undef = .pointer (some ⟨b, 0, none⟩)) (hb : Boxed w b 4 v) : (results fn tmps).run Try.prog w = .ok v w := by
  have hp' : tmps[p]?.getD undef = .pointer (some ⟨b, 0, none⟩) := by simpa using hp
  have hc := hb.cell
  simp [results, h, hp', asAddr, go_sem, hc]
theorem seq_allv (h d : Int) (n : Nat) (hn : 1 ≤ n) (w0 : World) (Ba Bd Bh : Nat) (ha : Boxed w0 Ba 3 (.int .i64 (cntAll h d : Int))) (hd : Boxed w0 Bd 3 (.int .i64 d)) (hh : Boxed w0 Bh 3 (.int .i64 h)) :
    SeqV Fence.wide n Try.prog 71 #[.pointer (some ⟨Ba, 0, none⟩), .pointer (some ⟨Bd, 0, none⟩), .pointer (some ⟨Bh, 0, none⟩)] (fun b => b = Ba ∨ b = Bd ∨ b = Bh) (fun _ => False) (allOf h d) w0 := by
  intro l J Jx W hW hk hJ hJx hY h0
  have ka : Boxed W Ba 3 (.int .i64 (cntAll h d : Int)) := (hk Ba (.inr (by simp))).trans ha
  have kd : Boxed W Bd 3 (.int .i64 d) := (hk Bd (.inr (by simp))).trans hd
  have kh : Boxed W Bh 3 (.int .i64 h) := (hk Bh (.inr (by simp))).trans hh
  exact all_in n hn l Ba Bd Bh h d _ (by simp) (by simp) (by simp) J Jx hJ hJx hY W (fun b hb => by rcases hb with z | z | z <;> rw [z]; exact ka.lt; exact kd.lt; exact kh.lt) ka kd kh h0
theorem MB.base {W : World} {L : List Int} {b b' Bo Bs : Nat} {sv : Value} (h : MB b Bo Bs sv L W) (hb : b' ≤ b) : MB b' Bo Bs sv L W :=
  ⟨by have := h.o0; omega, by have := h.s0; omega, h.bo, h.bs, h.row.mono (fun j _ hj => ⟨by have := hj.1; omega, hj.2⟩)⟩
theorem FB.base {W : World} {L : List Int} {b b' Bo Bs Bm : Nat} {sv : Value} {most : Int} (h : FB b Bo Bs Bm sv L most W) (hb : b' ≤ b) : FB b' Bo Bs Bm sv L most W :=
  ⟨by have := h.o0; omega, by have := h.s0; omega, by have := h.m0; omega, h.bo, h.bs, h.bm, h.row.mono (fun j _ hj => by omega)⟩
/-- The law's own boxes. -/
structure Nm where
  b0 : Nat
  bd : Nat
  bm : Nat
  br : Nat
  bk : Nat
  bl : Nat
  base : Nat
structure Nm.Ok (N : Nm) : Prop where
  d0 : N.b0 ≤ N.bd ∧ N.b0 ≤ N.bm ∧ N.b0 ≤ N.br ∧ N.b0 ≤ N.bk ∧ N.b0 ≤ N.bl
  d1 : N.bd < N.base ∧ N.bm < N.base ∧ N.br < N.base ∧ N.bk < N.base ∧ N.bl < N.base
  d2 : N.bd ≠ N.bk ∧ N.bm ≠ N.bk ∧ N.br ≠ N.bk ∧ N.bl ≠ N.bk
  d3 : N.bd ≠ N.bl ∧ N.bm ≠ N.bl ∧ N.br ≠ N.bl
structure R0 (N : Nm) (W0 : World) (d most : Int) (lst : List Int) (k : Int) (w : World) : Prop where
  below : Below N.b0 W0 w
  sz : N.base ≤ w.heap.size
  bd : Boxed w N.bd 3 (.int .i64 d)
  bm : Boxed w N.bm 3 (.int .i64 most)
  br : Boxed w N.br 4 (.bool false)
  bk : Boxed w N.bk 3 (.int .i64 k)
  last : ∃ lv Tl, Boxed w N.bl 26 lv ∧ SlB w Tl lv lst ∧ ∀ b, Tl b → b ≠ N.bk ∧ b ≠ N.bl
variable {N : Nm} {W0 w w' : World} {d most k : Int} {lst : List Int}
theorem R0.grow (h : R0 N W0 d most lst k w) (ok : N.Ok) (hb : Below w.heap.size w w') : R0 N W0 d most lst k w' := by
  have hs := h.sz
  have e := ok.d1
  obtain ⟨lv, Tl, h1, h2, h3⟩ := h.last
  have hz := hb.size
  exact ⟨h.below.trans (hb.mono (by have := ok.d0; omega)), by omega, (hb.block _ h.bd.lt).trans h.bd, (hb.block _ h.bm.lt).trans h.bm, (hb.block _ h.br.lt).trans h.br, (hb.block _ h.bk.lt).trans h.bk, lv, Tl, (hb.block _ h1.lt).trans h1, h2.kept (fun j hj => hb.block j (h2.own hj).2), h3⟩
/-- All of it: the four iterators, the marks. -/
structure Rs (N : Nm) (W0 : World) (L : List Int) (h d most : Int) (o1 s1 : Nat) (v1 : Value) (o2 s2 m2 : Nat) (v2 : Value) (o3 s3 m3 : Nat) (v3 : Value) (ba : Nat) (lst : List Int) (marks : List Nat) (k : Int) (w : World) : Prop where
  r : R0 N W0 d most lst k w
  mb : MB N.base o1 s1 v1 L w
  f2 : FB N.base o2 s2 m2 v2 L 24 w
  f3 : FB N.base o3 s3 m3 v3 L most w
  aa : Boxed w (ba + 2) 3 (.int .i64 (cntAll h d : Int))
  ad : Boxed w (ba + 1) 3 (.int .i64 d)
  ah : Boxed w ba 3 (.int .i64 h)
  ab : N.base ≤ ba
  ms : ∀ D ∈ marks, N.base ≤ D ∧ w.heap[D]? = some (.deferred (some []))
  nd : marks.Nodup
variable {L : List Int} {h : Int} {o1 s1 o2 s2 m2 o3 s3 m3 ba : Nat} {v1 v2 v3 : Value} {marks : List Nat}
theorem Rs.ri (x : Rs N W0 L h d most o1 s1 v1 o2 s2 m2 v2 o3 s3 m3 v3 ba lst marks 0 w) (Ls : List (List Int)) : Ri w N.bk N.bl (lsOf lst Ls) 0 (fun _ => False) w := by
  obtain ⟨lv, Tl, h1, h2, h3⟩ := x.r.last
  exact ⟨fun b hb => hb.elim, Turn.refl _ _, x.r.bk, lv, Tl, h1, h2, fun b hb => ⟨fun z => z, h3 b hb⟩⟩
/-- Behind a range. -/
theorem Rs.after {ls : Nat → List Int} {n D : Nat} {T : Nat → Prop} (ok : N.Ok) (x : Rs N W0 L h d most o1 s1 v1 o2 s2 m2 v2 o3 s3 m3 v3 ba lst marks k w) (hr : Ri w N.bk N.bl ls n T w') (hD : w'.heap[D]? = some (.deferred (some []))) (hT : T D) : Rs N W0 L h d most o1 s1 v1 o2 s2 m2 v2 o3 s3 m3 v3 ba (ls n) (D :: marks) (n : Int) w' := by
  obtain ⟨q1, q2, q3, lv, Tl, q4, q5, q6⟩ := hr
  have e := ok.d1
  have hs := x.r.sz
  have hz := q2.size
  have kp : ∀ b, b < w.heap.size → b ≠ N.bk → b ≠ N.bl → w'.heap[b]? = w.heap[b]? := fun b hb n1 n2 => q2.block b hb (fun z => z.elim n1 n2)
  have kb : ∀ b, b < w.heap.size → N.base ≤ b → w'.heap[b]? = w.heap[b]? := fun b hb hn => kp b hb (by omega) (by omega)
  have d2 := ok.d2
  have d3 := ok.d3
  have ab := x.ab
  refine ⟨⟨x.r.below.trans (q2.below (fun b hb => by have := ok.d0; rcases hb with z | z <;> omega) (by have := ok.d0; omega)), by omega, (kp _ x.r.bd.lt d2.1 d3.1).trans x.r.bd, (kp _ x.r.bm.lt d2.2.1 d3.2.1).trans x.r.bm, (kp _ x.r.br.lt d2.2.2.1 d3.2.2).trans x.r.br, q3, lv, Tl, q4, q5, fun b hb => (q6 b hb).2⟩,
    x.mb.kept (fun b hb => kb b (x.mb.lt b hb).2 (x.mb.lt b hb).1), x.f2.kept (fun b hb => kb b (x.f2.lt b hb).2 (x.f2.lt b hb).1), x.f3.kept (fun b hb => kb b (x.f3.lt b hb).2 (x.f3.lt b hb).1), (kb _ x.aa.lt (by omega)).trans x.aa, (kb _ x.ad.lt (by omega)).trans x.ad, (kb _ x.ah.lt ab).trans x.ah, ab, fun E hE => ?_, ?_⟩
  · rcases List.mem_cons.1 hE with rfl | hE
    · exact ⟨by have := (q1 _ hT).1; omega, hD⟩
    · have y := x.ms E hE
      exact ⟨y.1, (kb E (Array.getElem?_eq_some_iff.1 y.2).1 y.1).trans y.2⟩
  · refine List.nodup_cons.2 ⟨fun hE => ?_, x.nd⟩
    have y := (Array.getElem?_eq_some_iff.1 (x.ms D hE).2).1
    have := (q1 _ hT).1
    omega
/-- The count begins anew. -/
theorem Rs.zero (ok : N.Ok) (x : Rs N W0 L h d most o1 s1 v1 o2 s2 m2 v2 o3 s3 m3 v3 ba lst marks k w) : Rs N W0 L h d most o1 s1 v1 o2 s2 m2 v2 o3 s3 m3 v3 ba lst marks 0 (w.setCell ⟨N.bk, 0, none⟩ (.int .i64 0)) := by
  have e := ok.d1
  have d2 := ok.d2
  have ab := x.ab
  have kp : ∀ b, b ≠ N.bk → (w.setCell ⟨N.bk, 0, none⟩ (.int .i64 0)).heap[b]? = w.heap[b]? := fun b hb => Below.heap_setCell w _ _ b hb
  have kb : ∀ b, N.base ≤ b → (w.setCell ⟨N.bk, 0, none⟩ (.int .i64 0)).heap[b]? = w.heap[b]? := fun b hb => kp b (by omega)
  obtain ⟨lv, Tl, h1, h2, h3⟩ := x.r.last
  exact ⟨⟨x.r.below.setCell (by show N.b0 ≤ N.bk; have := ok.d0; omega) _, by simpa using x.r.sz, (kp _ d2.1).trans x.r.bd, (kp _ d2.2.1).trans x.r.bm, (kp _ d2.2.2.1).trans x.r.br, x.r.bk.set _, lv, Tl, (kp _ d2.2.2.2).trans h1, h2.kept (fun j hj => kp j (h3 j (h2.own hj).1).1), h3⟩,
    x.mb.kept (fun b hb => kb b (x.mb.lt b hb).1), x.f2.kept (fun b hb => kb b (x.f2.lt b hb).1), x.f3.kept (fun b hb => kb b (x.f3.lt b hb).1), (kb _ (by omega)).trans x.aa, (kb _ (by omega)).trans x.ad, (kb _ ab).trans x.ah, ab, fun E hE => ⟨(x.ms E hE).1, (kb E (x.ms E hE).1).trans (x.ms E hE).2⟩, x.nd⟩
theorem Rs.lt (x : Rs N W0 L h d most o1 s1 v1 o2 s2 m2 v2 o3 s3 m3 v3 ba lst marks k w) (ok : N.Ok) : N.bk < w.heap.size ∧ N.bl < w.heap.size := by
  have := x.r.sz
  have := ok.d1
  omega
theorem Rs.rd1 (ok : N.Ok) (x : Rs N W0 L h d most o1 s1 v1 o2 s2 m2 v2 o3 s3 m3 v3 ba lst marks k w) : (∀ b, False ∨ MB.Rd o1 s1 v1 b → b < w.heap.size) ∧ ¬ MB.Rd o1 s1 v1 N.bk ∧ ¬ MB.Rd o1 s1 v1 N.bl := by
  have e := ok.d1
  exact ⟨fun b hb => (x.mb.lt b (hb.elim False.elim id)).2, fun z => by have := (x.mb.lt _ z).1; omega, fun z => by have := (x.mb.lt _ z).1; omega⟩
theorem Rs.rd2 (ok : N.Ok) (x : Rs N W0 L h d most o1 s1 v1 o2 s2 m2 v2 o3 s3 m3 v3 ba lst marks k w) : (∀ b, False ∨ FB.Rd o2 s2 m2 v2 b → b < w.heap.size) ∧ ¬ FB.Rd o2 s2 m2 v2 N.bk ∧ ¬ FB.Rd o2 s2 m2 v2 N.bl := by
  have e := ok.d1
  exact ⟨fun b hb => (x.f2.lt b (hb.elim False.elim id)).2, fun z => by have := (x.f2.lt _ z).1; omega, fun z => by have := (x.f2.lt _ z).1; omega⟩
theorem Rs.rd3 (ok : N.Ok) (x : Rs N W0 L h d most o1 s1 v1 o2 s2 m2 v2 o3 s3 m3 v3 ba lst marks k w) : (∀ b, False ∨ FB.Rd o3 s3 m3 v3 b → b < w.heap.size) ∧ ¬ FB.Rd o3 s3 m3 v3 N.bk ∧ ¬ FB.Rd o3 s3 m3 v3 N.bl := by
  have e := ok.d1
  exact ⟨fun b hb => (x.f3.lt b (hb.elim False.elim id)).2, fun z => by have := (x.f3.lt _ z).1; omega, fun z => by have := (x.f3.lt _ z).1; omega⟩
def rdA (ba : Nat) : Nat → Prop := fun b => b = ba + 2 ∨ b = ba + 1 ∨ b = ba
theorem Rs.rd4 (ok : N.Ok) (x : Rs N W0 L h d most o1 s1 v1 o2 s2 m2 v2 o3 s3 m3 v3 ba lst marks k w) : (∀ b, False ∨ rdA ba b → b < w.heap.size) ∧ ¬ rdA ba N.bk ∧ ¬ rdA ba N.bl := by
  have e := ok.d1
  have a := x.ab
  have l1 := x.aa.lt
  refine ⟨fun b hb => ?_, fun z => ?_, fun z => ?_⟩
  · rcases hb with z | z | z | z
    · exact z.elim
    · omega
    · omega
    · omega
  · rcases z with z | z | z <;> omega
  · rcases z with z | z | z <;> omega
/-- What a round of range reads, at its boxes. -/
theorem ri_boxes {w0 W : World} {bk bl i : Nat} {ls : Nat → List Int} {T : Nat → Prop} (h : Ri w0 bk bl ls i T W) : W.cell? ⟨bk, 0, none⟩ = some (.int .i64 (i : Int)) ∧ ∃ Al cl Tl, W.cell? ⟨bl, 0, none⟩ = some (.slice Al (ls i).length cl) ∧ SlB W Tl (.slice Al (ls i).length cl) (ls i) := by
  obtain ⟨_, _, h3, lv, Tl, h4, h5, _⟩ := h
  obtain ⟨A, c, rfl⟩ := h5.slice
  exact ⟨h3.cell, A, c, Tl, h4.cell, h5⟩
theorem ri_boxed {w0 W : World} {bk bl i : Nat} {ls : Nat → List Int} {T : Nat → Prop} (h : Ri w0 bk bl ls i T W) : Boxed W bk 3 (.int .i64 (i : Int)) ∧ ∃ Al cl Tl, Boxed W bl 26 (.slice Al (ls i).length cl) ∧ SlB W Tl (.slice Al (ls i).length cl) (ls i) := by
  obtain ⟨_, _, h3, lv, Tl, h4, h5, _⟩ := h
  obtain ⟨A, c, rfl⟩ := h5.slice
  exact ⟨h3, A, c, Tl, h4, h5⟩
theorem cell_below {W w9 : World} {B : Nat} {t : TypeId} {v : Value} (h : Boxed W B t v) (hb : Below W.heap.size W w9) : w9.cell? ⟨B, 0, none⟩ = some v := Boxed.cell (show Boxed w9 B t v from (hb.block B h.lt).trans h)
/-- The marks are taken one by one. -/
theorem fin_marks {W0 : World} {b0 br : Nat} {v : Value} {t : TypeId} : ∀ (ms : List Nat) (w : World), (∀ D ∈ ms, b0 ≤ D ∧ w.heap[D]? = some (.deferred (some []))) → Boxed w br t v → Below b0 W0 w → b0 ≤ w.heap.size → Boxed (ms.foldl (fun w D => w.putObj D (.deferred none)) w) br t v ∧ Below b0 W0 (ms.foldl (fun w D => w.putObj D (.deferred none)) w) := by
  suffices H : ∀ (ms : List Nat) (w : World), (∀ D ∈ ms, b0 ≤ D ∧ D ≠ br) → Boxed w br t v → Below b0 W0 w → b0 ≤ w.heap.size → Boxed (ms.foldl (fun w D => w.putObj D (.deferred none)) w) br t v ∧ Below b0 W0 (ms.foldl (fun w D => w.putObj D (.deferred none)) w) from
    fun ms w h1 h2 h3 h4 => H ms w (fun D hD => ⟨(h1 D hD).1, fun e => by have y := (h1 D hD).2; rw [e] at y; have := h2.symm.trans y; simp at this⟩) h2 h3 h4
  intro ms
  induction ms with
  | nil => intro w _ h2 h3 _; exact ⟨h2, h3⟩
  | cons D ms ih =>
    intro w h1 h2 h3 h4
    have hD := h1 D (by simp)
    have hg := grownBy_putObj' w D (.deferred none)
    exact ih (w.putObj D (.deferred none)) (fun E hE => h1 E (by simp [hE])) ((World.putObj_heap_other hD.2.symm).trans h2) (h3.trans ((Turn.of_grown (T := fun b => b = D) hg (fun j hj => by cases hj; rfl)).below (fun b hb => by rw [hb]; exact hD.1) h4)) (Nat.le_trans h4 hg.size)
theorem count_calls {W : World} {v : Value} {L : List Int} {r1 r2 : Int} (h : RdS W v L) (hc : PThere.sched_Count.f 80 L = some (r1, r2)) : Calls Try.prog 51 #[v] W fun e W' => e = .returned (.tuple #[.int .i64 r1, .int .i64 r2]) ∧ Drawn0 W W' := by
  obtain ⟨A, c, rfl, h1, hC⟩ := h
  exact PThere.sched_Count.calls 80 A c L r1 r2 W hC h1 hc
/-- The boxes as the law begins. -/
abbrev nm16 (b0 : Nat) : Nm := ⟨b0, b0, b0 + 1, b0 + 1 + 1, b0 + 3, b0 + 3 + 1, b0 + 3 + 1 + 1⟩
theorem nm16_ok (b0 : Nat) : (nm16 b0).Ok := ⟨by simp <;> omega, by simp <;> omega, by simp <;> omega, by simp <;> omega⟩
theorem r0_start {W W1 w2 : World} {b0 : Nat} {d most : Int} (h1 : Below b0 W W1) (h2 : Boxed W1 b0 3 (.int .i64 d)) (h3 : Boxed W1 (b0 + 1) 3 (.int .i64 most)) (h4 : Boxed W1 (b0 + 2) 4 (.bool false)) (hz : W1.heap.size = b0 + 3) (hd : Drawn0 W1 w2) :
    w2.heap.size = b0 + 3 ∧ R0 (nm16 b0) W d most [] 0 ((w2.alloc (.cells #[.int .i64 0] 3)).alloc (.cells #[.slice none 0 0] 26)) := by
  have hz2 : w2.heap.size = b0 + 3 := by obtain ⟨k, rfl⟩ := hd; simpa using hz
  have hb := drawn_bel hd W1.heap.size
  have b1 := (Boxed.new w2 3 (.int .i64 0)).alloc (.cells #[.slice none 0 0] 26)
  have b2 := Boxed.new (w2.alloc (.cells #[.int .i64 0] 3)) 26 (.slice none 0 0)
  rw [World.size_alloc] at b2
  rw [hz2] at b1 b2
  have hg : Below w2.heap.size w2 ((w2.alloc (.cells #[.int .i64 0] 3)).alloc (.cells #[.slice none 0 0] 26)) := ((Below.refl _ w2).alloc (Nat.le_refl _) _).alloc (by simp) _
  have kb : ∀ {B : Nat} {t : TypeId} {u : Value}, Boxed W1 B t u → Boxed ((w2.alloc (.cells #[.int .i64 0] 3)).alloc (.cells #[.slice none 0 0] 26)) B t u := fun hB => (hg.block _ (by have := hB.lt; omega)).trans ((hb.block _ hB.lt).trans hB)
  exact ⟨hz2, (h1.trans (hb.mono (by omega))).trans (hg.mono (by omega)), by simp [hz2], kb h2, kb h3, kb h4, b1, _, fun _ => False, b2, .inl ⟨rfl, rfl⟩, fun b hb => hb.elim⟩
theorem Rs.boxes {N : Nm} {W0 w W5 wd : World} {L : List Int} {h d most k : Int} {o1 s1 o2 s2 m2 o3 s3 m3 ba i : Nat} {v1 v2 v3 : Value} {lst : List Int} {marks : List Nat} {ls : Nat → List Int} {T : Nat → Prop} (ok : N.Ok) (x : Rs N W0 L h d most o1 s1 v1 o2 s2 m2 v2 o3 s3 m3 v3 ba lst marks k w) (hr : Ri w N.bk N.bl ls i T W5) (hb : Below W5.heap.size W5 wd) : Boxed wd N.bd 3 (.int .i64 d) ∧ Boxed wd N.bm 3 (.int .i64 most) := by
  have q := hr.2.1
  have hz := q.size
  have d2 := ok.d2
  have d3 := ok.d3
  exact ⟨(hb.block _ (by have := x.r.bd.lt; omega)).trans ((q.block _ x.r.bd.lt (fun z => z.elim d2.1 d3.1)).trans x.r.bd), (hb.block _ (by have := x.r.bm.lt; omega)).trans ((q.block _ x.r.bm.lt (fun z => z.elim d2.2.1 d3.2.1)).trans x.r.bm)⟩
theorem fin16 {b0 : Nat} {W W5 : World} {L : List Int} {h d most k : Int} {o1 s1 o2 s2 m2 o3 s3 m3 ba D1 D2 D3 D4 : Nat} {v1 v2 v3 : Value} {lst : List Int} (x : Rs (nm16 b0) W L h d most o1 s1 v1 o2 s2 m2 v2 o3 s3 m3 v3 ba lst [D4, D3, D2, D1] k W5) :
    (W5.setCell ⟨b0 + 1 + 1, 0, none⟩ (.bool true)).heap[D4]? = some (.deferred (some [])) ∧ ((W5.setCell ⟨b0 + 1 + 1, 0, none⟩ (.bool true)).putObj D4 (.deferred none)).heap[D3]? = some (.deferred (some [])) ∧
    (((W5.setCell ⟨b0 + 1 + 1, 0, none⟩ (.bool true)).putObj D4 (.deferred none)).putObj D3 (.deferred none)).heap[D2]? = some (.deferred (some [])) ∧ ((((W5.setCell ⟨b0 + 1 + 1, 0, none⟩ (.bool true)).putObj D4 (.deferred none)).putObj D3 (.deferred none)).putObj D2 (.deferred none)).heap[D1]? = some (.deferred (some [])) ∧
    Boxed (((((W5.setCell ⟨b0 + 1 + 1, 0, none⟩ (.bool true)).putObj D4 (.deferred none)).putObj D3 (.deferred none)).putObj D2 (.deferred none)).putObj D1 (.deferred none)) (b0 + 1 + 1) 4 (.bool true) ∧
    Below b0 W (((((W5.setCell ⟨b0 + 1 + 1, 0, none⟩ (.bool true)).putObj D4 (.deferred none)).putObj D3 (.deferred none)).putObj D2 (.deferred none)).putObj D1 (.deferred none)) := by
  have hm := x.ms
  have nd := x.nd
  simp only [List.nodup_cons, List.mem_cons, List.not_mem_nil, not_or, or_false] at nd
  have kp : ∀ D ∈ [D4, D3, D2, D1], b0 ≤ D ∧ (W5.setCell ⟨b0 + 1 + 1, 0, none⟩ (.bool true)).heap[D]? = some (.deferred (some [])) := fun D hD => by
    have q := hm D hD
    have q1 : b0 + 3 + 1 + 1 ≤ D := q.1
    exact ⟨by omega, (Below.heap_setCell W5 _ _ D (by show D ≠ b0 + 1 + 1; omega)).trans q.2⟩
  have f := fin_marks (t := 4) (v := .bool true) [D4, D3, D2, D1] (W5.setCell ⟨b0 + 1 + 1, 0, none⟩ (.bool true)) kp (x.r.br.set _) (x.r.below.setCell (by show b0 ≤ b0 + 1 + 1; omega) _) (by have h1 : b0 + 3 + 1 + 1 ≤ W5.heap.size := x.r.sz; simp; omega)
  exact ⟨(kp D4 (by simp)).2, (World.putObj_heap_other (fun e => nd.1.1 e.symm)).trans (kp D3 (by simp)).2, (World.putObj_heap_other (fun e => nd.2.1.1 e.symm)).trans ((World.putObj_heap_other (fun e => nd.1.2.1 e.symm)).trans (kp D2 (by simp)).2), (World.putObj_heap_other (fun e => nd.2.2.1 e.symm)).trans ((World.putObj_heap_other (fun e => nd.2.1.2 e.symm)).trans ((World.putObj_heap_other (fun e => nd.1.2.2 e.symm)).trans (kp D1 (by simp)).2)), f.1, f.2⟩
/-! ### how many lists All has, as the law counts them -/
def Hn (h : Int) : Nat := if h < 1 then 1 else if 16 < h then 16 else h.toNat
theorem hn_le (h : Int) : 1 ≤ Hn h ∧ Hn h ≤ 16 := by unfold Hn; split; omega; split <;> omega
/-- y rounds, x lists. -/
structure Wnt (h d : Int) (y x : Nat) : Prop where
  y25 : y ≤ 25
  yd : y = 0 ∨ (y : Int) ≤ d
  eq : x = Hn h ^ y
  le : y = 0 ∨ Hn h ^ (y - 1) ≤ 1048576
theorem wnt_start (h d : Int) : Wnt h d 0 1 := ⟨by omega, .inl rfl, rfl, .inl rfl⟩
theorem Wnt.next {h d : Int} {y x : Nat} (w : Wnt h d y x) (c1 : (y : Int) < d) (c2 : y ≤ 24) (c3 : x ≤ 1048576) : Wnt h d (y + 1) (x * Hn h) :=
  ⟨by omega, .inr (by omega), by rw [w.eq, Nat.pow_succ], .inr (by rw [Nat.add_sub_cancel, ← w.eq]; exact c3)⟩
theorem Wnt.lim {h d : Int} {y x : Nat} (w : Wnt h d y x) : x ≤ 16777216 := by
  rcases w.le with z | z
  · subst z; rw [w.eq]; simp
  · by_cases y0 : y = 0
    · subst y0; rw [w.eq]; simp
    · have := w.eq
      obtain ⟨j, rfl⟩ : ∃ j, y = j + 1 := ⟨y - 1, by omega⟩
      rw [Nat.add_sub_cancel] at z
      rw [this, Nat.pow_succ]
      have := (hn_le h).2
      calc Hn h ^ j * Hn h ≤ 1048576 * 16 := Nat.mul_le_mul z this
        _ = 16777216 := by omega
theorem Wnt.mul {h d : Int} {y x : Nat} (w : Wnt h d (y + 1) (x * Hn h)) : wrap64 ((x : Int) * max 1 (min h 16)) = ((x * Hn h : Nat) : Int) := by
  have e : max 1 (min h 16) = (Hn h : Int) := by unfold Hn; split; omega; split <;> omega
  have := w.lim
  rw [e, X.hwrId]
  · exact (Int.natCast_mul x (Hn h)).symm
  · rw [← Int.natCast_mul]; omega
  · rw [← Int.natCast_mul]; omega
theorem Wnt.pos {h d : Int} {y x : Nat} (w : Wnt h d y x) (c : ¬ x ≤ 1048576) : 0 < d := by
  rcases w.yd with z | z
  · subst z; exact absurd (by rw [w.eq]; simp) c
  · by_cases y0 : y = 0
    · subst y0; exact absurd (by rw [w.eq]; simp) c
    · omega
/-- Where the count ends. -/
theorem Wnt.done {h d : Int} {y x : Nat} (w : Wnt h d y x) (e : ¬ (y : Int) < d ∨ ¬ y ≤ 24 ∨ ¬ x ≤ 1048576) : (if h < 1 ∨ 16 < h ∨ d < 0 ∨ 24 < d ∨ 1048576 < x then 0 else x) = cntAll h d := by
  have hl := hn_le h
  by_cases g : (1 ≤ h ∧ h ≤ 16) ∧ (0 ≤ d ∧ d ≤ 24)
  · have hH : Hn h = h.toNat := by unfold Hn; rw [if_neg (by omega), if_neg (by omega)]
    have hy : (y : Int) ≤ d := by rcases w.yd with z | z <;> omega
    have hmono : x ≤ h.toNat ^ d.toNat := by
      rw [w.eq, hH]
      exact Nat.pow_le_pow_right (by omega) (by omega)
    by_cases hx : 1048576 < x
    · rw [if_pos (.inr (.inr (.inr (.inr hx))))]
      unfold cntAll
      rw [if_neg (fun z : okAll h d => by have := z.2.2; omega)]
    · rw [if_neg (by omega)]
      have hyd : y = d.toNat := by rcases e with z | z | z <;> omega
      have he : x = h.toNat ^ d.toNat := by rw [w.eq, hH, hyd]
      unfold cntAll
      rw [if_pos (show okAll h d from ⟨g.1, g.2, by rw [← he]; omega⟩), he]
  · rw [if_pos (by omega)]
    unfold cntAll
    rw [if_neg (fun z : okAll h d => g ⟨z.1, z.2.1⟩)]
end Go.Proofs.Ytfcjfjmjcmanaaa.V
