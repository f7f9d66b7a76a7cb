/- The blocks of Mixed: the program's and the document's are the same; each handler stands in each. Plain. -/
import Derived.Test.YtfcjfjmjcmanaaaPMixdx
import Derived.Laws.BitsLemmas
set_option linter.unusedVariables false
namespace Go.Proofs.Ytfcjfjmjcmanaaa.X
open Go.RowKit Go.Proofs.Ytfcjfjmjcmanaaa.PMixd Go.Proofs.YtfcjfjmjcmanaaaW.PrintWords Go.Proofs.YtfcjfjmjcmanaaaW.PrintLast Go.Proofs.YtfcjfjmjcmanaaaW.PrintMore
theorem mw64 (n : Int) : IntKind.u64.wrap n = n % 18446744073709551616 := by simp [IntKind.wrap, IntKind.bits, IntKind.signed]
theorem draws_same : sched_source_below.f = larderref07_Mill_Draw.f := rfl
theorem bits_nonneg (op : BinOp) (a b : Int) : 0 ≤ Go.bits op .u64 a b := by
  unfold Go.bits
  split <;> (rw [mw64]; omega)
theorem draw_ok (s n : Int) (h1 : 1 ≤ n) (h2 : n ≤ 2048) : ∃ r, sched_source_below.f s n = some (r, IntKind.u64.wrap (s + 11400714819323198485)) ∧ 0 ≤ r ∧ r < n := by
  unfold sched_source_below.f
  have e : IntKind.u64.wrap n = n := by rw [mw64]; omega
  rw [e, if_neg (by omega)]
  refine ⟨_, rfl, ?_⟩
  generalize hX : Go.bits .xor .u64 _ _ = X
  have hX0 : 0 ≤ X := by rw [← hX]; exact bits_nonneg _ _ _
  have h3 : 0 ≤ Int.tmod X n := Int.tmod_nonneg _ hX0
  have h4 : Int.tmod X n < n := Int.tmod_lt_of_pos _ (by omega)
  unfold wrap64; omega
theorem mwr {x : Int} (h0 : -9223372036854775808 ≤ x) (h1 : x < 9223372036854775808) : wrap64 x = x := by unfold wrap64; omega
theorem mwn (m : Nat) (h : m ≤ 100000) : wrap64 ((m : Int) + 1) = ((m + 1 : Nat) : Int) := by rw [mwr (by omega) (by omega)]; omega
/-- The draw below n, and the next state. -/
def dv (s n : Int) : Int := ((sched_source_below.f s n).getD (0, 0)).1
def st (s : Int) : Int := IntKind.u64.wrap (s + 11400714819323198485)
theorem below_eq (s n : Int) (h1 : 1 ≤ n) (h2 : n ≤ 2048) : sched_source_below.f s n = some (dv s n, st s) ∧ 0 ≤ dv s n ∧ dv s n < n := by
  obtain ⟨r, hr, r0, r1⟩ := draw_ok s n h1 h2
  have : dv s n = r := by unfold dv; rw [hr]; rfl
  rw [this]
  exact ⟨hr, r0, r1⟩
theorem draw_eq (s n : Int) (h1 : 1 ≤ n) (h2 : n ≤ 2048) : larderref07_Mill_Draw.f s n = some (dv s n, st s) := by rw [← draws_same]; exact (below_eq s n h1 h2).1
def fill (h : Nat) : Nat → Nat → Int → List Int × Int
  | 0, _, s => ([], s)
  | m + 1, i, s => if i < h then ((i : Int) :: (fill h m (i + 1) s).1, (fill h m (i + 1) s).2) else (dv s h :: (fill h m (i + 1) (st s)).1, (fill h m (i + 1) (st s)).2)
theorem fill_length (h : Nat) : ∀ m i s, (fill h m i s).1.length = m
  | 0, _, _ => rfl
  | m + 1, i, s => by
    unfold fill
    split
    · simp [fill_length h m]
    · simp [fill_length h m]
def swap (l : List Int) (a b : Nat) : List Int := (l.set a (rd l (b : Int))).set b (rd l (a : Int))
theorem swap_length (l : List Int) (a b : Nat) : (swap l a b).length = l.length := by simp [swap]
def sh : Nat → List Int → Int → List Int × Int
  | 0, l, s => (l, s)
  | i + 1, l, s => sh i (swap l (i + 1) (dv s ((i : Int) + 2)).toNat) (st s)
theorem sh_length : ∀ i l s, (sh i l s).1.length = l.length
  | 0, _, _ => rfl
  | i + 1, l, s => by unfold sh; rw [sh_length i, swap_length]
def blk (h m : Nat) (s : Int) : List Int × Int := sh (m - 1) (fill h m 0 s).1 (fill h m 0 s).2
theorem blk_length (h m : Nat) (s : Int) : (blk h m s).1.length = m := by unfold blk; rw [sh_length, fill_length]
theorem source_l1 : ∀ (i : Nat) (l : List Int) (s : Int) (k : Nat), i < l.length → l.length ≤ 1000 → i + 1 ≤ k → sched_source_block.l1 k l (i : Int) s = some (sh i l s) := by
  intro i
  induction i with
  | zero =>
    intro l s k h1 h2 hk
    obtain ⟨k, rfl⟩ : ∃ m, k = m + 1 := ⟨k - 1, by omega⟩
    simp only [sched_source_block.l1]
    rw [if_neg (by omega)]; rfl
  | succ i ih =>
    intro l s k h1 h2 hk
    obtain ⟨k, rfl⟩ : ∃ m, k = m + 1 := ⟨k - 1, by omega⟩
    have hw : wrap64 (((i + 1 : Nat) : Int) + 1) = (i : Int) + 2 := by rw [mwr (by omega) (by omega)]; omega
    have hw2 : wrap64 (((i + 1 : Nat) : Int) - 1) = (i : Int) := by rw [mwr (by omega) (by omega)]; omega
    obtain ⟨hb, d0, d1⟩ := below_eq s ((i : Int) + 2) (by omega) (by omega)
    simp only [sched_source_block.l1]
    rw [if_pos (by omega), hw, hb]
    simp only [Option.bind_some]
    rw [if_pos d0, if_pos (by omega), if_pos (by omega), if_pos (by omega), hw2]
    have := ih (swap l (i + 1) (dv s ((i : Int) + 2)).toNat) (st s) k (by rw [swap_length]; omega) (by rw [swap_length]; exact h2) (by omega)
    unfold sh
    rw [← this]
    unfold swap
    rw [Int.toNat_natCast, Int.toNat_of_nonneg d0]
theorem mill_l1 : ∀ (i : Nat) (l : List Int) (s : Int) (k : Nat), i < l.length → l.length ≤ 1000 → i + 1 ≤ k → larderref07_Mill_Block.l1 k l (i : Int) s = some (sh i l s) := by
  intro i
  induction i with
  | zero =>
    intro l s k h1 h2 hk
    obtain ⟨k, rfl⟩ : ∃ m, k = m + 1 := ⟨k - 1, by omega⟩
    simp only [larderref07_Mill_Block.l1]
    rw [if_neg (by omega)]; rfl
  | succ i ih =>
    intro l s k h1 h2 hk
    obtain ⟨k, rfl⟩ : ∃ m, k = m + 1 := ⟨k - 1, by omega⟩
    have hw : wrap64 (((i + 1 : Nat) : Int) + 1) = (i : Int) + 2 := by rw [mwr (by omega) (by omega)]; omega
    have hw2 : wrap64 (((i + 1 : Nat) : Int) - 1) = (i : Int) := by rw [mwr (by omega) (by omega)]; omega
    have hb := draw_eq s ((i : Int) + 2) (by omega) (by omega)
    obtain ⟨_, d0, d1⟩ := below_eq s ((i : Int) + 2) (by omega) (by omega)
    simp only [larderref07_Mill_Block.l1]
    rw [if_pos (by omega), hw, hb]
    simp only [Option.bind_some]
    rw [if_pos (by omega), if_pos (by omega), if_pos d0, if_pos (by omega), hw2]
    have := ih (swap l (i + 1) (dv s ((i : Int) + 2)).toNat) (st s) k (by rw [swap_length]; omega) (by rw [swap_length]; exact h2) (by omega)
    unfold sh
    rw [← this]
    unfold swap
    rw [Int.toNat_natCast, Int.toNat_of_nonneg d0]
theorem source_l0 (h : Nat) (h1 : 1 ≤ h) (h2 : h ≤ 16) (n : Nat) (hn : 1 ≤ n) (hn2 : n ≤ 1000) : ∀ (m i : Nat) (pre : List Int) (s : Int) (k : Nat), pre.length = i → i + m = n → m + n + 1 ≤ k →
    sched_source_block.l0 k (h : Int) (n : Int) (pre ++ List.replicate m 0) (n : Int) (i : Int) s = some (sh (n - 1) (pre ++ (fill h m i s).1) (fill h m i s).2) := by
  intro m
  induction m with
  | zero =>
    intro i pre s k hp hi hk
    obtain ⟨k, rfl⟩ : ∃ m, k = m + 1 := ⟨k - 1, by omega⟩
    simp only [sched_source_block.l0]
    rw [if_neg (by omega), show wrap64 ((n : Int) - 1) = ((n - 1 : Nat) : Int) by rw [mwr (by omega) (by omega)]; omega]
    exact source_l1 (n - 1) _ s k (by simp; omega) (by simp; omega) (by omega)
  | succ m ih =>
    intro i pre s k hp hi hk
    obtain ⟨k, rfl⟩ : ∃ m, k = m + 1 := ⟨k - 1, by omega⟩
    have hset : ∀ (v w : Int), (pre ++ v :: List.replicate m 0).set i w = pre ++ w :: List.replicate m 0 := fun v w => by
      rw [← hp, List.set_append_right _ _ (Nat.le_refl _)]; simp
    simp only [sched_source_block.l0]
    rw [if_pos (by omega), if_pos (by omega), if_pos (by simp; omega)]
    simp only [Option.bind_some]
    rw [Int.toNat_natCast, List.replicate_succ, hset]
    have hw := mwn i (by omega)
    by_cases hih : i < h
    · rw [if_neg (by omega), hw]
      have := ih (i + 1) (pre ++ [(i : Int)]) s k (by simp [hp]) (by omega) (by omega)
      rw [List.append_assoc, List.singleton_append] at this
      rw [this]
      simp only [fill]
      rw [if_pos hih, List.append_assoc, List.singleton_append]
    · obtain ⟨hb, d0, d1⟩ := below_eq s (h : Int) (by omega) (by omega)
      rw [if_pos (by omega), hb]
      simp only [Option.bind_some]
      rw [hset, hw]
      have := ih (i + 1) (pre ++ [dv s (h : Int)]) (st s) k (by simp [hp]) (by omega) (by omega)
      rw [List.append_assoc, List.singleton_append] at this
      rw [this]
      simp only [fill]
      rw [if_neg hih, List.append_assoc, List.singleton_append]
theorem source_block_spec (h n : Nat) (h1 : 1 ≤ h) (h2 : h ≤ 16) (hn : 1 ≤ n) (hn2 : n ≤ 1000) (s : Int) (k : Nat) (hk : 2100 ≤ k) : sched_source_block.f k s (h : Int) (n : Int) = some (blk h n s) := by
  unfold sched_source_block.f
  rw [if_pos (by omega), if_pos (by omega)]
  simp only [Option.bind_some, Int.toNat_natCast, List.length_replicate]
  have := source_l0 h h1 h2 n hn hn2 n 0 [] s k rfl (by omega) (by omega)
  rw [List.nil_append, List.nil_append] at this
  exact this
theorem mill_l0 (h : Nat) (h1 : 1 ≤ h) (h2 : h ≤ 16) (n : Nat) (hn : 1 ≤ n) (hn2 : n ≤ 1000) (q : Int) (hq : wrap64 (Int.tdiv (wrap64 (q + 1)) 2) = (n : Int)) : ∀ (m i : Nat) (pre : List Int) (s : Int) (k : Nat), pre.length = i → i + m = n → m + n + 1 ≤ k →
    larderref07_Mill_Block.l0 k (h : Int) q pre (i : Int) s = some (sh (n - 1) (pre ++ (fill h m i s).1) (fill h m i s).2) := by
  intro m
  induction m with
  | zero =>
    intro i pre s k hp hi hk
    obtain ⟨k, rfl⟩ : ∃ m, k = m + 1 := ⟨k - 1, by omega⟩
    simp only [larderref07_Mill_Block.l0]
    rw [hq, if_neg (by omega), show wrap64 ((pre.length : Int) - 1) = ((n - 1 : Nat) : Int) by rw [mwr (by omega) (by omega)]; omega]
    have := mill_l1 (n - 1) pre s k (by omega) (by omega) (by omega)
    simp only [fill, List.append_nil]
    exact this
  | succ m ih =>
    intro i pre s k hp hi hk
    obtain ⟨k, rfl⟩ : ∃ m, k = m + 1 := ⟨k - 1, by omega⟩
    have hw := mwn i (by omega)
    simp only [larderref07_Mill_Block.l0]
    rw [hq, if_pos (by omega)]
    by_cases hih : i < h
    · rw [if_pos (by omega), if_pos (by omega), hw]
      have := ih (i + 1) (pre ++ [(i : Int)]) s k (by simp [hp]) (by omega) (by omega)
      rw [this]
      simp only [fill]
      rw [if_pos hih, List.append_assoc, List.singleton_append]
    · have hb := draw_eq s (h : Int) (by omega) (by omega)
      rw [if_neg (by omega), hb]
      simp only [Option.bind_some]
      rw [if_pos (by omega), hw]
      have := ih (i + 1) (pre ++ [dv s (h : Int)]) (st s) k (by simp [hp]) (by omega) (by omega)
      rw [this]
      simp only [fill]
      rw [if_neg hih, List.append_assoc, List.singleton_append]
theorem mill_block_spec (h n : Nat) (h1 : 1 ≤ h) (h2 : h ≤ 16) (hn : 1 ≤ n) (hn2 : n ≤ 1000) (q : Int) (hq : wrap64 (Int.tdiv (wrap64 (q + 1)) 2) = (n : Int)) (s : Int) (k : Nat) (hk : 2100 ≤ k) : larderref07_Mill_Block.f k s (h : Int) q = some (blk h n s) := by
  unfold larderref07_Mill_Block.f
  have := mill_l0 h h1 h2 n hn hn2 q hq n 0 [] s k rfl (by omega) (by omega)
  rw [List.nil_append] at this
  exact this
/-! who stands in a block -/
theorem mem_swap (l : List Int) (a b : Nat) (ha : a < l.length) (hb : b < l.length) (x : Int) : x ∈ swap l a b ↔ x ∈ l := by
  have ra : rd l (a : Int) = l[a] := by unfold rd; rw [Int.toNat_natCast, List.getD_eq_getElem?_getD, List.getElem?_eq_getElem ha]; rfl
  have rb : rd l (b : Int) = l[b] := by unfold rd; rw [Int.toNat_natCast, List.getD_eq_getElem?_getD, List.getElem?_eq_getElem hb]; rfl
  unfold swap
  rw [ra, rb]
  constructor
  · intro h
    rcases List.mem_or_eq_of_mem_set h with h | h
    · rcases List.mem_or_eq_of_mem_set h with h | h
      · exact h
      · rw [h]; exact List.getElem_mem _
    · rw [h]; exact List.getElem_mem _
  · intro h
    obtain ⟨j, hj, rfl⟩ := List.getElem_of_mem h
    rw [List.mem_iff_getElem?]
    by_cases e1 : j = a
    · subst e1
      exact ⟨b, by rw [List.getElem?_set]; simp; exact hb⟩
    · by_cases e2 : j = b
      · subst e2
        refine ⟨a, ?_⟩
        rw [List.getElem?_set, List.getElem?_set]
        by_cases e3 : j = a
        · exact absurd e3 e1
        · simp [e3, ha]
      · refine ⟨j, ?_⟩
        rw [List.getElem?_set, List.getElem?_set, if_neg (fun z => e2 z.symm), if_neg (fun z => e1 z.symm), List.getElem?_eq_getElem hj]
theorem mem_sh (x : Int) : ∀ (i : Nat) (l : List Int) (s : Int), i < l.length → i ≤ 1000 → (x ∈ (sh i l s).1 ↔ x ∈ l)
  | 0, l, s, _, _ => Iff.rfl
  | i + 1, l, s, h, h2 => by
    obtain ⟨_, d0, d1⟩ := below_eq s ((i : Int) + 2) (by omega) (by omega)
    unfold sh
    rw [mem_sh x i _ _ (by rw [swap_length]; omega) (by omega), mem_swap l _ _ h (by omega)]
theorem fill_num (h : Nat) (h1 : 1 ≤ h) (h2 : h ≤ 16) : ∀ (m i : Nat) (s : Int), ∀ x ∈ (fill h m i s).1, 0 ≤ x ∧ x < (h : Int)
  | 0, _, _, x, hx => by simp [fill] at hx
  | m + 1, i, s, x, hx => by
    unfold fill at hx
    split at hx
    · rcases List.mem_cons.1 hx with rfl | hx
      · omega
      · exact fill_num h h1 h2 m _ _ x hx
    · rcases List.mem_cons.1 hx with rfl | hx
      · exact (below_eq s h (by omega) (by omega)).2
      · exact fill_num h h1 h2 m _ _ x hx
theorem fill_all (h : Nat) : ∀ (m i : Nat) (s : Int) (g : Nat), i ≤ g → g < h → g < i + m → (g : Int) ∈ (fill h m i s).1
  | 0, i, s, g, h1, h2, h3 => by omega
  | m + 1, i, s, g, h1, h2, h3 => by
    unfold fill
    rw [if_pos (by omega)]
    by_cases e : i = g
    · subst e; exact List.mem_cons_self
    · exact List.mem_cons_of_mem _ (fill_all h m (i + 1) s g (by omega) h2 (by omega))
theorem blk_num (h m : Nat) (h1 : 1 ≤ h) (h2 : h ≤ 16) (hm : 1 ≤ m) (hm2 : m ≤ 1000) (s : Int) : ∀ x ∈ (blk h m s).1, 0 ≤ x ∧ x < (h : Int) := fun x hx => by
  unfold blk at hx
  rw [mem_sh x _ _ _ (by rw [fill_length]; omega) (by omega)] at hx
  exact fill_num h h1 h2 m 0 s x hx
theorem blk_all (h m : Nat) (hm : h ≤ m) (hm1 : 1 ≤ m) (hm2 : m ≤ 1000) (s : Int) (g : Nat) (hg : g < h) : (g : Int) ∈ (blk h m s).1 := by
  unfold blk
  rw [mem_sh _ _ _ _ (by rw [fill_length]; omega) (by omega)]
  exact fill_all h m 0 s g (by omega) hg (by omega)
/-! the stream -/
def gen (h m : Nat) (s : Int) : Nat → List Int × Int
  | 0 => ([], s)
  | j + 1 => ((gen h m s j).1 ++ (blk h m (gen h m s j).2).1, (blk h m (gen h m s j).2).2)
theorem gen_length (h m : Nat) (s : Int) : ∀ j, (gen h m s j).1.length = j * m
  | 0 => by simp [gen]
  | j + 1 => by
    show ((gen h m s j).1 ++ (blk h m (gen h m s j).2).1).length = _
    rw [List.length_append, gen_length h m s j, blk_length, Nat.succ_mul]
theorem gen_prefix (h m : Nat) (s : Int) (j : Nat) : ∀ d, (gen h m s j).1 <+: (gen h m s (j + d)).1
  | 0 => List.prefix_refl _
  | d + 1 => (gen_prefix h m s j d).trans (List.prefix_append _ _)
def mixed (h m : Nat) (s : Int) : List Int := (gen h m s 65536).1.take 65536
theorem mixed_length (h m : Nat) (s : Int) (hm : 1 ≤ m) : (mixed h m s).length = 65536 := by
  unfold mixed
  rw [List.length_take, gen_length]
  have : 65536 * 1 ≤ 65536 * m := Nat.mul_le_mul_left _ hm
  omega
theorem take_gen (h m : Nat) (s : Int) (j n : Nat) (hj : j ≤ 65536) (hn : n ≤ j * m) (hn2 : n ≤ 65536) : (mixed h m s).take n = (gen h m s j).1.take n := by
  obtain ⟨d, hd⟩ : ∃ d, 65536 = j + d := ⟨65536 - j, by omega⟩
  unfold mixed
  rw [List.take_take, Nat.min_eq_left hn2]
  obtain ⟨r, hr⟩ := gen_prefix h m s j d
  rw [← hd] at hr
  rw [← hr, List.take_append_of_le_length (by rw [gen_length]; exact hn)]
end Go.Proofs.Ytfcjfjmjcmanaaa.X
