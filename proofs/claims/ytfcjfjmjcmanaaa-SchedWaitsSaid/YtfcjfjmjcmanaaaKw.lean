/- Mixed picks: every window holds all. -/
import Derived.Test.YtfcjfjmjcmanaaaYc
set_option linter.unusedVariables false
namespace Go.Proofs.Ytfcjfjmjcmanaaa.X
open Go.RowKit Go.Shelf
def wWfair (l : List Int) (n : Nat) (kk : Int) : Prop := ∀ i : Nat, i < l.length → kk ≤ (i : Int) + 1 → ∀ g : Nat, g < n → ∃ j : Nat, ((i : Int) + 1 - kk).toNat ≤ j ∧ j < i + 1 ∧ l.getD j 0 = (g : Int)
theorem wgetD_take (l : List Int) (m j : Nat) (hj : j < m) : (l.take m).getD j 0 = l.getD j 0 := by
  rw [List.getD_eq_getElem?_getD, List.getD_eq_getElem?_getD, List.getElem?_take, if_pos hj]
theorem wgen_num (h m : Nat) (h1 : 1 ≤ h) (h2 : h ≤ 16) (hm : 1 ≤ m) (hm2 : m ≤ 1000) (s : Int) : ∀ j, ∀ x ∈ (gen h m s j).1, 0 ≤ x ∧ x < (h : Int)
  | 0, x, hx => by simp [gen] at hx
  | j + 1, x, hx => by
    rcases List.mem_append.1 (show x ∈ (gen h m s j).1 ++ (blk h m (gen h m s j).2).1 from hx) with h3 | h3
    · exact wgen_num h m h1 h2 hm hm2 s j x h3
    · exact blk_num h m h1 h2 hm hm2 _ x h3
theorem wgen_has (h m : Nat) (hm : h ≤ m) (hm1 : 1 ≤ m) (hm2 : m ≤ 1000) (s : Int) (b : Nat) (hb : b < 65536) (g : Nat) (hg : g < h) : ∃ t, t < m ∧ (gen h m s 65536).1.getD (b * m + t) 0 = (g : Int) := by
  obtain ⟨t, ht, he⟩ := List.getElem_of_mem (blk_all h m hm hm1 hm2 (gen h m s b).2 g hg)
  rw [blk_length] at ht
  refine ⟨t, ht, ?_⟩
  obtain ⟨d, hd⟩ : ∃ d, 65536 = (b + 1) + d := ⟨65536 - (b + 1), by omega⟩
  obtain ⟨r, hr⟩ := gen_prefix h m s (b + 1) d
  rw [hd, ← hr]
  have hl : (gen h m s (b + 1)).1 = (gen h m s b).1 ++ (blk h m (gen h m s b).2).1 := rfl
  rw [hl, List.append_assoc, List.getD_eq_getElem?_getD, List.getElem?_append_right (by rw [gen_length]; omega), gen_length, Nat.add_sub_cancel_left, List.getElem?_append_left (by rw [blk_length]; exact ht), List.getElem?_eq_getElem (by rw [blk_length]; exact ht), he]
  rfl
theorem wmixed_wfair (h m : Nat) (s : Int) (k : Int) (h1 : 1 ≤ h) (h2 : h ≤ 16) (hm : h ≤ m) (hm2 : m ≤ 1000) (hk : 2 * (m : Int) - 1 ≤ k) (n : Nat) (hn : n ≤ 65536) : wWfair ((mixed h m s).take n) h k ∧ ((mixed h m s).take n).length = n ∧ ∀ x ∈ (mixed h m s).take n, 0 ≤ x ∧ x < (h : Int) := by
  have hlen : ((mixed h m s).take n).length = n := by rw [List.length_take, mixed_length _ _ _ (by omega)]; omega
  have ht : (mixed h m s).take n = (gen h m s 65536).1.take n := take_gen h m s 65536 n (Nat.le_refl _) (Nat.le_trans hn (Nat.le_mul_of_pos_right _ (by omega))) hn
  refine ⟨?_, hlen, fun x hx => ?_⟩
  · intro i hi hki g hg
    rw [hlen] at hi
    rw [ht]
    obtain ⟨a, ha⟩ : ∃ a : Nat, (i : Int) + 1 - k = a := ⟨((i : Int) + 1 - k).toNat, by omega⟩
    have q1 := Nat.div_add_mod (a + m - 1) m
    have q2 := Nat.mod_lt (a + m - 1) (show m > 0 by omega)
    generalize hb : (a + m - 1) / m = b at q1
    generalize (a + m - 1) % m = r at q1 q2
    have hbm : b ≤ m * b := Nat.le_mul_of_pos_left _ (by omega)
    obtain ⟨t, t1, t2⟩ := wgen_has h m hm (by omega) hm2 s b (by omega) g hg
    rw [Nat.mul_comm] at t2
    exact ⟨m * b + t, by omega, by omega, by rw [wgetD_take _ _ _ (by omega)]; exact t2⟩
  · rw [ht] at hx
    exact wgen_num h m h1 h2 (by omega) hm2 s 65536 x (List.mem_of_mem_take hx)
end Go.Proofs.Ytfcjfjmjcmanaaa.X
