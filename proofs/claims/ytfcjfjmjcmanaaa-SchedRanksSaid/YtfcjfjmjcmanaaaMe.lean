/- Rank: the printed function tells how many mixes are ahead. Plain. -/
import Derived.Test.YtfcjfjmjcmanaaaMd
import Derived.Test.YtfcjfjmjcmanaaaPTherex4
set_option linter.unusedVariables false
namespace Go.Proofs.Ytfcjfjmjcmanaaa.X
open Go.RowKit Go.Proofs.Ytfcjfjmjcmanaaa.PThere Go.Proofs.YtfcjfjmjcmanaaaW.PrintWords Go.Proofs.YtfcjfjmjcmanaaaW.PrintLast Go.Proofs.YtfcjfjmjcmanaaaW.PrintMore Go.Proofs.Ytfcjfjmjcmanaaa.Mu

theorem getD_append_zeros (s : List Nat) (z h : Nat) : (s ++ List.replicate z 0).getD h 0 = s.getD h 0 := getD_zeros s z h
theorem Rank_l1 (x0 P : List Int) (len i : Int) (h : Nat) (hh : h < 16) : ∀ (d : Nat) (left : List Nat) (k : Nat), h + 1 - left.length = d → left.length ≤ 16 → left.getD h 0 ≤ 100 →
    sched_Rank.l1 (k + d + 1) x0 (lift left) (h : Int) P len i = sched_Rank.l0 k x0 (lift ((left ++ List.replicate d 0).set h (left.getD h 0 + 1))) P len (wrap64 (i + 1)) := by
  intro d
  induction d with
  | zero =>
    intro left k hd hl hb
    have hw := wn (left.getD h 0) (by omega)
    simp only [sched_Rank.l1]
    rw [if_neg (by rw [lift_length]; omega), if_pos (by omega), if_pos (by rw [lift_length]; omega), rd_lift, hw, Int.toNat_natCast, lift_set]
    simp
  | succ d ih =>
    intro left k hd hl hb
    have e0 : (left ++ [0]).getD h 0 = left.getD h 0 := getD_zeros left 1 h
    have h1 := ih (left ++ [0]) k (by simp; omega) (by simp; omega) (by rw [e0]; exact hb)
    rw [show k + (d + 1) + 1 = (k + d + 1) + 1 by omega]
    generalize k + d + 1 = kk at h1 ⊢
    simp only [sched_Rank.l1]
    rw [if_pos (by rw [lift_length]; omega), if_pos (by rw [lift_length]; omega)]
    have e1 : lift left ++ [0] = lift (left ++ [0]) := by simp [lift]
    rw [e1, h1, e0, List.append_assoc]
    rfl
theorem count_bound (l : List Nat) (i : Nat) : l.count i ≤ l.length := List.count_le_length
theorem Rank_l0 (x0 : List Int) (B : Nat) (hB : B ≤ 16) : ∀ (rest taken left : List Nat) (k : Nat), (∀ h ∈ rest, h < B) → (∀ i, left.getD i 0 = taken.count i) → left.length ≤ B → taken.length + rest.length ≤ 24 → 20 * rest.length + 100 ≤ k →
    ∃ (left' : List Nat) (k' : Nat), k ≤ k' + 20 * rest.length + 1 ∧ left'.length ≤ B ∧ (∀ i, left'.getD i 0 = (taken ++ rest).count i) ∧
      sched_Rank.l0 k x0 (lift left) (lift (taken ++ rest)) ((taken ++ rest).length : Int) (taken.length : Int) =
        (sched_count.f k' (lift left')).bind fun bt149 => (if bt149.2 = true then (sched_Rank.l2 k' (lift left') 0 x0 (x0.length : Int) 0) else (some (0, 26))) := by
  intro rest
  induction rest with
  | nil =>
    intro taken left k h1 h2 h3 h4 hk
    obtain ⟨k, rfl⟩ : ∃ m, k = m + 1 := ⟨k - 1, by omega⟩
    refine ⟨left, k, by simp, h3, by simpa using h2, ?_⟩
    simp only [sched_Rank.l0]
    rw [if_neg (by simp)]
  | cons h rest ih =>
    intro taken left k h1 h2 h3 h4 hk
    simp only [List.length_cons] at h4 hk
    have hh := h1 h (by simp)
    obtain ⟨d, hd⟩ : ∃ d, h + 1 - left.length = d := ⟨_, rfl⟩
    obtain ⟨k, rfl⟩ : ∃ m, k = (m + d + 1) + 1 + 1 := ⟨k - d - 3, by omega⟩
    have hb : left.getD h 0 ≤ 100 := by rw [h2]; have := count_bound taken h; omega
    simp only [sched_Rank.l0]
    rw [if_pos (by simp; omega), if_pos (by omega), if_pos (by rw [lift_length]; simp; omega), rd_lift, getD_mid, if_neg (by omega), decide_eq_false (by omega)]
    simp only [sched_Rank.j1]
    rw [if_neg (by simp), Rank_l1 x0 _ _ _ h (by omega) d left k hd (by omega) hb, wn _ (by omega)]
    obtain ⟨left', k', hk', hl', hc', hE⟩ := ih (taken ++ [h]) ((left ++ List.replicate d 0).set h (left.getD h 0 + 1)) k (fun x hx => h1 x (by simp [hx])) (fun i => by
      rw [List.count_append, ← h2 i]
      by_cases e : h = i
      · subst e
        have : h < (left ++ List.replicate d 0).length := by simp; omega
        rw [List.getD_eq_getElem?_getD, List.getElem?_set, if_pos rfl, if_pos this]
        simp
      · have e' : (h == i) = false := by simpa using e
        rw [List.getD_eq_getElem?_getD, List.getElem?_set, if_neg e, ← List.getD_eq_getElem?_getD, getD_zeros]
        simp [List.count_cons, e']) (by simp; omega) (by simp; omega) (by omega)
    rw [List.append_assoc, List.singleton_append, show (taken ++ [h]).length = taken.length + 1 by simp] at hE
    refine ⟨left', k', by simp only [List.length_cons]; omega, hl', by rw [List.append_assoc, List.singleton_append] at hc'; exact hc', hE⟩
/-- Rank's inner loop: what begins with a lower pick. -/
theorem Rank_l3 (s : List Nat) (hs : s.sum ≤ 24) (hl : s.length ≤ 16) (hM : M s ≤ 4611686018427387904) (h : Nat) (hh : h < s.length) (hp : 0 < s.getD h 0) (x9 : Nat) (hx : x9 + pre s h ≤ 4611686018427387904) (P : List Int) (len i : Int) :
    ∀ (d g k : Nat), g + d = h → 80 ≤ k →
      sched_Rank.l3 (k + d + 1) (lift s) ((x9 + pre s g : Nat) : Int) (h : Int) P len i (h : Int) (g : Int) = sched_Rank.l2 k (lift (dec s h)) ((x9 + pre s h : Nat) : Int) P len (wrap64 (i + 1)) := by
  intro d
  induction d with
  | zero =>
    intro g k hd hk
    obtain rfl : g = h := by omega
    have hle := getD_le s g
    have e1 : wrap64 (((s.getD g 0 : Nat) : Int) - 1) = ((s.getD g 0 - 1 : Nat) : Int) := by rw [wr (by omega) (by omega)]; omega
    simp only [sched_Rank.l3]
    rw [if_neg (by omega), if_pos (by omega), if_pos (by rw [lift_length]; omega), rd_lift, e1, Int.toNat_natCast, lift_set]
    rfl
  | succ d ih =>
    intro g k hd hk
    have ih' := ih (g + 1) k (by omega) hk
    have hle := getD_le s g
    have hpm := pre_mono s (g + 1) (h - (g + 1))
    rw [show g + 1 + (h - (g + 1)) = h by omega] at hpm
    have hpre : pre s (g + 1) = pre s g + w s g := rfl
    have hwg := Lib.hid (wn g (by omega))
    rw [show k + (d + 1) + 1 = (k + d + 1) + 1 by omega]
    obtain ⟨kk, hkk⟩ : ∃ kk, k + d + 1 = kk := ⟨_, rfl⟩
    have hk80 : 80 ≤ kk := by omega
    rw [hkk] at ih' ⊢
    clear hkk ih
    simp only [sched_Rank.l3]
    rw [if_pos (by omega), if_pos (by omega), if_pos (by rw [lift_length]; omega), rd_lift]
    by_cases hz : 0 < s.getD g 0
    · have hw : w s g = M (dec s g) := by unfold w; rw [if_pos hz]
      have e1 : Hid (wrap64 (((s.getD g 0 : Nat) : Int) - 1) = ((s.getD g 0 - 1 : Nat) : Int)) := Lib.hid (by rw [wr (by omega) (by omega)]; omega)
      have e2 : (lift s).set ((g : Int)).toNat ((s.getD g 0 - 1 : Nat) : Int) = lift (dec s g) := by rw [Int.toNat_natCast, lift_set]; rfl
      have hsd := sum_dec s g hz
      have hMd := w_le s g (by omega) hz
      have hways := ways_spec (dec s g) (by omega) (by rw [dec_length]; exact hl) (by omega) kk hk80
      have e3 : rd (lift (dec s g)) (g : Int) = ((dec s g).getD g 0 : Nat) := rd_lift _ _
      have e4 : (dec s g).getD g 0 ≤ 24 := by have := getD_le (dec s g) g; omega
      have e5 : (lift (dec s g)).set ((g : Int)).toNat (((dec s g).getD g 0 + 1 : Nat) : Int) = lift s := by rw [Int.toNat_natCast, lift_set, dec_back s g hz]
      have e6 : Hid (wrap64 (((x9 + pre s g : Nat) : Int) + ((M (dec s g) : Nat) : Int)) = ((x9 + pre s (g + 1) : Nat) : Int)) := Lib.hid (by rw [wr (by omega) (by omega)]; omega)
      rw [if_pos (by omega), e1.out, e2]
      simp only [Option.bind_some]
      rw [hways]
      simp only [Option.bind_some]
      rw [e3, wn _ (by omega), e5, e6.out, hwg.out]
      exact ih'
    · have hw : w s g = 0 := by unfold w; rw [if_neg hz]
      rw [if_neg (by omega), hwg.out]
      rw [hpre, hw, Nat.add_zero] at ih'
      exact ih'
theorem Rank_l2 : ∀ (l : List Nat) (s : List Nat) (n x9 : Nat) (taken : List Nat) (k : Nat), At s n l → s.sum ≤ 24 → s.length ≤ 16 → M s ≤ 4611686018427387904 → x9 + n ≤ 4611686018427387904 → taken.length + l.length ≤ 100 → 20 * l.length + 100 ≤ k →
    sched_Rank.l2 k (lift s) (x9 : Int) (lift (taken ++ l)) ((taken ++ l).length : Int) (taken.length : Int) = some (((x9 + n : Nat) : Int), 0) := by
  intro l
  induction l with
  | nil =>
    intro s n x9 taken k hA hs hl hM hx ht hk
    obtain ⟨k, rfl⟩ : ∃ m, k = m + 1 := ⟨k - 1, by omega⟩
    cases hA with
    | nil _ _ =>
      simp only [sched_Rank.l2]
      rw [if_neg (by simp)]; rfl
  | cons h l ih =>
    intro s n x9 taken k hA hs hl hM hx ht hk
    simp only [List.length_cons] at ht hk
    cases hA with
    | cons _ _ _ _ hh hp h1 h2 hA' =>
      obtain ⟨k, rfl⟩ : ∃ m, k = (m + h + 1) + 1 := ⟨k - h - 2, by omega⟩
      simp only [sched_Rank.l2]
      rw [if_pos (by simp; omega), if_pos (by omega), if_pos (by rw [lift_length]; simp; omega), rd_lift, getD_mid]
      have h3 := Rank_l3 s hs hl hM h hh hp x9 (by omega) (lift (taken ++ h :: l)) ((taken ++ h :: l).length : Int) (taken.length : Int) h 0 k (by omega) (by omega)
      rw [show x9 + pre s 0 = x9 from rfl] at h3
      have h3 : sched_Rank.l3 (k + h + 1) (lift s) (x9 : Int) (h : Int) (lift (taken ++ h :: l)) ((taken ++ h :: l).length : Int) (taken.length : Int) (h : Int) 0 = _ := h3
      rw [h3, wn _ (by omega)]
      have hsd := sum_dec s h hp
      have hMd := w_le s h hh hp
      have h4 := ih (dec s h) (n - pre s h) (x9 + pre s h) (taken ++ [h]) k hA' (by omega) (by rw [dec_length]; exact hl) (by omega) (by omega) (by simp; omega) (by omega)
      rw [List.append_assoc, List.singleton_append, show (taken ++ [h]).length = taken.length + 1 by simp, show x9 + pre s h + (n - pre s h) = x9 + n by omega] at h4
      exact h4
theorem Rank_spec (s : List Nat) (h : Right s) (hM : M s ≤ 4611686018427387904) (n : Nat) (l : List Nat) (hA : At s n l) (k : Nat) (hk : 2000 ≤ k) : sched_Rank.f k (lift l) = some ((n : Int), 0) := by
  have hlen := hA.length
  have hs24 := h.2.2
  unfold sched_Rank.f
  rw [if_neg (by rw [lift_length]; omega), lift_length]
  obtain ⟨left, k', hk', hl', hc', hE⟩ := Rank_l0 (lift l) s.length h.2.1 l [] [] k (fun x hx => hA.mem hx) (fun i => by simp) (by simp) (by simp; omega) (by omega)
  rw [List.nil_append] at hE hc'
  have hE' : sched_Rank.l0 k (lift l) [] (lift l) (l.length : Int) 0 = _ := hE
  rw [hE']
  have hs := eq_zeros left s hl' (fun i => by rw [hc', hA.count])
  obtain ⟨z, hz⟩ : ∃ z, s.length - left.length = z := ⟨_, rfl⟩
  rw [hz] at hs
  have hsum : left.sum = s.sum := by rw [hs]; simp
  have hMM : M left = M s := by rw [hs, M_zeros]
  have hA2 : At left n l := by rw [hs] at hA; exact hA.zeros
  have hlm : left.length ≤ 16 := by have := h.2.1; omega
  rw [count_spec left (by omega) hlm k' (by omega), told_yes (by omega)]
  simp only [Option.bind_some, if_true]
  have hb := hA.bound
  have := Rank_l2 l left n 0 [] k' hA2 (by omega) hlm (by omega) (by omega) (by simp; omega) (by omega)
  rw [List.nil_append, Nat.zero_add] at this
  rw [lift_length]
  exact this
end Go.Proofs.Ytfcjfjmjcmanaaa.X
