/- Few: what its lists are, beside those of Mixes. Plain. -/
import Derived.Test.YtfcjfjmjcmanaaaGc
import Derived.Test.YtfcjfjmjcmanaaaGu
set_option linter.unusedVariables false
namespace Go.Proofs.Ytfcjfjmjcmanaaa.V
open Go Go.RowKit Go.Proofs.Ytfcjfjmjcmanaaa.X Go.Proofs.YtfcjfjmjcmanaaaW.PrintWords Go.Proofs.YtfcjfjmjcmanaaaW.PrintLast Go.Proofs.YtfcjfjmjcmanaaaW.PrintMore
theorem mixes_small {L : List Int} {l : List Int} (hl : l ∈ mixesOf L) : l.length ≤ 24 := by
  unfold mixesOf at hl
  split at hl
  · rename_i h
    obtain ⟨s, rfl, hok, hs⟩ := few_yes h
    rw [hs] at hl
    rw [gen_len _ _ _ _ hl]; exact hok.1.2.2
  · cases hl
theorem mixes_no {L : List Int} (h : fewOk L = false) : mixesOf L = [] := by unfold mixesOf; rw [h]; rfl
theorem fews_no {L : List Int} {most : Int} (h : fewOk L = false ∨ most < 0) : fewsOf L most = [] := by
  unfold fewsOf fewO
  rcases h with h | h
  · rw [h]; rfl
  · rw [decide_eq_false (by omega), Bool.and_false]; rfl
theorem fews_eq {L : List Int} {most : Int} (h : fewOk L = true) (hm : 0 ≤ most) : fewsOf L most = (mixesOf L).filter (fun l => decide ((nsw l : Int) ≤ most)) := by
  unfold fewsOf fewO mixesOf
  rw [h, decide_eq_true hm]
  simp only [Bool.and_self, if_true]
  rw [few_filter most _ _ _ _ rfl hm]
  refine List.filter_congr fun l _ => ?_
  rw [Nat.zero_add]; rfl
theorem fews_all {L : List Int} (h : fewOk L = true) : fewsOf L 24 = mixesOf L := by
  rw [fews_eq h (by decide)]
  refine List.filter_eq_self.2 fun l hl => ?_
  have h1 := nsw_le l
  have h2 := mixes_small hl
  exact decide_eq_true (by omega)
theorem fews_some {L : List Int} {most : Int} (h : fewOk L = true) (hm : 0 ≤ most) : 0 < (fewsOf L most).length := by
  rw [fews_eq h hm]
  obtain ⟨s, rfl, hok, hs⟩ := few_yes h
  refine List.length_pos_of_mem (a := runs 0 s) (List.mem_filter.2 ⟨?_, ?_⟩)
  · unfold mixesOf; rw [if_pos h, hs]; exact runs_mix s
  · rw [nsw_sorted _ (runs_sorted s 0)]; exact decide_eq_true hm
theorem fews_mem {L l : List Int} {most : Int} (hl : l ∈ fewsOf L most) : (nsw l : Int) ≤ most ∧ ∀ x ∈ l, Hnum x := by
  by_cases h : fewOk L = true
  · by_cases hm : 0 ≤ most
    · rw [fews_eq h hm] at hl
      obtain ⟨h1, h2⟩ := List.mem_filter.1 hl
      obtain ⟨s, rfl, hok, hs⟩ := few_yes h
      unfold mixesOf at h1
      rw [if_pos h, hs] at h1
      exact ⟨of_decide_eq_true h2, fun x hx => by have h3 := gen_num _ _ _ _ h1 x hx; have h4 := hok.1.2.1; exact ⟨h3.1, by omega⟩⟩
    · rw [fews_no (.inr (by omega))] at hl; cases hl
  · rw [fews_no (.inl (by simpa using h))] at hl; cases hl
end Go.Proofs.Ytfcjfjmjcmanaaa.V
