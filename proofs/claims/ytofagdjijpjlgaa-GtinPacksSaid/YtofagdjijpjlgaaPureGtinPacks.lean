/- GtinPacks: Pack answers as the document says, of every text and every level. No condition. -/
import Derived.Test.YtofagdjijpjlgaaXn
import Derived.Test.YtofagdjijpjlgaaPUnitsx1
namespace Go.Proofs.Ytofagdjijpjlgaa.Pure
open Go.RowKit Go.Proofs.Ytofagdjijpjlgaa.PUnits Go.Proofs.Ytofagdjijpjlgaa.PCodes Go.Proofs.Ytofagdjijpjlgaa.PNorm Go.Proofs.YtofagdjijpjlgaaW.PrintWords Go.Proofs.YtofagdjijpjlgaaW.PrintLast Go.Proofs.Ytofagdjijpjlgaa.X

theorem GtinPacks : larderlaw02_GtinPacks.Pure := by
  intro s a _ _
  refine ⟨300, ?_⟩
  suffices h : ∃ r, gtin_Pack.f 300 s a = some r ∧ larderref02_Pack.f 300 s a = some r by
    obtain ⟨r, h1, h2⟩ := h
    unfold larderlaw02_GtinPacks.f
    rw [h1, h2]
    simp
  obtain ⟨⟨n, e⟩, hn, h0, _⟩ := normal_both s
  obtain ⟨hg, hr⟩ := hn 300 (by omega)
  unfold gtin_Pack.f larderref02_Pack.f
  rw [hg, hr]
  simp only [Option.bind_some]
  by_cases he : e = 0
  · obtain ⟨hc, h14, hnn⟩ := h0 he
    simp only at hnn
    rw [if_pos he, if_pos he]
    by_cases a1 : a < 1
    · rw [if_pos a1, if_pos a1]; exact ⟨_, rfl, rfl⟩
    · rw [if_neg a1, if_neg a1]
      by_cases a9 : a > 9
      · rw [if_pos a9, if_pos a9]; exact ⟨_, rfl, rfl⟩
      · rw [if_neg a9, if_neg a9]
        have hw : wrap64 (48 + a) % 256 = 48 + a := by rw [wrap_id (by omega) (by omega)]; omega
        obtain ⟨q, hq, _⟩ := headed_both n (by rw [hnn, norm_size s h14]) (by rw [hnn]; exact (norm_code hc h14).digs) (48 + a) (by unfold dig; omega)
        rw [hw, (hq 300 (by omega)).1, (hq 300 (by omega)).2]
        exact ⟨_, rfl, rfl⟩
  · rw [if_neg he, if_neg he]; exact ⟨_, rfl, rfl⟩

end Go.Proofs.Ytofagdjijpjlgaa.Pure
