/- GtinChecks: Check, Normal, Short and Unit answer as the document says, of every text. No condition. -/
import Derived.Test.YtofagdjijpjlgaaXn
import Derived.Test.YtofagdjijpjlgaaPUnitsx1
namespace Go.Proofs.Ytofagdjijpjlgaa.Pure
open Go.RowKit Go.Proofs.Ytofagdjijpjlgaa.PUnits Go.Proofs.Ytofagdjijpjlgaa.PCodes Go.Proofs.Ytofagdjijpjlgaa.PNorm Go.Proofs.YtofagdjijpjlgaaW.PrintWords Go.Proofs.YtofagdjijpjlgaaW.PrintLast Go.Proofs.Ytofagdjijpjlgaa.X

theorem unit_both (s : ByteArray) (k : Nat) (hk : 300 ≤ k) : ∃ r, gtin_Unit.f k s = some r ∧ larderref02_Unit.f k s = some r := by
  obtain ⟨⟨n, e⟩, hn, h0, _⟩ := normal_both s
  obtain ⟨hg, hr⟩ := hn k hk
  unfold gtin_Unit.f larderref02_Unit.f
  rw [hg, hr]
  simp only [Option.bind_some]
  by_cases he : e = 0
  · obtain ⟨hc, h14, hnn⟩ := h0 he
    simp only at hnn
    rw [if_pos he, if_pos he]
    obtain ⟨q, hq, _⟩ := headed_both n (by rw [hnn, norm_size s h14]) (by rw [hnn]; exact (norm_code hc h14).digs) 48 (by unfold dig; omega)
    obtain ⟨r, hr, _⟩ := short_both q
    rw [(hq k hk).1, (hq k hk).2]
    simp only [Option.bind_some]
    rw [(hr k hk).1, (hr k hk).2]
    exact ⟨_, rfl, rfl⟩
  · rw [if_neg he, if_neg he]; exact ⟨_, rfl, rfl⟩
theorem GtinChecks : larderlaw02_GtinChecks.Pure := by
  intro s _
  refine ⟨400, ?_⟩
  obtain ⟨c, hc, _⟩ := check_both s
  obtain ⟨n, hn, _⟩ := normal_both s
  obtain ⟨t, ht, _⟩ := short_both s
  obtain ⟨u, hu, hu'⟩ := unit_both s 397 (by omega)
  unfold larderlaw02_GtinChecks.f
  rw [(hc 400 (by omega)).1, (hc 400 (by omega)).2]
  simp only [Option.bind_some, if_true, bne_self_eq_false]
  simp only [larderlaw02_GtinChecks.j0]
  rw [if_neg (by simp), (hn 399 (by omega)).1, (hn 399 (by omega)).2]
  simp only [Option.bind_some, if_true, bne_self_eq_false]
  simp only [larderlaw02_GtinChecks.j1]
  rw [if_neg (by simp), (ht 398 (by omega)).1, (ht 398 (by omega)).2]
  simp only [Option.bind_some, if_true, bne_self_eq_false]
  simp only [larderlaw02_GtinChecks.j2]
  rw [if_neg (by simp), hu, hu']
  simp

end Go.Proofs.Ytofagdjijpjlgaa.Pure
