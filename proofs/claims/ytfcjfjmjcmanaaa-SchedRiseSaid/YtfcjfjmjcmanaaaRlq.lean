/- SchedRise: the law. -/
import Derived.Test.YtfcjfjmjcmanaaaRcq
import Derived.Test.YtfcjfjmjcmanaaaRdq
set_option linter.unusedVariables false
namespace Go.Proofs.Ytfcjfjmjcmanaaa.V
open Go Go.RowKit Go.Proofs.Ytfcjfjmjcmanaaa.X Go.Proofs.YtfcjfjmjcmanaaaW.PrintWords Go.Proofs.YtfcjfjmjcmanaaaW.PrintLast Go.Proofs.YtfcjfjmjcmanaaaW.PrintMore
theorem schedRise_walk (A0 : Option Addr) (c0 : Nat) (L : List Int) {W : World} (hr0 : Kd.C (Kd.int .i64) W A0 L.length L) (hc0 : L.length ≤ c0) (y0 : L.length * 8 ≤ 140737488351232) (zw : ∀ x ∈ L, (Lit.int .i64 x).wf = true)
    (h : Int) (_ : (Lit.int .i64 h).wf = true) (d : Int) (_ : (Lit.int .i64 d).wf = true) (most : Int) (_ : (Lit.int .i64 most).wf = true) :
    Calls Try.prog 16 #[.slice A0 L.length c0, .int .i64 h, .int .i64 d, .int .i64 most] W fun e W' => e = .returned (.bool true) ∧ Below W.heap.size W W' := by
  refine (callsIn_wide (n := 3)).1 ?_
  have hs : RdS W (.slice A0 L.length c0) L := ⟨A0, c0, rfl, hc0, hr0⟩
  have hl : L.length ≤ 17592186043904 := by omega
  by_cases hf : fewOk L = true
  · exact rise_A hs hl hf h d most
  · exact rise_B hs hl (by simpa using hf) h d most
end Go.Proofs.Ytfcjfjmjcmanaaa.V
