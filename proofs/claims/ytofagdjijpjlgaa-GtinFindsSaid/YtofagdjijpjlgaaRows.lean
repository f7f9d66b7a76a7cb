/-
  No cell of these rows narrows 'for every input' (looked for: loops, veiled, ifaces, maps, wideKeys, modest, calm, conditions, laid).
  DERIVED. THE GIVEN ROWS OF THIS SEAT. 9 by the template 'for every input the law returns true; each argument reads behind the call as it read before'; 0 by the template 'total and deterministic' (their statements: YtofagdjijpjlgaaTotals.lean).
  GIVEN WITH THE SEED: the statements are not yours to turn. If you find one false, say at which input.
  Laid BY PROGRAM, IN A SANDBOX (cutbox-rows.mjs): the forced cells as the released guide's own fill.sh prints them over the translation 73d2b1ebae12e6a8… (all of the seat's roots in one cut). By AI agents, Wed Nov 11 2026. No macro, syntax, notation, axiom, sorry.
-/
import Derived.Test.YtofagdjijpjlgaaChecked
import GoSem.Claim
import GoSem.ClaimJoined
import GoSem.ClaimMapViews
import Derived.JoinedTies
import Derived.KernelRfl
namespace Go.Proofs.Ytofagdjijpjlgaa
/- THE CELL 'sum', in the pinned program and in every row, IS THE sha256 OF THE DUMP (.gsa) THAT YtofagdjijpjlgaaProg.lean LOADS. Nothing in Lean hashes anything: it is a label: what it is worth is what the hold of that sum in a sandbox is worth. -/
noncomputable def Try.pinned : Pinned := { name := "ytofagdjijpjlgaa", sum := "73d2b1ebae12e6a89c04b99140db8e6b58ed71ffe1f023a8f374fff8cac81ee4", checked := Try.checked }
namespace Rows
def none {H : Type} : Left H := { results := [], args := [] }

/-- 'larderlaw02.GtinFinds': WHATEVER THE INPUT: true; the input reads as it did. -/
def gtinFindsSpec : ChangeSpec := { name := "gtinFinds", fn := fun _ => fun
  | [d1, d2] => { results := [.lit (.bool true)], args := [d1, d2] }
  | _ => none }
def gtinFindsRow : OpenClaim := { program := "ytofagdjijpjlgaa", sum := "73d2b1ebae12e6a89c04b99140db8e6b58ed71ffe1f023a8f374fff8cac81ee4", func := "larder/larderlaw02.GtinFinds", spec := "gtinFinds", apart := false }
def GtinFindsSaid : Prop := gtinFindsRow.holds Try.pinned (OpenSpec.ofChange gtinFindsSpec)

/-- ITS FALSE NEIGHBOUR: 'it returns false'. Refute it at one input. -/
def gtinFindsWrong : ChangeSpec := { name := "gtinFinds", fn := fun _ => fun
  | [d1, d2] => { results := [.lit (.bool false)], args := [d1, d2] }
  | _ => none }
def GtinFindsWrongFalsely : Prop := gtinFindsRow.holds Try.pinned (OpenSpec.ofChange gtinFindsWrong)

/-- 'larderlaw02.GtinDigits': WHATEVER THE INPUT: true; the input reads as it did. -/
def gtinDigitsSpec : ChangeSpec := { name := "gtinDigits", fn := fun _ => fun
  | [d] => { results := [.lit (.bool true)], args := [d] }
  | _ => none }
def gtinDigitsRow : OpenClaim := { program := "ytofagdjijpjlgaa", sum := "73d2b1ebae12e6a89c04b99140db8e6b58ed71ffe1f023a8f374fff8cac81ee4", func := "larder/larderlaw02.GtinDigits", spec := "gtinDigits", unfollowed := true, recurses := true, apart := false }
def GtinDigitsSaid : Prop := gtinDigitsRow.holds Try.pinned (OpenSpec.ofChange gtinDigitsSpec)

/-- ITS FALSE NEIGHBOUR: 'it returns false'. Refute it at one input. -/
def gtinDigitsWrong : ChangeSpec := { name := "gtinDigits", fn := fun _ => fun
  | [d] => { results := [.lit (.bool false)], args := [d] }
  | _ => none }
def GtinDigitsWrongFalsely : Prop := gtinDigitsRow.holds Try.pinned (OpenSpec.ofChange gtinDigitsWrong)

/-- 'larderlaw02.GtinMade': WHATEVER THE INPUT: true; the input reads as it did. -/
def gtinMadeSpec : ChangeSpec := { name := "gtinMade", fn := fun _ => fun
  | [d1, d2] => { results := [.lit (.bool true)], args := [d1, d2] }
  | _ => none }
def gtinMadeRow : OpenClaim := { program := "ytofagdjijpjlgaa", sum := "73d2b1ebae12e6a89c04b99140db8e6b58ed71ffe1f023a8f374fff8cac81ee4", func := "larder/larderlaw02.GtinMade", spec := "gtinMade", unfollowed := true, recurses := true, apart := false }
def GtinMadeSaid : Prop := gtinMadeRow.holds Try.pinned (OpenSpec.ofChange gtinMadeSpec)

/-- ITS FALSE NEIGHBOUR: 'it returns false'. Refute it at one input. -/
def gtinMadeWrong : ChangeSpec := { name := "gtinMade", fn := fun _ => fun
  | [d1, d2] => { results := [.lit (.bool false)], args := [d1, d2] }
  | _ => none }
def GtinMadeWrongFalsely : Prop := gtinMadeRow.holds Try.pinned (OpenSpec.ofChange gtinMadeWrong)

/-- 'larderlaw02.GtinOne': WHATEVER THE INPUT: true; the input reads as it did. -/
def gtinOneSpec : ChangeSpec := { name := "gtinOne", fn := fun _ => fun
  | [d1, d2, d3, d4] => { results := [.lit (.bool true)], args := [d1, d2, d3, d4] }
  | _ => none }
def gtinOneRow : OpenClaim := { program := "ytofagdjijpjlgaa", sum := "73d2b1ebae12e6a89c04b99140db8e6b58ed71ffe1f023a8f374fff8cac81ee4", func := "larder/larderlaw02.GtinOne", spec := "gtinOne", unfollowed := true, recurses := true, apart := false }
def GtinOneSaid : Prop := gtinOneRow.holds Try.pinned (OpenSpec.ofChange gtinOneSpec)

/-- ITS FALSE NEIGHBOUR: 'it returns false'. Refute it at one input. -/
def gtinOneWrong : ChangeSpec := { name := "gtinOne", fn := fun _ => fun
  | [d1, d2, d3, d4] => { results := [.lit (.bool false)], args := [d1, d2, d3, d4] }
  | _ => none }
def GtinOneWrongFalsely : Prop := gtinOneRow.holds Try.pinned (OpenSpec.ofChange gtinOneWrong)

/-- 'larderlaw02.GtinSwaps': WHATEVER THE INPUT: true; the input reads as it did. -/
def gtinSwapsSpec : ChangeSpec := { name := "gtinSwaps", fn := fun _ => fun
  | [d1, d2, d3] => { results := [.lit (.bool true)], args := [d1, d2, d3] }
  | _ => none }
def gtinSwapsRow : OpenClaim := { program := "ytofagdjijpjlgaa", sum := "73d2b1ebae12e6a89c04b99140db8e6b58ed71ffe1f023a8f374fff8cac81ee4", func := "larder/larderlaw02.GtinSwaps", spec := "gtinSwaps", unfollowed := true, recurses := true, apart := false }
def GtinSwapsSaid : Prop := gtinSwapsRow.holds Try.pinned (OpenSpec.ofChange gtinSwapsSpec)

/-- ITS FALSE NEIGHBOUR: 'it returns false'. Refute it at one input. -/
def gtinSwapsWrong : ChangeSpec := { name := "gtinSwaps", fn := fun _ => fun
  | [d1, d2, d3] => { results := [.lit (.bool false)], args := [d1, d2, d3] }
  | _ => none }
def GtinSwapsWrongFalsely : Prop := gtinSwapsRow.holds Try.pinned (OpenSpec.ofChange gtinSwapsWrong)

/-- 'larderlaw02.GtinPacks': WHATEVER THE INPUT: true; the input reads as it did. -/
def gtinPacksSpec : ChangeSpec := { name := "gtinPacks", fn := fun _ => fun
  | [d1, d2] => { results := [.lit (.bool true)], args := [d1, d2] }
  | _ => none }
def gtinPacksRow : OpenClaim := { program := "ytofagdjijpjlgaa", sum := "73d2b1ebae12e6a89c04b99140db8e6b58ed71ffe1f023a8f374fff8cac81ee4", func := "larder/larderlaw02.GtinPacks", spec := "gtinPacks", inPlace := ["internal/abi.NoEscape", "internal/bytealg.MakeNoZero"], unfollowed := true, recurses := true, apart := false }
def GtinPacksSaid : Prop := gtinPacksRow.holds Try.pinned (OpenSpec.ofChange gtinPacksSpec)

/-- ITS FALSE NEIGHBOUR: 'it returns false'. Refute it at one input. -/
def gtinPacksWrong : ChangeSpec := { name := "gtinPacks", fn := fun _ => fun
  | [d1, d2] => { results := [.lit (.bool false)], args := [d1, d2] }
  | _ => none }
def GtinPacksWrongFalsely : Prop := gtinPacksRow.holds Try.pinned (OpenSpec.ofChange gtinPacksWrong)

/-- 'larderlaw02.GtinZeros': WHATEVER THE INPUT: true; the input reads as it did. -/
def gtinZerosSpec : ChangeSpec := { name := "gtinZeros", fn := fun _ => fun
  | [d1, d2] => { results := [.lit (.bool true)], args := [d1, d2] }
  | _ => none }
def gtinZerosRow : OpenClaim := { program := "ytofagdjijpjlgaa", sum := "73d2b1ebae12e6a89c04b99140db8e6b58ed71ffe1f023a8f374fff8cac81ee4", func := "larder/larderlaw02.GtinZeros", spec := "gtinZeros", inPlace := ["internal/abi.NoEscape", "internal/bytealg.MakeNoZero", "internal/bytealg.CountString", "internal/bytealg.IndexByteString", "internal/bytealg.IndexString"], unfollowed := true, recurses := true, named := ["internal/bytealg.MaxLen"], apart := false }
def GtinZerosSaid : Prop := gtinZerosRow.holds Try.pinned (OpenSpec.ofChange gtinZerosSpec)

/-- ITS FALSE NEIGHBOUR: 'it returns false'. Refute it at one input. -/
def gtinZerosWrong : ChangeSpec := { name := "gtinZeros", fn := fun _ => fun
  | [d1, d2] => { results := [.lit (.bool false)], args := [d1, d2] }
  | _ => none }
def GtinZerosWrongFalsely : Prop := gtinZerosRow.holds Try.pinned (OpenSpec.ofChange gtinZerosWrong)

/-- 'larderlaw02.GtinChecks': WHATEVER THE INPUT: true; the input reads as it did. -/
def gtinChecksSpec : ChangeSpec := { name := "gtinChecks", fn := fun _ => fun
  | [d] => { results := [.lit (.bool true)], args := [d] }
  | _ => none }
def gtinChecksRow : OpenClaim := { program := "ytofagdjijpjlgaa", sum := "73d2b1ebae12e6a89c04b99140db8e6b58ed71ffe1f023a8f374fff8cac81ee4", func := "larder/larderlaw02.GtinChecks", spec := "gtinChecks", inPlace := ["internal/abi.NoEscape", "internal/bytealg.MakeNoZero", "internal/bytealg.CountString", "internal/bytealg.IndexByteString", "internal/bytealg.IndexString"], unfollowed := true, recurses := true, named := ["internal/bytealg.MaxLen"], apart := false }
def GtinChecksSaid : Prop := gtinChecksRow.holds Try.pinned (OpenSpec.ofChange gtinChecksSpec)

/-- ITS FALSE NEIGHBOUR: 'it returns false'. Refute it at one input. -/
def gtinChecksWrong : ChangeSpec := { name := "gtinChecks", fn := fun _ => fun
  | [d] => { results := [.lit (.bool false)], args := [d] }
  | _ => none }
def GtinChecksWrongFalsely : Prop := gtinChecksRow.holds Try.pinned (OpenSpec.ofChange gtinChecksWrong)

/-- 'larderlaw02.GtinLevels': WHATEVER THE INPUT: true; the input reads as it did. -/
def gtinLevelsSpec : ChangeSpec := { name := "gtinLevels", fn := fun _ => fun
  | [d1, d2, d3] => { results := [.lit (.bool true)], args := [d1, d2, d3] }
  | _ => none }
def gtinLevelsRow : OpenClaim := { program := "ytofagdjijpjlgaa", sum := "73d2b1ebae12e6a89c04b99140db8e6b58ed71ffe1f023a8f374fff8cac81ee4", func := "larder/larderlaw02.GtinLevels", spec := "gtinLevels", inPlace := ["internal/abi.NoEscape", "internal/bytealg.MakeNoZero", "internal/bytealg.CountString", "internal/bytealg.IndexByteString", "internal/bytealg.IndexString"], unfollowed := true, recurses := true, named := ["internal/bytealg.MaxLen"], apart := false }
def GtinLevelsSaid : Prop := gtinLevelsRow.holds Try.pinned (OpenSpec.ofChange gtinLevelsSpec)

/-- ITS FALSE NEIGHBOUR: 'it returns false'. Refute it at one input. -/
def gtinLevelsWrong : ChangeSpec := { name := "gtinLevels", fn := fun _ => fun
  | [d1, d2, d3] => { results := [.lit (.bool false)], args := [d1, d2, d3] }
  | _ => none }
def GtinLevelsWrongFalsely : Prop := gtinLevelsRow.holds Try.pinned (OpenSpec.ofChange gtinLevelsWrong)

/- THE SECOND FORM. 'bulk': how many values and letters a reading holds, each counted each time it is reached (what is shared counts as often as it is met; a slice's spare places count too). A statement '..UptoSaid' is the law's where the arguments, and the package variables that the reading takes, are together of bulk at most 1048576: NARROWER than '..Said'. Prove '..Said' where nothing that the law and all that it calls make is longer than what came in: it says more and counts as full. Else prove '..UptoSaid'. A law counts once. -/
mutual
def uptoBulk {H : Type} : DataW H → Nat
  | .lit (.string bytes) => bytes.length + 1
  | .lit _ => 1
  | .nil => 1
  | .ptr d => uptoBulk d + 1
  | .slice elems spare => uptoBulkAll elems + uptoBulkAll spare + 1
  | .agg parts => uptoBulkAll parts + 1
  | .iface _ d => uptoBulk d + 1
  | .map entries => uptoBulkEntries entries + 1
  | .held _ => 1
def uptoBulkAll {H : Type} : List (DataW H) → Nat
  | [] => 0
  | d :: r => uptoBulk d + uptoBulkAll r
def uptoBulkEntries {H : Type} : List (Lit × DataW H) → Nat
  | [] => 0
  | x :: r => uptoBulkEntry x + uptoBulkEntries r
def uptoBulkEntry {H : Type} : Lit × DataW H → Nat
  | (.string bytes, d) => bytes.length + uptoBulk d + 1
  | (_, d) => uptoBulk d + 1
 end
def uptoSmall : (H : Type) → List (DataW H) → Bool := fun _ ds => decide (uptoBulkAll ds ≤ 1048576)
def OpenSpec.upto (s : _root_.Go.ChangeSpec) : _root_.Go.OpenSpec := { _root_.Go.OpenSpec.ofChange s with cond := some uptoSmall }

/-- 'larderlaw02.GtinFinds', WHERE WHAT IT READS IS OF BULK AT MOST 1048576: true; the input reads as it did. -/
def gtinFindsUptoRow : OpenClaim := { program := "ytofagdjijpjlgaa", sum := "73d2b1ebae12e6a89c04b99140db8e6b58ed71ffe1f023a8f374fff8cac81ee4", func := "larder/larderlaw02.GtinFinds", spec := "gtinFinds", apart := false, narrowed := true }
def GtinFindsUptoSaid : Prop := gtinFindsUptoRow.holds Try.pinned (OpenSpec.upto gtinFindsSpec)

/-- 'larderlaw02.GtinDigits', WHERE WHAT IT READS IS OF BULK AT MOST 1048576: true; the input reads as it did. -/
def gtinDigitsUptoRow : OpenClaim := { program := "ytofagdjijpjlgaa", sum := "73d2b1ebae12e6a89c04b99140db8e6b58ed71ffe1f023a8f374fff8cac81ee4", func := "larder/larderlaw02.GtinDigits", spec := "gtinDigits", unfollowed := true, recurses := true, apart := false, narrowed := true }
def GtinDigitsUptoSaid : Prop := gtinDigitsUptoRow.holds Try.pinned (OpenSpec.upto gtinDigitsSpec)

/-- 'larderlaw02.GtinMade', WHERE WHAT IT READS IS OF BULK AT MOST 1048576: true; the input reads as it did. -/
def gtinMadeUptoRow : OpenClaim := { program := "ytofagdjijpjlgaa", sum := "73d2b1ebae12e6a89c04b99140db8e6b58ed71ffe1f023a8f374fff8cac81ee4", func := "larder/larderlaw02.GtinMade", spec := "gtinMade", unfollowed := true, recurses := true, apart := false, narrowed := true }
def GtinMadeUptoSaid : Prop := gtinMadeUptoRow.holds Try.pinned (OpenSpec.upto gtinMadeSpec)

/-- 'larderlaw02.GtinOne', WHERE WHAT IT READS IS OF BULK AT MOST 1048576: true; the input reads as it did. -/
def gtinOneUptoRow : OpenClaim := { program := "ytofagdjijpjlgaa", sum := "73d2b1ebae12e6a89c04b99140db8e6b58ed71ffe1f023a8f374fff8cac81ee4", func := "larder/larderlaw02.GtinOne", spec := "gtinOne", unfollowed := true, recurses := true, apart := false, narrowed := true }
def GtinOneUptoSaid : Prop := gtinOneUptoRow.holds Try.pinned (OpenSpec.upto gtinOneSpec)

/-- 'larderlaw02.GtinSwaps', WHERE WHAT IT READS IS OF BULK AT MOST 1048576: true; the input reads as it did. -/
def gtinSwapsUptoRow : OpenClaim := { program := "ytofagdjijpjlgaa", sum := "73d2b1ebae12e6a89c04b99140db8e6b58ed71ffe1f023a8f374fff8cac81ee4", func := "larder/larderlaw02.GtinSwaps", spec := "gtinSwaps", unfollowed := true, recurses := true, apart := false, narrowed := true }
def GtinSwapsUptoSaid : Prop := gtinSwapsUptoRow.holds Try.pinned (OpenSpec.upto gtinSwapsSpec)

/-- 'larderlaw02.GtinPacks', WHERE WHAT IT READS IS OF BULK AT MOST 1048576: true; the input reads as it did. -/
def gtinPacksUptoRow : OpenClaim := { program := "ytofagdjijpjlgaa", sum := "73d2b1ebae12e6a89c04b99140db8e6b58ed71ffe1f023a8f374fff8cac81ee4", func := "larder/larderlaw02.GtinPacks", spec := "gtinPacks", inPlace := ["internal/abi.NoEscape", "internal/bytealg.MakeNoZero"], unfollowed := true, recurses := true, apart := false, narrowed := true }
def GtinPacksUptoSaid : Prop := gtinPacksUptoRow.holds Try.pinned (OpenSpec.upto gtinPacksSpec)

/-- 'larderlaw02.GtinZeros', WHERE WHAT IT READS IS OF BULK AT MOST 1048576: true; the input reads as it did. -/
def gtinZerosUptoRow : OpenClaim := { program := "ytofagdjijpjlgaa", sum := "73d2b1ebae12e6a89c04b99140db8e6b58ed71ffe1f023a8f374fff8cac81ee4", func := "larder/larderlaw02.GtinZeros", spec := "gtinZeros", inPlace := ["internal/abi.NoEscape", "internal/bytealg.MakeNoZero", "internal/bytealg.CountString", "internal/bytealg.IndexByteString", "internal/bytealg.IndexString"], unfollowed := true, recurses := true, named := ["internal/bytealg.MaxLen"], apart := false, narrowed := true }
def GtinZerosUptoSaid : Prop := gtinZerosUptoRow.holds Try.pinned (OpenSpec.upto gtinZerosSpec)

/-- 'larderlaw02.GtinChecks', WHERE WHAT IT READS IS OF BULK AT MOST 1048576: true; the input reads as it did. -/
def gtinChecksUptoRow : OpenClaim := { program := "ytofagdjijpjlgaa", sum := "73d2b1ebae12e6a89c04b99140db8e6b58ed71ffe1f023a8f374fff8cac81ee4", func := "larder/larderlaw02.GtinChecks", spec := "gtinChecks", inPlace := ["internal/abi.NoEscape", "internal/bytealg.MakeNoZero", "internal/bytealg.CountString", "internal/bytealg.IndexByteString", "internal/bytealg.IndexString"], unfollowed := true, recurses := true, named := ["internal/bytealg.MaxLen"], apart := false, narrowed := true }
def GtinChecksUptoSaid : Prop := gtinChecksUptoRow.holds Try.pinned (OpenSpec.upto gtinChecksSpec)

/-- 'larderlaw02.GtinLevels', WHERE WHAT IT READS IS OF BULK AT MOST 1048576: true; the input reads as it did. -/
def gtinLevelsUptoRow : OpenClaim := { program := "ytofagdjijpjlgaa", sum := "73d2b1ebae12e6a89c04b99140db8e6b58ed71ffe1f023a8f374fff8cac81ee4", func := "larder/larderlaw02.GtinLevels", spec := "gtinLevels", inPlace := ["internal/abi.NoEscape", "internal/bytealg.MakeNoZero", "internal/bytealg.CountString", "internal/bytealg.IndexByteString", "internal/bytealg.IndexString"], unfollowed := true, recurses := true, named := ["internal/bytealg.MaxLen"], apart := false, narrowed := true }
def GtinLevelsUptoSaid : Prop := gtinLevelsUptoRow.holds Try.pinned (OpenSpec.upto gtinLevelsSpec)

end Rows
end Go.Proofs.Ytofagdjijpjlgaa
