/-
  NARROWER THAN 'FOR EVERY INPUT', by the rows' own cells (each row's printed sentence says how): GtinDays: laid · GtinAmounts: laid · GtinShown: laid · GtinParses: laid · GtinSpan: laid · GtinSpoilt: laid.
  DERIVED. THE GIVEN ROWS OF THIS SEAT. 6 by the template 'for every input the law returns true; each argument reads behind the call as it read before'; 0 by the template 'total and deterministic' (their statements: YtofagdjijpjlgaaDoorTotals.lean).
  GIVEN WITH THE SEED: the statements are not yours to turn. If you find one false, say at which input.
  Laid BY PROGRAM, IN A SANDBOX (cutbox-rows.mjs): the forced cells as the released guide's own fill.sh prints them over the translation 7400de70d3ac5a9c… (all of the seat's roots in one cut). By AI agents, Wed Nov 11 2026. No macro, syntax, notation, axiom, sorry.
-/
import Derived.Test.YtofagdjijpjlgaaDoorChecked
import GoSem.Claim
import GoSem.ClaimJoined
import GoSem.ClaimMapViews
import Derived.JoinedTies
import Derived.KernelRfl
namespace Go.Proofs.YtofagdjijpjlgaaDoor
/- THE CELL 'sum', in the pinned program and in every row, IS THE sha256 OF THE DUMP (.gsa) THAT YtofagdjijpjlgaaDoorProg.lean LOADS. Nothing in Lean hashes anything: it is a label: what it is worth is what the hold of that sum in a sandbox is worth. -/
noncomputable def Tryd.pinned : Pinned := { name := "ytofagdjijpjlgaadoor", sum := "7400de70d3ac5a9c9c3fa303802745e6823b442d1e784afa4cb463f60565d0de", checked := Tryd.checked }
namespace Rows
def none {H : Type} : Left H := { results := [], args := [] }

/- WHAT THE LISTED PACKAGE-LEVEL VARIABLES READ AS WHEN THE CALL BEGINS. Each datum BY PROGRAM (the guide's laid-datum.mjs) off the statement by which the dump's own 'gosem.cut.vars' lays the variable. In a bare row this is a premise. The card (YtofagdjijpjlgaaDoorCards.lean) ties it to the program's text. -/
def laid_larder_gtin_table {H : Type} : DataW H := .agg [.agg [.lit (.string [48, 48]), .lit (.int .i64 18), .lit (.int .i64 18), .lit (.int .i64 0), .lit (.bool true)], .agg [.lit (.string [48, 49]), .lit (.int .i64 14), .lit (.int .i64 14), .lit (.int .i64 0), .lit (.bool true)], .agg [.lit (.string [48, 50]), .lit (.int .i64 14), .lit (.int .i64 14), .lit (.int .i64 0), .lit (.bool true)], .agg [.lit (.string [49, 48]), .lit (.int .i64 1), .lit (.int .i64 20), .lit (.int .i64 3), .lit (.bool false)], .agg [.lit (.string [49, 49]), .lit (.int .i64 6), .lit (.int .i64 6), .lit (.int .i64 1), .lit (.bool true)], .agg [.lit (.string [49, 51]), .lit (.int .i64 6), .lit (.int .i64 6), .lit (.int .i64 1), .lit (.bool true)], .agg [.lit (.string [49, 53]), .lit (.int .i64 6), .lit (.int .i64 6), .lit (.int .i64 1), .lit (.bool true)], .agg [.lit (.string [49, 55]), .lit (.int .i64 6), .lit (.int .i64 6), .lit (.int .i64 1), .lit (.bool true)], .agg [.lit (.string [50, 48]), .lit (.int .i64 2), .lit (.int .i64 2), .lit (.int .i64 2), .lit (.bool true)], .agg [.lit (.string [50, 49]), .lit (.int .i64 1), .lit (.int .i64 20), .lit (.int .i64 3), .lit (.bool false)], .agg [.lit (.string [51, 48]), .lit (.int .i64 1), .lit (.int .i64 8), .lit (.int .i64 2), .lit (.bool false)], .agg [.lit (.string [51, 55]), .lit (.int .i64 1), .lit (.int .i64 8), .lit (.int .i64 2), .lit (.bool false)], .agg [.lit (.string [51, 49, 48, 48]), .lit (.int .i64 6), .lit (.int .i64 6), .lit (.int .i64 2), .lit (.bool true)], .agg [.lit (.string [51, 49, 48, 49]), .lit (.int .i64 6), .lit (.int .i64 6), .lit (.int .i64 2), .lit (.bool true)], .agg [.lit (.string [51, 49, 48, 50]), .lit (.int .i64 6), .lit (.int .i64 6), .lit (.int .i64 2), .lit (.bool true)], .agg [.lit (.string [51, 49, 48, 51]), .lit (.int .i64 6), .lit (.int .i64 6), .lit (.int .i64 2), .lit (.bool true)], .agg [.lit (.string [51, 49, 48, 52]), .lit (.int .i64 6), .lit (.int .i64 6), .lit (.int .i64 2), .lit (.bool true)], .agg [.lit (.string [51, 49, 48, 53]), .lit (.int .i64 6), .lit (.int .i64 6), .lit (.int .i64 2), .lit (.bool true)], .agg [.lit (.string [51, 57, 50, 48]), .lit (.int .i64 1), .lit (.int .i64 15), .lit (.int .i64 2), .lit (.bool false)], .agg [.lit (.string [51, 57, 50, 49]), .lit (.int .i64 1), .lit (.int .i64 15), .lit (.int .i64 2), .lit (.bool false)], .agg [.lit (.string [51, 57, 50, 50]), .lit (.int .i64 1), .lit (.int .i64 15), .lit (.int .i64 2), .lit (.bool false)], .agg [.lit (.string [51, 57, 50, 51]), .lit (.int .i64 1), .lit (.int .i64 15), .lit (.int .i64 2), .lit (.bool false)], .agg [.lit (.string [52, 48, 48]), .lit (.int .i64 1), .lit (.int .i64 30), .lit (.int .i64 3), .lit (.bool false)], .agg [.lit (.string [52, 49, 48]), .lit (.int .i64 13), .lit (.int .i64 13), .lit (.int .i64 0), .lit (.bool true)], .agg [.lit (.string [52, 49, 49]), .lit (.int .i64 13), .lit (.int .i64 13), .lit (.int .i64 0), .lit (.bool true)], .agg [.lit (.string [52, 49, 52]), .lit (.int .i64 13), .lit (.int .i64 13), .lit (.int .i64 0), .lit (.bool true)], .agg [.lit (.string [52, 50, 48]), .lit (.int .i64 1), .lit (.int .i64 20), .lit (.int .i64 3), .lit (.bool false)], .agg [.lit (.string [56, 48, 48, 53]), .lit (.int .i64 6), .lit (.int .i64 6), .lit (.int .i64 2), .lit (.bool false)], .agg [.lit (.string [56, 48, 50, 48]), .lit (.int .i64 1), .lit (.int .i64 25), .lit (.int .i64 3), .lit (.bool false)], .agg [.lit (.string [57, 48]), .lit (.int .i64 1), .lit (.int .i64 30), .lit (.int .i64 3), .lit (.bool false)], .agg [.lit (.string [57, 49]), .lit (.int .i64 1), .lit (.int .i64 90), .lit (.int .i64 3), .lit (.bool false)], .agg [.lit (.string [57, 50]), .lit (.int .i64 1), .lit (.int .i64 90), .lit (.int .i64 3), .lit (.bool false)], .agg [.lit (.string [57, 51]), .lit (.int .i64 1), .lit (.int .i64 90), .lit (.int .i64 3), .lit (.bool false)], .agg [.lit (.string [57, 52]), .lit (.int .i64 1), .lit (.int .i64 90), .lit (.int .i64 3), .lit (.bool false)], .agg [.lit (.string [57, 53]), .lit (.int .i64 1), .lit (.int .i64 90), .lit (.int .i64 3), .lit (.bool false)], .agg [.lit (.string [57, 54]), .lit (.int .i64 1), .lit (.int .i64 90), .lit (.int .i64 3), .lit (.bool false)], .agg [.lit (.string [57, 55]), .lit (.int .i64 1), .lit (.int .i64 90), .lit (.int .i64 3), .lit (.bool false)], .agg [.lit (.string [57, 56]), .lit (.int .i64 1), .lit (.int .i64 90), .lit (.int .i64 3), .lit (.bool false)], .agg [.lit (.string [57, 57]), .lit (.int .i64 1), .lit (.int .i64 90), .lit (.int .i64 3), .lit (.bool false)]]

/-- 'larderlaw02.GtinDays': WHATEVER THE INPUT: true; the input reads as it did. -/
def gtinDaysSpec : ChangeSpec := { name := "gtinDays", fn := fun _ => fun
  | [d1, d2] => { results := [.lit (.bool true)], args := [d1, d2] }
  | _ => none }
def gtinDaysRow : OpenClaim := { program := "ytofagdjijpjlgaadoor", sum := "7400de70d3ac5a9c9c3fa303802745e6823b442d1e784afa4cb463f60565d0de", func := "larder/larderlaw02.GtinDays", spec := "gtinDays", inPlace := ["internal/bytealg.IndexByteString"], unfollowed := true, recurses := true, named := ["larder/gtin.table"], apart := false, laid := [("larder/gtin.table", laid_larder_gtin_table)] }
def GtinDaysSaid : Prop := gtinDaysRow.holds Tryd.pinned (OpenSpec.ofChange gtinDaysSpec)

/-- ITS FALSE NEIGHBOUR: 'it returns false'. Refute it at one input. -/
def gtinDaysWrong : ChangeSpec := { name := "gtinDays", fn := fun _ => fun
  | [d1, d2] => { results := [.lit (.bool false)], args := [d1, d2] }
  | _ => none }
def GtinDaysWrongFalsely : Prop := gtinDaysRow.holds Tryd.pinned (OpenSpec.ofChange gtinDaysWrong)

/-- 'larderlaw02.GtinAmounts': WHATEVER THE INPUT: true; the input reads as it did. -/
def gtinAmountsSpec : ChangeSpec := { name := "gtinAmounts", fn := fun _ => fun
  | [d] => { results := [.lit (.bool true)], args := [d] }
  | _ => none }
def gtinAmountsRow : OpenClaim := { program := "ytofagdjijpjlgaadoor", sum := "7400de70d3ac5a9c9c3fa303802745e6823b442d1e784afa4cb463f60565d0de", func := "larder/larderlaw02.GtinAmounts", spec := "gtinAmounts", inPlace := ["internal/bytealg.IndexByteString"], unfollowed := true, recurses := true, named := ["larder/gtin.table"], apart := false, laid := [("larder/gtin.table", laid_larder_gtin_table)] }
def GtinAmountsSaid : Prop := gtinAmountsRow.holds Tryd.pinned (OpenSpec.ofChange gtinAmountsSpec)

/-- ITS FALSE NEIGHBOUR: 'it returns false'. Refute it at one input. -/
def gtinAmountsWrong : ChangeSpec := { name := "gtinAmounts", fn := fun _ => fun
  | [d] => { results := [.lit (.bool false)], args := [d] }
  | _ => none }
def GtinAmountsWrongFalsely : Prop := gtinAmountsRow.holds Tryd.pinned (OpenSpec.ofChange gtinAmountsWrong)

/-- 'larderlaw02.GtinShown': WHATEVER THE INPUT: true; the input reads as it did. -/
def gtinShownSpec : ChangeSpec := { name := "gtinShown", fn := fun _ => fun
  | [d] => { results := [.lit (.bool true)], args := [d] }
  | _ => none }
def gtinShownRow : OpenClaim := { program := "ytofagdjijpjlgaadoor", sum := "7400de70d3ac5a9c9c3fa303802745e6823b442d1e784afa4cb463f60565d0de", func := "larder/larderlaw02.GtinShown", spec := "gtinShown", inPlace := ["internal/bytealg.IndexByteString", "internal/abi.NoEscape"], unfollowed := true, recurses := true, named := ["larder/gtin.table"], apart := false, laid := [("larder/gtin.table", laid_larder_gtin_table)] }
def GtinShownSaid : Prop := gtinShownRow.holds Tryd.pinned (OpenSpec.ofChange gtinShownSpec)

/-- ITS FALSE NEIGHBOUR: 'it returns false'. Refute it at one input. -/
def gtinShownWrong : ChangeSpec := { name := "gtinShown", fn := fun _ => fun
  | [d] => { results := [.lit (.bool false)], args := [d] }
  | _ => none }
def GtinShownWrongFalsely : Prop := gtinShownRow.holds Tryd.pinned (OpenSpec.ofChange gtinShownWrong)

/-- 'larderlaw02.GtinParses': WHATEVER THE INPUT: true; the input reads as it did. -/
def gtinParsesSpec : ChangeSpec := { name := "gtinParses", fn := fun _ => fun
  | [d] => { results := [.lit (.bool true)], args := [d] }
  | _ => none }
def gtinParsesRow : OpenClaim := { program := "ytofagdjijpjlgaadoor", sum := "7400de70d3ac5a9c9c3fa303802745e6823b442d1e784afa4cb463f60565d0de", func := "larder/larderlaw02.GtinParses", spec := "gtinParses", inPlace := ["internal/bytealg.IndexByteString", "internal/bytealg.IndexString"], unfollowed := true, recurses := true, named := ["larder/gtin.table", "internal/bytealg.MaxLen"], apart := false, laid := [("larder/gtin.table", laid_larder_gtin_table)] }
def GtinParsesSaid : Prop := gtinParsesRow.holds Tryd.pinned (OpenSpec.ofChange gtinParsesSpec)

/-- ITS FALSE NEIGHBOUR: 'it returns false'. Refute it at one input. -/
def gtinParsesWrong : ChangeSpec := { name := "gtinParses", fn := fun _ => fun
  | [d] => { results := [.lit (.bool false)], args := [d] }
  | _ => none }
def GtinParsesWrongFalsely : Prop := gtinParsesRow.holds Tryd.pinned (OpenSpec.ofChange gtinParsesWrong)

/-- 'larderlaw02.GtinSpan': WHATEVER THE INPUT: true; the input reads as it did. -/
def gtinSpanSpec : ChangeSpec := { name := "gtinSpan", fn := fun _ => fun
  | [d1, d2, d3, d4] => { results := [.lit (.bool true)], args := [d1, d2, d3, d4] }
  | _ => none }
def gtinSpanRow : OpenClaim := { program := "ytofagdjijpjlgaadoor", sum := "7400de70d3ac5a9c9c3fa303802745e6823b442d1e784afa4cb463f60565d0de", func := "larder/larderlaw02.GtinSpan", spec := "gtinSpan", inPlace := ["internal/bytealg.IndexByteString", "internal/bytealg.IndexString"], unfollowed := true, recurses := true, named := ["larder/gtin.table", "internal/bytealg.MaxLen"], apart := false, laid := [("larder/gtin.table", laid_larder_gtin_table)] }
def GtinSpanSaid : Prop := gtinSpanRow.holds Tryd.pinned (OpenSpec.ofChange gtinSpanSpec)

/-- ITS FALSE NEIGHBOUR: 'it returns false'. Refute it at one input. -/
def gtinSpanWrong : ChangeSpec := { name := "gtinSpan", fn := fun _ => fun
  | [d1, d2, d3, d4] => { results := [.lit (.bool false)], args := [d1, d2, d3, d4] }
  | _ => none }
def GtinSpanWrongFalsely : Prop := gtinSpanRow.holds Tryd.pinned (OpenSpec.ofChange gtinSpanWrong)

/-- 'larderlaw02.GtinSpoilt': WHATEVER THE INPUT: true; the input reads as it did. -/
def gtinSpoiltSpec : ChangeSpec := { name := "gtinSpoilt", fn := fun _ => fun
  | [d1, d2, d3, d4] => { results := [.lit (.bool true)], args := [d1, d2, d3, d4] }
  | _ => none }
def gtinSpoiltRow : OpenClaim := { program := "ytofagdjijpjlgaadoor", sum := "7400de70d3ac5a9c9c3fa303802745e6823b442d1e784afa4cb463f60565d0de", func := "larder/larderlaw02.GtinSpoilt", spec := "gtinSpoilt", inPlace := ["internal/bytealg.IndexByteString", "internal/abi.NoEscape", "internal/bytealg.IndexString"], unfollowed := true, recurses := true, named := ["larder/gtin.table", "internal/bytealg.MaxLen"], apart := false, laid := [("larder/gtin.table", laid_larder_gtin_table)] }
def GtinSpoiltSaid : Prop := gtinSpoiltRow.holds Tryd.pinned (OpenSpec.ofChange gtinSpoiltSpec)

/-- ITS FALSE NEIGHBOUR: 'it returns false'. Refute it at one input. -/
def gtinSpoiltWrong : ChangeSpec := { name := "gtinSpoilt", fn := fun _ => fun
  | [d1, d2, d3, d4] => { results := [.lit (.bool false)], args := [d1, d2, d3, d4] }
  | _ => none }
def GtinSpoiltWrongFalsely : Prop := gtinSpoiltRow.holds Tryd.pinned (OpenSpec.ofChange gtinSpoiltWrong)

/- THE SECOND FORM. 'bulk': how many values and letters a reading holds, each counted each time it is reached (what is shared counts as often as it is met; a slice's spare places count too). A statement '..UptoSaid' is the law's where the arguments, and the package variables that the reading takes, are together of bulk at most 1048576: NARROWER than '..Said'. Prove '..Said' where nothing that the law and all that it calls make is longer than what came in: it says more and counts as full. Else prove '..UptoSaid'. A law counts once. -/
mutual
def uptoBulk {H : Type} : DataW H → Nat
  | .lit (.string bytes) => bytes.length + 1
  | .lit _ => 1
  | .nil => 1
  | .ptr d => uptoBulk d + 1
  | .slice elems spare => uptoBulkAll elems + uptoBulkAll spare + 1
  | .agg parts => uptoBulkAll parts + 1
  | .iface _ d => uptoBulk d + 1
  | .map entries => uptoBulkEntries entries + 1
  | .held _ => 1
def uptoBulkAll {H : Type} : List (DataW H) → Nat
  | [] => 0
  | d :: r => uptoBulk d + uptoBulkAll r
def uptoBulkEntries {H : Type} : List (Lit × DataW H) → Nat
  | [] => 0
  | x :: r => uptoBulkEntry x + uptoBulkEntries r
def uptoBulkEntry {H : Type} : Lit × DataW H → Nat
  | (.string bytes, d) => bytes.length + uptoBulk d + 1
  | (_, d) => uptoBulk d + 1
 end
def uptoSmall : (H : Type) → List (DataW H) → Bool := fun _ ds => decide (uptoBulkAll ds ≤ 1048576)
def OpenSpec.upto (s : _root_.Go.ChangeSpec) : _root_.Go.OpenSpec := { _root_.Go.OpenSpec.ofChange s with cond := some uptoSmall }

/-- 'larderlaw02.GtinDays', WHERE WHAT IT READS IS OF BULK AT MOST 1048576: true; the input reads as it did. -/
def gtinDaysUptoRow : OpenClaim := { program := "ytofagdjijpjlgaadoor", sum := "7400de70d3ac5a9c9c3fa303802745e6823b442d1e784afa4cb463f60565d0de", func := "larder/larderlaw02.GtinDays", spec := "gtinDays", inPlace := ["internal/bytealg.IndexByteString"], unfollowed := true, recurses := true, named := ["larder/gtin.table"], apart := false, laid := [("larder/gtin.table", laid_larder_gtin_table)], narrowed := true }
def GtinDaysUptoSaid : Prop := gtinDaysUptoRow.holds Tryd.pinned (OpenSpec.upto gtinDaysSpec)

/-- 'larderlaw02.GtinAmounts', WHERE WHAT IT READS IS OF BULK AT MOST 1048576: true; the input reads as it did. -/
def gtinAmountsUptoRow : OpenClaim := { program := "ytofagdjijpjlgaadoor", sum := "7400de70d3ac5a9c9c3fa303802745e6823b442d1e784afa4cb463f60565d0de", func := "larder/larderlaw02.GtinAmounts", spec := "gtinAmounts", inPlace := ["internal/bytealg.IndexByteString"], unfollowed := true, recurses := true, named := ["larder/gtin.table"], apart := false, laid := [("larder/gtin.table", laid_larder_gtin_table)], narrowed := true }
def GtinAmountsUptoSaid : Prop := gtinAmountsUptoRow.holds Tryd.pinned (OpenSpec.upto gtinAmountsSpec)

/-- 'larderlaw02.GtinShown', WHERE WHAT IT READS IS OF BULK AT MOST 1048576: true; the input reads as it did. -/
def gtinShownUptoRow : OpenClaim := { program := "ytofagdjijpjlgaadoor", sum := "7400de70d3ac5a9c9c3fa303802745e6823b442d1e784afa4cb463f60565d0de", func := "larder/larderlaw02.GtinShown", spec := "gtinShown", inPlace := ["internal/bytealg.IndexByteString", "internal/abi.NoEscape"], unfollowed := true, recurses := true, named := ["larder/gtin.table"], apart := false, laid := [("larder/gtin.table", laid_larder_gtin_table)], narrowed := true }
def GtinShownUptoSaid : Prop := gtinShownUptoRow.holds Tryd.pinned (OpenSpec.upto gtinShownSpec)

/-- 'larderlaw02.GtinParses', WHERE WHAT IT READS IS OF BULK AT MOST 1048576: true; the input reads as it did. -/
def gtinParsesUptoRow : OpenClaim := { program := "ytofagdjijpjlgaadoor", sum := "7400de70d3ac5a9c9c3fa303802745e6823b442d1e784afa4cb463f60565d0de", func := "larder/larderlaw02.GtinParses", spec := "gtinParses", inPlace := ["internal/bytealg.IndexByteString", "internal/bytealg.IndexString"], unfollowed := true, recurses := true, named := ["larder/gtin.table", "internal/bytealg.MaxLen"], apart := false, laid := [("larder/gtin.table", laid_larder_gtin_table)], narrowed := true }
def GtinParsesUptoSaid : Prop := gtinParsesUptoRow.holds Tryd.pinned (OpenSpec.upto gtinParsesSpec)

/-- 'larderlaw02.GtinSpan', WHERE WHAT IT READS IS OF BULK AT MOST 1048576: true; the input reads as it did. -/
def gtinSpanUptoRow : OpenClaim := { program := "ytofagdjijpjlgaadoor", sum := "7400de70d3ac5a9c9c3fa303802745e6823b442d1e784afa4cb463f60565d0de", func := "larder/larderlaw02.GtinSpan", spec := "gtinSpan", inPlace := ["internal/bytealg.IndexByteString", "internal/bytealg.IndexString"], unfollowed := true, recurses := true, named := ["larder/gtin.table", "internal/bytealg.MaxLen"], apart := false, laid := [("larder/gtin.table", laid_larder_gtin_table)], narrowed := true }
def GtinSpanUptoSaid : Prop := gtinSpanUptoRow.holds Tryd.pinned (OpenSpec.upto gtinSpanSpec)

/-- 'larderlaw02.GtinSpoilt', WHERE WHAT IT READS IS OF BULK AT MOST 1048576: true; the input reads as it did. -/
def gtinSpoiltUptoRow : OpenClaim := { program := "ytofagdjijpjlgaadoor", sum := "7400de70d3ac5a9c9c3fa303802745e6823b442d1e784afa4cb463f60565d0de", func := "larder/larderlaw02.GtinSpoilt", spec := "gtinSpoilt", inPlace := ["internal/bytealg.IndexByteString", "internal/abi.NoEscape", "internal/bytealg.IndexString"], unfollowed := true, recurses := true, named := ["larder/gtin.table", "internal/bytealg.MaxLen"], apart := false, laid := [("larder/gtin.table", laid_larder_gtin_table)], narrowed := true }
def GtinSpoiltUptoSaid : Prop := gtinSpoiltUptoRow.holds Tryd.pinned (OpenSpec.upto gtinSpoiltSpec)

end Rows
end Go.Proofs.YtofagdjijpjlgaaDoor
