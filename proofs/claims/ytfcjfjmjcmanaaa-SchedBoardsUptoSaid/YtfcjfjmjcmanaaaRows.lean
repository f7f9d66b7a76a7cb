/-
  No cell of these rows narrows 'for every input' (looked for: loops, veiled, ifaces, maps, wideKeys, modest, calm, conditions, laid).
  DERIVED. THE GIVEN ROWS OF THIS SEAT. 18 by the template 'for every input the law returns true; each argument reads behind the call as it read before'; 0 by the template 'total and deterministic' (their statements: YtfcjfjmjcmanaaaTotals.lean).
  GIVEN WITH THE SEED: the statements are not yours to turn. If you find one false, say at which input.
  Laid BY PROGRAM, IN A SANDBOX (cutbox-rows.mjs): the forced cells as the released guide's own fill.sh prints them over the translation 9e42532949886e3d… (all of the seat's roots in one cut). By AI agents, Wed Nov 11 2026. No macro, syntax, notation, axiom, sorry.
-/
import Derived.Test.YtfcjfjmjcmanaaaChecked
import GoSem.Claim
import GoSem.ClaimJoined
import GoSem.ClaimMapViews
import Derived.JoinedTies
import Derived.KernelRfl
namespace Go.Proofs.Ytfcjfjmjcmanaaa
/- THE CELL 'sum', in the pinned program and in every row, IS THE sha256 OF THE DUMP (.gsa) THAT YtfcjfjmjcmanaaaProg.lean LOADS. Nothing in Lean hashes anything: it is a label: what it is worth is what the hold of that sum in a sandbox is worth. -/
noncomputable def Try.pinned : Pinned := { name := "ytfcjfjmjcmanaaa", sum := "9e42532949886e3d90847706485289fac7b78c3f96c8f635e7b2bd0b0670c54a", checked := Try.checked }
namespace Rows
def none {H : Type} : Left H := { results := [], args := [] }

/-- 'larderlaw07.SchedRounds': WHATEVER THE INPUT: true; the input reads as it did. -/
def schedRoundsSpec : ChangeSpec := { name := "schedRounds", fn := fun _ => fun
  | [d1, d2] => { results := [.lit (.bool true)], args := [d1, d2] }
  | _ => none }
def schedRoundsRow : OpenClaim := { program := "ytfcjfjmjcmanaaa", sum := "9e42532949886e3d90847706485289fac7b78c3f96c8f635e7b2bd0b0670c54a", func := "larder/larderlaw07.SchedRounds", spec := "schedRounds", unfollowed := true, recurses := true, apart := false }
def SchedRoundsSaid : Prop := schedRoundsRow.holds Try.pinned (OpenSpec.ofChange schedRoundsSpec)

/-- ITS FALSE NEIGHBOUR: 'it returns false'. Refute it at one input. -/
def schedRoundsWrong : ChangeSpec := { name := "schedRounds", fn := fun _ => fun
  | [d1, d2] => { results := [.lit (.bool false)], args := [d1, d2] }
  | _ => none }
def SchedRoundsWrongFalsely : Prop := schedRoundsRow.holds Try.pinned (OpenSpec.ofChange schedRoundsWrong)

/-- 'larderlaw07.SchedAlls': WHATEVER THE INPUT: true; the input reads as it did. -/
def schedAllsSpec : ChangeSpec := { name := "schedAlls", fn := fun _ => fun
  | [d1, d2, d3] => { results := [.lit (.bool true)], args := [d1, d2, d3] }
  | _ => none }
def schedAllsRow : OpenClaim := { program := "ytfcjfjmjcmanaaa", sum := "9e42532949886e3d90847706485289fac7b78c3f96c8f635e7b2bd0b0670c54a", func := "larder/larderlaw07.SchedAlls", spec := "schedAlls", unfollowed := true, recurses := true, apart := false }
def SchedAllsSaid : Prop := schedAllsRow.holds Try.pinned (OpenSpec.ofChange schedAllsSpec)

/-- ITS FALSE NEIGHBOUR: 'it returns false'. Refute it at one input. -/
def schedAllsWrong : ChangeSpec := { name := "schedAlls", fn := fun _ => fun
  | [d1, d2, d3] => { results := [.lit (.bool false)], args := [d1, d2, d3] }
  | _ => none }
def SchedAllsWrongFalsely : Prop := schedAllsRow.holds Try.pinned (OpenSpec.ofChange schedAllsWrong)

/-- 'larderlaw07.SchedFairs': WHATEVER THE INPUT: true; the input reads as it did. -/
def schedFairsSpec : ChangeSpec := { name := "schedFairs", fn := fun _ => fun
  | [d1, d2, d3] => { results := [.lit (.bool true)], args := [d1, d2, d3] }
  | _ => none }
def schedFairsRow : OpenClaim := { program := "ytfcjfjmjcmanaaa", sum := "9e42532949886e3d90847706485289fac7b78c3f96c8f635e7b2bd0b0670c54a", func := "larder/larderlaw07.SchedFairs", spec := "schedFairs", apart := false }
def SchedFairsSaid : Prop := schedFairsRow.holds Try.pinned (OpenSpec.ofChange schedFairsSpec)

/-- ITS FALSE NEIGHBOUR: 'it returns false'. Refute it at one input. -/
def schedFairsWrong : ChangeSpec := { name := "schedFairs", fn := fun _ => fun
  | [d1, d2, d3] => { results := [.lit (.bool false)], args := [d1, d2, d3] }
  | _ => none }
def SchedFairsWrongFalsely : Prop := schedFairsRow.holds Try.pinned (OpenSpec.ofChange schedFairsWrong)

/-- 'larderlaw07.SchedMixed': WHATEVER THE INPUT: true; the input reads as it did. -/
def schedMixedSpec : ChangeSpec := { name := "schedMixed", fn := fun _ => fun
  | [d1, d2, d3, d4] => { results := [.lit (.bool true)], args := [d1, d2, d3, d4] }
  | _ => none }
def schedMixedRow : OpenClaim := { program := "ytfcjfjmjcmanaaa", sum := "9e42532949886e3d90847706485289fac7b78c3f96c8f635e7b2bd0b0670c54a", func := "larder/larderlaw07.SchedMixed", spec := "schedMixed", unfollowed := true, recurses := true, apart := false }
def SchedMixedSaid : Prop := schedMixedRow.holds Try.pinned (OpenSpec.ofChange schedMixedSpec)

/-- ITS FALSE NEIGHBOUR: 'it returns false'. Refute it at one input. -/
def schedMixedWrong : ChangeSpec := { name := "schedMixed", fn := fun _ => fun
  | [d1, d2, d3, d4] => { results := [.lit (.bool false)], args := [d1, d2, d3, d4] }
  | _ => none }
def SchedMixedWrongFalsely : Prop := schedMixedRow.holds Try.pinned (OpenSpec.ofChange schedMixedWrong)

/-- 'larderlaw07.SchedLeasts': WHATEVER THE INPUT: true; the input reads as it did. -/
def schedLeastsSpec : ChangeSpec := { name := "schedLeasts", fn := fun _ => fun
  | [d1, d2] => { results := [.lit (.bool true)], args := [d1, d2] }
  | _ => none }
def schedLeastsRow : OpenClaim := { program := "ytfcjfjmjcmanaaa", sum := "9e42532949886e3d90847706485289fac7b78c3f96c8f635e7b2bd0b0670c54a", func := "larder/larderlaw07.SchedLeasts", spec := "schedLeasts", unfollowed := true, recurses := true, apart := false }
def SchedLeastsSaid : Prop := schedLeastsRow.holds Try.pinned (OpenSpec.ofChange schedLeastsSpec)

/-- ITS FALSE NEIGHBOUR: 'it returns false'. Refute it at one input. -/
def schedLeastsWrong : ChangeSpec := { name := "schedLeasts", fn := fun _ => fun
  | [d1, d2] => { results := [.lit (.bool false)], args := [d1, d2] }
  | _ => none }
def SchedLeastsWrongFalsely : Prop := schedLeastsRow.holds Try.pinned (OpenSpec.ofChange schedLeastsWrong)

/-- 'larderlaw07.SchedKeeps': WHATEVER THE INPUT: true; the input reads as it did. -/
def schedKeepsSpec : ChangeSpec := { name := "schedKeeps", fn := fun _ => fun
  | [d1, d2, d3, d4] => { results := [.lit (.bool true)], args := [d1, d2, d3, d4] }
  | _ => none }
def schedKeepsRow : OpenClaim := { program := "ytfcjfjmjcmanaaa", sum := "9e42532949886e3d90847706485289fac7b78c3f96c8f635e7b2bd0b0670c54a", func := "larder/larderlaw07.SchedKeeps", spec := "schedKeeps", unfollowed := true, recurses := true, apart := false }
def SchedKeepsSaid : Prop := schedKeepsRow.holds Try.pinned (OpenSpec.ofChange schedKeepsSpec)

/-- ITS FALSE NEIGHBOUR: 'it returns false'. Refute it at one input. -/
def schedKeepsWrong : ChangeSpec := { name := "schedKeeps", fn := fun _ => fun
  | [d1, d2, d3, d4] => { results := [.lit (.bool false)], args := [d1, d2, d3, d4] }
  | _ => none }
def SchedKeepsWrongFalsely : Prop := schedKeepsRow.holds Try.pinned (OpenSpec.ofChange schedKeepsWrong)

/-- 'larderlaw07.SchedLines': WHATEVER THE INPUT: true; the input reads as it did. -/
def schedLinesSpec : ChangeSpec := { name := "schedLines", fn := fun _ => fun
  | [d1, d2, d3] => { results := [.lit (.bool true)], args := [d1, d2, d3] }
  | _ => none }
def schedLinesRow : OpenClaim := { program := "ytfcjfjmjcmanaaa", sum := "9e42532949886e3d90847706485289fac7b78c3f96c8f635e7b2bd0b0670c54a", func := "larder/larderlaw07.SchedLines", spec := "schedLines", apart := false }
def SchedLinesSaid : Prop := schedLinesRow.holds Try.pinned (OpenSpec.ofChange schedLinesSpec)

/-- ITS FALSE NEIGHBOUR: 'it returns false'. Refute it at one input. -/
def schedLinesWrong : ChangeSpec := { name := "schedLines", fn := fun _ => fun
  | [d1, d2, d3] => { results := [.lit (.bool false)], args := [d1, d2, d3] }
  | _ => none }
def SchedLinesWrongFalsely : Prop := schedLinesRow.holds Try.pinned (OpenSpec.ofChange schedLinesWrong)

/-- 'larderlaw07.SchedBoards': WHATEVER THE INPUT: true; the input reads as it did. -/
def schedBoardsSpec : ChangeSpec := { name := "schedBoards", fn := fun _ => fun
  | [d1, d2] => { results := [.lit (.bool true)], args := [d1, d2] }
  | _ => none }
def schedBoardsRow : OpenClaim := { program := "ytfcjfjmjcmanaaa", sum := "9e42532949886e3d90847706485289fac7b78c3f96c8f635e7b2bd0b0670c54a", func := "larder/larderlaw07.SchedBoards", spec := "schedBoards", apart := false }
def SchedBoardsSaid : Prop := schedBoardsRow.holds Try.pinned (OpenSpec.ofChange schedBoardsSpec)

/-- ITS FALSE NEIGHBOUR: 'it returns false'. Refute it at one input. -/
def schedBoardsWrong : ChangeSpec := { name := "schedBoards", fn := fun _ => fun
  | [d1, d2] => { results := [.lit (.bool false)], args := [d1, d2] }
  | _ => none }
def SchedBoardsWrongFalsely : Prop := schedBoardsRow.holds Try.pinned (OpenSpec.ofChange schedBoardsWrong)

/-- 'larderlaw07.SchedWaits': WHATEVER THE INPUT: true; the input reads as it did. -/
def schedWaitsSpec : ChangeSpec := { name := "schedWaits", fn := fun _ => fun
  | [d1, d2, d3, d4] => { results := [.lit (.bool true)], args := [d1, d2, d3, d4] }
  | _ => none }
def schedWaitsRow : OpenClaim := { program := "ytfcjfjmjcmanaaa", sum := "9e42532949886e3d90847706485289fac7b78c3f96c8f635e7b2bd0b0670c54a", func := "larder/larderlaw07.SchedWaits", spec := "schedWaits", unfollowed := true, recurses := true, apart := false }
def SchedWaitsSaid : Prop := schedWaitsRow.holds Try.pinned (OpenSpec.ofChange schedWaitsSpec)

/-- ITS FALSE NEIGHBOUR: 'it returns false'. Refute it at one input. -/
def schedWaitsWrong : ChangeSpec := { name := "schedWaits", fn := fun _ => fun
  | [d1, d2, d3, d4] => { results := [.lit (.bool false)], args := [d1, d2, d3, d4] }
  | _ => none }
def SchedWaitsWrongFalsely : Prop := schedWaitsRow.holds Try.pinned (OpenSpec.ofChange schedWaitsWrong)

/-- 'larderlaw07.SchedThere': WHATEVER THE INPUT: true; the input reads as it did. -/
def schedThereSpec : ChangeSpec := { name := "schedThere", fn := fun _ => fun
  | [d1, d2] => { results := [.lit (.bool true)], args := [d1, d2] }
  | _ => none }
def schedThereRow : OpenClaim := { program := "ytfcjfjmjcmanaaa", sum := "9e42532949886e3d90847706485289fac7b78c3f96c8f635e7b2bd0b0670c54a", func := "larder/larderlaw07.SchedThere", spec := "schedThere", named := ["math/bits.divideError", "math/bits.overflowError"], apart := false }
def SchedThereSaid : Prop := schedThereRow.holds Try.pinned (OpenSpec.ofChange schedThereSpec)

/-- ITS FALSE NEIGHBOUR: 'it returns false'. Refute it at one input. -/
def schedThereWrong : ChangeSpec := { name := "schedThere", fn := fun _ => fun
  | [d1, d2] => { results := [.lit (.bool false)], args := [d1, d2] }
  | _ => none }
def SchedThereWrongFalsely : Prop := schedThereRow.holds Try.pinned (OpenSpec.ofChange schedThereWrong)

/-- 'larderlaw07.SchedMixes': WHATEVER THE INPUT: true; the input reads as it did. -/
def schedMixesSpec : ChangeSpec := { name := "schedMixes", fn := fun _ => fun
  | [d1, d2, d3] => { results := [.lit (.bool true)], args := [d1, d2, d3] }
  | _ => none }
def schedMixesRow : OpenClaim := { program := "ytfcjfjmjcmanaaa", sum := "9e42532949886e3d90847706485289fac7b78c3f96c8f635e7b2bd0b0670c54a", func := "larder/larderlaw07.SchedMixes", spec := "schedMixes", unfollowed := true, recurses := true, named := ["math/bits.divideError", "math/bits.overflowError"], apart := false }
def SchedMixesSaid : Prop := schedMixesRow.holds Try.pinned (OpenSpec.ofChange schedMixesSpec)

/-- ITS FALSE NEIGHBOUR: 'it returns false'. Refute it at one input. -/
def schedMixesWrong : ChangeSpec := { name := "schedMixes", fn := fun _ => fun
  | [d1, d2, d3] => { results := [.lit (.bool false)], args := [d1, d2, d3] }
  | _ => none }
def SchedMixesWrongFalsely : Prop := schedMixesRow.holds Try.pinned (OpenSpec.ofChange schedMixesWrong)

/-- 'larderlaw07.SchedRanks': WHATEVER THE INPUT: true; the input reads as it did. -/
def schedRanksSpec : ChangeSpec := { name := "schedRanks", fn := fun _ => fun
  | [d1, d2, d3] => { results := [.lit (.bool true)], args := [d1, d2, d3] }
  | _ => none }
def schedRanksRow : OpenClaim := { program := "ytfcjfjmjcmanaaa", sum := "9e42532949886e3d90847706485289fac7b78c3f96c8f635e7b2bd0b0670c54a", func := "larder/larderlaw07.SchedRanks", spec := "schedRanks", named := ["math/bits.divideError", "math/bits.overflowError"], apart := false }
def SchedRanksSaid : Prop := schedRanksRow.holds Try.pinned (OpenSpec.ofChange schedRanksSpec)

/-- ITS FALSE NEIGHBOUR: 'it returns false'. Refute it at one input. -/
def schedRanksWrong : ChangeSpec := { name := "schedRanks", fn := fun _ => fun
  | [d1, d2, d3] => { results := [.lit (.bool false)], args := [d1, d2, d3] }
  | _ => none }
def SchedRanksWrongFalsely : Prop := schedRanksRow.holds Try.pinned (OpenSpec.ofChange schedRanksWrong)

/-- 'larderlaw07.SchedLeast': WHATEVER THE INPUT: true; the input reads as it did. -/
def schedLeastSpec : ChangeSpec := { name := "schedLeast", fn := fun _ => fun
  | [d1, d2, d3] => { results := [.lit (.bool true)], args := [d1, d2, d3] }
  | _ => none }
def schedLeastRow : OpenClaim := { program := "ytfcjfjmjcmanaaa", sum := "9e42532949886e3d90847706485289fac7b78c3f96c8f635e7b2bd0b0670c54a", func := "larder/larderlaw07.SchedLeast", spec := "schedLeast", unfollowed := true, recurses := true, named := ["math/bits.divideError", "math/bits.overflowError"], apart := false }
def SchedLeastSaid : Prop := schedLeastRow.holds Try.pinned (OpenSpec.ofChange schedLeastSpec)

/-- ITS FALSE NEIGHBOUR: 'it returns false'. Refute it at one input. -/
def schedLeastWrong : ChangeSpec := { name := "schedLeast", fn := fun _ => fun
  | [d1, d2, d3] => { results := [.lit (.bool false)], args := [d1, d2, d3] }
  | _ => none }
def SchedLeastWrongFalsely : Prop := schedLeastRow.holds Try.pinned (OpenSpec.ofChange schedLeastWrong)

/-- 'larderlaw07.SchedRise': WHATEVER THE INPUT: true; the input reads as it did. -/
def schedRiseSpec : ChangeSpec := { name := "schedRise", fn := fun _ => fun
  | [d1, d2, d3, d4] => { results := [.lit (.bool true)], args := [d1, d2, d3, d4] }
  | _ => none }
def schedRiseRow : OpenClaim := { program := "ytfcjfjmjcmanaaa", sum := "9e42532949886e3d90847706485289fac7b78c3f96c8f635e7b2bd0b0670c54a", func := "larder/larderlaw07.SchedRise", spec := "schedRise", unfollowed := true, recurses := true, named := ["math/bits.divideError", "math/bits.overflowError"], apart := false }
def SchedRiseSaid : Prop := schedRiseRow.holds Try.pinned (OpenSpec.ofChange schedRiseSpec)

/-- ITS FALSE NEIGHBOUR: 'it returns false'. Refute it at one input. -/
def schedRiseWrong : ChangeSpec := { name := "schedRise", fn := fun _ => fun
  | [d1, d2, d3, d4] => { results := [.lit (.bool false)], args := [d1, d2, d3, d4] }
  | _ => none }
def SchedRiseWrongFalsely : Prop := schedRiseRow.holds Try.pinned (OpenSpec.ofChange schedRiseWrong)

/-- 'larderlaw07.SchedSmall': WHATEVER THE INPUT: true; the input reads as it did. -/
def schedSmallSpec : ChangeSpec := { name := "schedSmall", fn := fun _ => fun
  | [d1, d2] => { results := [.lit (.bool true)], args := [d1, d2] }
  | _ => none }
def schedSmallRow : OpenClaim := { program := "ytfcjfjmjcmanaaa", sum := "9e42532949886e3d90847706485289fac7b78c3f96c8f635e7b2bd0b0670c54a", func := "larder/larderlaw07.SchedSmall", spec := "schedSmall", unfollowed := true, recurses := true, named := ["math/bits.divideError", "math/bits.overflowError"], apart := false }
def SchedSmallSaid : Prop := schedSmallRow.holds Try.pinned (OpenSpec.ofChange schedSmallSpec)

/-- ITS FALSE NEIGHBOUR: 'it returns false'. Refute it at one input. -/
def schedSmallWrong : ChangeSpec := { name := "schedSmall", fn := fun _ => fun
  | [d1, d2] => { results := [.lit (.bool false)], args := [d1, d2] }
  | _ => none }
def SchedSmallWrongFalsely : Prop := schedSmallRow.holds Try.pinned (OpenSpec.ofChange schedSmallWrong)

/-- 'larderlaw07.SchedOwn': WHATEVER THE INPUT: true; the input reads as it did. -/
def schedOwnSpec : ChangeSpec := { name := "schedOwn", fn := fun _ => fun
  | [d1, d2, d3, d4] => { results := [.lit (.bool true)], args := [d1, d2, d3, d4] }
  | _ => none }
def schedOwnRow : OpenClaim := { program := "ytfcjfjmjcmanaaa", sum := "9e42532949886e3d90847706485289fac7b78c3f96c8f635e7b2bd0b0670c54a", func := "larder/larderlaw07.SchedOwn", spec := "schedOwn", unfollowed := true, recurses := true, named := ["math/bits.divideError", "math/bits.overflowError"], apart := false }
def SchedOwnSaid : Prop := schedOwnRow.holds Try.pinned (OpenSpec.ofChange schedOwnSpec)

/-- ITS FALSE NEIGHBOUR: 'it returns false'. Refute it at one input. -/
def schedOwnWrong : ChangeSpec := { name := "schedOwn", fn := fun _ => fun
  | [d1, d2, d3, d4] => { results := [.lit (.bool false)], args := [d1, d2, d3, d4] }
  | _ => none }
def SchedOwnWrongFalsely : Prop := schedOwnRow.holds Try.pinned (OpenSpec.ofChange schedOwnWrong)

/-- 'larderlaw07.SchedKnown': WHATEVER THE INPUT: true; the input reads as it did. -/
def schedKnownSpec : ChangeSpec := { name := "schedKnown", fn := fun _ => fun
  | [] => { results := [.lit (.bool true)], args := [] }
  | _ => none }
def schedKnownRow : OpenClaim := { program := "ytfcjfjmjcmanaaa", sum := "9e42532949886e3d90847706485289fac7b78c3f96c8f635e7b2bd0b0670c54a", func := "larder/larderlaw07.SchedKnown", spec := "schedKnown", unfollowed := true, recurses := true, named := ["math/bits.divideError", "math/bits.overflowError"], apart := false }
def SchedKnownSaid : Prop := schedKnownRow.holds Try.pinned (OpenSpec.ofChange schedKnownSpec)

/-- ITS FALSE NEIGHBOUR: 'it returns false'. Refute it at one input. -/
def schedKnownWrong : ChangeSpec := { name := "schedKnown", fn := fun _ => fun
  | [] => { results := [.lit (.bool false)], args := [] }
  | _ => none }
def SchedKnownWrongFalsely : Prop := schedKnownRow.holds Try.pinned (OpenSpec.ofChange schedKnownWrong)

/-- 'larderlaw07.SchedNil': WHATEVER THE INPUT: true; the input reads as it did. -/
def schedNilSpec : ChangeSpec := { name := "schedNil", fn := fun _ => fun
  | [] => { results := [.lit (.bool true)], args := [] }
  | _ => none }
def schedNilRow : OpenClaim := { program := "ytfcjfjmjcmanaaa", sum := "9e42532949886e3d90847706485289fac7b78c3f96c8f635e7b2bd0b0670c54a", func := "larder/larderlaw07.SchedNil", spec := "schedNil", unfollowed := true, recurses := true, named := ["math/bits.divideError", "math/bits.overflowError"], apart := false }
def SchedNilSaid : Prop := schedNilRow.holds Try.pinned (OpenSpec.ofChange schedNilSpec)

/-- ITS FALSE NEIGHBOUR: 'it returns false'. Refute it at one input. -/
def schedNilWrong : ChangeSpec := { name := "schedNil", fn := fun _ => fun
  | [] => { results := [.lit (.bool false)], args := [] }
  | _ => none }
def SchedNilWrongFalsely : Prop := schedNilRow.holds Try.pinned (OpenSpec.ofChange schedNilWrong)

/- THE SECOND FORM. 'bulk': how many values and letters a reading holds, each counted each time it is reached (what is shared counts as often as it is met; a slice's spare places count too). A statement '..UptoSaid' is the law's where the arguments, and the package variables that the reading takes, are together of bulk at most 1048576: NARROWER than '..Said'. Prove '..Said' where nothing that the law and all that it calls make is longer than what came in: it says more and counts as full. Else prove '..UptoSaid'. A law counts once. -/
mutual
def uptoBulk {H : Type} : DataW H → Nat
  | .lit (.string bytes) => bytes.length + 1
  | .lit _ => 1
  | .nil => 1
  | .ptr d => uptoBulk d + 1
  | .slice elems spare => uptoBulkAll elems + uptoBulkAll spare + 1
  | .agg parts => uptoBulkAll parts + 1
  | .iface _ d => uptoBulk d + 1
  | .map entries => uptoBulkEntries entries + 1
  | .held _ => 1
def uptoBulkAll {H : Type} : List (DataW H) → Nat
  | [] => 0
  | d :: r => uptoBulk d + uptoBulkAll r
def uptoBulkEntries {H : Type} : List (Lit × DataW H) → Nat
  | [] => 0
  | x :: r => uptoBulkEntry x + uptoBulkEntries r
def uptoBulkEntry {H : Type} : Lit × DataW H → Nat
  | (.string bytes, d) => bytes.length + uptoBulk d + 1
  | (_, d) => uptoBulk d + 1
 end
def uptoSmall : (H : Type) → List (DataW H) → Bool := fun _ ds => decide (uptoBulkAll ds ≤ 1048576)
def OpenSpec.upto (s : _root_.Go.ChangeSpec) : _root_.Go.OpenSpec := { _root_.Go.OpenSpec.ofChange s with cond := some uptoSmall }

/-- 'larderlaw07.SchedRounds', WHERE WHAT IT READS IS OF BULK AT MOST 1048576: true; the input reads as it did. -/
def schedRoundsUptoRow : OpenClaim := { program := "ytfcjfjmjcmanaaa", sum := "9e42532949886e3d90847706485289fac7b78c3f96c8f635e7b2bd0b0670c54a", func := "larder/larderlaw07.SchedRounds", spec := "schedRounds", unfollowed := true, recurses := true, apart := false, narrowed := true }
def SchedRoundsUptoSaid : Prop := schedRoundsUptoRow.holds Try.pinned (OpenSpec.upto schedRoundsSpec)

/-- 'larderlaw07.SchedAlls', WHERE WHAT IT READS IS OF BULK AT MOST 1048576: true; the input reads as it did. -/
def schedAllsUptoRow : OpenClaim := { program := "ytfcjfjmjcmanaaa", sum := "9e42532949886e3d90847706485289fac7b78c3f96c8f635e7b2bd0b0670c54a", func := "larder/larderlaw07.SchedAlls", spec := "schedAlls", unfollowed := true, recurses := true, apart := false, narrowed := true }
def SchedAllsUptoSaid : Prop := schedAllsUptoRow.holds Try.pinned (OpenSpec.upto schedAllsSpec)

/-- 'larderlaw07.SchedFairs', WHERE WHAT IT READS IS OF BULK AT MOST 1048576: true; the input reads as it did. -/
def schedFairsUptoRow : OpenClaim := { program := "ytfcjfjmjcmanaaa", sum := "9e42532949886e3d90847706485289fac7b78c3f96c8f635e7b2bd0b0670c54a", func := "larder/larderlaw07.SchedFairs", spec := "schedFairs", apart := false, narrowed := true }
def SchedFairsUptoSaid : Prop := schedFairsUptoRow.holds Try.pinned (OpenSpec.upto schedFairsSpec)

/-- 'larderlaw07.SchedMixed', WHERE WHAT IT READS IS OF BULK AT MOST 1048576: true; the input reads as it did. -/
def schedMixedUptoRow : OpenClaim := { program := "ytfcjfjmjcmanaaa", sum := "9e42532949886e3d90847706485289fac7b78c3f96c8f635e7b2bd0b0670c54a", func := "larder/larderlaw07.SchedMixed", spec := "schedMixed", unfollowed := true, recurses := true, apart := false, narrowed := true }
def SchedMixedUptoSaid : Prop := schedMixedUptoRow.holds Try.pinned (OpenSpec.upto schedMixedSpec)

/-- 'larderlaw07.SchedLeasts', WHERE WHAT IT READS IS OF BULK AT MOST 1048576: true; the input reads as it did. -/
def schedLeastsUptoRow : OpenClaim := { program := "ytfcjfjmjcmanaaa", sum := "9e42532949886e3d90847706485289fac7b78c3f96c8f635e7b2bd0b0670c54a", func := "larder/larderlaw07.SchedLeasts", spec := "schedLeasts", unfollowed := true, recurses := true, apart := false, narrowed := true }
def SchedLeastsUptoSaid : Prop := schedLeastsUptoRow.holds Try.pinned (OpenSpec.upto schedLeastsSpec)

/-- 'larderlaw07.SchedKeeps', WHERE WHAT IT READS IS OF BULK AT MOST 1048576: true; the input reads as it did. -/
def schedKeepsUptoRow : OpenClaim := { program := "ytfcjfjmjcmanaaa", sum := "9e42532949886e3d90847706485289fac7b78c3f96c8f635e7b2bd0b0670c54a", func := "larder/larderlaw07.SchedKeeps", spec := "schedKeeps", unfollowed := true, recurses := true, apart := false, narrowed := true }
def SchedKeepsUptoSaid : Prop := schedKeepsUptoRow.holds Try.pinned (OpenSpec.upto schedKeepsSpec)

/-- 'larderlaw07.SchedLines', WHERE WHAT IT READS IS OF BULK AT MOST 1048576: true; the input reads as it did. -/
def schedLinesUptoRow : OpenClaim := { program := "ytfcjfjmjcmanaaa", sum := "9e42532949886e3d90847706485289fac7b78c3f96c8f635e7b2bd0b0670c54a", func := "larder/larderlaw07.SchedLines", spec := "schedLines", apart := false, narrowed := true }
def SchedLinesUptoSaid : Prop := schedLinesUptoRow.holds Try.pinned (OpenSpec.upto schedLinesSpec)

/-- 'larderlaw07.SchedBoards', WHERE WHAT IT READS IS OF BULK AT MOST 1048576: true; the input reads as it did. -/
def schedBoardsUptoRow : OpenClaim := { program := "ytfcjfjmjcmanaaa", sum := "9e42532949886e3d90847706485289fac7b78c3f96c8f635e7b2bd0b0670c54a", func := "larder/larderlaw07.SchedBoards", spec := "schedBoards", apart := false, narrowed := true }
def SchedBoardsUptoSaid : Prop := schedBoardsUptoRow.holds Try.pinned (OpenSpec.upto schedBoardsSpec)

/-- 'larderlaw07.SchedWaits', WHERE WHAT IT READS IS OF BULK AT MOST 1048576: true; the input reads as it did. -/
def schedWaitsUptoRow : OpenClaim := { program := "ytfcjfjmjcmanaaa", sum := "9e42532949886e3d90847706485289fac7b78c3f96c8f635e7b2bd0b0670c54a", func := "larder/larderlaw07.SchedWaits", spec := "schedWaits", unfollowed := true, recurses := true, apart := false, narrowed := true }
def SchedWaitsUptoSaid : Prop := schedWaitsUptoRow.holds Try.pinned (OpenSpec.upto schedWaitsSpec)

/-- 'larderlaw07.SchedThere', WHERE WHAT IT READS IS OF BULK AT MOST 1048576: true; the input reads as it did. -/
def schedThereUptoRow : OpenClaim := { program := "ytfcjfjmjcmanaaa", sum := "9e42532949886e3d90847706485289fac7b78c3f96c8f635e7b2bd0b0670c54a", func := "larder/larderlaw07.SchedThere", spec := "schedThere", named := ["math/bits.divideError", "math/bits.overflowError"], apart := false, narrowed := true }
def SchedThereUptoSaid : Prop := schedThereUptoRow.holds Try.pinned (OpenSpec.upto schedThereSpec)

/-- 'larderlaw07.SchedMixes', WHERE WHAT IT READS IS OF BULK AT MOST 1048576: true; the input reads as it did. -/
def schedMixesUptoRow : OpenClaim := { program := "ytfcjfjmjcmanaaa", sum := "9e42532949886e3d90847706485289fac7b78c3f96c8f635e7b2bd0b0670c54a", func := "larder/larderlaw07.SchedMixes", spec := "schedMixes", unfollowed := true, recurses := true, named := ["math/bits.divideError", "math/bits.overflowError"], apart := false, narrowed := true }
def SchedMixesUptoSaid : Prop := schedMixesUptoRow.holds Try.pinned (OpenSpec.upto schedMixesSpec)

/-- 'larderlaw07.SchedRanks', WHERE WHAT IT READS IS OF BULK AT MOST 1048576: true; the input reads as it did. -/
def schedRanksUptoRow : OpenClaim := { program := "ytfcjfjmjcmanaaa", sum := "9e42532949886e3d90847706485289fac7b78c3f96c8f635e7b2bd0b0670c54a", func := "larder/larderlaw07.SchedRanks", spec := "schedRanks", named := ["math/bits.divideError", "math/bits.overflowError"], apart := false, narrowed := true }
def SchedRanksUptoSaid : Prop := schedRanksUptoRow.holds Try.pinned (OpenSpec.upto schedRanksSpec)

/-- 'larderlaw07.SchedLeast', WHERE WHAT IT READS IS OF BULK AT MOST 1048576: true; the input reads as it did. -/
def schedLeastUptoRow : OpenClaim := { program := "ytfcjfjmjcmanaaa", sum := "9e42532949886e3d90847706485289fac7b78c3f96c8f635e7b2bd0b0670c54a", func := "larder/larderlaw07.SchedLeast", spec := "schedLeast", unfollowed := true, recurses := true, named := ["math/bits.divideError", "math/bits.overflowError"], apart := false, narrowed := true }
def SchedLeastUptoSaid : Prop := schedLeastUptoRow.holds Try.pinned (OpenSpec.upto schedLeastSpec)

/-- 'larderlaw07.SchedRise', WHERE WHAT IT READS IS OF BULK AT MOST 1048576: true; the input reads as it did. -/
def schedRiseUptoRow : OpenClaim := { program := "ytfcjfjmjcmanaaa", sum := "9e42532949886e3d90847706485289fac7b78c3f96c8f635e7b2bd0b0670c54a", func := "larder/larderlaw07.SchedRise", spec := "schedRise", unfollowed := true, recurses := true, named := ["math/bits.divideError", "math/bits.overflowError"], apart := false, narrowed := true }
def SchedRiseUptoSaid : Prop := schedRiseUptoRow.holds Try.pinned (OpenSpec.upto schedRiseSpec)

/-- 'larderlaw07.SchedSmall', WHERE WHAT IT READS IS OF BULK AT MOST 1048576: true; the input reads as it did. -/
def schedSmallUptoRow : OpenClaim := { program := "ytfcjfjmjcmanaaa", sum := "9e42532949886e3d90847706485289fac7b78c3f96c8f635e7b2bd0b0670c54a", func := "larder/larderlaw07.SchedSmall", spec := "schedSmall", unfollowed := true, recurses := true, named := ["math/bits.divideError", "math/bits.overflowError"], apart := false, narrowed := true }
def SchedSmallUptoSaid : Prop := schedSmallUptoRow.holds Try.pinned (OpenSpec.upto schedSmallSpec)

/-- 'larderlaw07.SchedOwn', WHERE WHAT IT READS IS OF BULK AT MOST 1048576: true; the input reads as it did. -/
def schedOwnUptoRow : OpenClaim := { program := "ytfcjfjmjcmanaaa", sum := "9e42532949886e3d90847706485289fac7b78c3f96c8f635e7b2bd0b0670c54a", func := "larder/larderlaw07.SchedOwn", spec := "schedOwn", unfollowed := true, recurses := true, named := ["math/bits.divideError", "math/bits.overflowError"], apart := false, narrowed := true }
def SchedOwnUptoSaid : Prop := schedOwnUptoRow.holds Try.pinned (OpenSpec.upto schedOwnSpec)

/-- 'larderlaw07.SchedKnown', WHERE WHAT IT READS IS OF BULK AT MOST 1048576: true; the input reads as it did. -/
def schedKnownUptoRow : OpenClaim := { program := "ytfcjfjmjcmanaaa", sum := "9e42532949886e3d90847706485289fac7b78c3f96c8f635e7b2bd0b0670c54a", func := "larder/larderlaw07.SchedKnown", spec := "schedKnown", unfollowed := true, recurses := true, named := ["math/bits.divideError", "math/bits.overflowError"], apart := false, narrowed := true }
def SchedKnownUptoSaid : Prop := schedKnownUptoRow.holds Try.pinned (OpenSpec.upto schedKnownSpec)

/-- 'larderlaw07.SchedNil', WHERE WHAT IT READS IS OF BULK AT MOST 1048576: true; the input reads as it did. -/
def schedNilUptoRow : OpenClaim := { program := "ytfcjfjmjcmanaaa", sum := "9e42532949886e3d90847706485289fac7b78c3f96c8f635e7b2bd0b0670c54a", func := "larder/larderlaw07.SchedNil", spec := "schedNil", unfollowed := true, recurses := true, named := ["math/bits.divideError", "math/bits.overflowError"], apart := false, narrowed := true }
def SchedNilUptoSaid : Prop := schedNilUptoRow.holds Try.pinned (OpenSpec.upto schedNilSpec)

end Rows
end Go.Proofs.Ytfcjfjmjcmanaaa
