/-
  No cell of these rows narrows 'for every input' (looked for: loops, veiled, ifaces, maps, wideKeys, modest, calm, conditions, laid).
  DERIVED. THE GIVEN ROWS OF THIS SEAT. 9 by the template 'for every input the law returns true; each argument reads behind the call as it read before'; 0 by the template 'total and deterministic' (their statements: YtdniecpijkhpnaaTotals.lean).
  GIVEN WITH THE SEED: the statements are not yours to turn. If you find one false, say at which input.
  Laid BY PROGRAM, IN A SANDBOX (cutbox-rows.mjs): the forced cells as the released guide's own fill.sh prints them over the translation fa1b94c8490ae167… (all of the seat's roots in one cut). By AI agents, Wed Nov 11 2026. No macro, syntax, notation, axiom, sorry.
-/
import Derived.Test.YtdniecpijkhpnaaChecked
import GoSem.Claim
import GoSem.ClaimJoined
import GoSem.ClaimMapViews
import Derived.JoinedTies
import Derived.KernelRfl
namespace Go.Proofs.Ytdniecpijkhpnaa
/- THE CELL 'sum', in the pinned program and in every row, IS THE sha256 OF THE DUMP (.gsa) THAT YtdniecpijkhpnaaProg.lean LOADS. Nothing in Lean hashes anything: it is a label: what it is worth is what the hold of that sum in a sandbox is worth. -/
noncomputable def Try.pinned : Pinned := { name := "ytdniecpijkhpnaa", sum := "fa1b94c8490ae16778a3f92a77b7ebbd910bf1adb7950a3a587be80b8018f5ce", checked := Try.checked }
namespace Rows
def none {H : Type} : Left H := { results := [], args := [] }

/-- 'laws.FnExactSumOf': WHATEVER THE INPUT: true; the input reads as it did. -/
def fnExactSumOfSpec : ChangeSpec := { name := "fnExactSumOf", fn := fun _ => fun
  | [d] => { results := [.lit (.bool true)], args := [d] }
  | _ => none }
def fnExactSumOfRow : OpenClaim := { program := "ytdniecpijkhpnaa", sum := "fa1b94c8490ae16778a3f92a77b7ebbd910bf1adb7950a3a587be80b8018f5ce", func := "loop.example/g00253/laws.FnExactSumOf", spec := "fnExactSumOf", apart := false }
def FnExactSumOfSaid : Prop := fnExactSumOfRow.holds Try.pinned (OpenSpec.ofChange fnExactSumOfSpec)

/-- ITS FALSE NEIGHBOUR: 'it returns false'. Refute it at one input. -/
def fnExactSumOfWrong : ChangeSpec := { name := "fnExactSumOf", fn := fun _ => fun
  | [d] => { results := [.lit (.bool false)], args := [d] }
  | _ => none }
def FnExactSumOfWrongFalsely : Prop := fnExactSumOfRow.holds Try.pinned (OpenSpec.ofChange fnExactSumOfWrong)

/-- 'laws.FnExactCostOfLines': WHATEVER THE INPUT: true; the input reads as it did. -/
def fnExactCostOfLinesSpec : ChangeSpec := { name := "fnExactCostOfLines", fn := fun _ => fun
  | [d1, d2] => { results := [.lit (.bool true)], args := [d1, d2] }
  | _ => none }
def fnExactCostOfLinesRow : OpenClaim := { program := "ytdniecpijkhpnaa", sum := "fa1b94c8490ae16778a3f92a77b7ebbd910bf1adb7950a3a587be80b8018f5ce", func := "loop.example/g00253/laws.FnExactCostOfLines", spec := "fnExactCostOfLines", apart := false }
def FnExactCostOfLinesSaid : Prop := fnExactCostOfLinesRow.holds Try.pinned (OpenSpec.ofChange fnExactCostOfLinesSpec)

/-- ITS FALSE NEIGHBOUR: 'it returns false'. Refute it at one input. -/
def fnExactCostOfLinesWrong : ChangeSpec := { name := "fnExactCostOfLines", fn := fun _ => fun
  | [d1, d2] => { results := [.lit (.bool false)], args := [d1, d2] }
  | _ => none }
def FnExactCostOfLinesWrongFalsely : Prop := fnExactCostOfLinesRow.holds Try.pinned (OpenSpec.ofChange fnExactCostOfLinesWrong)

/-- 'laws.FnExactLeastWidth': WHATEVER THE INPUT: true; the input reads as it did. -/
def fnExactLeastWidthSpec : ChangeSpec := { name := "fnExactLeastWidth", fn := fun _ => fun
  | [d1, d2] => { results := [.lit (.bool true)], args := [d1, d2] }
  | _ => none }
def fnExactLeastWidthRow : OpenClaim := { program := "ytdniecpijkhpnaa", sum := "fa1b94c8490ae16778a3f92a77b7ebbd910bf1adb7950a3a587be80b8018f5ce", func := "loop.example/g00253/laws.FnExactLeastWidth", spec := "fnExactLeastWidth", unfollowed := true, recurses := true, apart := false }
def FnExactLeastWidthSaid : Prop := fnExactLeastWidthRow.holds Try.pinned (OpenSpec.ofChange fnExactLeastWidthSpec)

/-- ITS FALSE NEIGHBOUR: 'it returns false'. Refute it at one input. -/
def fnExactLeastWidthWrong : ChangeSpec := { name := "fnExactLeastWidth", fn := fun _ => fun
  | [d1, d2] => { results := [.lit (.bool false)], args := [d1, d2] }
  | _ => none }
def FnExactLeastWidthWrongFalsely : Prop := fnExactLeastWidthRow.holds Try.pinned (OpenSpec.ofChange fnExactLeastWidthWrong)

/-- 'laws.FnExactGreedyLines': WHATEVER THE INPUT: true; the input reads as it did. -/
def fnExactGreedyLinesSpec : ChangeSpec := { name := "fnExactGreedyLines", fn := fun _ => fun
  | [d1, d2] => { results := [.lit (.bool true)], args := [d1, d2] }
  | _ => none }
def fnExactGreedyLinesRow : OpenClaim := { program := "ytdniecpijkhpnaa", sum := "fa1b94c8490ae16778a3f92a77b7ebbd910bf1adb7950a3a587be80b8018f5ce", func := "loop.example/g00253/laws.FnExactGreedyLines", spec := "fnExactGreedyLines", unfollowed := true, recurses := true, apart := false }
def FnExactGreedyLinesSaid : Prop := fnExactGreedyLinesRow.holds Try.pinned (OpenSpec.ofChange fnExactGreedyLinesSpec)

/-- ITS FALSE NEIGHBOUR: 'it returns false'. Refute it at one input. -/
def fnExactGreedyLinesWrong : ChangeSpec := { name := "fnExactGreedyLines", fn := fun _ => fun
  | [d1, d2] => { results := [.lit (.bool false)], args := [d1, d2] }
  | _ => none }
def FnExactGreedyLinesWrongFalsely : Prop := fnExactGreedyLinesRow.holds Try.pinned (OpenSpec.ofChange fnExactGreedyLinesWrong)

/-- 'laws.FnExactWordsOf': WHATEVER THE INPUT: true; the input reads as it did. -/
def fnExactWordsOfSpec : ChangeSpec := { name := "fnExactWordsOf", fn := fun _ => fun
  | [d] => { results := [.lit (.bool true)], args := [d] }
  | _ => none }
def fnExactWordsOfRow : OpenClaim := { program := "ytdniecpijkhpnaa", sum := "fa1b94c8490ae16778a3f92a77b7ebbd910bf1adb7950a3a587be80b8018f5ce", func := "loop.example/g00253/laws.FnExactWordsOf", spec := "fnExactWordsOf", inPlace := ["internal/abi.NoEscape"], unfollowed := true, recurses := true, apart := false }
def FnExactWordsOfSaid : Prop := fnExactWordsOfRow.holds Try.pinned (OpenSpec.ofChange fnExactWordsOfSpec)

/-- ITS FALSE NEIGHBOUR: 'it returns false'. Refute it at one input. -/
def fnExactWordsOfWrong : ChangeSpec := { name := "fnExactWordsOf", fn := fun _ => fun
  | [d] => { results := [.lit (.bool false)], args := [d] }
  | _ => none }
def FnExactWordsOfWrongFalsely : Prop := fnExactWordsOfRow.holds Try.pinned (OpenSpec.ofChange fnExactWordsOfWrong)

/-- 'laws.FnExactBestLines': WHATEVER THE INPUT: true; the input reads as it did. -/
def fnExactBestLinesSpec : ChangeSpec := { name := "fnExactBestLines", fn := fun _ => fun
  | [d1, d2] => { results := [.lit (.bool true)], args := [d1, d2] }
  | _ => none }
def fnExactBestLinesRow : OpenClaim := { program := "ytdniecpijkhpnaa", sum := "fa1b94c8490ae16778a3f92a77b7ebbd910bf1adb7950a3a587be80b8018f5ce", func := "loop.example/g00253/laws.FnExactBestLines", spec := "fnExactBestLines", inPlace := ["internal/abi.NoEscape", "internal/bytealg.MakeNoZero"], unfollowed := true, recurses := true, apart := false }
def FnExactBestLinesSaid : Prop := fnExactBestLinesRow.holds Try.pinned (OpenSpec.ofChange fnExactBestLinesSpec)

/-- ITS FALSE NEIGHBOUR: 'it returns false'. Refute it at one input. -/
def fnExactBestLinesWrong : ChangeSpec := { name := "fnExactBestLines", fn := fun _ => fun
  | [d1, d2] => { results := [.lit (.bool false)], args := [d1, d2] }
  | _ => none }
def FnExactBestLinesWrongFalsely : Prop := fnExactBestLinesRow.holds Try.pinned (OpenSpec.ofChange fnExactBestLinesWrong)

/-- 'laws.FnExactBreakAt': WHATEVER THE INPUT: true; the input reads as it did. -/
def fnExactBreakAtSpec : ChangeSpec := { name := "fnExactBreakAt", fn := fun _ => fun
  | [d1, d2, d3] => { results := [.lit (.bool true)], args := [d1, d2, d3] }
  | _ => none }
def fnExactBreakAtRow : OpenClaim := { program := "ytdniecpijkhpnaa", sum := "fa1b94c8490ae16778a3f92a77b7ebbd910bf1adb7950a3a587be80b8018f5ce", func := "loop.example/g00253/laws.FnExactBreakAt", spec := "fnExactBreakAt", inPlace := ["internal/abi.NoEscape", "internal/bytealg.MakeNoZero"], unfollowed := true, recurses := true, apart := false }
def FnExactBreakAtSaid : Prop := fnExactBreakAtRow.holds Try.pinned (OpenSpec.ofChange fnExactBreakAtSpec)

/-- ITS FALSE NEIGHBOUR: 'it returns false'. Refute it at one input. -/
def fnExactBreakAtWrong : ChangeSpec := { name := "fnExactBreakAt", fn := fun _ => fun
  | [d1, d2, d3] => { results := [.lit (.bool false)], args := [d1, d2, d3] }
  | _ => none }
def FnExactBreakAtWrongFalsely : Prop := fnExactBreakAtRow.holds Try.pinned (OpenSpec.ofChange fnExactBreakAtWrong)

/-- 'laws.FnLines': WHATEVER THE INPUT: true; the input reads as it did. -/
def fnLinesSpec : ChangeSpec := { name := "fnLines", fn := fun _ => fun
  | [d1, d2] => { results := [.lit (.bool true)], args := [d1, d2] }
  | _ => none }
def fnLinesRow : OpenClaim := { program := "ytdniecpijkhpnaa", sum := "fa1b94c8490ae16778a3f92a77b7ebbd910bf1adb7950a3a587be80b8018f5ce", func := "loop.example/g00253/laws.FnLines", spec := "fnLines", inPlace := ["internal/abi.NoEscape", "internal/bytealg.MakeNoZero"], unfollowed := true, recurses := true, apart := false }
def FnLinesSaid : Prop := fnLinesRow.holds Try.pinned (OpenSpec.ofChange fnLinesSpec)

/-- ITS FALSE NEIGHBOUR: 'it returns false'. Refute it at one input. -/
def fnLinesWrong : ChangeSpec := { name := "fnLines", fn := fun _ => fun
  | [d1, d2] => { results := [.lit (.bool false)], args := [d1, d2] }
  | _ => none }
def FnLinesWrongFalsely : Prop := fnLinesRow.holds Try.pinned (OpenSpec.ofChange fnLinesWrong)

/-- 'laws.FnWidths': WHATEVER THE INPUT: true; the input reads as it did. -/
def fnWidthsSpec : ChangeSpec := { name := "fnWidths", fn := fun _ => fun
  | [d1, d2] => { results := [.lit (.bool true)], args := [d1, d2] }
  | _ => none }
def fnWidthsRow : OpenClaim := { program := "ytdniecpijkhpnaa", sum := "fa1b94c8490ae16778a3f92a77b7ebbd910bf1adb7950a3a587be80b8018f5ce", func := "loop.example/g00253/laws.FnWidths", spec := "fnWidths", inPlace := ["internal/abi.NoEscape"], unfollowed := true, recurses := true, apart := false }
def FnWidthsSaid : Prop := fnWidthsRow.holds Try.pinned (OpenSpec.ofChange fnWidthsSpec)

/-- ITS FALSE NEIGHBOUR: 'it returns false'. Refute it at one input. -/
def fnWidthsWrong : ChangeSpec := { name := "fnWidths", fn := fun _ => fun
  | [d1, d2] => { results := [.lit (.bool false)], args := [d1, d2] }
  | _ => none }
def FnWidthsWrongFalsely : Prop := fnWidthsRow.holds Try.pinned (OpenSpec.ofChange fnWidthsWrong)

/- THE SECOND FORM. 'bulk': how many values and letters a reading holds, each counted each time it is reached (what is shared counts as often as it is met; a slice's spare places count too). A statement '..UptoSaid' is the law's where the arguments, and the package variables that the reading takes, are together of bulk at most 1048576: NARROWER than '..Said'. Prove '..Said' where nothing that the law and all that it calls make is longer than what came in: it says more and counts as full. Else prove '..UptoSaid'. A law counts once. -/
mutual
def uptoBulk {H : Type} : DataW H → Nat
  | .lit (.string bytes) => bytes.length + 1
  | .lit _ => 1
  | .nil => 1
  | .ptr d => uptoBulk d + 1
  | .slice elems spare => uptoBulkAll elems + uptoBulkAll spare + 1
  | .agg parts => uptoBulkAll parts + 1
  | .iface _ d => uptoBulk d + 1
  | .map entries => uptoBulkEntries entries + 1
  | .held _ => 1
def uptoBulkAll {H : Type} : List (DataW H) → Nat
  | [] => 0
  | d :: r => uptoBulk d + uptoBulkAll r
def uptoBulkEntries {H : Type} : List (Lit × DataW H) → Nat
  | [] => 0
  | x :: r => uptoBulkEntry x + uptoBulkEntries r
def uptoBulkEntry {H : Type} : Lit × DataW H → Nat
  | (.string bytes, d) => bytes.length + uptoBulk d + 1
  | (_, d) => uptoBulk d + 1
 end
def uptoSmall : (H : Type) → List (DataW H) → Bool := fun _ ds => decide (uptoBulkAll ds ≤ 1048576)
def OpenSpec.upto (s : _root_.Go.ChangeSpec) : _root_.Go.OpenSpec := { _root_.Go.OpenSpec.ofChange s with cond := some uptoSmall }

/-- 'laws.FnExactSumOf', WHERE WHAT IT READS IS OF BULK AT MOST 1048576: true; the input reads as it did. -/
def fnExactSumOfUptoRow : OpenClaim := { program := "ytdniecpijkhpnaa", sum := "fa1b94c8490ae16778a3f92a77b7ebbd910bf1adb7950a3a587be80b8018f5ce", func := "loop.example/g00253/laws.FnExactSumOf", spec := "fnExactSumOf", apart := false, narrowed := true }
def FnExactSumOfUptoSaid : Prop := fnExactSumOfUptoRow.holds Try.pinned (OpenSpec.upto fnExactSumOfSpec)

/-- 'laws.FnExactCostOfLines', WHERE WHAT IT READS IS OF BULK AT MOST 1048576: true; the input reads as it did. -/
def fnExactCostOfLinesUptoRow : OpenClaim := { program := "ytdniecpijkhpnaa", sum := "fa1b94c8490ae16778a3f92a77b7ebbd910bf1adb7950a3a587be80b8018f5ce", func := "loop.example/g00253/laws.FnExactCostOfLines", spec := "fnExactCostOfLines", apart := false, narrowed := true }
def FnExactCostOfLinesUptoSaid : Prop := fnExactCostOfLinesUptoRow.holds Try.pinned (OpenSpec.upto fnExactCostOfLinesSpec)

/-- 'laws.FnExactLeastWidth', WHERE WHAT IT READS IS OF BULK AT MOST 1048576: true; the input reads as it did. -/
def fnExactLeastWidthUptoRow : OpenClaim := { program := "ytdniecpijkhpnaa", sum := "fa1b94c8490ae16778a3f92a77b7ebbd910bf1adb7950a3a587be80b8018f5ce", func := "loop.example/g00253/laws.FnExactLeastWidth", spec := "fnExactLeastWidth", unfollowed := true, recurses := true, apart := false, narrowed := true }
def FnExactLeastWidthUptoSaid : Prop := fnExactLeastWidthUptoRow.holds Try.pinned (OpenSpec.upto fnExactLeastWidthSpec)

/-- 'laws.FnExactGreedyLines', WHERE WHAT IT READS IS OF BULK AT MOST 1048576: true; the input reads as it did. -/
def fnExactGreedyLinesUptoRow : OpenClaim := { program := "ytdniecpijkhpnaa", sum := "fa1b94c8490ae16778a3f92a77b7ebbd910bf1adb7950a3a587be80b8018f5ce", func := "loop.example/g00253/laws.FnExactGreedyLines", spec := "fnExactGreedyLines", unfollowed := true, recurses := true, apart := false, narrowed := true }
def FnExactGreedyLinesUptoSaid : Prop := fnExactGreedyLinesUptoRow.holds Try.pinned (OpenSpec.upto fnExactGreedyLinesSpec)

/-- 'laws.FnExactWordsOf', WHERE WHAT IT READS IS OF BULK AT MOST 1048576: true; the input reads as it did. -/
def fnExactWordsOfUptoRow : OpenClaim := { program := "ytdniecpijkhpnaa", sum := "fa1b94c8490ae16778a3f92a77b7ebbd910bf1adb7950a3a587be80b8018f5ce", func := "loop.example/g00253/laws.FnExactWordsOf", spec := "fnExactWordsOf", inPlace := ["internal/abi.NoEscape"], unfollowed := true, recurses := true, apart := false, narrowed := true }
def FnExactWordsOfUptoSaid : Prop := fnExactWordsOfUptoRow.holds Try.pinned (OpenSpec.upto fnExactWordsOfSpec)

/-- 'laws.FnExactBestLines', WHERE WHAT IT READS IS OF BULK AT MOST 1048576: true; the input reads as it did. -/
def fnExactBestLinesUptoRow : OpenClaim := { program := "ytdniecpijkhpnaa", sum := "fa1b94c8490ae16778a3f92a77b7ebbd910bf1adb7950a3a587be80b8018f5ce", func := "loop.example/g00253/laws.FnExactBestLines", spec := "fnExactBestLines", inPlace := ["internal/abi.NoEscape", "internal/bytealg.MakeNoZero"], unfollowed := true, recurses := true, apart := false, narrowed := true }
def FnExactBestLinesUptoSaid : Prop := fnExactBestLinesUptoRow.holds Try.pinned (OpenSpec.upto fnExactBestLinesSpec)

/-- 'laws.FnExactBreakAt', WHERE WHAT IT READS IS OF BULK AT MOST 1048576: true; the input reads as it did. -/
def fnExactBreakAtUptoRow : OpenClaim := { program := "ytdniecpijkhpnaa", sum := "fa1b94c8490ae16778a3f92a77b7ebbd910bf1adb7950a3a587be80b8018f5ce", func := "loop.example/g00253/laws.FnExactBreakAt", spec := "fnExactBreakAt", inPlace := ["internal/abi.NoEscape", "internal/bytealg.MakeNoZero"], unfollowed := true, recurses := true, apart := false, narrowed := true }
def FnExactBreakAtUptoSaid : Prop := fnExactBreakAtUptoRow.holds Try.pinned (OpenSpec.upto fnExactBreakAtSpec)

/-- 'laws.FnLines', WHERE WHAT IT READS IS OF BULK AT MOST 1048576: true; the input reads as it did. -/
def fnLinesUptoRow : OpenClaim := { program := "ytdniecpijkhpnaa", sum := "fa1b94c8490ae16778a3f92a77b7ebbd910bf1adb7950a3a587be80b8018f5ce", func := "loop.example/g00253/laws.FnLines", spec := "fnLines", inPlace := ["internal/abi.NoEscape", "internal/bytealg.MakeNoZero"], unfollowed := true, recurses := true, apart := false, narrowed := true }
def FnLinesUptoSaid : Prop := fnLinesUptoRow.holds Try.pinned (OpenSpec.upto fnLinesSpec)

/-- 'laws.FnWidths', WHERE WHAT IT READS IS OF BULK AT MOST 1048576: true; the input reads as it did. -/
def fnWidthsUptoRow : OpenClaim := { program := "ytdniecpijkhpnaa", sum := "fa1b94c8490ae16778a3f92a77b7ebbd910bf1adb7950a3a587be80b8018f5ce", func := "loop.example/g00253/laws.FnWidths", spec := "fnWidths", inPlace := ["internal/abi.NoEscape"], unfollowed := true, recurses := true, apart := false, narrowed := true }
def FnWidthsUptoSaid : Prop := fnWidthsUptoRow.holds Try.pinned (OpenSpec.upto fnWidthsSpec)

end Rows
end Go.Proofs.Ytdniecpijkhpnaa
