/-
  No cell of these rows narrows 'for every input' (looked for: loops, veiled, ifaces, maps, wideKeys, modest, calm, conditions, laid).
  DERIVED. THE GIVEN ROWS OF THIS SEAT. 5 by the template 'for every input the law returns true; each argument reads behind the call as it read before'; 0 by the template 'total and deterministic' (their statements: YtgccoekganghhaaTotals.lean).
  GIVEN WITH THE SEED: the statements are not yours to turn. If you find one false, say at which input.
  Laid BY PROGRAM, IN A SANDBOX (cutbox-rows.mjs): the forced cells as the released guide's own fill.sh prints them over the translation dc32d74bd5d8d53c… (all of the seat's roots in one cut). By AI agents, Wed Nov 11 2026. No macro, syntax, notation, axiom, sorry.
-/
import Derived.Test.YtgccoekganghhaaChecked
import GoSem.Claim
import GoSem.ClaimJoined
import GoSem.ClaimMapViews
import Derived.JoinedTies
import Derived.KernelRfl
namespace Go.Proofs.Ytgccoekganghhaa
/- THE CELL 'sum', in the pinned program and in every row, IS THE sha256 OF THE DUMP (.gsa) THAT YtgccoekganghhaaProg.lean LOADS. Nothing in Lean hashes anything: it is a label: what it is worth is what the hold of that sum in a sandbox is worth. -/
noncomputable def Try.pinned : Pinned := { name := "ytgccoekganghhaa", sum := "dc32d74bd5d8d53c1971eb082537a5e920ccee84b91ccb62452abe9503d275ae", checked := Try.checked }
namespace Rows
def none {H : Type} : Left H := { results := [], args := [] }

/-- 'laws.FnExactDoChange': WHATEVER THE INPUT: true; the input reads as it did. -/
def fnExactDoChangeSpec : ChangeSpec := { name := "fnExactDoChange", fn := fun _ => fun
  | [d1, d2] => { results := [.lit (.bool true)], args := [d1, d2] }
  | _ => none }
def fnExactDoChangeRow : OpenClaim := { program := "ytgccoekganghhaa", sum := "dc32d74bd5d8d53c1971eb082537a5e920ccee84b91ccb62452abe9503d275ae", func := "loop.example/g00253/laws.FnExactDoChange", spec := "fnExactDoChange", unfollowed := true, recurses := true, apart := false }
def FnExactDoChangeSaid : Prop := fnExactDoChangeRow.holds Try.pinned (OpenSpec.ofChange fnExactDoChangeSpec)

/-- ITS FALSE NEIGHBOUR: 'it returns false'. Refute it at one input. -/
def fnExactDoChangeWrong : ChangeSpec := { name := "fnExactDoChange", fn := fun _ => fun
  | [d1, d2] => { results := [.lit (.bool false)], args := [d1, d2] }
  | _ => none }
def FnExactDoChangeWrongFalsely : Prop := fnExactDoChangeRow.holds Try.pinned (OpenSpec.ofChange fnExactDoChangeWrong)

/-- 'laws.FnExactEditClient': WHATEVER THE INPUT: true; the input reads as it did. -/
def fnExactEditClientSpec : ChangeSpec := { name := "fnExactEditClient", fn := fun _ => fun
  | [d1, d2] => { results := [.lit (.bool true)], args := [d1, d2] }
  | _ => none }
def fnExactEditClientRow : OpenClaim := { program := "ytgccoekganghhaa", sum := "dc32d74bd5d8d53c1971eb082537a5e920ccee84b91ccb62452abe9503d275ae", func := "loop.example/g00253/laws.FnExactEditClient", spec := "fnExactEditClient", unfollowed := true, recurses := true, apart := false }
def FnExactEditClientSaid : Prop := fnExactEditClientRow.holds Try.pinned (OpenSpec.ofChange fnExactEditClientSpec)

/-- ITS FALSE NEIGHBOUR: 'it returns false'. Refute it at one input. -/
def fnExactEditClientWrong : ChangeSpec := { name := "fnExactEditClient", fn := fun _ => fun
  | [d1, d2] => { results := [.lit (.bool false)], args := [d1, d2] }
  | _ => none }
def FnExactEditClientWrongFalsely : Prop := fnExactEditClientRow.holds Try.pinned (OpenSpec.ofChange fnExactEditClientWrong)

/-- 'laws.FnExactHearEntry': WHATEVER THE INPUT: true; the input reads as it did. -/
def fnExactHearEntrySpec : ChangeSpec := { name := "fnExactHearEntry", fn := fun _ => fun
  | [d1, d2] => { results := [.lit (.bool true)], args := [d1, d2] }
  | _ => none }
def fnExactHearEntryRow : OpenClaim := { program := "ytgccoekganghhaa", sum := "dc32d74bd5d8d53c1971eb082537a5e920ccee84b91ccb62452abe9503d275ae", func := "loop.example/g00253/laws.FnExactHearEntry", spec := "fnExactHearEntry", unfollowed := true, recurses := true, apart := false }
def FnExactHearEntrySaid : Prop := fnExactHearEntryRow.holds Try.pinned (OpenSpec.ofChange fnExactHearEntrySpec)

/-- ITS FALSE NEIGHBOUR: 'it returns false'. Refute it at one input. -/
def fnExactHearEntryWrong : ChangeSpec := { name := "fnExactHearEntry", fn := fun _ => fun
  | [d1, d2] => { results := [.lit (.bool false)], args := [d1, d2] }
  | _ => none }
def FnExactHearEntryWrongFalsely : Prop := fnExactHearEntryRow.holds Try.pinned (OpenSpec.ofChange fnExactHearEntryWrong)

/-- 'laws.FnExactOtherChange': WHATEVER THE INPUT: true; the input reads as it did. -/
def fnExactOtherChangeSpec : ChangeSpec := { name := "fnExactOtherChange", fn := fun _ => fun
  | [d1, d2] => { results := [.lit (.bool true)], args := [d1, d2] }
  | _ => none }
def fnExactOtherChangeRow : OpenClaim := { program := "ytgccoekganghhaa", sum := "dc32d74bd5d8d53c1971eb082537a5e920ccee84b91ccb62452abe9503d275ae", func := "loop.example/g00253/laws.FnExactOtherChange", spec := "fnExactOtherChange", unfollowed := true, recurses := true, apart := false }
def FnExactOtherChangeSaid : Prop := fnExactOtherChangeRow.holds Try.pinned (OpenSpec.ofChange fnExactOtherChangeSpec)

/-- ITS FALSE NEIGHBOUR: 'it returns false'. Refute it at one input. -/
def fnExactOtherChangeWrong : ChangeSpec := { name := "fnExactOtherChange", fn := fun _ => fun
  | [d1, d2] => { results := [.lit (.bool false)], args := [d1, d2] }
  | _ => none }
def FnExactOtherChangeWrongFalsely : Prop := fnExactOtherChangeRow.holds Try.pinned (OpenSpec.ofChange fnExactOtherChangeWrong)

/-- 'laws.FnExactTakeChange': WHATEVER THE INPUT: true; the input reads as it did. -/
def fnExactTakeChangeSpec : ChangeSpec := { name := "fnExactTakeChange", fn := fun _ => fun
  | [d1, d2, d3] => { results := [.lit (.bool true)], args := [d1, d2, d3] }
  | _ => none }
def fnExactTakeChangeRow : OpenClaim := { program := "ytgccoekganghhaa", sum := "dc32d74bd5d8d53c1971eb082537a5e920ccee84b91ccb62452abe9503d275ae", func := "loop.example/g00253/laws.FnExactTakeChange", spec := "fnExactTakeChange", unfollowed := true, recurses := true, apart := false }
def FnExactTakeChangeSaid : Prop := fnExactTakeChangeRow.holds Try.pinned (OpenSpec.ofChange fnExactTakeChangeSpec)

/-- ITS FALSE NEIGHBOUR: 'it returns false'. Refute it at one input. -/
def fnExactTakeChangeWrong : ChangeSpec := { name := "fnExactTakeChange", fn := fun _ => fun
  | [d1, d2, d3] => { results := [.lit (.bool false)], args := [d1, d2, d3] }
  | _ => none }
def FnExactTakeChangeWrongFalsely : Prop := fnExactTakeChangeRow.holds Try.pinned (OpenSpec.ofChange fnExactTakeChangeWrong)

/- THE SECOND FORM. 'bulk': how many values and letters a reading holds, each counted each time it is reached (what is shared counts as often as it is met; a slice's spare places count too). A statement '..UptoSaid' is the law's where the arguments, and the package variables that the reading takes, are together of bulk at most 1048576: NARROWER than '..Said'. Prove '..Said' where nothing that the law and all that it calls make is longer than what came in: it says more and counts as full. Else prove '..UptoSaid'. A law counts once. -/
mutual
def uptoBulk {H : Type} : DataW H → Nat
  | .lit (.string bytes) => bytes.length + 1
  | .lit _ => 1
  | .nil => 1
  | .ptr d => uptoBulk d + 1
  | .slice elems spare => uptoBulkAll elems + uptoBulkAll spare + 1
  | .agg parts => uptoBulkAll parts + 1
  | .iface _ d => uptoBulk d + 1
  | .map entries => uptoBulkEntries entries + 1
  | .held _ => 1
def uptoBulkAll {H : Type} : List (DataW H) → Nat
  | [] => 0
  | d :: r => uptoBulk d + uptoBulkAll r
def uptoBulkEntries {H : Type} : List (Lit × DataW H) → Nat
  | [] => 0
  | x :: r => uptoBulkEntry x + uptoBulkEntries r
def uptoBulkEntry {H : Type} : Lit × DataW H → Nat
  | (.string bytes, d) => bytes.length + uptoBulk d + 1
  | (_, d) => uptoBulk d + 1
 end
def uptoSmall : (H : Type) → List (DataW H) → Bool := fun _ ds => decide (uptoBulkAll ds ≤ 1048576)
def OpenSpec.upto (s : _root_.Go.ChangeSpec) : _root_.Go.OpenSpec := { _root_.Go.OpenSpec.ofChange s with cond := some uptoSmall }

/-- 'laws.FnExactDoChange', WHERE WHAT IT READS IS OF BULK AT MOST 1048576: true; the input reads as it did. -/
def fnExactDoChangeUptoRow : OpenClaim := { program := "ytgccoekganghhaa", sum := "dc32d74bd5d8d53c1971eb082537a5e920ccee84b91ccb62452abe9503d275ae", func := "loop.example/g00253/laws.FnExactDoChange", spec := "fnExactDoChange", unfollowed := true, recurses := true, apart := false, narrowed := true }
def FnExactDoChangeUptoSaid : Prop := fnExactDoChangeUptoRow.holds Try.pinned (OpenSpec.upto fnExactDoChangeSpec)

/-- 'laws.FnExactEditClient', WHERE WHAT IT READS IS OF BULK AT MOST 1048576: true; the input reads as it did. -/
def fnExactEditClientUptoRow : OpenClaim := { program := "ytgccoekganghhaa", sum := "dc32d74bd5d8d53c1971eb082537a5e920ccee84b91ccb62452abe9503d275ae", func := "loop.example/g00253/laws.FnExactEditClient", spec := "fnExactEditClient", unfollowed := true, recurses := true, apart := false, narrowed := true }
def FnExactEditClientUptoSaid : Prop := fnExactEditClientUptoRow.holds Try.pinned (OpenSpec.upto fnExactEditClientSpec)

/-- 'laws.FnExactHearEntry', WHERE WHAT IT READS IS OF BULK AT MOST 1048576: true; the input reads as it did. -/
def fnExactHearEntryUptoRow : OpenClaim := { program := "ytgccoekganghhaa", sum := "dc32d74bd5d8d53c1971eb082537a5e920ccee84b91ccb62452abe9503d275ae", func := "loop.example/g00253/laws.FnExactHearEntry", spec := "fnExactHearEntry", unfollowed := true, recurses := true, apart := false, narrowed := true }
def FnExactHearEntryUptoSaid : Prop := fnExactHearEntryUptoRow.holds Try.pinned (OpenSpec.upto fnExactHearEntrySpec)

/-- 'laws.FnExactOtherChange', WHERE WHAT IT READS IS OF BULK AT MOST 1048576: true; the input reads as it did. -/
def fnExactOtherChangeUptoRow : OpenClaim := { program := "ytgccoekganghhaa", sum := "dc32d74bd5d8d53c1971eb082537a5e920ccee84b91ccb62452abe9503d275ae", func := "loop.example/g00253/laws.FnExactOtherChange", spec := "fnExactOtherChange", unfollowed := true, recurses := true, apart := false, narrowed := true }
def FnExactOtherChangeUptoSaid : Prop := fnExactOtherChangeUptoRow.holds Try.pinned (OpenSpec.upto fnExactOtherChangeSpec)

/-- 'laws.FnExactTakeChange', WHERE WHAT IT READS IS OF BULK AT MOST 1048576: true; the input reads as it did. -/
def fnExactTakeChangeUptoRow : OpenClaim := { program := "ytgccoekganghhaa", sum := "dc32d74bd5d8d53c1971eb082537a5e920ccee84b91ccb62452abe9503d275ae", func := "loop.example/g00253/laws.FnExactTakeChange", spec := "fnExactTakeChange", unfollowed := true, recurses := true, apart := false, narrowed := true }
def FnExactTakeChangeUptoSaid : Prop := fnExactTakeChangeUptoRow.holds Try.pinned (OpenSpec.upto fnExactTakeChangeSpec)

end Rows
end Go.Proofs.Ytgccoekganghhaa
