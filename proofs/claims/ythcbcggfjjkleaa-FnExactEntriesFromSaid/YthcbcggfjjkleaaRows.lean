/-
  No cell of these rows narrows 'for every input' (looked for: loops, veiled, ifaces, maps, wideKeys, modest, calm, conditions, laid).
  DERIVED. THE GIVEN ROWS OF THIS SEAT. 8 by the template 'for every input the law returns true; each argument reads behind the call as it read before'; 0 by the template 'total and deterministic' (their statements: YthcbcggfjjkleaaTotals.lean).
  GIVEN WITH THE SEED: the statements are not yours to turn. If you find one false, say at which input.
  Laid BY PROGRAM, IN A SANDBOX (cutbox-rows.mjs): the forced cells as the released guide's own fill.sh prints them over the translation 22c1390e827f6bc7… (all of the seat's roots in one cut). By AI agents, Wed Nov 11 2026. No macro, syntax, notation, axiom, sorry.
-/
import Derived.Test.YthcbcggfjjkleaaChecked
import GoSem.Claim
import GoSem.ClaimJoined
import GoSem.ClaimMapViews
import Derived.JoinedTies
import Derived.KernelRfl
namespace Go.Proofs.Ythcbcggfjjkleaa
/- THE CELL 'sum', in the pinned program and in every row, IS THE sha256 OF THE DUMP (.gsa) THAT YthcbcggfjjkleaaProg.lean LOADS. Nothing in Lean hashes anything: it is a label: what it is worth is what the hold of that sum in a sandbox is worth. -/
noncomputable def Try.pinned : Pinned := { name := "ythcbcggfjjkleaa", sum := "22c1390e827f6bc7f8674f4261250d5d23189fd1c30354090e0746c07a8483aa", checked := Try.checked }
namespace Rows
def none {H : Type} : Left H := { results := [], args := [] }

/-- 'laws.FnExactNewServer': WHATEVER THE INPUT: true; the input reads as it did. -/
def fnExactNewServerSpec : ChangeSpec := { name := "fnExactNewServer", fn := fun _ => fun
  | [d] => { results := [.lit (.bool true)], args := [d] }
  | _ => none }
def fnExactNewServerRow : OpenClaim := { program := "ythcbcggfjjkleaa", sum := "22c1390e827f6bc7f8674f4261250d5d23189fd1c30354090e0746c07a8483aa", func := "loop.example/g00253/laws.FnExactNewServer", spec := "fnExactNewServer", apart := false }
def FnExactNewServerSaid : Prop := fnExactNewServerRow.holds Try.pinned (OpenSpec.ofChange fnExactNewServerSpec)

/-- ITS FALSE NEIGHBOUR: 'it returns false'. Refute it at one input. -/
def fnExactNewServerWrong : ChangeSpec := { name := "fnExactNewServer", fn := fun _ => fun
  | [d] => { results := [.lit (.bool false)], args := [d] }
  | _ => none }
def FnExactNewServerWrongFalsely : Prop := fnExactNewServerRow.holds Try.pinned (OpenSpec.ofChange fnExactNewServerWrong)

/-- 'laws.FnExactGoodServer': WHATEVER THE INPUT: true; the input reads as it did. -/
def fnExactGoodServerSpec : ChangeSpec := { name := "fnExactGoodServer", fn := fun _ => fun
  | [d] => { results := [.lit (.bool true)], args := [d] }
  | _ => none }
def fnExactGoodServerRow : OpenClaim := { program := "ythcbcggfjjkleaa", sum := "22c1390e827f6bc7f8674f4261250d5d23189fd1c30354090e0746c07a8483aa", func := "loop.example/g00253/laws.FnExactGoodServer", spec := "fnExactGoodServer", unfollowed := true, recurses := true, apart := false }
def FnExactGoodServerSaid : Prop := fnExactGoodServerRow.holds Try.pinned (OpenSpec.ofChange fnExactGoodServerSpec)

/-- ITS FALSE NEIGHBOUR: 'it returns false'. Refute it at one input. -/
def fnExactGoodServerWrong : ChangeSpec := { name := "fnExactGoodServer", fn := fun _ => fun
  | [d] => { results := [.lit (.bool false)], args := [d] }
  | _ => none }
def FnExactGoodServerWrongFalsely : Prop := fnExactGoodServerRow.holds Try.pinned (OpenSpec.ofChange fnExactGoodServerWrong)

/-- 'laws.FnExactTextAt': WHATEVER THE INPUT: true; the input reads as it did. -/
def fnExactTextAtSpec : ChangeSpec := { name := "fnExactTextAt", fn := fun _ => fun
  | [d1, d2] => { results := [.lit (.bool true)], args := [d1, d2] }
  | _ => none }
def fnExactTextAtRow : OpenClaim := { program := "ythcbcggfjjkleaa", sum := "22c1390e827f6bc7f8674f4261250d5d23189fd1c30354090e0746c07a8483aa", func := "loop.example/g00253/laws.FnExactTextAt", spec := "fnExactTextAt", unfollowed := true, recurses := true, apart := false }
def FnExactTextAtSaid : Prop := fnExactTextAtRow.holds Try.pinned (OpenSpec.ofChange fnExactTextAtSpec)

/-- ITS FALSE NEIGHBOUR: 'it returns false'. Refute it at one input. -/
def fnExactTextAtWrong : ChangeSpec := { name := "fnExactTextAt", fn := fun _ => fun
  | [d1, d2] => { results := [.lit (.bool false)], args := [d1, d2] }
  | _ => none }
def FnExactTextAtWrongFalsely : Prop := fnExactTextAtRow.holds Try.pinned (OpenSpec.ofChange fnExactTextAtWrong)

/-- 'laws.FnExactLastSeq': WHATEVER THE INPUT: true; the input reads as it did. -/
def fnExactLastSeqSpec : ChangeSpec := { name := "fnExactLastSeq", fn := fun _ => fun
  | [d1, d2] => { results := [.lit (.bool true)], args := [d1, d2] }
  | _ => none }
def fnExactLastSeqRow : OpenClaim := { program := "ythcbcggfjjkleaa", sum := "22c1390e827f6bc7f8674f4261250d5d23189fd1c30354090e0746c07a8483aa", func := "loop.example/g00253/laws.FnExactLastSeq", spec := "fnExactLastSeq", unfollowed := true, recurses := true, apart := false }
def FnExactLastSeqSaid : Prop := fnExactLastSeqRow.holds Try.pinned (OpenSpec.ofChange fnExactLastSeqSpec)

/-- ITS FALSE NEIGHBOUR: 'it returns false'. Refute it at one input. -/
def fnExactLastSeqWrong : ChangeSpec := { name := "fnExactLastSeq", fn := fun _ => fun
  | [d1, d2] => { results := [.lit (.bool false)], args := [d1, d2] }
  | _ => none }
def FnExactLastSeqWrongFalsely : Prop := fnExactLastSeqRow.holds Try.pinned (OpenSpec.ofChange fnExactLastSeqWrong)

/-- 'laws.FnExactEntriesFrom': WHATEVER THE INPUT: true; the input reads as it did. -/
def fnExactEntriesFromSpec : ChangeSpec := { name := "fnExactEntriesFrom", fn := fun _ => fun
  | [d1, d2] => { results := [.lit (.bool true)], args := [d1, d2] }
  | _ => none }
def fnExactEntriesFromRow : OpenClaim := { program := "ythcbcggfjjkleaa", sum := "22c1390e827f6bc7f8674f4261250d5d23189fd1c30354090e0746c07a8483aa", func := "loop.example/g00253/laws.FnExactEntriesFrom", spec := "fnExactEntriesFrom", unfollowed := true, recurses := true, apart := false }
def FnExactEntriesFromSaid : Prop := fnExactEntriesFromRow.holds Try.pinned (OpenSpec.ofChange fnExactEntriesFromSpec)

/-- ITS FALSE NEIGHBOUR: 'it returns false'. Refute it at one input. -/
def fnExactEntriesFromWrong : ChangeSpec := { name := "fnExactEntriesFrom", fn := fun _ => fun
  | [d1, d2] => { results := [.lit (.bool false)], args := [d1, d2] }
  | _ => none }
def FnExactEntriesFromWrongFalsely : Prop := fnExactEntriesFromRow.holds Try.pinned (OpenSpec.ofChange fnExactEntriesFromWrong)

/-- 'laws.FnExactChangeBetween': WHATEVER THE INPUT: true; the input reads as it did. -/
def fnExactChangeBetweenSpec : ChangeSpec := { name := "fnExactChangeBetween", fn := fun _ => fun
  | [d1, d2, d3] => { results := [.lit (.bool true)], args := [d1, d2, d3] }
  | _ => none }
def fnExactChangeBetweenRow : OpenClaim := { program := "ythcbcggfjjkleaa", sum := "22c1390e827f6bc7f8674f4261250d5d23189fd1c30354090e0746c07a8483aa", func := "loop.example/g00253/laws.FnExactChangeBetween", spec := "fnExactChangeBetween", unfollowed := true, recurses := true, apart := false }
def FnExactChangeBetweenSaid : Prop := fnExactChangeBetweenRow.holds Try.pinned (OpenSpec.ofChange fnExactChangeBetweenSpec)

/-- ITS FALSE NEIGHBOUR: 'it returns false'. Refute it at one input. -/
def fnExactChangeBetweenWrong : ChangeSpec := { name := "fnExactChangeBetween", fn := fun _ => fun
  | [d1, d2, d3] => { results := [.lit (.bool false)], args := [d1, d2, d3] }
  | _ => none }
def FnExactChangeBetweenWrongFalsely : Prop := fnExactChangeBetweenRow.holds Try.pinned (OpenSpec.ofChange fnExactChangeBetweenWrong)

/-- 'laws.FnExactTakeChange': WHATEVER THE INPUT: true; the input reads as it did. -/
def fnExactTakeChangeSpec : ChangeSpec := { name := "fnExactTakeChange", fn := fun _ => fun
  | [d1, d2, d3] => { results := [.lit (.bool true)], args := [d1, d2, d3] }
  | _ => none }
def fnExactTakeChangeRow : OpenClaim := { program := "ythcbcggfjjkleaa", sum := "22c1390e827f6bc7f8674f4261250d5d23189fd1c30354090e0746c07a8483aa", func := "loop.example/g00253/laws.FnExactTakeChange", spec := "fnExactTakeChange", unfollowed := true, recurses := true, apart := false }
def FnExactTakeChangeSaid : Prop := fnExactTakeChangeRow.holds Try.pinned (OpenSpec.ofChange fnExactTakeChangeSpec)

/-- ITS FALSE NEIGHBOUR: 'it returns false'. Refute it at one input. -/
def fnExactTakeChangeWrong : ChangeSpec := { name := "fnExactTakeChange", fn := fun _ => fun
  | [d1, d2, d3] => { results := [.lit (.bool false)], args := [d1, d2, d3] }
  | _ => none }
def FnExactTakeChangeWrongFalsely : Prop := fnExactTakeChangeRow.holds Try.pinned (OpenSpec.ofChange fnExactTakeChangeWrong)

/-- 'laws.FnServer': WHATEVER THE INPUT: true; the input reads as it did. -/
def fnServerSpec : ChangeSpec := { name := "fnServer", fn := fun _ => fun
  | [d1, d2] => { results := [.lit (.bool true)], args := [d1, d2] }
  | _ => none }
def fnServerRow : OpenClaim := { program := "ythcbcggfjjkleaa", sum := "22c1390e827f6bc7f8674f4261250d5d23189fd1c30354090e0746c07a8483aa", func := "loop.example/g00253/laws.FnServer", spec := "fnServer", unfollowed := true, recurses := true, apart := false }
def FnServerSaid : Prop := fnServerRow.holds Try.pinned (OpenSpec.ofChange fnServerSpec)

/-- ITS FALSE NEIGHBOUR: 'it returns false'. Refute it at one input. -/
def fnServerWrong : ChangeSpec := { name := "fnServer", fn := fun _ => fun
  | [d1, d2] => { results := [.lit (.bool false)], args := [d1, d2] }
  | _ => none }
def FnServerWrongFalsely : Prop := fnServerRow.holds Try.pinned (OpenSpec.ofChange fnServerWrong)

/- THE SECOND FORM. 'bulk': how many values and letters a reading holds, each counted each time it is reached (what is shared counts as often as it is met; a slice's spare places count too). A statement '..UptoSaid' is the law's where the arguments, and the package variables that the reading takes, are together of bulk at most 1048576: NARROWER than '..Said'. Prove '..Said' where nothing that the law and all that it calls make is longer than what came in: it says more and counts as full. Else prove '..UptoSaid'. A law counts once. -/
mutual
def uptoBulk {H : Type} : DataW H → Nat
  | .lit (.string bytes) => bytes.length + 1
  | .lit _ => 1
  | .nil => 1
  | .ptr d => uptoBulk d + 1
  | .slice elems spare => uptoBulkAll elems + uptoBulkAll spare + 1
  | .agg parts => uptoBulkAll parts + 1
  | .iface _ d => uptoBulk d + 1
  | .map entries => uptoBulkEntries entries + 1
  | .held _ => 1
def uptoBulkAll {H : Type} : List (DataW H) → Nat
  | [] => 0
  | d :: r => uptoBulk d + uptoBulkAll r
def uptoBulkEntries {H : Type} : List (Lit × DataW H) → Nat
  | [] => 0
  | x :: r => uptoBulkEntry x + uptoBulkEntries r
def uptoBulkEntry {H : Type} : Lit × DataW H → Nat
  | (.string bytes, d) => bytes.length + uptoBulk d + 1
  | (_, d) => uptoBulk d + 1
 end
def uptoSmall : (H : Type) → List (DataW H) → Bool := fun _ ds => decide (uptoBulkAll ds ≤ 1048576)
def OpenSpec.upto (s : _root_.Go.ChangeSpec) : _root_.Go.OpenSpec := { _root_.Go.OpenSpec.ofChange s with cond := some uptoSmall }

/-- 'laws.FnExactNewServer', WHERE WHAT IT READS IS OF BULK AT MOST 1048576: true; the input reads as it did. -/
def fnExactNewServerUptoRow : OpenClaim := { program := "ythcbcggfjjkleaa", sum := "22c1390e827f6bc7f8674f4261250d5d23189fd1c30354090e0746c07a8483aa", func := "loop.example/g00253/laws.FnExactNewServer", spec := "fnExactNewServer", apart := false, narrowed := true }
def FnExactNewServerUptoSaid : Prop := fnExactNewServerUptoRow.holds Try.pinned (OpenSpec.upto fnExactNewServerSpec)

/-- 'laws.FnExactGoodServer', WHERE WHAT IT READS IS OF BULK AT MOST 1048576: true; the input reads as it did. -/
def fnExactGoodServerUptoRow : OpenClaim := { program := "ythcbcggfjjkleaa", sum := "22c1390e827f6bc7f8674f4261250d5d23189fd1c30354090e0746c07a8483aa", func := "loop.example/g00253/laws.FnExactGoodServer", spec := "fnExactGoodServer", unfollowed := true, recurses := true, apart := false, narrowed := true }
def FnExactGoodServerUptoSaid : Prop := fnExactGoodServerUptoRow.holds Try.pinned (OpenSpec.upto fnExactGoodServerSpec)

/-- 'laws.FnExactTextAt', WHERE WHAT IT READS IS OF BULK AT MOST 1048576: true; the input reads as it did. -/
def fnExactTextAtUptoRow : OpenClaim := { program := "ythcbcggfjjkleaa", sum := "22c1390e827f6bc7f8674f4261250d5d23189fd1c30354090e0746c07a8483aa", func := "loop.example/g00253/laws.FnExactTextAt", spec := "fnExactTextAt", unfollowed := true, recurses := true, apart := false, narrowed := true }
def FnExactTextAtUptoSaid : Prop := fnExactTextAtUptoRow.holds Try.pinned (OpenSpec.upto fnExactTextAtSpec)

/-- 'laws.FnExactLastSeq', WHERE WHAT IT READS IS OF BULK AT MOST 1048576: true; the input reads as it did. -/
def fnExactLastSeqUptoRow : OpenClaim := { program := "ythcbcggfjjkleaa", sum := "22c1390e827f6bc7f8674f4261250d5d23189fd1c30354090e0746c07a8483aa", func := "loop.example/g00253/laws.FnExactLastSeq", spec := "fnExactLastSeq", unfollowed := true, recurses := true, apart := false, narrowed := true }
def FnExactLastSeqUptoSaid : Prop := fnExactLastSeqUptoRow.holds Try.pinned (OpenSpec.upto fnExactLastSeqSpec)

/-- 'laws.FnExactEntriesFrom', WHERE WHAT IT READS IS OF BULK AT MOST 1048576: true; the input reads as it did. -/
def fnExactEntriesFromUptoRow : OpenClaim := { program := "ythcbcggfjjkleaa", sum := "22c1390e827f6bc7f8674f4261250d5d23189fd1c30354090e0746c07a8483aa", func := "loop.example/g00253/laws.FnExactEntriesFrom", spec := "fnExactEntriesFrom", unfollowed := true, recurses := true, apart := false, narrowed := true }
def FnExactEntriesFromUptoSaid : Prop := fnExactEntriesFromUptoRow.holds Try.pinned (OpenSpec.upto fnExactEntriesFromSpec)

/-- 'laws.FnExactChangeBetween', WHERE WHAT IT READS IS OF BULK AT MOST 1048576: true; the input reads as it did. -/
def fnExactChangeBetweenUptoRow : OpenClaim := { program := "ythcbcggfjjkleaa", sum := "22c1390e827f6bc7f8674f4261250d5d23189fd1c30354090e0746c07a8483aa", func := "loop.example/g00253/laws.FnExactChangeBetween", spec := "fnExactChangeBetween", unfollowed := true, recurses := true, apart := false, narrowed := true }
def FnExactChangeBetweenUptoSaid : Prop := fnExactChangeBetweenUptoRow.holds Try.pinned (OpenSpec.upto fnExactChangeBetweenSpec)

/-- 'laws.FnExactTakeChange', WHERE WHAT IT READS IS OF BULK AT MOST 1048576: true; the input reads as it did. -/
def fnExactTakeChangeUptoRow : OpenClaim := { program := "ythcbcggfjjkleaa", sum := "22c1390e827f6bc7f8674f4261250d5d23189fd1c30354090e0746c07a8483aa", func := "loop.example/g00253/laws.FnExactTakeChange", spec := "fnExactTakeChange", unfollowed := true, recurses := true, apart := false, narrowed := true }
def FnExactTakeChangeUptoSaid : Prop := fnExactTakeChangeUptoRow.holds Try.pinned (OpenSpec.upto fnExactTakeChangeSpec)

/-- 'laws.FnServer', WHERE WHAT IT READS IS OF BULK AT MOST 1048576: true; the input reads as it did. -/
def fnServerUptoRow : OpenClaim := { program := "ythcbcggfjjkleaa", sum := "22c1390e827f6bc7f8674f4261250d5d23189fd1c30354090e0746c07a8483aa", func := "loop.example/g00253/laws.FnServer", spec := "fnServer", unfollowed := true, recurses := true, apart := false, narrowed := true }
def FnServerUptoSaid : Prop := fnServerUptoRow.holds Try.pinned (OpenSpec.upto fnServerSpec)

end Rows
end Go.Proofs.Ythcbcggfjjkleaa
