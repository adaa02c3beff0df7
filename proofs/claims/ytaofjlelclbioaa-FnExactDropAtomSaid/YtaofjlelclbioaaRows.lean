/-
  No cell of these rows narrows 'for every input' (looked for: loops, veiled, ifaces, maps, wideKeys, modest, calm, conditions, laid).
  DERIVED. THE GIVEN ROWS OF THIS SEAT. 9 by the template 'for every input the law returns true; each argument reads behind the call as it read before'; 0 by the template 'total and deterministic' (their statements: YtaofjlelclbioaaTotals.lean).
  GIVEN WITH THE SEED: the statements are not yours to turn. If you find one false, say at which input.
  Laid BY PROGRAM, IN A SANDBOX (cutbox-rows.mjs): the forced cells as the released guide's own fill.sh prints them over the translation befce995325a7333… (all of the seat's roots in one cut). By AI agents, Wed Nov 11 2026. No macro, syntax, notation, axiom, sorry.
-/
import Derived.Test.YtaofjlelclbioaaChecked
import GoSem.Claim
import GoSem.ClaimJoined
import GoSem.ClaimMapViews
import Derived.JoinedTies
import Derived.KernelRfl
namespace Go.Proofs.Ytaofjlelclbioaa
/- THE CELL 'sum', in the pinned program and in every row, IS THE sha256 OF THE DUMP (.gsa) THAT YtaofjlelclbioaaProg.lean LOADS. Nothing in Lean hashes anything: it is a label: what it is worth is what the hold of that sum in a sandbox is worth. -/
noncomputable def Try.pinned : Pinned := { name := "ytaofjlelclbioaa", sum := "befce995325a7333b04898d5b4c9b2eef7acdf124cb666320d0f7b107b32cf63", checked := Try.checked }
namespace Rows
def none {H : Type} : Left H := { results := [], args := [] }

/-- 'laws.FnExactGoodSeq': WHATEVER THE INPUT: true; the input reads as it did. -/
def fnExactGoodSeqSpec : ChangeSpec := { name := "fnExactGoodSeq", fn := fun _ => fun
  | [d] => { results := [.lit (.bool true)], args := [d] }
  | _ => none }
def fnExactGoodSeqRow : OpenClaim := { program := "ytaofjlelclbioaa", sum := "befce995325a7333b04898d5b4c9b2eef7acdf124cb666320d0f7b107b32cf63", func := "loop.example/g00253/laws.FnExactGoodSeq", spec := "fnExactGoodSeq", plainKeys := false, apart := false }
def FnExactGoodSeqSaid : Prop := fnExactGoodSeqRow.holds Try.pinned (OpenSpec.ofChange fnExactGoodSeqSpec)

/-- ITS FALSE NEIGHBOUR: 'it returns false'. Refute it at one input. -/
def fnExactGoodSeqWrong : ChangeSpec := { name := "fnExactGoodSeq", fn := fun _ => fun
  | [d] => { results := [.lit (.bool false)], args := [d] }
  | _ => none }
def FnExactGoodSeqWrongFalsely : Prop := fnExactGoodSeqRow.holds Try.pinned (OpenSpec.ofChange fnExactGoodSeqWrong)

/-- 'laws.FnExactLessSeq': WHATEVER THE INPUT: true; the input reads as it did. -/
def fnExactLessSeqSpec : ChangeSpec := { name := "fnExactLessSeq", fn := fun _ => fun
  | [d1, d2] => { results := [.lit (.bool true)], args := [d1, d2] }
  | _ => none }
def fnExactLessSeqRow : OpenClaim := { program := "ytaofjlelclbioaa", sum := "befce995325a7333b04898d5b4c9b2eef7acdf124cb666320d0f7b107b32cf63", func := "loop.example/g00253/laws.FnExactLessSeq", spec := "fnExactLessSeq", unfollowed := true, recurses := true, plainKeys := false, apart := false }
def FnExactLessSeqSaid : Prop := fnExactLessSeqRow.holds Try.pinned (OpenSpec.ofChange fnExactLessSeqSpec)

/-- ITS FALSE NEIGHBOUR: 'it returns false'. Refute it at one input. -/
def fnExactLessSeqWrong : ChangeSpec := { name := "fnExactLessSeq", fn := fun _ => fun
  | [d1, d2] => { results := [.lit (.bool false)], args := [d1, d2] }
  | _ => none }
def FnExactLessSeqWrongFalsely : Prop := fnExactLessSeqRow.holds Try.pinned (OpenSpec.ofChange fnExactLessSeqWrong)

/-- 'laws.FnExactTextOfSeq': WHATEVER THE INPUT: true; the input reads as it did. -/
def fnExactTextOfSeqSpec : ChangeSpec := { name := "fnExactTextOfSeq", fn := fun _ => fun
  | [d] => { results := [.lit (.bool true)], args := [d] }
  | _ => none }
def fnExactTextOfSeqRow : OpenClaim := { program := "ytaofjlelclbioaa", sum := "befce995325a7333b04898d5b4c9b2eef7acdf124cb666320d0f7b107b32cf63", func := "loop.example/g00253/laws.FnExactTextOfSeq", spec := "fnExactTextOfSeq", unfollowed := true, recurses := true, plainKeys := false, apart := false }
def FnExactTextOfSeqSaid : Prop := fnExactTextOfSeqRow.holds Try.pinned (OpenSpec.ofChange fnExactTextOfSeqSpec)

/-- ITS FALSE NEIGHBOUR: 'it returns false'. Refute it at one input. -/
def fnExactTextOfSeqWrong : ChangeSpec := { name := "fnExactTextOfSeq", fn := fun _ => fun
  | [d] => { results := [.lit (.bool false)], args := [d] }
  | _ => none }
def FnExactTextOfSeqWrongFalsely : Prop := fnExactTextOfSeqRow.holds Try.pinned (OpenSpec.ofChange fnExactTextOfSeqWrong)

/-- 'laws.FnExactOrderOf': WHATEVER THE INPUT: true; the input reads as it did. -/
def fnExactOrderOfSpec : ChangeSpec := { name := "fnExactOrderOf", fn := fun _ => fun
  | [d] => { results := [.lit (.bool true)], args := [d] }
  | _ => none }
def fnExactOrderOfRow : OpenClaim := { program := "ytaofjlelclbioaa", sum := "befce995325a7333b04898d5b4c9b2eef7acdf124cb666320d0f7b107b32cf63", func := "loop.example/g00253/laws.FnExactOrderOf", spec := "fnExactOrderOf", unfollowed := true, recurses := true, plainKeys := false, apart := false }
def FnExactOrderOfSaid : Prop := fnExactOrderOfRow.holds Try.pinned (OpenSpec.ofChange fnExactOrderOfSpec)

/-- ITS FALSE NEIGHBOUR: 'it returns false'. Refute it at one input. -/
def fnExactOrderOfWrong : ChangeSpec := { name := "fnExactOrderOf", fn := fun _ => fun
  | [d] => { results := [.lit (.bool false)], args := [d] }
  | _ => none }
def FnExactOrderOfWrongFalsely : Prop := fnExactOrderOfRow.holds Try.pinned (OpenSpec.ofChange fnExactOrderOfWrong)

/-- 'laws.FnExactDropAtom': WHATEVER THE INPUT: true; the input reads as it did. -/
def fnExactDropAtomSpec : ChangeSpec := { name := "fnExactDropAtom", fn := fun _ => fun
  | [d1, d2] => { results := [.lit (.bool true)], args := [d1, d2] }
  | _ => none }
def fnExactDropAtomRow : OpenClaim := { program := "ytaofjlelclbioaa", sum := "befce995325a7333b04898d5b4c9b2eef7acdf124cb666320d0f7b107b32cf63", func := "loop.example/g00253/laws.FnExactDropAtom", spec := "fnExactDropAtom", unfollowed := true, recurses := true, plainKeys := false, apart := false }
def FnExactDropAtomSaid : Prop := fnExactDropAtomRow.holds Try.pinned (OpenSpec.ofChange fnExactDropAtomSpec)

/-- ITS FALSE NEIGHBOUR: 'it returns false'. Refute it at one input. -/
def fnExactDropAtomWrong : ChangeSpec := { name := "fnExactDropAtom", fn := fun _ => fun
  | [d1, d2] => { results := [.lit (.bool false)], args := [d1, d2] }
  | _ => none }
def FnExactDropAtomWrongFalsely : Prop := fnExactDropAtomRow.holds Try.pinned (OpenSpec.ofChange fnExactDropAtomWrong)

/-- 'laws.FnExactPutAtom': WHATEVER THE INPUT: true; the input reads as it did. -/
def fnExactPutAtomSpec : ChangeSpec := { name := "fnExactPutAtom", fn := fun _ => fun
  | [d1, d2, d3, d4] => { results := [.lit (.bool true)], args := [d1, d2, d3, d4] }
  | _ => none }
def fnExactPutAtomRow : OpenClaim := { program := "ytaofjlelclbioaa", sum := "befce995325a7333b04898d5b4c9b2eef7acdf124cb666320d0f7b107b32cf63", func := "loop.example/g00253/laws.FnExactPutAtom", spec := "fnExactPutAtom", unfollowed := true, recurses := true, plainKeys := false, apart := false }
def FnExactPutAtomSaid : Prop := fnExactPutAtomRow.holds Try.pinned (OpenSpec.ofChange fnExactPutAtomSpec)

/-- ITS FALSE NEIGHBOUR: 'it returns false'. Refute it at one input. -/
def fnExactPutAtomWrong : ChangeSpec := { name := "fnExactPutAtom", fn := fun _ => fun
  | [d1, d2, d3, d4] => { results := [.lit (.bool false)], args := [d1, d2, d3, d4] }
  | _ => none }
def FnExactPutAtomWrongFalsely : Prop := fnExactPutAtomRow.holds Try.pinned (OpenSpec.ofChange fnExactPutAtomWrong)

/-- 'laws.FnExactMergeSeqs': WHATEVER THE INPUT: true; the input reads as it did. -/
def fnExactMergeSeqsSpec : ChangeSpec := { name := "fnExactMergeSeqs", fn := fun _ => fun
  | [d1, d2] => { results := [.lit (.bool true)], args := [d1, d2] }
  | _ => none }
def fnExactMergeSeqsRow : OpenClaim := { program := "ytaofjlelclbioaa", sum := "befce995325a7333b04898d5b4c9b2eef7acdf124cb666320d0f7b107b32cf63", func := "loop.example/g00253/laws.FnExactMergeSeqs", spec := "fnExactMergeSeqs", unfollowed := true, recurses := true, plainKeys := false, apart := false }
def FnExactMergeSeqsSaid : Prop := fnExactMergeSeqsRow.holds Try.pinned (OpenSpec.ofChange fnExactMergeSeqsSpec)

/-- ITS FALSE NEIGHBOUR: 'it returns false'. Refute it at one input. -/
def fnExactMergeSeqsWrong : ChangeSpec := { name := "fnExactMergeSeqs", fn := fun _ => fun
  | [d1, d2] => { results := [.lit (.bool false)], args := [d1, d2] }
  | _ => none }
def FnExactMergeSeqsWrongFalsely : Prop := fnExactMergeSeqsRow.holds Try.pinned (OpenSpec.ofChange fnExactMergeSeqsWrong)

/-- 'laws.FnPut': WHATEVER THE INPUT: true; the input reads as it did. -/
def fnPutSpec : ChangeSpec := { name := "fnPut", fn := fun _ => fun
  | [d1, d2] => { results := [.lit (.bool true)], args := [d1, d2] }
  | _ => none }
def fnPutRow : OpenClaim := { program := "ytaofjlelclbioaa", sum := "befce995325a7333b04898d5b4c9b2eef7acdf124cb666320d0f7b107b32cf63", func := "loop.example/g00253/laws.FnPut", spec := "fnPut", unfollowed := true, recurses := true, plainKeys := false, apart := false }
def FnPutSaid : Prop := fnPutRow.holds Try.pinned (OpenSpec.ofChange fnPutSpec)

/-- ITS FALSE NEIGHBOUR: 'it returns false'. Refute it at one input. -/
def fnPutWrong : ChangeSpec := { name := "fnPut", fn := fun _ => fun
  | [d1, d2] => { results := [.lit (.bool false)], args := [d1, d2] }
  | _ => none }
def FnPutWrongFalsely : Prop := fnPutRow.holds Try.pinned (OpenSpec.ofChange fnPutWrong)

/-- 'laws.FnSeqs': WHATEVER THE INPUT: true; the input reads as it did. -/
def fnSeqsSpec : ChangeSpec := { name := "fnSeqs", fn := fun _ => fun
  | [d1, d2] => { results := [.lit (.bool true)], args := [d1, d2] }
  | _ => none }
def fnSeqsRow : OpenClaim := { program := "ytaofjlelclbioaa", sum := "befce995325a7333b04898d5b4c9b2eef7acdf124cb666320d0f7b107b32cf63", func := "loop.example/g00253/laws.FnSeqs", spec := "fnSeqs", unfollowed := true, recurses := true, plainKeys := false, apart := false }
def FnSeqsSaid : Prop := fnSeqsRow.holds Try.pinned (OpenSpec.ofChange fnSeqsSpec)

/-- ITS FALSE NEIGHBOUR: 'it returns false'. Refute it at one input. -/
def fnSeqsWrong : ChangeSpec := { name := "fnSeqs", fn := fun _ => fun
  | [d1, d2] => { results := [.lit (.bool false)], args := [d1, d2] }
  | _ => none }
def FnSeqsWrongFalsely : Prop := fnSeqsRow.holds Try.pinned (OpenSpec.ofChange fnSeqsWrong)

/- THE SECOND FORM. 'bulk': how many values and letters a reading holds, each counted each time it is reached (what is shared counts as often as it is met; a slice's spare places count too). A statement '..UptoSaid' is the law's where the arguments, and the package variables that the reading takes, are together of bulk at most 1048576: NARROWER than '..Said'. Prove '..Said' where nothing that the law and all that it calls make is longer than what came in: it says more and counts as full. Else prove '..UptoSaid'. A law counts once. -/
mutual
def uptoBulk {H : Type} : DataW H → Nat
  | .lit (.string bytes) => bytes.length + 1
  | .lit _ => 1
  | .nil => 1
  | .ptr d => uptoBulk d + 1
  | .slice elems spare => uptoBulkAll elems + uptoBulkAll spare + 1
  | .agg parts => uptoBulkAll parts + 1
  | .iface _ d => uptoBulk d + 1
  | .map entries => uptoBulkEntries entries + 1
  | .held _ => 1
def uptoBulkAll {H : Type} : List (DataW H) → Nat
  | [] => 0
  | d :: r => uptoBulk d + uptoBulkAll r
def uptoBulkEntries {H : Type} : List (Lit × DataW H) → Nat
  | [] => 0
  | x :: r => uptoBulkEntry x + uptoBulkEntries r
def uptoBulkEntry {H : Type} : Lit × DataW H → Nat
  | (.string bytes, d) => bytes.length + uptoBulk d + 1
  | (_, d) => uptoBulk d + 1
 end
def uptoSmall : (H : Type) → List (DataW H) → Bool := fun _ ds => decide (uptoBulkAll ds ≤ 1048576)
def OpenSpec.upto (s : _root_.Go.ChangeSpec) : _root_.Go.OpenSpec := { _root_.Go.OpenSpec.ofChange s with cond := some uptoSmall }

/-- 'laws.FnExactGoodSeq', WHERE WHAT IT READS IS OF BULK AT MOST 1048576: true; the input reads as it did. -/
def fnExactGoodSeqUptoRow : OpenClaim := { program := "ytaofjlelclbioaa", sum := "befce995325a7333b04898d5b4c9b2eef7acdf124cb666320d0f7b107b32cf63", func := "loop.example/g00253/laws.FnExactGoodSeq", spec := "fnExactGoodSeq", plainKeys := false, apart := false, narrowed := true }
def FnExactGoodSeqUptoSaid : Prop := fnExactGoodSeqUptoRow.holds Try.pinned (OpenSpec.upto fnExactGoodSeqSpec)

/-- 'laws.FnExactLessSeq', WHERE WHAT IT READS IS OF BULK AT MOST 1048576: true; the input reads as it did. -/
def fnExactLessSeqUptoRow : OpenClaim := { program := "ytaofjlelclbioaa", sum := "befce995325a7333b04898d5b4c9b2eef7acdf124cb666320d0f7b107b32cf63", func := "loop.example/g00253/laws.FnExactLessSeq", spec := "fnExactLessSeq", unfollowed := true, recurses := true, plainKeys := false, apart := false, narrowed := true }
def FnExactLessSeqUptoSaid : Prop := fnExactLessSeqUptoRow.holds Try.pinned (OpenSpec.upto fnExactLessSeqSpec)

/-- 'laws.FnExactTextOfSeq', WHERE WHAT IT READS IS OF BULK AT MOST 1048576: true; the input reads as it did. -/
def fnExactTextOfSeqUptoRow : OpenClaim := { program := "ytaofjlelclbioaa", sum := "befce995325a7333b04898d5b4c9b2eef7acdf124cb666320d0f7b107b32cf63", func := "loop.example/g00253/laws.FnExactTextOfSeq", spec := "fnExactTextOfSeq", unfollowed := true, recurses := true, plainKeys := false, apart := false, narrowed := true }
def FnExactTextOfSeqUptoSaid : Prop := fnExactTextOfSeqUptoRow.holds Try.pinned (OpenSpec.upto fnExactTextOfSeqSpec)

/-- 'laws.FnExactOrderOf', WHERE WHAT IT READS IS OF BULK AT MOST 1048576: true; the input reads as it did. -/
def fnExactOrderOfUptoRow : OpenClaim := { program := "ytaofjlelclbioaa", sum := "befce995325a7333b04898d5b4c9b2eef7acdf124cb666320d0f7b107b32cf63", func := "loop.example/g00253/laws.FnExactOrderOf", spec := "fnExactOrderOf", unfollowed := true, recurses := true, plainKeys := false, apart := false, narrowed := true }
def FnExactOrderOfUptoSaid : Prop := fnExactOrderOfUptoRow.holds Try.pinned (OpenSpec.upto fnExactOrderOfSpec)

/-- 'laws.FnExactDropAtom', WHERE WHAT IT READS IS OF BULK AT MOST 1048576: true; the input reads as it did. -/
def fnExactDropAtomUptoRow : OpenClaim := { program := "ytaofjlelclbioaa", sum := "befce995325a7333b04898d5b4c9b2eef7acdf124cb666320d0f7b107b32cf63", func := "loop.example/g00253/laws.FnExactDropAtom", spec := "fnExactDropAtom", unfollowed := true, recurses := true, plainKeys := false, apart := false, narrowed := true }
def FnExactDropAtomUptoSaid : Prop := fnExactDropAtomUptoRow.holds Try.pinned (OpenSpec.upto fnExactDropAtomSpec)

/-- 'laws.FnExactPutAtom', WHERE WHAT IT READS IS OF BULK AT MOST 1048576: true; the input reads as it did. -/
def fnExactPutAtomUptoRow : OpenClaim := { program := "ytaofjlelclbioaa", sum := "befce995325a7333b04898d5b4c9b2eef7acdf124cb666320d0f7b107b32cf63", func := "loop.example/g00253/laws.FnExactPutAtom", spec := "fnExactPutAtom", unfollowed := true, recurses := true, plainKeys := false, apart := false, narrowed := true }
def FnExactPutAtomUptoSaid : Prop := fnExactPutAtomUptoRow.holds Try.pinned (OpenSpec.upto fnExactPutAtomSpec)

/-- 'laws.FnExactMergeSeqs', WHERE WHAT IT READS IS OF BULK AT MOST 1048576: true; the input reads as it did. -/
def fnExactMergeSeqsUptoRow : OpenClaim := { program := "ytaofjlelclbioaa", sum := "befce995325a7333b04898d5b4c9b2eef7acdf124cb666320d0f7b107b32cf63", func := "loop.example/g00253/laws.FnExactMergeSeqs", spec := "fnExactMergeSeqs", unfollowed := true, recurses := true, plainKeys := false, apart := false, narrowed := true }
def FnExactMergeSeqsUptoSaid : Prop := fnExactMergeSeqsUptoRow.holds Try.pinned (OpenSpec.upto fnExactMergeSeqsSpec)

/-- 'laws.FnPut', WHERE WHAT IT READS IS OF BULK AT MOST 1048576: true; the input reads as it did. -/
def fnPutUptoRow : OpenClaim := { program := "ytaofjlelclbioaa", sum := "befce995325a7333b04898d5b4c9b2eef7acdf124cb666320d0f7b107b32cf63", func := "loop.example/g00253/laws.FnPut", spec := "fnPut", unfollowed := true, recurses := true, plainKeys := false, apart := false, narrowed := true }
def FnPutUptoSaid : Prop := fnPutUptoRow.holds Try.pinned (OpenSpec.upto fnPutSpec)

/-- 'laws.FnSeqs', WHERE WHAT IT READS IS OF BULK AT MOST 1048576: true; the input reads as it did. -/
def fnSeqsUptoRow : OpenClaim := { program := "ytaofjlelclbioaa", sum := "befce995325a7333b04898d5b4c9b2eef7acdf124cb666320d0f7b107b32cf63", func := "loop.example/g00253/laws.FnSeqs", spec := "fnSeqs", unfollowed := true, recurses := true, plainKeys := false, apart := false, narrowed := true }
def FnSeqsUptoSaid : Prop := fnSeqsUptoRow.holds Try.pinned (OpenSpec.upto fnSeqsSpec)

end Rows
end Go.Proofs.Ytaofjlelclbioaa
