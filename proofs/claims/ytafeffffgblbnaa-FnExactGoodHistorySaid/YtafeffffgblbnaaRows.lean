/-
  No cell of these rows narrows 'for every input' (looked for: loops, veiled, ifaces, maps, wideKeys, modest, calm, conditions, laid).
  DERIVED. THE GIVEN ROWS OF THIS SEAT. 9 by the template 'for every input the law returns true; each argument reads behind the call as it read before'; 0 by the template 'total and deterministic' (their statements: YtafeffffgblbnaaTotals.lean).
  GIVEN WITH THE SEED: the statements are not yours to turn. If you find one false, say at which input.
  Laid BY PROGRAM, IN A SANDBOX (cutbox-rows.mjs): the forced cells as the released guide's own fill.sh prints them over the translation 427443ab5ccc0140… (all of the seat's roots in one cut). By AI agents, Wed Nov 11 2026. No macro, syntax, notation, axiom, sorry.
-/
import Derived.Test.YtafeffffgblbnaaChecked
import GoSem.Claim
import GoSem.ClaimJoined
import GoSem.ClaimMapViews
import Derived.JoinedTies
import Derived.KernelRfl
namespace Go.Proofs.Ytafeffffgblbnaa
/- THE CELL 'sum', in the pinned program and in every row, IS THE sha256 OF THE DUMP (.gsa) THAT YtafeffffgblbnaaProg.lean LOADS. Nothing in Lean hashes anything: it is a label: what it is worth is what the hold of that sum in a sandbox is worth. -/
noncomputable def Try.pinned : Pinned := { name := "ytafeffffgblbnaa", sum := "427443ab5ccc01401bab5ed29f6f1f4b59390bb1666afe9749d8afe31924e2c5", checked := Try.checked }
namespace Rows
def none {H : Type} : Left H := { results := [], args := [] }

/-- 'laws.FnExactNewHistory': WHATEVER THE INPUT: true; the input reads as it did. -/
def fnExactNewHistorySpec : ChangeSpec := { name := "fnExactNewHistory", fn := fun _ => fun
  | [d] => { results := [.lit (.bool true)], args := [d] }
  | _ => none }
def fnExactNewHistoryRow : OpenClaim := { program := "ytafeffffgblbnaa", sum := "427443ab5ccc01401bab5ed29f6f1f4b59390bb1666afe9749d8afe31924e2c5", func := "loop.example/g00253/laws.FnExactNewHistory", spec := "fnExactNewHistory", apart := false }
def FnExactNewHistorySaid : Prop := fnExactNewHistoryRow.holds Try.pinned (OpenSpec.ofChange fnExactNewHistorySpec)

/-- ITS FALSE NEIGHBOUR: 'it returns false'. Refute it at one input. -/
def fnExactNewHistoryWrong : ChangeSpec := { name := "fnExactNewHistory", fn := fun _ => fun
  | [d] => { results := [.lit (.bool false)], args := [d] }
  | _ => none }
def FnExactNewHistoryWrongFalsely : Prop := fnExactNewHistoryRow.holds Try.pinned (OpenSpec.ofChange fnExactNewHistoryWrong)

/-- 'laws.FnExactGoodHistory': WHATEVER THE INPUT: true; the input reads as it did. -/
def fnExactGoodHistorySpec : ChangeSpec := { name := "fnExactGoodHistory", fn := fun _ => fun
  | [d] => { results := [.lit (.bool true)], args := [d] }
  | _ => none }
def fnExactGoodHistoryRow : OpenClaim := { program := "ytafeffffgblbnaa", sum := "427443ab5ccc01401bab5ed29f6f1f4b59390bb1666afe9749d8afe31924e2c5", func := "loop.example/g00253/laws.FnExactGoodHistory", spec := "fnExactGoodHistory", unfollowed := true, recurses := true, apart := false }
def FnExactGoodHistorySaid : Prop := fnExactGoodHistoryRow.holds Try.pinned (OpenSpec.ofChange fnExactGoodHistorySpec)

/-- ITS FALSE NEIGHBOUR: 'it returns false'. Refute it at one input. -/
def fnExactGoodHistoryWrong : ChangeSpec := { name := "fnExactGoodHistory", fn := fun _ => fun
  | [d] => { results := [.lit (.bool false)], args := [d] }
  | _ => none }
def FnExactGoodHistoryWrongFalsely : Prop := fnExactGoodHistoryRow.holds Try.pinned (OpenSpec.ofChange fnExactGoodHistoryWrong)

/-- 'laws.FnExactDoChange': WHATEVER THE INPUT: true; the input reads as it did. -/
def fnExactDoChangeSpec : ChangeSpec := { name := "fnExactDoChange", fn := fun _ => fun
  | [d1, d2] => { results := [.lit (.bool true)], args := [d1, d2] }
  | _ => none }
def fnExactDoChangeRow : OpenClaim := { program := "ytafeffffgblbnaa", sum := "427443ab5ccc01401bab5ed29f6f1f4b59390bb1666afe9749d8afe31924e2c5", func := "loop.example/g00253/laws.FnExactDoChange", spec := "fnExactDoChange", unfollowed := true, recurses := true, apart := false }
def FnExactDoChangeSaid : Prop := fnExactDoChangeRow.holds Try.pinned (OpenSpec.ofChange fnExactDoChangeSpec)

/-- ITS FALSE NEIGHBOUR: 'it returns false'. Refute it at one input. -/
def fnExactDoChangeWrong : ChangeSpec := { name := "fnExactDoChange", fn := fun _ => fun
  | [d1, d2] => { results := [.lit (.bool false)], args := [d1, d2] }
  | _ => none }
def FnExactDoChangeWrongFalsely : Prop := fnExactDoChangeRow.holds Try.pinned (OpenSpec.ofChange fnExactDoChangeWrong)

/-- 'laws.FnExactRedoChange': WHATEVER THE INPUT: true; the input reads as it did. -/
def fnExactRedoChangeSpec : ChangeSpec := { name := "fnExactRedoChange", fn := fun _ => fun
  | [d] => { results := [.lit (.bool true)], args := [d] }
  | _ => none }
def fnExactRedoChangeRow : OpenClaim := { program := "ytafeffffgblbnaa", sum := "427443ab5ccc01401bab5ed29f6f1f4b59390bb1666afe9749d8afe31924e2c5", func := "loop.example/g00253/laws.FnExactRedoChange", spec := "fnExactRedoChange", unfollowed := true, recurses := true, apart := false }
def FnExactRedoChangeSaid : Prop := fnExactRedoChangeRow.holds Try.pinned (OpenSpec.ofChange fnExactRedoChangeSpec)

/-- ITS FALSE NEIGHBOUR: 'it returns false'. Refute it at one input. -/
def fnExactRedoChangeWrong : ChangeSpec := { name := "fnExactRedoChange", fn := fun _ => fun
  | [d] => { results := [.lit (.bool false)], args := [d] }
  | _ => none }
def FnExactRedoChangeWrongFalsely : Prop := fnExactRedoChangeRow.holds Try.pinned (OpenSpec.ofChange fnExactRedoChangeWrong)

/-- 'laws.FnExactUndoChange': WHATEVER THE INPUT: true; the input reads as it did. -/
def fnExactUndoChangeSpec : ChangeSpec := { name := "fnExactUndoChange", fn := fun _ => fun
  | [d] => { results := [.lit (.bool true)], args := [d] }
  | _ => none }
def fnExactUndoChangeRow : OpenClaim := { program := "ytafeffffgblbnaa", sum := "427443ab5ccc01401bab5ed29f6f1f4b59390bb1666afe9749d8afe31924e2c5", func := "loop.example/g00253/laws.FnExactUndoChange", spec := "fnExactUndoChange", unfollowed := true, recurses := true, apart := false }
def FnExactUndoChangeSaid : Prop := fnExactUndoChangeRow.holds Try.pinned (OpenSpec.ofChange fnExactUndoChangeSpec)

/-- ITS FALSE NEIGHBOUR: 'it returns false'. Refute it at one input. -/
def fnExactUndoChangeWrong : ChangeSpec := { name := "fnExactUndoChange", fn := fun _ => fun
  | [d] => { results := [.lit (.bool false)], args := [d] }
  | _ => none }
def FnExactUndoChangeWrongFalsely : Prop := fnExactUndoChangeRow.holds Try.pinned (OpenSpec.ofChange fnExactUndoChangeWrong)

/-- 'laws.FnExactUndoAll': WHATEVER THE INPUT: true; the input reads as it did. -/
def fnExactUndoAllSpec : ChangeSpec := { name := "fnExactUndoAll", fn := fun _ => fun
  | [d] => { results := [.lit (.bool true)], args := [d] }
  | _ => none }
def fnExactUndoAllRow : OpenClaim := { program := "ytafeffffgblbnaa", sum := "427443ab5ccc01401bab5ed29f6f1f4b59390bb1666afe9749d8afe31924e2c5", func := "loop.example/g00253/laws.FnExactUndoAll", spec := "fnExactUndoAll", unfollowed := true, recurses := true, apart := false }
def FnExactUndoAllSaid : Prop := fnExactUndoAllRow.holds Try.pinned (OpenSpec.ofChange fnExactUndoAllSpec)

/-- ITS FALSE NEIGHBOUR: 'it returns false'. Refute it at one input. -/
def fnExactUndoAllWrong : ChangeSpec := { name := "fnExactUndoAll", fn := fun _ => fun
  | [d] => { results := [.lit (.bool false)], args := [d] }
  | _ => none }
def FnExactUndoAllWrongFalsely : Prop := fnExactUndoAllRow.holds Try.pinned (OpenSpec.ofChange fnExactUndoAllWrong)

/-- 'laws.FnExactOtherChange': WHATEVER THE INPUT: true; the input reads as it did. -/
def fnExactOtherChangeSpec : ChangeSpec := { name := "fnExactOtherChange", fn := fun _ => fun
  | [d1, d2] => { results := [.lit (.bool true)], args := [d1, d2] }
  | _ => none }
def fnExactOtherChangeRow : OpenClaim := { program := "ytafeffffgblbnaa", sum := "427443ab5ccc01401bab5ed29f6f1f4b59390bb1666afe9749d8afe31924e2c5", func := "loop.example/g00253/laws.FnExactOtherChange", spec := "fnExactOtherChange", unfollowed := true, recurses := true, apart := false }
def FnExactOtherChangeSaid : Prop := fnExactOtherChangeRow.holds Try.pinned (OpenSpec.ofChange fnExactOtherChangeSpec)

/-- ITS FALSE NEIGHBOUR: 'it returns false'. Refute it at one input. -/
def fnExactOtherChangeWrong : ChangeSpec := { name := "fnExactOtherChange", fn := fun _ => fun
  | [d1, d2] => { results := [.lit (.bool false)], args := [d1, d2] }
  | _ => none }
def FnExactOtherChangeWrongFalsely : Prop := fnExactOtherChangeRow.holds Try.pinned (OpenSpec.ofChange fnExactOtherChangeWrong)

/-- 'laws.FnUndone': WHATEVER THE INPUT: true; the input reads as it did. -/
def fnUndoneSpec : ChangeSpec := { name := "fnUndone", fn := fun _ => fun
  | [d1, d2] => { results := [.lit (.bool true)], args := [d1, d2] }
  | _ => none }
def fnUndoneRow : OpenClaim := { program := "ytafeffffgblbnaa", sum := "427443ab5ccc01401bab5ed29f6f1f4b59390bb1666afe9749d8afe31924e2c5", func := "loop.example/g00253/laws.FnUndone", spec := "fnUndone", unfollowed := true, recurses := true, apart := false }
def FnUndoneSaid : Prop := fnUndoneRow.holds Try.pinned (OpenSpec.ofChange fnUndoneSpec)

/-- ITS FALSE NEIGHBOUR: 'it returns false'. Refute it at one input. -/
def fnUndoneWrong : ChangeSpec := { name := "fnUndone", fn := fun _ => fun
  | [d1, d2] => { results := [.lit (.bool false)], args := [d1, d2] }
  | _ => none }
def FnUndoneWrongFalsely : Prop := fnUndoneRow.holds Try.pinned (OpenSpec.ofChange fnUndoneWrong)

/-- 'laws.FnAmong': WHATEVER THE INPUT: true; the input reads as it did. -/
def fnAmongSpec : ChangeSpec := { name := "fnAmong", fn := fun _ => fun
  | [d] => { results := [.lit (.bool true)], args := [d] }
  | _ => none }
def fnAmongRow : OpenClaim := { program := "ytafeffffgblbnaa", sum := "427443ab5ccc01401bab5ed29f6f1f4b59390bb1666afe9749d8afe31924e2c5", func := "loop.example/g00253/laws.FnAmong", spec := "fnAmong", unfollowed := true, recurses := true, apart := false }
def FnAmongSaid : Prop := fnAmongRow.holds Try.pinned (OpenSpec.ofChange fnAmongSpec)

/-- ITS FALSE NEIGHBOUR: 'it returns false'. Refute it at one input. -/
def fnAmongWrong : ChangeSpec := { name := "fnAmong", fn := fun _ => fun
  | [d] => { results := [.lit (.bool false)], args := [d] }
  | _ => none }
def FnAmongWrongFalsely : Prop := fnAmongRow.holds Try.pinned (OpenSpec.ofChange fnAmongWrong)

/- THE SECOND FORM. 'bulk': how many values and letters a reading holds, each counted each time it is reached (what is shared counts as often as it is met; a slice's spare places count too). A statement '..UptoSaid' is the law's where the arguments, and the package variables that the reading takes, are together of bulk at most 1048576: NARROWER than '..Said'. Prove '..Said' where nothing that the law and all that it calls make is longer than what came in: it says more and counts as full. Else prove '..UptoSaid'. A law counts once. -/
mutual
def uptoBulk {H : Type} : DataW H → Nat
  | .lit (.string bytes) => bytes.length + 1
  | .lit _ => 1
  | .nil => 1
  | .ptr d => uptoBulk d + 1
  | .slice elems spare => uptoBulkAll elems + uptoBulkAll spare + 1
  | .agg parts => uptoBulkAll parts + 1
  | .iface _ d => uptoBulk d + 1
  | .map entries => uptoBulkEntries entries + 1
  | .held _ => 1
def uptoBulkAll {H : Type} : List (DataW H) → Nat
  | [] => 0
  | d :: r => uptoBulk d + uptoBulkAll r
def uptoBulkEntries {H : Type} : List (Lit × DataW H) → Nat
  | [] => 0
  | x :: r => uptoBulkEntry x + uptoBulkEntries r
def uptoBulkEntry {H : Type} : Lit × DataW H → Nat
  | (.string bytes, d) => bytes.length + uptoBulk d + 1
  | (_, d) => uptoBulk d + 1
 end
def uptoSmall : (H : Type) → List (DataW H) → Bool := fun _ ds => decide (uptoBulkAll ds ≤ 1048576)
def OpenSpec.upto (s : _root_.Go.ChangeSpec) : _root_.Go.OpenSpec := { _root_.Go.OpenSpec.ofChange s with cond := some uptoSmall }

/-- 'laws.FnExactNewHistory', WHERE WHAT IT READS IS OF BULK AT MOST 1048576: true; the input reads as it did. -/
def fnExactNewHistoryUptoRow : OpenClaim := { program := "ytafeffffgblbnaa", sum := "427443ab5ccc01401bab5ed29f6f1f4b59390bb1666afe9749d8afe31924e2c5", func := "loop.example/g00253/laws.FnExactNewHistory", spec := "fnExactNewHistory", apart := false, narrowed := true }
def FnExactNewHistoryUptoSaid : Prop := fnExactNewHistoryUptoRow.holds Try.pinned (OpenSpec.upto fnExactNewHistorySpec)

/-- 'laws.FnExactGoodHistory', WHERE WHAT IT READS IS OF BULK AT MOST 1048576: true; the input reads as it did. -/
def fnExactGoodHistoryUptoRow : OpenClaim := { program := "ytafeffffgblbnaa", sum := "427443ab5ccc01401bab5ed29f6f1f4b59390bb1666afe9749d8afe31924e2c5", func := "loop.example/g00253/laws.FnExactGoodHistory", spec := "fnExactGoodHistory", unfollowed := true, recurses := true, apart := false, narrowed := true }
def FnExactGoodHistoryUptoSaid : Prop := fnExactGoodHistoryUptoRow.holds Try.pinned (OpenSpec.upto fnExactGoodHistorySpec)

/-- 'laws.FnExactDoChange', WHERE WHAT IT READS IS OF BULK AT MOST 1048576: true; the input reads as it did. -/
def fnExactDoChangeUptoRow : OpenClaim := { program := "ytafeffffgblbnaa", sum := "427443ab5ccc01401bab5ed29f6f1f4b59390bb1666afe9749d8afe31924e2c5", func := "loop.example/g00253/laws.FnExactDoChange", spec := "fnExactDoChange", unfollowed := true, recurses := true, apart := false, narrowed := true }
def FnExactDoChangeUptoSaid : Prop := fnExactDoChangeUptoRow.holds Try.pinned (OpenSpec.upto fnExactDoChangeSpec)

/-- 'laws.FnExactRedoChange', WHERE WHAT IT READS IS OF BULK AT MOST 1048576: true; the input reads as it did. -/
def fnExactRedoChangeUptoRow : OpenClaim := { program := "ytafeffffgblbnaa", sum := "427443ab5ccc01401bab5ed29f6f1f4b59390bb1666afe9749d8afe31924e2c5", func := "loop.example/g00253/laws.FnExactRedoChange", spec := "fnExactRedoChange", unfollowed := true, recurses := true, apart := false, narrowed := true }
def FnExactRedoChangeUptoSaid : Prop := fnExactRedoChangeUptoRow.holds Try.pinned (OpenSpec.upto fnExactRedoChangeSpec)

/-- 'laws.FnExactUndoChange', WHERE WHAT IT READS IS OF BULK AT MOST 1048576: true; the input reads as it did. -/
def fnExactUndoChangeUptoRow : OpenClaim := { program := "ytafeffffgblbnaa", sum := "427443ab5ccc01401bab5ed29f6f1f4b59390bb1666afe9749d8afe31924e2c5", func := "loop.example/g00253/laws.FnExactUndoChange", spec := "fnExactUndoChange", unfollowed := true, recurses := true, apart := false, narrowed := true }
def FnExactUndoChangeUptoSaid : Prop := fnExactUndoChangeUptoRow.holds Try.pinned (OpenSpec.upto fnExactUndoChangeSpec)

/-- 'laws.FnExactUndoAll', WHERE WHAT IT READS IS OF BULK AT MOST 1048576: true; the input reads as it did. -/
def fnExactUndoAllUptoRow : OpenClaim := { program := "ytafeffffgblbnaa", sum := "427443ab5ccc01401bab5ed29f6f1f4b59390bb1666afe9749d8afe31924e2c5", func := "loop.example/g00253/laws.FnExactUndoAll", spec := "fnExactUndoAll", unfollowed := true, recurses := true, apart := false, narrowed := true }
def FnExactUndoAllUptoSaid : Prop := fnExactUndoAllUptoRow.holds Try.pinned (OpenSpec.upto fnExactUndoAllSpec)

/-- 'laws.FnExactOtherChange', WHERE WHAT IT READS IS OF BULK AT MOST 1048576: true; the input reads as it did. -/
def fnExactOtherChangeUptoRow : OpenClaim := { program := "ytafeffffgblbnaa", sum := "427443ab5ccc01401bab5ed29f6f1f4b59390bb1666afe9749d8afe31924e2c5", func := "loop.example/g00253/laws.FnExactOtherChange", spec := "fnExactOtherChange", unfollowed := true, recurses := true, apart := false, narrowed := true }
def FnExactOtherChangeUptoSaid : Prop := fnExactOtherChangeUptoRow.holds Try.pinned (OpenSpec.upto fnExactOtherChangeSpec)

/-- 'laws.FnUndone', WHERE WHAT IT READS IS OF BULK AT MOST 1048576: true; the input reads as it did. -/
def fnUndoneUptoRow : OpenClaim := { program := "ytafeffffgblbnaa", sum := "427443ab5ccc01401bab5ed29f6f1f4b59390bb1666afe9749d8afe31924e2c5", func := "loop.example/g00253/laws.FnUndone", spec := "fnUndone", unfollowed := true, recurses := true, apart := false, narrowed := true }
def FnUndoneUptoSaid : Prop := fnUndoneUptoRow.holds Try.pinned (OpenSpec.upto fnUndoneSpec)

/-- 'laws.FnAmong', WHERE WHAT IT READS IS OF BULK AT MOST 1048576: true; the input reads as it did. -/
def fnAmongUptoRow : OpenClaim := { program := "ytafeffffgblbnaa", sum := "427443ab5ccc01401bab5ed29f6f1f4b59390bb1666afe9749d8afe31924e2c5", func := "loop.example/g00253/laws.FnAmong", spec := "fnAmong", unfollowed := true, recurses := true, apart := false, narrowed := true }
def FnAmongUptoSaid : Prop := fnAmongUptoRow.holds Try.pinned (OpenSpec.upto fnAmongSpec)

end Rows
end Go.Proofs.Ytafeffffgblbnaa
