/-
  No cell of these rows narrows 'for every input' (looked for: loops, veiled, ifaces, maps, wideKeys, modest, calm, conditions, laid).
  DERIVED. THE GIVEN ROWS OF THIS SEAT. 9 by the template 'for every input the law returns true; each argument reads behind the call as it read before'; 0 by the template 'total and deterministic' (their statements: YthfbcpbjnfdnkaaTotals.lean).
  GIVEN WITH THE SEED: the statements are not yours to turn. If you find one false, say at which input.
  Laid BY PROGRAM, IN A SANDBOX (cutbox-rows.mjs): the forced cells as the released guide's own fill.sh prints them over the translation 4b74eaa69603dee0… (all of the seat's roots in one cut). By AI agents, Wed Nov 11 2026. No macro, syntax, notation, axiom, sorry.
-/
import Derived.Test.YthfbcpbjnfdnkaaChecked
import GoSem.Claim
import GoSem.ClaimJoined
import GoSem.ClaimMapViews
import Derived.JoinedTies
import Derived.KernelRfl
namespace Go.Proofs.Ythfbcpbjnfdnkaa
/- THE CELL 'sum', in the pinned program and in every row, IS THE sha256 OF THE DUMP (.gsa) THAT YthfbcpbjnfdnkaaProg.lean LOADS. Nothing in Lean hashes anything: it is a label: what it is worth is what the hold of that sum in a sandbox is worth. -/
noncomputable def Try.pinned : Pinned := { name := "ythfbcpbjnfdnkaa", sum := "4b74eaa69603dee0d4dbd7ddaec8a3adaed8c1be3677761c1449cc451b4c12ba", checked := Try.checked }
namespace Rows
def none {H : Type} : Left H := { results := [], args := [] }

/-- 'tolllaw01.WirePuts': WHATEVER THE INPUT: true; the input reads as it did. -/
def wirePutsSpec : ChangeSpec := { name := "wirePuts", fn := fun _ => fun
  | [d1, d2, d3] => { results := [.lit (.bool true)], args := [d1, d2, d3] }
  | _ => none }
def wirePutsRow : OpenClaim := { program := "ythfbcpbjnfdnkaa", sum := "4b74eaa69603dee0d4dbd7ddaec8a3adaed8c1be3677761c1449cc451b4c12ba", func := "toll/tolllaw01.WirePuts", spec := "wirePuts", apart := false }
def WirePutsSaid : Prop := wirePutsRow.holds Try.pinned (OpenSpec.ofChange wirePutsSpec)

/-- ITS FALSE NEIGHBOUR: 'it returns false'. Refute it at one input. -/
def wirePutsWrong : ChangeSpec := { name := "wirePuts", fn := fun _ => fun
  | [d1, d2, d3] => { results := [.lit (.bool false)], args := [d1, d2, d3] }
  | _ => none }
def WirePutsWrongFalsely : Prop := wirePutsRow.holds Try.pinned (OpenSpec.ofChange wirePutsWrong)

/-- 'tolllaw01.WireLists': WHATEVER THE INPUT: true; the input reads as it did. -/
def wireListsSpec : ChangeSpec := { name := "wireLists", fn := fun _ => fun
  | [d] => { results := [.lit (.bool true)], args := [d] }
  | _ => none }
def wireListsRow : OpenClaim := { program := "ythfbcpbjnfdnkaa", sum := "4b74eaa69603dee0d4dbd7ddaec8a3adaed8c1be3677761c1449cc451b4c12ba", func := "toll/tolllaw01.WireLists", spec := "wireLists", apart := false }
def WireListsSaid : Prop := wireListsRow.holds Try.pinned (OpenSpec.ofChange wireListsSpec)

/-- ITS FALSE NEIGHBOUR: 'it returns false'. Refute it at one input. -/
def wireListsWrong : ChangeSpec := { name := "wireLists", fn := fun _ => fun
  | [d] => { results := [.lit (.bool false)], args := [d] }
  | _ => none }
def WireListsWrongFalsely : Prop := wireListsRow.holds Try.pinned (OpenSpec.ofChange wireListsWrong)

/-- 'tolllaw01.WireMatchesReference': WHATEVER THE INPUT: true; the input reads as it did. -/
def wireMatchesReferenceSpec : ChangeSpec := { name := "wireMatchesReference", fn := fun _ => fun
  | [d1, d2] => { results := [.lit (.bool true)], args := [d1, d2] }
  | _ => none }
def wireMatchesReferenceRow : OpenClaim := { program := "ythfbcpbjnfdnkaa", sum := "4b74eaa69603dee0d4dbd7ddaec8a3adaed8c1be3677761c1449cc451b4c12ba", func := "toll/tolllaw01.WireMatchesReference", spec := "wireMatchesReference", apart := false }
def WireMatchesReferenceSaid : Prop := wireMatchesReferenceRow.holds Try.pinned (OpenSpec.ofChange wireMatchesReferenceSpec)

/-- ITS FALSE NEIGHBOUR: 'it returns false'. Refute it at one input. -/
def wireMatchesReferenceWrong : ChangeSpec := { name := "wireMatchesReference", fn := fun _ => fun
  | [d1, d2] => { results := [.lit (.bool false)], args := [d1, d2] }
  | _ => none }
def WireMatchesReferenceWrongFalsely : Prop := wireMatchesReferenceRow.holds Try.pinned (OpenSpec.ofChange wireMatchesReferenceWrong)

/-- 'tolllaw01.WireFails': WHATEVER THE INPUT: true; the input reads as it did. -/
def wireFailsSpec : ChangeSpec := { name := "wireFails", fn := fun _ => fun
  | [d1, d2, d3] => { results := [.lit (.bool true)], args := [d1, d2, d3] }
  | _ => none }
def wireFailsRow : OpenClaim := { program := "ythfbcpbjnfdnkaa", sum := "4b74eaa69603dee0d4dbd7ddaec8a3adaed8c1be3677761c1449cc451b4c12ba", func := "toll/tolllaw01.WireFails", spec := "wireFails", apart := false }
def WireFailsSaid : Prop := wireFailsRow.holds Try.pinned (OpenSpec.ofChange wireFailsSpec)

/-- ITS FALSE NEIGHBOUR: 'it returns false'. Refute it at one input. -/
def wireFailsWrong : ChangeSpec := { name := "wireFails", fn := fun _ => fun
  | [d1, d2, d3] => { results := [.lit (.bool false)], args := [d1, d2, d3] }
  | _ => none }
def WireFailsWrongFalsely : Prop := wireFailsRow.holds Try.pinned (OpenSpec.ofChange wireFailsWrong)

/-- 'tolllaw01.WireParts': WHATEVER THE INPUT: true; the input reads as it did. -/
def wirePartsSpec : ChangeSpec := { name := "wireParts", fn := fun _ => fun
  | [d1, d2, d3] => { results := [.lit (.bool true)], args := [d1, d2, d3] }
  | _ => none }
def wirePartsRow : OpenClaim := { program := "ythfbcpbjnfdnkaa", sum := "4b74eaa69603dee0d4dbd7ddaec8a3adaed8c1be3677761c1449cc451b4c12ba", func := "toll/tolllaw01.WireParts", spec := "wireParts", apart := false }
def WirePartsSaid : Prop := wirePartsRow.holds Try.pinned (OpenSpec.ofChange wirePartsSpec)

/-- ITS FALSE NEIGHBOUR: 'it returns false'. Refute it at one input. -/
def wirePartsWrong : ChangeSpec := { name := "wireParts", fn := fun _ => fun
  | [d1, d2, d3] => { results := [.lit (.bool false)], args := [d1, d2, d3] }
  | _ => none }
def WirePartsWrongFalsely : Prop := wirePartsRow.holds Try.pinned (OpenSpec.ofChange wirePartsWrong)

/-- 'tolllaw11.NameParses': WHATEVER THE INPUT: true; the input reads as it did. -/
def nameParsesSpec : ChangeSpec := { name := "nameParses", fn := fun _ => fun
  | [d] => { results := [.lit (.bool true)], args := [d] }
  | _ => none }
def nameParsesRow : OpenClaim := { program := "ythfbcpbjnfdnkaa", sum := "4b74eaa69603dee0d4dbd7ddaec8a3adaed8c1be3677761c1449cc451b4c12ba", func := "toll/tolllaw11.NameParses", spec := "nameParses", inPlace := ["internal/abi.NoEscape"], unfollowed := true, recurses := true, apart := false }
def NameParsesSaid : Prop := nameParsesRow.holds Try.pinned (OpenSpec.ofChange nameParsesSpec)

/-- ITS FALSE NEIGHBOUR: 'it returns false'. Refute it at one input. -/
def nameParsesWrong : ChangeSpec := { name := "nameParses", fn := fun _ => fun
  | [d] => { results := [.lit (.bool false)], args := [d] }
  | _ => none }
def NameParsesWrongFalsely : Prop := nameParsesRow.holds Try.pinned (OpenSpec.ofChange nameParsesWrong)

/-- 'tolllaw11.NameApart': WHATEVER THE INPUT: true; the input reads as it did. -/
def nameApartSpec : ChangeSpec := { name := "nameApart", fn := fun _ => fun
  | [d1, d2] => { results := [.lit (.bool true)], args := [d1, d2] }
  | _ => none }
def nameApartRow : OpenClaim := { program := "ythfbcpbjnfdnkaa", sum := "4b74eaa69603dee0d4dbd7ddaec8a3adaed8c1be3677761c1449cc451b4c12ba", func := "toll/tolllaw11.NameApart", spec := "nameApart", inPlace := ["internal/abi.NoEscape"], unfollowed := true, recurses := true, apart := false }
def NameApartSaid : Prop := nameApartRow.holds Try.pinned (OpenSpec.ofChange nameApartSpec)

/-- ITS FALSE NEIGHBOUR: 'it returns false'. Refute it at one input. -/
def nameApartWrong : ChangeSpec := { name := "nameApart", fn := fun _ => fun
  | [d1, d2] => { results := [.lit (.bool false)], args := [d1, d2] }
  | _ => none }
def NameApartWrongFalsely : Prop := nameApartRow.holds Try.pinned (OpenSpec.ofChange nameApartWrong)

/-- 'tolllaw11.NameMatchesReference': WHATEVER THE INPUT: true; the input reads as it did. -/
def nameMatchesReferenceSpec : ChangeSpec := { name := "nameMatchesReference", fn := fun _ => fun
  | [d] => { results := [.lit (.bool true)], args := [d] }
  | _ => none }
def nameMatchesReferenceRow : OpenClaim := { program := "ythfbcpbjnfdnkaa", sum := "4b74eaa69603dee0d4dbd7ddaec8a3adaed8c1be3677761c1449cc451b4c12ba", func := "toll/tolllaw11.NameMatchesReference", spec := "nameMatchesReference", inPlace := ["internal/abi.NoEscape"], unfollowed := true, recurses := true, apart := false }
def NameMatchesReferenceSaid : Prop := nameMatchesReferenceRow.holds Try.pinned (OpenSpec.ofChange nameMatchesReferenceSpec)

/-- ITS FALSE NEIGHBOUR: 'it returns false'. Refute it at one input. -/
def nameMatchesReferenceWrong : ChangeSpec := { name := "nameMatchesReference", fn := fun _ => fun
  | [d] => { results := [.lit (.bool false)], args := [d] }
  | _ => none }
def NameMatchesReferenceWrongFalsely : Prop := nameMatchesReferenceRow.holds Try.pinned (OpenSpec.ofChange nameMatchesReferenceWrong)

/-- 'tolllaw11.NameReads': WHATEVER THE INPUT: true; the input reads as it did. -/
def nameReadsSpec : ChangeSpec := { name := "nameReads", fn := fun _ => fun
  | [d] => { results := [.lit (.bool true)], args := [d] }
  | _ => none }
def nameReadsRow : OpenClaim := { program := "ythfbcpbjnfdnkaa", sum := "4b74eaa69603dee0d4dbd7ddaec8a3adaed8c1be3677761c1449cc451b4c12ba", func := "toll/tolllaw11.NameReads", spec := "nameReads", inPlace := ["internal/abi.NoEscape"], unfollowed := true, recurses := true, apart := false }
def NameReadsSaid : Prop := nameReadsRow.holds Try.pinned (OpenSpec.ofChange nameReadsSpec)

/-- ITS FALSE NEIGHBOUR: 'it returns false'. Refute it at one input. -/
def nameReadsWrong : ChangeSpec := { name := "nameReads", fn := fun _ => fun
  | [d] => { results := [.lit (.bool false)], args := [d] }
  | _ => none }
def NameReadsWrongFalsely : Prop := nameReadsRow.holds Try.pinned (OpenSpec.ofChange nameReadsWrong)

/- THE SECOND FORM. 'bulk': how many values and letters a reading holds, each counted each time it is reached (what is shared counts as often as it is met; a slice's spare places count too). A statement '..UptoSaid' is the law's where the arguments, and the package variables that the reading takes, are together of bulk at most 1048576: NARROWER than '..Said'. Prove '..Said' where nothing that the law and all that it calls make is longer than what came in: it says more and counts as full. Else prove '..UptoSaid'. A law counts once. -/
mutual
def uptoBulk {H : Type} : DataW H → Nat
  | .lit (.string bytes) => bytes.length + 1
  | .lit _ => 1
  | .nil => 1
  | .ptr d => uptoBulk d + 1
  | .slice elems spare => uptoBulkAll elems + uptoBulkAll spare + 1
  | .agg parts => uptoBulkAll parts + 1
  | .iface _ d => uptoBulk d + 1
  | .map entries => uptoBulkEntries entries + 1
  | .held _ => 1
def uptoBulkAll {H : Type} : List (DataW H) → Nat
  | [] => 0
  | d :: r => uptoBulk d + uptoBulkAll r
def uptoBulkEntries {H : Type} : List (Lit × DataW H) → Nat
  | [] => 0
  | x :: r => uptoBulkEntry x + uptoBulkEntries r
def uptoBulkEntry {H : Type} : Lit × DataW H → Nat
  | (.string bytes, d) => bytes.length + uptoBulk d + 1
  | (_, d) => uptoBulk d + 1
 end
def uptoSmall : (H : Type) → List (DataW H) → Bool := fun _ ds => decide (uptoBulkAll ds ≤ 1048576)
def OpenSpec.upto (s : _root_.Go.ChangeSpec) : _root_.Go.OpenSpec := { _root_.Go.OpenSpec.ofChange s with cond := some uptoSmall }

/-- 'tolllaw01.WirePuts', WHERE WHAT IT READS IS OF BULK AT MOST 1048576: true; the input reads as it did. -/
def wirePutsUptoRow : OpenClaim := { program := "ythfbcpbjnfdnkaa", sum := "4b74eaa69603dee0d4dbd7ddaec8a3adaed8c1be3677761c1449cc451b4c12ba", func := "toll/tolllaw01.WirePuts", spec := "wirePuts", apart := false, narrowed := true }
def WirePutsUptoSaid : Prop := wirePutsUptoRow.holds Try.pinned (OpenSpec.upto wirePutsSpec)

/-- 'tolllaw01.WireLists', WHERE WHAT IT READS IS OF BULK AT MOST 1048576: true; the input reads as it did. -/
def wireListsUptoRow : OpenClaim := { program := "ythfbcpbjnfdnkaa", sum := "4b74eaa69603dee0d4dbd7ddaec8a3adaed8c1be3677761c1449cc451b4c12ba", func := "toll/tolllaw01.WireLists", spec := "wireLists", apart := false, narrowed := true }
def WireListsUptoSaid : Prop := wireListsUptoRow.holds Try.pinned (OpenSpec.upto wireListsSpec)

/-- 'tolllaw01.WireMatchesReference', WHERE WHAT IT READS IS OF BULK AT MOST 1048576: true; the input reads as it did. -/
def wireMatchesReferenceUptoRow : OpenClaim := { program := "ythfbcpbjnfdnkaa", sum := "4b74eaa69603dee0d4dbd7ddaec8a3adaed8c1be3677761c1449cc451b4c12ba", func := "toll/tolllaw01.WireMatchesReference", spec := "wireMatchesReference", apart := false, narrowed := true }
def WireMatchesReferenceUptoSaid : Prop := wireMatchesReferenceUptoRow.holds Try.pinned (OpenSpec.upto wireMatchesReferenceSpec)

/-- 'tolllaw01.WireFails', WHERE WHAT IT READS IS OF BULK AT MOST 1048576: true; the input reads as it did. -/
def wireFailsUptoRow : OpenClaim := { program := "ythfbcpbjnfdnkaa", sum := "4b74eaa69603dee0d4dbd7ddaec8a3adaed8c1be3677761c1449cc451b4c12ba", func := "toll/tolllaw01.WireFails", spec := "wireFails", apart := false, narrowed := true }
def WireFailsUptoSaid : Prop := wireFailsUptoRow.holds Try.pinned (OpenSpec.upto wireFailsSpec)

/-- 'tolllaw01.WireParts', WHERE WHAT IT READS IS OF BULK AT MOST 1048576: true; the input reads as it did. -/
def wirePartsUptoRow : OpenClaim := { program := "ythfbcpbjnfdnkaa", sum := "4b74eaa69603dee0d4dbd7ddaec8a3adaed8c1be3677761c1449cc451b4c12ba", func := "toll/tolllaw01.WireParts", spec := "wireParts", apart := false, narrowed := true }
def WirePartsUptoSaid : Prop := wirePartsUptoRow.holds Try.pinned (OpenSpec.upto wirePartsSpec)

/-- 'tolllaw11.NameParses', WHERE WHAT IT READS IS OF BULK AT MOST 1048576: true; the input reads as it did. -/
def nameParsesUptoRow : OpenClaim := { program := "ythfbcpbjnfdnkaa", sum := "4b74eaa69603dee0d4dbd7ddaec8a3adaed8c1be3677761c1449cc451b4c12ba", func := "toll/tolllaw11.NameParses", spec := "nameParses", inPlace := ["internal/abi.NoEscape"], unfollowed := true, recurses := true, apart := false, narrowed := true }
def NameParsesUptoSaid : Prop := nameParsesUptoRow.holds Try.pinned (OpenSpec.upto nameParsesSpec)

/-- 'tolllaw11.NameApart', WHERE WHAT IT READS IS OF BULK AT MOST 1048576: true; the input reads as it did. -/
def nameApartUptoRow : OpenClaim := { program := "ythfbcpbjnfdnkaa", sum := "4b74eaa69603dee0d4dbd7ddaec8a3adaed8c1be3677761c1449cc451b4c12ba", func := "toll/tolllaw11.NameApart", spec := "nameApart", inPlace := ["internal/abi.NoEscape"], unfollowed := true, recurses := true, apart := false, narrowed := true }
def NameApartUptoSaid : Prop := nameApartUptoRow.holds Try.pinned (OpenSpec.upto nameApartSpec)

/-- 'tolllaw11.NameMatchesReference', WHERE WHAT IT READS IS OF BULK AT MOST 1048576: true; the input reads as it did. -/
def nameMatchesReferenceUptoRow : OpenClaim := { program := "ythfbcpbjnfdnkaa", sum := "4b74eaa69603dee0d4dbd7ddaec8a3adaed8c1be3677761c1449cc451b4c12ba", func := "toll/tolllaw11.NameMatchesReference", spec := "nameMatchesReference", inPlace := ["internal/abi.NoEscape"], unfollowed := true, recurses := true, apart := false, narrowed := true }
def NameMatchesReferenceUptoSaid : Prop := nameMatchesReferenceUptoRow.holds Try.pinned (OpenSpec.upto nameMatchesReferenceSpec)

/-- 'tolllaw11.NameReads', WHERE WHAT IT READS IS OF BULK AT MOST 1048576: true; the input reads as it did. -/
def nameReadsUptoRow : OpenClaim := { program := "ythfbcpbjnfdnkaa", sum := "4b74eaa69603dee0d4dbd7ddaec8a3adaed8c1be3677761c1449cc451b4c12ba", func := "toll/tolllaw11.NameReads", spec := "nameReads", inPlace := ["internal/abi.NoEscape"], unfollowed := true, recurses := true, apart := false, narrowed := true }
def NameReadsUptoSaid : Prop := nameReadsUptoRow.holds Try.pinned (OpenSpec.upto nameReadsSpec)

end Rows
end Go.Proofs.Ythfbcpbjnfdnkaa
