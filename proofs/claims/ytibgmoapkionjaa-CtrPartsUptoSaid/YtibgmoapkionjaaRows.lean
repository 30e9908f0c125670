/-
  No cell of these rows narrows 'for every input' (looked for: loops, veiled, ifaces, maps, wideKeys, modest, calm, conditions, laid).
  DERIVED. THE GIVEN ROWS OF THIS SEAT. 10 by the template 'for every input the law returns true; each argument reads behind the call as it read before'; 0 by the template 'total and deterministic' (their statements: YtibgmoapkionjaaTotals.lean).
  GIVEN WITH THE SEED: the statements are not yours to turn. If you find one false, say at which input.
  Laid BY PROGRAM, IN A SANDBOX (cutbox-rows.mjs): the forced cells as the released guide's own fill.sh prints them over the translation 765d561bbc8cf51f… (all of the seat's roots in one cut). By AI agents, Wed Nov 11 2026. No macro, syntax, notation, axiom, sorry.
-/
import Derived.Test.YtibgmoapkionjaaChecked
import GoSem.Claim
import GoSem.ClaimJoined
import GoSem.ClaimMapViews
import Derived.JoinedTies
import Derived.KernelRfl
namespace Go.Proofs.Ytibgmoapkionjaa
/- THE CELL 'sum', in the pinned program and in every row, IS THE sha256 OF THE DUMP (.gsa) THAT YtibgmoapkionjaaProg.lean LOADS. Nothing in Lean hashes anything: it is a label: what it is worth is what the hold of that sum in a sandbox is worth. -/
noncomputable def Try.pinned : Pinned := { name := "ytibgmoapkionjaa", sum := "765d561bbc8cf51f035581029465ce0d38da7025ad6a2095a094885c0b0f16a0", checked := Try.checked }
namespace Rows
def none {H : Type} : Left H := { results := [], args := [] }

/-- 'tolllaw07.AesMatchesReference': WHATEVER THE INPUT: true; the input reads as it did. -/
def aesMatchesReferenceSpec : ChangeSpec := { name := "aesMatchesReference", fn := fun _ => fun
  | [d1, d2] => { results := [.lit (.bool true)], args := [d1, d2] }
  | _ => none }
def aesMatchesReferenceRow : OpenClaim := { program := "ytibgmoapkionjaa", sum := "765d561bbc8cf51f035581029465ce0d38da7025ad6a2095a094885c0b0f16a0", func := "toll/tolllaw07.AesMatchesReference", spec := "aesMatchesReference", unfollowed := true, recurses := true, apart := false }
def AesMatchesReferenceSaid : Prop := aesMatchesReferenceRow.holds Try.pinned (OpenSpec.ofChange aesMatchesReferenceSpec)

/-- ITS FALSE NEIGHBOUR: 'it returns false'. Refute it at one input. -/
def aesMatchesReferenceWrong : ChangeSpec := { name := "aesMatchesReference", fn := fun _ => fun
  | [d1, d2] => { results := [.lit (.bool false)], args := [d1, d2] }
  | _ => none }
def AesMatchesReferenceWrongFalsely : Prop := aesMatchesReferenceRow.holds Try.pinned (OpenSpec.ofChange aesMatchesReferenceWrong)

/-- 'tolllaw07.AesInverse': WHATEVER THE INPUT: true; the input reads as it did. -/
def aesInverseSpec : ChangeSpec := { name := "aesInverse", fn := fun _ => fun
  | [d1, d2] => { results := [.lit (.bool true)], args := [d1, d2] }
  | _ => none }
def aesInverseRow : OpenClaim := { program := "ytibgmoapkionjaa", sum := "765d561bbc8cf51f035581029465ce0d38da7025ad6a2095a094885c0b0f16a0", func := "toll/tolllaw07.AesInverse", spec := "aesInverse", unfollowed := true, recurses := true, apart := false }
def AesInverseSaid : Prop := aesInverseRow.holds Try.pinned (OpenSpec.ofChange aesInverseSpec)

/-- ITS FALSE NEIGHBOUR: 'it returns false'. Refute it at one input. -/
def aesInverseWrong : ChangeSpec := { name := "aesInverse", fn := fun _ => fun
  | [d1, d2] => { results := [.lit (.bool false)], args := [d1, d2] }
  | _ => none }
def AesInverseWrongFalsely : Prop := aesInverseRow.holds Try.pinned (OpenSpec.ofChange aesInverseWrong)

/-- 'tolllaw07.AesKeys': WHATEVER THE INPUT: true; the input reads as it did. -/
def aesKeysSpec : ChangeSpec := { name := "aesKeys", fn := fun _ => fun
  | [d1, d2] => { results := [.lit (.bool true)], args := [d1, d2] }
  | _ => none }
def aesKeysRow : OpenClaim := { program := "ytibgmoapkionjaa", sum := "765d561bbc8cf51f035581029465ce0d38da7025ad6a2095a094885c0b0f16a0", func := "toll/tolllaw07.AesKeys", spec := "aesKeys", unfollowed := true, recurses := true, apart := false }
def AesKeysSaid : Prop := aesKeysRow.holds Try.pinned (OpenSpec.ofChange aesKeysSpec)

/-- ITS FALSE NEIGHBOUR: 'it returns false'. Refute it at one input. -/
def aesKeysWrong : ChangeSpec := { name := "aesKeys", fn := fun _ => fun
  | [d1, d2] => { results := [.lit (.bool false)], args := [d1, d2] }
  | _ => none }
def AesKeysWrongFalsely : Prop := aesKeysRow.holds Try.pinned (OpenSpec.ofChange aesKeysWrong)

/-- 'tolllaw07.AesRounds': WHATEVER THE INPUT: true; the input reads as it did. -/
def aesRoundsSpec : ChangeSpec := { name := "aesRounds", fn := fun _ => fun
  | [d1, d2, d3, d4] => { results := [.lit (.bool true)], args := [d1, d2, d3, d4] }
  | _ => none }
def aesRoundsRow : OpenClaim := { program := "ytibgmoapkionjaa", sum := "765d561bbc8cf51f035581029465ce0d38da7025ad6a2095a094885c0b0f16a0", func := "toll/tolllaw07.AesRounds", spec := "aesRounds", unfollowed := true, recurses := true, apart := false }
def AesRoundsSaid : Prop := aesRoundsRow.holds Try.pinned (OpenSpec.ofChange aesRoundsSpec)

/-- ITS FALSE NEIGHBOUR: 'it returns false'. Refute it at one input. -/
def aesRoundsWrong : ChangeSpec := { name := "aesRounds", fn := fun _ => fun
  | [d1, d2, d3, d4] => { results := [.lit (.bool false)], args := [d1, d2, d3, d4] }
  | _ => none }
def AesRoundsWrongFalsely : Prop := aesRoundsRow.holds Try.pinned (OpenSpec.ofChange aesRoundsWrong)

/-- 'tolllaw07.AesApart': WHATEVER THE INPUT: true; the input reads as it did. -/
def aesApartSpec : ChangeSpec := { name := "aesApart", fn := fun _ => fun
  | [d1, d2, d3] => { results := [.lit (.bool true)], args := [d1, d2, d3] }
  | _ => none }
def aesApartRow : OpenClaim := { program := "ytibgmoapkionjaa", sum := "765d561bbc8cf51f035581029465ce0d38da7025ad6a2095a094885c0b0f16a0", func := "toll/tolllaw07.AesApart", spec := "aesApart", unfollowed := true, recurses := true, apart := false }
def AesApartSaid : Prop := aesApartRow.holds Try.pinned (OpenSpec.ofChange aesApartSpec)

/-- ITS FALSE NEIGHBOUR: 'it returns false'. Refute it at one input. -/
def aesApartWrong : ChangeSpec := { name := "aesApart", fn := fun _ => fun
  | [d1, d2, d3] => { results := [.lit (.bool false)], args := [d1, d2, d3] }
  | _ => none }
def AesApartWrongFalsely : Prop := aesApartRow.holds Try.pinned (OpenSpec.ofChange aesApartWrong)

/-- 'tolllaw08.CtrMatchesReference': WHATEVER THE INPUT: true; the input reads as it did. -/
def ctrMatchesReferenceSpec : ChangeSpec := { name := "ctrMatchesReference", fn := fun _ => fun
  | [d1, d2, d3, d4] => { results := [.lit (.bool true)], args := [d1, d2, d3, d4] }
  | _ => none }
def ctrMatchesReferenceRow : OpenClaim := { program := "ytibgmoapkionjaa", sum := "765d561bbc8cf51f035581029465ce0d38da7025ad6a2095a094885c0b0f16a0", func := "toll/tolllaw08.CtrMatchesReference", spec := "ctrMatchesReference", unfollowed := true, recurses := true, apart := false }
def CtrMatchesReferenceSaid : Prop := ctrMatchesReferenceRow.holds Try.pinned (OpenSpec.ofChange ctrMatchesReferenceSpec)

/-- ITS FALSE NEIGHBOUR: 'it returns false'. Refute it at one input. -/
def ctrMatchesReferenceWrong : ChangeSpec := { name := "ctrMatchesReference", fn := fun _ => fun
  | [d1, d2, d3, d4] => { results := [.lit (.bool false)], args := [d1, d2, d3, d4] }
  | _ => none }
def CtrMatchesReferenceWrongFalsely : Prop := ctrMatchesReferenceRow.holds Try.pinned (OpenSpec.ofChange ctrMatchesReferenceWrong)

/-- 'tolllaw08.CtrCrypts': WHATEVER THE INPUT: true; the input reads as it did. -/
def ctrCryptsSpec : ChangeSpec := { name := "ctrCrypts", fn := fun _ => fun
  | [d1, d2, d3] => { results := [.lit (.bool true)], args := [d1, d2, d3] }
  | _ => none }
def ctrCryptsRow : OpenClaim := { program := "ytibgmoapkionjaa", sum := "765d561bbc8cf51f035581029465ce0d38da7025ad6a2095a094885c0b0f16a0", func := "toll/tolllaw08.CtrCrypts", spec := "ctrCrypts", unfollowed := true, recurses := true, apart := false }
def CtrCryptsSaid : Prop := ctrCryptsRow.holds Try.pinned (OpenSpec.ofChange ctrCryptsSpec)

/-- ITS FALSE NEIGHBOUR: 'it returns false'. Refute it at one input. -/
def ctrCryptsWrong : ChangeSpec := { name := "ctrCrypts", fn := fun _ => fun
  | [d1, d2, d3] => { results := [.lit (.bool false)], args := [d1, d2, d3] }
  | _ => none }
def CtrCryptsWrongFalsely : Prop := ctrCryptsRow.holds Try.pinned (OpenSpec.ofChange ctrCryptsWrong)

/-- 'tolllaw08.CtrParts': WHATEVER THE INPUT: true; the input reads as it did. -/
def ctrPartsSpec : ChangeSpec := { name := "ctrParts", fn := fun _ => fun
  | [d1, d2, d3] => { results := [.lit (.bool true)], args := [d1, d2, d3] }
  | _ => none }
def ctrPartsRow : OpenClaim := { program := "ytibgmoapkionjaa", sum := "765d561bbc8cf51f035581029465ce0d38da7025ad6a2095a094885c0b0f16a0", func := "toll/tolllaw08.CtrParts", spec := "ctrParts", unfollowed := true, recurses := true, apart := false }
def CtrPartsSaid : Prop := ctrPartsRow.holds Try.pinned (OpenSpec.ofChange ctrPartsSpec)

/-- ITS FALSE NEIGHBOUR: 'it returns false'. Refute it at one input. -/
def ctrPartsWrong : ChangeSpec := { name := "ctrParts", fn := fun _ => fun
  | [d1, d2, d3] => { results := [.lit (.bool false)], args := [d1, d2, d3] }
  | _ => none }
def CtrPartsWrongFalsely : Prop := ctrPartsRow.holds Try.pinned (OpenSpec.ofChange ctrPartsWrong)

/-- 'tolllaw08.CtrBlocks': WHATEVER THE INPUT: true; the input reads as it did. -/
def ctrBlocksSpec : ChangeSpec := { name := "ctrBlocks", fn := fun _ => fun
  | [d1, d2, d3, d4] => { results := [.lit (.bool true)], args := [d1, d2, d3, d4] }
  | _ => none }
def ctrBlocksRow : OpenClaim := { program := "ytibgmoapkionjaa", sum := "765d561bbc8cf51f035581029465ce0d38da7025ad6a2095a094885c0b0f16a0", func := "toll/tolllaw08.CtrBlocks", spec := "ctrBlocks", unfollowed := true, recurses := true, apart := false }
def CtrBlocksSaid : Prop := ctrBlocksRow.holds Try.pinned (OpenSpec.ofChange ctrBlocksSpec)

/-- ITS FALSE NEIGHBOUR: 'it returns false'. Refute it at one input. -/
def ctrBlocksWrong : ChangeSpec := { name := "ctrBlocks", fn := fun _ => fun
  | [d1, d2, d3, d4] => { results := [.lit (.bool false)], args := [d1, d2, d3, d4] }
  | _ => none }
def CtrBlocksWrongFalsely : Prop := ctrBlocksRow.holds Try.pinned (OpenSpec.ofChange ctrBlocksWrong)

/-- 'tolllaw08.CtrJoins': WHATEVER THE INPUT: true; the input reads as it did. -/
def ctrJoinsSpec : ChangeSpec := { name := "ctrJoins", fn := fun _ => fun
  | [d1, d2, d3, d4, d5] => { results := [.lit (.bool true)], args := [d1, d2, d3, d4, d5] }
  | _ => none }
def ctrJoinsRow : OpenClaim := { program := "ytibgmoapkionjaa", sum := "765d561bbc8cf51f035581029465ce0d38da7025ad6a2095a094885c0b0f16a0", func := "toll/tolllaw08.CtrJoins", spec := "ctrJoins", unfollowed := true, recurses := true, apart := false }
def CtrJoinsSaid : Prop := ctrJoinsRow.holds Try.pinned (OpenSpec.ofChange ctrJoinsSpec)

/-- ITS FALSE NEIGHBOUR: 'it returns false'. Refute it at one input. -/
def ctrJoinsWrong : ChangeSpec := { name := "ctrJoins", fn := fun _ => fun
  | [d1, d2, d3, d4, d5] => { results := [.lit (.bool false)], args := [d1, d2, d3, d4, d5] }
  | _ => none }
def CtrJoinsWrongFalsely : Prop := ctrJoinsRow.holds Try.pinned (OpenSpec.ofChange ctrJoinsWrong)

/- THE SECOND FORM. 'bulk': how many values and letters a reading holds, each counted each time it is reached (what is shared counts as often as it is met; a slice's spare places count too). A statement '..UptoSaid' is the law's where the arguments, and the package variables that the reading takes, are together of bulk at most 1048576: NARROWER than '..Said'. Prove '..Said' where nothing that the law and all that it calls make is longer than what came in: it says more and counts as full. Else prove '..UptoSaid'. A law counts once. -/
mutual
def uptoBulk {H : Type} : DataW H → Nat
  | .lit (.string bytes) => bytes.length + 1
  | .lit _ => 1
  | .nil => 1
  | .ptr d => uptoBulk d + 1
  | .slice elems spare => uptoBulkAll elems + uptoBulkAll spare + 1
  | .agg parts => uptoBulkAll parts + 1
  | .iface _ d => uptoBulk d + 1
  | .map entries => uptoBulkEntries entries + 1
  | .held _ => 1
def uptoBulkAll {H : Type} : List (DataW H) → Nat
  | [] => 0
  | d :: r => uptoBulk d + uptoBulkAll r
def uptoBulkEntries {H : Type} : List (Lit × DataW H) → Nat
  | [] => 0
  | x :: r => uptoBulkEntry x + uptoBulkEntries r
def uptoBulkEntry {H : Type} : Lit × DataW H → Nat
  | (.string bytes, d) => bytes.length + uptoBulk d + 1
  | (_, d) => uptoBulk d + 1
 end
def uptoSmall : (H : Type) → List (DataW H) → Bool := fun _ ds => decide (uptoBulkAll ds ≤ 1048576)
def OpenSpec.upto (s : _root_.Go.ChangeSpec) : _root_.Go.OpenSpec := { _root_.Go.OpenSpec.ofChange s with cond := some uptoSmall }

/-- 'tolllaw07.AesMatchesReference', WHERE WHAT IT READS IS OF BULK AT MOST 1048576: true; the input reads as it did. -/
def aesMatchesReferenceUptoRow : OpenClaim := { program := "ytibgmoapkionjaa", sum := "765d561bbc8cf51f035581029465ce0d38da7025ad6a2095a094885c0b0f16a0", func := "toll/tolllaw07.AesMatchesReference", spec := "aesMatchesReference", unfollowed := true, recurses := true, apart := false, narrowed := true }
def AesMatchesReferenceUptoSaid : Prop := aesMatchesReferenceUptoRow.holds Try.pinned (OpenSpec.upto aesMatchesReferenceSpec)

/-- 'tolllaw07.AesInverse', WHERE WHAT IT READS IS OF BULK AT MOST 1048576: true; the input reads as it did. -/
def aesInverseUptoRow : OpenClaim := { program := "ytibgmoapkionjaa", sum := "765d561bbc8cf51f035581029465ce0d38da7025ad6a2095a094885c0b0f16a0", func := "toll/tolllaw07.AesInverse", spec := "aesInverse", unfollowed := true, recurses := true, apart := false, narrowed := true }
def AesInverseUptoSaid : Prop := aesInverseUptoRow.holds Try.pinned (OpenSpec.upto aesInverseSpec)

/-- 'tolllaw07.AesKeys', WHERE WHAT IT READS IS OF BULK AT MOST 1048576: true; the input reads as it did. -/
def aesKeysUptoRow : OpenClaim := { program := "ytibgmoapkionjaa", sum := "765d561bbc8cf51f035581029465ce0d38da7025ad6a2095a094885c0b0f16a0", func := "toll/tolllaw07.AesKeys", spec := "aesKeys", unfollowed := true, recurses := true, apart := false, narrowed := true }
def AesKeysUptoSaid : Prop := aesKeysUptoRow.holds Try.pinned (OpenSpec.upto aesKeysSpec)

/-- 'tolllaw07.AesRounds', WHERE WHAT IT READS IS OF BULK AT MOST 1048576: true; the input reads as it did. -/
def aesRoundsUptoRow : OpenClaim := { program := "ytibgmoapkionjaa", sum := "765d561bbc8cf51f035581029465ce0d38da7025ad6a2095a094885c0b0f16a0", func := "toll/tolllaw07.AesRounds", spec := "aesRounds", unfollowed := true, recurses := true, apart := false, narrowed := true }
def AesRoundsUptoSaid : Prop := aesRoundsUptoRow.holds Try.pinned (OpenSpec.upto aesRoundsSpec)

/-- 'tolllaw07.AesApart', WHERE WHAT IT READS IS OF BULK AT MOST 1048576: true; the input reads as it did. -/
def aesApartUptoRow : OpenClaim := { program := "ytibgmoapkionjaa", sum := "765d561bbc8cf51f035581029465ce0d38da7025ad6a2095a094885c0b0f16a0", func := "toll/tolllaw07.AesApart", spec := "aesApart", unfollowed := true, recurses := true, apart := false, narrowed := true }
def AesApartUptoSaid : Prop := aesApartUptoRow.holds Try.pinned (OpenSpec.upto aesApartSpec)

/-- 'tolllaw08.CtrMatchesReference', WHERE WHAT IT READS IS OF BULK AT MOST 1048576: true; the input reads as it did. -/
def ctrMatchesReferenceUptoRow : OpenClaim := { program := "ytibgmoapkionjaa", sum := "765d561bbc8cf51f035581029465ce0d38da7025ad6a2095a094885c0b0f16a0", func := "toll/tolllaw08.CtrMatchesReference", spec := "ctrMatchesReference", unfollowed := true, recurses := true, apart := false, narrowed := true }
def CtrMatchesReferenceUptoSaid : Prop := ctrMatchesReferenceUptoRow.holds Try.pinned (OpenSpec.upto ctrMatchesReferenceSpec)

/-- 'tolllaw08.CtrCrypts', WHERE WHAT IT READS IS OF BULK AT MOST 1048576: true; the input reads as it did. -/
def ctrCryptsUptoRow : OpenClaim := { program := "ytibgmoapkionjaa", sum := "765d561bbc8cf51f035581029465ce0d38da7025ad6a2095a094885c0b0f16a0", func := "toll/tolllaw08.CtrCrypts", spec := "ctrCrypts", unfollowed := true, recurses := true, apart := false, narrowed := true }
def CtrCryptsUptoSaid : Prop := ctrCryptsUptoRow.holds Try.pinned (OpenSpec.upto ctrCryptsSpec)

/-- 'tolllaw08.CtrParts', WHERE WHAT IT READS IS OF BULK AT MOST 1048576: true; the input reads as it did. -/
def ctrPartsUptoRow : OpenClaim := { program := "ytibgmoapkionjaa", sum := "765d561bbc8cf51f035581029465ce0d38da7025ad6a2095a094885c0b0f16a0", func := "toll/tolllaw08.CtrParts", spec := "ctrParts", unfollowed := true, recurses := true, apart := false, narrowed := true }
def CtrPartsUptoSaid : Prop := ctrPartsUptoRow.holds Try.pinned (OpenSpec.upto ctrPartsSpec)

/-- 'tolllaw08.CtrBlocks', WHERE WHAT IT READS IS OF BULK AT MOST 1048576: true; the input reads as it did. -/
def ctrBlocksUptoRow : OpenClaim := { program := "ytibgmoapkionjaa", sum := "765d561bbc8cf51f035581029465ce0d38da7025ad6a2095a094885c0b0f16a0", func := "toll/tolllaw08.CtrBlocks", spec := "ctrBlocks", unfollowed := true, recurses := true, apart := false, narrowed := true }
def CtrBlocksUptoSaid : Prop := ctrBlocksUptoRow.holds Try.pinned (OpenSpec.upto ctrBlocksSpec)

/-- 'tolllaw08.CtrJoins', WHERE WHAT IT READS IS OF BULK AT MOST 1048576: true; the input reads as it did. -/
def ctrJoinsUptoRow : OpenClaim := { program := "ytibgmoapkionjaa", sum := "765d561bbc8cf51f035581029465ce0d38da7025ad6a2095a094885c0b0f16a0", func := "toll/tolllaw08.CtrJoins", spec := "ctrJoins", unfollowed := true, recurses := true, apart := false, narrowed := true }
def CtrJoinsUptoSaid : Prop := ctrJoinsUptoRow.holds Try.pinned (OpenSpec.upto ctrJoinsSpec)

end Rows
end Go.Proofs.Ytibgmoapkionjaa
