/-
  NARROWER THAN 'FOR EVERY INPUT', by the rows' own cells (each row's printed sentence says how): ShaMatchesReference: laid · ShaBlocks: laid · ShaConstants: laid · ShaPaddings: laid · ShaLimits: laid · MacMatchesReference: laid · MacChecks: laid · MacEqual: laid · MacKeys: laid · MacDerives: laid.
  DERIVED. THE GIVEN ROWS OF THIS SEAT. 10 by the template 'for every input the law returns true; each argument reads behind the call as it read before'; 0 by the template 'total and deterministic' (their statements: YtgalddnblciciaaDoorTotals.lean).
  GIVEN WITH THE SEED: the statements are not yours to turn. If you find one false, say at which input.
  Laid BY PROGRAM, IN A SANDBOX (cutbox-rows.mjs): the forced cells as the released guide's own fill.sh prints them over the translation adab52cc060bda6b… (all of the seat's roots in one cut). By AI agents, Wed Nov 11 2026. No macro, syntax, notation, axiom, sorry.
-/
import Derived.Test.YtgalddnblciciaaDoorChecked
import GoSem.Claim
import GoSem.ClaimJoined
import GoSem.ClaimMapViews
import Derived.JoinedTies
import Derived.KernelRfl
namespace Go.Proofs.YtgalddnblciciaaDoor
/- THE CELL 'sum', in the pinned program and in every row, IS THE sha256 OF THE DUMP (.gsa) THAT YtgalddnblciciaaDoorProg.lean LOADS. Nothing in Lean hashes anything: it is a label: what it is worth is what the hold of that sum in a sandbox is worth. -/
noncomputable def Tryd.pinned : Pinned := { name := "ytgalddnblciciaadoor", sum := "adab52cc060bda6b6634abd2a3a472c0b2442fb937b850a61523602cbb8991d0", checked := Tryd.checked }
namespace Rows
def none {H : Type} : Left H := { results := [], args := [] }

/- WHAT THE LISTED PACKAGE-LEVEL VARIABLES READ AS WHEN THE CALL BEGINS. Each datum BY PROGRAM (the guide's laid-datum.mjs) off the statement by which the dump's own 'gosem.cut.vars' lays the variable. In a bare row this is a premise. The card (YtgalddnblciciaaDoorCards.lean) ties it to the program's text. -/
def laid_toll_sha_constants {H : Type} : DataW H := .agg [.lit (.int .u32 1116352408), .lit (.int .u32 1899447441), .lit (.int .u32 3049323471), .lit (.int .u32 3921009573), .lit (.int .u32 961987163), .lit (.int .u32 1508970993), .lit (.int .u32 2453635748), .lit (.int .u32 2870763221), .lit (.int .u32 3624381080), .lit (.int .u32 310598401), .lit (.int .u32 607225278), .lit (.int .u32 1426881987), .lit (.int .u32 1925078388), .lit (.int .u32 2162078206), .lit (.int .u32 2614888103), .lit (.int .u32 3248222580), .lit (.int .u32 3835390401), .lit (.int .u32 4022224774), .lit (.int .u32 264347078), .lit (.int .u32 604807628), .lit (.int .u32 770255983), .lit (.int .u32 1249150122), .lit (.int .u32 1555081692), .lit (.int .u32 1996064986), .lit (.int .u32 2554220882), .lit (.int .u32 2821834349), .lit (.int .u32 2952996808), .lit (.int .u32 3210313671), .lit (.int .u32 3336571891), .lit (.int .u32 3584528711), .lit (.int .u32 113926993), .lit (.int .u32 338241895), .lit (.int .u32 666307205), .lit (.int .u32 773529912), .lit (.int .u32 1294757372), .lit (.int .u32 1396182291), .lit (.int .u32 1695183700), .lit (.int .u32 1986661051), .lit (.int .u32 2177026350), .lit (.int .u32 2456956037), .lit (.int .u32 2730485921), .lit (.int .u32 2820302411), .lit (.int .u32 3259730800), .lit (.int .u32 3345764771), .lit (.int .u32 3516065817), .lit (.int .u32 3600352804), .lit (.int .u32 4094571909), .lit (.int .u32 275423344), .lit (.int .u32 430227734), .lit (.int .u32 506948616), .lit (.int .u32 659060556), .lit (.int .u32 883997877), .lit (.int .u32 958139571), .lit (.int .u32 1322822218), .lit (.int .u32 1537002063), .lit (.int .u32 1747873779), .lit (.int .u32 1955562222), .lit (.int .u32 2024104815), .lit (.int .u32 2227730452), .lit (.int .u32 2361852424), .lit (.int .u32 2428436474), .lit (.int .u32 2756734187), .lit (.int .u32 3204031479), .lit (.int .u32 3329325298)]

/-- 'tolllaw04.ShaMatchesReference': WHATEVER THE INPUT: true; the input reads as it did. -/
def shaMatchesReferenceSpec : ChangeSpec := { name := "shaMatchesReference", fn := fun _ => fun
  | [d] => { results := [.lit (.bool true)], args := [d] }
  | _ => none }
def shaMatchesReferenceRow : OpenClaim := { program := "ytgalddnblciciaadoor", sum := "adab52cc060bda6b6634abd2a3a472c0b2442fb937b850a61523602cbb8991d0", func := "toll/tolllaw04.ShaMatchesReference", spec := "shaMatchesReference", unfollowed := true, recurses := true, named := ["toll/sha.constants"], apart := false, laid := [("toll/sha.constants", laid_toll_sha_constants)] }
def ShaMatchesReferenceSaid : Prop := shaMatchesReferenceRow.holds Tryd.pinned (OpenSpec.ofChange shaMatchesReferenceSpec)

/-- ITS FALSE NEIGHBOUR: 'it returns false'. Refute it at one input. -/
def shaMatchesReferenceWrong : ChangeSpec := { name := "shaMatchesReference", fn := fun _ => fun
  | [d] => { results := [.lit (.bool false)], args := [d] }
  | _ => none }
def ShaMatchesReferenceWrongFalsely : Prop := shaMatchesReferenceRow.holds Tryd.pinned (OpenSpec.ofChange shaMatchesReferenceWrong)

/-- 'tolllaw04.ShaBlocks': WHATEVER THE INPUT: true; the input reads as it did. -/
def shaBlocksSpec : ChangeSpec := { name := "shaBlocks", fn := fun _ => fun
  | [d1, d2] => { results := [.lit (.bool true)], args := [d1, d2] }
  | _ => none }
def shaBlocksRow : OpenClaim := { program := "ytgalddnblciciaadoor", sum := "adab52cc060bda6b6634abd2a3a472c0b2442fb937b850a61523602cbb8991d0", func := "toll/tolllaw04.ShaBlocks", spec := "shaBlocks", unfollowed := true, recurses := true, named := ["toll/sha.constants"], apart := false, laid := [("toll/sha.constants", laid_toll_sha_constants)] }
def ShaBlocksSaid : Prop := shaBlocksRow.holds Tryd.pinned (OpenSpec.ofChange shaBlocksSpec)

/-- ITS FALSE NEIGHBOUR: 'it returns false'. Refute it at one input. -/
def shaBlocksWrong : ChangeSpec := { name := "shaBlocks", fn := fun _ => fun
  | [d1, d2] => { results := [.lit (.bool false)], args := [d1, d2] }
  | _ => none }
def ShaBlocksWrongFalsely : Prop := shaBlocksRow.holds Tryd.pinned (OpenSpec.ofChange shaBlocksWrong)

/-- 'tolllaw04.ShaConstants': WHATEVER THE INPUT: true; the input reads as it did. -/
def shaConstantsSpec : ChangeSpec := { name := "shaConstants", fn := fun _ => fun
  | [d] => { results := [.lit (.bool true)], args := [d] }
  | _ => none }
def shaConstantsRow : OpenClaim := { program := "ytgalddnblciciaadoor", sum := "adab52cc060bda6b6634abd2a3a472c0b2442fb937b850a61523602cbb8991d0", func := "toll/tolllaw04.ShaConstants", spec := "shaConstants", unfollowed := true, recurses := true, named := ["toll/sha.constants"], apart := false, laid := [("toll/sha.constants", laid_toll_sha_constants)] }
def ShaConstantsSaid : Prop := shaConstantsRow.holds Tryd.pinned (OpenSpec.ofChange shaConstantsSpec)

/-- ITS FALSE NEIGHBOUR: 'it returns false'. Refute it at one input. -/
def shaConstantsWrong : ChangeSpec := { name := "shaConstants", fn := fun _ => fun
  | [d] => { results := [.lit (.bool false)], args := [d] }
  | _ => none }
def ShaConstantsWrongFalsely : Prop := shaConstantsRow.holds Tryd.pinned (OpenSpec.ofChange shaConstantsWrong)

/-- 'tolllaw04.ShaPaddings': WHATEVER THE INPUT: true; the input reads as it did. -/
def shaPaddingsSpec : ChangeSpec := { name := "shaPaddings", fn := fun _ => fun
  | [d] => { results := [.lit (.bool true)], args := [d] }
  | _ => none }
def shaPaddingsRow : OpenClaim := { program := "ytgalddnblciciaadoor", sum := "adab52cc060bda6b6634abd2a3a472c0b2442fb937b850a61523602cbb8991d0", func := "toll/tolllaw04.ShaPaddings", spec := "shaPaddings", unfollowed := true, recurses := true, named := ["toll/sha.constants"], apart := false, laid := [("toll/sha.constants", laid_toll_sha_constants)] }
def ShaPaddingsSaid : Prop := shaPaddingsRow.holds Tryd.pinned (OpenSpec.ofChange shaPaddingsSpec)

/-- ITS FALSE NEIGHBOUR: 'it returns false'. Refute it at one input. -/
def shaPaddingsWrong : ChangeSpec := { name := "shaPaddings", fn := fun _ => fun
  | [d] => { results := [.lit (.bool false)], args := [d] }
  | _ => none }
def ShaPaddingsWrongFalsely : Prop := shaPaddingsRow.holds Tryd.pinned (OpenSpec.ofChange shaPaddingsWrong)

/-- 'tolllaw04.ShaLimits': WHATEVER THE INPUT: true; the input reads as it did. -/
def shaLimitsSpec : ChangeSpec := { name := "shaLimits", fn := fun _ => fun
  | [d1, d2] => { results := [.lit (.bool true)], args := [d1, d2] }
  | _ => none }
def shaLimitsRow : OpenClaim := { program := "ytgalddnblciciaadoor", sum := "adab52cc060bda6b6634abd2a3a472c0b2442fb937b850a61523602cbb8991d0", func := "toll/tolllaw04.ShaLimits", spec := "shaLimits", unfollowed := true, recurses := true, named := ["toll/sha.constants"], apart := false, laid := [("toll/sha.constants", laid_toll_sha_constants)] }
def ShaLimitsSaid : Prop := shaLimitsRow.holds Tryd.pinned (OpenSpec.ofChange shaLimitsSpec)

/-- ITS FALSE NEIGHBOUR: 'it returns false'. Refute it at one input. -/
def shaLimitsWrong : ChangeSpec := { name := "shaLimits", fn := fun _ => fun
  | [d1, d2] => { results := [.lit (.bool false)], args := [d1, d2] }
  | _ => none }
def ShaLimitsWrongFalsely : Prop := shaLimitsRow.holds Tryd.pinned (OpenSpec.ofChange shaLimitsWrong)

/-- 'tolllaw05.MacMatchesReference': WHATEVER THE INPUT: true; the input reads as it did. -/
def macMatchesReferenceSpec : ChangeSpec := { name := "macMatchesReference", fn := fun _ => fun
  | [d1, d2] => { results := [.lit (.bool true)], args := [d1, d2] }
  | _ => none }
def macMatchesReferenceRow : OpenClaim := { program := "ytgalddnblciciaadoor", sum := "adab52cc060bda6b6634abd2a3a472c0b2442fb937b850a61523602cbb8991d0", func := "toll/tolllaw05.MacMatchesReference", spec := "macMatchesReference", unfollowed := true, recurses := true, named := ["toll/sha.constants"], apart := false, laid := [("toll/sha.constants", laid_toll_sha_constants)] }
def MacMatchesReferenceSaid : Prop := macMatchesReferenceRow.holds Tryd.pinned (OpenSpec.ofChange macMatchesReferenceSpec)

/-- ITS FALSE NEIGHBOUR: 'it returns false'. Refute it at one input. -/
def macMatchesReferenceWrong : ChangeSpec := { name := "macMatchesReference", fn := fun _ => fun
  | [d1, d2] => { results := [.lit (.bool false)], args := [d1, d2] }
  | _ => none }
def MacMatchesReferenceWrongFalsely : Prop := macMatchesReferenceRow.holds Tryd.pinned (OpenSpec.ofChange macMatchesReferenceWrong)

/-- 'tolllaw05.MacChecks': WHATEVER THE INPUT: true; the input reads as it did. -/
def macChecksSpec : ChangeSpec := { name := "macChecks", fn := fun _ => fun
  | [d1, d2, d3, d4, d5] => { results := [.lit (.bool true)], args := [d1, d2, d3, d4, d5] }
  | _ => none }
def macChecksRow : OpenClaim := { program := "ytgalddnblciciaadoor", sum := "adab52cc060bda6b6634abd2a3a472c0b2442fb937b850a61523602cbb8991d0", func := "toll/tolllaw05.MacChecks", spec := "macChecks", unfollowed := true, recurses := true, named := ["toll/sha.constants"], apart := false, laid := [("toll/sha.constants", laid_toll_sha_constants)] }
def MacChecksSaid : Prop := macChecksRow.holds Tryd.pinned (OpenSpec.ofChange macChecksSpec)

/-- ITS FALSE NEIGHBOUR: 'it returns false'. Refute it at one input. -/
def macChecksWrong : ChangeSpec := { name := "macChecks", fn := fun _ => fun
  | [d1, d2, d3, d4, d5] => { results := [.lit (.bool false)], args := [d1, d2, d3, d4, d5] }
  | _ => none }
def MacChecksWrongFalsely : Prop := macChecksRow.holds Tryd.pinned (OpenSpec.ofChange macChecksWrong)

/-- 'tolllaw05.MacEqual': WHATEVER THE INPUT: true; the input reads as it did. -/
def macEqualSpec : ChangeSpec := { name := "macEqual", fn := fun _ => fun
  | [d1, d2] => { results := [.lit (.bool true)], args := [d1, d2] }
  | _ => none }
def macEqualRow : OpenClaim := { program := "ytgalddnblciciaadoor", sum := "adab52cc060bda6b6634abd2a3a472c0b2442fb937b850a61523602cbb8991d0", func := "toll/tolllaw05.MacEqual", spec := "macEqual", unfollowed := true, recurses := true, named := ["toll/sha.constants"], apart := false, laid := [("toll/sha.constants", laid_toll_sha_constants)] }
def MacEqualSaid : Prop := macEqualRow.holds Tryd.pinned (OpenSpec.ofChange macEqualSpec)

/-- ITS FALSE NEIGHBOUR: 'it returns false'. Refute it at one input. -/
def macEqualWrong : ChangeSpec := { name := "macEqual", fn := fun _ => fun
  | [d1, d2] => { results := [.lit (.bool false)], args := [d1, d2] }
  | _ => none }
def MacEqualWrongFalsely : Prop := macEqualRow.holds Tryd.pinned (OpenSpec.ofChange macEqualWrong)

/-- 'tolllaw05.MacKeys': WHATEVER THE INPUT: true; the input reads as it did. -/
def macKeysSpec : ChangeSpec := { name := "macKeys", fn := fun _ => fun
  | [d1, d2, d3] => { results := [.lit (.bool true)], args := [d1, d2, d3] }
  | _ => none }
def macKeysRow : OpenClaim := { program := "ytgalddnblciciaadoor", sum := "adab52cc060bda6b6634abd2a3a472c0b2442fb937b850a61523602cbb8991d0", func := "toll/tolllaw05.MacKeys", spec := "macKeys", unfollowed := true, recurses := true, named := ["toll/sha.constants"], apart := false, laid := [("toll/sha.constants", laid_toll_sha_constants)] }
def MacKeysSaid : Prop := macKeysRow.holds Tryd.pinned (OpenSpec.ofChange macKeysSpec)

/-- ITS FALSE NEIGHBOUR: 'it returns false'. Refute it at one input. -/
def macKeysWrong : ChangeSpec := { name := "macKeys", fn := fun _ => fun
  | [d1, d2, d3] => { results := [.lit (.bool false)], args := [d1, d2, d3] }
  | _ => none }
def MacKeysWrongFalsely : Prop := macKeysRow.holds Tryd.pinned (OpenSpec.ofChange macKeysWrong)

/-- 'tolllaw05.MacDerives': WHATEVER THE INPUT: true; the input reads as it did. -/
def macDerivesSpec : ChangeSpec := { name := "macDerives", fn := fun _ => fun
  | [d1, d2, d3, d4] => { results := [.lit (.bool true)], args := [d1, d2, d3, d4] }
  | _ => none }
def macDerivesRow : OpenClaim := { program := "ytgalddnblciciaadoor", sum := "adab52cc060bda6b6634abd2a3a472c0b2442fb937b850a61523602cbb8991d0", func := "toll/tolllaw05.MacDerives", spec := "macDerives", unfollowed := true, recurses := true, named := ["toll/sha.constants"], apart := false, laid := [("toll/sha.constants", laid_toll_sha_constants)] }
def MacDerivesSaid : Prop := macDerivesRow.holds Tryd.pinned (OpenSpec.ofChange macDerivesSpec)

/-- ITS FALSE NEIGHBOUR: 'it returns false'. Refute it at one input. -/
def macDerivesWrong : ChangeSpec := { name := "macDerives", fn := fun _ => fun
  | [d1, d2, d3, d4] => { results := [.lit (.bool false)], args := [d1, d2, d3, d4] }
  | _ => none }
def MacDerivesWrongFalsely : Prop := macDerivesRow.holds Tryd.pinned (OpenSpec.ofChange macDerivesWrong)

/- THE SECOND FORM. 'bulk': how many values and letters a reading holds, each counted each time it is reached (what is shared counts as often as it is met; a slice's spare places count too). A statement '..UptoSaid' is the law's where the arguments, and the package variables that the reading takes, are together of bulk at most 1048576: NARROWER than '..Said'. Prove '..Said' where nothing that the law and all that it calls make is longer than what came in: it says more and counts as full. Else prove '..UptoSaid'. A law counts once. -/
mutual
def uptoBulk {H : Type} : DataW H → Nat
  | .lit (.string bytes) => bytes.length + 1
  | .lit _ => 1
  | .nil => 1
  | .ptr d => uptoBulk d + 1
  | .slice elems spare => uptoBulkAll elems + uptoBulkAll spare + 1
  | .agg parts => uptoBulkAll parts + 1
  | .iface _ d => uptoBulk d + 1
  | .map entries => uptoBulkEntries entries + 1
  | .held _ => 1
def uptoBulkAll {H : Type} : List (DataW H) → Nat
  | [] => 0
  | d :: r => uptoBulk d + uptoBulkAll r
def uptoBulkEntries {H : Type} : List (Lit × DataW H) → Nat
  | [] => 0
  | x :: r => uptoBulkEntry x + uptoBulkEntries r
def uptoBulkEntry {H : Type} : Lit × DataW H → Nat
  | (.string bytes, d) => bytes.length + uptoBulk d + 1
  | (_, d) => uptoBulk d + 1
 end
def uptoSmall : (H : Type) → List (DataW H) → Bool := fun _ ds => decide (uptoBulkAll ds ≤ 1048576)
def OpenSpec.upto (s : _root_.Go.ChangeSpec) : _root_.Go.OpenSpec := { _root_.Go.OpenSpec.ofChange s with cond := some uptoSmall }

/-- 'tolllaw04.ShaMatchesReference', WHERE WHAT IT READS IS OF BULK AT MOST 1048576: true; the input reads as it did. -/
def shaMatchesReferenceUptoRow : OpenClaim := { program := "ytgalddnblciciaadoor", sum := "adab52cc060bda6b6634abd2a3a472c0b2442fb937b850a61523602cbb8991d0", func := "toll/tolllaw04.ShaMatchesReference", spec := "shaMatchesReference", unfollowed := true, recurses := true, named := ["toll/sha.constants"], apart := false, laid := [("toll/sha.constants", laid_toll_sha_constants)], narrowed := true }
def ShaMatchesReferenceUptoSaid : Prop := shaMatchesReferenceUptoRow.holds Tryd.pinned (OpenSpec.upto shaMatchesReferenceSpec)

/-- 'tolllaw04.ShaBlocks', WHERE WHAT IT READS IS OF BULK AT MOST 1048576: true; the input reads as it did. -/
def shaBlocksUptoRow : OpenClaim := { program := "ytgalddnblciciaadoor", sum := "adab52cc060bda6b6634abd2a3a472c0b2442fb937b850a61523602cbb8991d0", func := "toll/tolllaw04.ShaBlocks", spec := "shaBlocks", unfollowed := true, recurses := true, named := ["toll/sha.constants"], apart := false, laid := [("toll/sha.constants", laid_toll_sha_constants)], narrowed := true }
def ShaBlocksUptoSaid : Prop := shaBlocksUptoRow.holds Tryd.pinned (OpenSpec.upto shaBlocksSpec)

/-- 'tolllaw04.ShaConstants', WHERE WHAT IT READS IS OF BULK AT MOST 1048576: true; the input reads as it did. -/
def shaConstantsUptoRow : OpenClaim := { program := "ytgalddnblciciaadoor", sum := "adab52cc060bda6b6634abd2a3a472c0b2442fb937b850a61523602cbb8991d0", func := "toll/tolllaw04.ShaConstants", spec := "shaConstants", unfollowed := true, recurses := true, named := ["toll/sha.constants"], apart := false, laid := [("toll/sha.constants", laid_toll_sha_constants)], narrowed := true }
def ShaConstantsUptoSaid : Prop := shaConstantsUptoRow.holds Tryd.pinned (OpenSpec.upto shaConstantsSpec)

/-- 'tolllaw04.ShaPaddings', WHERE WHAT IT READS IS OF BULK AT MOST 1048576: true; the input reads as it did. -/
def shaPaddingsUptoRow : OpenClaim := { program := "ytgalddnblciciaadoor", sum := "adab52cc060bda6b6634abd2a3a472c0b2442fb937b850a61523602cbb8991d0", func := "toll/tolllaw04.ShaPaddings", spec := "shaPaddings", unfollowed := true, recurses := true, named := ["toll/sha.constants"], apart := false, laid := [("toll/sha.constants", laid_toll_sha_constants)], narrowed := true }
def ShaPaddingsUptoSaid : Prop := shaPaddingsUptoRow.holds Tryd.pinned (OpenSpec.upto shaPaddingsSpec)

/-- 'tolllaw04.ShaLimits', WHERE WHAT IT READS IS OF BULK AT MOST 1048576: true; the input reads as it did. -/
def shaLimitsUptoRow : OpenClaim := { program := "ytgalddnblciciaadoor", sum := "adab52cc060bda6b6634abd2a3a472c0b2442fb937b850a61523602cbb8991d0", func := "toll/tolllaw04.ShaLimits", spec := "shaLimits", unfollowed := true, recurses := true, named := ["toll/sha.constants"], apart := false, laid := [("toll/sha.constants", laid_toll_sha_constants)], narrowed := true }
def ShaLimitsUptoSaid : Prop := shaLimitsUptoRow.holds Tryd.pinned (OpenSpec.upto shaLimitsSpec)

/-- 'tolllaw05.MacMatchesReference', WHERE WHAT IT READS IS OF BULK AT MOST 1048576: true; the input reads as it did. -/
def macMatchesReferenceUptoRow : OpenClaim := { program := "ytgalddnblciciaadoor", sum := "adab52cc060bda6b6634abd2a3a472c0b2442fb937b850a61523602cbb8991d0", func := "toll/tolllaw05.MacMatchesReference", spec := "macMatchesReference", unfollowed := true, recurses := true, named := ["toll/sha.constants"], apart := false, laid := [("toll/sha.constants", laid_toll_sha_constants)], narrowed := true }
def MacMatchesReferenceUptoSaid : Prop := macMatchesReferenceUptoRow.holds Tryd.pinned (OpenSpec.upto macMatchesReferenceSpec)

/-- 'tolllaw05.MacChecks', WHERE WHAT IT READS IS OF BULK AT MOST 1048576: true; the input reads as it did. -/
def macChecksUptoRow : OpenClaim := { program := "ytgalddnblciciaadoor", sum := "adab52cc060bda6b6634abd2a3a472c0b2442fb937b850a61523602cbb8991d0", func := "toll/tolllaw05.MacChecks", spec := "macChecks", unfollowed := true, recurses := true, named := ["toll/sha.constants"], apart := false, laid := [("toll/sha.constants", laid_toll_sha_constants)], narrowed := true }
def MacChecksUptoSaid : Prop := macChecksUptoRow.holds Tryd.pinned (OpenSpec.upto macChecksSpec)

/-- 'tolllaw05.MacEqual', WHERE WHAT IT READS IS OF BULK AT MOST 1048576: true; the input reads as it did. -/
def macEqualUptoRow : OpenClaim := { program := "ytgalddnblciciaadoor", sum := "adab52cc060bda6b6634abd2a3a472c0b2442fb937b850a61523602cbb8991d0", func := "toll/tolllaw05.MacEqual", spec := "macEqual", unfollowed := true, recurses := true, named := ["toll/sha.constants"], apart := false, laid := [("toll/sha.constants", laid_toll_sha_constants)], narrowed := true }
def MacEqualUptoSaid : Prop := macEqualUptoRow.holds Tryd.pinned (OpenSpec.upto macEqualSpec)

/-- 'tolllaw05.MacKeys', WHERE WHAT IT READS IS OF BULK AT MOST 1048576: true; the input reads as it did. -/
def macKeysUptoRow : OpenClaim := { program := "ytgalddnblciciaadoor", sum := "adab52cc060bda6b6634abd2a3a472c0b2442fb937b850a61523602cbb8991d0", func := "toll/tolllaw05.MacKeys", spec := "macKeys", unfollowed := true, recurses := true, named := ["toll/sha.constants"], apart := false, laid := [("toll/sha.constants", laid_toll_sha_constants)], narrowed := true }
def MacKeysUptoSaid : Prop := macKeysUptoRow.holds Tryd.pinned (OpenSpec.upto macKeysSpec)

/-- 'tolllaw05.MacDerives', WHERE WHAT IT READS IS OF BULK AT MOST 1048576: true; the input reads as it did. -/
def macDerivesUptoRow : OpenClaim := { program := "ytgalddnblciciaadoor", sum := "adab52cc060bda6b6634abd2a3a472c0b2442fb937b850a61523602cbb8991d0", func := "toll/tolllaw05.MacDerives", spec := "macDerives", unfollowed := true, recurses := true, named := ["toll/sha.constants"], apart := false, laid := [("toll/sha.constants", laid_toll_sha_constants)], narrowed := true }
def MacDerivesUptoSaid : Prop := macDerivesUptoRow.holds Tryd.pinned (OpenSpec.upto macDerivesSpec)

end Rows
end Go.Proofs.YtgalddnblciciaaDoor
