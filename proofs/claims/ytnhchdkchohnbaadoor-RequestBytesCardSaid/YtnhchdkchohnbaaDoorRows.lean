/-
  NARROWER THAN 'FOR EVERY INPUT', by the rows' own cells (each row's printed sentence says how): TicketMatchesReference: laid · TicketParses: laid · TicketSeals: laid · TicketOpens: laid · AuthMatchesReference: laid · AuthParses: laid · AuthSeals: laid · RequestMatchesReference: laid · RequestBytes: laid.
  DERIVED. THE GIVEN ROWS OF THIS SEAT. 9 by the template 'for every input the law returns true; each argument reads behind the call as it read before'; 0 by the template 'total and deterministic' (their statements: YtnhchdkchohnbaaDoorTotals.lean).
  GIVEN WITH THE SEED: the statements are not yours to turn. If you find one false, say at which input.
  Laid BY PROGRAM, IN A SANDBOX (cutbox-rows.mjs): the forced cells as the released guide's own fill.sh prints them over the translation bb8a25c1e9b12998… (all of the seat's roots in one cut). By AI agents, Wed Nov 11 2026. No macro, syntax, notation, axiom, sorry.
-/
import Derived.Test.YtnhchdkchohnbaaDoorChecked
import GoSem.Claim
import GoSem.ClaimJoined
import GoSem.ClaimMapViews
import Derived.JoinedTies
import Derived.KernelRfl
namespace Go.Proofs.YtnhchdkchohnbaaDoor
/- THE CELL 'sum', in the pinned program and in every row, IS THE sha256 OF THE DUMP (.gsa) THAT YtnhchdkchohnbaaDoorProg.lean LOADS. Nothing in Lean hashes anything: it is a label: what it is worth is what the hold of that sum in a sandbox is worth. -/
noncomputable def Tryd.pinned : Pinned := { name := "ytnhchdkchohnbaadoor", sum := "bb8a25c1e9b12998c61fae8c9b48f8b5bcd5b0a2f8de3dc168758f03f1e36140", checked := Tryd.checked }
namespace Rows
def none {H : Type} : Left H := { results := [], args := [] }

/- WHAT THE LISTED PACKAGE-LEVEL VARIABLES READ AS WHEN THE CALL BEGINS. Each datum BY PROGRAM (the guide's laid-datum.mjs) off the statement by which the dump's own 'gosem.cut.vars' lays the variable. In a bare row this is a premise. The card (YtnhchdkchohnbaaDoorCards.lean) ties it to the program's text. -/
def laid_toll_sha_constants {H : Type} : DataW H := .agg [.lit (.int .u32 1116352408), .lit (.int .u32 1899447441), .lit (.int .u32 3049323471), .lit (.int .u32 3921009573), .lit (.int .u32 961987163), .lit (.int .u32 1508970993), .lit (.int .u32 2453635748), .lit (.int .u32 2870763221), .lit (.int .u32 3624381080), .lit (.int .u32 310598401), .lit (.int .u32 607225278), .lit (.int .u32 1426881987), .lit (.int .u32 1925078388), .lit (.int .u32 2162078206), .lit (.int .u32 2614888103), .lit (.int .u32 3248222580), .lit (.int .u32 3835390401), .lit (.int .u32 4022224774), .lit (.int .u32 264347078), .lit (.int .u32 604807628), .lit (.int .u32 770255983), .lit (.int .u32 1249150122), .lit (.int .u32 1555081692), .lit (.int .u32 1996064986), .lit (.int .u32 2554220882), .lit (.int .u32 2821834349), .lit (.int .u32 2952996808), .lit (.int .u32 3210313671), .lit (.int .u32 3336571891), .lit (.int .u32 3584528711), .lit (.int .u32 113926993), .lit (.int .u32 338241895), .lit (.int .u32 666307205), .lit (.int .u32 773529912), .lit (.int .u32 1294757372), .lit (.int .u32 1396182291), .lit (.int .u32 1695183700), .lit (.int .u32 1986661051), .lit (.int .u32 2177026350), .lit (.int .u32 2456956037), .lit (.int .u32 2730485921), .lit (.int .u32 2820302411), .lit (.int .u32 3259730800), .lit (.int .u32 3345764771), .lit (.int .u32 3516065817), .lit (.int .u32 3600352804), .lit (.int .u32 4094571909), .lit (.int .u32 275423344), .lit (.int .u32 430227734), .lit (.int .u32 506948616), .lit (.int .u32 659060556), .lit (.int .u32 883997877), .lit (.int .u32 958139571), .lit (.int .u32 1322822218), .lit (.int .u32 1537002063), .lit (.int .u32 1747873779), .lit (.int .u32 1955562222), .lit (.int .u32 2024104815), .lit (.int .u32 2227730452), .lit (.int .u32 2361852424), .lit (.int .u32 2428436474), .lit (.int .u32 2756734187), .lit (.int .u32 3204031479), .lit (.int .u32 3329325298)]

/-- 'tolllaw12.TicketMatchesReference': WHATEVER THE INPUT: true; the input reads as it did. -/
def ticketMatchesReferenceSpec : ChangeSpec := { name := "ticketMatchesReference", fn := fun _ => fun
  | [d] => { results := [.lit (.bool true)], args := [d] }
  | _ => none }
def ticketMatchesReferenceRow : OpenClaim := { program := "ytnhchdkchohnbaadoor", sum := "bb8a25c1e9b12998c61fae8c9b48f8b5bcd5b0a2f8de3dc168758f03f1e36140", func := "toll/tolllaw12.TicketMatchesReference", spec := "ticketMatchesReference", unfollowed := true, recurses := true, named := ["toll/sha.constants"], apart := false, laid := [("toll/sha.constants", laid_toll_sha_constants)] }
def TicketMatchesReferenceSaid : Prop := ticketMatchesReferenceRow.holds Tryd.pinned (OpenSpec.ofChange ticketMatchesReferenceSpec)

/-- ITS FALSE NEIGHBOUR: 'it returns false'. Refute it at one input. -/
def ticketMatchesReferenceWrong : ChangeSpec := { name := "ticketMatchesReference", fn := fun _ => fun
  | [d] => { results := [.lit (.bool false)], args := [d] }
  | _ => none }
def TicketMatchesReferenceWrongFalsely : Prop := ticketMatchesReferenceRow.holds Tryd.pinned (OpenSpec.ofChange ticketMatchesReferenceWrong)

/-- 'tolllaw12.TicketParses': WHATEVER THE INPUT: true; the input reads as it did. -/
def ticketParsesSpec : ChangeSpec := { name := "ticketParses", fn := fun _ => fun
  | [d] => { results := [.lit (.bool true)], args := [d] }
  | _ => none }
def ticketParsesRow : OpenClaim := { program := "ytnhchdkchohnbaadoor", sum := "bb8a25c1e9b12998c61fae8c9b48f8b5bcd5b0a2f8de3dc168758f03f1e36140", func := "toll/tolllaw12.TicketParses", spec := "ticketParses", unfollowed := true, recurses := true, named := ["toll/sha.constants"], apart := false, laid := [("toll/sha.constants", laid_toll_sha_constants)] }
def TicketParsesSaid : Prop := ticketParsesRow.holds Tryd.pinned (OpenSpec.ofChange ticketParsesSpec)

/-- ITS FALSE NEIGHBOUR: 'it returns false'. Refute it at one input. -/
def ticketParsesWrong : ChangeSpec := { name := "ticketParses", fn := fun _ => fun
  | [d] => { results := [.lit (.bool false)], args := [d] }
  | _ => none }
def TicketParsesWrongFalsely : Prop := ticketParsesRow.holds Tryd.pinned (OpenSpec.ofChange ticketParsesWrong)

/-- 'tolllaw12.TicketSeals': WHATEVER THE INPUT: true; the input reads as it did. -/
def ticketSealsSpec : ChangeSpec := { name := "ticketSeals", fn := fun _ => fun
  | [d1, d2, d3] => { results := [.lit (.bool true)], args := [d1, d2, d3] }
  | _ => none }
def ticketSealsRow : OpenClaim := { program := "ytnhchdkchohnbaadoor", sum := "bb8a25c1e9b12998c61fae8c9b48f8b5bcd5b0a2f8de3dc168758f03f1e36140", func := "toll/tolllaw12.TicketSeals", spec := "ticketSeals", unfollowed := true, recurses := true, named := ["toll/sha.constants"], apart := false, laid := [("toll/sha.constants", laid_toll_sha_constants)] }
def TicketSealsSaid : Prop := ticketSealsRow.holds Tryd.pinned (OpenSpec.ofChange ticketSealsSpec)

/-- ITS FALSE NEIGHBOUR: 'it returns false'. Refute it at one input. -/
def ticketSealsWrong : ChangeSpec := { name := "ticketSeals", fn := fun _ => fun
  | [d1, d2, d3] => { results := [.lit (.bool false)], args := [d1, d2, d3] }
  | _ => none }
def TicketSealsWrongFalsely : Prop := ticketSealsRow.holds Tryd.pinned (OpenSpec.ofChange ticketSealsWrong)

/-- 'tolllaw12.TicketOpens': WHATEVER THE INPUT: true; the input reads as it did. -/
def ticketOpensSpec : ChangeSpec := { name := "ticketOpens", fn := fun _ => fun
  | [d1, d2, d3, d4, d5] => { results := [.lit (.bool true)], args := [d1, d2, d3, d4, d5] }
  | _ => none }
def ticketOpensRow : OpenClaim := { program := "ytnhchdkchohnbaadoor", sum := "bb8a25c1e9b12998c61fae8c9b48f8b5bcd5b0a2f8de3dc168758f03f1e36140", func := "toll/tolllaw12.TicketOpens", spec := "ticketOpens", unfollowed := true, recurses := true, named := ["toll/sha.constants"], apart := false, laid := [("toll/sha.constants", laid_toll_sha_constants)] }
def TicketOpensSaid : Prop := ticketOpensRow.holds Tryd.pinned (OpenSpec.ofChange ticketOpensSpec)

/-- ITS FALSE NEIGHBOUR: 'it returns false'. Refute it at one input. -/
def ticketOpensWrong : ChangeSpec := { name := "ticketOpens", fn := fun _ => fun
  | [d1, d2, d3, d4, d5] => { results := [.lit (.bool false)], args := [d1, d2, d3, d4, d5] }
  | _ => none }
def TicketOpensWrongFalsely : Prop := ticketOpensRow.holds Tryd.pinned (OpenSpec.ofChange ticketOpensWrong)

/-- 'tolllaw13.AuthMatchesReference': WHATEVER THE INPUT: true; the input reads as it did. -/
def authMatchesReferenceSpec : ChangeSpec := { name := "authMatchesReference", fn := fun _ => fun
  | [d] => { results := [.lit (.bool true)], args := [d] }
  | _ => none }
def authMatchesReferenceRow : OpenClaim := { program := "ytnhchdkchohnbaadoor", sum := "bb8a25c1e9b12998c61fae8c9b48f8b5bcd5b0a2f8de3dc168758f03f1e36140", func := "toll/tolllaw13.AuthMatchesReference", spec := "authMatchesReference", unfollowed := true, recurses := true, named := ["toll/sha.constants"], apart := false, laid := [("toll/sha.constants", laid_toll_sha_constants)] }
def AuthMatchesReferenceSaid : Prop := authMatchesReferenceRow.holds Tryd.pinned (OpenSpec.ofChange authMatchesReferenceSpec)

/-- ITS FALSE NEIGHBOUR: 'it returns false'. Refute it at one input. -/
def authMatchesReferenceWrong : ChangeSpec := { name := "authMatchesReference", fn := fun _ => fun
  | [d] => { results := [.lit (.bool false)], args := [d] }
  | _ => none }
def AuthMatchesReferenceWrongFalsely : Prop := authMatchesReferenceRow.holds Tryd.pinned (OpenSpec.ofChange authMatchesReferenceWrong)

/-- 'tolllaw13.AuthParses': WHATEVER THE INPUT: true; the input reads as it did. -/
def authParsesSpec : ChangeSpec := { name := "authParses", fn := fun _ => fun
  | [d] => { results := [.lit (.bool true)], args := [d] }
  | _ => none }
def authParsesRow : OpenClaim := { program := "ytnhchdkchohnbaadoor", sum := "bb8a25c1e9b12998c61fae8c9b48f8b5bcd5b0a2f8de3dc168758f03f1e36140", func := "toll/tolllaw13.AuthParses", spec := "authParses", unfollowed := true, recurses := true, named := ["toll/sha.constants"], apart := false, laid := [("toll/sha.constants", laid_toll_sha_constants)] }
def AuthParsesSaid : Prop := authParsesRow.holds Tryd.pinned (OpenSpec.ofChange authParsesSpec)

/-- ITS FALSE NEIGHBOUR: 'it returns false'. Refute it at one input. -/
def authParsesWrong : ChangeSpec := { name := "authParses", fn := fun _ => fun
  | [d] => { results := [.lit (.bool false)], args := [d] }
  | _ => none }
def AuthParsesWrongFalsely : Prop := authParsesRow.holds Tryd.pinned (OpenSpec.ofChange authParsesWrong)

/-- 'tolllaw13.AuthSeals': WHATEVER THE INPUT: true; the input reads as it did. -/
def authSealsSpec : ChangeSpec := { name := "authSeals", fn := fun _ => fun
  | [d1, d2, d3] => { results := [.lit (.bool true)], args := [d1, d2, d3] }
  | _ => none }
def authSealsRow : OpenClaim := { program := "ytnhchdkchohnbaadoor", sum := "bb8a25c1e9b12998c61fae8c9b48f8b5bcd5b0a2f8de3dc168758f03f1e36140", func := "toll/tolllaw13.AuthSeals", spec := "authSeals", unfollowed := true, recurses := true, named := ["toll/sha.constants"], apart := false, laid := [("toll/sha.constants", laid_toll_sha_constants)] }
def AuthSealsSaid : Prop := authSealsRow.holds Tryd.pinned (OpenSpec.ofChange authSealsSpec)

/-- ITS FALSE NEIGHBOUR: 'it returns false'. Refute it at one input. -/
def authSealsWrong : ChangeSpec := { name := "authSeals", fn := fun _ => fun
  | [d1, d2, d3] => { results := [.lit (.bool false)], args := [d1, d2, d3] }
  | _ => none }
def AuthSealsWrongFalsely : Prop := authSealsRow.holds Tryd.pinned (OpenSpec.ofChange authSealsWrong)

/-- 'tolllaw14.RequestMatchesReference': WHATEVER THE INPUT: true; the input reads as it did. -/
def requestMatchesReferenceSpec : ChangeSpec := { name := "requestMatchesReference", fn := fun _ => fun
  | [d] => { results := [.lit (.bool true)], args := [d] }
  | _ => none }
def requestMatchesReferenceRow : OpenClaim := { program := "ytnhchdkchohnbaadoor", sum := "bb8a25c1e9b12998c61fae8c9b48f8b5bcd5b0a2f8de3dc168758f03f1e36140", func := "toll/tolllaw14.RequestMatchesReference", spec := "requestMatchesReference", unfollowed := true, recurses := true, named := ["toll/sha.constants"], apart := false, laid := [("toll/sha.constants", laid_toll_sha_constants)] }
def RequestMatchesReferenceSaid : Prop := requestMatchesReferenceRow.holds Tryd.pinned (OpenSpec.ofChange requestMatchesReferenceSpec)

/-- ITS FALSE NEIGHBOUR: 'it returns false'. Refute it at one input. -/
def requestMatchesReferenceWrong : ChangeSpec := { name := "requestMatchesReference", fn := fun _ => fun
  | [d] => { results := [.lit (.bool false)], args := [d] }
  | _ => none }
def RequestMatchesReferenceWrongFalsely : Prop := requestMatchesReferenceRow.holds Tryd.pinned (OpenSpec.ofChange requestMatchesReferenceWrong)

/-- 'tolllaw14.RequestBytes': WHATEVER THE INPUT: true; the input reads as it did. -/
def requestBytesSpec : ChangeSpec := { name := "requestBytes", fn := fun _ => fun
  | [d1, d2, d3] => { results := [.lit (.bool true)], args := [d1, d2, d3] }
  | _ => none }
def requestBytesRow : OpenClaim := { program := "ytnhchdkchohnbaadoor", sum := "bb8a25c1e9b12998c61fae8c9b48f8b5bcd5b0a2f8de3dc168758f03f1e36140", func := "toll/tolllaw14.RequestBytes", spec := "requestBytes", unfollowed := true, recurses := true, named := ["toll/sha.constants"], apart := false, laid := [("toll/sha.constants", laid_toll_sha_constants)] }
def RequestBytesSaid : Prop := requestBytesRow.holds Tryd.pinned (OpenSpec.ofChange requestBytesSpec)

/-- ITS FALSE NEIGHBOUR: 'it returns false'. Refute it at one input. -/
def requestBytesWrong : ChangeSpec := { name := "requestBytes", fn := fun _ => fun
  | [d1, d2, d3] => { results := [.lit (.bool false)], args := [d1, d2, d3] }
  | _ => none }
def RequestBytesWrongFalsely : Prop := requestBytesRow.holds Tryd.pinned (OpenSpec.ofChange requestBytesWrong)

/- THE SECOND FORM. 'bulk': how many values and letters a reading holds, each counted each time it is reached (what is shared counts as often as it is met; a slice's spare places count too). A statement '..UptoSaid' is the law's where the arguments, and the package variables that the reading takes, are together of bulk at most 1048576: NARROWER than '..Said'. Prove '..Said' where nothing that the law and all that it calls make is longer than what came in: it says more and counts as full. Else prove '..UptoSaid'. A law counts once. -/
mutual
def uptoBulk {H : Type} : DataW H → Nat
  | .lit (.string bytes) => bytes.length + 1
  | .lit _ => 1
  | .nil => 1
  | .ptr d => uptoBulk d + 1
  | .slice elems spare => uptoBulkAll elems + uptoBulkAll spare + 1
  | .agg parts => uptoBulkAll parts + 1
  | .iface _ d => uptoBulk d + 1
  | .map entries => uptoBulkEntries entries + 1
  | .held _ => 1
def uptoBulkAll {H : Type} : List (DataW H) → Nat
  | [] => 0
  | d :: r => uptoBulk d + uptoBulkAll r
def uptoBulkEntries {H : Type} : List (Lit × DataW H) → Nat
  | [] => 0
  | x :: r => uptoBulkEntry x + uptoBulkEntries r
def uptoBulkEntry {H : Type} : Lit × DataW H → Nat
  | (.string bytes, d) => bytes.length + uptoBulk d + 1
  | (_, d) => uptoBulk d + 1
 end
def uptoSmall : (H : Type) → List (DataW H) → Bool := fun _ ds => decide (uptoBulkAll ds ≤ 1048576)
def OpenSpec.upto (s : _root_.Go.ChangeSpec) : _root_.Go.OpenSpec := { _root_.Go.OpenSpec.ofChange s with cond := some uptoSmall }

/-- 'tolllaw12.TicketMatchesReference', WHERE WHAT IT READS IS OF BULK AT MOST 1048576: true; the input reads as it did. -/
def ticketMatchesReferenceUptoRow : OpenClaim := { program := "ytnhchdkchohnbaadoor", sum := "bb8a25c1e9b12998c61fae8c9b48f8b5bcd5b0a2f8de3dc168758f03f1e36140", func := "toll/tolllaw12.TicketMatchesReference", spec := "ticketMatchesReference", unfollowed := true, recurses := true, named := ["toll/sha.constants"], apart := false, laid := [("toll/sha.constants", laid_toll_sha_constants)], narrowed := true }
def TicketMatchesReferenceUptoSaid : Prop := ticketMatchesReferenceUptoRow.holds Tryd.pinned (OpenSpec.upto ticketMatchesReferenceSpec)

/-- 'tolllaw12.TicketParses', WHERE WHAT IT READS IS OF BULK AT MOST 1048576: true; the input reads as it did. -/
def ticketParsesUptoRow : OpenClaim := { program := "ytnhchdkchohnbaadoor", sum := "bb8a25c1e9b12998c61fae8c9b48f8b5bcd5b0a2f8de3dc168758f03f1e36140", func := "toll/tolllaw12.TicketParses", spec := "ticketParses", unfollowed := true, recurses := true, named := ["toll/sha.constants"], apart := false, laid := [("toll/sha.constants", laid_toll_sha_constants)], narrowed := true }
def TicketParsesUptoSaid : Prop := ticketParsesUptoRow.holds Tryd.pinned (OpenSpec.upto ticketParsesSpec)

/-- 'tolllaw12.TicketSeals', WHERE WHAT IT READS IS OF BULK AT MOST 1048576: true; the input reads as it did. -/
def ticketSealsUptoRow : OpenClaim := { program := "ytnhchdkchohnbaadoor", sum := "bb8a25c1e9b12998c61fae8c9b48f8b5bcd5b0a2f8de3dc168758f03f1e36140", func := "toll/tolllaw12.TicketSeals", spec := "ticketSeals", unfollowed := true, recurses := true, named := ["toll/sha.constants"], apart := false, laid := [("toll/sha.constants", laid_toll_sha_constants)], narrowed := true }
def TicketSealsUptoSaid : Prop := ticketSealsUptoRow.holds Tryd.pinned (OpenSpec.upto ticketSealsSpec)

/-- 'tolllaw12.TicketOpens', WHERE WHAT IT READS IS OF BULK AT MOST 1048576: true; the input reads as it did. -/
def ticketOpensUptoRow : OpenClaim := { program := "ytnhchdkchohnbaadoor", sum := "bb8a25c1e9b12998c61fae8c9b48f8b5bcd5b0a2f8de3dc168758f03f1e36140", func := "toll/tolllaw12.TicketOpens", spec := "ticketOpens", unfollowed := true, recurses := true, named := ["toll/sha.constants"], apart := false, laid := [("toll/sha.constants", laid_toll_sha_constants)], narrowed := true }
def TicketOpensUptoSaid : Prop := ticketOpensUptoRow.holds Tryd.pinned (OpenSpec.upto ticketOpensSpec)

/-- 'tolllaw13.AuthMatchesReference', WHERE WHAT IT READS IS OF BULK AT MOST 1048576: true; the input reads as it did. -/
def authMatchesReferenceUptoRow : OpenClaim := { program := "ytnhchdkchohnbaadoor", sum := "bb8a25c1e9b12998c61fae8c9b48f8b5bcd5b0a2f8de3dc168758f03f1e36140", func := "toll/tolllaw13.AuthMatchesReference", spec := "authMatchesReference", unfollowed := true, recurses := true, named := ["toll/sha.constants"], apart := false, laid := [("toll/sha.constants", laid_toll_sha_constants)], narrowed := true }
def AuthMatchesReferenceUptoSaid : Prop := authMatchesReferenceUptoRow.holds Tryd.pinned (OpenSpec.upto authMatchesReferenceSpec)

/-- 'tolllaw13.AuthParses', WHERE WHAT IT READS IS OF BULK AT MOST 1048576: true; the input reads as it did. -/
def authParsesUptoRow : OpenClaim := { program := "ytnhchdkchohnbaadoor", sum := "bb8a25c1e9b12998c61fae8c9b48f8b5bcd5b0a2f8de3dc168758f03f1e36140", func := "toll/tolllaw13.AuthParses", spec := "authParses", unfollowed := true, recurses := true, named := ["toll/sha.constants"], apart := false, laid := [("toll/sha.constants", laid_toll_sha_constants)], narrowed := true }
def AuthParsesUptoSaid : Prop := authParsesUptoRow.holds Tryd.pinned (OpenSpec.upto authParsesSpec)

/-- 'tolllaw13.AuthSeals', WHERE WHAT IT READS IS OF BULK AT MOST 1048576: true; the input reads as it did. -/
def authSealsUptoRow : OpenClaim := { program := "ytnhchdkchohnbaadoor", sum := "bb8a25c1e9b12998c61fae8c9b48f8b5bcd5b0a2f8de3dc168758f03f1e36140", func := "toll/tolllaw13.AuthSeals", spec := "authSeals", unfollowed := true, recurses := true, named := ["toll/sha.constants"], apart := false, laid := [("toll/sha.constants", laid_toll_sha_constants)], narrowed := true }
def AuthSealsUptoSaid : Prop := authSealsUptoRow.holds Tryd.pinned (OpenSpec.upto authSealsSpec)

/-- 'tolllaw14.RequestMatchesReference', WHERE WHAT IT READS IS OF BULK AT MOST 1048576: true; the input reads as it did. -/
def requestMatchesReferenceUptoRow : OpenClaim := { program := "ytnhchdkchohnbaadoor", sum := "bb8a25c1e9b12998c61fae8c9b48f8b5bcd5b0a2f8de3dc168758f03f1e36140", func := "toll/tolllaw14.RequestMatchesReference", spec := "requestMatchesReference", unfollowed := true, recurses := true, named := ["toll/sha.constants"], apart := false, laid := [("toll/sha.constants", laid_toll_sha_constants)], narrowed := true }
def RequestMatchesReferenceUptoSaid : Prop := requestMatchesReferenceUptoRow.holds Tryd.pinned (OpenSpec.upto requestMatchesReferenceSpec)

/-- 'tolllaw14.RequestBytes', WHERE WHAT IT READS IS OF BULK AT MOST 1048576: true; the input reads as it did. -/
def requestBytesUptoRow : OpenClaim := { program := "ytnhchdkchohnbaadoor", sum := "bb8a25c1e9b12998c61fae8c9b48f8b5bcd5b0a2f8de3dc168758f03f1e36140", func := "toll/tolllaw14.RequestBytes", spec := "requestBytes", unfollowed := true, recurses := true, named := ["toll/sha.constants"], apart := false, laid := [("toll/sha.constants", laid_toll_sha_constants)], narrowed := true }
def RequestBytesUptoSaid : Prop := requestBytesUptoRow.holds Tryd.pinned (OpenSpec.upto requestBytesSpec)

end Rows
end Go.Proofs.YtnhchdkchohnbaaDoor
