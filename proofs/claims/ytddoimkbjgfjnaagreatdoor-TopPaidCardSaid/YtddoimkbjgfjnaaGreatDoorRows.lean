/-
  NARROWER THAN 'FOR EVERY INPUT', by the rows' own cells (each row's printed sentence says how): TopNamed: laid · TopApart: laid · TopMembers: laid · TopRecords: laid · TopPaid: laid · TopBridged: laid · TopRefused: laid · TopCut: laid.
  DERIVED. THE GIVEN ROWS OF THIS SEAT. 8 by the template 'for every input the law returns true; each argument reads behind the call as it read before'; 0 by the template 'total and deterministic' (their statements: YtddoimkbjgfjnaaGreatDoorTotals.lean).
  GIVEN WITH THE SEED: the statements are not yours to turn. If you find one false, say at which input.
  Laid BY PROGRAM, IN A SANDBOX (cutbox-rows.mjs): the forced cells as the released guide's own fill.sh prints them over the translation 38e38830939e0aa0… (all of the seat's roots in one cut). By AI agents, Wed Nov 11 2026. No macro, syntax, notation, axiom, sorry.
-/
import Derived.Test.YtddoimkbjgfjnaaGreatDoorChecked
import GoSem.Claim
import GoSem.ClaimJoined
import GoSem.ClaimMapViews
import Derived.JoinedTies
import Derived.KernelRfl
namespace Go.Proofs.YtddoimkbjgfjnaaGreatDoor
/- THE CELL 'sum', in the pinned program and in every row, IS THE sha256 OF THE DUMP (.gsa) THAT YtddoimkbjgfjnaaGreatDoorProg.lean LOADS. Nothing in Lean hashes anything: it is a label: what it is worth is what the hold of that sum in a sandbox is worth. -/
noncomputable def Tryz.pinned : Pinned := { name := "ytddoimkbjgfjnaagreatdoor", sum := "38e38830939e0aa0755d6fc02119cba1442fdc2bc5f159ba2e7f798a6d18a01f", checked := Tryz.checked }
namespace Rows
def none {H : Type} : Left H := { results := [], args := [] }

/- WHAT THE LISTED PACKAGE-LEVEL VARIABLES READ AS WHEN THE CALL BEGINS. Each datum BY PROGRAM (the guide's laid-datum.mjs) off the statement by which the dump's own 'gosem.cut.vars' lays the variable. In a bare row this is a premise. The card (YtddoimkbjgfjnaaGreatDoorCards.lean) ties it to the program's text. -/
def laid_wapentake_sha_k {H : Type} : DataW H := .agg [.lit (.int .u32 1116352408), .lit (.int .u32 1899447441), .lit (.int .u32 3049323471), .lit (.int .u32 3921009573), .lit (.int .u32 961987163), .lit (.int .u32 1508970993), .lit (.int .u32 2453635748), .lit (.int .u32 2870763221), .lit (.int .u32 3624381080), .lit (.int .u32 310598401), .lit (.int .u32 607225278), .lit (.int .u32 1426881987), .lit (.int .u32 1925078388), .lit (.int .u32 2162078206), .lit (.int .u32 2614888103), .lit (.int .u32 3248222580), .lit (.int .u32 3835390401), .lit (.int .u32 4022224774), .lit (.int .u32 264347078), .lit (.int .u32 604807628), .lit (.int .u32 770255983), .lit (.int .u32 1249150122), .lit (.int .u32 1555081692), .lit (.int .u32 1996064986), .lit (.int .u32 2554220882), .lit (.int .u32 2821834349), .lit (.int .u32 2952996808), .lit (.int .u32 3210313671), .lit (.int .u32 3336571891), .lit (.int .u32 3584528711), .lit (.int .u32 113926993), .lit (.int .u32 338241895), .lit (.int .u32 666307205), .lit (.int .u32 773529912), .lit (.int .u32 1294757372), .lit (.int .u32 1396182291), .lit (.int .u32 1695183700), .lit (.int .u32 1986661051), .lit (.int .u32 2177026350), .lit (.int .u32 2456956037), .lit (.int .u32 2730485921), .lit (.int .u32 2820302411), .lit (.int .u32 3259730800), .lit (.int .u32 3345764771), .lit (.int .u32 3516065817), .lit (.int .u32 3600352804), .lit (.int .u32 4094571909), .lit (.int .u32 275423344), .lit (.int .u32 430227734), .lit (.int .u32 506948616), .lit (.int .u32 659060556), .lit (.int .u32 883997877), .lit (.int .u32 958139571), .lit (.int .u32 1322822218), .lit (.int .u32 1537002063), .lit (.int .u32 1747873779), .lit (.int .u32 1955562222), .lit (.int .u32 2024104815), .lit (.int .u32 2227730452), .lit (.int .u32 2361852424), .lit (.int .u32 2428436474), .lit (.int .u32 2756734187), .lit (.int .u32 3204031479), .lit (.int .u32 3329325298)]
def laid_errors_errorType {H : Type} : DataW H := .iface "internal/reflectlite.rtype" (.agg [.ptr (.lit (.string [101, 114, 114, 111, 114]))])
def laid_wapentake_codec_errForm {H : Type} : DataW H := .iface "*errors.errorString" (.ptr (.agg [.lit (.string [110, 111, 32, 115, 117, 99, 104, 32, 102, 111, 114, 109])]))
def laid_wapentake_codec_errBytes {H : Type} : DataW H := .iface "*errors.errorString" (.ptr (.agg [.lit (.string [116, 111, 111, 32, 109, 97, 110, 121, 32, 98, 121, 116, 101, 115])]))

/-- 'wapentaketop.TopNamed': WHATEVER THE INPUT: true; the input reads as it did. -/
def topNamedSpec : ChangeSpec := { name := "topNamed", fn := fun _ => fun
  | [d1, d2] => { results := [.lit (.bool true)], args := [d1, d2] }
  | _ => none }
def topNamedRow : OpenClaim := { program := "ytddoimkbjgfjnaagreatdoor", sum := "38e38830939e0aa0755d6fc02119cba1442fdc2bc5f159ba2e7f798a6d18a01f", func := "wapentake/wapentaketop.TopNamed", spec := "topNamed", inPlace := ["math/bits.Add64", "internal/bytealg.Compare", "slices.overlaps[wapentake/api.Account]", "slices.overlaps[int]", "slices.overlaps[wapentake/api.Lock]", "slices.overlaps[wapentake/api.Digest]", "internal/reflectlite.TypeOf", "internal/reflectlite.ValueOf", "(internal/reflectlite.Value).Type", "(internal/reflectlite.Value).IsNil", "(internal/reflectlite.Value).Elem", "(internal/reflectlite.Value).Set"], unfollowed := true, recurses := true, named := ["wapentake/sha.k", "wapentake/codec.errBytes", "errors.errorType", "wapentake/codec.errForm"], plainKeys := false, apart := false, laid := [("wapentake/sha.k", laid_wapentake_sha_k), ("errors.errorType", laid_errors_errorType), ("wapentake/codec.errForm", laid_wapentake_codec_errForm), ("wapentake/codec.errBytes", laid_wapentake_codec_errBytes)] }
def TopNamedSaid : Prop := topNamedRow.holds Tryz.pinned (OpenSpec.ofChange topNamedSpec)

/-- ITS FALSE NEIGHBOUR: 'it returns false'. Refute it at one input. -/
def topNamedWrong : ChangeSpec := { name := "topNamed", fn := fun _ => fun
  | [d1, d2] => { results := [.lit (.bool false)], args := [d1, d2] }
  | _ => none }
def TopNamedWrongFalsely : Prop := topNamedRow.holds Tryz.pinned (OpenSpec.ofChange topNamedWrong)

/-- 'wapentaketop.TopApart': WHATEVER THE INPUT: true; the input reads as it did. -/
def topApartSpec : ChangeSpec := { name := "topApart", fn := fun _ => fun
  | [d1, d2, d3] => { results := [.lit (.bool true)], args := [d1, d2, d3] }
  | _ => none }
def topApartRow : OpenClaim := { program := "ytddoimkbjgfjnaagreatdoor", sum := "38e38830939e0aa0755d6fc02119cba1442fdc2bc5f159ba2e7f798a6d18a01f", func := "wapentake/wapentaketop.TopApart", spec := "topApart", inPlace := ["math/bits.Add64", "internal/bytealg.Compare", "slices.overlaps[wapentake/api.Account]", "slices.overlaps[int]", "slices.overlaps[wapentake/api.Lock]", "slices.overlaps[wapentake/api.Digest]", "internal/reflectlite.TypeOf", "internal/reflectlite.ValueOf", "(internal/reflectlite.Value).Type", "(internal/reflectlite.Value).IsNil", "(internal/reflectlite.Value).Elem", "(internal/reflectlite.Value).Set"], unfollowed := true, recurses := true, named := ["wapentake/sha.k", "wapentake/codec.errBytes", "errors.errorType", "wapentake/codec.errForm"], plainKeys := false, apart := false, laid := [("wapentake/sha.k", laid_wapentake_sha_k), ("errors.errorType", laid_errors_errorType), ("wapentake/codec.errForm", laid_wapentake_codec_errForm), ("wapentake/codec.errBytes", laid_wapentake_codec_errBytes)] }
def TopApartSaid : Prop := topApartRow.holds Tryz.pinned (OpenSpec.ofChange topApartSpec)

/-- ITS FALSE NEIGHBOUR: 'it returns false'. Refute it at one input. -/
def topApartWrong : ChangeSpec := { name := "topApart", fn := fun _ => fun
  | [d1, d2, d3] => { results := [.lit (.bool false)], args := [d1, d2, d3] }
  | _ => none }
def TopApartWrongFalsely : Prop := topApartRow.holds Tryz.pinned (OpenSpec.ofChange topApartWrong)

/-- 'wapentaketop.TopMembers': WHATEVER THE INPUT: true; the input reads as it did. -/
def topMembersSpec : ChangeSpec := { name := "topMembers", fn := fun _ => fun
  | [d1, d2] => { results := [.lit (.bool true)], args := [d1, d2] }
  | _ => none }
def topMembersRow : OpenClaim := { program := "ytddoimkbjgfjnaagreatdoor", sum := "38e38830939e0aa0755d6fc02119cba1442fdc2bc5f159ba2e7f798a6d18a01f", func := "wapentake/wapentaketop.TopMembers", spec := "topMembers", inPlace := ["math/bits.Add64", "internal/bytealg.Compare", "slices.overlaps[wapentake/api.Account]", "slices.overlaps[int]", "slices.overlaps[wapentake/api.Lock]", "slices.overlaps[wapentake/api.Digest]", "internal/reflectlite.TypeOf", "internal/reflectlite.ValueOf", "(internal/reflectlite.Value).Type", "(internal/reflectlite.Value).IsNil", "(internal/reflectlite.Value).Elem", "(internal/reflectlite.Value).Set"], unfollowed := true, recurses := true, named := ["wapentake/sha.k", "wapentake/codec.errBytes", "errors.errorType", "wapentake/codec.errForm"], plainKeys := false, apart := false, laid := [("wapentake/sha.k", laid_wapentake_sha_k), ("errors.errorType", laid_errors_errorType), ("wapentake/codec.errForm", laid_wapentake_codec_errForm), ("wapentake/codec.errBytes", laid_wapentake_codec_errBytes)] }
def TopMembersSaid : Prop := topMembersRow.holds Tryz.pinned (OpenSpec.ofChange topMembersSpec)

/-- ITS FALSE NEIGHBOUR: 'it returns false'. Refute it at one input. -/
def topMembersWrong : ChangeSpec := { name := "topMembers", fn := fun _ => fun
  | [d1, d2] => { results := [.lit (.bool false)], args := [d1, d2] }
  | _ => none }
def TopMembersWrongFalsely : Prop := topMembersRow.holds Tryz.pinned (OpenSpec.ofChange topMembersWrong)

/-- 'wapentaketop.TopRecords': WHATEVER THE INPUT: true; the input reads as it did. -/
def topRecordsSpec : ChangeSpec := { name := "topRecords", fn := fun _ => fun
  | [d] => { results := [.lit (.bool true)], args := [d] }
  | _ => none }
def topRecordsRow : OpenClaim := { program := "ytddoimkbjgfjnaagreatdoor", sum := "38e38830939e0aa0755d6fc02119cba1442fdc2bc5f159ba2e7f798a6d18a01f", func := "wapentake/wapentaketop.TopRecords", spec := "topRecords", inPlace := ["math/bits.Add64", "internal/bytealg.Compare", "slices.overlaps[wapentake/api.Account]", "slices.overlaps[int]", "slices.overlaps[wapentake/api.Lock]", "slices.overlaps[wapentake/api.Digest]", "internal/reflectlite.TypeOf", "internal/reflectlite.ValueOf", "(internal/reflectlite.Value).Type", "(internal/reflectlite.Value).IsNil", "(internal/reflectlite.Value).Elem", "(internal/reflectlite.Value).Set"], unfollowed := true, recurses := true, named := ["wapentake/sha.k", "wapentake/codec.errBytes", "errors.errorType", "wapentake/codec.errForm"], plainKeys := false, apart := false, laid := [("wapentake/sha.k", laid_wapentake_sha_k), ("errors.errorType", laid_errors_errorType), ("wapentake/codec.errForm", laid_wapentake_codec_errForm), ("wapentake/codec.errBytes", laid_wapentake_codec_errBytes)] }
def TopRecordsSaid : Prop := topRecordsRow.holds Tryz.pinned (OpenSpec.ofChange topRecordsSpec)

/-- ITS FALSE NEIGHBOUR: 'it returns false'. Refute it at one input. -/
def topRecordsWrong : ChangeSpec := { name := "topRecords", fn := fun _ => fun
  | [d] => { results := [.lit (.bool false)], args := [d] }
  | _ => none }
def TopRecordsWrongFalsely : Prop := topRecordsRow.holds Tryz.pinned (OpenSpec.ofChange topRecordsWrong)

/-- 'wapentaketop.TopPaid': WHATEVER THE INPUT: true; the input reads as it did. -/
def topPaidSpec : ChangeSpec := { name := "topPaid", fn := fun _ => fun
  | [d] => { results := [.lit (.bool true)], args := [d] }
  | _ => none }
def topPaidRow : OpenClaim := { program := "ytddoimkbjgfjnaagreatdoor", sum := "38e38830939e0aa0755d6fc02119cba1442fdc2bc5f159ba2e7f798a6d18a01f", func := "wapentake/wapentaketop.TopPaid", spec := "topPaid", inPlace := ["math/bits.Add64", "internal/bytealg.Compare", "slices.overlaps[wapentake/api.Account]", "slices.overlaps[int]", "slices.overlaps[wapentake/api.Lock]", "slices.overlaps[wapentake/api.Digest]", "internal/reflectlite.TypeOf", "internal/reflectlite.ValueOf", "(internal/reflectlite.Value).Type", "(internal/reflectlite.Value).IsNil", "(internal/reflectlite.Value).Elem", "(internal/reflectlite.Value).Set"], unfollowed := true, recurses := true, named := ["wapentake/sha.k", "wapentake/codec.errBytes", "errors.errorType", "wapentake/codec.errForm"], plainKeys := false, apart := false, laid := [("wapentake/sha.k", laid_wapentake_sha_k), ("errors.errorType", laid_errors_errorType), ("wapentake/codec.errForm", laid_wapentake_codec_errForm), ("wapentake/codec.errBytes", laid_wapentake_codec_errBytes)] }
def TopPaidSaid : Prop := topPaidRow.holds Tryz.pinned (OpenSpec.ofChange topPaidSpec)

/-- ITS FALSE NEIGHBOUR: 'it returns false'. Refute it at one input. -/
def topPaidWrong : ChangeSpec := { name := "topPaid", fn := fun _ => fun
  | [d] => { results := [.lit (.bool false)], args := [d] }
  | _ => none }
def TopPaidWrongFalsely : Prop := topPaidRow.holds Tryz.pinned (OpenSpec.ofChange topPaidWrong)

/-- 'wapentaketop.TopBridged': WHATEVER THE INPUT: true; the input reads as it did. -/
def topBridgedSpec : ChangeSpec := { name := "topBridged", fn := fun _ => fun
  | [d] => { results := [.lit (.bool true)], args := [d] }
  | _ => none }
def topBridgedRow : OpenClaim := { program := "ytddoimkbjgfjnaagreatdoor", sum := "38e38830939e0aa0755d6fc02119cba1442fdc2bc5f159ba2e7f798a6d18a01f", func := "wapentake/wapentaketop.TopBridged", spec := "topBridged", inPlace := ["math/bits.Add64", "internal/bytealg.Compare", "slices.overlaps[wapentake/api.Account]", "slices.overlaps[int]", "slices.overlaps[wapentake/api.Lock]", "slices.overlaps[wapentake/api.Digest]", "internal/reflectlite.TypeOf", "internal/reflectlite.ValueOf", "(internal/reflectlite.Value).Type", "(internal/reflectlite.Value).IsNil", "(internal/reflectlite.Value).Elem", "(internal/reflectlite.Value).Set"], unfollowed := true, recurses := true, named := ["wapentake/sha.k", "wapentake/codec.errBytes", "errors.errorType", "wapentake/codec.errForm"], plainKeys := false, apart := false, laid := [("wapentake/sha.k", laid_wapentake_sha_k), ("errors.errorType", laid_errors_errorType), ("wapentake/codec.errForm", laid_wapentake_codec_errForm), ("wapentake/codec.errBytes", laid_wapentake_codec_errBytes)] }
def TopBridgedSaid : Prop := topBridgedRow.holds Tryz.pinned (OpenSpec.ofChange topBridgedSpec)

/-- ITS FALSE NEIGHBOUR: 'it returns false'. Refute it at one input. -/
def topBridgedWrong : ChangeSpec := { name := "topBridged", fn := fun _ => fun
  | [d] => { results := [.lit (.bool false)], args := [d] }
  | _ => none }
def TopBridgedWrongFalsely : Prop := topBridgedRow.holds Tryz.pinned (OpenSpec.ofChange topBridgedWrong)

/-- 'wapentaketop.TopRefused': WHATEVER THE INPUT: true; the input reads as it did. -/
def topRefusedSpec : ChangeSpec := { name := "topRefused", fn := fun _ => fun
  | [d] => { results := [.lit (.bool true)], args := [d] }
  | _ => none }
def topRefusedRow : OpenClaim := { program := "ytddoimkbjgfjnaagreatdoor", sum := "38e38830939e0aa0755d6fc02119cba1442fdc2bc5f159ba2e7f798a6d18a01f", func := "wapentake/wapentaketop.TopRefused", spec := "topRefused", inPlace := ["math/bits.Add64", "internal/bytealg.Compare", "slices.overlaps[wapentake/api.Account]", "slices.overlaps[int]", "slices.overlaps[wapentake/api.Lock]", "slices.overlaps[wapentake/api.Digest]", "internal/reflectlite.TypeOf", "internal/reflectlite.ValueOf", "(internal/reflectlite.Value).Type", "(internal/reflectlite.Value).IsNil", "(internal/reflectlite.Value).Elem", "(internal/reflectlite.Value).Set"], unfollowed := true, recurses := true, named := ["wapentake/sha.k", "wapentake/codec.errBytes", "errors.errorType", "wapentake/codec.errForm"], plainKeys := false, apart := false, laid := [("wapentake/sha.k", laid_wapentake_sha_k), ("errors.errorType", laid_errors_errorType), ("wapentake/codec.errForm", laid_wapentake_codec_errForm), ("wapentake/codec.errBytes", laid_wapentake_codec_errBytes)] }
def TopRefusedSaid : Prop := topRefusedRow.holds Tryz.pinned (OpenSpec.ofChange topRefusedSpec)

/-- ITS FALSE NEIGHBOUR: 'it returns false'. Refute it at one input. -/
def topRefusedWrong : ChangeSpec := { name := "topRefused", fn := fun _ => fun
  | [d] => { results := [.lit (.bool false)], args := [d] }
  | _ => none }
def TopRefusedWrongFalsely : Prop := topRefusedRow.holds Tryz.pinned (OpenSpec.ofChange topRefusedWrong)

/-- 'wapentaketop.TopCut': WHATEVER THE INPUT: true; the input reads as it did. -/
def topCutSpec : ChangeSpec := { name := "topCut", fn := fun _ => fun
  | [d1, d2, d3] => { results := [.lit (.bool true)], args := [d1, d2, d3] }
  | _ => none }
def topCutRow : OpenClaim := { program := "ytddoimkbjgfjnaagreatdoor", sum := "38e38830939e0aa0755d6fc02119cba1442fdc2bc5f159ba2e7f798a6d18a01f", func := "wapentake/wapentaketop.TopCut", spec := "topCut", inPlace := ["math/bits.Add64", "internal/bytealg.Compare", "slices.overlaps[wapentake/api.Account]", "slices.overlaps[int]", "slices.overlaps[wapentake/api.Lock]", "slices.overlaps[wapentake/api.Digest]", "internal/reflectlite.TypeOf", "internal/reflectlite.ValueOf", "(internal/reflectlite.Value).Type", "(internal/reflectlite.Value).IsNil", "(internal/reflectlite.Value).Elem", "(internal/reflectlite.Value).Set"], unfollowed := true, recurses := true, named := ["wapentake/sha.k", "wapentake/codec.errBytes", "errors.errorType", "wapentake/codec.errForm"], plainKeys := false, apart := false, laid := [("wapentake/sha.k", laid_wapentake_sha_k), ("errors.errorType", laid_errors_errorType), ("wapentake/codec.errForm", laid_wapentake_codec_errForm), ("wapentake/codec.errBytes", laid_wapentake_codec_errBytes)] }
def TopCutSaid : Prop := topCutRow.holds Tryz.pinned (OpenSpec.ofChange topCutSpec)

/-- ITS FALSE NEIGHBOUR: 'it returns false'. Refute it at one input. -/
def topCutWrong : ChangeSpec := { name := "topCut", fn := fun _ => fun
  | [d1, d2, d3] => { results := [.lit (.bool false)], args := [d1, d2, d3] }
  | _ => none }
def TopCutWrongFalsely : Prop := topCutRow.holds Tryz.pinned (OpenSpec.ofChange topCutWrong)

/- THE SECOND FORM. 'bulk': how many values and letters a reading holds, each counted each time it is reached (what is shared counts as often as it is met; a slice's spare places count too). A statement '..UptoSaid' is the law's where the arguments, and the package variables that the reading takes, are together of bulk at most 1048576: NARROWER than '..Said'. Prove '..Said' where nothing that the law and all that it calls make is longer than what came in: it says more and counts as full. Else prove '..UptoSaid'. A law counts once. -/
mutual
def uptoBulk {H : Type} : DataW H → Nat
  | .lit (.string bytes) => bytes.length + 1
  | .lit _ => 1
  | .nil => 1
  | .ptr d => uptoBulk d + 1
  | .slice elems spare => uptoBulkAll elems + uptoBulkAll spare + 1
  | .agg parts => uptoBulkAll parts + 1
  | .iface _ d => uptoBulk d + 1
  | .map entries => uptoBulkEntries entries + 1
  | .held _ => 1
def uptoBulkAll {H : Type} : List (DataW H) → Nat
  | [] => 0
  | d :: r => uptoBulk d + uptoBulkAll r
def uptoBulkEntries {H : Type} : List (Lit × DataW H) → Nat
  | [] => 0
  | x :: r => uptoBulkEntry x + uptoBulkEntries r
def uptoBulkEntry {H : Type} : Lit × DataW H → Nat
  | (.string bytes, d) => bytes.length + uptoBulk d + 1
  | (_, d) => uptoBulk d + 1
 end
def uptoSmall : (H : Type) → List (DataW H) → Bool := fun _ ds => decide (uptoBulkAll ds ≤ 1048576)
def OpenSpec.upto (s : _root_.Go.ChangeSpec) : _root_.Go.OpenSpec := { _root_.Go.OpenSpec.ofChange s with cond := some uptoSmall }

/-- 'wapentaketop.TopNamed', WHERE WHAT IT READS IS OF BULK AT MOST 1048576: true; the input reads as it did. -/
def topNamedUptoRow : OpenClaim := { program := "ytddoimkbjgfjnaagreatdoor", sum := "38e38830939e0aa0755d6fc02119cba1442fdc2bc5f159ba2e7f798a6d18a01f", func := "wapentake/wapentaketop.TopNamed", spec := "topNamed", inPlace := ["math/bits.Add64", "internal/bytealg.Compare", "slices.overlaps[wapentake/api.Account]", "slices.overlaps[int]", "slices.overlaps[wapentake/api.Lock]", "slices.overlaps[wapentake/api.Digest]", "internal/reflectlite.TypeOf", "internal/reflectlite.ValueOf", "(internal/reflectlite.Value).Type", "(internal/reflectlite.Value).IsNil", "(internal/reflectlite.Value).Elem", "(internal/reflectlite.Value).Set"], unfollowed := true, recurses := true, named := ["wapentake/sha.k", "wapentake/codec.errBytes", "errors.errorType", "wapentake/codec.errForm"], plainKeys := false, apart := false, laid := [("wapentake/sha.k", laid_wapentake_sha_k), ("errors.errorType", laid_errors_errorType), ("wapentake/codec.errForm", laid_wapentake_codec_errForm), ("wapentake/codec.errBytes", laid_wapentake_codec_errBytes)], narrowed := true }
def TopNamedUptoSaid : Prop := topNamedUptoRow.holds Tryz.pinned (OpenSpec.upto topNamedSpec)

/-- 'wapentaketop.TopApart', WHERE WHAT IT READS IS OF BULK AT MOST 1048576: true; the input reads as it did. -/
def topApartUptoRow : OpenClaim := { program := "ytddoimkbjgfjnaagreatdoor", sum := "38e38830939e0aa0755d6fc02119cba1442fdc2bc5f159ba2e7f798a6d18a01f", func := "wapentake/wapentaketop.TopApart", spec := "topApart", inPlace := ["math/bits.Add64", "internal/bytealg.Compare", "slices.overlaps[wapentake/api.Account]", "slices.overlaps[int]", "slices.overlaps[wapentake/api.Lock]", "slices.overlaps[wapentake/api.Digest]", "internal/reflectlite.TypeOf", "internal/reflectlite.ValueOf", "(internal/reflectlite.Value).Type", "(internal/reflectlite.Value).IsNil", "(internal/reflectlite.Value).Elem", "(internal/reflectlite.Value).Set"], unfollowed := true, recurses := true, named := ["wapentake/sha.k", "wapentake/codec.errBytes", "errors.errorType", "wapentake/codec.errForm"], plainKeys := false, apart := false, laid := [("wapentake/sha.k", laid_wapentake_sha_k), ("errors.errorType", laid_errors_errorType), ("wapentake/codec.errForm", laid_wapentake_codec_errForm), ("wapentake/codec.errBytes", laid_wapentake_codec_errBytes)], narrowed := true }
def TopApartUptoSaid : Prop := topApartUptoRow.holds Tryz.pinned (OpenSpec.upto topApartSpec)

/-- 'wapentaketop.TopMembers', WHERE WHAT IT READS IS OF BULK AT MOST 1048576: true; the input reads as it did. -/
def topMembersUptoRow : OpenClaim := { program := "ytddoimkbjgfjnaagreatdoor", sum := "38e38830939e0aa0755d6fc02119cba1442fdc2bc5f159ba2e7f798a6d18a01f", func := "wapentake/wapentaketop.TopMembers", spec := "topMembers", inPlace := ["math/bits.Add64", "internal/bytealg.Compare", "slices.overlaps[wapentake/api.Account]", "slices.overlaps[int]", "slices.overlaps[wapentake/api.Lock]", "slices.overlaps[wapentake/api.Digest]", "internal/reflectlite.TypeOf", "internal/reflectlite.ValueOf", "(internal/reflectlite.Value).Type", "(internal/reflectlite.Value).IsNil", "(internal/reflectlite.Value).Elem", "(internal/reflectlite.Value).Set"], unfollowed := true, recurses := true, named := ["wapentake/sha.k", "wapentake/codec.errBytes", "errors.errorType", "wapentake/codec.errForm"], plainKeys := false, apart := false, laid := [("wapentake/sha.k", laid_wapentake_sha_k), ("errors.errorType", laid_errors_errorType), ("wapentake/codec.errForm", laid_wapentake_codec_errForm), ("wapentake/codec.errBytes", laid_wapentake_codec_errBytes)], narrowed := true }
def TopMembersUptoSaid : Prop := topMembersUptoRow.holds Tryz.pinned (OpenSpec.upto topMembersSpec)

/-- 'wapentaketop.TopRecords', WHERE WHAT IT READS IS OF BULK AT MOST 1048576: true; the input reads as it did. -/
def topRecordsUptoRow : OpenClaim := { program := "ytddoimkbjgfjnaagreatdoor", sum := "38e38830939e0aa0755d6fc02119cba1442fdc2bc5f159ba2e7f798a6d18a01f", func := "wapentake/wapentaketop.TopRecords", spec := "topRecords", inPlace := ["math/bits.Add64", "internal/bytealg.Compare", "slices.overlaps[wapentake/api.Account]", "slices.overlaps[int]", "slices.overlaps[wapentake/api.Lock]", "slices.overlaps[wapentake/api.Digest]", "internal/reflectlite.TypeOf", "internal/reflectlite.ValueOf", "(internal/reflectlite.Value).Type", "(internal/reflectlite.Value).IsNil", "(internal/reflectlite.Value).Elem", "(internal/reflectlite.Value).Set"], unfollowed := true, recurses := true, named := ["wapentake/sha.k", "wapentake/codec.errBytes", "errors.errorType", "wapentake/codec.errForm"], plainKeys := false, apart := false, laid := [("wapentake/sha.k", laid_wapentake_sha_k), ("errors.errorType", laid_errors_errorType), ("wapentake/codec.errForm", laid_wapentake_codec_errForm), ("wapentake/codec.errBytes", laid_wapentake_codec_errBytes)], narrowed := true }
def TopRecordsUptoSaid : Prop := topRecordsUptoRow.holds Tryz.pinned (OpenSpec.upto topRecordsSpec)

/-- 'wapentaketop.TopPaid', WHERE WHAT IT READS IS OF BULK AT MOST 1048576: true; the input reads as it did. -/
def topPaidUptoRow : OpenClaim := { program := "ytddoimkbjgfjnaagreatdoor", sum := "38e38830939e0aa0755d6fc02119cba1442fdc2bc5f159ba2e7f798a6d18a01f", func := "wapentake/wapentaketop.TopPaid", spec := "topPaid", inPlace := ["math/bits.Add64", "internal/bytealg.Compare", "slices.overlaps[wapentake/api.Account]", "slices.overlaps[int]", "slices.overlaps[wapentake/api.Lock]", "slices.overlaps[wapentake/api.Digest]", "internal/reflectlite.TypeOf", "internal/reflectlite.ValueOf", "(internal/reflectlite.Value).Type", "(internal/reflectlite.Value).IsNil", "(internal/reflectlite.Value).Elem", "(internal/reflectlite.Value).Set"], unfollowed := true, recurses := true, named := ["wapentake/sha.k", "wapentake/codec.errBytes", "errors.errorType", "wapentake/codec.errForm"], plainKeys := false, apart := false, laid := [("wapentake/sha.k", laid_wapentake_sha_k), ("errors.errorType", laid_errors_errorType), ("wapentake/codec.errForm", laid_wapentake_codec_errForm), ("wapentake/codec.errBytes", laid_wapentake_codec_errBytes)], narrowed := true }
def TopPaidUptoSaid : Prop := topPaidUptoRow.holds Tryz.pinned (OpenSpec.upto topPaidSpec)

/-- 'wapentaketop.TopBridged', WHERE WHAT IT READS IS OF BULK AT MOST 1048576: true; the input reads as it did. -/
def topBridgedUptoRow : OpenClaim := { program := "ytddoimkbjgfjnaagreatdoor", sum := "38e38830939e0aa0755d6fc02119cba1442fdc2bc5f159ba2e7f798a6d18a01f", func := "wapentake/wapentaketop.TopBridged", spec := "topBridged", inPlace := ["math/bits.Add64", "internal/bytealg.Compare", "slices.overlaps[wapentake/api.Account]", "slices.overlaps[int]", "slices.overlaps[wapentake/api.Lock]", "slices.overlaps[wapentake/api.Digest]", "internal/reflectlite.TypeOf", "internal/reflectlite.ValueOf", "(internal/reflectlite.Value).Type", "(internal/reflectlite.Value).IsNil", "(internal/reflectlite.Value).Elem", "(internal/reflectlite.Value).Set"], unfollowed := true, recurses := true, named := ["wapentake/sha.k", "wapentake/codec.errBytes", "errors.errorType", "wapentake/codec.errForm"], plainKeys := false, apart := false, laid := [("wapentake/sha.k", laid_wapentake_sha_k), ("errors.errorType", laid_errors_errorType), ("wapentake/codec.errForm", laid_wapentake_codec_errForm), ("wapentake/codec.errBytes", laid_wapentake_codec_errBytes)], narrowed := true }
def TopBridgedUptoSaid : Prop := topBridgedUptoRow.holds Tryz.pinned (OpenSpec.upto topBridgedSpec)

/-- 'wapentaketop.TopRefused', WHERE WHAT IT READS IS OF BULK AT MOST 1048576: true; the input reads as it did. -/
def topRefusedUptoRow : OpenClaim := { program := "ytddoimkbjgfjnaagreatdoor", sum := "38e38830939e0aa0755d6fc02119cba1442fdc2bc5f159ba2e7f798a6d18a01f", func := "wapentake/wapentaketop.TopRefused", spec := "topRefused", inPlace := ["math/bits.Add64", "internal/bytealg.Compare", "slices.overlaps[wapentake/api.Account]", "slices.overlaps[int]", "slices.overlaps[wapentake/api.Lock]", "slices.overlaps[wapentake/api.Digest]", "internal/reflectlite.TypeOf", "internal/reflectlite.ValueOf", "(internal/reflectlite.Value).Type", "(internal/reflectlite.Value).IsNil", "(internal/reflectlite.Value).Elem", "(internal/reflectlite.Value).Set"], unfollowed := true, recurses := true, named := ["wapentake/sha.k", "wapentake/codec.errBytes", "errors.errorType", "wapentake/codec.errForm"], plainKeys := false, apart := false, laid := [("wapentake/sha.k", laid_wapentake_sha_k), ("errors.errorType", laid_errors_errorType), ("wapentake/codec.errForm", laid_wapentake_codec_errForm), ("wapentake/codec.errBytes", laid_wapentake_codec_errBytes)], narrowed := true }
def TopRefusedUptoSaid : Prop := topRefusedUptoRow.holds Tryz.pinned (OpenSpec.upto topRefusedSpec)

/-- 'wapentaketop.TopCut', WHERE WHAT IT READS IS OF BULK AT MOST 1048576: true; the input reads as it did. -/
def topCutUptoRow : OpenClaim := { program := "ytddoimkbjgfjnaagreatdoor", sum := "38e38830939e0aa0755d6fc02119cba1442fdc2bc5f159ba2e7f798a6d18a01f", func := "wapentake/wapentaketop.TopCut", spec := "topCut", inPlace := ["math/bits.Add64", "internal/bytealg.Compare", "slices.overlaps[wapentake/api.Account]", "slices.overlaps[int]", "slices.overlaps[wapentake/api.Lock]", "slices.overlaps[wapentake/api.Digest]", "internal/reflectlite.TypeOf", "internal/reflectlite.ValueOf", "(internal/reflectlite.Value).Type", "(internal/reflectlite.Value).IsNil", "(internal/reflectlite.Value).Elem", "(internal/reflectlite.Value).Set"], unfollowed := true, recurses := true, named := ["wapentake/sha.k", "wapentake/codec.errBytes", "errors.errorType", "wapentake/codec.errForm"], plainKeys := false, apart := false, laid := [("wapentake/sha.k", laid_wapentake_sha_k), ("errors.errorType", laid_errors_errorType), ("wapentake/codec.errForm", laid_wapentake_codec_errForm), ("wapentake/codec.errBytes", laid_wapentake_codec_errBytes)], narrowed := true }
def TopCutUptoSaid : Prop := topCutUptoRow.holds Tryz.pinned (OpenSpec.upto topCutSpec)

end Rows
end Go.Proofs.YtddoimkbjgfjnaaGreatDoor
