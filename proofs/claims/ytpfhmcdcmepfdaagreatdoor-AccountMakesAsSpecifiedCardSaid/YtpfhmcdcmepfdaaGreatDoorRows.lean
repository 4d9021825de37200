/-
  NARROWER THAN 'FOR EVERY INPUT', by the rows' own cells (each row's printed sentence says how): OriginStampsAsSpecified: laid · AccountConfirmsAsSpecified: laid · AccountMakesAsSpecified: laid · AccountMadeIsAccepted: laid · AccountChangesAreFound: laid · AccountNamesLiars: laid.
  DERIVED. THE GIVEN ROWS OF THIS SEAT. 6 by the template 'for every input the law returns true; each argument reads behind the call as it read before'; 0 by the template 'total and deterministic' (their statements: YtpfhmcdcmepfdaaGreatDoorTotals.lean).
  GIVEN WITH THE SEED: the statements are not yours to turn. If you find one false, say at which input.
  Laid BY PROGRAM, IN A SANDBOX (cutbox-rows.mjs): the forced cells as the released guide's own fill.sh prints them over the translation a3c046945fe9cc7c… (all of the seat's roots in one cut). By AI agents, Wed Nov 11 2026. No macro, syntax, notation, axiom, sorry.
-/
import Derived.Test.YtpfhmcdcmepfdaaGreatDoorChecked
import GoSem.PinnedTables
import GoSem.Claim
import GoSem.ClaimJoined
import GoSem.ClaimMapViews
import Derived.JoinedTies
import Derived.KernelRfl
namespace Go.Proofs.YtpfhmcdcmepfdaaGreatDoor
/- THE CELL 'sum', in the pinned program and in every row, IS THE sha256 OF THE DUMP (.gsa) THAT YtpfhmcdcmepfdaaGreatDoorProg.lean LOADS. Nothing in Lean hashes anything: it is a label: what it is worth is what the hold of that sum in a sandbox is worth. -/
noncomputable def Tryz.pinned : Pinned := { name := "ytpfhmcdcmepfdaagreatdoor", sum := "a3c046945fe9cc7c3979eae0bef2011f2895f5fc8678bed3deeb76a2c6f566a6", checked := Tryz.checked }
namespace Rows
def none {H : Type} : Left H := { results := [], args := [] }

/- WHAT THE LISTED PACKAGE-LEVEL VARIABLES READ AS WHEN THE CALL BEGINS. Each datum BY PROGRAM (the guide's laid-datum.mjs) off the statement by which the dump's own 'gosem.cut.vars' lays the variable. In a bare row this is a premise. The card (YtpfhmcdcmepfdaaGreatDoorCards.lean) ties it to the program's text. -/
def laid_unicode_utf8_acceptRanges {H : Type} : DataW H := .agg [.agg [.lit (.int .u8 128), .lit (.int .u8 191)], .agg [.lit (.int .u8 160), .lit (.int .u8 191)], .agg [.lit (.int .u8 128), .lit (.int .u8 159)], .agg [.lit (.int .u8 144), .lit (.int .u8 191)], .agg [.lit (.int .u8 128), .lit (.int .u8 143)], .agg [.lit (.int .u8 0), .lit (.int .u8 0)], .agg [.lit (.int .u8 0), .lit (.int .u8 0)], .agg [.lit (.int .u8 0), .lit (.int .u8 0)], .agg [.lit (.int .u8 0), .lit (.int .u8 0)], .agg [.lit (.int .u8 0), .lit (.int .u8 0)], .agg [.lit (.int .u8 0), .lit (.int .u8 0)], .agg [.lit (.int .u8 0), .lit (.int .u8 0)], .agg [.lit (.int .u8 0), .lit (.int .u8 0)], .agg [.lit (.int .u8 0), .lit (.int .u8 0)], .agg [.lit (.int .u8 0), .lit (.int .u8 0)], .agg [.lit (.int .u8 0), .lit (.int .u8 0)]]
def laid_weirgate_weirgateref02_constants {H : Type} : DataW H := .agg [.lit (.int .u32 1116352408), .lit (.int .u32 1899447441), .lit (.int .u32 3049323471), .lit (.int .u32 3921009573), .lit (.int .u32 961987163), .lit (.int .u32 1508970993), .lit (.int .u32 2453635748), .lit (.int .u32 2870763221), .lit (.int .u32 3624381080), .lit (.int .u32 310598401), .lit (.int .u32 607225278), .lit (.int .u32 1426881987), .lit (.int .u32 1925078388), .lit (.int .u32 2162078206), .lit (.int .u32 2614888103), .lit (.int .u32 3248222580), .lit (.int .u32 3835390401), .lit (.int .u32 4022224774), .lit (.int .u32 264347078), .lit (.int .u32 604807628), .lit (.int .u32 770255983), .lit (.int .u32 1249150122), .lit (.int .u32 1555081692), .lit (.int .u32 1996064986), .lit (.int .u32 2554220882), .lit (.int .u32 2821834349), .lit (.int .u32 2952996808), .lit (.int .u32 3210313671), .lit (.int .u32 3336571891), .lit (.int .u32 3584528711), .lit (.int .u32 113926993), .lit (.int .u32 338241895), .lit (.int .u32 666307205), .lit (.int .u32 773529912), .lit (.int .u32 1294757372), .lit (.int .u32 1396182291), .lit (.int .u32 1695183700), .lit (.int .u32 1986661051), .lit (.int .u32 2177026350), .lit (.int .u32 2456956037), .lit (.int .u32 2730485921), .lit (.int .u32 2820302411), .lit (.int .u32 3259730800), .lit (.int .u32 3345764771), .lit (.int .u32 3516065817), .lit (.int .u32 3600352804), .lit (.int .u32 4094571909), .lit (.int .u32 275423344), .lit (.int .u32 430227734), .lit (.int .u32 506948616), .lit (.int .u32 659060556), .lit (.int .u32 883997877), .lit (.int .u32 958139571), .lit (.int .u32 1322822218), .lit (.int .u32 1537002063), .lit (.int .u32 1747873779), .lit (.int .u32 1955562222), .lit (.int .u32 2024104815), .lit (.int .u32 2227730452), .lit (.int .u32 2361852424), .lit (.int .u32 2428436474), .lit (.int .u32 2756734187), .lit (.int .u32 3204031479), .lit (.int .u32 3329325298)]
def laid_weirgate_hash_constants {H : Type} : DataW H := .agg [.lit (.int .u32 1116352408), .lit (.int .u32 1899447441), .lit (.int .u32 3049323471), .lit (.int .u32 3921009573), .lit (.int .u32 961987163), .lit (.int .u32 1508970993), .lit (.int .u32 2453635748), .lit (.int .u32 2870763221), .lit (.int .u32 3624381080), .lit (.int .u32 310598401), .lit (.int .u32 607225278), .lit (.int .u32 1426881987), .lit (.int .u32 1925078388), .lit (.int .u32 2162078206), .lit (.int .u32 2614888103), .lit (.int .u32 3248222580), .lit (.int .u32 3835390401), .lit (.int .u32 4022224774), .lit (.int .u32 264347078), .lit (.int .u32 604807628), .lit (.int .u32 770255983), .lit (.int .u32 1249150122), .lit (.int .u32 1555081692), .lit (.int .u32 1996064986), .lit (.int .u32 2554220882), .lit (.int .u32 2821834349), .lit (.int .u32 2952996808), .lit (.int .u32 3210313671), .lit (.int .u32 3336571891), .lit (.int .u32 3584528711), .lit (.int .u32 113926993), .lit (.int .u32 338241895), .lit (.int .u32 666307205), .lit (.int .u32 773529912), .lit (.int .u32 1294757372), .lit (.int .u32 1396182291), .lit (.int .u32 1695183700), .lit (.int .u32 1986661051), .lit (.int .u32 2177026350), .lit (.int .u32 2456956037), .lit (.int .u32 2730485921), .lit (.int .u32 2820302411), .lit (.int .u32 3259730800), .lit (.int .u32 3345764771), .lit (.int .u32 3516065817), .lit (.int .u32 3600352804), .lit (.int .u32 4094571909), .lit (.int .u32 275423344), .lit (.int .u32 430227734), .lit (.int .u32 506948616), .lit (.int .u32 659060556), .lit (.int .u32 883997877), .lit (.int .u32 958139571), .lit (.int .u32 1322822218), .lit (.int .u32 1537002063), .lit (.int .u32 1747873779), .lit (.int .u32 1955562222), .lit (.int .u32 2024104815), .lit (.int .u32 2227730452), .lit (.int .u32 2361852424), .lit (.int .u32 2428436474), .lit (.int .u32 2756734187), .lit (.int .u32 3204031479), .lit (.int .u32 3329325298)]
/-- One of Go's own tables, pinned by name: the form's constant. -/
def laid_unicode_utf8_first : DataW Unit := Go.Pinned.utf8First

/-- 'weirgatelaw34.OriginStampsAsSpecified': WHATEVER THE INPUT: true; the input reads as it did. -/
def originStampsAsSpecifiedSpec : ChangeSpec := { name := "originStampsAsSpecified", fn := fun _ => fun
  | [d1, d2, d3, d4, d5, d6, d7] => { results := [.lit (.bool true)], args := [d1, d2, d3, d4, d5, d6, d7] }
  | _ => none }
def originStampsAsSpecifiedRow : OpenClaim := { program := "ytpfhmcdcmepfdaagreatdoor", sum := "a3c046945fe9cc7c3979eae0bef2011f2895f5fc8678bed3deeb76a2c6f566a6", func := "weirgate/weirgatelaw34.OriginStampsAsSpecified", spec := "originStampsAsSpecified", inPlace := ["internal/bytealg.CountString", "internal/bytealg.IndexByteString", "internal/bytealg.IndexString", "internal/abi.NoEscape", "internal/bytealg.MakeNoZero"], unfollowed := true, recurses := true, named := ["weirgate/hash.constants", "unicode/utf8.first", "unicode/utf8.acceptRanges", "internal/bytealg.MaxLen", "weirgate/weirgateref02.constants"], apart := false, laid := [("unicode/utf8.acceptRanges", laid_unicode_utf8_acceptRanges), ("weirgate/weirgateref02.constants", laid_weirgate_weirgateref02_constants), ("weirgate/hash.constants", laid_weirgate_hash_constants), ("unicode/utf8.first", laid_unicode_utf8_first)] }
def OriginStampsAsSpecifiedSaid : Prop := originStampsAsSpecifiedRow.holds Tryz.pinned (OpenSpec.ofChange originStampsAsSpecifiedSpec)

/-- ITS FALSE NEIGHBOUR: 'it returns false'. Refute it at one input. -/
def originStampsAsSpecifiedWrong : ChangeSpec := { name := "originStampsAsSpecified", fn := fun _ => fun
  | [d1, d2, d3, d4, d5, d6, d7] => { results := [.lit (.bool false)], args := [d1, d2, d3, d4, d5, d6, d7] }
  | _ => none }
def OriginStampsAsSpecifiedWrongFalsely : Prop := originStampsAsSpecifiedRow.holds Tryz.pinned (OpenSpec.ofChange originStampsAsSpecifiedWrong)

/-- 'weirgatelaw32.AccountConfirmsAsSpecified': WHATEVER THE INPUT: true; the input reads as it did. -/
def accountConfirmsAsSpecifiedSpec : ChangeSpec := { name := "accountConfirmsAsSpecified", fn := fun _ => fun
  | [d1, d2, d3, d4, d5, d6] => { results := [.lit (.bool true)], args := [d1, d2, d3, d4, d5, d6] }
  | _ => none }
def accountConfirmsAsSpecifiedRow : OpenClaim := { program := "ytpfhmcdcmepfdaagreatdoor", sum := "a3c046945fe9cc7c3979eae0bef2011f2895f5fc8678bed3deeb76a2c6f566a6", func := "weirgate/weirgatelaw32.AccountConfirmsAsSpecified", spec := "accountConfirmsAsSpecified", inPlace := ["internal/bytealg.IndexByteString", "internal/bytealg.IndexString", "internal/abi.NoEscape", "internal/bytealg.MakeNoZero"], unfollowed := true, recurses := true, named := ["internal/bytealg.MaxLen", "unicode/utf8.first", "unicode/utf8.acceptRanges", "weirgate/hash.constants", "weirgate/weirgateref02.constants"], apart := false, laid := [("unicode/utf8.acceptRanges", laid_unicode_utf8_acceptRanges), ("weirgate/weirgateref02.constants", laid_weirgate_weirgateref02_constants), ("weirgate/hash.constants", laid_weirgate_hash_constants), ("unicode/utf8.first", laid_unicode_utf8_first)] }
def AccountConfirmsAsSpecifiedSaid : Prop := accountConfirmsAsSpecifiedRow.holds Tryz.pinned (OpenSpec.ofChange accountConfirmsAsSpecifiedSpec)

/-- ITS FALSE NEIGHBOUR: 'it returns false'. Refute it at one input. -/
def accountConfirmsAsSpecifiedWrong : ChangeSpec := { name := "accountConfirmsAsSpecified", fn := fun _ => fun
  | [d1, d2, d3, d4, d5, d6] => { results := [.lit (.bool false)], args := [d1, d2, d3, d4, d5, d6] }
  | _ => none }
def AccountConfirmsAsSpecifiedWrongFalsely : Prop := accountConfirmsAsSpecifiedRow.holds Tryz.pinned (OpenSpec.ofChange accountConfirmsAsSpecifiedWrong)

/-- 'weirgatelaw32.AccountMakesAsSpecified': WHATEVER THE INPUT: true; the input reads as it did. -/
def accountMakesAsSpecifiedSpec : ChangeSpec := { name := "accountMakesAsSpecified", fn := fun _ => fun
  | [d1, d2, d3, d4, d5, d6] => { results := [.lit (.bool true)], args := [d1, d2, d3, d4, d5, d6] }
  | _ => none }
def accountMakesAsSpecifiedRow : OpenClaim := { program := "ytpfhmcdcmepfdaagreatdoor", sum := "a3c046945fe9cc7c3979eae0bef2011f2895f5fc8678bed3deeb76a2c6f566a6", func := "weirgate/weirgatelaw32.AccountMakesAsSpecified", spec := "accountMakesAsSpecified", inPlace := ["internal/bytealg.IndexByteString", "internal/bytealg.IndexString", "internal/abi.NoEscape", "internal/bytealg.MakeNoZero"], unfollowed := true, recurses := true, named := ["internal/bytealg.MaxLen", "unicode/utf8.first", "unicode/utf8.acceptRanges", "weirgate/hash.constants", "weirgate/weirgateref02.constants"], apart := false, laid := [("unicode/utf8.acceptRanges", laid_unicode_utf8_acceptRanges), ("weirgate/weirgateref02.constants", laid_weirgate_weirgateref02_constants), ("weirgate/hash.constants", laid_weirgate_hash_constants), ("unicode/utf8.first", laid_unicode_utf8_first)] }
def AccountMakesAsSpecifiedSaid : Prop := accountMakesAsSpecifiedRow.holds Tryz.pinned (OpenSpec.ofChange accountMakesAsSpecifiedSpec)

/-- ITS FALSE NEIGHBOUR: 'it returns false'. Refute it at one input. -/
def accountMakesAsSpecifiedWrong : ChangeSpec := { name := "accountMakesAsSpecified", fn := fun _ => fun
  | [d1, d2, d3, d4, d5, d6] => { results := [.lit (.bool false)], args := [d1, d2, d3, d4, d5, d6] }
  | _ => none }
def AccountMakesAsSpecifiedWrongFalsely : Prop := accountMakesAsSpecifiedRow.holds Tryz.pinned (OpenSpec.ofChange accountMakesAsSpecifiedWrong)

/-- 'weirgatelaw32.AccountMadeIsAccepted': WHATEVER THE INPUT: true; the input reads as it did. -/
def accountMadeIsAcceptedSpec : ChangeSpec := { name := "accountMadeIsAccepted", fn := fun _ => fun
  | [d1, d2, d3, d4] => { results := [.lit (.bool true)], args := [d1, d2, d3, d4] }
  | _ => none }
def accountMadeIsAcceptedRow : OpenClaim := { program := "ytpfhmcdcmepfdaagreatdoor", sum := "a3c046945fe9cc7c3979eae0bef2011f2895f5fc8678bed3deeb76a2c6f566a6", func := "weirgate/weirgatelaw32.AccountMadeIsAccepted", spec := "accountMadeIsAccepted", inPlace := ["internal/bytealg.IndexByteString", "internal/bytealg.IndexString", "internal/abi.NoEscape", "internal/bytealg.MakeNoZero"], unfollowed := true, recurses := true, named := ["internal/bytealg.MaxLen", "unicode/utf8.first", "unicode/utf8.acceptRanges", "weirgate/hash.constants", "weirgate/weirgateref02.constants"], apart := false, laid := [("unicode/utf8.acceptRanges", laid_unicode_utf8_acceptRanges), ("weirgate/weirgateref02.constants", laid_weirgate_weirgateref02_constants), ("weirgate/hash.constants", laid_weirgate_hash_constants), ("unicode/utf8.first", laid_unicode_utf8_first)] }
def AccountMadeIsAcceptedSaid : Prop := accountMadeIsAcceptedRow.holds Tryz.pinned (OpenSpec.ofChange accountMadeIsAcceptedSpec)

/-- ITS FALSE NEIGHBOUR: 'it returns false'. Refute it at one input. -/
def accountMadeIsAcceptedWrong : ChangeSpec := { name := "accountMadeIsAccepted", fn := fun _ => fun
  | [d1, d2, d3, d4] => { results := [.lit (.bool false)], args := [d1, d2, d3, d4] }
  | _ => none }
def AccountMadeIsAcceptedWrongFalsely : Prop := accountMadeIsAcceptedRow.holds Tryz.pinned (OpenSpec.ofChange accountMadeIsAcceptedWrong)

/-- 'weirgatelaw32.AccountChangesAreFound': WHATEVER THE INPUT: true; the input reads as it did. -/
def accountChangesAreFoundSpec : ChangeSpec := { name := "accountChangesAreFound", fn := fun _ => fun
  | [d1, d2, d3, d4, d5, d6, d7] => { results := [.lit (.bool true)], args := [d1, d2, d3, d4, d5, d6, d7] }
  | _ => none }
def accountChangesAreFoundRow : OpenClaim := { program := "ytpfhmcdcmepfdaagreatdoor", sum := "a3c046945fe9cc7c3979eae0bef2011f2895f5fc8678bed3deeb76a2c6f566a6", func := "weirgate/weirgatelaw32.AccountChangesAreFound", spec := "accountChangesAreFound", inPlace := ["internal/bytealg.IndexByteString", "internal/bytealg.IndexString", "internal/abi.NoEscape", "internal/bytealg.MakeNoZero"], unfollowed := true, recurses := true, named := ["internal/bytealg.MaxLen", "unicode/utf8.first", "unicode/utf8.acceptRanges", "weirgate/hash.constants", "weirgate/weirgateref02.constants"], apart := false, laid := [("unicode/utf8.acceptRanges", laid_unicode_utf8_acceptRanges), ("weirgate/weirgateref02.constants", laid_weirgate_weirgateref02_constants), ("weirgate/hash.constants", laid_weirgate_hash_constants), ("unicode/utf8.first", laid_unicode_utf8_first)] }
def AccountChangesAreFoundSaid : Prop := accountChangesAreFoundRow.holds Tryz.pinned (OpenSpec.ofChange accountChangesAreFoundSpec)

/-- ITS FALSE NEIGHBOUR: 'it returns false'. Refute it at one input. -/
def accountChangesAreFoundWrong : ChangeSpec := { name := "accountChangesAreFound", fn := fun _ => fun
  | [d1, d2, d3, d4, d5, d6, d7] => { results := [.lit (.bool false)], args := [d1, d2, d3, d4, d5, d6, d7] }
  | _ => none }
def AccountChangesAreFoundWrongFalsely : Prop := accountChangesAreFoundRow.holds Tryz.pinned (OpenSpec.ofChange accountChangesAreFoundWrong)

/-- 'weirgatelaw32.AccountNamesLiars': WHATEVER THE INPUT: true; the input reads as it did. -/
def accountNamesLiarsSpec : ChangeSpec := { name := "accountNamesLiars", fn := fun _ => fun
  | [d1, d2, d3, d4, d5] => { results := [.lit (.bool true)], args := [d1, d2, d3, d4, d5] }
  | _ => none }
def accountNamesLiarsRow : OpenClaim := { program := "ytpfhmcdcmepfdaagreatdoor", sum := "a3c046945fe9cc7c3979eae0bef2011f2895f5fc8678bed3deeb76a2c6f566a6", func := "weirgate/weirgatelaw32.AccountNamesLiars", spec := "accountNamesLiars", inPlace := ["internal/bytealg.IndexByteString", "internal/bytealg.IndexString", "internal/abi.NoEscape", "internal/bytealg.MakeNoZero"], unfollowed := true, recurses := true, named := ["internal/bytealg.MaxLen", "unicode/utf8.first", "unicode/utf8.acceptRanges", "weirgate/hash.constants", "weirgate/weirgateref02.constants"], apart := false, laid := [("unicode/utf8.acceptRanges", laid_unicode_utf8_acceptRanges), ("weirgate/weirgateref02.constants", laid_weirgate_weirgateref02_constants), ("weirgate/hash.constants", laid_weirgate_hash_constants), ("unicode/utf8.first", laid_unicode_utf8_first)] }
def AccountNamesLiarsSaid : Prop := accountNamesLiarsRow.holds Tryz.pinned (OpenSpec.ofChange accountNamesLiarsSpec)

/-- ITS FALSE NEIGHBOUR: 'it returns false'. Refute it at one input. -/
def accountNamesLiarsWrong : ChangeSpec := { name := "accountNamesLiars", fn := fun _ => fun
  | [d1, d2, d3, d4, d5] => { results := [.lit (.bool false)], args := [d1, d2, d3, d4, d5] }
  | _ => none }
def AccountNamesLiarsWrongFalsely : Prop := accountNamesLiarsRow.holds Tryz.pinned (OpenSpec.ofChange accountNamesLiarsWrong)

/- THE SECOND FORM. 'bulk': how many values and letters a reading holds, each counted each time it is reached (what is shared counts as often as it is met; a slice's spare places count too). A statement '..UptoSaid' is the law's where the arguments, and the package variables that the reading takes, are together of bulk at most 1048576: NARROWER than '..Said'. Prove '..Said' where nothing that the law and all that it calls make is longer than what came in: it says more and counts as full. Else prove '..UptoSaid'. A law counts once. -/
mutual
def uptoBulk {H : Type} : DataW H → Nat
  | .lit (.string bytes) => bytes.length + 1
  | .lit _ => 1
  | .nil => 1
  | .ptr d => uptoBulk d + 1
  | .slice elems spare => uptoBulkAll elems + uptoBulkAll spare + 1
  | .agg parts => uptoBulkAll parts + 1
  | .iface _ d => uptoBulk d + 1
  | .map entries => uptoBulkEntries entries + 1
  | .held _ => 1
def uptoBulkAll {H : Type} : List (DataW H) → Nat
  | [] => 0
  | d :: r => uptoBulk d + uptoBulkAll r
def uptoBulkEntries {H : Type} : List (Lit × DataW H) → Nat
  | [] => 0
  | x :: r => uptoBulkEntry x + uptoBulkEntries r
def uptoBulkEntry {H : Type} : Lit × DataW H → Nat
  | (.string bytes, d) => bytes.length + uptoBulk d + 1
  | (_, d) => uptoBulk d + 1
 end
def uptoSmall : (H : Type) → List (DataW H) → Bool := fun _ ds => decide (uptoBulkAll ds ≤ 1048576)
def OpenSpec.upto (s : _root_.Go.ChangeSpec) : _root_.Go.OpenSpec := { _root_.Go.OpenSpec.ofChange s with cond := some uptoSmall }

/-- 'weirgatelaw34.OriginStampsAsSpecified', WHERE WHAT IT READS IS OF BULK AT MOST 1048576: true; the input reads as it did. -/
def originStampsAsSpecifiedUptoRow : OpenClaim := { program := "ytpfhmcdcmepfdaagreatdoor", sum := "a3c046945fe9cc7c3979eae0bef2011f2895f5fc8678bed3deeb76a2c6f566a6", func := "weirgate/weirgatelaw34.OriginStampsAsSpecified", spec := "originStampsAsSpecified", inPlace := ["internal/bytealg.CountString", "internal/bytealg.IndexByteString", "internal/bytealg.IndexString", "internal/abi.NoEscape", "internal/bytealg.MakeNoZero"], unfollowed := true, recurses := true, named := ["weirgate/hash.constants", "unicode/utf8.first", "unicode/utf8.acceptRanges", "internal/bytealg.MaxLen", "weirgate/weirgateref02.constants"], apart := false, laid := [("unicode/utf8.acceptRanges", laid_unicode_utf8_acceptRanges), ("weirgate/weirgateref02.constants", laid_weirgate_weirgateref02_constants), ("weirgate/hash.constants", laid_weirgate_hash_constants), ("unicode/utf8.first", laid_unicode_utf8_first)], narrowed := true }
def OriginStampsAsSpecifiedUptoSaid : Prop := originStampsAsSpecifiedUptoRow.holds Tryz.pinned (OpenSpec.upto originStampsAsSpecifiedSpec)

/-- 'weirgatelaw32.AccountConfirmsAsSpecified', WHERE WHAT IT READS IS OF BULK AT MOST 1048576: true; the input reads as it did. -/
def accountConfirmsAsSpecifiedUptoRow : OpenClaim := { program := "ytpfhmcdcmepfdaagreatdoor", sum := "a3c046945fe9cc7c3979eae0bef2011f2895f5fc8678bed3deeb76a2c6f566a6", func := "weirgate/weirgatelaw32.AccountConfirmsAsSpecified", spec := "accountConfirmsAsSpecified", inPlace := ["internal/bytealg.IndexByteString", "internal/bytealg.IndexString", "internal/abi.NoEscape", "internal/bytealg.MakeNoZero"], unfollowed := true, recurses := true, named := ["internal/bytealg.MaxLen", "unicode/utf8.first", "unicode/utf8.acceptRanges", "weirgate/hash.constants", "weirgate/weirgateref02.constants"], apart := false, laid := [("unicode/utf8.acceptRanges", laid_unicode_utf8_acceptRanges), ("weirgate/weirgateref02.constants", laid_weirgate_weirgateref02_constants), ("weirgate/hash.constants", laid_weirgate_hash_constants), ("unicode/utf8.first", laid_unicode_utf8_first)], narrowed := true }
def AccountConfirmsAsSpecifiedUptoSaid : Prop := accountConfirmsAsSpecifiedUptoRow.holds Tryz.pinned (OpenSpec.upto accountConfirmsAsSpecifiedSpec)

/-- 'weirgatelaw32.AccountMakesAsSpecified', WHERE WHAT IT READS IS OF BULK AT MOST 1048576: true; the input reads as it did. -/
def accountMakesAsSpecifiedUptoRow : OpenClaim := { program := "ytpfhmcdcmepfdaagreatdoor", sum := "a3c046945fe9cc7c3979eae0bef2011f2895f5fc8678bed3deeb76a2c6f566a6", func := "weirgate/weirgatelaw32.AccountMakesAsSpecified", spec := "accountMakesAsSpecified", inPlace := ["internal/bytealg.IndexByteString", "internal/bytealg.IndexString", "internal/abi.NoEscape", "internal/bytealg.MakeNoZero"], unfollowed := true, recurses := true, named := ["internal/bytealg.MaxLen", "unicode/utf8.first", "unicode/utf8.acceptRanges", "weirgate/hash.constants", "weirgate/weirgateref02.constants"], apart := false, laid := [("unicode/utf8.acceptRanges", laid_unicode_utf8_acceptRanges), ("weirgate/weirgateref02.constants", laid_weirgate_weirgateref02_constants), ("weirgate/hash.constants", laid_weirgate_hash_constants), ("unicode/utf8.first", laid_unicode_utf8_first)], narrowed := true }
def AccountMakesAsSpecifiedUptoSaid : Prop := accountMakesAsSpecifiedUptoRow.holds Tryz.pinned (OpenSpec.upto accountMakesAsSpecifiedSpec)

/-- 'weirgatelaw32.AccountMadeIsAccepted', WHERE WHAT IT READS IS OF BULK AT MOST 1048576: true; the input reads as it did. -/
def accountMadeIsAcceptedUptoRow : OpenClaim := { program := "ytpfhmcdcmepfdaagreatdoor", sum := "a3c046945fe9cc7c3979eae0bef2011f2895f5fc8678bed3deeb76a2c6f566a6", func := "weirgate/weirgatelaw32.AccountMadeIsAccepted", spec := "accountMadeIsAccepted", inPlace := ["internal/bytealg.IndexByteString", "internal/bytealg.IndexString", "internal/abi.NoEscape", "internal/bytealg.MakeNoZero"], unfollowed := true, recurses := true, named := ["internal/bytealg.MaxLen", "unicode/utf8.first", "unicode/utf8.acceptRanges", "weirgate/hash.constants", "weirgate/weirgateref02.constants"], apart := false, laid := [("unicode/utf8.acceptRanges", laid_unicode_utf8_acceptRanges), ("weirgate/weirgateref02.constants", laid_weirgate_weirgateref02_constants), ("weirgate/hash.constants", laid_weirgate_hash_constants), ("unicode/utf8.first", laid_unicode_utf8_first)], narrowed := true }
def AccountMadeIsAcceptedUptoSaid : Prop := accountMadeIsAcceptedUptoRow.holds Tryz.pinned (OpenSpec.upto accountMadeIsAcceptedSpec)

/-- 'weirgatelaw32.AccountChangesAreFound', WHERE WHAT IT READS IS OF BULK AT MOST 1048576: true; the input reads as it did. -/
def accountChangesAreFoundUptoRow : OpenClaim := { program := "ytpfhmcdcmepfdaagreatdoor", sum := "a3c046945fe9cc7c3979eae0bef2011f2895f5fc8678bed3deeb76a2c6f566a6", func := "weirgate/weirgatelaw32.AccountChangesAreFound", spec := "accountChangesAreFound", inPlace := ["internal/bytealg.IndexByteString", "internal/bytealg.IndexString", "internal/abi.NoEscape", "internal/bytealg.MakeNoZero"], unfollowed := true, recurses := true, named := ["internal/bytealg.MaxLen", "unicode/utf8.first", "unicode/utf8.acceptRanges", "weirgate/hash.constants", "weirgate/weirgateref02.constants"], apart := false, laid := [("unicode/utf8.acceptRanges", laid_unicode_utf8_acceptRanges), ("weirgate/weirgateref02.constants", laid_weirgate_weirgateref02_constants), ("weirgate/hash.constants", laid_weirgate_hash_constants), ("unicode/utf8.first", laid_unicode_utf8_first)], narrowed := true }
def AccountChangesAreFoundUptoSaid : Prop := accountChangesAreFoundUptoRow.holds Tryz.pinned (OpenSpec.upto accountChangesAreFoundSpec)

/-- 'weirgatelaw32.AccountNamesLiars', WHERE WHAT IT READS IS OF BULK AT MOST 1048576: true; the input reads as it did. -/
def accountNamesLiarsUptoRow : OpenClaim := { program := "ytpfhmcdcmepfdaagreatdoor", sum := "a3c046945fe9cc7c3979eae0bef2011f2895f5fc8678bed3deeb76a2c6f566a6", func := "weirgate/weirgatelaw32.AccountNamesLiars", spec := "accountNamesLiars", inPlace := ["internal/bytealg.IndexByteString", "internal/bytealg.IndexString", "internal/abi.NoEscape", "internal/bytealg.MakeNoZero"], unfollowed := true, recurses := true, named := ["internal/bytealg.MaxLen", "unicode/utf8.first", "unicode/utf8.acceptRanges", "weirgate/hash.constants", "weirgate/weirgateref02.constants"], apart := false, laid := [("unicode/utf8.acceptRanges", laid_unicode_utf8_acceptRanges), ("weirgate/weirgateref02.constants", laid_weirgate_weirgateref02_constants), ("weirgate/hash.constants", laid_weirgate_hash_constants), ("unicode/utf8.first", laid_unicode_utf8_first)], narrowed := true }
def AccountNamesLiarsUptoSaid : Prop := accountNamesLiarsUptoRow.holds Tryz.pinned (OpenSpec.upto accountNamesLiarsSpec)

end Rows
end Go.Proofs.YtpfhmcdcmepfdaaGreatDoor
