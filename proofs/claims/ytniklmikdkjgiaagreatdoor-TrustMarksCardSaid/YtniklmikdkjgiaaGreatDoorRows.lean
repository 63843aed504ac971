/-
  NARROWER THAN 'FOR EVERY INPUT', by the rows' own cells (each row's printed sentence says how): PrivacyMatchesReference: laid · PrivacyLeaves: laid · PrivacyOrder: laid · ModerateMatchesReference: laid · ModerateLast: laid · ModerateOthers: laid · ModeratePlain: laid · ModerateBeginnings: laid · PrivacyRemoves: laid · TrustMonotone: laid · TrustOthers: laid · TrustMarks: laid.
  DERIVED. THE GIVEN ROWS OF THIS SEAT. 12 by the template 'for every input the law returns true; each argument reads behind the call as it read before'; 0 by the template 'total and deterministic' (their statements: YtniklmikdkjgiaaGreatDoorTotals.lean).
  GIVEN WITH THE SEED: the statements are not yours to turn. If you find one false, say at which input.
  Laid BY PROGRAM, IN A SANDBOX (cutbox-rows.mjs): the forced cells as the released guide's own fill.sh prints them over the translation 13755757f8e1813d… (all of the seat's roots in one cut). By AI agents, Wed Nov 11 2026. No macro, syntax, notation, axiom, sorry.
-/
import Derived.Test.YtniklmikdkjgiaaGreatDoorChecked
import GoSem.PinnedTables
import GoSem.Claim
import GoSem.ClaimJoined
import GoSem.ClaimMapViews
import Derived.JoinedTies
import Derived.KernelRfl
namespace Go.Proofs.YtniklmikdkjgiaaGreatDoor
/- THE CELL 'sum', in the pinned program and in every row, IS THE sha256 OF THE DUMP (.gsa) THAT YtniklmikdkjgiaaGreatDoorProg.lean LOADS. Nothing in Lean hashes anything: it is a label: what it is worth is what the hold of that sum in a sandbox is worth. -/
noncomputable def Tryz.pinned : Pinned := { name := "ytniklmikdkjgiaagreatdoor", sum := "13755757f8e1813d34d3008faf96dffd214f0de1f6bb46514f1f4bd93e0e3e06", checked := Tryz.checked }
namespace Rows
def none {H : Type} : Left H := { results := [], args := [] }

/- WHAT THE LISTED PACKAGE-LEVEL VARIABLES READ AS WHEN THE CALL BEGINS. Each datum BY PROGRAM (the guide's laid-datum.mjs) off the statement by which the dump's own 'gosem.cut.vars' lays the variable. In a bare row this is a premise. The card (YtniklmikdkjgiaaGreatDoorCards.lean) ties it to the program's text. -/
def laid_math_bits_deBruijn32tab {H : Type} : DataW H := .agg [.lit (.int .u8 0), .lit (.int .u8 1), .lit (.int .u8 28), .lit (.int .u8 2), .lit (.int .u8 29), .lit (.int .u8 14), .lit (.int .u8 24), .lit (.int .u8 3), .lit (.int .u8 30), .lit (.int .u8 22), .lit (.int .u8 20), .lit (.int .u8 15), .lit (.int .u8 25), .lit (.int .u8 17), .lit (.int .u8 4), .lit (.int .u8 8), .lit (.int .u8 31), .lit (.int .u8 27), .lit (.int .u8 13), .lit (.int .u8 23), .lit (.int .u8 21), .lit (.int .u8 19), .lit (.int .u8 16), .lit (.int .u8 7), .lit (.int .u8 26), .lit (.int .u8 12), .lit (.int .u8 18), .lit (.int .u8 6), .lit (.int .u8 11), .lit (.int .u8 5), .lit (.int .u8 10), .lit (.int .u8 9)]
def laid_math_bits_deBruijn64tab {H : Type} : DataW H := .agg [.lit (.int .u8 0), .lit (.int .u8 1), .lit (.int .u8 56), .lit (.int .u8 2), .lit (.int .u8 57), .lit (.int .u8 49), .lit (.int .u8 28), .lit (.int .u8 3), .lit (.int .u8 61), .lit (.int .u8 58), .lit (.int .u8 42), .lit (.int .u8 50), .lit (.int .u8 38), .lit (.int .u8 29), .lit (.int .u8 17), .lit (.int .u8 4), .lit (.int .u8 62), .lit (.int .u8 47), .lit (.int .u8 59), .lit (.int .u8 36), .lit (.int .u8 45), .lit (.int .u8 43), .lit (.int .u8 51), .lit (.int .u8 22), .lit (.int .u8 53), .lit (.int .u8 39), .lit (.int .u8 33), .lit (.int .u8 30), .lit (.int .u8 24), .lit (.int .u8 18), .lit (.int .u8 12), .lit (.int .u8 5), .lit (.int .u8 63), .lit (.int .u8 55), .lit (.int .u8 48), .lit (.int .u8 27), .lit (.int .u8 60), .lit (.int .u8 41), .lit (.int .u8 37), .lit (.int .u8 16), .lit (.int .u8 46), .lit (.int .u8 35), .lit (.int .u8 44), .lit (.int .u8 21), .lit (.int .u8 52), .lit (.int .u8 32), .lit (.int .u8 23), .lit (.int .u8 11), .lit (.int .u8 54), .lit (.int .u8 26), .lit (.int .u8 40), .lit (.int .u8 15), .lit (.int .u8 34), .lit (.int .u8 20), .lit (.int .u8 31), .lit (.int .u8 10), .lit (.int .u8 25), .lit (.int .u8 14), .lit (.int .u8 19), .lit (.int .u8 9), .lit (.int .u8 13), .lit (.int .u8 8), .lit (.int .u8 7), .lit (.int .u8 6)]
def laid_internal_strconv_uint64pow10 {H : Type} : DataW H := .agg [.lit (.int .u64 1), .lit (.int .u64 10), .lit (.int .u64 100), .lit (.int .u64 1000), .lit (.int .u64 10000), .lit (.int .u64 100000), .lit (.int .u64 1000000), .lit (.int .u64 10000000), .lit (.int .u64 100000000), .lit (.int .u64 1000000000), .lit (.int .u64 10000000000), .lit (.int .u64 100000000000), .lit (.int .u64 1000000000000), .lit (.int .u64 10000000000000), .lit (.int .u64 100000000000000), .lit (.int .u64 1000000000000000), .lit (.int .u64 10000000000000000), .lit (.int .u64 100000000000000000), .lit (.int .u64 1000000000000000000), .lit (.int .u64 10000000000000000000)]
def laid_unicode_utf8_acceptRanges {H : Type} : DataW H := .agg [.agg [.lit (.int .u8 128), .lit (.int .u8 191)], .agg [.lit (.int .u8 160), .lit (.int .u8 191)], .agg [.lit (.int .u8 128), .lit (.int .u8 159)], .agg [.lit (.int .u8 144), .lit (.int .u8 191)], .agg [.lit (.int .u8 128), .lit (.int .u8 143)], .agg [.lit (.int .u8 0), .lit (.int .u8 0)], .agg [.lit (.int .u8 0), .lit (.int .u8 0)], .agg [.lit (.int .u8 0), .lit (.int .u8 0)], .agg [.lit (.int .u8 0), .lit (.int .u8 0)], .agg [.lit (.int .u8 0), .lit (.int .u8 0)], .agg [.lit (.int .u8 0), .lit (.int .u8 0)], .agg [.lit (.int .u8 0), .lit (.int .u8 0)], .agg [.lit (.int .u8 0), .lit (.int .u8 0)], .agg [.lit (.int .u8 0), .lit (.int .u8 0)], .agg [.lit (.int .u8 0), .lit (.int .u8 0)], .agg [.lit (.int .u8 0), .lit (.int .u8 0)]]
/-- One of Go's own tables, pinned by name: the form's constant. -/
def laid_unicode_utf8_first : DataW Unit := Go.Pinned.utf8First

/-- 'planispherelaw49.PrivacyMatchesReference': WHATEVER THE INPUT: true; the input reads as it did. -/
def privacyMatchesReferenceSpec : ChangeSpec := { name := "privacyMatchesReference", fn := fun _ => fun
  | [d1, d2] => { results := [.lit (.bool true)], args := [d1, d2] }
  | _ => none }
def privacyMatchesReferenceRow : OpenClaim := { program := "ytniklmikdkjgiaagreatdoor", sum := "13755757f8e1813d34d3008faf96dffd214f0de1f6bb46514f1f4bd93e0e3e06", func := "planisphere/planispherelaw49.PrivacyMatchesReference", spec := "privacyMatchesReference", inPlace := ["internal/bytealg.IndexByteString", "internal/bytealg.IndexString", "internal/abi.NoEscape", "internal/bytealg.MakeNoZero"], unfollowed := true, recurses := true, named := ["unicode/utf8.first", "unicode/utf8.acceptRanges", "internal/strconv.uint64pow10", "math/bits.deBruijn32tab", "math/bits.deBruijn64tab", "internal/bytealg.MaxLen"], plainKeys := false, apart := false, laid := [("math/bits.deBruijn32tab", laid_math_bits_deBruijn32tab), ("math/bits.deBruijn64tab", laid_math_bits_deBruijn64tab), ("internal/strconv.uint64pow10", laid_internal_strconv_uint64pow10), ("unicode/utf8.acceptRanges", laid_unicode_utf8_acceptRanges), ("unicode/utf8.first", laid_unicode_utf8_first)] }
def PrivacyMatchesReferenceSaid : Prop := privacyMatchesReferenceRow.holds Tryz.pinned (OpenSpec.ofChange privacyMatchesReferenceSpec)

/-- ITS FALSE NEIGHBOUR: 'it returns false'. Refute it at one input. -/
def privacyMatchesReferenceWrong : ChangeSpec := { name := "privacyMatchesReference", fn := fun _ => fun
  | [d1, d2] => { results := [.lit (.bool false)], args := [d1, d2] }
  | _ => none }
def PrivacyMatchesReferenceWrongFalsely : Prop := privacyMatchesReferenceRow.holds Tryz.pinned (OpenSpec.ofChange privacyMatchesReferenceWrong)

/-- 'planispherelaw49.PrivacyLeaves': WHATEVER THE INPUT: true; the input reads as it did. -/
def privacyLeavesSpec : ChangeSpec := { name := "privacyLeaves", fn := fun _ => fun
  | [d1, d2, d3] => { results := [.lit (.bool true)], args := [d1, d2, d3] }
  | _ => none }
def privacyLeavesRow : OpenClaim := { program := "ytniklmikdkjgiaagreatdoor", sum := "13755757f8e1813d34d3008faf96dffd214f0de1f6bb46514f1f4bd93e0e3e06", func := "planisphere/planispherelaw49.PrivacyLeaves", spec := "privacyLeaves", inPlace := ["internal/bytealg.IndexByteString", "internal/bytealg.IndexString", "internal/abi.NoEscape", "internal/bytealg.MakeNoZero"], unfollowed := true, recurses := true, named := ["unicode/utf8.first", "unicode/utf8.acceptRanges", "internal/strconv.uint64pow10", "math/bits.deBruijn32tab", "math/bits.deBruijn64tab", "internal/bytealg.MaxLen"], plainKeys := false, apart := false, laid := [("math/bits.deBruijn32tab", laid_math_bits_deBruijn32tab), ("math/bits.deBruijn64tab", laid_math_bits_deBruijn64tab), ("internal/strconv.uint64pow10", laid_internal_strconv_uint64pow10), ("unicode/utf8.acceptRanges", laid_unicode_utf8_acceptRanges), ("unicode/utf8.first", laid_unicode_utf8_first)] }
def PrivacyLeavesSaid : Prop := privacyLeavesRow.holds Tryz.pinned (OpenSpec.ofChange privacyLeavesSpec)

/-- ITS FALSE NEIGHBOUR: 'it returns false'. Refute it at one input. -/
def privacyLeavesWrong : ChangeSpec := { name := "privacyLeaves", fn := fun _ => fun
  | [d1, d2, d3] => { results := [.lit (.bool false)], args := [d1, d2, d3] }
  | _ => none }
def PrivacyLeavesWrongFalsely : Prop := privacyLeavesRow.holds Tryz.pinned (OpenSpec.ofChange privacyLeavesWrong)

/-- 'planispherelaw49.PrivacyOrder': WHATEVER THE INPUT: true; the input reads as it did. -/
def privacyOrderSpec : ChangeSpec := { name := "privacyOrder", fn := fun _ => fun
  | [d1, d2] => { results := [.lit (.bool true)], args := [d1, d2] }
  | _ => none }
def privacyOrderRow : OpenClaim := { program := "ytniklmikdkjgiaagreatdoor", sum := "13755757f8e1813d34d3008faf96dffd214f0de1f6bb46514f1f4bd93e0e3e06", func := "planisphere/planispherelaw49.PrivacyOrder", spec := "privacyOrder", inPlace := ["internal/bytealg.IndexByteString", "internal/bytealg.IndexString", "internal/abi.NoEscape", "internal/bytealg.MakeNoZero"], unfollowed := true, recurses := true, named := ["unicode/utf8.first", "unicode/utf8.acceptRanges", "internal/strconv.uint64pow10", "math/bits.deBruijn32tab", "math/bits.deBruijn64tab", "internal/bytealg.MaxLen"], plainKeys := false, apart := false, laid := [("math/bits.deBruijn32tab", laid_math_bits_deBruijn32tab), ("math/bits.deBruijn64tab", laid_math_bits_deBruijn64tab), ("internal/strconv.uint64pow10", laid_internal_strconv_uint64pow10), ("unicode/utf8.acceptRanges", laid_unicode_utf8_acceptRanges), ("unicode/utf8.first", laid_unicode_utf8_first)] }
def PrivacyOrderSaid : Prop := privacyOrderRow.holds Tryz.pinned (OpenSpec.ofChange privacyOrderSpec)

/-- ITS FALSE NEIGHBOUR: 'it returns false'. Refute it at one input. -/
def privacyOrderWrong : ChangeSpec := { name := "privacyOrder", fn := fun _ => fun
  | [d1, d2] => { results := [.lit (.bool false)], args := [d1, d2] }
  | _ => none }
def PrivacyOrderWrongFalsely : Prop := privacyOrderRow.holds Tryz.pinned (OpenSpec.ofChange privacyOrderWrong)

/-- 'planispherelaw29.ModerateMatchesReference': WHATEVER THE INPUT: true; the input reads as it did. -/
def moderateMatchesReferenceSpec : ChangeSpec := { name := "moderateMatchesReference", fn := fun _ => fun
  | [d1, d2, d3] => { results := [.lit (.bool true)], args := [d1, d2, d3] }
  | _ => none }
def moderateMatchesReferenceRow : OpenClaim := { program := "ytniklmikdkjgiaagreatdoor", sum := "13755757f8e1813d34d3008faf96dffd214f0de1f6bb46514f1f4bd93e0e3e06", func := "planisphere/planispherelaw29.ModerateMatchesReference", spec := "moderateMatchesReference", inPlace := ["internal/bytealg.IndexByteString", "internal/bytealg.IndexString", "internal/abi.NoEscape", "internal/bytealg.MakeNoZero"], unfollowed := true, recurses := true, named := ["unicode/utf8.first", "unicode/utf8.acceptRanges", "internal/strconv.uint64pow10", "math/bits.deBruijn32tab", "math/bits.deBruijn64tab", "internal/bytealg.MaxLen"], plainKeys := false, apart := false, laid := [("math/bits.deBruijn32tab", laid_math_bits_deBruijn32tab), ("math/bits.deBruijn64tab", laid_math_bits_deBruijn64tab), ("internal/strconv.uint64pow10", laid_internal_strconv_uint64pow10), ("unicode/utf8.acceptRanges", laid_unicode_utf8_acceptRanges), ("unicode/utf8.first", laid_unicode_utf8_first)] }
def ModerateMatchesReferenceSaid : Prop := moderateMatchesReferenceRow.holds Tryz.pinned (OpenSpec.ofChange moderateMatchesReferenceSpec)

/-- ITS FALSE NEIGHBOUR: 'it returns false'. Refute it at one input. -/
def moderateMatchesReferenceWrong : ChangeSpec := { name := "moderateMatchesReference", fn := fun _ => fun
  | [d1, d2, d3] => { results := [.lit (.bool false)], args := [d1, d2, d3] }
  | _ => none }
def ModerateMatchesReferenceWrongFalsely : Prop := moderateMatchesReferenceRow.holds Tryz.pinned (OpenSpec.ofChange moderateMatchesReferenceWrong)

/-- 'planispherelaw29.ModerateLast': WHATEVER THE INPUT: true; the input reads as it did. -/
def moderateLastSpec : ChangeSpec := { name := "moderateLast", fn := fun _ => fun
  | [d1, d2, d3] => { results := [.lit (.bool true)], args := [d1, d2, d3] }
  | _ => none }
def moderateLastRow : OpenClaim := { program := "ytniklmikdkjgiaagreatdoor", sum := "13755757f8e1813d34d3008faf96dffd214f0de1f6bb46514f1f4bd93e0e3e06", func := "planisphere/planispherelaw29.ModerateLast", spec := "moderateLast", inPlace := ["internal/bytealg.IndexByteString", "internal/bytealg.IndexString", "internal/abi.NoEscape", "internal/bytealg.MakeNoZero"], unfollowed := true, recurses := true, named := ["unicode/utf8.first", "unicode/utf8.acceptRanges", "internal/strconv.uint64pow10", "math/bits.deBruijn32tab", "math/bits.deBruijn64tab", "internal/bytealg.MaxLen"], plainKeys := false, apart := false, laid := [("math/bits.deBruijn32tab", laid_math_bits_deBruijn32tab), ("math/bits.deBruijn64tab", laid_math_bits_deBruijn64tab), ("internal/strconv.uint64pow10", laid_internal_strconv_uint64pow10), ("unicode/utf8.acceptRanges", laid_unicode_utf8_acceptRanges), ("unicode/utf8.first", laid_unicode_utf8_first)] }
def ModerateLastSaid : Prop := moderateLastRow.holds Tryz.pinned (OpenSpec.ofChange moderateLastSpec)

/-- ITS FALSE NEIGHBOUR: 'it returns false'. Refute it at one input. -/
def moderateLastWrong : ChangeSpec := { name := "moderateLast", fn := fun _ => fun
  | [d1, d2, d3] => { results := [.lit (.bool false)], args := [d1, d2, d3] }
  | _ => none }
def ModerateLastWrongFalsely : Prop := moderateLastRow.holds Tryz.pinned (OpenSpec.ofChange moderateLastWrong)

/-- 'planispherelaw29.ModerateOthers': WHATEVER THE INPUT: true; the input reads as it did. -/
def moderateOthersSpec : ChangeSpec := { name := "moderateOthers", fn := fun _ => fun
  | [d1, d2, d3, d4] => { results := [.lit (.bool true)], args := [d1, d2, d3, d4] }
  | _ => none }
def moderateOthersRow : OpenClaim := { program := "ytniklmikdkjgiaagreatdoor", sum := "13755757f8e1813d34d3008faf96dffd214f0de1f6bb46514f1f4bd93e0e3e06", func := "planisphere/planispherelaw29.ModerateOthers", spec := "moderateOthers", inPlace := ["internal/bytealg.IndexByteString", "internal/bytealg.IndexString", "internal/abi.NoEscape", "internal/bytealg.MakeNoZero"], unfollowed := true, recurses := true, named := ["unicode/utf8.first", "unicode/utf8.acceptRanges", "internal/strconv.uint64pow10", "math/bits.deBruijn32tab", "math/bits.deBruijn64tab", "internal/bytealg.MaxLen"], plainKeys := false, apart := false, laid := [("math/bits.deBruijn32tab", laid_math_bits_deBruijn32tab), ("math/bits.deBruijn64tab", laid_math_bits_deBruijn64tab), ("internal/strconv.uint64pow10", laid_internal_strconv_uint64pow10), ("unicode/utf8.acceptRanges", laid_unicode_utf8_acceptRanges), ("unicode/utf8.first", laid_unicode_utf8_first)] }
def ModerateOthersSaid : Prop := moderateOthersRow.holds Tryz.pinned (OpenSpec.ofChange moderateOthersSpec)

/-- ITS FALSE NEIGHBOUR: 'it returns false'. Refute it at one input. -/
def moderateOthersWrong : ChangeSpec := { name := "moderateOthers", fn := fun _ => fun
  | [d1, d2, d3, d4] => { results := [.lit (.bool false)], args := [d1, d2, d3, d4] }
  | _ => none }
def ModerateOthersWrongFalsely : Prop := moderateOthersRow.holds Tryz.pinned (OpenSpec.ofChange moderateOthersWrong)

/-- 'planispherelaw29.ModeratePlain': WHATEVER THE INPUT: true; the input reads as it did. -/
def moderatePlainSpec : ChangeSpec := { name := "moderatePlain", fn := fun _ => fun
  | [d1, d2] => { results := [.lit (.bool true)], args := [d1, d2] }
  | _ => none }
def moderatePlainRow : OpenClaim := { program := "ytniklmikdkjgiaagreatdoor", sum := "13755757f8e1813d34d3008faf96dffd214f0de1f6bb46514f1f4bd93e0e3e06", func := "planisphere/planispherelaw29.ModeratePlain", spec := "moderatePlain", inPlace := ["internal/bytealg.IndexByteString", "internal/bytealg.IndexString", "internal/abi.NoEscape", "internal/bytealg.MakeNoZero"], unfollowed := true, recurses := true, named := ["unicode/utf8.first", "unicode/utf8.acceptRanges", "internal/strconv.uint64pow10", "math/bits.deBruijn32tab", "math/bits.deBruijn64tab", "internal/bytealg.MaxLen"], plainKeys := false, apart := false, laid := [("math/bits.deBruijn32tab", laid_math_bits_deBruijn32tab), ("math/bits.deBruijn64tab", laid_math_bits_deBruijn64tab), ("internal/strconv.uint64pow10", laid_internal_strconv_uint64pow10), ("unicode/utf8.acceptRanges", laid_unicode_utf8_acceptRanges), ("unicode/utf8.first", laid_unicode_utf8_first)] }
def ModeratePlainSaid : Prop := moderatePlainRow.holds Tryz.pinned (OpenSpec.ofChange moderatePlainSpec)

/-- ITS FALSE NEIGHBOUR: 'it returns false'. Refute it at one input. -/
def moderatePlainWrong : ChangeSpec := { name := "moderatePlain", fn := fun _ => fun
  | [d1, d2] => { results := [.lit (.bool false)], args := [d1, d2] }
  | _ => none }
def ModeratePlainWrongFalsely : Prop := moderatePlainRow.holds Tryz.pinned (OpenSpec.ofChange moderatePlainWrong)

/-- 'planispherelaw29.ModerateBeginnings': WHATEVER THE INPUT: true; the input reads as it did. -/
def moderateBeginningsSpec : ChangeSpec := { name := "moderateBeginnings", fn := fun _ => fun
  | [d1, d2, d3] => { results := [.lit (.bool true)], args := [d1, d2, d3] }
  | _ => none }
def moderateBeginningsRow : OpenClaim := { program := "ytniklmikdkjgiaagreatdoor", sum := "13755757f8e1813d34d3008faf96dffd214f0de1f6bb46514f1f4bd93e0e3e06", func := "planisphere/planispherelaw29.ModerateBeginnings", spec := "moderateBeginnings", inPlace := ["internal/bytealg.IndexByteString", "internal/bytealg.IndexString", "internal/abi.NoEscape", "internal/bytealg.MakeNoZero"], unfollowed := true, recurses := true, named := ["unicode/utf8.first", "unicode/utf8.acceptRanges", "internal/strconv.uint64pow10", "math/bits.deBruijn32tab", "math/bits.deBruijn64tab", "internal/bytealg.MaxLen"], plainKeys := false, apart := false, laid := [("math/bits.deBruijn32tab", laid_math_bits_deBruijn32tab), ("math/bits.deBruijn64tab", laid_math_bits_deBruijn64tab), ("internal/strconv.uint64pow10", laid_internal_strconv_uint64pow10), ("unicode/utf8.acceptRanges", laid_unicode_utf8_acceptRanges), ("unicode/utf8.first", laid_unicode_utf8_first)] }
def ModerateBeginningsSaid : Prop := moderateBeginningsRow.holds Tryz.pinned (OpenSpec.ofChange moderateBeginningsSpec)

/-- ITS FALSE NEIGHBOUR: 'it returns false'. Refute it at one input. -/
def moderateBeginningsWrong : ChangeSpec := { name := "moderateBeginnings", fn := fun _ => fun
  | [d1, d2, d3] => { results := [.lit (.bool false)], args := [d1, d2, d3] }
  | _ => none }
def ModerateBeginningsWrongFalsely : Prop := moderateBeginningsRow.holds Tryz.pinned (OpenSpec.ofChange moderateBeginningsWrong)

/-- 'planispherelaw49.PrivacyRemoves': WHATEVER THE INPUT: true; the input reads as it did. -/
def privacyRemovesSpec : ChangeSpec := { name := "privacyRemoves", fn := fun _ => fun
  | [d] => { results := [.lit (.bool true)], args := [d] }
  | _ => none }
def privacyRemovesRow : OpenClaim := { program := "ytniklmikdkjgiaagreatdoor", sum := "13755757f8e1813d34d3008faf96dffd214f0de1f6bb46514f1f4bd93e0e3e06", func := "planisphere/planispherelaw49.PrivacyRemoves", spec := "privacyRemoves", inPlace := ["internal/bytealg.IndexByteString", "internal/bytealg.IndexString", "internal/abi.NoEscape", "internal/bytealg.MakeNoZero"], unfollowed := true, recurses := true, named := ["unicode/utf8.first", "unicode/utf8.acceptRanges", "internal/strconv.uint64pow10", "math/bits.deBruijn32tab", "math/bits.deBruijn64tab", "internal/bytealg.MaxLen"], plainKeys := false, apart := false, laid := [("math/bits.deBruijn32tab", laid_math_bits_deBruijn32tab), ("math/bits.deBruijn64tab", laid_math_bits_deBruijn64tab), ("internal/strconv.uint64pow10", laid_internal_strconv_uint64pow10), ("unicode/utf8.acceptRanges", laid_unicode_utf8_acceptRanges), ("unicode/utf8.first", laid_unicode_utf8_first)] }
def PrivacyRemovesSaid : Prop := privacyRemovesRow.holds Tryz.pinned (OpenSpec.ofChange privacyRemovesSpec)

/-- ITS FALSE NEIGHBOUR: 'it returns false'. Refute it at one input. -/
def privacyRemovesWrong : ChangeSpec := { name := "privacyRemoves", fn := fun _ => fun
  | [d] => { results := [.lit (.bool false)], args := [d] }
  | _ => none }
def PrivacyRemovesWrongFalsely : Prop := privacyRemovesRow.holds Tryz.pinned (OpenSpec.ofChange privacyRemovesWrong)

/-- 'planispherelaw30.TrustMonotone': WHATEVER THE INPUT: true; the input reads as it did. -/
def trustMonotoneSpec : ChangeSpec := { name := "trustMonotone", fn := fun _ => fun
  | [d1, d2, d3] => { results := [.lit (.bool true)], args := [d1, d2, d3] }
  | _ => none }
def trustMonotoneRow : OpenClaim := { program := "ytniklmikdkjgiaagreatdoor", sum := "13755757f8e1813d34d3008faf96dffd214f0de1f6bb46514f1f4bd93e0e3e06", func := "planisphere/planispherelaw30.TrustMonotone", spec := "trustMonotone", inPlace := ["internal/bytealg.IndexByteString", "internal/bytealg.IndexString", "internal/abi.NoEscape", "internal/bytealg.MakeNoZero"], unfollowed := true, recurses := true, named := ["unicode/utf8.first", "unicode/utf8.acceptRanges", "internal/strconv.uint64pow10", "math/bits.deBruijn32tab", "math/bits.deBruijn64tab", "internal/bytealg.MaxLen"], plainKeys := false, apart := false, laid := [("math/bits.deBruijn32tab", laid_math_bits_deBruijn32tab), ("math/bits.deBruijn64tab", laid_math_bits_deBruijn64tab), ("internal/strconv.uint64pow10", laid_internal_strconv_uint64pow10), ("unicode/utf8.acceptRanges", laid_unicode_utf8_acceptRanges), ("unicode/utf8.first", laid_unicode_utf8_first)] }
def TrustMonotoneSaid : Prop := trustMonotoneRow.holds Tryz.pinned (OpenSpec.ofChange trustMonotoneSpec)

/-- ITS FALSE NEIGHBOUR: 'it returns false'. Refute it at one input. -/
def trustMonotoneWrong : ChangeSpec := { name := "trustMonotone", fn := fun _ => fun
  | [d1, d2, d3] => { results := [.lit (.bool false)], args := [d1, d2, d3] }
  | _ => none }
def TrustMonotoneWrongFalsely : Prop := trustMonotoneRow.holds Tryz.pinned (OpenSpec.ofChange trustMonotoneWrong)

/-- 'planispherelaw30.TrustOthers': WHATEVER THE INPUT: true; the input reads as it did. -/
def trustOthersSpec : ChangeSpec := { name := "trustOthers", fn := fun _ => fun
  | [d1, d2] => { results := [.lit (.bool true)], args := [d1, d2] }
  | _ => none }
def trustOthersRow : OpenClaim := { program := "ytniklmikdkjgiaagreatdoor", sum := "13755757f8e1813d34d3008faf96dffd214f0de1f6bb46514f1f4bd93e0e3e06", func := "planisphere/planispherelaw30.TrustOthers", spec := "trustOthers", inPlace := ["internal/bytealg.IndexByteString", "internal/bytealg.IndexString", "internal/abi.NoEscape", "internal/bytealg.MakeNoZero"], unfollowed := true, recurses := true, named := ["unicode/utf8.first", "unicode/utf8.acceptRanges", "internal/strconv.uint64pow10", "math/bits.deBruijn32tab", "math/bits.deBruijn64tab", "internal/bytealg.MaxLen"], plainKeys := false, apart := false, laid := [("math/bits.deBruijn32tab", laid_math_bits_deBruijn32tab), ("math/bits.deBruijn64tab", laid_math_bits_deBruijn64tab), ("internal/strconv.uint64pow10", laid_internal_strconv_uint64pow10), ("unicode/utf8.acceptRanges", laid_unicode_utf8_acceptRanges), ("unicode/utf8.first", laid_unicode_utf8_first)] }
def TrustOthersSaid : Prop := trustOthersRow.holds Tryz.pinned (OpenSpec.ofChange trustOthersSpec)

/-- ITS FALSE NEIGHBOUR: 'it returns false'. Refute it at one input. -/
def trustOthersWrong : ChangeSpec := { name := "trustOthers", fn := fun _ => fun
  | [d1, d2] => { results := [.lit (.bool false)], args := [d1, d2] }
  | _ => none }
def TrustOthersWrongFalsely : Prop := trustOthersRow.holds Tryz.pinned (OpenSpec.ofChange trustOthersWrong)

/-- 'planispherelaw30.TrustMarks': WHATEVER THE INPUT: true; the input reads as it did. -/
def trustMarksSpec : ChangeSpec := { name := "trustMarks", fn := fun _ => fun
  | [d1, d2] => { results := [.lit (.bool true)], args := [d1, d2] }
  | _ => none }
def trustMarksRow : OpenClaim := { program := "ytniklmikdkjgiaagreatdoor", sum := "13755757f8e1813d34d3008faf96dffd214f0de1f6bb46514f1f4bd93e0e3e06", func := "planisphere/planispherelaw30.TrustMarks", spec := "trustMarks", inPlace := ["internal/bytealg.IndexByteString", "internal/bytealg.IndexString", "internal/abi.NoEscape", "internal/bytealg.MakeNoZero"], unfollowed := true, recurses := true, named := ["unicode/utf8.first", "unicode/utf8.acceptRanges", "internal/strconv.uint64pow10", "math/bits.deBruijn32tab", "math/bits.deBruijn64tab", "internal/bytealg.MaxLen"], plainKeys := false, apart := false, laid := [("math/bits.deBruijn32tab", laid_math_bits_deBruijn32tab), ("math/bits.deBruijn64tab", laid_math_bits_deBruijn64tab), ("internal/strconv.uint64pow10", laid_internal_strconv_uint64pow10), ("unicode/utf8.acceptRanges", laid_unicode_utf8_acceptRanges), ("unicode/utf8.first", laid_unicode_utf8_first)] }
def TrustMarksSaid : Prop := trustMarksRow.holds Tryz.pinned (OpenSpec.ofChange trustMarksSpec)

/-- ITS FALSE NEIGHBOUR: 'it returns false'. Refute it at one input. -/
def trustMarksWrong : ChangeSpec := { name := "trustMarks", fn := fun _ => fun
  | [d1, d2] => { results := [.lit (.bool false)], args := [d1, d2] }
  | _ => none }
def TrustMarksWrongFalsely : Prop := trustMarksRow.holds Tryz.pinned (OpenSpec.ofChange trustMarksWrong)

/- THE SECOND FORM. 'bulk': how many values and letters a reading holds, each counted each time it is reached (what is shared counts as often as it is met; a slice's spare places count too). A statement '..UptoSaid' is the law's where the arguments, and the package variables that the reading takes, are together of bulk at most 1048576: NARROWER than '..Said'. Prove '..Said' where nothing that the law and all that it calls make is longer than what came in: it says more and counts as full. Else prove '..UptoSaid'. A law counts once. -/
mutual
def uptoBulk {H : Type} : DataW H → Nat
  | .lit (.string bytes) => bytes.length + 1
  | .lit _ => 1
  | .nil => 1
  | .ptr d => uptoBulk d + 1
  | .slice elems spare => uptoBulkAll elems + uptoBulkAll spare + 1
  | .agg parts => uptoBulkAll parts + 1
  | .iface _ d => uptoBulk d + 1
  | .map entries => uptoBulkEntries entries + 1
  | .held _ => 1
def uptoBulkAll {H : Type} : List (DataW H) → Nat
  | [] => 0
  | d :: r => uptoBulk d + uptoBulkAll r
def uptoBulkEntries {H : Type} : List (Lit × DataW H) → Nat
  | [] => 0
  | x :: r => uptoBulkEntry x + uptoBulkEntries r
def uptoBulkEntry {H : Type} : Lit × DataW H → Nat
  | (.string bytes, d) => bytes.length + uptoBulk d + 1
  | (_, d) => uptoBulk d + 1
 end
def uptoSmall : (H : Type) → List (DataW H) → Bool := fun _ ds => decide (uptoBulkAll ds ≤ 1048576)
def OpenSpec.upto (s : _root_.Go.ChangeSpec) : _root_.Go.OpenSpec := { _root_.Go.OpenSpec.ofChange s with cond := some uptoSmall }

/-- 'planispherelaw49.PrivacyMatchesReference', WHERE WHAT IT READS IS OF BULK AT MOST 1048576: true; the input reads as it did. -/
def privacyMatchesReferenceUptoRow : OpenClaim := { program := "ytniklmikdkjgiaagreatdoor", sum := "13755757f8e1813d34d3008faf96dffd214f0de1f6bb46514f1f4bd93e0e3e06", func := "planisphere/planispherelaw49.PrivacyMatchesReference", spec := "privacyMatchesReference", inPlace := ["internal/bytealg.IndexByteString", "internal/bytealg.IndexString", "internal/abi.NoEscape", "internal/bytealg.MakeNoZero"], unfollowed := true, recurses := true, named := ["unicode/utf8.first", "unicode/utf8.acceptRanges", "internal/strconv.uint64pow10", "math/bits.deBruijn32tab", "math/bits.deBruijn64tab", "internal/bytealg.MaxLen"], plainKeys := false, apart := false, laid := [("math/bits.deBruijn32tab", laid_math_bits_deBruijn32tab), ("math/bits.deBruijn64tab", laid_math_bits_deBruijn64tab), ("internal/strconv.uint64pow10", laid_internal_strconv_uint64pow10), ("unicode/utf8.acceptRanges", laid_unicode_utf8_acceptRanges), ("unicode/utf8.first", laid_unicode_utf8_first)], narrowed := true }
def PrivacyMatchesReferenceUptoSaid : Prop := privacyMatchesReferenceUptoRow.holds Tryz.pinned (OpenSpec.upto privacyMatchesReferenceSpec)

/-- 'planispherelaw49.PrivacyLeaves', WHERE WHAT IT READS IS OF BULK AT MOST 1048576: true; the input reads as it did. -/
def privacyLeavesUptoRow : OpenClaim := { program := "ytniklmikdkjgiaagreatdoor", sum := "13755757f8e1813d34d3008faf96dffd214f0de1f6bb46514f1f4bd93e0e3e06", func := "planisphere/planispherelaw49.PrivacyLeaves", spec := "privacyLeaves", inPlace := ["internal/bytealg.IndexByteString", "internal/bytealg.IndexString", "internal/abi.NoEscape", "internal/bytealg.MakeNoZero"], unfollowed := true, recurses := true, named := ["unicode/utf8.first", "unicode/utf8.acceptRanges", "internal/strconv.uint64pow10", "math/bits.deBruijn32tab", "math/bits.deBruijn64tab", "internal/bytealg.MaxLen"], plainKeys := false, apart := false, laid := [("math/bits.deBruijn32tab", laid_math_bits_deBruijn32tab), ("math/bits.deBruijn64tab", laid_math_bits_deBruijn64tab), ("internal/strconv.uint64pow10", laid_internal_strconv_uint64pow10), ("unicode/utf8.acceptRanges", laid_unicode_utf8_acceptRanges), ("unicode/utf8.first", laid_unicode_utf8_first)], narrowed := true }
def PrivacyLeavesUptoSaid : Prop := privacyLeavesUptoRow.holds Tryz.pinned (OpenSpec.upto privacyLeavesSpec)

/-- 'planispherelaw49.PrivacyOrder', WHERE WHAT IT READS IS OF BULK AT MOST 1048576: true; the input reads as it did. -/
def privacyOrderUptoRow : OpenClaim := { program := "ytniklmikdkjgiaagreatdoor", sum := "13755757f8e1813d34d3008faf96dffd214f0de1f6bb46514f1f4bd93e0e3e06", func := "planisphere/planispherelaw49.PrivacyOrder", spec := "privacyOrder", inPlace := ["internal/bytealg.IndexByteString", "internal/bytealg.IndexString", "internal/abi.NoEscape", "internal/bytealg.MakeNoZero"], unfollowed := true, recurses := true, named := ["unicode/utf8.first", "unicode/utf8.acceptRanges", "internal/strconv.uint64pow10", "math/bits.deBruijn32tab", "math/bits.deBruijn64tab", "internal/bytealg.MaxLen"], plainKeys := false, apart := false, laid := [("math/bits.deBruijn32tab", laid_math_bits_deBruijn32tab), ("math/bits.deBruijn64tab", laid_math_bits_deBruijn64tab), ("internal/strconv.uint64pow10", laid_internal_strconv_uint64pow10), ("unicode/utf8.acceptRanges", laid_unicode_utf8_acceptRanges), ("unicode/utf8.first", laid_unicode_utf8_first)], narrowed := true }
def PrivacyOrderUptoSaid : Prop := privacyOrderUptoRow.holds Tryz.pinned (OpenSpec.upto privacyOrderSpec)

/-- 'planispherelaw29.ModerateMatchesReference', WHERE WHAT IT READS IS OF BULK AT MOST 1048576: true; the input reads as it did. -/
def moderateMatchesReferenceUptoRow : OpenClaim := { program := "ytniklmikdkjgiaagreatdoor", sum := "13755757f8e1813d34d3008faf96dffd214f0de1f6bb46514f1f4bd93e0e3e06", func := "planisphere/planispherelaw29.ModerateMatchesReference", spec := "moderateMatchesReference", inPlace := ["internal/bytealg.IndexByteString", "internal/bytealg.IndexString", "internal/abi.NoEscape", "internal/bytealg.MakeNoZero"], unfollowed := true, recurses := true, named := ["unicode/utf8.first", "unicode/utf8.acceptRanges", "internal/strconv.uint64pow10", "math/bits.deBruijn32tab", "math/bits.deBruijn64tab", "internal/bytealg.MaxLen"], plainKeys := false, apart := false, laid := [("math/bits.deBruijn32tab", laid_math_bits_deBruijn32tab), ("math/bits.deBruijn64tab", laid_math_bits_deBruijn64tab), ("internal/strconv.uint64pow10", laid_internal_strconv_uint64pow10), ("unicode/utf8.acceptRanges", laid_unicode_utf8_acceptRanges), ("unicode/utf8.first", laid_unicode_utf8_first)], narrowed := true }
def ModerateMatchesReferenceUptoSaid : Prop := moderateMatchesReferenceUptoRow.holds Tryz.pinned (OpenSpec.upto moderateMatchesReferenceSpec)

/-- 'planispherelaw29.ModerateLast', WHERE WHAT IT READS IS OF BULK AT MOST 1048576: true; the input reads as it did. -/
def moderateLastUptoRow : OpenClaim := { program := "ytniklmikdkjgiaagreatdoor", sum := "13755757f8e1813d34d3008faf96dffd214f0de1f6bb46514f1f4bd93e0e3e06", func := "planisphere/planispherelaw29.ModerateLast", spec := "moderateLast", inPlace := ["internal/bytealg.IndexByteString", "internal/bytealg.IndexString", "internal/abi.NoEscape", "internal/bytealg.MakeNoZero"], unfollowed := true, recurses := true, named := ["unicode/utf8.first", "unicode/utf8.acceptRanges", "internal/strconv.uint64pow10", "math/bits.deBruijn32tab", "math/bits.deBruijn64tab", "internal/bytealg.MaxLen"], plainKeys := false, apart := false, laid := [("math/bits.deBruijn32tab", laid_math_bits_deBruijn32tab), ("math/bits.deBruijn64tab", laid_math_bits_deBruijn64tab), ("internal/strconv.uint64pow10", laid_internal_strconv_uint64pow10), ("unicode/utf8.acceptRanges", laid_unicode_utf8_acceptRanges), ("unicode/utf8.first", laid_unicode_utf8_first)], narrowed := true }
def ModerateLastUptoSaid : Prop := moderateLastUptoRow.holds Tryz.pinned (OpenSpec.upto moderateLastSpec)

/-- 'planispherelaw29.ModerateOthers', WHERE WHAT IT READS IS OF BULK AT MOST 1048576: true; the input reads as it did. -/
def moderateOthersUptoRow : OpenClaim := { program := "ytniklmikdkjgiaagreatdoor", sum := "13755757f8e1813d34d3008faf96dffd214f0de1f6bb46514f1f4bd93e0e3e06", func := "planisphere/planispherelaw29.ModerateOthers", spec := "moderateOthers", inPlace := ["internal/bytealg.IndexByteString", "internal/bytealg.IndexString", "internal/abi.NoEscape", "internal/bytealg.MakeNoZero"], unfollowed := true, recurses := true, named := ["unicode/utf8.first", "unicode/utf8.acceptRanges", "internal/strconv.uint64pow10", "math/bits.deBruijn32tab", "math/bits.deBruijn64tab", "internal/bytealg.MaxLen"], plainKeys := false, apart := false, laid := [("math/bits.deBruijn32tab", laid_math_bits_deBruijn32tab), ("math/bits.deBruijn64tab", laid_math_bits_deBruijn64tab), ("internal/strconv.uint64pow10", laid_internal_strconv_uint64pow10), ("unicode/utf8.acceptRanges", laid_unicode_utf8_acceptRanges), ("unicode/utf8.first", laid_unicode_utf8_first)], narrowed := true }
def ModerateOthersUptoSaid : Prop := moderateOthersUptoRow.holds Tryz.pinned (OpenSpec.upto moderateOthersSpec)

/-- 'planispherelaw29.ModeratePlain', WHERE WHAT IT READS IS OF BULK AT MOST 1048576: true; the input reads as it did. -/
def moderatePlainUptoRow : OpenClaim := { program := "ytniklmikdkjgiaagreatdoor", sum := "13755757f8e1813d34d3008faf96dffd214f0de1f6bb46514f1f4bd93e0e3e06", func := "planisphere/planispherelaw29.ModeratePlain", spec := "moderatePlain", inPlace := ["internal/bytealg.IndexByteString", "internal/bytealg.IndexString", "internal/abi.NoEscape", "internal/bytealg.MakeNoZero"], unfollowed := true, recurses := true, named := ["unicode/utf8.first", "unicode/utf8.acceptRanges", "internal/strconv.uint64pow10", "math/bits.deBruijn32tab", "math/bits.deBruijn64tab", "internal/bytealg.MaxLen"], plainKeys := false, apart := false, laid := [("math/bits.deBruijn32tab", laid_math_bits_deBruijn32tab), ("math/bits.deBruijn64tab", laid_math_bits_deBruijn64tab), ("internal/strconv.uint64pow10", laid_internal_strconv_uint64pow10), ("unicode/utf8.acceptRanges", laid_unicode_utf8_acceptRanges), ("unicode/utf8.first", laid_unicode_utf8_first)], narrowed := true }
def ModeratePlainUptoSaid : Prop := moderatePlainUptoRow.holds Tryz.pinned (OpenSpec.upto moderatePlainSpec)

/-- 'planispherelaw29.ModerateBeginnings', WHERE WHAT IT READS IS OF BULK AT MOST 1048576: true; the input reads as it did. -/
def moderateBeginningsUptoRow : OpenClaim := { program := "ytniklmikdkjgiaagreatdoor", sum := "13755757f8e1813d34d3008faf96dffd214f0de1f6bb46514f1f4bd93e0e3e06", func := "planisphere/planispherelaw29.ModerateBeginnings", spec := "moderateBeginnings", inPlace := ["internal/bytealg.IndexByteString", "internal/bytealg.IndexString", "internal/abi.NoEscape", "internal/bytealg.MakeNoZero"], unfollowed := true, recurses := true, named := ["unicode/utf8.first", "unicode/utf8.acceptRanges", "internal/strconv.uint64pow10", "math/bits.deBruijn32tab", "math/bits.deBruijn64tab", "internal/bytealg.MaxLen"], plainKeys := false, apart := false, laid := [("math/bits.deBruijn32tab", laid_math_bits_deBruijn32tab), ("math/bits.deBruijn64tab", laid_math_bits_deBruijn64tab), ("internal/strconv.uint64pow10", laid_internal_strconv_uint64pow10), ("unicode/utf8.acceptRanges", laid_unicode_utf8_acceptRanges), ("unicode/utf8.first", laid_unicode_utf8_first)], narrowed := true }
def ModerateBeginningsUptoSaid : Prop := moderateBeginningsUptoRow.holds Tryz.pinned (OpenSpec.upto moderateBeginningsSpec)

/-- 'planispherelaw49.PrivacyRemoves', WHERE WHAT IT READS IS OF BULK AT MOST 1048576: true; the input reads as it did. -/
def privacyRemovesUptoRow : OpenClaim := { program := "ytniklmikdkjgiaagreatdoor", sum := "13755757f8e1813d34d3008faf96dffd214f0de1f6bb46514f1f4bd93e0e3e06", func := "planisphere/planispherelaw49.PrivacyRemoves", spec := "privacyRemoves", inPlace := ["internal/bytealg.IndexByteString", "internal/bytealg.IndexString", "internal/abi.NoEscape", "internal/bytealg.MakeNoZero"], unfollowed := true, recurses := true, named := ["unicode/utf8.first", "unicode/utf8.acceptRanges", "internal/strconv.uint64pow10", "math/bits.deBruijn32tab", "math/bits.deBruijn64tab", "internal/bytealg.MaxLen"], plainKeys := false, apart := false, laid := [("math/bits.deBruijn32tab", laid_math_bits_deBruijn32tab), ("math/bits.deBruijn64tab", laid_math_bits_deBruijn64tab), ("internal/strconv.uint64pow10", laid_internal_strconv_uint64pow10), ("unicode/utf8.acceptRanges", laid_unicode_utf8_acceptRanges), ("unicode/utf8.first", laid_unicode_utf8_first)], narrowed := true }
def PrivacyRemovesUptoSaid : Prop := privacyRemovesUptoRow.holds Tryz.pinned (OpenSpec.upto privacyRemovesSpec)

/-- 'planispherelaw30.TrustMonotone', WHERE WHAT IT READS IS OF BULK AT MOST 1048576: true; the input reads as it did. -/
def trustMonotoneUptoRow : OpenClaim := { program := "ytniklmikdkjgiaagreatdoor", sum := "13755757f8e1813d34d3008faf96dffd214f0de1f6bb46514f1f4bd93e0e3e06", func := "planisphere/planispherelaw30.TrustMonotone", spec := "trustMonotone", inPlace := ["internal/bytealg.IndexByteString", "internal/bytealg.IndexString", "internal/abi.NoEscape", "internal/bytealg.MakeNoZero"], unfollowed := true, recurses := true, named := ["unicode/utf8.first", "unicode/utf8.acceptRanges", "internal/strconv.uint64pow10", "math/bits.deBruijn32tab", "math/bits.deBruijn64tab", "internal/bytealg.MaxLen"], plainKeys := false, apart := false, laid := [("math/bits.deBruijn32tab", laid_math_bits_deBruijn32tab), ("math/bits.deBruijn64tab", laid_math_bits_deBruijn64tab), ("internal/strconv.uint64pow10", laid_internal_strconv_uint64pow10), ("unicode/utf8.acceptRanges", laid_unicode_utf8_acceptRanges), ("unicode/utf8.first", laid_unicode_utf8_first)], narrowed := true }
def TrustMonotoneUptoSaid : Prop := trustMonotoneUptoRow.holds Tryz.pinned (OpenSpec.upto trustMonotoneSpec)

/-- 'planispherelaw30.TrustOthers', WHERE WHAT IT READS IS OF BULK AT MOST 1048576: true; the input reads as it did. -/
def trustOthersUptoRow : OpenClaim := { program := "ytniklmikdkjgiaagreatdoor", sum := "13755757f8e1813d34d3008faf96dffd214f0de1f6bb46514f1f4bd93e0e3e06", func := "planisphere/planispherelaw30.TrustOthers", spec := "trustOthers", inPlace := ["internal/bytealg.IndexByteString", "internal/bytealg.IndexString", "internal/abi.NoEscape", "internal/bytealg.MakeNoZero"], unfollowed := true, recurses := true, named := ["unicode/utf8.first", "unicode/utf8.acceptRanges", "internal/strconv.uint64pow10", "math/bits.deBruijn32tab", "math/bits.deBruijn64tab", "internal/bytealg.MaxLen"], plainKeys := false, apart := false, laid := [("math/bits.deBruijn32tab", laid_math_bits_deBruijn32tab), ("math/bits.deBruijn64tab", laid_math_bits_deBruijn64tab), ("internal/strconv.uint64pow10", laid_internal_strconv_uint64pow10), ("unicode/utf8.acceptRanges", laid_unicode_utf8_acceptRanges), ("unicode/utf8.first", laid_unicode_utf8_first)], narrowed := true }
def TrustOthersUptoSaid : Prop := trustOthersUptoRow.holds Tryz.pinned (OpenSpec.upto trustOthersSpec)

/-- 'planispherelaw30.TrustMarks', WHERE WHAT IT READS IS OF BULK AT MOST 1048576: true; the input reads as it did. -/
def trustMarksUptoRow : OpenClaim := { program := "ytniklmikdkjgiaagreatdoor", sum := "13755757f8e1813d34d3008faf96dffd214f0de1f6bb46514f1f4bd93e0e3e06", func := "planisphere/planispherelaw30.TrustMarks", spec := "trustMarks", inPlace := ["internal/bytealg.IndexByteString", "internal/bytealg.IndexString", "internal/abi.NoEscape", "internal/bytealg.MakeNoZero"], unfollowed := true, recurses := true, named := ["unicode/utf8.first", "unicode/utf8.acceptRanges", "internal/strconv.uint64pow10", "math/bits.deBruijn32tab", "math/bits.deBruijn64tab", "internal/bytealg.MaxLen"], plainKeys := false, apart := false, laid := [("math/bits.deBruijn32tab", laid_math_bits_deBruijn32tab), ("math/bits.deBruijn64tab", laid_math_bits_deBruijn64tab), ("internal/strconv.uint64pow10", laid_internal_strconv_uint64pow10), ("unicode/utf8.acceptRanges", laid_unicode_utf8_acceptRanges), ("unicode/utf8.first", laid_unicode_utf8_first)], narrowed := true }
def TrustMarksUptoSaid : Prop := trustMarksUptoRow.holds Tryz.pinned (OpenSpec.upto trustMarksSpec)

end Rows
end Go.Proofs.YtniklmikdkjgiaaGreatDoor
