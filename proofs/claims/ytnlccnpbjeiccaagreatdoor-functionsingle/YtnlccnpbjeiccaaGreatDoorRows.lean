/-
  NARROWER THAN 'FOR EVERY INPUT', by the rows' own cells (each row's printed sentence says how): FunctionDecides: laid · FunctionSingle: laid · FunctionSame: laid · FunctionSure: laid · FunctionLess: laid · FunctionCounts: laid · FunctionPaths: laid · FunctionPairs: laid · FunctionItself: laid.
  DERIVED. THE GIVEN ROWS OF THIS SEAT. 9 by the template 'for every input the law returns true; each argument reads behind the call as it read before'; 0 by the template 'total and deterministic' (their statements: YtnlccnpbjeiccaaGreatDoorTotals.lean).
  GIVEN WITH THE SEED: the statements are not yours to turn. If you find one false, say at which input.
  Laid BY PROGRAM, IN A SANDBOX (cutbox-rows.mjs): the forced cells as the released guide's own fill.sh prints them over the translation 46e8b9c28ca8f169… (all of the seat's roots in one cut). By AI agents, Wed Nov 11 2026. No macro, syntax, notation, axiom, sorry.
-/
import Derived.Test.YtnlccnpbjeiccaaGreatDoorChecked
import GoSem.Claim
import GoSem.ClaimJoined
import GoSem.ClaimMapViews
import Derived.JoinedTies
import Derived.KernelRfl
namespace Go.Proofs.YtnlccnpbjeiccaaGreatDoor
/- THE CELL 'sum', in the pinned program and in every row, IS THE sha256 OF THE DUMP (.gsa) THAT YtnlccnpbjeiccaaGreatDoorProg.lean LOADS. Nothing in Lean hashes anything: it is a label: what it is worth is what the hold of that sum in a sandbox is worth. -/
noncomputable def Tryz.pinned : Pinned := { name := "ytnlccnpbjeiccaagreatdoor", sum := "46e8b9c28ca8f1698ee201ec33bedfec977b7bfe8a23208f0ff883b0c53e63bc", checked := Tryz.checked }
namespace Rows
def none {H : Type} : Left H := { results := [], args := [] }

/- WHAT THE LISTED PACKAGE-LEVEL VARIABLES READ AS WHEN THE CALL BEGINS. Each datum BY PROGRAM (the guide's laid-datum.mjs) off the statement by which the dump's own 'gosem.cut.vars' lays the variable. In a bare row this is a premise. The card (YtnlccnpbjeiccaaGreatDoorCards.lean) ties it to the program's text. -/
def laid_math_bits_deBruijn32tab {H : Type} : DataW H := .agg [.lit (.int .u8 0), .lit (.int .u8 1), .lit (.int .u8 28), .lit (.int .u8 2), .lit (.int .u8 29), .lit (.int .u8 14), .lit (.int .u8 24), .lit (.int .u8 3), .lit (.int .u8 30), .lit (.int .u8 22), .lit (.int .u8 20), .lit (.int .u8 15), .lit (.int .u8 25), .lit (.int .u8 17), .lit (.int .u8 4), .lit (.int .u8 8), .lit (.int .u8 31), .lit (.int .u8 27), .lit (.int .u8 13), .lit (.int .u8 23), .lit (.int .u8 21), .lit (.int .u8 19), .lit (.int .u8 16), .lit (.int .u8 7), .lit (.int .u8 26), .lit (.int .u8 12), .lit (.int .u8 18), .lit (.int .u8 6), .lit (.int .u8 11), .lit (.int .u8 5), .lit (.int .u8 10), .lit (.int .u8 9)]
def laid_math_bits_deBruijn64tab {H : Type} : DataW H := .agg [.lit (.int .u8 0), .lit (.int .u8 1), .lit (.int .u8 56), .lit (.int .u8 2), .lit (.int .u8 57), .lit (.int .u8 49), .lit (.int .u8 28), .lit (.int .u8 3), .lit (.int .u8 61), .lit (.int .u8 58), .lit (.int .u8 42), .lit (.int .u8 50), .lit (.int .u8 38), .lit (.int .u8 29), .lit (.int .u8 17), .lit (.int .u8 4), .lit (.int .u8 62), .lit (.int .u8 47), .lit (.int .u8 59), .lit (.int .u8 36), .lit (.int .u8 45), .lit (.int .u8 43), .lit (.int .u8 51), .lit (.int .u8 22), .lit (.int .u8 53), .lit (.int .u8 39), .lit (.int .u8 33), .lit (.int .u8 30), .lit (.int .u8 24), .lit (.int .u8 18), .lit (.int .u8 12), .lit (.int .u8 5), .lit (.int .u8 63), .lit (.int .u8 55), .lit (.int .u8 48), .lit (.int .u8 27), .lit (.int .u8 60), .lit (.int .u8 41), .lit (.int .u8 37), .lit (.int .u8 16), .lit (.int .u8 46), .lit (.int .u8 35), .lit (.int .u8 44), .lit (.int .u8 21), .lit (.int .u8 52), .lit (.int .u8 32), .lit (.int .u8 23), .lit (.int .u8 11), .lit (.int .u8 54), .lit (.int .u8 26), .lit (.int .u8 40), .lit (.int .u8 15), .lit (.int .u8 34), .lit (.int .u8 20), .lit (.int .u8 31), .lit (.int .u8 10), .lit (.int .u8 25), .lit (.int .u8 14), .lit (.int .u8 19), .lit (.int .u8 9), .lit (.int .u8 13), .lit (.int .u8 8), .lit (.int .u8 7), .lit (.int .u8 6)]
def laid_internal_strconv_uint64pow10 {H : Type} : DataW H := .agg [.lit (.int .u64 1), .lit (.int .u64 10), .lit (.int .u64 100), .lit (.int .u64 1000), .lit (.int .u64 10000), .lit (.int .u64 100000), .lit (.int .u64 1000000), .lit (.int .u64 10000000), .lit (.int .u64 100000000), .lit (.int .u64 1000000000), .lit (.int .u64 10000000000), .lit (.int .u64 100000000000), .lit (.int .u64 1000000000000), .lit (.int .u64 10000000000000), .lit (.int .u64 100000000000000), .lit (.int .u64 1000000000000000), .lit (.int .u64 10000000000000000), .lit (.int .u64 100000000000000000), .lit (.int .u64 1000000000000000000), .lit (.int .u64 10000000000000000000)]

/-- 'abugidalaw17.FunctionDecides': WHATEVER THE INPUT: true; the input reads as it did. -/
def functionDecidesSpec : ChangeSpec := { name := "functionDecides", fn := fun _ => fun
  | [d] => { results := [.lit (.bool true)], args := [d] }
  | _ => none }
def functionDecidesRow : OpenClaim := { program := "ytnlccnpbjeiccaagreatdoor", sum := "46e8b9c28ca8f1698ee201ec33bedfec977b7bfe8a23208f0ff883b0c53e63bc", func := "abugida/abugidalaw17.FunctionDecides", spec := "functionDecides", inPlace := ["internal/bytealg.IndexByteString", "internal/bytealg.IndexString", "internal/abi.NoEscape", "internal/bytealg.MakeNoZero"], unfollowed := true, recurses := true, named := ["internal/bytealg.MaxLen", "internal/strconv.uint64pow10", "math/bits.deBruijn32tab", "math/bits.deBruijn64tab"], plainKeys := false, apart := false, laid := [("math/bits.deBruijn32tab", laid_math_bits_deBruijn32tab), ("math/bits.deBruijn64tab", laid_math_bits_deBruijn64tab), ("internal/strconv.uint64pow10", laid_internal_strconv_uint64pow10)] }
def FunctionDecidesSaid : Prop := functionDecidesRow.holds Tryz.pinned (OpenSpec.ofChange functionDecidesSpec)

/-- ITS FALSE NEIGHBOUR: 'it returns false'. Refute it at one input. -/
def functionDecidesWrong : ChangeSpec := { name := "functionDecides", fn := fun _ => fun
  | [d] => { results := [.lit (.bool false)], args := [d] }
  | _ => none }
def FunctionDecidesWrongFalsely : Prop := functionDecidesRow.holds Tryz.pinned (OpenSpec.ofChange functionDecidesWrong)

/-- 'abugidalaw17.FunctionSingle': WHATEVER THE INPUT: true; the input reads as it did. -/
def functionSingleSpec : ChangeSpec := { name := "functionSingle", fn := fun _ => fun
  | [d] => { results := [.lit (.bool true)], args := [d] }
  | _ => none }
def functionSingleRow : OpenClaim := { program := "ytnlccnpbjeiccaagreatdoor", sum := "46e8b9c28ca8f1698ee201ec33bedfec977b7bfe8a23208f0ff883b0c53e63bc", func := "abugida/abugidalaw17.FunctionSingle", spec := "functionSingle", inPlace := ["internal/bytealg.IndexByteString", "internal/bytealg.IndexString", "internal/abi.NoEscape", "internal/bytealg.MakeNoZero"], unfollowed := true, recurses := true, named := ["internal/bytealg.MaxLen", "internal/strconv.uint64pow10", "math/bits.deBruijn32tab", "math/bits.deBruijn64tab"], plainKeys := false, apart := false, laid := [("math/bits.deBruijn32tab", laid_math_bits_deBruijn32tab), ("math/bits.deBruijn64tab", laid_math_bits_deBruijn64tab), ("internal/strconv.uint64pow10", laid_internal_strconv_uint64pow10)] }
def FunctionSingleSaid : Prop := functionSingleRow.holds Tryz.pinned (OpenSpec.ofChange functionSingleSpec)

/-- ITS FALSE NEIGHBOUR: 'it returns false'. Refute it at one input. -/
def functionSingleWrong : ChangeSpec := { name := "functionSingle", fn := fun _ => fun
  | [d] => { results := [.lit (.bool false)], args := [d] }
  | _ => none }
def FunctionSingleWrongFalsely : Prop := functionSingleRow.holds Tryz.pinned (OpenSpec.ofChange functionSingleWrong)

/-- 'abugidalaw17.FunctionSame': WHATEVER THE INPUT: true; the input reads as it did. -/
def functionSameSpec : ChangeSpec := { name := "functionSame", fn := fun _ => fun
  | [d1, d2] => { results := [.lit (.bool true)], args := [d1, d2] }
  | _ => none }
def functionSameRow : OpenClaim := { program := "ytnlccnpbjeiccaagreatdoor", sum := "46e8b9c28ca8f1698ee201ec33bedfec977b7bfe8a23208f0ff883b0c53e63bc", func := "abugida/abugidalaw17.FunctionSame", spec := "functionSame", inPlace := ["internal/bytealg.IndexByteString", "internal/bytealg.IndexString", "internal/abi.NoEscape", "internal/bytealg.MakeNoZero"], unfollowed := true, recurses := true, named := ["internal/bytealg.MaxLen", "internal/strconv.uint64pow10", "math/bits.deBruijn32tab", "math/bits.deBruijn64tab"], plainKeys := false, apart := false, laid := [("math/bits.deBruijn32tab", laid_math_bits_deBruijn32tab), ("math/bits.deBruijn64tab", laid_math_bits_deBruijn64tab), ("internal/strconv.uint64pow10", laid_internal_strconv_uint64pow10)] }
def FunctionSameSaid : Prop := functionSameRow.holds Tryz.pinned (OpenSpec.ofChange functionSameSpec)

/-- ITS FALSE NEIGHBOUR: 'it returns false'. Refute it at one input. -/
def functionSameWrong : ChangeSpec := { name := "functionSame", fn := fun _ => fun
  | [d1, d2] => { results := [.lit (.bool false)], args := [d1, d2] }
  | _ => none }
def FunctionSameWrongFalsely : Prop := functionSameRow.holds Tryz.pinned (OpenSpec.ofChange functionSameWrong)

/-- 'abugidalaw17.FunctionSure': WHATEVER THE INPUT: true; the input reads as it did. -/
def functionSureSpec : ChangeSpec := { name := "functionSure", fn := fun _ => fun
  | [d] => { results := [.lit (.bool true)], args := [d] }
  | _ => none }
def functionSureRow : OpenClaim := { program := "ytnlccnpbjeiccaagreatdoor", sum := "46e8b9c28ca8f1698ee201ec33bedfec977b7bfe8a23208f0ff883b0c53e63bc", func := "abugida/abugidalaw17.FunctionSure", spec := "functionSure", inPlace := ["internal/bytealg.IndexByteString", "internal/bytealg.IndexString", "internal/abi.NoEscape", "internal/bytealg.MakeNoZero"], unfollowed := true, recurses := true, named := ["internal/bytealg.MaxLen", "internal/strconv.uint64pow10", "math/bits.deBruijn32tab", "math/bits.deBruijn64tab"], plainKeys := false, apart := false, laid := [("math/bits.deBruijn32tab", laid_math_bits_deBruijn32tab), ("math/bits.deBruijn64tab", laid_math_bits_deBruijn64tab), ("internal/strconv.uint64pow10", laid_internal_strconv_uint64pow10)] }
def FunctionSureSaid : Prop := functionSureRow.holds Tryz.pinned (OpenSpec.ofChange functionSureSpec)

/-- ITS FALSE NEIGHBOUR: 'it returns false'. Refute it at one input. -/
def functionSureWrong : ChangeSpec := { name := "functionSure", fn := fun _ => fun
  | [d] => { results := [.lit (.bool false)], args := [d] }
  | _ => none }
def FunctionSureWrongFalsely : Prop := functionSureRow.holds Tryz.pinned (OpenSpec.ofChange functionSureWrong)

/-- 'abugidalaw17.FunctionLess': WHATEVER THE INPUT: true; the input reads as it did. -/
def functionLessSpec : ChangeSpec := { name := "functionLess", fn := fun _ => fun
  | [d1, d2, d3] => { results := [.lit (.bool true)], args := [d1, d2, d3] }
  | _ => none }
def functionLessRow : OpenClaim := { program := "ytnlccnpbjeiccaagreatdoor", sum := "46e8b9c28ca8f1698ee201ec33bedfec977b7bfe8a23208f0ff883b0c53e63bc", func := "abugida/abugidalaw17.FunctionLess", spec := "functionLess", inPlace := ["internal/bytealg.IndexByteString", "internal/bytealg.IndexString", "internal/abi.NoEscape", "internal/bytealg.MakeNoZero"], unfollowed := true, recurses := true, named := ["internal/bytealg.MaxLen", "internal/strconv.uint64pow10", "math/bits.deBruijn32tab", "math/bits.deBruijn64tab"], plainKeys := false, apart := false, laid := [("math/bits.deBruijn32tab", laid_math_bits_deBruijn32tab), ("math/bits.deBruijn64tab", laid_math_bits_deBruijn64tab), ("internal/strconv.uint64pow10", laid_internal_strconv_uint64pow10)] }
def FunctionLessSaid : Prop := functionLessRow.holds Tryz.pinned (OpenSpec.ofChange functionLessSpec)

/-- ITS FALSE NEIGHBOUR: 'it returns false'. Refute it at one input. -/
def functionLessWrong : ChangeSpec := { name := "functionLess", fn := fun _ => fun
  | [d1, d2, d3] => { results := [.lit (.bool false)], args := [d1, d2, d3] }
  | _ => none }
def FunctionLessWrongFalsely : Prop := functionLessRow.holds Tryz.pinned (OpenSpec.ofChange functionLessWrong)

/-- 'abugidalaw17.FunctionCounts': WHATEVER THE INPUT: true; the input reads as it did. -/
def functionCountsSpec : ChangeSpec := { name := "functionCounts", fn := fun _ => fun
  | [d1, d2] => { results := [.lit (.bool true)], args := [d1, d2] }
  | _ => none }
def functionCountsRow : OpenClaim := { program := "ytnlccnpbjeiccaagreatdoor", sum := "46e8b9c28ca8f1698ee201ec33bedfec977b7bfe8a23208f0ff883b0c53e63bc", func := "abugida/abugidalaw17.FunctionCounts", spec := "functionCounts", inPlace := ["internal/bytealg.IndexByteString", "internal/bytealg.IndexString", "internal/abi.NoEscape", "internal/bytealg.MakeNoZero"], unfollowed := true, recurses := true, named := ["internal/bytealg.MaxLen", "internal/strconv.uint64pow10", "math/bits.deBruijn32tab", "math/bits.deBruijn64tab"], plainKeys := false, apart := false, laid := [("math/bits.deBruijn32tab", laid_math_bits_deBruijn32tab), ("math/bits.deBruijn64tab", laid_math_bits_deBruijn64tab), ("internal/strconv.uint64pow10", laid_internal_strconv_uint64pow10)] }
def FunctionCountsSaid : Prop := functionCountsRow.holds Tryz.pinned (OpenSpec.ofChange functionCountsSpec)

/-- ITS FALSE NEIGHBOUR: 'it returns false'. Refute it at one input. -/
def functionCountsWrong : ChangeSpec := { name := "functionCounts", fn := fun _ => fun
  | [d1, d2] => { results := [.lit (.bool false)], args := [d1, d2] }
  | _ => none }
def FunctionCountsWrongFalsely : Prop := functionCountsRow.holds Tryz.pinned (OpenSpec.ofChange functionCountsWrong)

/-- 'abugidalaw17.FunctionPaths': WHATEVER THE INPUT: true; the input reads as it did. -/
def functionPathsSpec : ChangeSpec := { name := "functionPaths", fn := fun _ => fun
  | [d] => { results := [.lit (.bool true)], args := [d] }
  | _ => none }
def functionPathsRow : OpenClaim := { program := "ytnlccnpbjeiccaagreatdoor", sum := "46e8b9c28ca8f1698ee201ec33bedfec977b7bfe8a23208f0ff883b0c53e63bc", func := "abugida/abugidalaw17.FunctionPaths", spec := "functionPaths", inPlace := ["internal/bytealg.IndexByteString", "internal/bytealg.IndexString", "internal/abi.NoEscape", "internal/bytealg.MakeNoZero"], unfollowed := true, recurses := true, named := ["internal/bytealg.MaxLen", "internal/strconv.uint64pow10", "math/bits.deBruijn32tab", "math/bits.deBruijn64tab"], plainKeys := false, apart := false, laid := [("math/bits.deBruijn32tab", laid_math_bits_deBruijn32tab), ("math/bits.deBruijn64tab", laid_math_bits_deBruijn64tab), ("internal/strconv.uint64pow10", laid_internal_strconv_uint64pow10)] }
def FunctionPathsSaid : Prop := functionPathsRow.holds Tryz.pinned (OpenSpec.ofChange functionPathsSpec)

/-- ITS FALSE NEIGHBOUR: 'it returns false'. Refute it at one input. -/
def functionPathsWrong : ChangeSpec := { name := "functionPaths", fn := fun _ => fun
  | [d] => { results := [.lit (.bool false)], args := [d] }
  | _ => none }
def FunctionPathsWrongFalsely : Prop := functionPathsRow.holds Tryz.pinned (OpenSpec.ofChange functionPathsWrong)

/-- 'abugidalaw17.FunctionPairs': WHATEVER THE INPUT: true; the input reads as it did. -/
def functionPairsSpec : ChangeSpec := { name := "functionPairs", fn := fun _ => fun
  | [d1, d2, d3, d4] => { results := [.lit (.bool true)], args := [d1, d2, d3, d4] }
  | _ => none }
def functionPairsRow : OpenClaim := { program := "ytnlccnpbjeiccaagreatdoor", sum := "46e8b9c28ca8f1698ee201ec33bedfec977b7bfe8a23208f0ff883b0c53e63bc", func := "abugida/abugidalaw17.FunctionPairs", spec := "functionPairs", inPlace := ["internal/bytealg.IndexByteString", "internal/bytealg.IndexString", "internal/abi.NoEscape", "internal/bytealg.MakeNoZero"], unfollowed := true, recurses := true, named := ["internal/bytealg.MaxLen", "internal/strconv.uint64pow10", "math/bits.deBruijn32tab", "math/bits.deBruijn64tab"], plainKeys := false, apart := false, laid := [("math/bits.deBruijn32tab", laid_math_bits_deBruijn32tab), ("math/bits.deBruijn64tab", laid_math_bits_deBruijn64tab), ("internal/strconv.uint64pow10", laid_internal_strconv_uint64pow10)] }
def FunctionPairsSaid : Prop := functionPairsRow.holds Tryz.pinned (OpenSpec.ofChange functionPairsSpec)

/-- ITS FALSE NEIGHBOUR: 'it returns false'. Refute it at one input. -/
def functionPairsWrong : ChangeSpec := { name := "functionPairs", fn := fun _ => fun
  | [d1, d2, d3, d4] => { results := [.lit (.bool false)], args := [d1, d2, d3, d4] }
  | _ => none }
def FunctionPairsWrongFalsely : Prop := functionPairsRow.holds Tryz.pinned (OpenSpec.ofChange functionPairsWrong)

/-- 'abugidalaw17.FunctionItself': WHATEVER THE INPUT: true; the input reads as it did. -/
def functionItselfSpec : ChangeSpec := { name := "functionItself", fn := fun _ => fun
  | [d1, d2] => { results := [.lit (.bool true)], args := [d1, d2] }
  | _ => none }
def functionItselfRow : OpenClaim := { program := "ytnlccnpbjeiccaagreatdoor", sum := "46e8b9c28ca8f1698ee201ec33bedfec977b7bfe8a23208f0ff883b0c53e63bc", func := "abugida/abugidalaw17.FunctionItself", spec := "functionItself", inPlace := ["internal/bytealg.IndexByteString", "internal/bytealg.IndexString", "internal/abi.NoEscape", "internal/bytealg.MakeNoZero"], unfollowed := true, recurses := true, named := ["internal/bytealg.MaxLen", "internal/strconv.uint64pow10", "math/bits.deBruijn32tab", "math/bits.deBruijn64tab"], plainKeys := false, apart := false, laid := [("math/bits.deBruijn32tab", laid_math_bits_deBruijn32tab), ("math/bits.deBruijn64tab", laid_math_bits_deBruijn64tab), ("internal/strconv.uint64pow10", laid_internal_strconv_uint64pow10)] }
def FunctionItselfSaid : Prop := functionItselfRow.holds Tryz.pinned (OpenSpec.ofChange functionItselfSpec)

/-- ITS FALSE NEIGHBOUR: 'it returns false'. Refute it at one input. -/
def functionItselfWrong : ChangeSpec := { name := "functionItself", fn := fun _ => fun
  | [d1, d2] => { results := [.lit (.bool false)], args := [d1, d2] }
  | _ => none }
def FunctionItselfWrongFalsely : Prop := functionItselfRow.holds Tryz.pinned (OpenSpec.ofChange functionItselfWrong)

/- THE SECOND FORM. 'bulk': how many values and letters a reading holds, each counted each time it is reached (what is shared counts as often as it is met; a slice's spare places count too). A statement '..UptoSaid' is the law's where the arguments, and the package variables that the reading takes, are together of bulk at most 1048576: NARROWER than '..Said'. Prove '..Said' where nothing that the law and all that it calls make is longer than what came in: it says more and counts as full. Else prove '..UptoSaid'. A law counts once. -/
mutual
def uptoBulk {H : Type} : DataW H → Nat
  | .lit (.string bytes) => bytes.length + 1
  | .lit _ => 1
  | .nil => 1
  | .ptr d => uptoBulk d + 1
  | .slice elems spare => uptoBulkAll elems + uptoBulkAll spare + 1
  | .agg parts => uptoBulkAll parts + 1
  | .iface _ d => uptoBulk d + 1
  | .map entries => uptoBulkEntries entries + 1
  | .held _ => 1
def uptoBulkAll {H : Type} : List (DataW H) → Nat
  | [] => 0
  | d :: r => uptoBulk d + uptoBulkAll r
def uptoBulkEntries {H : Type} : List (Lit × DataW H) → Nat
  | [] => 0
  | x :: r => uptoBulkEntry x + uptoBulkEntries r
def uptoBulkEntry {H : Type} : Lit × DataW H → Nat
  | (.string bytes, d) => bytes.length + uptoBulk d + 1
  | (_, d) => uptoBulk d + 1
 end
def uptoSmall : (H : Type) → List (DataW H) → Bool := fun _ ds => decide (uptoBulkAll ds ≤ 1048576)
def OpenSpec.upto (s : _root_.Go.ChangeSpec) : _root_.Go.OpenSpec := { _root_.Go.OpenSpec.ofChange s with cond := some uptoSmall }

/-- 'abugidalaw17.FunctionDecides', WHERE WHAT IT READS IS OF BULK AT MOST 1048576: true; the input reads as it did. -/
def functionDecidesUptoRow : OpenClaim := { program := "ytnlccnpbjeiccaagreatdoor", sum := "46e8b9c28ca8f1698ee201ec33bedfec977b7bfe8a23208f0ff883b0c53e63bc", func := "abugida/abugidalaw17.FunctionDecides", spec := "functionDecides", inPlace := ["internal/bytealg.IndexByteString", "internal/bytealg.IndexString", "internal/abi.NoEscape", "internal/bytealg.MakeNoZero"], unfollowed := true, recurses := true, named := ["internal/bytealg.MaxLen", "internal/strconv.uint64pow10", "math/bits.deBruijn32tab", "math/bits.deBruijn64tab"], plainKeys := false, apart := false, laid := [("math/bits.deBruijn32tab", laid_math_bits_deBruijn32tab), ("math/bits.deBruijn64tab", laid_math_bits_deBruijn64tab), ("internal/strconv.uint64pow10", laid_internal_strconv_uint64pow10)], narrowed := true }
def FunctionDecidesUptoSaid : Prop := functionDecidesUptoRow.holds Tryz.pinned (OpenSpec.upto functionDecidesSpec)

/-- 'abugidalaw17.FunctionSingle', WHERE WHAT IT READS IS OF BULK AT MOST 1048576: true; the input reads as it did. -/
def functionSingleUptoRow : OpenClaim := { program := "ytnlccnpbjeiccaagreatdoor", sum := "46e8b9c28ca8f1698ee201ec33bedfec977b7bfe8a23208f0ff883b0c53e63bc", func := "abugida/abugidalaw17.FunctionSingle", spec := "functionSingle", inPlace := ["internal/bytealg.IndexByteString", "internal/bytealg.IndexString", "internal/abi.NoEscape", "internal/bytealg.MakeNoZero"], unfollowed := true, recurses := true, named := ["internal/bytealg.MaxLen", "internal/strconv.uint64pow10", "math/bits.deBruijn32tab", "math/bits.deBruijn64tab"], plainKeys := false, apart := false, laid := [("math/bits.deBruijn32tab", laid_math_bits_deBruijn32tab), ("math/bits.deBruijn64tab", laid_math_bits_deBruijn64tab), ("internal/strconv.uint64pow10", laid_internal_strconv_uint64pow10)], narrowed := true }
def FunctionSingleUptoSaid : Prop := functionSingleUptoRow.holds Tryz.pinned (OpenSpec.upto functionSingleSpec)

/-- 'abugidalaw17.FunctionSame', WHERE WHAT IT READS IS OF BULK AT MOST 1048576: true; the input reads as it did. -/
def functionSameUptoRow : OpenClaim := { program := "ytnlccnpbjeiccaagreatdoor", sum := "46e8b9c28ca8f1698ee201ec33bedfec977b7bfe8a23208f0ff883b0c53e63bc", func := "abugida/abugidalaw17.FunctionSame", spec := "functionSame", inPlace := ["internal/bytealg.IndexByteString", "internal/bytealg.IndexString", "internal/abi.NoEscape", "internal/bytealg.MakeNoZero"], unfollowed := true, recurses := true, named := ["internal/bytealg.MaxLen", "internal/strconv.uint64pow10", "math/bits.deBruijn32tab", "math/bits.deBruijn64tab"], plainKeys := false, apart := false, laid := [("math/bits.deBruijn32tab", laid_math_bits_deBruijn32tab), ("math/bits.deBruijn64tab", laid_math_bits_deBruijn64tab), ("internal/strconv.uint64pow10", laid_internal_strconv_uint64pow10)], narrowed := true }
def FunctionSameUptoSaid : Prop := functionSameUptoRow.holds Tryz.pinned (OpenSpec.upto functionSameSpec)

/-- 'abugidalaw17.FunctionSure', WHERE WHAT IT READS IS OF BULK AT MOST 1048576: true; the input reads as it did. -/
def functionSureUptoRow : OpenClaim := { program := "ytnlccnpbjeiccaagreatdoor", sum := "46e8b9c28ca8f1698ee201ec33bedfec977b7bfe8a23208f0ff883b0c53e63bc", func := "abugida/abugidalaw17.FunctionSure", spec := "functionSure", inPlace := ["internal/bytealg.IndexByteString", "internal/bytealg.IndexString", "internal/abi.NoEscape", "internal/bytealg.MakeNoZero"], unfollowed := true, recurses := true, named := ["internal/bytealg.MaxLen", "internal/strconv.uint64pow10", "math/bits.deBruijn32tab", "math/bits.deBruijn64tab"], plainKeys := false, apart := false, laid := [("math/bits.deBruijn32tab", laid_math_bits_deBruijn32tab), ("math/bits.deBruijn64tab", laid_math_bits_deBruijn64tab), ("internal/strconv.uint64pow10", laid_internal_strconv_uint64pow10)], narrowed := true }
def FunctionSureUptoSaid : Prop := functionSureUptoRow.holds Tryz.pinned (OpenSpec.upto functionSureSpec)

/-- 'abugidalaw17.FunctionLess', WHERE WHAT IT READS IS OF BULK AT MOST 1048576: true; the input reads as it did. -/
def functionLessUptoRow : OpenClaim := { program := "ytnlccnpbjeiccaagreatdoor", sum := "46e8b9c28ca8f1698ee201ec33bedfec977b7bfe8a23208f0ff883b0c53e63bc", func := "abugida/abugidalaw17.FunctionLess", spec := "functionLess", inPlace := ["internal/bytealg.IndexByteString", "internal/bytealg.IndexString", "internal/abi.NoEscape", "internal/bytealg.MakeNoZero"], unfollowed := true, recurses := true, named := ["internal/bytealg.MaxLen", "internal/strconv.uint64pow10", "math/bits.deBruijn32tab", "math/bits.deBruijn64tab"], plainKeys := false, apart := false, laid := [("math/bits.deBruijn32tab", laid_math_bits_deBruijn32tab), ("math/bits.deBruijn64tab", laid_math_bits_deBruijn64tab), ("internal/strconv.uint64pow10", laid_internal_strconv_uint64pow10)], narrowed := true }
def FunctionLessUptoSaid : Prop := functionLessUptoRow.holds Tryz.pinned (OpenSpec.upto functionLessSpec)

/-- 'abugidalaw17.FunctionCounts', WHERE WHAT IT READS IS OF BULK AT MOST 1048576: true; the input reads as it did. -/
def functionCountsUptoRow : OpenClaim := { program := "ytnlccnpbjeiccaagreatdoor", sum := "46e8b9c28ca8f1698ee201ec33bedfec977b7bfe8a23208f0ff883b0c53e63bc", func := "abugida/abugidalaw17.FunctionCounts", spec := "functionCounts", inPlace := ["internal/bytealg.IndexByteString", "internal/bytealg.IndexString", "internal/abi.NoEscape", "internal/bytealg.MakeNoZero"], unfollowed := true, recurses := true, named := ["internal/bytealg.MaxLen", "internal/strconv.uint64pow10", "math/bits.deBruijn32tab", "math/bits.deBruijn64tab"], plainKeys := false, apart := false, laid := [("math/bits.deBruijn32tab", laid_math_bits_deBruijn32tab), ("math/bits.deBruijn64tab", laid_math_bits_deBruijn64tab), ("internal/strconv.uint64pow10", laid_internal_strconv_uint64pow10)], narrowed := true }
def FunctionCountsUptoSaid : Prop := functionCountsUptoRow.holds Tryz.pinned (OpenSpec.upto functionCountsSpec)

/-- 'abugidalaw17.FunctionPaths', WHERE WHAT IT READS IS OF BULK AT MOST 1048576: true; the input reads as it did. -/
def functionPathsUptoRow : OpenClaim := { program := "ytnlccnpbjeiccaagreatdoor", sum := "46e8b9c28ca8f1698ee201ec33bedfec977b7bfe8a23208f0ff883b0c53e63bc", func := "abugida/abugidalaw17.FunctionPaths", spec := "functionPaths", inPlace := ["internal/bytealg.IndexByteString", "internal/bytealg.IndexString", "internal/abi.NoEscape", "internal/bytealg.MakeNoZero"], unfollowed := true, recurses := true, named := ["internal/bytealg.MaxLen", "internal/strconv.uint64pow10", "math/bits.deBruijn32tab", "math/bits.deBruijn64tab"], plainKeys := false, apart := false, laid := [("math/bits.deBruijn32tab", laid_math_bits_deBruijn32tab), ("math/bits.deBruijn64tab", laid_math_bits_deBruijn64tab), ("internal/strconv.uint64pow10", laid_internal_strconv_uint64pow10)], narrowed := true }
def FunctionPathsUptoSaid : Prop := functionPathsUptoRow.holds Tryz.pinned (OpenSpec.upto functionPathsSpec)

/-- 'abugidalaw17.FunctionPairs', WHERE WHAT IT READS IS OF BULK AT MOST 1048576: true; the input reads as it did. -/
def functionPairsUptoRow : OpenClaim := { program := "ytnlccnpbjeiccaagreatdoor", sum := "46e8b9c28ca8f1698ee201ec33bedfec977b7bfe8a23208f0ff883b0c53e63bc", func := "abugida/abugidalaw17.FunctionPairs", spec := "functionPairs", inPlace := ["internal/bytealg.IndexByteString", "internal/bytealg.IndexString", "internal/abi.NoEscape", "internal/bytealg.MakeNoZero"], unfollowed := true, recurses := true, named := ["internal/bytealg.MaxLen", "internal/strconv.uint64pow10", "math/bits.deBruijn32tab", "math/bits.deBruijn64tab"], plainKeys := false, apart := false, laid := [("math/bits.deBruijn32tab", laid_math_bits_deBruijn32tab), ("math/bits.deBruijn64tab", laid_math_bits_deBruijn64tab), ("internal/strconv.uint64pow10", laid_internal_strconv_uint64pow10)], narrowed := true }
def FunctionPairsUptoSaid : Prop := functionPairsUptoRow.holds Tryz.pinned (OpenSpec.upto functionPairsSpec)

/-- 'abugidalaw17.FunctionItself', WHERE WHAT IT READS IS OF BULK AT MOST 1048576: true; the input reads as it did. -/
def functionItselfUptoRow : OpenClaim := { program := "ytnlccnpbjeiccaagreatdoor", sum := "46e8b9c28ca8f1698ee201ec33bedfec977b7bfe8a23208f0ff883b0c53e63bc", func := "abugida/abugidalaw17.FunctionItself", spec := "functionItself", inPlace := ["internal/bytealg.IndexByteString", "internal/bytealg.IndexString", "internal/abi.NoEscape", "internal/bytealg.MakeNoZero"], unfollowed := true, recurses := true, named := ["internal/bytealg.MaxLen", "internal/strconv.uint64pow10", "math/bits.deBruijn32tab", "math/bits.deBruijn64tab"], plainKeys := false, apart := false, laid := [("math/bits.deBruijn32tab", laid_math_bits_deBruijn32tab), ("math/bits.deBruijn64tab", laid_math_bits_deBruijn64tab), ("internal/strconv.uint64pow10", laid_internal_strconv_uint64pow10)], narrowed := true }
def FunctionItselfUptoSaid : Prop := functionItselfUptoRow.holds Tryz.pinned (OpenSpec.upto functionItselfSpec)

end Rows
end Go.Proofs.YtnlccnpbjeiccaaGreatDoor
