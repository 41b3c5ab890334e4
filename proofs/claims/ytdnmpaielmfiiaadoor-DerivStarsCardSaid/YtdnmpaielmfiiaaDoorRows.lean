/-
  NARROWER THAN 'FOR EVERY INPUT', by the rows' own cells (each row's printed sentence says how): DerivAny: loops, laid · DerivMade: laid · DerivMatch: laid · DerivText: laid · DerivAhead: laid · DerivRight: laid · DerivJoins: laid · DerivStars: laid.
  DERIVED. THE GIVEN ROWS OF THIS SEAT. 8 by the template 'for every input the law returns true; each argument reads behind the call as it read before'; 0 by the template 'total and deterministic' (their statements: YtdnmpaielmfiiaaDoorTotals.lean).
  GIVEN WITH THE SEED: the statements are not yours to turn. If you find one false, say at which input.
  Laid BY PROGRAM, IN A SANDBOX (cutbox-rows.mjs): the forced cells as the released guide's own fill.sh prints them over the translation 79be1fb24955b26e… (all of the seat's roots in one cut). By AI agents, Wed Nov 11 2026. No macro, syntax, notation, axiom, sorry.
-/
import Derived.Test.YtdnmpaielmfiiaaDoorChecked
import GoSem.Claim
import GoSem.ClaimJoined
import GoSem.ClaimMapViews
import Derived.JoinedTies
import Derived.KernelRfl
namespace Go.Proofs.YtdnmpaielmfiiaaDoor
/- THE CELL 'sum', in the pinned program and in every row, IS THE sha256 OF THE DUMP (.gsa) THAT YtdnmpaielmfiiaaDoorProg.lean LOADS. Nothing in Lean hashes anything: it is a label: what it is worth is what the hold of that sum in a sandbox is worth. -/
noncomputable def Tryd.pinned : Pinned := { name := "ytdnmpaielmfiiaadoor", sum := "79be1fb24955b26ef5d812ee00a989d019dbea6d32b616b1fdf0c7f2770665cd", checked := Tryd.checked }
namespace Rows
def none {H : Type} : Left H := { results := [], args := [] }

/- WHAT THE LISTED PACKAGE-LEVEL VARIABLES READ AS WHEN THE CALL BEGINS. Each datum BY PROGRAM (the guide's laid-datum.mjs) off the statement by which the dump's own 'gosem.cut.vars' lays the variable. In a bare row this is a premise. The card (YtdnmpaielmfiiaaDoorCards.lean) ties it to the program's text. -/
def laid_math_bits_deBruijn32tab {H : Type} : DataW H := .agg [.lit (.int .u8 0), .lit (.int .u8 1), .lit (.int .u8 28), .lit (.int .u8 2), .lit (.int .u8 29), .lit (.int .u8 14), .lit (.int .u8 24), .lit (.int .u8 3), .lit (.int .u8 30), .lit (.int .u8 22), .lit (.int .u8 20), .lit (.int .u8 15), .lit (.int .u8 25), .lit (.int .u8 17), .lit (.int .u8 4), .lit (.int .u8 8), .lit (.int .u8 31), .lit (.int .u8 27), .lit (.int .u8 13), .lit (.int .u8 23), .lit (.int .u8 21), .lit (.int .u8 19), .lit (.int .u8 16), .lit (.int .u8 7), .lit (.int .u8 26), .lit (.int .u8 12), .lit (.int .u8 18), .lit (.int .u8 6), .lit (.int .u8 11), .lit (.int .u8 5), .lit (.int .u8 10), .lit (.int .u8 9)]
def laid_math_bits_deBruijn64tab {H : Type} : DataW H := .agg [.lit (.int .u8 0), .lit (.int .u8 1), .lit (.int .u8 56), .lit (.int .u8 2), .lit (.int .u8 57), .lit (.int .u8 49), .lit (.int .u8 28), .lit (.int .u8 3), .lit (.int .u8 61), .lit (.int .u8 58), .lit (.int .u8 42), .lit (.int .u8 50), .lit (.int .u8 38), .lit (.int .u8 29), .lit (.int .u8 17), .lit (.int .u8 4), .lit (.int .u8 62), .lit (.int .u8 47), .lit (.int .u8 59), .lit (.int .u8 36), .lit (.int .u8 45), .lit (.int .u8 43), .lit (.int .u8 51), .lit (.int .u8 22), .lit (.int .u8 53), .lit (.int .u8 39), .lit (.int .u8 33), .lit (.int .u8 30), .lit (.int .u8 24), .lit (.int .u8 18), .lit (.int .u8 12), .lit (.int .u8 5), .lit (.int .u8 63), .lit (.int .u8 55), .lit (.int .u8 48), .lit (.int .u8 27), .lit (.int .u8 60), .lit (.int .u8 41), .lit (.int .u8 37), .lit (.int .u8 16), .lit (.int .u8 46), .lit (.int .u8 35), .lit (.int .u8 44), .lit (.int .u8 21), .lit (.int .u8 52), .lit (.int .u8 32), .lit (.int .u8 23), .lit (.int .u8 11), .lit (.int .u8 54), .lit (.int .u8 26), .lit (.int .u8 40), .lit (.int .u8 15), .lit (.int .u8 34), .lit (.int .u8 20), .lit (.int .u8 31), .lit (.int .u8 10), .lit (.int .u8 25), .lit (.int .u8 14), .lit (.int .u8 19), .lit (.int .u8 9), .lit (.int .u8 13), .lit (.int .u8 8), .lit (.int .u8 7), .lit (.int .u8 6)]
def laid_internal_strconv_uint64pow10 {H : Type} : DataW H := .agg [.lit (.int .u64 1), .lit (.int .u64 10), .lit (.int .u64 100), .lit (.int .u64 1000), .lit (.int .u64 10000), .lit (.int .u64 100000), .lit (.int .u64 1000000), .lit (.int .u64 10000000), .lit (.int .u64 100000000), .lit (.int .u64 1000000000), .lit (.int .u64 10000000000), .lit (.int .u64 100000000000), .lit (.int .u64 1000000000000), .lit (.int .u64 10000000000000), .lit (.int .u64 100000000000000), .lit (.int .u64 1000000000000000), .lit (.int .u64 10000000000000000), .lit (.int .u64 100000000000000000), .lit (.int .u64 1000000000000000000), .lit (.int .u64 10000000000000000000)]

/-- 'regletlaw08.DerivAny': WHATEVER THE INPUT: true; the input reads as it did. -/
def derivAnySpec : ChangeSpec := { name := "derivAny", fn := fun _ => fun
  | [d1, d2] => { results := [.lit (.bool true)], args := [d1, d2] }
  | _ => none }
def derivAnyRow : OpenClaim := { program := "ytdnmpaielmfiiaadoor", sum := "79be1fb24955b26ef5d812ee00a989d019dbea6d32b616b1fdf0c7f2770665cd", func := "reglet/regletlaw08.DerivAny", spec := "derivAny", inPlace := ["slices.overlaps[reglet/api.Re]", "internal/abi.NoEscape", "internal/bytealg.MakeNoZero", "internal/bytealg.abigen_runtime_cmpstring"], unfollowed := true, recurses := true, named := ["math/bits.deBruijn64tab", "internal/strconv.uint64pow10", "math/bits.deBruijn32tab"], loops := true, apart := false, laid := [("math/bits.deBruijn32tab", laid_math_bits_deBruijn32tab), ("math/bits.deBruijn64tab", laid_math_bits_deBruijn64tab), ("internal/strconv.uint64pow10", laid_internal_strconv_uint64pow10)] }
def DerivAnySaid : Prop := derivAnyRow.holds Tryd.pinned (OpenSpec.ofChange derivAnySpec)

/-- ITS FALSE NEIGHBOUR: 'it returns false'. Refute it at one input. -/
def derivAnyWrong : ChangeSpec := { name := "derivAny", fn := fun _ => fun
  | [d1, d2] => { results := [.lit (.bool false)], args := [d1, d2] }
  | _ => none }
def DerivAnyWrongFalsely : Prop := derivAnyRow.holds Tryd.pinned (OpenSpec.ofChange derivAnyWrong)

/-- 'regletlaw08.DerivMade': WHATEVER THE INPUT: true; the input reads as it did. -/
def derivMadeSpec : ChangeSpec := { name := "derivMade", fn := fun _ => fun
  | [d1, d2] => { results := [.lit (.bool true)], args := [d1, d2] }
  | _ => none }
def derivMadeRow : OpenClaim := { program := "ytdnmpaielmfiiaadoor", sum := "79be1fb24955b26ef5d812ee00a989d019dbea6d32b616b1fdf0c7f2770665cd", func := "reglet/regletlaw08.DerivMade", spec := "derivMade", inPlace := ["slices.overlaps[reglet/api.Re]", "internal/abi.NoEscape", "internal/bytealg.MakeNoZero", "internal/bytealg.abigen_runtime_cmpstring"], unfollowed := true, recurses := true, named := ["math/bits.deBruijn64tab", "internal/strconv.uint64pow10", "math/bits.deBruijn32tab"], apart := false, laid := [("math/bits.deBruijn32tab", laid_math_bits_deBruijn32tab), ("math/bits.deBruijn64tab", laid_math_bits_deBruijn64tab), ("internal/strconv.uint64pow10", laid_internal_strconv_uint64pow10)] }
def DerivMadeSaid : Prop := derivMadeRow.holds Tryd.pinned (OpenSpec.ofChange derivMadeSpec)

/-- ITS FALSE NEIGHBOUR: 'it returns false'. Refute it at one input. -/
def derivMadeWrong : ChangeSpec := { name := "derivMade", fn := fun _ => fun
  | [d1, d2] => { results := [.lit (.bool false)], args := [d1, d2] }
  | _ => none }
def DerivMadeWrongFalsely : Prop := derivMadeRow.holds Tryd.pinned (OpenSpec.ofChange derivMadeWrong)

/-- 'regletlaw08.DerivMatch': WHATEVER THE INPUT: true; the input reads as it did. -/
def derivMatchSpec : ChangeSpec := { name := "derivMatch", fn := fun _ => fun
  | [d1, d2] => { results := [.lit (.bool true)], args := [d1, d2] }
  | _ => none }
def derivMatchRow : OpenClaim := { program := "ytdnmpaielmfiiaadoor", sum := "79be1fb24955b26ef5d812ee00a989d019dbea6d32b616b1fdf0c7f2770665cd", func := "reglet/regletlaw08.DerivMatch", spec := "derivMatch", inPlace := ["slices.overlaps[reglet/api.Re]", "internal/abi.NoEscape", "internal/bytealg.MakeNoZero", "internal/bytealg.abigen_runtime_cmpstring"], unfollowed := true, recurses := true, named := ["math/bits.deBruijn64tab", "internal/strconv.uint64pow10", "math/bits.deBruijn32tab"], apart := false, laid := [("math/bits.deBruijn32tab", laid_math_bits_deBruijn32tab), ("math/bits.deBruijn64tab", laid_math_bits_deBruijn64tab), ("internal/strconv.uint64pow10", laid_internal_strconv_uint64pow10)] }
def DerivMatchSaid : Prop := derivMatchRow.holds Tryd.pinned (OpenSpec.ofChange derivMatchSpec)

/-- ITS FALSE NEIGHBOUR: 'it returns false'. Refute it at one input. -/
def derivMatchWrong : ChangeSpec := { name := "derivMatch", fn := fun _ => fun
  | [d1, d2] => { results := [.lit (.bool false)], args := [d1, d2] }
  | _ => none }
def DerivMatchWrongFalsely : Prop := derivMatchRow.holds Tryd.pinned (OpenSpec.ofChange derivMatchWrong)

/-- 'regletlaw08.DerivText': WHATEVER THE INPUT: true; the input reads as it did. -/
def derivTextSpec : ChangeSpec := { name := "derivText", fn := fun _ => fun
  | [d1, d2] => { results := [.lit (.bool true)], args := [d1, d2] }
  | _ => none }
def derivTextRow : OpenClaim := { program := "ytdnmpaielmfiiaadoor", sum := "79be1fb24955b26ef5d812ee00a989d019dbea6d32b616b1fdf0c7f2770665cd", func := "reglet/regletlaw08.DerivText", spec := "derivText", inPlace := ["slices.overlaps[reglet/api.Re]", "internal/abi.NoEscape", "internal/bytealg.MakeNoZero", "internal/bytealg.abigen_runtime_cmpstring"], unfollowed := true, recurses := true, named := ["math/bits.deBruijn64tab", "internal/strconv.uint64pow10", "math/bits.deBruijn32tab"], apart := false, laid := [("math/bits.deBruijn32tab", laid_math_bits_deBruijn32tab), ("math/bits.deBruijn64tab", laid_math_bits_deBruijn64tab), ("internal/strconv.uint64pow10", laid_internal_strconv_uint64pow10)] }
def DerivTextSaid : Prop := derivTextRow.holds Tryd.pinned (OpenSpec.ofChange derivTextSpec)

/-- ITS FALSE NEIGHBOUR: 'it returns false'. Refute it at one input. -/
def derivTextWrong : ChangeSpec := { name := "derivText", fn := fun _ => fun
  | [d1, d2] => { results := [.lit (.bool false)], args := [d1, d2] }
  | _ => none }
def DerivTextWrongFalsely : Prop := derivTextRow.holds Tryd.pinned (OpenSpec.ofChange derivTextWrong)

/-- 'regletlaw08.DerivAhead': WHATEVER THE INPUT: true; the input reads as it did. -/
def derivAheadSpec : ChangeSpec := { name := "derivAhead", fn := fun _ => fun
  | [d1, d2, d3] => { results := [.lit (.bool true)], args := [d1, d2, d3] }
  | _ => none }
def derivAheadRow : OpenClaim := { program := "ytdnmpaielmfiiaadoor", sum := "79be1fb24955b26ef5d812ee00a989d019dbea6d32b616b1fdf0c7f2770665cd", func := "reglet/regletlaw08.DerivAhead", spec := "derivAhead", inPlace := ["slices.overlaps[reglet/api.Re]", "internal/abi.NoEscape", "internal/bytealg.MakeNoZero", "internal/bytealg.abigen_runtime_cmpstring"], unfollowed := true, recurses := true, named := ["math/bits.deBruijn64tab", "internal/strconv.uint64pow10", "math/bits.deBruijn32tab"], apart := false, laid := [("math/bits.deBruijn32tab", laid_math_bits_deBruijn32tab), ("math/bits.deBruijn64tab", laid_math_bits_deBruijn64tab), ("internal/strconv.uint64pow10", laid_internal_strconv_uint64pow10)] }
def DerivAheadSaid : Prop := derivAheadRow.holds Tryd.pinned (OpenSpec.ofChange derivAheadSpec)

/-- ITS FALSE NEIGHBOUR: 'it returns false'. Refute it at one input. -/
def derivAheadWrong : ChangeSpec := { name := "derivAhead", fn := fun _ => fun
  | [d1, d2, d3] => { results := [.lit (.bool false)], args := [d1, d2, d3] }
  | _ => none }
def DerivAheadWrongFalsely : Prop := derivAheadRow.holds Tryd.pinned (OpenSpec.ofChange derivAheadWrong)

/-- 'regletlaw08.DerivRight': WHATEVER THE INPUT: true; the input reads as it did. -/
def derivRightSpec : ChangeSpec := { name := "derivRight", fn := fun _ => fun
  | [d1, d2] => { results := [.lit (.bool true)], args := [d1, d2] }
  | _ => none }
def derivRightRow : OpenClaim := { program := "ytdnmpaielmfiiaadoor", sum := "79be1fb24955b26ef5d812ee00a989d019dbea6d32b616b1fdf0c7f2770665cd", func := "reglet/regletlaw08.DerivRight", spec := "derivRight", inPlace := ["slices.overlaps[reglet/api.Re]", "internal/abi.NoEscape", "internal/bytealg.MakeNoZero", "internal/bytealg.abigen_runtime_cmpstring"], unfollowed := true, recurses := true, named := ["math/bits.deBruijn64tab", "internal/strconv.uint64pow10", "math/bits.deBruijn32tab"], apart := false, laid := [("math/bits.deBruijn32tab", laid_math_bits_deBruijn32tab), ("math/bits.deBruijn64tab", laid_math_bits_deBruijn64tab), ("internal/strconv.uint64pow10", laid_internal_strconv_uint64pow10)] }
def DerivRightSaid : Prop := derivRightRow.holds Tryd.pinned (OpenSpec.ofChange derivRightSpec)

/-- ITS FALSE NEIGHBOUR: 'it returns false'. Refute it at one input. -/
def derivRightWrong : ChangeSpec := { name := "derivRight", fn := fun _ => fun
  | [d1, d2] => { results := [.lit (.bool false)], args := [d1, d2] }
  | _ => none }
def DerivRightWrongFalsely : Prop := derivRightRow.holds Tryd.pinned (OpenSpec.ofChange derivRightWrong)

/-- 'regletlaw08.DerivJoins': WHATEVER THE INPUT: true; the input reads as it did. -/
def derivJoinsSpec : ChangeSpec := { name := "derivJoins", fn := fun _ => fun
  | [d1, d2, d3] => { results := [.lit (.bool true)], args := [d1, d2, d3] }
  | _ => none }
def derivJoinsRow : OpenClaim := { program := "ytdnmpaielmfiiaadoor", sum := "79be1fb24955b26ef5d812ee00a989d019dbea6d32b616b1fdf0c7f2770665cd", func := "reglet/regletlaw08.DerivJoins", spec := "derivJoins", inPlace := ["slices.overlaps[reglet/api.Re]", "internal/abi.NoEscape", "internal/bytealg.MakeNoZero", "internal/bytealg.abigen_runtime_cmpstring"], unfollowed := true, recurses := true, named := ["math/bits.deBruijn64tab", "internal/strconv.uint64pow10", "math/bits.deBruijn32tab"], apart := false, laid := [("math/bits.deBruijn32tab", laid_math_bits_deBruijn32tab), ("math/bits.deBruijn64tab", laid_math_bits_deBruijn64tab), ("internal/strconv.uint64pow10", laid_internal_strconv_uint64pow10)] }
def DerivJoinsSaid : Prop := derivJoinsRow.holds Tryd.pinned (OpenSpec.ofChange derivJoinsSpec)

/-- ITS FALSE NEIGHBOUR: 'it returns false'. Refute it at one input. -/
def derivJoinsWrong : ChangeSpec := { name := "derivJoins", fn := fun _ => fun
  | [d1, d2, d3] => { results := [.lit (.bool false)], args := [d1, d2, d3] }
  | _ => none }
def DerivJoinsWrongFalsely : Prop := derivJoinsRow.holds Tryd.pinned (OpenSpec.ofChange derivJoinsWrong)

/-- 'regletlaw08.DerivStars': WHATEVER THE INPUT: true; the input reads as it did. -/
def derivStarsSpec : ChangeSpec := { name := "derivStars", fn := fun _ => fun
  | [d1, d2, d3] => { results := [.lit (.bool true)], args := [d1, d2, d3] }
  | _ => none }
def derivStarsRow : OpenClaim := { program := "ytdnmpaielmfiiaadoor", sum := "79be1fb24955b26ef5d812ee00a989d019dbea6d32b616b1fdf0c7f2770665cd", func := "reglet/regletlaw08.DerivStars", spec := "derivStars", inPlace := ["slices.overlaps[reglet/api.Re]", "internal/abi.NoEscape", "internal/bytealg.MakeNoZero", "internal/bytealg.abigen_runtime_cmpstring"], unfollowed := true, recurses := true, named := ["math/bits.deBruijn64tab", "internal/strconv.uint64pow10", "math/bits.deBruijn32tab"], apart := false, laid := [("math/bits.deBruijn32tab", laid_math_bits_deBruijn32tab), ("math/bits.deBruijn64tab", laid_math_bits_deBruijn64tab), ("internal/strconv.uint64pow10", laid_internal_strconv_uint64pow10)] }
def DerivStarsSaid : Prop := derivStarsRow.holds Tryd.pinned (OpenSpec.ofChange derivStarsSpec)

/-- ITS FALSE NEIGHBOUR: 'it returns false'. Refute it at one input. -/
def derivStarsWrong : ChangeSpec := { name := "derivStars", fn := fun _ => fun
  | [d1, d2, d3] => { results := [.lit (.bool false)], args := [d1, d2, d3] }
  | _ => none }
def DerivStarsWrongFalsely : Prop := derivStarsRow.holds Tryd.pinned (OpenSpec.ofChange derivStarsWrong)

/- THE SECOND FORM. 'bulk': how many values and letters a reading holds, each counted each time it is reached (what is shared counts as often as it is met; a slice's spare places count too). A statement '..UptoSaid' is the law's where the arguments, and the package variables that the reading takes, are together of bulk at most 1048576: NARROWER than '..Said'. Prove '..Said' where nothing that the law and all that it calls make is longer than what came in: it says more and counts as full. Else prove '..UptoSaid'. A law counts once. -/
mutual
def uptoBulk {H : Type} : DataW H → Nat
  | .lit (.string bytes) => bytes.length + 1
  | .lit _ => 1
  | .nil => 1
  | .ptr d => uptoBulk d + 1
  | .slice elems spare => uptoBulkAll elems + uptoBulkAll spare + 1
  | .agg parts => uptoBulkAll parts + 1
  | .iface _ d => uptoBulk d + 1
  | .map entries => uptoBulkEntries entries + 1
  | .held _ => 1
def uptoBulkAll {H : Type} : List (DataW H) → Nat
  | [] => 0
  | d :: r => uptoBulk d + uptoBulkAll r
def uptoBulkEntries {H : Type} : List (Lit × DataW H) → Nat
  | [] => 0
  | x :: r => uptoBulkEntry x + uptoBulkEntries r
def uptoBulkEntry {H : Type} : Lit × DataW H → Nat
  | (.string bytes, d) => bytes.length + uptoBulk d + 1
  | (_, d) => uptoBulk d + 1
 end
def uptoSmall : (H : Type) → List (DataW H) → Bool := fun _ ds => decide (uptoBulkAll ds ≤ 1048576)
def OpenSpec.upto (s : _root_.Go.ChangeSpec) : _root_.Go.OpenSpec := { _root_.Go.OpenSpec.ofChange s with cond := some uptoSmall }

/-- 'regletlaw08.DerivAny', WHERE WHAT IT READS IS OF BULK AT MOST 1048576: true; the input reads as it did. -/
def derivAnyUptoRow : OpenClaim := { program := "ytdnmpaielmfiiaadoor", sum := "79be1fb24955b26ef5d812ee00a989d019dbea6d32b616b1fdf0c7f2770665cd", func := "reglet/regletlaw08.DerivAny", spec := "derivAny", inPlace := ["slices.overlaps[reglet/api.Re]", "internal/abi.NoEscape", "internal/bytealg.MakeNoZero", "internal/bytealg.abigen_runtime_cmpstring"], unfollowed := true, recurses := true, named := ["math/bits.deBruijn64tab", "internal/strconv.uint64pow10", "math/bits.deBruijn32tab"], loops := true, apart := false, laid := [("math/bits.deBruijn32tab", laid_math_bits_deBruijn32tab), ("math/bits.deBruijn64tab", laid_math_bits_deBruijn64tab), ("internal/strconv.uint64pow10", laid_internal_strconv_uint64pow10)], narrowed := true }
def DerivAnyUptoSaid : Prop := derivAnyUptoRow.holds Tryd.pinned (OpenSpec.upto derivAnySpec)

/-- 'regletlaw08.DerivMade', WHERE WHAT IT READS IS OF BULK AT MOST 1048576: true; the input reads as it did. -/
def derivMadeUptoRow : OpenClaim := { program := "ytdnmpaielmfiiaadoor", sum := "79be1fb24955b26ef5d812ee00a989d019dbea6d32b616b1fdf0c7f2770665cd", func := "reglet/regletlaw08.DerivMade", spec := "derivMade", inPlace := ["slices.overlaps[reglet/api.Re]", "internal/abi.NoEscape", "internal/bytealg.MakeNoZero", "internal/bytealg.abigen_runtime_cmpstring"], unfollowed := true, recurses := true, named := ["math/bits.deBruijn64tab", "internal/strconv.uint64pow10", "math/bits.deBruijn32tab"], apart := false, laid := [("math/bits.deBruijn32tab", laid_math_bits_deBruijn32tab), ("math/bits.deBruijn64tab", laid_math_bits_deBruijn64tab), ("internal/strconv.uint64pow10", laid_internal_strconv_uint64pow10)], narrowed := true }
def DerivMadeUptoSaid : Prop := derivMadeUptoRow.holds Tryd.pinned (OpenSpec.upto derivMadeSpec)

/-- 'regletlaw08.DerivMatch', WHERE WHAT IT READS IS OF BULK AT MOST 1048576: true; the input reads as it did. -/
def derivMatchUptoRow : OpenClaim := { program := "ytdnmpaielmfiiaadoor", sum := "79be1fb24955b26ef5d812ee00a989d019dbea6d32b616b1fdf0c7f2770665cd", func := "reglet/regletlaw08.DerivMatch", spec := "derivMatch", inPlace := ["slices.overlaps[reglet/api.Re]", "internal/abi.NoEscape", "internal/bytealg.MakeNoZero", "internal/bytealg.abigen_runtime_cmpstring"], unfollowed := true, recurses := true, named := ["math/bits.deBruijn64tab", "internal/strconv.uint64pow10", "math/bits.deBruijn32tab"], apart := false, laid := [("math/bits.deBruijn32tab", laid_math_bits_deBruijn32tab), ("math/bits.deBruijn64tab", laid_math_bits_deBruijn64tab), ("internal/strconv.uint64pow10", laid_internal_strconv_uint64pow10)], narrowed := true }
def DerivMatchUptoSaid : Prop := derivMatchUptoRow.holds Tryd.pinned (OpenSpec.upto derivMatchSpec)

/-- 'regletlaw08.DerivText', WHERE WHAT IT READS IS OF BULK AT MOST 1048576: true; the input reads as it did. -/
def derivTextUptoRow : OpenClaim := { program := "ytdnmpaielmfiiaadoor", sum := "79be1fb24955b26ef5d812ee00a989d019dbea6d32b616b1fdf0c7f2770665cd", func := "reglet/regletlaw08.DerivText", spec := "derivText", inPlace := ["slices.overlaps[reglet/api.Re]", "internal/abi.NoEscape", "internal/bytealg.MakeNoZero", "internal/bytealg.abigen_runtime_cmpstring"], unfollowed := true, recurses := true, named := ["math/bits.deBruijn64tab", "internal/strconv.uint64pow10", "math/bits.deBruijn32tab"], apart := false, laid := [("math/bits.deBruijn32tab", laid_math_bits_deBruijn32tab), ("math/bits.deBruijn64tab", laid_math_bits_deBruijn64tab), ("internal/strconv.uint64pow10", laid_internal_strconv_uint64pow10)], narrowed := true }
def DerivTextUptoSaid : Prop := derivTextUptoRow.holds Tryd.pinned (OpenSpec.upto derivTextSpec)

/-- 'regletlaw08.DerivAhead', WHERE WHAT IT READS IS OF BULK AT MOST 1048576: true; the input reads as it did. -/
def derivAheadUptoRow : OpenClaim := { program := "ytdnmpaielmfiiaadoor", sum := "79be1fb24955b26ef5d812ee00a989d019dbea6d32b616b1fdf0c7f2770665cd", func := "reglet/regletlaw08.DerivAhead", spec := "derivAhead", inPlace := ["slices.overlaps[reglet/api.Re]", "internal/abi.NoEscape", "internal/bytealg.MakeNoZero", "internal/bytealg.abigen_runtime_cmpstring"], unfollowed := true, recurses := true, named := ["math/bits.deBruijn64tab", "internal/strconv.uint64pow10", "math/bits.deBruijn32tab"], apart := false, laid := [("math/bits.deBruijn32tab", laid_math_bits_deBruijn32tab), ("math/bits.deBruijn64tab", laid_math_bits_deBruijn64tab), ("internal/strconv.uint64pow10", laid_internal_strconv_uint64pow10)], narrowed := true }
def DerivAheadUptoSaid : Prop := derivAheadUptoRow.holds Tryd.pinned (OpenSpec.upto derivAheadSpec)

/-- 'regletlaw08.DerivRight', WHERE WHAT IT READS IS OF BULK AT MOST 1048576: true; the input reads as it did. -/
def derivRightUptoRow : OpenClaim := { program := "ytdnmpaielmfiiaadoor", sum := "79be1fb24955b26ef5d812ee00a989d019dbea6d32b616b1fdf0c7f2770665cd", func := "reglet/regletlaw08.DerivRight", spec := "derivRight", inPlace := ["slices.overlaps[reglet/api.Re]", "internal/abi.NoEscape", "internal/bytealg.MakeNoZero", "internal/bytealg.abigen_runtime_cmpstring"], unfollowed := true, recurses := true, named := ["math/bits.deBruijn64tab", "internal/strconv.uint64pow10", "math/bits.deBruijn32tab"], apart := false, laid := [("math/bits.deBruijn32tab", laid_math_bits_deBruijn32tab), ("math/bits.deBruijn64tab", laid_math_bits_deBruijn64tab), ("internal/strconv.uint64pow10", laid_internal_strconv_uint64pow10)], narrowed := true }
def DerivRightUptoSaid : Prop := derivRightUptoRow.holds Tryd.pinned (OpenSpec.upto derivRightSpec)

/-- 'regletlaw08.DerivJoins', WHERE WHAT IT READS IS OF BULK AT MOST 1048576: true; the input reads as it did. -/
def derivJoinsUptoRow : OpenClaim := { program := "ytdnmpaielmfiiaadoor", sum := "79be1fb24955b26ef5d812ee00a989d019dbea6d32b616b1fdf0c7f2770665cd", func := "reglet/regletlaw08.DerivJoins", spec := "derivJoins", inPlace := ["slices.overlaps[reglet/api.Re]", "internal/abi.NoEscape", "internal/bytealg.MakeNoZero", "internal/bytealg.abigen_runtime_cmpstring"], unfollowed := true, recurses := true, named := ["math/bits.deBruijn64tab", "internal/strconv.uint64pow10", "math/bits.deBruijn32tab"], apart := false, laid := [("math/bits.deBruijn32tab", laid_math_bits_deBruijn32tab), ("math/bits.deBruijn64tab", laid_math_bits_deBruijn64tab), ("internal/strconv.uint64pow10", laid_internal_strconv_uint64pow10)], narrowed := true }
def DerivJoinsUptoSaid : Prop := derivJoinsUptoRow.holds Tryd.pinned (OpenSpec.upto derivJoinsSpec)

/-- 'regletlaw08.DerivStars', WHERE WHAT IT READS IS OF BULK AT MOST 1048576: true; the input reads as it did. -/
def derivStarsUptoRow : OpenClaim := { program := "ytdnmpaielmfiiaadoor", sum := "79be1fb24955b26ef5d812ee00a989d019dbea6d32b616b1fdf0c7f2770665cd", func := "reglet/regletlaw08.DerivStars", spec := "derivStars", inPlace := ["slices.overlaps[reglet/api.Re]", "internal/abi.NoEscape", "internal/bytealg.MakeNoZero", "internal/bytealg.abigen_runtime_cmpstring"], unfollowed := true, recurses := true, named := ["math/bits.deBruijn64tab", "internal/strconv.uint64pow10", "math/bits.deBruijn32tab"], apart := false, laid := [("math/bits.deBruijn32tab", laid_math_bits_deBruijn32tab), ("math/bits.deBruijn64tab", laid_math_bits_deBruijn64tab), ("internal/strconv.uint64pow10", laid_internal_strconv_uint64pow10)], narrowed := true }
def DerivStarsUptoSaid : Prop := derivStarsUptoRow.holds Tryd.pinned (OpenSpec.upto derivStarsSpec)

end Rows
end Go.Proofs.YtdnmpaielmfiiaaDoor
