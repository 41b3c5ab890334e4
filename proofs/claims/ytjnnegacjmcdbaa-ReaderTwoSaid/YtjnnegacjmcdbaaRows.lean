/-
  No cell of these rows narrows 'for every input' (looked for: loops, veiled, ifaces, maps, wideKeys, modest, calm, conditions, laid).
  DERIVED. THE GIVEN ROWS OF THIS SEAT. 6 by the template 'for every input the law returns true; each argument reads behind the call as it read before'; 0 by the template 'total and deterministic' (their statements: YtjnnegacjmcdbaaTotals.lean).
  GIVEN WITH THE SEED: the statements are not yours to turn. If you find one false, say at which input.
  Laid BY PROGRAM, IN A SANDBOX (cutbox-rows.mjs): the forced cells as the released guide's own fill.sh prints them over the translation 69b1f3080d51e63b… (all of the seat's roots in one cut). By AI agents, Wed Nov 11 2026. No macro, syntax, notation, axiom, sorry.
-/
import Derived.Test.YtjnnegacjmcdbaaChecked
import GoSem.Claim
import GoSem.ClaimJoined
import GoSem.ClaimMapViews
import Derived.JoinedTies
import Derived.KernelRfl
namespace Go.Proofs.Ytjnnegacjmcdbaa
/- THE CELL 'sum', in the pinned program and in every row, IS THE sha256 OF THE DUMP (.gsa) THAT YtjnnegacjmcdbaaProg.lean LOADS. Nothing in Lean hashes anything: it is a label: what it is worth is what the hold of that sum in a sandbox is worth. -/
noncomputable def Try.pinned : Pinned := { name := "ytjnnegacjmcdbaa", sum := "69b1f3080d51e63b104b0a16965b131c89bbc505173d3f5a625ba696d3ddd587", checked := Try.checked }
namespace Rows
def none {H : Type} : Left H := { results := [], args := [] }

/-- 'regletlaw03.ReaderSmall': WHATEVER THE INPUT: true; the input reads as it did. -/
def readerSmallSpec : ChangeSpec := { name := "readerSmall", fn := fun _ => fun
  | [d] => { results := [.lit (.bool true)], args := [d] }
  | _ => none }
def readerSmallRow : OpenClaim := { program := "ytjnnegacjmcdbaa", sum := "69b1f3080d51e63b104b0a16965b131c89bbc505173d3f5a625ba696d3ddd587", func := "reglet/regletlaw03.ReaderSmall", spec := "readerSmall", inPlace := ["internal/bytealg.IndexByteString"], unfollowed := true, recurses := true, apart := false }
def ReaderSmallSaid : Prop := readerSmallRow.holds Try.pinned (OpenSpec.ofChange readerSmallSpec)

/-- ITS FALSE NEIGHBOUR: 'it returns false'. Refute it at one input. -/
def readerSmallWrong : ChangeSpec := { name := "readerSmall", fn := fun _ => fun
  | [d] => { results := [.lit (.bool false)], args := [d] }
  | _ => none }
def ReaderSmallWrongFalsely : Prop := readerSmallRow.holds Try.pinned (OpenSpec.ofChange readerSmallWrong)

/-- 'regletlaw03.ReaderDeep': WHATEVER THE INPUT: true; the input reads as it did. -/
def readerDeepSpec : ChangeSpec := { name := "readerDeep", fn := fun _ => fun
  | [d1, d2] => { results := [.lit (.bool true)], args := [d1, d2] }
  | _ => none }
def readerDeepRow : OpenClaim := { program := "ytjnnegacjmcdbaa", sum := "69b1f3080d51e63b104b0a16965b131c89bbc505173d3f5a625ba696d3ddd587", func := "reglet/regletlaw03.ReaderDeep", spec := "readerDeep", inPlace := ["internal/bytealg.IndexByteString"], unfollowed := true, recurses := true, apart := false }
def ReaderDeepSaid : Prop := readerDeepRow.holds Try.pinned (OpenSpec.ofChange readerDeepSpec)

/-- ITS FALSE NEIGHBOUR: 'it returns false'. Refute it at one input. -/
def readerDeepWrong : ChangeSpec := { name := "readerDeep", fn := fun _ => fun
  | [d1, d2] => { results := [.lit (.bool false)], args := [d1, d2] }
  | _ => none }
def ReaderDeepWrongFalsely : Prop := readerDeepRow.holds Try.pinned (OpenSpec.ofChange readerDeepWrong)

/-- 'regletlaw03.ReaderTwo': WHATEVER THE INPUT: true; the input reads as it did. -/
def readerTwoSpec : ChangeSpec := { name := "readerTwo", fn := fun _ => fun
  | [d1, d2, d3, d4, d5] => { results := [.lit (.bool true)], args := [d1, d2, d3, d4, d5] }
  | _ => none }
def readerTwoRow : OpenClaim := { program := "ytjnnegacjmcdbaa", sum := "69b1f3080d51e63b104b0a16965b131c89bbc505173d3f5a625ba696d3ddd587", func := "reglet/regletlaw03.ReaderTwo", spec := "readerTwo", inPlace := ["internal/bytealg.IndexByteString"], unfollowed := true, recurses := true, apart := false }
def ReaderTwoSaid : Prop := readerTwoRow.holds Try.pinned (OpenSpec.ofChange readerTwoSpec)

/-- ITS FALSE NEIGHBOUR: 'it returns false'. Refute it at one input. -/
def readerTwoWrong : ChangeSpec := { name := "readerTwo", fn := fun _ => fun
  | [d1, d2, d3, d4, d5] => { results := [.lit (.bool false)], args := [d1, d2, d3, d4, d5] }
  | _ => none }
def ReaderTwoWrongFalsely : Prop := readerTwoRow.holds Try.pinned (OpenSpec.ofChange readerTwoWrong)

/-- 'regletlaw03.ReaderLines': WHATEVER THE INPUT: true; the input reads as it did. -/
def readerLinesSpec : ChangeSpec := { name := "readerLines", fn := fun _ => fun
  | [d1, d2, d3] => { results := [.lit (.bool true)], args := [d1, d2, d3] }
  | _ => none }
def readerLinesRow : OpenClaim := { program := "ytjnnegacjmcdbaa", sum := "69b1f3080d51e63b104b0a16965b131c89bbc505173d3f5a625ba696d3ddd587", func := "reglet/regletlaw03.ReaderLines", spec := "readerLines", inPlace := ["internal/bytealg.IndexByteString"], unfollowed := true, recurses := true, apart := false }
def ReaderLinesSaid : Prop := readerLinesRow.holds Try.pinned (OpenSpec.ofChange readerLinesSpec)

/-- ITS FALSE NEIGHBOUR: 'it returns false'. Refute it at one input. -/
def readerLinesWrong : ChangeSpec := { name := "readerLines", fn := fun _ => fun
  | [d1, d2, d3] => { results := [.lit (.bool false)], args := [d1, d2, d3] }
  | _ => none }
def ReaderLinesWrongFalsely : Prop := readerLinesRow.holds Try.pinned (OpenSpec.ofChange readerLinesWrong)

/-- 'regletlaw03.ReaderNumbers': WHATEVER THE INPUT: true; the input reads as it did. -/
def readerNumbersSpec : ChangeSpec := { name := "readerNumbers", fn := fun _ => fun
  | [d1, d2, d3] => { results := [.lit (.bool true)], args := [d1, d2, d3] }
  | _ => none }
def readerNumbersRow : OpenClaim := { program := "ytjnnegacjmcdbaa", sum := "69b1f3080d51e63b104b0a16965b131c89bbc505173d3f5a625ba696d3ddd587", func := "reglet/regletlaw03.ReaderNumbers", spec := "readerNumbers", inPlace := ["internal/bytealg.IndexByteString"], unfollowed := true, recurses := true, apart := false }
def ReaderNumbersSaid : Prop := readerNumbersRow.holds Try.pinned (OpenSpec.ofChange readerNumbersSpec)

/-- ITS FALSE NEIGHBOUR: 'it returns false'. Refute it at one input. -/
def readerNumbersWrong : ChangeSpec := { name := "readerNumbers", fn := fun _ => fun
  | [d1, d2, d3] => { results := [.lit (.bool false)], args := [d1, d2, d3] }
  | _ => none }
def ReaderNumbersWrongFalsely : Prop := readerNumbersRow.holds Try.pinned (OpenSpec.ofChange readerNumbersWrong)

/-- 'regletlaw03.ReaderRepeats': WHATEVER THE INPUT: true; the input reads as it did. -/
def readerRepeatsSpec : ChangeSpec := { name := "readerRepeats", fn := fun _ => fun
  | [d1, d2, d3] => { results := [.lit (.bool true)], args := [d1, d2, d3] }
  | _ => none }
def readerRepeatsRow : OpenClaim := { program := "ytjnnegacjmcdbaa", sum := "69b1f3080d51e63b104b0a16965b131c89bbc505173d3f5a625ba696d3ddd587", func := "reglet/regletlaw03.ReaderRepeats", spec := "readerRepeats", inPlace := ["internal/bytealg.IndexByteString"], unfollowed := true, recurses := true, apart := false }
def ReaderRepeatsSaid : Prop := readerRepeatsRow.holds Try.pinned (OpenSpec.ofChange readerRepeatsSpec)

/-- ITS FALSE NEIGHBOUR: 'it returns false'. Refute it at one input. -/
def readerRepeatsWrong : ChangeSpec := { name := "readerRepeats", fn := fun _ => fun
  | [d1, d2, d3] => { results := [.lit (.bool false)], args := [d1, d2, d3] }
  | _ => none }
def ReaderRepeatsWrongFalsely : Prop := readerRepeatsRow.holds Try.pinned (OpenSpec.ofChange readerRepeatsWrong)

/- THE SECOND FORM. 'bulk': how many values and letters a reading holds, each counted each time it is reached (what is shared counts as often as it is met; a slice's spare places count too). A statement '..UptoSaid' is the law's where the arguments, and the package variables that the reading takes, are together of bulk at most 1048576: NARROWER than '..Said'. Prove '..Said' where nothing that the law and all that it calls make is longer than what came in: it says more and counts as full. Else prove '..UptoSaid'. A law counts once. -/
mutual
def uptoBulk {H : Type} : DataW H → Nat
  | .lit (.string bytes) => bytes.length + 1
  | .lit _ => 1
  | .nil => 1
  | .ptr d => uptoBulk d + 1
  | .slice elems spare => uptoBulkAll elems + uptoBulkAll spare + 1
  | .agg parts => uptoBulkAll parts + 1
  | .iface _ d => uptoBulk d + 1
  | .map entries => uptoBulkEntries entries + 1
  | .held _ => 1
def uptoBulkAll {H : Type} : List (DataW H) → Nat
  | [] => 0
  | d :: r => uptoBulk d + uptoBulkAll r
def uptoBulkEntries {H : Type} : List (Lit × DataW H) → Nat
  | [] => 0
  | x :: r => uptoBulkEntry x + uptoBulkEntries r
def uptoBulkEntry {H : Type} : Lit × DataW H → Nat
  | (.string bytes, d) => bytes.length + uptoBulk d + 1
  | (_, d) => uptoBulk d + 1
 end
def uptoSmall : (H : Type) → List (DataW H) → Bool := fun _ ds => decide (uptoBulkAll ds ≤ 1048576)
def OpenSpec.upto (s : _root_.Go.ChangeSpec) : _root_.Go.OpenSpec := { _root_.Go.OpenSpec.ofChange s with cond := some uptoSmall }

/-- 'regletlaw03.ReaderSmall', WHERE WHAT IT READS IS OF BULK AT MOST 1048576: true; the input reads as it did. -/
def readerSmallUptoRow : OpenClaim := { program := "ytjnnegacjmcdbaa", sum := "69b1f3080d51e63b104b0a16965b131c89bbc505173d3f5a625ba696d3ddd587", func := "reglet/regletlaw03.ReaderSmall", spec := "readerSmall", inPlace := ["internal/bytealg.IndexByteString"], unfollowed := true, recurses := true, apart := false, narrowed := true }
def ReaderSmallUptoSaid : Prop := readerSmallUptoRow.holds Try.pinned (OpenSpec.upto readerSmallSpec)

/-- 'regletlaw03.ReaderDeep', WHERE WHAT IT READS IS OF BULK AT MOST 1048576: true; the input reads as it did. -/
def readerDeepUptoRow : OpenClaim := { program := "ytjnnegacjmcdbaa", sum := "69b1f3080d51e63b104b0a16965b131c89bbc505173d3f5a625ba696d3ddd587", func := "reglet/regletlaw03.ReaderDeep", spec := "readerDeep", inPlace := ["internal/bytealg.IndexByteString"], unfollowed := true, recurses := true, apart := false, narrowed := true }
def ReaderDeepUptoSaid : Prop := readerDeepUptoRow.holds Try.pinned (OpenSpec.upto readerDeepSpec)

/-- 'regletlaw03.ReaderTwo', WHERE WHAT IT READS IS OF BULK AT MOST 1048576: true; the input reads as it did. -/
def readerTwoUptoRow : OpenClaim := { program := "ytjnnegacjmcdbaa", sum := "69b1f3080d51e63b104b0a16965b131c89bbc505173d3f5a625ba696d3ddd587", func := "reglet/regletlaw03.ReaderTwo", spec := "readerTwo", inPlace := ["internal/bytealg.IndexByteString"], unfollowed := true, recurses := true, apart := false, narrowed := true }
def ReaderTwoUptoSaid : Prop := readerTwoUptoRow.holds Try.pinned (OpenSpec.upto readerTwoSpec)

/-- 'regletlaw03.ReaderLines', WHERE WHAT IT READS IS OF BULK AT MOST 1048576: true; the input reads as it did. -/
def readerLinesUptoRow : OpenClaim := { program := "ytjnnegacjmcdbaa", sum := "69b1f3080d51e63b104b0a16965b131c89bbc505173d3f5a625ba696d3ddd587", func := "reglet/regletlaw03.ReaderLines", spec := "readerLines", inPlace := ["internal/bytealg.IndexByteString"], unfollowed := true, recurses := true, apart := false, narrowed := true }
def ReaderLinesUptoSaid : Prop := readerLinesUptoRow.holds Try.pinned (OpenSpec.upto readerLinesSpec)

/-- 'regletlaw03.ReaderNumbers', WHERE WHAT IT READS IS OF BULK AT MOST 1048576: true; the input reads as it did. -/
def readerNumbersUptoRow : OpenClaim := { program := "ytjnnegacjmcdbaa", sum := "69b1f3080d51e63b104b0a16965b131c89bbc505173d3f5a625ba696d3ddd587", func := "reglet/regletlaw03.ReaderNumbers", spec := "readerNumbers", inPlace := ["internal/bytealg.IndexByteString"], unfollowed := true, recurses := true, apart := false, narrowed := true }
def ReaderNumbersUptoSaid : Prop := readerNumbersUptoRow.holds Try.pinned (OpenSpec.upto readerNumbersSpec)

/-- 'regletlaw03.ReaderRepeats', WHERE WHAT IT READS IS OF BULK AT MOST 1048576: true; the input reads as it did. -/
def readerRepeatsUptoRow : OpenClaim := { program := "ytjnnegacjmcdbaa", sum := "69b1f3080d51e63b104b0a16965b131c89bbc505173d3f5a625ba696d3ddd587", func := "reglet/regletlaw03.ReaderRepeats", spec := "readerRepeats", inPlace := ["internal/bytealg.IndexByteString"], unfollowed := true, recurses := true, apart := false, narrowed := true }
def ReaderRepeatsUptoSaid : Prop := readerRepeatsUptoRow.holds Try.pinned (OpenSpec.upto readerRepeatsSpec)

end Rows
end Go.Proofs.Ytjnnegacjmcdbaa
