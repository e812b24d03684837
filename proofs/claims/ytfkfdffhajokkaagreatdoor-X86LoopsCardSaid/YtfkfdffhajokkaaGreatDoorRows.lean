/-
  NARROWER THAN 'FOR EVERY INPUT', by the rows' own cells (each row's printed sentence says how): X86Runs: laid · X86Words: laid · X86Stack: laid · X86Loops: laid.
  DERIVED. THE GIVEN ROWS OF THIS SEAT. 4 by the template 'for every input the law returns true; each argument reads behind the call as it read before'; 0 by the template 'total and deterministic' (their statements: YtfkfdffhajokkaaGreatDoorTotals.lean).
  GIVEN WITH THE SEED: the statements are not yours to turn. If you find one false, say at which input.
  Laid BY PROGRAM, IN A SANDBOX (cutbox-rows.mjs): the forced cells as the released guide's own fill.sh prints them over the translation 69f4d0d5b6061155… (all of the seat's roots in one cut). By AI agents, Wed Nov 11 2026. No macro, syntax, notation, axiom, sorry.
-/
import Derived.Test.YtfkfdffhajokkaaGreatDoorChecked
import GoSem.PinnedTables
import GoSem.Claim
import GoSem.ClaimJoined
import GoSem.ClaimMapViews
import Derived.JoinedTies
import Derived.KernelRfl
namespace Go.Proofs.YtfkfdffhajokkaaGreatDoor
/- THE CELL 'sum', in the pinned program and in every row, IS THE sha256 OF THE DUMP (.gsa) THAT YtfkfdffhajokkaaGreatDoorProg.lean LOADS. Nothing in Lean hashes anything: it is a label: what it is worth is what the hold of that sum in a sandbox is worth. -/
noncomputable def Tryz.pinned : Pinned := { name := "ytfkfdffhajokkaagreatdoor", sum := "69f4d0d5b606115596d7c781813d7bdca8643039e61c18534b88d3b7957b8065", checked := Tryz.checked }
namespace Rows
def none {H : Type} : Left H := { results := [], args := [] }

/- WHAT THE LISTED PACKAGE-LEVEL VARIABLES READ AS WHEN THE CALL BEGINS. Each datum BY PROGRAM (the guide's laid-datum.mjs) off the statement by which the dump's own 'gosem.cut.vars' lays the variable. In a bare row this is a premise. The card (YtfkfdffhajokkaaGreatDoorCards.lean) ties it to the program's text. -/
def laid_math_bits_deBruijn32tab {H : Type} : DataW H := .agg [.lit (.int .u8 0), .lit (.int .u8 1), .lit (.int .u8 28), .lit (.int .u8 2), .lit (.int .u8 29), .lit (.int .u8 14), .lit (.int .u8 24), .lit (.int .u8 3), .lit (.int .u8 30), .lit (.int .u8 22), .lit (.int .u8 20), .lit (.int .u8 15), .lit (.int .u8 25), .lit (.int .u8 17), .lit (.int .u8 4), .lit (.int .u8 8), .lit (.int .u8 31), .lit (.int .u8 27), .lit (.int .u8 13), .lit (.int .u8 23), .lit (.int .u8 21), .lit (.int .u8 19), .lit (.int .u8 16), .lit (.int .u8 7), .lit (.int .u8 26), .lit (.int .u8 12), .lit (.int .u8 18), .lit (.int .u8 6), .lit (.int .u8 11), .lit (.int .u8 5), .lit (.int .u8 10), .lit (.int .u8 9)]
def laid_math_bits_deBruijn64tab {H : Type} : DataW H := .agg [.lit (.int .u8 0), .lit (.int .u8 1), .lit (.int .u8 56), .lit (.int .u8 2), .lit (.int .u8 57), .lit (.int .u8 49), .lit (.int .u8 28), .lit (.int .u8 3), .lit (.int .u8 61), .lit (.int .u8 58), .lit (.int .u8 42), .lit (.int .u8 50), .lit (.int .u8 38), .lit (.int .u8 29), .lit (.int .u8 17), .lit (.int .u8 4), .lit (.int .u8 62), .lit (.int .u8 47), .lit (.int .u8 59), .lit (.int .u8 36), .lit (.int .u8 45), .lit (.int .u8 43), .lit (.int .u8 51), .lit (.int .u8 22), .lit (.int .u8 53), .lit (.int .u8 39), .lit (.int .u8 33), .lit (.int .u8 30), .lit (.int .u8 24), .lit (.int .u8 18), .lit (.int .u8 12), .lit (.int .u8 5), .lit (.int .u8 63), .lit (.int .u8 55), .lit (.int .u8 48), .lit (.int .u8 27), .lit (.int .u8 60), .lit (.int .u8 41), .lit (.int .u8 37), .lit (.int .u8 16), .lit (.int .u8 46), .lit (.int .u8 35), .lit (.int .u8 44), .lit (.int .u8 21), .lit (.int .u8 52), .lit (.int .u8 32), .lit (.int .u8 23), .lit (.int .u8 11), .lit (.int .u8 54), .lit (.int .u8 26), .lit (.int .u8 40), .lit (.int .u8 15), .lit (.int .u8 34), .lit (.int .u8 20), .lit (.int .u8 31), .lit (.int .u8 10), .lit (.int .u8 25), .lit (.int .u8 14), .lit (.int .u8 19), .lit (.int .u8 9), .lit (.int .u8 13), .lit (.int .u8 8), .lit (.int .u8 7), .lit (.int .u8 6)]
def laid_internal_strconv_uint64pow10 {H : Type} : DataW H := .agg [.lit (.int .u64 1), .lit (.int .u64 10), .lit (.int .u64 100), .lit (.int .u64 1000), .lit (.int .u64 10000), .lit (.int .u64 100000), .lit (.int .u64 1000000), .lit (.int .u64 10000000), .lit (.int .u64 100000000), .lit (.int .u64 1000000000), .lit (.int .u64 10000000000), .lit (.int .u64 100000000000), .lit (.int .u64 1000000000000), .lit (.int .u64 10000000000000), .lit (.int .u64 100000000000000), .lit (.int .u64 1000000000000000), .lit (.int .u64 10000000000000000), .lit (.int .u64 100000000000000000), .lit (.int .u64 1000000000000000000), .lit (.int .u64 10000000000000000000)]
def laid_unicode_utf8_acceptRanges {H : Type} : DataW H := .agg [.agg [.lit (.int .u8 128), .lit (.int .u8 191)], .agg [.lit (.int .u8 160), .lit (.int .u8 191)], .agg [.lit (.int .u8 128), .lit (.int .u8 159)], .agg [.lit (.int .u8 144), .lit (.int .u8 191)], .agg [.lit (.int .u8 128), .lit (.int .u8 143)], .agg [.lit (.int .u8 0), .lit (.int .u8 0)], .agg [.lit (.int .u8 0), .lit (.int .u8 0)], .agg [.lit (.int .u8 0), .lit (.int .u8 0)], .agg [.lit (.int .u8 0), .lit (.int .u8 0)], .agg [.lit (.int .u8 0), .lit (.int .u8 0)], .agg [.lit (.int .u8 0), .lit (.int .u8 0)], .agg [.lit (.int .u8 0), .lit (.int .u8 0)], .agg [.lit (.int .u8 0), .lit (.int .u8 0)], .agg [.lit (.int .u8 0), .lit (.int .u8 0)], .agg [.lit (.int .u8 0), .lit (.int .u8 0)], .agg [.lit (.int .u8 0), .lit (.int .u8 0)]]
def laid_strconv_ErrRange {H : Type} : DataW H := .iface "*errors.errorString" (.ptr (.agg [.lit (.string [118, 97, 108, 117, 101, 32, 111, 117, 116, 32, 111, 102, 32, 114, 97, 110, 103, 101])]))
def laid_strconv_ErrSyntax {H : Type} : DataW H := .iface "*errors.errorString" (.ptr (.agg [.lit (.string [105, 110, 118, 97, 108, 105, 100, 32, 115, 121, 110, 116, 97, 120])]))
def laid_spokeshave_x86_forms {H : Type} : DataW H := .map [(.string [97, 100, 100, 113], .slice [.slice [.lit (.string [73, 82, 77]), .lit (.string [82])] []] []), (.string [97, 110, 100, 113], .slice [.slice [.lit (.string [73, 82, 77]), .lit (.string [82])] []] []), (.string [99, 97, 108, 108], .slice [.slice [.lit (.string [76])] [], .slice [.lit (.string [42])] []] []), (.string [99, 109, 112, 113], .slice [.slice [.lit (.string [73, 82, 77]), .lit (.string [82])] []] []), (.string [99, 113, 116, 111], .slice [.slice [] []] []), (.string [100, 105, 118, 113], .slice [.slice [.lit (.string [82])] []] []), (.string [105, 100, 105, 118, 113], .slice [.slice [.lit (.string [82])] []] []), (.string [105, 109, 117, 108, 113], .slice [.slice [.lit (.string [73, 82, 77]), .lit (.string [82])] []] []), (.string [106, 109, 112], .slice [.slice [.lit (.string [76])] [], .slice [.lit (.string [42])] []] []), (.string [108, 101, 97, 113], .slice [.slice [.lit (.string [77]), .lit (.string [82])] [], .slice [.lit (.string [80]), .lit (.string [82])] []] []), (.string [109, 111, 118, 97, 98, 115, 113], .slice [.slice [.lit (.string [74]), .lit (.string [82])] []] []), (.string [109, 111, 118, 98], .slice [.slice [.lit (.string [98]), .lit (.string [77])] []] []), (.string [109, 111, 118, 108], .slice [.slice [.lit (.string [108]), .lit (.string [77])] [], .slice [.lit (.string [77, 108]), .lit (.string [108])] []] []), (.string [109, 111, 118, 113], .slice [.slice [.lit (.string [73, 82, 77]), .lit (.string [82])] [], .slice [.lit (.string [73, 82]), .lit (.string [77])] []] []), (.string [109, 111, 118, 115, 98, 113], .slice [.slice [.lit (.string [77, 98]), .lit (.string [82])] []] []), (.string [109, 111, 118, 115, 108, 113], .slice [.slice [.lit (.string [77, 108]), .lit (.string [82])] []] []), (.string [109, 111, 118, 115, 119, 113], .slice [.slice [.lit (.string [77, 119]), .lit (.string [82])] []] []), (.string [109, 111, 118, 119], .slice [.slice [.lit (.string [119]), .lit (.string [77])] []] []), (.string [109, 111, 118, 122, 98, 113], .slice [.slice [.lit (.string [77, 98]), .lit (.string [82])] []] []), (.string [109, 111, 118, 122, 119, 113], .slice [.slice [.lit (.string [77, 119]), .lit (.string [82])] []] []), (.string [110, 101, 103, 113], .slice [.slice [.lit (.string [82])] []] []), (.string [110, 111, 116, 113], .slice [.slice [.lit (.string [82])] []] []), (.string [111, 114, 113], .slice [.slice [.lit (.string [73, 82, 77]), .lit (.string [82])] []] []), (.string [112, 111, 112, 113], .slice [.slice [.lit (.string [82])] []] []), (.string [112, 117, 115, 104, 113], .slice [.slice [.lit (.string [82])] []] []), (.string [114, 101, 116], .slice [.slice [] []] []), (.string [115, 97, 114, 113], .slice [.slice [.lit (.string [83, 66]), .lit (.string [82])] []] []), (.string [115, 104, 108, 113], .slice [.slice [.lit (.string [83, 66]), .lit (.string [82])] []] []), (.string [115, 104, 114, 113], .slice [.slice [.lit (.string [83, 66]), .lit (.string [82])] []] []), (.string [115, 117, 98, 113], .slice [.slice [.lit (.string [73, 82, 77]), .lit (.string [82])] []] []), (.string [115, 121, 115, 101, 120, 105, 116], .slice [.slice [] []] []), (.string [115, 121, 115, 105, 110], .slice [.slice [] []] []), (.string [115, 121, 115, 111, 117, 116], .slice [.slice [] []] []), (.string [115, 121, 115, 111, 118, 101, 114], .slice [.slice [] []] []), (.string [116, 101, 115, 116, 113], .slice [.slice [.lit (.string [82]), .lit (.string [82])] []] []), (.string [120, 111, 114, 113], .slice [.slice [.lit (.string [73, 82, 77]), .lit (.string [82])] []] [])]
/-- One of Go's own tables, pinned by name: the form's constant. -/
def laid_unicode_utf8_first : DataW Unit := Go.Pinned.utf8First

/-- 'spokeshavelaw23.X86Runs': WHATEVER THE INPUT: true; the input reads as it did. -/
def x86RunsSpec : ChangeSpec := { name := "x86Runs", fn := fun _ => fun
  | [d1, d2, d3] => { results := [.lit (.bool true)], args := [d1, d2, d3] }
  | _ => none }
def x86RunsRow : OpenClaim := { program := "ytfkfdffhajokkaagreatdoor", sum := "69f4d0d5b606115596d7c781813d7bdca8643039e61c18534b88d3b7957b8065", func := "spokeshave/spokeshavelaw23.X86Runs", spec := "x86Runs", inPlace := ["internal/bytealg.CountString", "internal/bytealg.IndexByteString", "internal/bytealg.IndexString"], named := ["unicode/utf8.first", "unicode/utf8.acceptRanges", "internal/bytealg.MaxLen", "strconv.ErrSyntax", "strconv.ErrRange", "internal/strconv.uint64pow10", "math/bits.deBruijn32tab", "math/bits.deBruijn64tab", "spokeshave/x86.forms"], apart := false, laid := [("math/bits.deBruijn32tab", laid_math_bits_deBruijn32tab), ("math/bits.deBruijn64tab", laid_math_bits_deBruijn64tab), ("internal/strconv.uint64pow10", laid_internal_strconv_uint64pow10), ("unicode/utf8.acceptRanges", laid_unicode_utf8_acceptRanges), ("strconv.ErrRange", laid_strconv_ErrRange), ("strconv.ErrSyntax", laid_strconv_ErrSyntax), ("spokeshave/x86.forms", laid_spokeshave_x86_forms), ("unicode/utf8.first", laid_unicode_utf8_first)] }
def X86RunsSaid : Prop := x86RunsRow.holds Tryz.pinned (OpenSpec.ofChange x86RunsSpec)

/-- ITS FALSE NEIGHBOUR: 'it returns false'. Refute it at one input. -/
def x86RunsWrong : ChangeSpec := { name := "x86Runs", fn := fun _ => fun
  | [d1, d2, d3] => { results := [.lit (.bool false)], args := [d1, d2, d3] }
  | _ => none }
def X86RunsWrongFalsely : Prop := x86RunsRow.holds Tryz.pinned (OpenSpec.ofChange x86RunsWrong)

/-- 'spokeshavelaw23.X86Words': WHATEVER THE INPUT: true; the input reads as it did. -/
def x86WordsSpec : ChangeSpec := { name := "x86Words", fn := fun _ => fun
  | [d1, d2, d3, d4] => { results := [.lit (.bool true)], args := [d1, d2, d3, d4] }
  | _ => none }
def x86WordsRow : OpenClaim := { program := "ytfkfdffhajokkaagreatdoor", sum := "69f4d0d5b606115596d7c781813d7bdca8643039e61c18534b88d3b7957b8065", func := "spokeshave/spokeshavelaw23.X86Words", spec := "x86Words", inPlace := ["internal/bytealg.CountString", "internal/bytealg.IndexByteString", "internal/bytealg.IndexString"], named := ["unicode/utf8.first", "unicode/utf8.acceptRanges", "internal/bytealg.MaxLen", "strconv.ErrSyntax", "strconv.ErrRange", "internal/strconv.uint64pow10", "math/bits.deBruijn32tab", "math/bits.deBruijn64tab", "spokeshave/x86.forms"], apart := false, laid := [("math/bits.deBruijn32tab", laid_math_bits_deBruijn32tab), ("math/bits.deBruijn64tab", laid_math_bits_deBruijn64tab), ("internal/strconv.uint64pow10", laid_internal_strconv_uint64pow10), ("unicode/utf8.acceptRanges", laid_unicode_utf8_acceptRanges), ("strconv.ErrRange", laid_strconv_ErrRange), ("strconv.ErrSyntax", laid_strconv_ErrSyntax), ("spokeshave/x86.forms", laid_spokeshave_x86_forms), ("unicode/utf8.first", laid_unicode_utf8_first)] }
def X86WordsSaid : Prop := x86WordsRow.holds Tryz.pinned (OpenSpec.ofChange x86WordsSpec)

/-- ITS FALSE NEIGHBOUR: 'it returns false'. Refute it at one input. -/
def x86WordsWrong : ChangeSpec := { name := "x86Words", fn := fun _ => fun
  | [d1, d2, d3, d4] => { results := [.lit (.bool false)], args := [d1, d2, d3, d4] }
  | _ => none }
def X86WordsWrongFalsely : Prop := x86WordsRow.holds Tryz.pinned (OpenSpec.ofChange x86WordsWrong)

/-- 'spokeshavelaw23.X86Stack': WHATEVER THE INPUT: true; the input reads as it did. -/
def x86StackSpec : ChangeSpec := { name := "x86Stack", fn := fun _ => fun
  | [d1, d2] => { results := [.lit (.bool true)], args := [d1, d2] }
  | _ => none }
def x86StackRow : OpenClaim := { program := "ytfkfdffhajokkaagreatdoor", sum := "69f4d0d5b606115596d7c781813d7bdca8643039e61c18534b88d3b7957b8065", func := "spokeshave/spokeshavelaw23.X86Stack", spec := "x86Stack", inPlace := ["internal/bytealg.CountString", "internal/bytealg.IndexByteString", "internal/bytealg.IndexString"], named := ["unicode/utf8.first", "unicode/utf8.acceptRanges", "internal/bytealg.MaxLen", "strconv.ErrSyntax", "strconv.ErrRange", "internal/strconv.uint64pow10", "math/bits.deBruijn32tab", "math/bits.deBruijn64tab", "spokeshave/x86.forms"], apart := false, laid := [("math/bits.deBruijn32tab", laid_math_bits_deBruijn32tab), ("math/bits.deBruijn64tab", laid_math_bits_deBruijn64tab), ("internal/strconv.uint64pow10", laid_internal_strconv_uint64pow10), ("unicode/utf8.acceptRanges", laid_unicode_utf8_acceptRanges), ("strconv.ErrRange", laid_strconv_ErrRange), ("strconv.ErrSyntax", laid_strconv_ErrSyntax), ("spokeshave/x86.forms", laid_spokeshave_x86_forms), ("unicode/utf8.first", laid_unicode_utf8_first)] }
def X86StackSaid : Prop := x86StackRow.holds Tryz.pinned (OpenSpec.ofChange x86StackSpec)

/-- ITS FALSE NEIGHBOUR: 'it returns false'. Refute it at one input. -/
def x86StackWrong : ChangeSpec := { name := "x86Stack", fn := fun _ => fun
  | [d1, d2] => { results := [.lit (.bool false)], args := [d1, d2] }
  | _ => none }
def X86StackWrongFalsely : Prop := x86StackRow.holds Tryz.pinned (OpenSpec.ofChange x86StackWrong)

/-- 'spokeshavelaw23.X86Loops': WHATEVER THE INPUT: true; the input reads as it did. -/
def x86LoopsSpec : ChangeSpec := { name := "x86Loops", fn := fun _ => fun
  | [d1, d2] => { results := [.lit (.bool true)], args := [d1, d2] }
  | _ => none }
def x86LoopsRow : OpenClaim := { program := "ytfkfdffhajokkaagreatdoor", sum := "69f4d0d5b606115596d7c781813d7bdca8643039e61c18534b88d3b7957b8065", func := "spokeshave/spokeshavelaw23.X86Loops", spec := "x86Loops", inPlace := ["internal/bytealg.CountString", "internal/bytealg.IndexByteString", "internal/bytealg.IndexString"], named := ["unicode/utf8.first", "unicode/utf8.acceptRanges", "internal/bytealg.MaxLen", "strconv.ErrSyntax", "strconv.ErrRange", "internal/strconv.uint64pow10", "math/bits.deBruijn32tab", "math/bits.deBruijn64tab", "spokeshave/x86.forms"], apart := false, laid := [("math/bits.deBruijn32tab", laid_math_bits_deBruijn32tab), ("math/bits.deBruijn64tab", laid_math_bits_deBruijn64tab), ("internal/strconv.uint64pow10", laid_internal_strconv_uint64pow10), ("unicode/utf8.acceptRanges", laid_unicode_utf8_acceptRanges), ("strconv.ErrRange", laid_strconv_ErrRange), ("strconv.ErrSyntax", laid_strconv_ErrSyntax), ("spokeshave/x86.forms", laid_spokeshave_x86_forms), ("unicode/utf8.first", laid_unicode_utf8_first)] }
def X86LoopsSaid : Prop := x86LoopsRow.holds Tryz.pinned (OpenSpec.ofChange x86LoopsSpec)

/-- ITS FALSE NEIGHBOUR: 'it returns false'. Refute it at one input. -/
def x86LoopsWrong : ChangeSpec := { name := "x86Loops", fn := fun _ => fun
  | [d1, d2] => { results := [.lit (.bool false)], args := [d1, d2] }
  | _ => none }
def X86LoopsWrongFalsely : Prop := x86LoopsRow.holds Tryz.pinned (OpenSpec.ofChange x86LoopsWrong)

/- THE SECOND FORM. 'bulk': how many values and letters a reading holds, each counted each time it is reached (what is shared counts as often as it is met; a slice's spare places count too). A statement '..UptoSaid' is the law's where the arguments, and the package variables that the reading takes, are together of bulk at most 1048576: NARROWER than '..Said'. Prove '..Said' where nothing that the law and all that it calls make is longer than what came in: it says more and counts as full. Else prove '..UptoSaid'. A law counts once. -/
mutual
def uptoBulk {H : Type} : DataW H → Nat
  | .lit (.string bytes) => bytes.length + 1
  | .lit _ => 1
  | .nil => 1
  | .ptr d => uptoBulk d + 1
  | .slice elems spare => uptoBulkAll elems + uptoBulkAll spare + 1
  | .agg parts => uptoBulkAll parts + 1
  | .iface _ d => uptoBulk d + 1
  | .map entries => uptoBulkEntries entries + 1
  | .held _ => 1
def uptoBulkAll {H : Type} : List (DataW H) → Nat
  | [] => 0
  | d :: r => uptoBulk d + uptoBulkAll r
def uptoBulkEntries {H : Type} : List (Lit × DataW H) → Nat
  | [] => 0
  | x :: r => uptoBulkEntry x + uptoBulkEntries r
def uptoBulkEntry {H : Type} : Lit × DataW H → Nat
  | (.string bytes, d) => bytes.length + uptoBulk d + 1
  | (_, d) => uptoBulk d + 1
 end
def uptoSmall : (H : Type) → List (DataW H) → Bool := fun _ ds => decide (uptoBulkAll ds ≤ 1048576)
def OpenSpec.upto (s : _root_.Go.ChangeSpec) : _root_.Go.OpenSpec := { _root_.Go.OpenSpec.ofChange s with cond := some uptoSmall }

/-- 'spokeshavelaw23.X86Runs', WHERE WHAT IT READS IS OF BULK AT MOST 1048576: true; the input reads as it did. -/
def x86RunsUptoRow : OpenClaim := { program := "ytfkfdffhajokkaagreatdoor", sum := "69f4d0d5b606115596d7c781813d7bdca8643039e61c18534b88d3b7957b8065", func := "spokeshave/spokeshavelaw23.X86Runs", spec := "x86Runs", inPlace := ["internal/bytealg.CountString", "internal/bytealg.IndexByteString", "internal/bytealg.IndexString"], named := ["unicode/utf8.first", "unicode/utf8.acceptRanges", "internal/bytealg.MaxLen", "strconv.ErrSyntax", "strconv.ErrRange", "internal/strconv.uint64pow10", "math/bits.deBruijn32tab", "math/bits.deBruijn64tab", "spokeshave/x86.forms"], apart := false, laid := [("math/bits.deBruijn32tab", laid_math_bits_deBruijn32tab), ("math/bits.deBruijn64tab", laid_math_bits_deBruijn64tab), ("internal/strconv.uint64pow10", laid_internal_strconv_uint64pow10), ("unicode/utf8.acceptRanges", laid_unicode_utf8_acceptRanges), ("strconv.ErrRange", laid_strconv_ErrRange), ("strconv.ErrSyntax", laid_strconv_ErrSyntax), ("spokeshave/x86.forms", laid_spokeshave_x86_forms), ("unicode/utf8.first", laid_unicode_utf8_first)], narrowed := true }
def X86RunsUptoSaid : Prop := x86RunsUptoRow.holds Tryz.pinned (OpenSpec.upto x86RunsSpec)

/-- 'spokeshavelaw23.X86Words', WHERE WHAT IT READS IS OF BULK AT MOST 1048576: true; the input reads as it did. -/
def x86WordsUptoRow : OpenClaim := { program := "ytfkfdffhajokkaagreatdoor", sum := "69f4d0d5b606115596d7c781813d7bdca8643039e61c18534b88d3b7957b8065", func := "spokeshave/spokeshavelaw23.X86Words", spec := "x86Words", inPlace := ["internal/bytealg.CountString", "internal/bytealg.IndexByteString", "internal/bytealg.IndexString"], named := ["unicode/utf8.first", "unicode/utf8.acceptRanges", "internal/bytealg.MaxLen", "strconv.ErrSyntax", "strconv.ErrRange", "internal/strconv.uint64pow10", "math/bits.deBruijn32tab", "math/bits.deBruijn64tab", "spokeshave/x86.forms"], apart := false, laid := [("math/bits.deBruijn32tab", laid_math_bits_deBruijn32tab), ("math/bits.deBruijn64tab", laid_math_bits_deBruijn64tab), ("internal/strconv.uint64pow10", laid_internal_strconv_uint64pow10), ("unicode/utf8.acceptRanges", laid_unicode_utf8_acceptRanges), ("strconv.ErrRange", laid_strconv_ErrRange), ("strconv.ErrSyntax", laid_strconv_ErrSyntax), ("spokeshave/x86.forms", laid_spokeshave_x86_forms), ("unicode/utf8.first", laid_unicode_utf8_first)], narrowed := true }
def X86WordsUptoSaid : Prop := x86WordsUptoRow.holds Tryz.pinned (OpenSpec.upto x86WordsSpec)

/-- 'spokeshavelaw23.X86Stack', WHERE WHAT IT READS IS OF BULK AT MOST 1048576: true; the input reads as it did. -/
def x86StackUptoRow : OpenClaim := { program := "ytfkfdffhajokkaagreatdoor", sum := "69f4d0d5b606115596d7c781813d7bdca8643039e61c18534b88d3b7957b8065", func := "spokeshave/spokeshavelaw23.X86Stack", spec := "x86Stack", inPlace := ["internal/bytealg.CountString", "internal/bytealg.IndexByteString", "internal/bytealg.IndexString"], named := ["unicode/utf8.first", "unicode/utf8.acceptRanges", "internal/bytealg.MaxLen", "strconv.ErrSyntax", "strconv.ErrRange", "internal/strconv.uint64pow10", "math/bits.deBruijn32tab", "math/bits.deBruijn64tab", "spokeshave/x86.forms"], apart := false, laid := [("math/bits.deBruijn32tab", laid_math_bits_deBruijn32tab), ("math/bits.deBruijn64tab", laid_math_bits_deBruijn64tab), ("internal/strconv.uint64pow10", laid_internal_strconv_uint64pow10), ("unicode/utf8.acceptRanges", laid_unicode_utf8_acceptRanges), ("strconv.ErrRange", laid_strconv_ErrRange), ("strconv.ErrSyntax", laid_strconv_ErrSyntax), ("spokeshave/x86.forms", laid_spokeshave_x86_forms), ("unicode/utf8.first", laid_unicode_utf8_first)], narrowed := true }
def X86StackUptoSaid : Prop := x86StackUptoRow.holds Tryz.pinned (OpenSpec.upto x86StackSpec)

/-- 'spokeshavelaw23.X86Loops', WHERE WHAT IT READS IS OF BULK AT MOST 1048576: true; the input reads as it did. -/
def x86LoopsUptoRow : OpenClaim := { program := "ytfkfdffhajokkaagreatdoor", sum := "69f4d0d5b606115596d7c781813d7bdca8643039e61c18534b88d3b7957b8065", func := "spokeshave/spokeshavelaw23.X86Loops", spec := "x86Loops", inPlace := ["internal/bytealg.CountString", "internal/bytealg.IndexByteString", "internal/bytealg.IndexString"], named := ["unicode/utf8.first", "unicode/utf8.acceptRanges", "internal/bytealg.MaxLen", "strconv.ErrSyntax", "strconv.ErrRange", "internal/strconv.uint64pow10", "math/bits.deBruijn32tab", "math/bits.deBruijn64tab", "spokeshave/x86.forms"], apart := false, laid := [("math/bits.deBruijn32tab", laid_math_bits_deBruijn32tab), ("math/bits.deBruijn64tab", laid_math_bits_deBruijn64tab), ("internal/strconv.uint64pow10", laid_internal_strconv_uint64pow10), ("unicode/utf8.acceptRanges", laid_unicode_utf8_acceptRanges), ("strconv.ErrRange", laid_strconv_ErrRange), ("strconv.ErrSyntax", laid_strconv_ErrSyntax), ("spokeshave/x86.forms", laid_spokeshave_x86_forms), ("unicode/utf8.first", laid_unicode_utf8_first)], narrowed := true }
def X86LoopsUptoSaid : Prop := x86LoopsUptoRow.holds Tryz.pinned (OpenSpec.upto x86LoopsSpec)

end Rows
end Go.Proofs.YtfkfdffhajokkaaGreatDoor
