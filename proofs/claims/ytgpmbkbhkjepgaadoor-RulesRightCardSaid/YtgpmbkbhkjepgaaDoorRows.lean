/-
  NARROWER THAN 'FOR EVERY INPUT', by the rows' own cells (each row's printed sentence says how): RulesStandard: laid · RulesRight: laid.
  DERIVED. THE GIVEN ROWS OF THIS SEAT. 2 by the template 'for every input the law returns true; each argument reads behind the call as it read before'; 0 by the template 'total and deterministic' (their statements: YtgpmbkbhkjepgaaDoorTotals.lean).
  GIVEN WITH THE SEED: the statements are not yours to turn. If you find one false, say at which input.
  Laid BY PROGRAM, IN A SANDBOX (cutbox-rows.mjs): the forced cells as the released guide's own fill.sh prints them over the translation 04ab65ba7191ea6b… (all of the seat's roots in one cut). By AI agents, Wed Nov 11 2026. No macro, syntax, notation, axiom, sorry.
-/
import Derived.Test.YtgpmbkbhkjepgaaDoorChecked
import GoSem.PinnedTables
import GoSem.Claim
import GoSem.ClaimJoined
import GoSem.ClaimMapViews
import Derived.JoinedTies
import Derived.KernelRfl
namespace Go.Proofs.YtgpmbkbhkjepgaaDoor
/- THE CELL 'sum', in the pinned program and in every row, IS THE sha256 OF THE DUMP (.gsa) THAT YtgpmbkbhkjepgaaDoorProg.lean LOADS. Nothing in Lean hashes anything: it is a label: what it is worth is what the hold of that sum in a sandbox is worth. -/
noncomputable def Tryd.pinned : Pinned := { name := "ytgpmbkbhkjepgaadoor", sum := "04ab65ba7191ea6bcd11fe20fb9240cf7c1004bbca39668754d68337ab01b33f", checked := Tryd.checked }
namespace Rows
def none {H : Type} : Left H := { results := [], args := [] }

/- WHAT THE LISTED PACKAGE-LEVEL VARIABLES READ AS WHEN THE CALL BEGINS. Each datum BY PROGRAM (the guide's laid-datum.mjs) off the statement by which the dump's own 'gosem.cut.vars' lays the variable. In a bare row this is a premise. The card (YtgpmbkbhkjepgaaDoorCards.lean) ties it to the program's text. -/
def laid_unicode_utf8_acceptRanges {H : Type} : DataW H := .agg [.agg [.lit (.int .u8 128), .lit (.int .u8 191)], .agg [.lit (.int .u8 160), .lit (.int .u8 191)], .agg [.lit (.int .u8 128), .lit (.int .u8 159)], .agg [.lit (.int .u8 144), .lit (.int .u8 191)], .agg [.lit (.int .u8 128), .lit (.int .u8 143)], .agg [.lit (.int .u8 0), .lit (.int .u8 0)], .agg [.lit (.int .u8 0), .lit (.int .u8 0)], .agg [.lit (.int .u8 0), .lit (.int .u8 0)], .agg [.lit (.int .u8 0), .lit (.int .u8 0)], .agg [.lit (.int .u8 0), .lit (.int .u8 0)], .agg [.lit (.int .u8 0), .lit (.int .u8 0)], .agg [.lit (.int .u8 0), .lit (.int .u8 0)], .agg [.lit (.int .u8 0), .lit (.int .u8 0)], .agg [.lit (.int .u8 0), .lit (.int .u8 0)], .agg [.lit (.int .u8 0), .lit (.int .u8 0)], .agg [.lit (.int .u8 0), .lit (.int .u8 0)]]
def laid_library_rules_standard {H : Type} : DataW H := .agg [.agg [.lit (.string [48, 50, 48]), .lit (.bool true), .lit (.bool false), .lit (.string [97, 122]), .lit (.string []), .lit (.string []), .lit (.int .i64 0)], .agg [.lit (.string [48, 50, 50]), .lit (.bool true), .lit (.bool false), .lit (.string [97]), .lit (.string []), .lit (.string []), .lit (.int .i64 0)], .agg [.lit (.string [48, 52, 49]), .lit (.bool true), .lit (.bool false), .lit (.string [97]), .lit (.string []), .lit (.string []), .lit (.int .i64 0)], .agg [.lit (.string [49, 48, 48]), .lit (.bool false), .lit (.bool false), .lit (.string [52, 97, 100]), .lit (.string [97]), .lit (.string [97]), .lit (.int .i64 1)], .agg [.lit (.string [49, 49, 48]), .lit (.bool false), .lit (.bool false), .lit (.string [97, 98]), .lit (.string [97]), .lit (.string [97]), .lit (.int .i64 2)], .agg [.lit (.string [50, 52, 53]), .lit (.bool false), .lit (.bool true), .lit (.string [97, 98, 99, 110, 112]), .lit (.string [97, 99]), .lit (.string [97]), .lit (.int .i64 0)], .agg [.lit (.string [50, 52, 54]), .lit (.bool true), .lit (.bool false), .lit (.string [97, 98]), .lit (.string [97]), .lit (.string [97]), .lit (.int .i64 0)], .agg [.lit (.string [50, 53, 48]), .lit (.bool false), .lit (.bool false), .lit (.string [97, 98]), .lit (.string []), .lit (.string []), .lit (.int .i64 0)], .agg [.lit (.string [50, 54, 48]), .lit (.bool true), .lit (.bool false), .lit (.string [97, 98, 99]), .lit (.string []), .lit (.string []), .lit (.int .i64 0)], .agg [.lit (.string [50, 54, 52]), .lit (.bool true), .lit (.bool false), .lit (.string [97, 98, 99]), .lit (.string []), .lit (.string []), .lit (.int .i64 0)], .agg [.lit (.string [51, 48, 48]), .lit (.bool true), .lit (.bool false), .lit (.string [97, 98, 99]), .lit (.string []), .lit (.string []), .lit (.int .i64 0)], .agg [.lit (.string [52, 52, 48]), .lit (.bool true), .lit (.bool false), .lit (.string [97, 118]), .lit (.string [97]), .lit (.string [97]), .lit (.int .i64 4)], .agg [.lit (.string [52, 57, 48]), .lit (.bool true), .lit (.bool false), .lit (.string [97, 118]), .lit (.string [97]), .lit (.string [97]), .lit (.int .i64 0)], .agg [.lit (.string [53, 48, 48]), .lit (.bool true), .lit (.bool false), .lit (.string [97]), .lit (.string [97]), .lit (.string [97]), .lit (.int .i64 0)], .agg [.lit (.string [53, 50, 48]), .lit (.bool true), .lit (.bool false), .lit (.string [97]), .lit (.string []), .lit (.string []), .lit (.int .i64 0)], .agg [.lit (.string [54, 48, 48]), .lit (.bool true), .lit (.bool false), .lit (.string [97, 100, 120, 121, 122]), .lit (.string [97]), .lit (.string [97]), .lit (.int .i64 1)], .agg [.lit (.string [54, 49, 48]), .lit (.bool true), .lit (.bool false), .lit (.string [97, 98, 120, 121, 122]), .lit (.string [97]), .lit (.string [97]), .lit (.int .i64 2)], .agg [.lit (.string [54, 53, 48]), .lit (.bool true), .lit (.bool false), .lit (.string [97, 120, 121, 122]), .lit (.string [97]), .lit (.string [97]), .lit (.int .i64 3)], .agg [.lit (.string [54, 53, 49]), .lit (.bool true), .lit (.bool false), .lit (.string [97, 120, 121, 122]), .lit (.string [97]), .lit (.string [97]), .lit (.int .i64 3)], .agg [.lit (.string [55, 48, 48]), .lit (.bool true), .lit (.bool false), .lit (.string [52, 97, 100]), .lit (.string [97]), .lit (.string [97]), .lit (.int .i64 1)], .agg [.lit (.string [55, 49, 48]), .lit (.bool true), .lit (.bool false), .lit (.string [97, 98]), .lit (.string [97]), .lit (.string [97]), .lit (.int .i64 2)], .agg [.lit (.string [55, 55, 54]), .lit (.bool true), .lit (.bool false), .lit (.string [116, 119]), .lit (.string []), .lit (.string []), .lit (.int .i64 0)], .agg [.lit (.string [55, 56, 55]), .lit (.bool true), .lit (.bool false), .lit (.string [116, 119]), .lit (.string []), .lit (.string []), .lit (.int .i64 0)], .agg [.lit (.string [56, 51, 48]), .lit (.bool true), .lit (.bool false), .lit (.string [97, 118]), .lit (.string [97]), .lit (.string [97]), .lit (.int .i64 4)], .agg [.lit (.string [56, 53, 54]), .lit (.bool true), .lit (.bool false), .lit (.string [117, 122]), .lit (.string []), .lit (.string []), .lit (.int .i64 0)]]
/-- One of Go's own tables, pinned by name: the form's constant. -/
def laid_unicode_utf8_first : DataW Unit := Go.Pinned.utf8First

/-- 'librarylaw09.RulesStandard': WHATEVER THE INPUT: true; the input reads as it did. -/
def rulesStandardSpec : ChangeSpec := { name := "rulesStandard", fn := fun _ => fun
  | [d] => { results := [.lit (.bool true)], args := [d] }
  | _ => none }
def rulesStandardRow : OpenClaim := { program := "ytgpmbkbhkjepgaadoor", sum := "04ab65ba7191ea6bcd11fe20fb9240cf7c1004bbca39668754d68337ab01b33f", func := "library/librarylaw09.RulesStandard", spec := "rulesStandard", inPlace := ["internal/bytealg.IndexByteString", "internal/bytealg.IndexString"], unfollowed := true, recurses := true, named := ["library/rules.standard", "unicode/utf8.first", "unicode/utf8.acceptRanges", "internal/bytealg.MaxLen"], apart := false, laid := [("unicode/utf8.acceptRanges", laid_unicode_utf8_acceptRanges), ("library/rules.standard", laid_library_rules_standard), ("unicode/utf8.first", laid_unicode_utf8_first)] }
def RulesStandardSaid : Prop := rulesStandardRow.holds Tryd.pinned (OpenSpec.ofChange rulesStandardSpec)

/-- ITS FALSE NEIGHBOUR: 'it returns false'. Refute it at one input. -/
def rulesStandardWrong : ChangeSpec := { name := "rulesStandard", fn := fun _ => fun
  | [d] => { results := [.lit (.bool false)], args := [d] }
  | _ => none }
def RulesStandardWrongFalsely : Prop := rulesStandardRow.holds Tryd.pinned (OpenSpec.ofChange rulesStandardWrong)

/-- 'librarylaw09.RulesRight': WHATEVER THE INPUT: true; the input reads as it did. -/
def rulesRightSpec : ChangeSpec := { name := "rulesRight", fn := fun _ => fun
  | [d] => { results := [.lit (.bool true)], args := [d] }
  | _ => none }
def rulesRightRow : OpenClaim := { program := "ytgpmbkbhkjepgaadoor", sum := "04ab65ba7191ea6bcd11fe20fb9240cf7c1004bbca39668754d68337ab01b33f", func := "library/librarylaw09.RulesRight", spec := "rulesRight", inPlace := ["internal/bytealg.IndexByteString", "internal/bytealg.IndexString"], unfollowed := true, recurses := true, named := ["library/rules.standard", "unicode/utf8.first", "unicode/utf8.acceptRanges", "internal/bytealg.MaxLen"], apart := false, laid := [("unicode/utf8.acceptRanges", laid_unicode_utf8_acceptRanges), ("library/rules.standard", laid_library_rules_standard), ("unicode/utf8.first", laid_unicode_utf8_first)] }
def RulesRightSaid : Prop := rulesRightRow.holds Tryd.pinned (OpenSpec.ofChange rulesRightSpec)

/-- ITS FALSE NEIGHBOUR: 'it returns false'. Refute it at one input. -/
def rulesRightWrong : ChangeSpec := { name := "rulesRight", fn := fun _ => fun
  | [d] => { results := [.lit (.bool false)], args := [d] }
  | _ => none }
def RulesRightWrongFalsely : Prop := rulesRightRow.holds Tryd.pinned (OpenSpec.ofChange rulesRightWrong)

/- THE SECOND FORM. 'bulk': how many values and letters a reading holds, each counted each time it is reached (what is shared counts as often as it is met; a slice's spare places count too). A statement '..UptoSaid' is the law's where the arguments, and the package variables that the reading takes, are together of bulk at most 1048576: NARROWER than '..Said'. Prove '..Said' where nothing that the law and all that it calls make is longer than what came in: it says more and counts as full. Else prove '..UptoSaid'. A law counts once. -/
mutual
def uptoBulk {H : Type} : DataW H → Nat
  | .lit (.string bytes) => bytes.length + 1
  | .lit _ => 1
  | .nil => 1
  | .ptr d => uptoBulk d + 1
  | .slice elems spare => uptoBulkAll elems + uptoBulkAll spare + 1
  | .agg parts => uptoBulkAll parts + 1
  | .iface _ d => uptoBulk d + 1
  | .map entries => uptoBulkEntries entries + 1
  | .held _ => 1
def uptoBulkAll {H : Type} : List (DataW H) → Nat
  | [] => 0
  | d :: r => uptoBulk d + uptoBulkAll r
def uptoBulkEntries {H : Type} : List (Lit × DataW H) → Nat
  | [] => 0
  | x :: r => uptoBulkEntry x + uptoBulkEntries r
def uptoBulkEntry {H : Type} : Lit × DataW H → Nat
  | (.string bytes, d) => bytes.length + uptoBulk d + 1
  | (_, d) => uptoBulk d + 1
 end
def uptoSmall : (H : Type) → List (DataW H) → Bool := fun _ ds => decide (uptoBulkAll ds ≤ 1048576)
def OpenSpec.upto (s : _root_.Go.ChangeSpec) : _root_.Go.OpenSpec := { _root_.Go.OpenSpec.ofChange s with cond := some uptoSmall }

/-- 'librarylaw09.RulesStandard', WHERE WHAT IT READS IS OF BULK AT MOST 1048576: true; the input reads as it did. -/
def rulesStandardUptoRow : OpenClaim := { program := "ytgpmbkbhkjepgaadoor", sum := "04ab65ba7191ea6bcd11fe20fb9240cf7c1004bbca39668754d68337ab01b33f", func := "library/librarylaw09.RulesStandard", spec := "rulesStandard", inPlace := ["internal/bytealg.IndexByteString", "internal/bytealg.IndexString"], unfollowed := true, recurses := true, named := ["library/rules.standard", "unicode/utf8.first", "unicode/utf8.acceptRanges", "internal/bytealg.MaxLen"], apart := false, laid := [("unicode/utf8.acceptRanges", laid_unicode_utf8_acceptRanges), ("library/rules.standard", laid_library_rules_standard), ("unicode/utf8.first", laid_unicode_utf8_first)], narrowed := true }
def RulesStandardUptoSaid : Prop := rulesStandardUptoRow.holds Tryd.pinned (OpenSpec.upto rulesStandardSpec)

/-- 'librarylaw09.RulesRight', WHERE WHAT IT READS IS OF BULK AT MOST 1048576: true; the input reads as it did. -/
def rulesRightUptoRow : OpenClaim := { program := "ytgpmbkbhkjepgaadoor", sum := "04ab65ba7191ea6bcd11fe20fb9240cf7c1004bbca39668754d68337ab01b33f", func := "library/librarylaw09.RulesRight", spec := "rulesRight", inPlace := ["internal/bytealg.IndexByteString", "internal/bytealg.IndexString"], unfollowed := true, recurses := true, named := ["library/rules.standard", "unicode/utf8.first", "unicode/utf8.acceptRanges", "internal/bytealg.MaxLen"], apart := false, laid := [("unicode/utf8.acceptRanges", laid_unicode_utf8_acceptRanges), ("library/rules.standard", laid_library_rules_standard), ("unicode/utf8.first", laid_unicode_utf8_first)], narrowed := true }
def RulesRightUptoSaid : Prop := rulesRightUptoRow.holds Tryd.pinned (OpenSpec.upto rulesRightSpec)

end Rows
end Go.Proofs.YtgpmbkbhkjepgaaDoor
