/-
  NARROWER THAN 'FOR EVERY INPUT', by the rows' own cells (each row's printed sentence says how): TypesSays: loops, laid · TypesReads: laid · GlobalReads: laid · GlobalSays: loops, laid.
  DERIVED. THE GIVEN ROWS OF THIS SEAT. 4 by the template 'for every input the law returns true; each argument reads behind the call as it read before'; 0 by the template 'total and deterministic' (their statements: YtgnkncfnkjeinaaDoorTotals.lean).
  GIVEN WITH THE SEED: the statements are not yours to turn. If you find one false, say at which input.
  Laid BY PROGRAM, IN A SANDBOX (cutbox-rows.mjs): the forced cells as the released guide's own fill.sh prints them over the translation 63384ac48e8fa167… (all of the seat's roots in one cut). By AI agents, Wed Nov 11 2026. No macro, syntax, notation, axiom, sorry.
-/
import Derived.Test.YtgnkncfnkjeinaaDoorChecked
import GoSem.PinnedTables
import GoSem.Claim
import GoSem.ClaimJoined
import GoSem.ClaimMapViews
import Derived.JoinedTies
import Derived.KernelRfl
namespace Go.Proofs.YtgnkncfnkjeinaaDoor
/- THE CELL 'sum', in the pinned program and in every row, IS THE sha256 OF THE DUMP (.gsa) THAT YtgnkncfnkjeinaaDoorProg.lean LOADS. Nothing in Lean hashes anything: it is a label: what it is worth is what the hold of that sum in a sandbox is worth. -/
noncomputable def Tryd.pinned : Pinned := { name := "ytgnkncfnkjeinaadoor", sum := "63384ac48e8fa1672399e7a5016ee4130ae82a649c2f3d539532d2a86da0198a", checked := Tryd.checked }
namespace Rows
def none {H : Type} : Left H := { results := [], args := [] }

/- WHAT THE LISTED PACKAGE-LEVEL VARIABLES READ AS WHEN THE CALL BEGINS. Each datum BY PROGRAM (the guide's laid-datum.mjs) off the statement by which the dump's own 'gosem.cut.vars' lays the variable. In a bare row this is a premise. The card (YtgnkncfnkjeinaaDoorCards.lean) ties it to the program's text. -/
def laid_unicode_utf8_acceptRanges {H : Type} : DataW H := .agg [.agg [.lit (.int .u8 128), .lit (.int .u8 191)], .agg [.lit (.int .u8 160), .lit (.int .u8 191)], .agg [.lit (.int .u8 128), .lit (.int .u8 159)], .agg [.lit (.int .u8 144), .lit (.int .u8 191)], .agg [.lit (.int .u8 128), .lit (.int .u8 143)], .agg [.lit (.int .u8 0), .lit (.int .u8 0)], .agg [.lit (.int .u8 0), .lit (.int .u8 0)], .agg [.lit (.int .u8 0), .lit (.int .u8 0)], .agg [.lit (.int .u8 0), .lit (.int .u8 0)], .agg [.lit (.int .u8 0), .lit (.int .u8 0)], .agg [.lit (.int .u8 0), .lit (.int .u8 0)], .agg [.lit (.int .u8 0), .lit (.int .u8 0)], .agg [.lit (.int .u8 0), .lit (.int .u8 0)], .agg [.lit (.int .u8 0), .lit (.int .u8 0)], .agg [.lit (.int .u8 0), .lit (.int .u8 0)], .agg [.lit (.int .u8 0), .lit (.int .u8 0)]]
def laid_duet_types_sorts {H : Type} : DataW H := .slice [.lit (.string []), .lit (.string [105, 110, 116]), .lit (.string [98, 111, 111, 108]), .lit (.string [116, 101, 120, 116])] []
/-- One of Go's own tables, pinned by name: the form's constant. -/
def laid_unicode_utf8_first : DataW Unit := Go.Pinned.utf8First
def laid_duet_global_sorts {H : Type} : DataW H := .slice [.lit (.string []), .lit (.string [105, 110, 116]), .lit (.string [98, 111, 111, 108]), .lit (.string [116, 101, 120, 116])] []

/-- 'duetlaw.TypesSays': WHATEVER THE INPUT: true; the input reads as it did. -/
def typesSaysSpec : ChangeSpec := { name := "typesSays", fn := fun _ => fun
  | [d] => { results := [.lit (.bool true)], args := [d] }
  | _ => none }
def typesSaysRow : OpenClaim := { program := "ytgnkncfnkjeinaadoor", sum := "63384ac48e8fa1672399e7a5016ee4130ae82a649c2f3d539532d2a86da0198a", func := "duet/duetlaw.TypesSays", spec := "typesSays", inPlace := ["internal/bytealg.IndexByteString", "internal/bytealg.IndexString", "internal/abi.NoEscape", "internal/bytealg.MakeNoZero"], recurses := true, named := ["unicode/utf8.first", "unicode/utf8.acceptRanges", "duet/types.sorts", "internal/bytealg.MaxLen"], loops := true, apart := false, laid := [("unicode/utf8.acceptRanges", laid_unicode_utf8_acceptRanges), ("duet/types.sorts", laid_duet_types_sorts), ("unicode/utf8.first", laid_unicode_utf8_first)] }
def TypesSaysSaid : Prop := typesSaysRow.holds Tryd.pinned (OpenSpec.ofChange typesSaysSpec)

/-- ITS FALSE NEIGHBOUR: 'it returns false'. Refute it at one input. -/
def typesSaysWrong : ChangeSpec := { name := "typesSays", fn := fun _ => fun
  | [d] => { results := [.lit (.bool false)], args := [d] }
  | _ => none }
def TypesSaysWrongFalsely : Prop := typesSaysRow.holds Tryd.pinned (OpenSpec.ofChange typesSaysWrong)

/-- 'duetlaw.TypesReads': WHATEVER THE INPUT: true; the input reads as it did. -/
def typesReadsSpec : ChangeSpec := { name := "typesReads", fn := fun _ => fun
  | [d1, d2] => { results := [.lit (.bool true)], args := [d1, d2] }
  | _ => none }
def typesReadsRow : OpenClaim := { program := "ytgnkncfnkjeinaadoor", sum := "63384ac48e8fa1672399e7a5016ee4130ae82a649c2f3d539532d2a86da0198a", func := "duet/duetlaw.TypesReads", spec := "typesReads", inPlace := ["internal/bytealg.IndexByteString", "internal/bytealg.IndexString"], unfollowed := true, recurses := true, named := ["unicode/utf8.first", "unicode/utf8.acceptRanges", "duet/types.sorts", "internal/bytealg.MaxLen"], apart := false, laid := [("unicode/utf8.acceptRanges", laid_unicode_utf8_acceptRanges), ("duet/types.sorts", laid_duet_types_sorts), ("unicode/utf8.first", laid_unicode_utf8_first)] }
def TypesReadsSaid : Prop := typesReadsRow.holds Tryd.pinned (OpenSpec.ofChange typesReadsSpec)

/-- ITS FALSE NEIGHBOUR: 'it returns false'. Refute it at one input. -/
def typesReadsWrong : ChangeSpec := { name := "typesReads", fn := fun _ => fun
  | [d1, d2] => { results := [.lit (.bool false)], args := [d1, d2] }
  | _ => none }
def TypesReadsWrongFalsely : Prop := typesReadsRow.holds Tryd.pinned (OpenSpec.ofChange typesReadsWrong)

/-- 'duetlaw.GlobalReads': WHATEVER THE INPUT: true; the input reads as it did. -/
def globalReadsSpec : ChangeSpec := { name := "globalReads", fn := fun _ => fun
  | [d] => { results := [.lit (.bool true)], args := [d] }
  | _ => none }
def globalReadsRow : OpenClaim := { program := "ytgnkncfnkjeinaadoor", sum := "63384ac48e8fa1672399e7a5016ee4130ae82a649c2f3d539532d2a86da0198a", func := "duet/duetlaw.GlobalReads", spec := "globalReads", inPlace := ["internal/bytealg.IndexByteString", "internal/bytealg.IndexString"], unfollowed := true, recurses := true, named := ["duet/global.sorts", "unicode/utf8.first", "unicode/utf8.acceptRanges", "internal/bytealg.MaxLen"], apart := false, laid := [("unicode/utf8.acceptRanges", laid_unicode_utf8_acceptRanges), ("duet/global.sorts", laid_duet_global_sorts), ("unicode/utf8.first", laid_unicode_utf8_first)] }
def GlobalReadsSaid : Prop := globalReadsRow.holds Tryd.pinned (OpenSpec.ofChange globalReadsSpec)

/-- ITS FALSE NEIGHBOUR: 'it returns false'. Refute it at one input. -/
def globalReadsWrong : ChangeSpec := { name := "globalReads", fn := fun _ => fun
  | [d] => { results := [.lit (.bool false)], args := [d] }
  | _ => none }
def GlobalReadsWrongFalsely : Prop := globalReadsRow.holds Tryd.pinned (OpenSpec.ofChange globalReadsWrong)

/-- 'duetlaw.GlobalSays': WHATEVER THE INPUT: true; the input reads as it did. -/
def globalSaysSpec : ChangeSpec := { name := "globalSays", fn := fun _ => fun
  | [d1, d2, d3] => { results := [.lit (.bool true)], args := [d1, d2, d3] }
  | _ => none }
def globalSaysRow : OpenClaim := { program := "ytgnkncfnkjeinaadoor", sum := "63384ac48e8fa1672399e7a5016ee4130ae82a649c2f3d539532d2a86da0198a", func := "duet/duetlaw.GlobalSays", spec := "globalSays", inPlace := ["internal/bytealg.IndexByteString", "internal/bytealg.IndexString", "internal/abi.NoEscape", "internal/bytealg.MakeNoZero"], unfollowed := true, recurses := true, named := ["unicode/utf8.first", "unicode/utf8.acceptRanges", "duet/global.sorts", "internal/bytealg.MaxLen"], loops := true, apart := false, laid := [("unicode/utf8.acceptRanges", laid_unicode_utf8_acceptRanges), ("duet/global.sorts", laid_duet_global_sorts), ("unicode/utf8.first", laid_unicode_utf8_first)] }
def GlobalSaysSaid : Prop := globalSaysRow.holds Tryd.pinned (OpenSpec.ofChange globalSaysSpec)

/-- ITS FALSE NEIGHBOUR: 'it returns false'. Refute it at one input. -/
def globalSaysWrong : ChangeSpec := { name := "globalSays", fn := fun _ => fun
  | [d1, d2, d3] => { results := [.lit (.bool false)], args := [d1, d2, d3] }
  | _ => none }
def GlobalSaysWrongFalsely : Prop := globalSaysRow.holds Tryd.pinned (OpenSpec.ofChange globalSaysWrong)

/- THE SECOND FORM. 'bulk': how many values and letters a reading holds, each counted each time it is reached (what is shared counts as often as it is met; a slice's spare places count too). A statement '..UptoSaid' is the law's where the arguments, and the package variables that the reading takes, are together of bulk at most 1048576: NARROWER than '..Said'. Prove '..Said' where nothing that the law and all that it calls make is longer than what came in: it says more and counts as full. Else prove '..UptoSaid'. A law counts once. -/
mutual
def uptoBulk {H : Type} : DataW H → Nat
  | .lit (.string bytes) => bytes.length + 1
  | .lit _ => 1
  | .nil => 1
  | .ptr d => uptoBulk d + 1
  | .slice elems spare => uptoBulkAll elems + uptoBulkAll spare + 1
  | .agg parts => uptoBulkAll parts + 1
  | .iface _ d => uptoBulk d + 1
  | .map entries => uptoBulkEntries entries + 1
  | .held _ => 1
def uptoBulkAll {H : Type} : List (DataW H) → Nat
  | [] => 0
  | d :: r => uptoBulk d + uptoBulkAll r
def uptoBulkEntries {H : Type} : List (Lit × DataW H) → Nat
  | [] => 0
  | x :: r => uptoBulkEntry x + uptoBulkEntries r
def uptoBulkEntry {H : Type} : Lit × DataW H → Nat
  | (.string bytes, d) => bytes.length + uptoBulk d + 1
  | (_, d) => uptoBulk d + 1
 end
def uptoSmall : (H : Type) → List (DataW H) → Bool := fun _ ds => decide (uptoBulkAll ds ≤ 1048576)
def OpenSpec.upto (s : _root_.Go.ChangeSpec) : _root_.Go.OpenSpec := { _root_.Go.OpenSpec.ofChange s with cond := some uptoSmall }

/-- 'duetlaw.TypesSays', WHERE WHAT IT READS IS OF BULK AT MOST 1048576: true; the input reads as it did. -/
def typesSaysUptoRow : OpenClaim := { program := "ytgnkncfnkjeinaadoor", sum := "63384ac48e8fa1672399e7a5016ee4130ae82a649c2f3d539532d2a86da0198a", func := "duet/duetlaw.TypesSays", spec := "typesSays", inPlace := ["internal/bytealg.IndexByteString", "internal/bytealg.IndexString", "internal/abi.NoEscape", "internal/bytealg.MakeNoZero"], recurses := true, named := ["unicode/utf8.first", "unicode/utf8.acceptRanges", "duet/types.sorts", "internal/bytealg.MaxLen"], loops := true, apart := false, laid := [("unicode/utf8.acceptRanges", laid_unicode_utf8_acceptRanges), ("duet/types.sorts", laid_duet_types_sorts), ("unicode/utf8.first", laid_unicode_utf8_first)], narrowed := true }
def TypesSaysUptoSaid : Prop := typesSaysUptoRow.holds Tryd.pinned (OpenSpec.upto typesSaysSpec)

/-- 'duetlaw.TypesReads', WHERE WHAT IT READS IS OF BULK AT MOST 1048576: true; the input reads as it did. -/
def typesReadsUptoRow : OpenClaim := { program := "ytgnkncfnkjeinaadoor", sum := "63384ac48e8fa1672399e7a5016ee4130ae82a649c2f3d539532d2a86da0198a", func := "duet/duetlaw.TypesReads", spec := "typesReads", inPlace := ["internal/bytealg.IndexByteString", "internal/bytealg.IndexString"], unfollowed := true, recurses := true, named := ["unicode/utf8.first", "unicode/utf8.acceptRanges", "duet/types.sorts", "internal/bytealg.MaxLen"], apart := false, laid := [("unicode/utf8.acceptRanges", laid_unicode_utf8_acceptRanges), ("duet/types.sorts", laid_duet_types_sorts), ("unicode/utf8.first", laid_unicode_utf8_first)], narrowed := true }
def TypesReadsUptoSaid : Prop := typesReadsUptoRow.holds Tryd.pinned (OpenSpec.upto typesReadsSpec)

/-- 'duetlaw.GlobalReads', WHERE WHAT IT READS IS OF BULK AT MOST 1048576: true; the input reads as it did. -/
def globalReadsUptoRow : OpenClaim := { program := "ytgnkncfnkjeinaadoor", sum := "63384ac48e8fa1672399e7a5016ee4130ae82a649c2f3d539532d2a86da0198a", func := "duet/duetlaw.GlobalReads", spec := "globalReads", inPlace := ["internal/bytealg.IndexByteString", "internal/bytealg.IndexString"], unfollowed := true, recurses := true, named := ["duet/global.sorts", "unicode/utf8.first", "unicode/utf8.acceptRanges", "internal/bytealg.MaxLen"], apart := false, laid := [("unicode/utf8.acceptRanges", laid_unicode_utf8_acceptRanges), ("duet/global.sorts", laid_duet_global_sorts), ("unicode/utf8.first", laid_unicode_utf8_first)], narrowed := true }
def GlobalReadsUptoSaid : Prop := globalReadsUptoRow.holds Tryd.pinned (OpenSpec.upto globalReadsSpec)

/-- 'duetlaw.GlobalSays', WHERE WHAT IT READS IS OF BULK AT MOST 1048576: true; the input reads as it did. -/
def globalSaysUptoRow : OpenClaim := { program := "ytgnkncfnkjeinaadoor", sum := "63384ac48e8fa1672399e7a5016ee4130ae82a649c2f3d539532d2a86da0198a", func := "duet/duetlaw.GlobalSays", spec := "globalSays", inPlace := ["internal/bytealg.IndexByteString", "internal/bytealg.IndexString", "internal/abi.NoEscape", "internal/bytealg.MakeNoZero"], unfollowed := true, recurses := true, named := ["unicode/utf8.first", "unicode/utf8.acceptRanges", "duet/global.sorts", "internal/bytealg.MaxLen"], loops := true, apart := false, laid := [("unicode/utf8.acceptRanges", laid_unicode_utf8_acceptRanges), ("duet/global.sorts", laid_duet_global_sorts), ("unicode/utf8.first", laid_unicode_utf8_first)], narrowed := true }
def GlobalSaysUptoSaid : Prop := globalSaysUptoRow.holds Tryd.pinned (OpenSpec.upto globalSaysSpec)

end Rows
end Go.Proofs.YtgnkncfnkjeinaaDoor
