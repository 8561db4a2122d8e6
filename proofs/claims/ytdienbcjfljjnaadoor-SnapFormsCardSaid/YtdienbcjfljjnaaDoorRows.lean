/-
  NARROWER THAN 'FOR EVERY INPUT', by the rows' own cells (each row's printed sentence says how): SnapBack: loops, laid · SnapOne: loops, laid · SnapParts: loops, laid · SnapForms: loops, laid · OpBack: loops, laid · OpOne: loops, laid · OpHas: loops, laid · OpIDs: laid.
  DERIVED. THE GIVEN ROWS OF THIS SEAT. 8 by the template 'for every input the law returns true; each argument reads behind the call as it read before'; 0 by the template 'total and deterministic' (their statements: YtdienbcjfljjnaaDoorTotals.lean).
  GIVEN WITH THE SEED: the statements are not yours to turn. If you find one false, say at which input.
  Laid BY PROGRAM, IN A SANDBOX (cutbox-rows.mjs): the forced cells as the released guide's own fill.sh prints them over the translation a35c31d83d05556f… (all of the seat's roots in one cut). By AI agents, Wed Nov 11 2026. No macro, syntax, notation, axiom, sorry.
-/
import Derived.Test.YtdienbcjfljjnaaDoorChecked
import GoSem.PinnedTables
import GoSem.Claim
import GoSem.ClaimJoined
import GoSem.ClaimMapViews
import Derived.JoinedTies
import Derived.KernelRfl
namespace Go.Proofs.YtdienbcjfljjnaaDoor
/- THE CELL 'sum', in the pinned program and in every row, IS THE sha256 OF THE DUMP (.gsa) THAT YtdienbcjfljjnaaDoorProg.lean LOADS. Nothing in Lean hashes anything: it is a label: what it is worth is what the hold of that sum in a sandbox is worth. -/
noncomputable def Tryd.pinned : Pinned := { name := "ytdienbcjfljjnaadoor", sum := "a35c31d83d05556f4f11c5da91c598c08977701d5e0eb68ff4bb46016ca4a77c", checked := Tryd.checked }
namespace Rows
def none {H : Type} : Left H := { results := [], args := [] }

/- WHAT THE LISTED PACKAGE-LEVEL VARIABLES READ AS WHEN THE CALL BEGINS. Each datum BY PROGRAM (the guide's laid-datum.mjs) off the statement by which the dump's own 'gosem.cut.vars' lays the variable. In a bare row this is a premise. The card (YtdienbcjfljjnaaDoorCards.lean) ties it to the program's text. -/
def laid_unicode_utf8_acceptRanges {H : Type} : DataW H := .agg [.agg [.lit (.int .u8 128), .lit (.int .u8 191)], .agg [.lit (.int .u8 160), .lit (.int .u8 191)], .agg [.lit (.int .u8 128), .lit (.int .u8 159)], .agg [.lit (.int .u8 144), .lit (.int .u8 191)], .agg [.lit (.int .u8 128), .lit (.int .u8 143)], .agg [.lit (.int .u8 0), .lit (.int .u8 0)], .agg [.lit (.int .u8 0), .lit (.int .u8 0)], .agg [.lit (.int .u8 0), .lit (.int .u8 0)], .agg [.lit (.int .u8 0), .lit (.int .u8 0)], .agg [.lit (.int .u8 0), .lit (.int .u8 0)], .agg [.lit (.int .u8 0), .lit (.int .u8 0)], .agg [.lit (.int .u8 0), .lit (.int .u8 0)], .agg [.lit (.int .u8 0), .lit (.int .u8 0)], .agg [.lit (.int .u8 0), .lit (.int .u8 0)], .agg [.lit (.int .u8 0), .lit (.int .u8 0)], .agg [.lit (.int .u8 0), .lit (.int .u8 0)]]
/-- One of Go's own tables, pinned by name: the form's constant. -/
def laid_unicode_utf8_first : DataW Unit := Go.Pinned.utf8First
def laid_foreman_op_kinds {H : Type} : DataW H := .agg [.lit (.int .u8 0), .lit (.int .u8 3), .lit (.int .u8 4), .lit (.int .u8 29), .lit (.int .u8 12), .lit (.int .u8 4)]

/-- 'foremanlaw11.SnapBack': WHATEVER THE INPUT: true; the input reads as it did. -/
def snapBackSpec : ChangeSpec := { name := "snapBack", fn := fun _ => fun
  | [d1, d2] => { results := [.lit (.bool true)], args := [d1, d2] }
  | _ => none }
def snapBackRow : OpenClaim := { program := "ytdienbcjfljjnaadoor", sum := "a35c31d83d05556f4f11c5da91c598c08977701d5e0eb68ff4bb46016ca4a77c", func := "foreman/foremanlaw11.SnapBack", spec := "snapBack", inPlace := ["internal/bytealg.IndexByteString", "internal/bytealg.IndexString"], unfollowed := true, recurses := true, named := ["unicode/utf8.first", "unicode/utf8.acceptRanges", "internal/bytealg.MaxLen"], loops := true, apart := false, laid := [("unicode/utf8.acceptRanges", laid_unicode_utf8_acceptRanges), ("unicode/utf8.first", laid_unicode_utf8_first)] }
def SnapBackSaid : Prop := snapBackRow.holds Tryd.pinned (OpenSpec.ofChange snapBackSpec)

/-- ITS FALSE NEIGHBOUR: 'it returns false'. Refute it at one input. -/
def snapBackWrong : ChangeSpec := { name := "snapBack", fn := fun _ => fun
  | [d1, d2] => { results := [.lit (.bool false)], args := [d1, d2] }
  | _ => none }
def SnapBackWrongFalsely : Prop := snapBackRow.holds Tryd.pinned (OpenSpec.ofChange snapBackWrong)

/-- 'foremanlaw11.SnapOne': WHATEVER THE INPUT: true; the input reads as it did. -/
def snapOneSpec : ChangeSpec := { name := "snapOne", fn := fun _ => fun
  | [d1, d2, d3] => { results := [.lit (.bool true)], args := [d1, d2, d3] }
  | _ => none }
def snapOneRow : OpenClaim := { program := "ytdienbcjfljjnaadoor", sum := "a35c31d83d05556f4f11c5da91c598c08977701d5e0eb68ff4bb46016ca4a77c", func := "foreman/foremanlaw11.SnapOne", spec := "snapOne", inPlace := ["internal/bytealg.IndexByteString", "internal/bytealg.IndexString"], unfollowed := true, recurses := true, named := ["unicode/utf8.first", "unicode/utf8.acceptRanges", "internal/bytealg.MaxLen"], loops := true, apart := false, laid := [("unicode/utf8.acceptRanges", laid_unicode_utf8_acceptRanges), ("unicode/utf8.first", laid_unicode_utf8_first)] }
def SnapOneSaid : Prop := snapOneRow.holds Tryd.pinned (OpenSpec.ofChange snapOneSpec)

/-- ITS FALSE NEIGHBOUR: 'it returns false'. Refute it at one input. -/
def snapOneWrong : ChangeSpec := { name := "snapOne", fn := fun _ => fun
  | [d1, d2, d3] => { results := [.lit (.bool false)], args := [d1, d2, d3] }
  | _ => none }
def SnapOneWrongFalsely : Prop := snapOneRow.holds Tryd.pinned (OpenSpec.ofChange snapOneWrong)

/-- 'foremanlaw11.SnapParts': WHATEVER THE INPUT: true; the input reads as it did. -/
def snapPartsSpec : ChangeSpec := { name := "snapParts", fn := fun _ => fun
  | [d1, d2, d3] => { results := [.lit (.bool true)], args := [d1, d2, d3] }
  | _ => none }
def snapPartsRow : OpenClaim := { program := "ytdienbcjfljjnaadoor", sum := "a35c31d83d05556f4f11c5da91c598c08977701d5e0eb68ff4bb46016ca4a77c", func := "foreman/foremanlaw11.SnapParts", spec := "snapParts", inPlace := ["internal/bytealg.IndexByteString", "internal/bytealg.IndexString"], unfollowed := true, recurses := true, named := ["unicode/utf8.first", "unicode/utf8.acceptRanges", "internal/bytealg.MaxLen"], loops := true, apart := false, laid := [("unicode/utf8.acceptRanges", laid_unicode_utf8_acceptRanges), ("unicode/utf8.first", laid_unicode_utf8_first)] }
def SnapPartsSaid : Prop := snapPartsRow.holds Tryd.pinned (OpenSpec.ofChange snapPartsSpec)

/-- ITS FALSE NEIGHBOUR: 'it returns false'. Refute it at one input. -/
def snapPartsWrong : ChangeSpec := { name := "snapParts", fn := fun _ => fun
  | [d1, d2, d3] => { results := [.lit (.bool false)], args := [d1, d2, d3] }
  | _ => none }
def SnapPartsWrongFalsely : Prop := snapPartsRow.holds Tryd.pinned (OpenSpec.ofChange snapPartsWrong)

/-- 'foremanlaw11.SnapForms': WHATEVER THE INPUT: true; the input reads as it did. -/
def snapFormsSpec : ChangeSpec := { name := "snapForms", fn := fun _ => fun
  | [d1, d2, d3, d4] => { results := [.lit (.bool true)], args := [d1, d2, d3, d4] }
  | _ => none }
def snapFormsRow : OpenClaim := { program := "ytdienbcjfljjnaadoor", sum := "a35c31d83d05556f4f11c5da91c598c08977701d5e0eb68ff4bb46016ca4a77c", func := "foreman/foremanlaw11.SnapForms", spec := "snapForms", inPlace := ["internal/bytealg.IndexByteString", "internal/bytealg.IndexString"], unfollowed := true, recurses := true, named := ["unicode/utf8.first", "unicode/utf8.acceptRanges", "internal/bytealg.MaxLen"], loops := true, apart := false, laid := [("unicode/utf8.acceptRanges", laid_unicode_utf8_acceptRanges), ("unicode/utf8.first", laid_unicode_utf8_first)] }
def SnapFormsSaid : Prop := snapFormsRow.holds Tryd.pinned (OpenSpec.ofChange snapFormsSpec)

/-- ITS FALSE NEIGHBOUR: 'it returns false'. Refute it at one input. -/
def snapFormsWrong : ChangeSpec := { name := "snapForms", fn := fun _ => fun
  | [d1, d2, d3, d4] => { results := [.lit (.bool false)], args := [d1, d2, d3, d4] }
  | _ => none }
def SnapFormsWrongFalsely : Prop := snapFormsRow.holds Tryd.pinned (OpenSpec.ofChange snapFormsWrong)

/-- 'foremanlaw10.OpBack': WHATEVER THE INPUT: true; the input reads as it did. -/
def opBackSpec : ChangeSpec := { name := "opBack", fn := fun _ => fun
  | [d1, d2] => { results := [.lit (.bool true)], args := [d1, d2] }
  | _ => none }
def opBackRow : OpenClaim := { program := "ytdienbcjfljjnaadoor", sum := "a35c31d83d05556f4f11c5da91c598c08977701d5e0eb68ff4bb46016ca4a77c", func := "foreman/foremanlaw10.OpBack", spec := "opBack", inPlace := ["internal/bytealg.IndexByteString", "internal/bytealg.IndexString"], unfollowed := true, recurses := true, named := ["foreman/op.kinds", "unicode/utf8.first", "unicode/utf8.acceptRanges", "internal/bytealg.MaxLen"], loops := true, apart := false, laid := [("unicode/utf8.acceptRanges", laid_unicode_utf8_acceptRanges), ("foreman/op.kinds", laid_foreman_op_kinds), ("unicode/utf8.first", laid_unicode_utf8_first)] }
def OpBackSaid : Prop := opBackRow.holds Tryd.pinned (OpenSpec.ofChange opBackSpec)

/-- ITS FALSE NEIGHBOUR: 'it returns false'. Refute it at one input. -/
def opBackWrong : ChangeSpec := { name := "opBack", fn := fun _ => fun
  | [d1, d2] => { results := [.lit (.bool false)], args := [d1, d2] }
  | _ => none }
def OpBackWrongFalsely : Prop := opBackRow.holds Tryd.pinned (OpenSpec.ofChange opBackWrong)

/-- 'foremanlaw10.OpOne': WHATEVER THE INPUT: true; the input reads as it did. -/
def opOneSpec : ChangeSpec := { name := "opOne", fn := fun _ => fun
  | [d1, d2, d3] => { results := [.lit (.bool true)], args := [d1, d2, d3] }
  | _ => none }
def opOneRow : OpenClaim := { program := "ytdienbcjfljjnaadoor", sum := "a35c31d83d05556f4f11c5da91c598c08977701d5e0eb68ff4bb46016ca4a77c", func := "foreman/foremanlaw10.OpOne", spec := "opOne", inPlace := ["internal/bytealg.IndexByteString", "internal/bytealg.IndexString"], unfollowed := true, recurses := true, named := ["foreman/op.kinds", "unicode/utf8.first", "unicode/utf8.acceptRanges", "internal/bytealg.MaxLen"], loops := true, apart := false, laid := [("unicode/utf8.acceptRanges", laid_unicode_utf8_acceptRanges), ("foreman/op.kinds", laid_foreman_op_kinds), ("unicode/utf8.first", laid_unicode_utf8_first)] }
def OpOneSaid : Prop := opOneRow.holds Tryd.pinned (OpenSpec.ofChange opOneSpec)

/-- ITS FALSE NEIGHBOUR: 'it returns false'. Refute it at one input. -/
def opOneWrong : ChangeSpec := { name := "opOne", fn := fun _ => fun
  | [d1, d2, d3] => { results := [.lit (.bool false)], args := [d1, d2, d3] }
  | _ => none }
def OpOneWrongFalsely : Prop := opOneRow.holds Tryd.pinned (OpenSpec.ofChange opOneWrong)

/-- 'foremanlaw10.OpHas': WHATEVER THE INPUT: true; the input reads as it did. -/
def opHasSpec : ChangeSpec := { name := "opHas", fn := fun _ => fun
  | [d1, d2, d3, d4, d5] => { results := [.lit (.bool true)], args := [d1, d2, d3, d4, d5] }
  | _ => none }
def opHasRow : OpenClaim := { program := "ytdienbcjfljjnaadoor", sum := "a35c31d83d05556f4f11c5da91c598c08977701d5e0eb68ff4bb46016ca4a77c", func := "foreman/foremanlaw10.OpHas", spec := "opHas", inPlace := ["internal/bytealg.IndexByteString", "internal/bytealg.IndexString"], unfollowed := true, recurses := true, named := ["unicode/utf8.first", "unicode/utf8.acceptRanges", "foreman/op.kinds", "internal/bytealg.MaxLen"], loops := true, apart := false, laid := [("unicode/utf8.acceptRanges", laid_unicode_utf8_acceptRanges), ("foreman/op.kinds", laid_foreman_op_kinds), ("unicode/utf8.first", laid_unicode_utf8_first)] }
def OpHasSaid : Prop := opHasRow.holds Tryd.pinned (OpenSpec.ofChange opHasSpec)

/-- ITS FALSE NEIGHBOUR: 'it returns false'. Refute it at one input. -/
def opHasWrong : ChangeSpec := { name := "opHas", fn := fun _ => fun
  | [d1, d2, d3, d4, d5] => { results := [.lit (.bool false)], args := [d1, d2, d3, d4, d5] }
  | _ => none }
def OpHasWrongFalsely : Prop := opHasRow.holds Tryd.pinned (OpenSpec.ofChange opHasWrong)

/-- 'foremanlaw10.OpIDs': WHATEVER THE INPUT: true; the input reads as it did. -/
def opIDsSpec : ChangeSpec := { name := "opIDs", fn := fun _ => fun
  | [d] => { results := [.lit (.bool true)], args := [d] }
  | _ => none }
def opIDsRow : OpenClaim := { program := "ytdienbcjfljjnaadoor", sum := "a35c31d83d05556f4f11c5da91c598c08977701d5e0eb68ff4bb46016ca4a77c", func := "foreman/foremanlaw10.OpIDs", spec := "opIDs", inPlace := ["internal/bytealg.IndexByteString", "internal/bytealg.IndexString"], unfollowed := true, recurses := true, named := ["foreman/op.kinds", "unicode/utf8.first", "unicode/utf8.acceptRanges", "internal/bytealg.MaxLen"], apart := false, laid := [("unicode/utf8.acceptRanges", laid_unicode_utf8_acceptRanges), ("foreman/op.kinds", laid_foreman_op_kinds), ("unicode/utf8.first", laid_unicode_utf8_first)] }
def OpIDsSaid : Prop := opIDsRow.holds Tryd.pinned (OpenSpec.ofChange opIDsSpec)

/-- ITS FALSE NEIGHBOUR: 'it returns false'. Refute it at one input. -/
def opIDsWrong : ChangeSpec := { name := "opIDs", fn := fun _ => fun
  | [d] => { results := [.lit (.bool false)], args := [d] }
  | _ => none }
def OpIDsWrongFalsely : Prop := opIDsRow.holds Tryd.pinned (OpenSpec.ofChange opIDsWrong)

/- THE SECOND FORM. 'bulk': how many values and letters a reading holds, each counted each time it is reached (what is shared counts as often as it is met; a slice's spare places count too). A statement '..UptoSaid' is the law's where the arguments, and the package variables that the reading takes, are together of bulk at most 1048576: NARROWER than '..Said'. Prove '..Said' where nothing that the law and all that it calls make is longer than what came in: it says more and counts as full. Else prove '..UptoSaid'. A law counts once. -/
mutual
def uptoBulk {H : Type} : DataW H → Nat
  | .lit (.string bytes) => bytes.length + 1
  | .lit _ => 1
  | .nil => 1
  | .ptr d => uptoBulk d + 1
  | .slice elems spare => uptoBulkAll elems + uptoBulkAll spare + 1
  | .agg parts => uptoBulkAll parts + 1
  | .iface _ d => uptoBulk d + 1
  | .map entries => uptoBulkEntries entries + 1
  | .held _ => 1
def uptoBulkAll {H : Type} : List (DataW H) → Nat
  | [] => 0
  | d :: r => uptoBulk d + uptoBulkAll r
def uptoBulkEntries {H : Type} : List (Lit × DataW H) → Nat
  | [] => 0
  | x :: r => uptoBulkEntry x + uptoBulkEntries r
def uptoBulkEntry {H : Type} : Lit × DataW H → Nat
  | (.string bytes, d) => bytes.length + uptoBulk d + 1
  | (_, d) => uptoBulk d + 1
 end
def uptoSmall : (H : Type) → List (DataW H) → Bool := fun _ ds => decide (uptoBulkAll ds ≤ 1048576)
def OpenSpec.upto (s : _root_.Go.ChangeSpec) : _root_.Go.OpenSpec := { _root_.Go.OpenSpec.ofChange s with cond := some uptoSmall }

/-- 'foremanlaw11.SnapBack', WHERE WHAT IT READS IS OF BULK AT MOST 1048576: true; the input reads as it did. -/
def snapBackUptoRow : OpenClaim := { program := "ytdienbcjfljjnaadoor", sum := "a35c31d83d05556f4f11c5da91c598c08977701d5e0eb68ff4bb46016ca4a77c", func := "foreman/foremanlaw11.SnapBack", spec := "snapBack", inPlace := ["internal/bytealg.IndexByteString", "internal/bytealg.IndexString"], unfollowed := true, recurses := true, named := ["unicode/utf8.first", "unicode/utf8.acceptRanges", "internal/bytealg.MaxLen"], loops := true, apart := false, laid := [("unicode/utf8.acceptRanges", laid_unicode_utf8_acceptRanges), ("unicode/utf8.first", laid_unicode_utf8_first)], narrowed := true }
def SnapBackUptoSaid : Prop := snapBackUptoRow.holds Tryd.pinned (OpenSpec.upto snapBackSpec)

/-- 'foremanlaw11.SnapOne', WHERE WHAT IT READS IS OF BULK AT MOST 1048576: true; the input reads as it did. -/
def snapOneUptoRow : OpenClaim := { program := "ytdienbcjfljjnaadoor", sum := "a35c31d83d05556f4f11c5da91c598c08977701d5e0eb68ff4bb46016ca4a77c", func := "foreman/foremanlaw11.SnapOne", spec := "snapOne", inPlace := ["internal/bytealg.IndexByteString", "internal/bytealg.IndexString"], unfollowed := true, recurses := true, named := ["unicode/utf8.first", "unicode/utf8.acceptRanges", "internal/bytealg.MaxLen"], loops := true, apart := false, laid := [("unicode/utf8.acceptRanges", laid_unicode_utf8_acceptRanges), ("unicode/utf8.first", laid_unicode_utf8_first)], narrowed := true }
def SnapOneUptoSaid : Prop := snapOneUptoRow.holds Tryd.pinned (OpenSpec.upto snapOneSpec)

/-- 'foremanlaw11.SnapParts', WHERE WHAT IT READS IS OF BULK AT MOST 1048576: true; the input reads as it did. -/
def snapPartsUptoRow : OpenClaim := { program := "ytdienbcjfljjnaadoor", sum := "a35c31d83d05556f4f11c5da91c598c08977701d5e0eb68ff4bb46016ca4a77c", func := "foreman/foremanlaw11.SnapParts", spec := "snapParts", inPlace := ["internal/bytealg.IndexByteString", "internal/bytealg.IndexString"], unfollowed := true, recurses := true, named := ["unicode/utf8.first", "unicode/utf8.acceptRanges", "internal/bytealg.MaxLen"], loops := true, apart := false, laid := [("unicode/utf8.acceptRanges", laid_unicode_utf8_acceptRanges), ("unicode/utf8.first", laid_unicode_utf8_first)], narrowed := true }
def SnapPartsUptoSaid : Prop := snapPartsUptoRow.holds Tryd.pinned (OpenSpec.upto snapPartsSpec)

/-- 'foremanlaw11.SnapForms', WHERE WHAT IT READS IS OF BULK AT MOST 1048576: true; the input reads as it did. -/
def snapFormsUptoRow : OpenClaim := { program := "ytdienbcjfljjnaadoor", sum := "a35c31d83d05556f4f11c5da91c598c08977701d5e0eb68ff4bb46016ca4a77c", func := "foreman/foremanlaw11.SnapForms", spec := "snapForms", inPlace := ["internal/bytealg.IndexByteString", "internal/bytealg.IndexString"], unfollowed := true, recurses := true, named := ["unicode/utf8.first", "unicode/utf8.acceptRanges", "internal/bytealg.MaxLen"], loops := true, apart := false, laid := [("unicode/utf8.acceptRanges", laid_unicode_utf8_acceptRanges), ("unicode/utf8.first", laid_unicode_utf8_first)], narrowed := true }
def SnapFormsUptoSaid : Prop := snapFormsUptoRow.holds Tryd.pinned (OpenSpec.upto snapFormsSpec)

/-- 'foremanlaw10.OpBack', WHERE WHAT IT READS IS OF BULK AT MOST 1048576: true; the input reads as it did. -/
def opBackUptoRow : OpenClaim := { program := "ytdienbcjfljjnaadoor", sum := "a35c31d83d05556f4f11c5da91c598c08977701d5e0eb68ff4bb46016ca4a77c", func := "foreman/foremanlaw10.OpBack", spec := "opBack", inPlace := ["internal/bytealg.IndexByteString", "internal/bytealg.IndexString"], unfollowed := true, recurses := true, named := ["foreman/op.kinds", "unicode/utf8.first", "unicode/utf8.acceptRanges", "internal/bytealg.MaxLen"], loops := true, apart := false, laid := [("unicode/utf8.acceptRanges", laid_unicode_utf8_acceptRanges), ("foreman/op.kinds", laid_foreman_op_kinds), ("unicode/utf8.first", laid_unicode_utf8_first)], narrowed := true }
def OpBackUptoSaid : Prop := opBackUptoRow.holds Tryd.pinned (OpenSpec.upto opBackSpec)

/-- 'foremanlaw10.OpOne', WHERE WHAT IT READS IS OF BULK AT MOST 1048576: true; the input reads as it did. -/
def opOneUptoRow : OpenClaim := { program := "ytdienbcjfljjnaadoor", sum := "a35c31d83d05556f4f11c5da91c598c08977701d5e0eb68ff4bb46016ca4a77c", func := "foreman/foremanlaw10.OpOne", spec := "opOne", inPlace := ["internal/bytealg.IndexByteString", "internal/bytealg.IndexString"], unfollowed := true, recurses := true, named := ["foreman/op.kinds", "unicode/utf8.first", "unicode/utf8.acceptRanges", "internal/bytealg.MaxLen"], loops := true, apart := false, laid := [("unicode/utf8.acceptRanges", laid_unicode_utf8_acceptRanges), ("foreman/op.kinds", laid_foreman_op_kinds), ("unicode/utf8.first", laid_unicode_utf8_first)], narrowed := true }
def OpOneUptoSaid : Prop := opOneUptoRow.holds Tryd.pinned (OpenSpec.upto opOneSpec)

/-- 'foremanlaw10.OpHas', WHERE WHAT IT READS IS OF BULK AT MOST 1048576: true; the input reads as it did. -/
def opHasUptoRow : OpenClaim := { program := "ytdienbcjfljjnaadoor", sum := "a35c31d83d05556f4f11c5da91c598c08977701d5e0eb68ff4bb46016ca4a77c", func := "foreman/foremanlaw10.OpHas", spec := "opHas", inPlace := ["internal/bytealg.IndexByteString", "internal/bytealg.IndexString"], unfollowed := true, recurses := true, named := ["unicode/utf8.first", "unicode/utf8.acceptRanges", "foreman/op.kinds", "internal/bytealg.MaxLen"], loops := true, apart := false, laid := [("unicode/utf8.acceptRanges", laid_unicode_utf8_acceptRanges), ("foreman/op.kinds", laid_foreman_op_kinds), ("unicode/utf8.first", laid_unicode_utf8_first)], narrowed := true }
def OpHasUptoSaid : Prop := opHasUptoRow.holds Tryd.pinned (OpenSpec.upto opHasSpec)

/-- 'foremanlaw10.OpIDs', WHERE WHAT IT READS IS OF BULK AT MOST 1048576: true; the input reads as it did. -/
def opIDsUptoRow : OpenClaim := { program := "ytdienbcjfljjnaadoor", sum := "a35c31d83d05556f4f11c5da91c598c08977701d5e0eb68ff4bb46016ca4a77c", func := "foreman/foremanlaw10.OpIDs", spec := "opIDs", inPlace := ["internal/bytealg.IndexByteString", "internal/bytealg.IndexString"], unfollowed := true, recurses := true, named := ["foreman/op.kinds", "unicode/utf8.first", "unicode/utf8.acceptRanges", "internal/bytealg.MaxLen"], apart := false, laid := [("unicode/utf8.acceptRanges", laid_unicode_utf8_acceptRanges), ("foreman/op.kinds", laid_foreman_op_kinds), ("unicode/utf8.first", laid_unicode_utf8_first)], narrowed := true }
def OpIDsUptoSaid : Prop := opIDsUptoRow.holds Tryd.pinned (OpenSpec.upto opIDsSpec)

end Rows
end Go.Proofs.YtdienbcjfljjnaaDoor
