/-
  No cell of these rows narrows 'for every input' (looked for: loops, veiled, ifaces, maps, wideKeys, modest, calm, conditions, laid).
  DERIVED. THE GIVEN ROWS OF THIS SEAT. 16 by the template 'for every input the law returns true; each argument reads behind the call as it read before'; 0 by the template 'total and deterministic' (their statements: YtplhgpeeekjfcaaTotals.lean).
  GIVEN WITH THE SEED: the statements are not yours to turn. If you find one false, say at which input.
  Laid BY PROGRAM, IN A SANDBOX (cutbox-rows.mjs): the forced cells as the released guide's own fill.sh prints them over the translation 9b7266f9e5dafd16… (all of the seat's roots in one cut). By AI agents, Wed Nov 11 2026. No macro, syntax, notation, axiom, sorry.
-/
import Derived.Test.YtplhgpeeekjfcaaChecked
import GoSem.Claim
import GoSem.ClaimJoined
import GoSem.ClaimMapViews
import Derived.JoinedTies
import Derived.KernelRfl
namespace Go.Proofs.Ytplhgpeeekjfcaa
/- THE CELL 'sum', in the pinned program and in every row, IS THE sha256 OF THE DUMP (.gsa) THAT YtplhgpeeekjfcaaProg.lean LOADS. Nothing in Lean hashes anything: it is a label: what it is worth is what the hold of that sum in a sandbox is worth. -/
noncomputable def Try.pinned : Pinned := { name := "ytplhgpeeekjfcaa", sum := "9b7266f9e5dafd16a13e35a48ad29a49c1a291bd736dc628b793fd5f2881073d", checked := Try.checked }
namespace Rows
def none {H : Type} : Left H := { results := [], args := [] }

/-- 'sluicegatelaw15.ClockAll': WHATEVER THE INPUT: true; the input reads as it did. -/
def clockAllSpec : ChangeSpec := { name := "clockAll", fn := fun _ => fun
  | [d1, d2] => { results := [.lit (.bool true)], args := [d1, d2] }
  | _ => none }
def clockAllRow : OpenClaim := { program := "ytplhgpeeekjfcaa", sum := "9b7266f9e5dafd16a13e35a48ad29a49c1a291bd736dc628b793fd5f2881073d", func := "sluicegate/sluicegatelaw15.ClockAll", spec := "clockAll", apart := false }
def ClockAllSaid : Prop := clockAllRow.holds Try.pinned (OpenSpec.ofChange clockAllSpec)

/-- ITS FALSE NEIGHBOUR: 'it returns false'. Refute it at one input. -/
def clockAllWrong : ChangeSpec := { name := "clockAll", fn := fun _ => fun
  | [d1, d2] => { results := [.lit (.bool false)], args := [d1, d2] }
  | _ => none }
def ClockAllWrongFalsely : Prop := clockAllRow.holds Try.pinned (OpenSpec.ofChange clockAllWrong)

/-- 'sluicegatelaw15.ClockApart': WHATEVER THE INPUT: true; the input reads as it did. -/
def clockApartSpec : ChangeSpec := { name := "clockApart", fn := fun _ => fun
  | [d1, d2] => { results := [.lit (.bool true)], args := [d1, d2] }
  | _ => none }
def clockApartRow : OpenClaim := { program := "ytplhgpeeekjfcaa", sum := "9b7266f9e5dafd16a13e35a48ad29a49c1a291bd736dc628b793fd5f2881073d", func := "sluicegate/sluicegatelaw15.ClockApart", spec := "clockApart", apart := false }
def ClockApartSaid : Prop := clockApartRow.holds Try.pinned (OpenSpec.ofChange clockApartSpec)

/-- ITS FALSE NEIGHBOUR: 'it returns false'. Refute it at one input. -/
def clockApartWrong : ChangeSpec := { name := "clockApart", fn := fun _ => fun
  | [d1, d2] => { results := [.lit (.bool false)], args := [d1, d2] }
  | _ => none }
def ClockApartWrongFalsely : Prop := clockApartRow.holds Try.pinned (OpenSpec.ofChange clockApartWrong)

/-- 'sluicegatelaw15.ClockOn': WHATEVER THE INPUT: true; the input reads as it did. -/
def clockOnSpec : ChangeSpec := { name := "clockOn", fn := fun _ => fun
  | [d1, d2] => { results := [.lit (.bool true)], args := [d1, d2] }
  | _ => none }
def clockOnRow : OpenClaim := { program := "ytplhgpeeekjfcaa", sum := "9b7266f9e5dafd16a13e35a48ad29a49c1a291bd736dc628b793fd5f2881073d", func := "sluicegate/sluicegatelaw15.ClockOn", spec := "clockOn", apart := false }
def ClockOnSaid : Prop := clockOnRow.holds Try.pinned (OpenSpec.ofChange clockOnSpec)

/-- ITS FALSE NEIGHBOUR: 'it returns false'. Refute it at one input. -/
def clockOnWrong : ChangeSpec := { name := "clockOn", fn := fun _ => fun
  | [d1, d2] => { results := [.lit (.bool false)], args := [d1, d2] }
  | _ => none }
def ClockOnWrongFalsely : Prop := clockOnRow.holds Try.pinned (OpenSpec.ofChange clockOnWrong)

/-- 'sluicegatelaw15.ClockShift': WHATEVER THE INPUT: true; the input reads as it did. -/
def clockShiftSpec : ChangeSpec := { name := "clockShift", fn := fun _ => fun
  | [d1, d2, d3, d4] => { results := [.lit (.bool true)], args := [d1, d2, d3, d4] }
  | _ => none }
def clockShiftRow : OpenClaim := { program := "ytplhgpeeekjfcaa", sum := "9b7266f9e5dafd16a13e35a48ad29a49c1a291bd736dc628b793fd5f2881073d", func := "sluicegate/sluicegatelaw15.ClockShift", spec := "clockShift", apart := false }
def ClockShiftSaid : Prop := clockShiftRow.holds Try.pinned (OpenSpec.ofChange clockShiftSpec)

/-- ITS FALSE NEIGHBOUR: 'it returns false'. Refute it at one input. -/
def clockShiftWrong : ChangeSpec := { name := "clockShift", fn := fun _ => fun
  | [d1, d2, d3, d4] => { results := [.lit (.bool false)], args := [d1, d2, d3, d4] }
  | _ => none }
def ClockShiftWrongFalsely : Prop := clockShiftRow.holds Try.pinned (OpenSpec.ofChange clockShiftWrong)

/-- 'sluicegatelaw14.CourseAll': WHATEVER THE INPUT: true; the input reads as it did. -/
def courseAllSpec : ChangeSpec := { name := "courseAll", fn := fun _ => fun
  | [d1, d2] => { results := [.lit (.bool true)], args := [d1, d2] }
  | _ => none }
def courseAllRow : OpenClaim := { program := "ytplhgpeeekjfcaa", sum := "9b7266f9e5dafd16a13e35a48ad29a49c1a291bd736dc628b793fd5f2881073d", func := "sluicegate/sluicegatelaw14.CourseAll", spec := "courseAll", apart := false }
def CourseAllSaid : Prop := courseAllRow.holds Try.pinned (OpenSpec.ofChange courseAllSpec)

/-- ITS FALSE NEIGHBOUR: 'it returns false'. Refute it at one input. -/
def courseAllWrong : ChangeSpec := { name := "courseAll", fn := fun _ => fun
  | [d1, d2] => { results := [.lit (.bool false)], args := [d1, d2] }
  | _ => none }
def CourseAllWrongFalsely : Prop := courseAllRow.holds Try.pinned (OpenSpec.ofChange courseAllWrong)

/-- 'sluicegatelaw14.CourseGap': WHATEVER THE INPUT: true; the input reads as it did. -/
def courseGapSpec : ChangeSpec := { name := "courseGap", fn := fun _ => fun
  | [d1, d2, d3] => { results := [.lit (.bool true)], args := [d1, d2, d3] }
  | _ => none }
def courseGapRow : OpenClaim := { program := "ytplhgpeeekjfcaa", sum := "9b7266f9e5dafd16a13e35a48ad29a49c1a291bd736dc628b793fd5f2881073d", func := "sluicegate/sluicegatelaw14.CourseGap", spec := "courseGap", apart := false }
def CourseGapSaid : Prop := courseGapRow.holds Try.pinned (OpenSpec.ofChange courseGapSpec)

/-- ITS FALSE NEIGHBOUR: 'it returns false'. Refute it at one input. -/
def courseGapWrong : ChangeSpec := { name := "courseGap", fn := fun _ => fun
  | [d1, d2, d3] => { results := [.lit (.bool false)], args := [d1, d2, d3] }
  | _ => none }
def CourseGapWrongFalsely : Prop := courseGapRow.holds Try.pinned (OpenSpec.ofChange courseGapWrong)

/-- 'sluicegatelaw14.CourseRow': WHATEVER THE INPUT: true; the input reads as it did. -/
def courseRowSpec : ChangeSpec := { name := "courseRow", fn := fun _ => fun
  | [d1, d2, d3] => { results := [.lit (.bool true)], args := [d1, d2, d3] }
  | _ => none }
def courseRowRow : OpenClaim := { program := "ytplhgpeeekjfcaa", sum := "9b7266f9e5dafd16a13e35a48ad29a49c1a291bd736dc628b793fd5f2881073d", func := "sluicegate/sluicegatelaw14.CourseRow", spec := "courseRow", apart := false }
def CourseRowSaid : Prop := courseRowRow.holds Try.pinned (OpenSpec.ofChange courseRowSpec)

/-- ITS FALSE NEIGHBOUR: 'it returns false'. Refute it at one input. -/
def courseRowWrong : ChangeSpec := { name := "courseRow", fn := fun _ => fun
  | [d1, d2, d3] => { results := [.lit (.bool false)], args := [d1, d2, d3] }
  | _ => none }
def CourseRowWrongFalsely : Prop := courseRowRow.holds Try.pinned (OpenSpec.ofChange courseRowWrong)

/-- 'sluicegatelaw14.CourseShift': WHATEVER THE INPUT: true; the input reads as it did. -/
def courseShiftSpec : ChangeSpec := { name := "courseShift", fn := fun _ => fun
  | [d1, d2, d3] => { results := [.lit (.bool true)], args := [d1, d2, d3] }
  | _ => none }
def courseShiftRow : OpenClaim := { program := "ytplhgpeeekjfcaa", sum := "9b7266f9e5dafd16a13e35a48ad29a49c1a291bd736dc628b793fd5f2881073d", func := "sluicegate/sluicegatelaw14.CourseShift", spec := "courseShift", apart := false }
def CourseShiftSaid : Prop := courseShiftRow.holds Try.pinned (OpenSpec.ofChange courseShiftSpec)

/-- ITS FALSE NEIGHBOUR: 'it returns false'. Refute it at one input. -/
def courseShiftWrong : ChangeSpec := { name := "courseShift", fn := fun _ => fun
  | [d1, d2, d3] => { results := [.lit (.bool false)], args := [d1, d2, d3] }
  | _ => none }
def CourseShiftWrongFalsely : Prop := courseShiftRow.holds Try.pinned (OpenSpec.ofChange courseShiftWrong)

/-- 'sluicegatelaw16.GateAll': WHATEVER THE INPUT: true; the input reads as it did. -/
def gateAllSpec : ChangeSpec := { name := "gateAll", fn := fun _ => fun
  | [d1, d2, d3] => { results := [.lit (.bool true)], args := [d1, d2, d3] }
  | _ => none }
def gateAllRow : OpenClaim := { program := "ytplhgpeeekjfcaa", sum := "9b7266f9e5dafd16a13e35a48ad29a49c1a291bd736dc628b793fd5f2881073d", func := "sluicegate/sluicegatelaw16.GateAll", spec := "gateAll", apart := false }
def GateAllSaid : Prop := gateAllRow.holds Try.pinned (OpenSpec.ofChange gateAllSpec)

/-- ITS FALSE NEIGHBOUR: 'it returns false'. Refute it at one input. -/
def gateAllWrong : ChangeSpec := { name := "gateAll", fn := fun _ => fun
  | [d1, d2, d3] => { results := [.lit (.bool false)], args := [d1, d2, d3] }
  | _ => none }
def GateAllWrongFalsely : Prop := gateAllRow.holds Try.pinned (OpenSpec.ofChange gateAllWrong)

/-- 'sluicegatelaw16.GateKeys': WHATEVER THE INPUT: true; the input reads as it did. -/
def gateKeysSpec : ChangeSpec := { name := "gateKeys", fn := fun _ => fun
  | [d1, d2] => { results := [.lit (.bool true)], args := [d1, d2] }
  | _ => none }
def gateKeysRow : OpenClaim := { program := "ytplhgpeeekjfcaa", sum := "9b7266f9e5dafd16a13e35a48ad29a49c1a291bd736dc628b793fd5f2881073d", func := "sluicegate/sluicegatelaw16.GateKeys", spec := "gateKeys", apart := false }
def GateKeysSaid : Prop := gateKeysRow.holds Try.pinned (OpenSpec.ofChange gateKeysSpec)

/-- ITS FALSE NEIGHBOUR: 'it returns false'. Refute it at one input. -/
def gateKeysWrong : ChangeSpec := { name := "gateKeys", fn := fun _ => fun
  | [d1, d2] => { results := [.lit (.bool false)], args := [d1, d2] }
  | _ => none }
def GateKeysWrongFalsely : Prop := gateKeysRow.holds Try.pinned (OpenSpec.ofChange gateKeysWrong)

/-- 'sluicegatelaw16.GateQuiet': WHATEVER THE INPUT: true; the input reads as it did. -/
def gateQuietSpec : ChangeSpec := { name := "gateQuiet", fn := fun _ => fun
  | [d1, d2, d3, d4] => { results := [.lit (.bool true)], args := [d1, d2, d3, d4] }
  | _ => none }
def gateQuietRow : OpenClaim := { program := "ytplhgpeeekjfcaa", sum := "9b7266f9e5dafd16a13e35a48ad29a49c1a291bd736dc628b793fd5f2881073d", func := "sluicegate/sluicegatelaw16.GateQuiet", spec := "gateQuiet", apart := false }
def GateQuietSaid : Prop := gateQuietRow.holds Try.pinned (OpenSpec.ofChange gateQuietSpec)

/-- ITS FALSE NEIGHBOUR: 'it returns false'. Refute it at one input. -/
def gateQuietWrong : ChangeSpec := { name := "gateQuiet", fn := fun _ => fun
  | [d1, d2, d3, d4] => { results := [.lit (.bool false)], args := [d1, d2, d3, d4] }
  | _ => none }
def GateQuietWrongFalsely : Prop := gateQuietRow.holds Try.pinned (OpenSpec.ofChange gateQuietWrong)

/-- 'sluicegatelaw17.StampAll': WHATEVER THE INPUT: true; the input reads as it did. -/
def stampAllSpec : ChangeSpec := { name := "stampAll", fn := fun _ => fun
  | [d1, d2, d3] => { results := [.lit (.bool true)], args := [d1, d2, d3] }
  | _ => none }
def stampAllRow : OpenClaim := { program := "ytplhgpeeekjfcaa", sum := "9b7266f9e5dafd16a13e35a48ad29a49c1a291bd736dc628b793fd5f2881073d", func := "sluicegate/sluicegatelaw17.StampAll", spec := "stampAll", apart := false }
def StampAllSaid : Prop := stampAllRow.holds Try.pinned (OpenSpec.ofChange stampAllSpec)

/-- ITS FALSE NEIGHBOUR: 'it returns false'. Refute it at one input. -/
def stampAllWrong : ChangeSpec := { name := "stampAll", fn := fun _ => fun
  | [d1, d2, d3] => { results := [.lit (.bool false)], args := [d1, d2, d3] }
  | _ => none }
def StampAllWrongFalsely : Prop := stampAllRow.holds Try.pinned (OpenSpec.ofChange stampAllWrong)

/-- 'sluicegatelaw17.StampReport': WHATEVER THE INPUT: true; the input reads as it did. -/
def stampReportSpec : ChangeSpec := { name := "stampReport", fn := fun _ => fun
  | [d1, d2, d3, d4, d5] => { results := [.lit (.bool true)], args := [d1, d2, d3, d4, d5] }
  | _ => none }
def stampReportRow : OpenClaim := { program := "ytplhgpeeekjfcaa", sum := "9b7266f9e5dafd16a13e35a48ad29a49c1a291bd736dc628b793fd5f2881073d", func := "sluicegate/sluicegatelaw17.StampReport", spec := "stampReport", apart := false }
def StampReportSaid : Prop := stampReportRow.holds Try.pinned (OpenSpec.ofChange stampReportSpec)

/-- ITS FALSE NEIGHBOUR: 'it returns false'. Refute it at one input. -/
def stampReportWrong : ChangeSpec := { name := "stampReport", fn := fun _ => fun
  | [d1, d2, d3, d4, d5] => { results := [.lit (.bool false)], args := [d1, d2, d3, d4, d5] }
  | _ => none }
def StampReportWrongFalsely : Prop := stampReportRow.holds Try.pinned (OpenSpec.ofChange stampReportWrong)

/-- 'sluicegatelaw17.StampWhose': WHATEVER THE INPUT: true; the input reads as it did. -/
def stampWhoseSpec : ChangeSpec := { name := "stampWhose", fn := fun _ => fun
  | [d1, d2, d3] => { results := [.lit (.bool true)], args := [d1, d2, d3] }
  | _ => none }
def stampWhoseRow : OpenClaim := { program := "ytplhgpeeekjfcaa", sum := "9b7266f9e5dafd16a13e35a48ad29a49c1a291bd736dc628b793fd5f2881073d", func := "sluicegate/sluicegatelaw17.StampWhose", spec := "stampWhose", apart := false }
def StampWhoseSaid : Prop := stampWhoseRow.holds Try.pinned (OpenSpec.ofChange stampWhoseSpec)

/-- ITS FALSE NEIGHBOUR: 'it returns false'. Refute it at one input. -/
def stampWhoseWrong : ChangeSpec := { name := "stampWhose", fn := fun _ => fun
  | [d1, d2, d3] => { results := [.lit (.bool false)], args := [d1, d2, d3] }
  | _ => none }
def StampWhoseWrongFalsely : Prop := stampWhoseRow.holds Try.pinned (OpenSpec.ofChange stampWhoseWrong)

/-- 'sluicegatelaw17.StampLate': WHATEVER THE INPUT: true; the input reads as it did. -/
def stampLateSpec : ChangeSpec := { name := "stampLate", fn := fun _ => fun
  | [d1, d2, d3, d4] => { results := [.lit (.bool true)], args := [d1, d2, d3, d4] }
  | _ => none }
def stampLateRow : OpenClaim := { program := "ytplhgpeeekjfcaa", sum := "9b7266f9e5dafd16a13e35a48ad29a49c1a291bd736dc628b793fd5f2881073d", func := "sluicegate/sluicegatelaw17.StampLate", spec := "stampLate", apart := false }
def StampLateSaid : Prop := stampLateRow.holds Try.pinned (OpenSpec.ofChange stampLateSpec)

/-- ITS FALSE NEIGHBOUR: 'it returns false'. Refute it at one input. -/
def stampLateWrong : ChangeSpec := { name := "stampLate", fn := fun _ => fun
  | [d1, d2, d3, d4] => { results := [.lit (.bool false)], args := [d1, d2, d3, d4] }
  | _ => none }
def StampLateWrongFalsely : Prop := stampLateRow.holds Try.pinned (OpenSpec.ofChange stampLateWrong)

/-- 'sluicegatelaw17.StampRow': WHATEVER THE INPUT: true; the input reads as it did. -/
def stampRowSpec : ChangeSpec := { name := "stampRow", fn := fun _ => fun
  | [d1, d2, d3, d4] => { results := [.lit (.bool true)], args := [d1, d2, d3, d4] }
  | _ => none }
def stampRowRow : OpenClaim := { program := "ytplhgpeeekjfcaa", sum := "9b7266f9e5dafd16a13e35a48ad29a49c1a291bd736dc628b793fd5f2881073d", func := "sluicegate/sluicegatelaw17.StampRow", spec := "stampRow", apart := false }
def StampRowSaid : Prop := stampRowRow.holds Try.pinned (OpenSpec.ofChange stampRowSpec)

/-- ITS FALSE NEIGHBOUR: 'it returns false'. Refute it at one input. -/
def stampRowWrong : ChangeSpec := { name := "stampRow", fn := fun _ => fun
  | [d1, d2, d3, d4] => { results := [.lit (.bool false)], args := [d1, d2, d3, d4] }
  | _ => none }
def StampRowWrongFalsely : Prop := stampRowRow.holds Try.pinned (OpenSpec.ofChange stampRowWrong)

/- THE SECOND FORM. 'bulk': how many values and letters a reading holds, each counted each time it is reached (what is shared counts as often as it is met; a slice's spare places count too). A statement '..UptoSaid' is the law's where the arguments, and the package variables that the reading takes, are together of bulk at most 1048576: NARROWER than '..Said'. Prove '..Said' where nothing that the law and all that it calls make is longer than what came in: it says more and counts as full. Else prove '..UptoSaid'. A law counts once. -/
mutual
def uptoBulk {H : Type} : DataW H → Nat
  | .lit (.string bytes) => bytes.length + 1
  | .lit _ => 1
  | .nil => 1
  | .ptr d => uptoBulk d + 1
  | .slice elems spare => uptoBulkAll elems + uptoBulkAll spare + 1
  | .agg parts => uptoBulkAll parts + 1
  | .iface _ d => uptoBulk d + 1
  | .map entries => uptoBulkEntries entries + 1
  | .held _ => 1
def uptoBulkAll {H : Type} : List (DataW H) → Nat
  | [] => 0
  | d :: r => uptoBulk d + uptoBulkAll r
def uptoBulkEntries {H : Type} : List (Lit × DataW H) → Nat
  | [] => 0
  | x :: r => uptoBulkEntry x + uptoBulkEntries r
def uptoBulkEntry {H : Type} : Lit × DataW H → Nat
  | (.string bytes, d) => bytes.length + uptoBulk d + 1
  | (_, d) => uptoBulk d + 1
 end
def uptoSmall : (H : Type) → List (DataW H) → Bool := fun _ ds => decide (uptoBulkAll ds ≤ 1048576)
def OpenSpec.upto (s : _root_.Go.ChangeSpec) : _root_.Go.OpenSpec := { _root_.Go.OpenSpec.ofChange s with cond := some uptoSmall }

/-- 'sluicegatelaw15.ClockAll', WHERE WHAT IT READS IS OF BULK AT MOST 1048576: true; the input reads as it did. -/
def clockAllUptoRow : OpenClaim := { program := "ytplhgpeeekjfcaa", sum := "9b7266f9e5dafd16a13e35a48ad29a49c1a291bd736dc628b793fd5f2881073d", func := "sluicegate/sluicegatelaw15.ClockAll", spec := "clockAll", apart := false, narrowed := true }
def ClockAllUptoSaid : Prop := clockAllUptoRow.holds Try.pinned (OpenSpec.upto clockAllSpec)

/-- 'sluicegatelaw15.ClockApart', WHERE WHAT IT READS IS OF BULK AT MOST 1048576: true; the input reads as it did. -/
def clockApartUptoRow : OpenClaim := { program := "ytplhgpeeekjfcaa", sum := "9b7266f9e5dafd16a13e35a48ad29a49c1a291bd736dc628b793fd5f2881073d", func := "sluicegate/sluicegatelaw15.ClockApart", spec := "clockApart", apart := false, narrowed := true }
def ClockApartUptoSaid : Prop := clockApartUptoRow.holds Try.pinned (OpenSpec.upto clockApartSpec)

/-- 'sluicegatelaw15.ClockOn', WHERE WHAT IT READS IS OF BULK AT MOST 1048576: true; the input reads as it did. -/
def clockOnUptoRow : OpenClaim := { program := "ytplhgpeeekjfcaa", sum := "9b7266f9e5dafd16a13e35a48ad29a49c1a291bd736dc628b793fd5f2881073d", func := "sluicegate/sluicegatelaw15.ClockOn", spec := "clockOn", apart := false, narrowed := true }
def ClockOnUptoSaid : Prop := clockOnUptoRow.holds Try.pinned (OpenSpec.upto clockOnSpec)

/-- 'sluicegatelaw15.ClockShift', WHERE WHAT IT READS IS OF BULK AT MOST 1048576: true; the input reads as it did. -/
def clockShiftUptoRow : OpenClaim := { program := "ytplhgpeeekjfcaa", sum := "9b7266f9e5dafd16a13e35a48ad29a49c1a291bd736dc628b793fd5f2881073d", func := "sluicegate/sluicegatelaw15.ClockShift", spec := "clockShift", apart := false, narrowed := true }
def ClockShiftUptoSaid : Prop := clockShiftUptoRow.holds Try.pinned (OpenSpec.upto clockShiftSpec)

/-- 'sluicegatelaw14.CourseAll', WHERE WHAT IT READS IS OF BULK AT MOST 1048576: true; the input reads as it did. -/
def courseAllUptoRow : OpenClaim := { program := "ytplhgpeeekjfcaa", sum := "9b7266f9e5dafd16a13e35a48ad29a49c1a291bd736dc628b793fd5f2881073d", func := "sluicegate/sluicegatelaw14.CourseAll", spec := "courseAll", apart := false, narrowed := true }
def CourseAllUptoSaid : Prop := courseAllUptoRow.holds Try.pinned (OpenSpec.upto courseAllSpec)

/-- 'sluicegatelaw14.CourseGap', WHERE WHAT IT READS IS OF BULK AT MOST 1048576: true; the input reads as it did. -/
def courseGapUptoRow : OpenClaim := { program := "ytplhgpeeekjfcaa", sum := "9b7266f9e5dafd16a13e35a48ad29a49c1a291bd736dc628b793fd5f2881073d", func := "sluicegate/sluicegatelaw14.CourseGap", spec := "courseGap", apart := false, narrowed := true }
def CourseGapUptoSaid : Prop := courseGapUptoRow.holds Try.pinned (OpenSpec.upto courseGapSpec)

/-- 'sluicegatelaw14.CourseRow', WHERE WHAT IT READS IS OF BULK AT MOST 1048576: true; the input reads as it did. -/
def courseRowUptoRow : OpenClaim := { program := "ytplhgpeeekjfcaa", sum := "9b7266f9e5dafd16a13e35a48ad29a49c1a291bd736dc628b793fd5f2881073d", func := "sluicegate/sluicegatelaw14.CourseRow", spec := "courseRow", apart := false, narrowed := true }
def CourseRowUptoSaid : Prop := courseRowUptoRow.holds Try.pinned (OpenSpec.upto courseRowSpec)

/-- 'sluicegatelaw14.CourseShift', WHERE WHAT IT READS IS OF BULK AT MOST 1048576: true; the input reads as it did. -/
def courseShiftUptoRow : OpenClaim := { program := "ytplhgpeeekjfcaa", sum := "9b7266f9e5dafd16a13e35a48ad29a49c1a291bd736dc628b793fd5f2881073d", func := "sluicegate/sluicegatelaw14.CourseShift", spec := "courseShift", apart := false, narrowed := true }
def CourseShiftUptoSaid : Prop := courseShiftUptoRow.holds Try.pinned (OpenSpec.upto courseShiftSpec)

/-- 'sluicegatelaw16.GateAll', WHERE WHAT IT READS IS OF BULK AT MOST 1048576: true; the input reads as it did. -/
def gateAllUptoRow : OpenClaim := { program := "ytplhgpeeekjfcaa", sum := "9b7266f9e5dafd16a13e35a48ad29a49c1a291bd736dc628b793fd5f2881073d", func := "sluicegate/sluicegatelaw16.GateAll", spec := "gateAll", apart := false, narrowed := true }
def GateAllUptoSaid : Prop := gateAllUptoRow.holds Try.pinned (OpenSpec.upto gateAllSpec)

/-- 'sluicegatelaw16.GateKeys', WHERE WHAT IT READS IS OF BULK AT MOST 1048576: true; the input reads as it did. -/
def gateKeysUptoRow : OpenClaim := { program := "ytplhgpeeekjfcaa", sum := "9b7266f9e5dafd16a13e35a48ad29a49c1a291bd736dc628b793fd5f2881073d", func := "sluicegate/sluicegatelaw16.GateKeys", spec := "gateKeys", apart := false, narrowed := true }
def GateKeysUptoSaid : Prop := gateKeysUptoRow.holds Try.pinned (OpenSpec.upto gateKeysSpec)

/-- 'sluicegatelaw16.GateQuiet', WHERE WHAT IT READS IS OF BULK AT MOST 1048576: true; the input reads as it did. -/
def gateQuietUptoRow : OpenClaim := { program := "ytplhgpeeekjfcaa", sum := "9b7266f9e5dafd16a13e35a48ad29a49c1a291bd736dc628b793fd5f2881073d", func := "sluicegate/sluicegatelaw16.GateQuiet", spec := "gateQuiet", apart := false, narrowed := true }
def GateQuietUptoSaid : Prop := gateQuietUptoRow.holds Try.pinned (OpenSpec.upto gateQuietSpec)

/-- 'sluicegatelaw17.StampAll', WHERE WHAT IT READS IS OF BULK AT MOST 1048576: true; the input reads as it did. -/
def stampAllUptoRow : OpenClaim := { program := "ytplhgpeeekjfcaa", sum := "9b7266f9e5dafd16a13e35a48ad29a49c1a291bd736dc628b793fd5f2881073d", func := "sluicegate/sluicegatelaw17.StampAll", spec := "stampAll", apart := false, narrowed := true }
def StampAllUptoSaid : Prop := stampAllUptoRow.holds Try.pinned (OpenSpec.upto stampAllSpec)

/-- 'sluicegatelaw17.StampReport', WHERE WHAT IT READS IS OF BULK AT MOST 1048576: true; the input reads as it did. -/
def stampReportUptoRow : OpenClaim := { program := "ytplhgpeeekjfcaa", sum := "9b7266f9e5dafd16a13e35a48ad29a49c1a291bd736dc628b793fd5f2881073d", func := "sluicegate/sluicegatelaw17.StampReport", spec := "stampReport", apart := false, narrowed := true }
def StampReportUptoSaid : Prop := stampReportUptoRow.holds Try.pinned (OpenSpec.upto stampReportSpec)

/-- 'sluicegatelaw17.StampWhose', WHERE WHAT IT READS IS OF BULK AT MOST 1048576: true; the input reads as it did. -/
def stampWhoseUptoRow : OpenClaim := { program := "ytplhgpeeekjfcaa", sum := "9b7266f9e5dafd16a13e35a48ad29a49c1a291bd736dc628b793fd5f2881073d", func := "sluicegate/sluicegatelaw17.StampWhose", spec := "stampWhose", apart := false, narrowed := true }
def StampWhoseUptoSaid : Prop := stampWhoseUptoRow.holds Try.pinned (OpenSpec.upto stampWhoseSpec)

/-- 'sluicegatelaw17.StampLate', WHERE WHAT IT READS IS OF BULK AT MOST 1048576: true; the input reads as it did. -/
def stampLateUptoRow : OpenClaim := { program := "ytplhgpeeekjfcaa", sum := "9b7266f9e5dafd16a13e35a48ad29a49c1a291bd736dc628b793fd5f2881073d", func := "sluicegate/sluicegatelaw17.StampLate", spec := "stampLate", apart := false, narrowed := true }
def StampLateUptoSaid : Prop := stampLateUptoRow.holds Try.pinned (OpenSpec.upto stampLateSpec)

/-- 'sluicegatelaw17.StampRow', WHERE WHAT IT READS IS OF BULK AT MOST 1048576: true; the input reads as it did. -/
def stampRowUptoRow : OpenClaim := { program := "ytplhgpeeekjfcaa", sum := "9b7266f9e5dafd16a13e35a48ad29a49c1a291bd736dc628b793fd5f2881073d", func := "sluicegate/sluicegatelaw17.StampRow", spec := "stampRow", apart := false, narrowed := true }
def StampRowUptoSaid : Prop := stampRowUptoRow.holds Try.pinned (OpenSpec.upto stampRowSpec)

end Rows
end Go.Proofs.Ytplhgpeeekjfcaa
