/-
  No cell of these rows narrows 'for every input' (looked for: loops, veiled, ifaces, maps, wideKeys, modest, calm, conditions, laid).
  DERIVED. THE GIVEN ROWS OF THIS SEAT. 15 by the template 'for every input the law returns true; each argument reads behind the call as it read before'; 0 by the template 'total and deterministic' (their statements: YtoefekojjagjdaaTotals.lean).
  GIVEN WITH THE SEED: the statements are not yours to turn. If you find one false, say at which input.
  Laid BY PROGRAM, IN A SANDBOX (cutbox-rows.mjs): the forced cells as the released guide's own fill.sh prints them over the translation a5ad0ecd2099b66d… (all of the seat's roots in one cut). By AI agents, Wed Nov 11 2026. No macro, syntax, notation, axiom, sorry.
-/
import Derived.Test.YtoefekojjagjdaaChecked
import GoSem.Claim
import GoSem.ClaimJoined
import GoSem.ClaimMapViews
import Derived.JoinedTies
import Derived.KernelRfl
namespace Go.Proofs.Ytoefekojjagjdaa
/- THE CELL 'sum', in the pinned program and in every row, IS THE sha256 OF THE DUMP (.gsa) THAT YtoefekojjagjdaaProg.lean LOADS. Nothing in Lean hashes anything: it is a label: what it is worth is what the hold of that sum in a sandbox is worth. -/
noncomputable def Try.pinned : Pinned := { name := "ytoefekojjagjdaa", sum := "a5ad0ecd2099b66df89e4de26a6aa8854827c5a563241d91bcfeb9eb02920663", checked := Try.checked }
namespace Rows
def none {H : Type} : Left H := { results := [], args := [] }

/-- 'sluicegatelaw2.SerialAll': WHATEVER THE INPUT: true; the input reads as it did. -/
def serialAllSpec : ChangeSpec := { name := "serialAll", fn := fun _ => fun
  | [d1, d2, d3, d4, d5] => { results := [.lit (.bool true)], args := [d1, d2, d3, d4, d5] }
  | _ => none }
def serialAllRow : OpenClaim := { program := "ytoefekojjagjdaa", sum := "a5ad0ecd2099b66df89e4de26a6aa8854827c5a563241d91bcfeb9eb02920663", func := "sluicegate/sluicegatelaw2.SerialAll", spec := "serialAll", apart := false }
def SerialAllSaid : Prop := serialAllRow.holds Try.pinned (OpenSpec.ofChange serialAllSpec)

/-- ITS FALSE NEIGHBOUR: 'it returns false'. Refute it at one input. -/
def serialAllWrong : ChangeSpec := { name := "serialAll", fn := fun _ => fun
  | [d1, d2, d3, d4, d5] => { results := [.lit (.bool false)], args := [d1, d2, d3, d4, d5] }
  | _ => none }
def SerialAllWrongFalsely : Prop := serialAllRow.holds Try.pinned (OpenSpec.ofChange serialAllWrong)

/-- 'sluicegatelaw2.SerialTurn': WHATEVER THE INPUT: true; the input reads as it did. -/
def serialTurnSpec : ChangeSpec := { name := "serialTurn", fn := fun _ => fun
  | [d1, d2, d3, d4] => { results := [.lit (.bool true)], args := [d1, d2, d3, d4] }
  | _ => none }
def serialTurnRow : OpenClaim := { program := "ytoefekojjagjdaa", sum := "a5ad0ecd2099b66df89e4de26a6aa8854827c5a563241d91bcfeb9eb02920663", func := "sluicegate/sluicegatelaw2.SerialTurn", spec := "serialTurn", apart := false }
def SerialTurnSaid : Prop := serialTurnRow.holds Try.pinned (OpenSpec.ofChange serialTurnSpec)

/-- ITS FALSE NEIGHBOUR: 'it returns false'. Refute it at one input. -/
def serialTurnWrong : ChangeSpec := { name := "serialTurn", fn := fun _ => fun
  | [d1, d2, d3, d4] => { results := [.lit (.bool false)], args := [d1, d2, d3, d4] }
  | _ => none }
def SerialTurnWrongFalsely : Prop := serialTurnRow.holds Try.pinned (OpenSpec.ofChange serialTurnWrong)

/-- 'sluicegatelaw2.SerialShift': WHATEVER THE INPUT: true; the input reads as it did. -/
def serialShiftSpec : ChangeSpec := { name := "serialShift", fn := fun _ => fun
  | [d1, d2, d3, d4, d5, d6] => { results := [.lit (.bool true)], args := [d1, d2, d3, d4, d5, d6] }
  | _ => none }
def serialShiftRow : OpenClaim := { program := "ytoefekojjagjdaa", sum := "a5ad0ecd2099b66df89e4de26a6aa8854827c5a563241d91bcfeb9eb02920663", func := "sluicegate/sluicegatelaw2.SerialShift", spec := "serialShift", apart := false }
def SerialShiftSaid : Prop := serialShiftRow.holds Try.pinned (OpenSpec.ofChange serialShiftSpec)

/-- ITS FALSE NEIGHBOUR: 'it returns false'. Refute it at one input. -/
def serialShiftWrong : ChangeSpec := { name := "serialShift", fn := fun _ => fun
  | [d1, d2, d3, d4, d5, d6] => { results := [.lit (.bool false)], args := [d1, d2, d3, d4, d5, d6] }
  | _ => none }
def SerialShiftWrongFalsely : Prop := serialShiftRow.holds Try.pinned (OpenSpec.ofChange serialShiftWrong)

/-- 'sluicegatelaw2.SerialOne': WHATEVER THE INPUT: true; the input reads as it did. -/
def serialOneSpec : ChangeSpec := { name := "serialOne", fn := fun _ => fun
  | [d1, d2, d3, d4] => { results := [.lit (.bool true)], args := [d1, d2, d3, d4] }
  | _ => none }
def serialOneRow : OpenClaim := { program := "ytoefekojjagjdaa", sum := "a5ad0ecd2099b66df89e4de26a6aa8854827c5a563241d91bcfeb9eb02920663", func := "sluicegate/sluicegatelaw2.SerialOne", spec := "serialOne", apart := false }
def SerialOneSaid : Prop := serialOneRow.holds Try.pinned (OpenSpec.ofChange serialOneSpec)

/-- ITS FALSE NEIGHBOUR: 'it returns false'. Refute it at one input. -/
def serialOneWrong : ChangeSpec := { name := "serialOne", fn := fun _ => fun
  | [d1, d2, d3, d4] => { results := [.lit (.bool false)], args := [d1, d2, d3, d4] }
  | _ => none }
def SerialOneWrongFalsely : Prop := serialOneRow.holds Try.pinned (OpenSpec.ofChange serialOneWrong)

/-- 'sluicegatelaw2.SerialNear': WHATEVER THE INPUT: true; the input reads as it did. -/
def serialNearSpec : ChangeSpec := { name := "serialNear", fn := fun _ => fun
  | [d1, d2] => { results := [.lit (.bool true)], args := [d1, d2] }
  | _ => none }
def serialNearRow : OpenClaim := { program := "ytoefekojjagjdaa", sum := "a5ad0ecd2099b66df89e4de26a6aa8854827c5a563241d91bcfeb9eb02920663", func := "sluicegate/sluicegatelaw2.SerialNear", spec := "serialNear", apart := false }
def SerialNearSaid : Prop := serialNearRow.holds Try.pinned (OpenSpec.ofChange serialNearSpec)

/-- ITS FALSE NEIGHBOUR: 'it returns false'. Refute it at one input. -/
def serialNearWrong : ChangeSpec := { name := "serialNear", fn := fun _ => fun
  | [d1, d2] => { results := [.lit (.bool false)], args := [d1, d2] }
  | _ => none }
def SerialNearWrongFalsely : Prop := serialNearRow.holds Try.pinned (OpenSpec.ofChange serialNearWrong)

/-- 'sluicegatelaw2.SerialLow': WHATEVER THE INPUT: true; the input reads as it did. -/
def serialLowSpec : ChangeSpec := { name := "serialLow", fn := fun _ => fun
  | [d1, d2] => { results := [.lit (.bool true)], args := [d1, d2] }
  | _ => none }
def serialLowRow : OpenClaim := { program := "ytoefekojjagjdaa", sum := "a5ad0ecd2099b66df89e4de26a6aa8854827c5a563241d91bcfeb9eb02920663", func := "sluicegate/sluicegatelaw2.SerialLow", spec := "serialLow", apart := false }
def SerialLowSaid : Prop := serialLowRow.holds Try.pinned (OpenSpec.ofChange serialLowSpec)

/-- ITS FALSE NEIGHBOUR: 'it returns false'. Refute it at one input. -/
def serialLowWrong : ChangeSpec := { name := "serialLow", fn := fun _ => fun
  | [d1, d2] => { results := [.lit (.bool false)], args := [d1, d2] }
  | _ => none }
def SerialLowWrongFalsely : Prop := serialLowRow.holds Try.pinned (OpenSpec.ofChange serialLowWrong)

/-- 'sluicegatelaw8.NackTurn': WHATEVER THE INPUT: true; the input reads as it did. -/
def nackTurnSpec : ChangeSpec := { name := "nackTurn", fn := fun _ => fun
  | [d] => { results := [.lit (.bool true)], args := [d] }
  | _ => none }
def nackTurnRow : OpenClaim := { program := "ytoefekojjagjdaa", sum := "a5ad0ecd2099b66df89e4de26a6aa8854827c5a563241d91bcfeb9eb02920663", func := "sluicegate/sluicegatelaw8.NackTurn", spec := "nackTurn", apart := false }
def NackTurnSaid : Prop := nackTurnRow.holds Try.pinned (OpenSpec.ofChange nackTurnSpec)

/-- ITS FALSE NEIGHBOUR: 'it returns false'. Refute it at one input. -/
def nackTurnWrong : ChangeSpec := { name := "nackTurn", fn := fun _ => fun
  | [d] => { results := [.lit (.bool false)], args := [d] }
  | _ => none }
def NackTurnWrongFalsely : Prop := nackTurnRow.holds Try.pinned (OpenSpec.ofChange nackTurnWrong)

/-- 'sluicegatelaw8.NackFew': WHATEVER THE INPUT: true; the input reads as it did. -/
def nackFewSpec : ChangeSpec := { name := "nackFew", fn := fun _ => fun
  | [d] => { results := [.lit (.bool true)], args := [d] }
  | _ => none }
def nackFewRow : OpenClaim := { program := "ytoefekojjagjdaa", sum := "a5ad0ecd2099b66df89e4de26a6aa8854827c5a563241d91bcfeb9eb02920663", func := "sluicegate/sluicegatelaw8.NackFew", spec := "nackFew", apart := false }
def NackFewSaid : Prop := nackFewRow.holds Try.pinned (OpenSpec.ofChange nackFewSpec)

/-- ITS FALSE NEIGHBOUR: 'it returns false'. Refute it at one input. -/
def nackFewWrong : ChangeSpec := { name := "nackFew", fn := fun _ => fun
  | [d] => { results := [.lit (.bool false)], args := [d] }
  | _ => none }
def NackFewWrongFalsely : Prop := nackFewRow.holds Try.pinned (OpenSpec.ofChange nackFewWrong)

/-- 'sluicegatelaw8.NackShift': WHATEVER THE INPUT: true; the input reads as it did. -/
def nackShiftSpec : ChangeSpec := { name := "nackShift", fn := fun _ => fun
  | [d1, d2] => { results := [.lit (.bool true)], args := [d1, d2] }
  | _ => none }
def nackShiftRow : OpenClaim := { program := "ytoefekojjagjdaa", sum := "a5ad0ecd2099b66df89e4de26a6aa8854827c5a563241d91bcfeb9eb02920663", func := "sluicegate/sluicegatelaw8.NackShift", spec := "nackShift", apart := false }
def NackShiftSaid : Prop := nackShiftRow.holds Try.pinned (OpenSpec.ofChange nackShiftSpec)

/-- ITS FALSE NEIGHBOUR: 'it returns false'. Refute it at one input. -/
def nackShiftWrong : ChangeSpec := { name := "nackShift", fn := fun _ => fun
  | [d1, d2] => { results := [.lit (.bool false)], args := [d1, d2] }
  | _ => none }
def NackShiftWrongFalsely : Prop := nackShiftRow.holds Try.pinned (OpenSpec.ofChange nackShiftWrong)

/-- 'sluicegatelaw8.NackJoin': WHATEVER THE INPUT: true; the input reads as it did. -/
def nackJoinSpec : ChangeSpec := { name := "nackJoin", fn := fun _ => fun
  | [d1, d2] => { results := [.lit (.bool true)], args := [d1, d2] }
  | _ => none }
def nackJoinRow : OpenClaim := { program := "ytoefekojjagjdaa", sum := "a5ad0ecd2099b66df89e4de26a6aa8854827c5a563241d91bcfeb9eb02920663", func := "sluicegate/sluicegatelaw8.NackJoin", spec := "nackJoin", apart := false }
def NackJoinSaid : Prop := nackJoinRow.holds Try.pinned (OpenSpec.ofChange nackJoinSpec)

/-- ITS FALSE NEIGHBOUR: 'it returns false'. Refute it at one input. -/
def nackJoinWrong : ChangeSpec := { name := "nackJoin", fn := fun _ => fun
  | [d1, d2] => { results := [.lit (.bool false)], args := [d1, d2] }
  | _ => none }
def NackJoinWrongFalsely : Prop := nackJoinRow.holds Try.pinned (OpenSpec.ofChange nackJoinWrong)

/-- 'sluicegatelaw8.NackAll': WHATEVER THE INPUT: true; the input reads as it did. -/
def nackAllSpec : ChangeSpec := { name := "nackAll", fn := fun _ => fun
  | [d1, d2, d3] => { results := [.lit (.bool true)], args := [d1, d2, d3] }
  | _ => none }
def nackAllRow : OpenClaim := { program := "ytoefekojjagjdaa", sum := "a5ad0ecd2099b66df89e4de26a6aa8854827c5a563241d91bcfeb9eb02920663", func := "sluicegate/sluicegatelaw8.NackAll", spec := "nackAll", apart := false }
def NackAllSaid : Prop := nackAllRow.holds Try.pinned (OpenSpec.ofChange nackAllSpec)

/-- ITS FALSE NEIGHBOUR: 'it returns false'. Refute it at one input. -/
def nackAllWrong : ChangeSpec := { name := "nackAll", fn := fun _ => fun
  | [d1, d2, d3] => { results := [.lit (.bool false)], args := [d1, d2, d3] }
  | _ => none }
def NackAllWrongFalsely : Prop := nackAllRow.holds Try.pinned (OpenSpec.ofChange nackAllWrong)

/-- 'sluicegatelaw19.ResendAll': WHATEVER THE INPUT: true; the input reads as it did. -/
def resendAllSpec : ChangeSpec := { name := "resendAll", fn := fun _ => fun
  | [d1, d2] => { results := [.lit (.bool true)], args := [d1, d2] }
  | _ => none }
def resendAllRow : OpenClaim := { program := "ytoefekojjagjdaa", sum := "a5ad0ecd2099b66df89e4de26a6aa8854827c5a563241d91bcfeb9eb02920663", func := "sluicegate/sluicegatelaw19.ResendAll", spec := "resendAll", unfollowed := true, recurses := true, apart := false }
def ResendAllSaid : Prop := resendAllRow.holds Try.pinned (OpenSpec.ofChange resendAllSpec)

/-- ITS FALSE NEIGHBOUR: 'it returns false'. Refute it at one input. -/
def resendAllWrong : ChangeSpec := { name := "resendAll", fn := fun _ => fun
  | [d1, d2] => { results := [.lit (.bool false)], args := [d1, d2] }
  | _ => none }
def ResendAllWrongFalsely : Prop := resendAllRow.holds Try.pinned (OpenSpec.ofChange resendAllWrong)

/-- 'sluicegatelaw19.ResendOnly': WHATEVER THE INPUT: true; the input reads as it did. -/
def resendOnlySpec : ChangeSpec := { name := "resendOnly", fn := fun _ => fun
  | [d1, d2] => { results := [.lit (.bool true)], args := [d1, d2] }
  | _ => none }
def resendOnlyRow : OpenClaim := { program := "ytoefekojjagjdaa", sum := "a5ad0ecd2099b66df89e4de26a6aa8854827c5a563241d91bcfeb9eb02920663", func := "sluicegate/sluicegatelaw19.ResendOnly", spec := "resendOnly", unfollowed := true, recurses := true, apart := false }
def ResendOnlySaid : Prop := resendOnlyRow.holds Try.pinned (OpenSpec.ofChange resendOnlySpec)

/-- ITS FALSE NEIGHBOUR: 'it returns false'. Refute it at one input. -/
def resendOnlyWrong : ChangeSpec := { name := "resendOnly", fn := fun _ => fun
  | [d1, d2] => { results := [.lit (.bool false)], args := [d1, d2] }
  | _ => none }
def ResendOnlyWrongFalsely : Prop := resendOnlyRow.holds Try.pinned (OpenSpec.ofChange resendOnlyWrong)

/-- 'sluicegatelaw19.ResendGaps': WHATEVER THE INPUT: true; the input reads as it did. -/
def resendGapsSpec : ChangeSpec := { name := "resendGaps", fn := fun _ => fun
  | [d1, d2] => { results := [.lit (.bool true)], args := [d1, d2] }
  | _ => none }
def resendGapsRow : OpenClaim := { program := "ytoefekojjagjdaa", sum := "a5ad0ecd2099b66df89e4de26a6aa8854827c5a563241d91bcfeb9eb02920663", func := "sluicegate/sluicegatelaw19.ResendGaps", spec := "resendGaps", unfollowed := true, recurses := true, apart := false }
def ResendGapsSaid : Prop := resendGapsRow.holds Try.pinned (OpenSpec.ofChange resendGapsSpec)

/-- ITS FALSE NEIGHBOUR: 'it returns false'. Refute it at one input. -/
def resendGapsWrong : ChangeSpec := { name := "resendGaps", fn := fun _ => fun
  | [d1, d2] => { results := [.lit (.bool false)], args := [d1, d2] }
  | _ => none }
def ResendGapsWrongFalsely : Prop := resendGapsRow.holds Try.pinned (OpenSpec.ofChange resendGapsWrong)

/-- 'sluicegatelaw19.ResendAgain': WHATEVER THE INPUT: true; the input reads as it did. -/
def resendAgainSpec : ChangeSpec := { name := "resendAgain", fn := fun _ => fun
  | [d1, d2, d3] => { results := [.lit (.bool true)], args := [d1, d2, d3] }
  | _ => none }
def resendAgainRow : OpenClaim := { program := "ytoefekojjagjdaa", sum := "a5ad0ecd2099b66df89e4de26a6aa8854827c5a563241d91bcfeb9eb02920663", func := "sluicegate/sluicegatelaw19.ResendAgain", spec := "resendAgain", unfollowed := true, recurses := true, apart := false }
def ResendAgainSaid : Prop := resendAgainRow.holds Try.pinned (OpenSpec.ofChange resendAgainSpec)

/-- ITS FALSE NEIGHBOUR: 'it returns false'. Refute it at one input. -/
def resendAgainWrong : ChangeSpec := { name := "resendAgain", fn := fun _ => fun
  | [d1, d2, d3] => { results := [.lit (.bool false)], args := [d1, d2, d3] }
  | _ => none }
def ResendAgainWrongFalsely : Prop := resendAgainRow.holds Try.pinned (OpenSpec.ofChange resendAgainWrong)

/- THE SECOND FORM. 'bulk': how many values and letters a reading holds, each counted each time it is reached (what is shared counts as often as it is met; a slice's spare places count too). A statement '..UptoSaid' is the law's where the arguments, and the package variables that the reading takes, are together of bulk at most 1048576: NARROWER than '..Said'. Prove '..Said' where nothing that the law and all that it calls make is longer than what came in: it says more and counts as full. Else prove '..UptoSaid'. A law counts once. -/
mutual
def uptoBulk {H : Type} : DataW H → Nat
  | .lit (.string bytes) => bytes.length + 1
  | .lit _ => 1
  | .nil => 1
  | .ptr d => uptoBulk d + 1
  | .slice elems spare => uptoBulkAll elems + uptoBulkAll spare + 1
  | .agg parts => uptoBulkAll parts + 1
  | .iface _ d => uptoBulk d + 1
  | .map entries => uptoBulkEntries entries + 1
  | .held _ => 1
def uptoBulkAll {H : Type} : List (DataW H) → Nat
  | [] => 0
  | d :: r => uptoBulk d + uptoBulkAll r
def uptoBulkEntries {H : Type} : List (Lit × DataW H) → Nat
  | [] => 0
  | x :: r => uptoBulkEntry x + uptoBulkEntries r
def uptoBulkEntry {H : Type} : Lit × DataW H → Nat
  | (.string bytes, d) => bytes.length + uptoBulk d + 1
  | (_, d) => uptoBulk d + 1
 end
def uptoSmall : (H : Type) → List (DataW H) → Bool := fun _ ds => decide (uptoBulkAll ds ≤ 1048576)
def OpenSpec.upto (s : _root_.Go.ChangeSpec) : _root_.Go.OpenSpec := { _root_.Go.OpenSpec.ofChange s with cond := some uptoSmall }

/-- 'sluicegatelaw2.SerialAll', WHERE WHAT IT READS IS OF BULK AT MOST 1048576: true; the input reads as it did. -/
def serialAllUptoRow : OpenClaim := { program := "ytoefekojjagjdaa", sum := "a5ad0ecd2099b66df89e4de26a6aa8854827c5a563241d91bcfeb9eb02920663", func := "sluicegate/sluicegatelaw2.SerialAll", spec := "serialAll", apart := false, narrowed := true }
def SerialAllUptoSaid : Prop := serialAllUptoRow.holds Try.pinned (OpenSpec.upto serialAllSpec)

/-- 'sluicegatelaw2.SerialTurn', WHERE WHAT IT READS IS OF BULK AT MOST 1048576: true; the input reads as it did. -/
def serialTurnUptoRow : OpenClaim := { program := "ytoefekojjagjdaa", sum := "a5ad0ecd2099b66df89e4de26a6aa8854827c5a563241d91bcfeb9eb02920663", func := "sluicegate/sluicegatelaw2.SerialTurn", spec := "serialTurn", apart := false, narrowed := true }
def SerialTurnUptoSaid : Prop := serialTurnUptoRow.holds Try.pinned (OpenSpec.upto serialTurnSpec)

/-- 'sluicegatelaw2.SerialShift', WHERE WHAT IT READS IS OF BULK AT MOST 1048576: true; the input reads as it did. -/
def serialShiftUptoRow : OpenClaim := { program := "ytoefekojjagjdaa", sum := "a5ad0ecd2099b66df89e4de26a6aa8854827c5a563241d91bcfeb9eb02920663", func := "sluicegate/sluicegatelaw2.SerialShift", spec := "serialShift", apart := false, narrowed := true }
def SerialShiftUptoSaid : Prop := serialShiftUptoRow.holds Try.pinned (OpenSpec.upto serialShiftSpec)

/-- 'sluicegatelaw2.SerialOne', WHERE WHAT IT READS IS OF BULK AT MOST 1048576: true; the input reads as it did. -/
def serialOneUptoRow : OpenClaim := { program := "ytoefekojjagjdaa", sum := "a5ad0ecd2099b66df89e4de26a6aa8854827c5a563241d91bcfeb9eb02920663", func := "sluicegate/sluicegatelaw2.SerialOne", spec := "serialOne", apart := false, narrowed := true }
def SerialOneUptoSaid : Prop := serialOneUptoRow.holds Try.pinned (OpenSpec.upto serialOneSpec)

/-- 'sluicegatelaw2.SerialNear', WHERE WHAT IT READS IS OF BULK AT MOST 1048576: true; the input reads as it did. -/
def serialNearUptoRow : OpenClaim := { program := "ytoefekojjagjdaa", sum := "a5ad0ecd2099b66df89e4de26a6aa8854827c5a563241d91bcfeb9eb02920663", func := "sluicegate/sluicegatelaw2.SerialNear", spec := "serialNear", apart := false, narrowed := true }
def SerialNearUptoSaid : Prop := serialNearUptoRow.holds Try.pinned (OpenSpec.upto serialNearSpec)

/-- 'sluicegatelaw2.SerialLow', WHERE WHAT IT READS IS OF BULK AT MOST 1048576: true; the input reads as it did. -/
def serialLowUptoRow : OpenClaim := { program := "ytoefekojjagjdaa", sum := "a5ad0ecd2099b66df89e4de26a6aa8854827c5a563241d91bcfeb9eb02920663", func := "sluicegate/sluicegatelaw2.SerialLow", spec := "serialLow", apart := false, narrowed := true }
def SerialLowUptoSaid : Prop := serialLowUptoRow.holds Try.pinned (OpenSpec.upto serialLowSpec)

/-- 'sluicegatelaw8.NackTurn', WHERE WHAT IT READS IS OF BULK AT MOST 1048576: true; the input reads as it did. -/
def nackTurnUptoRow : OpenClaim := { program := "ytoefekojjagjdaa", sum := "a5ad0ecd2099b66df89e4de26a6aa8854827c5a563241d91bcfeb9eb02920663", func := "sluicegate/sluicegatelaw8.NackTurn", spec := "nackTurn", apart := false, narrowed := true }
def NackTurnUptoSaid : Prop := nackTurnUptoRow.holds Try.pinned (OpenSpec.upto nackTurnSpec)

/-- 'sluicegatelaw8.NackFew', WHERE WHAT IT READS IS OF BULK AT MOST 1048576: true; the input reads as it did. -/
def nackFewUptoRow : OpenClaim := { program := "ytoefekojjagjdaa", sum := "a5ad0ecd2099b66df89e4de26a6aa8854827c5a563241d91bcfeb9eb02920663", func := "sluicegate/sluicegatelaw8.NackFew", spec := "nackFew", apart := false, narrowed := true }
def NackFewUptoSaid : Prop := nackFewUptoRow.holds Try.pinned (OpenSpec.upto nackFewSpec)

/-- 'sluicegatelaw8.NackShift', WHERE WHAT IT READS IS OF BULK AT MOST 1048576: true; the input reads as it did. -/
def nackShiftUptoRow : OpenClaim := { program := "ytoefekojjagjdaa", sum := "a5ad0ecd2099b66df89e4de26a6aa8854827c5a563241d91bcfeb9eb02920663", func := "sluicegate/sluicegatelaw8.NackShift", spec := "nackShift", apart := false, narrowed := true }
def NackShiftUptoSaid : Prop := nackShiftUptoRow.holds Try.pinned (OpenSpec.upto nackShiftSpec)

/-- 'sluicegatelaw8.NackJoin', WHERE WHAT IT READS IS OF BULK AT MOST 1048576: true; the input reads as it did. -/
def nackJoinUptoRow : OpenClaim := { program := "ytoefekojjagjdaa", sum := "a5ad0ecd2099b66df89e4de26a6aa8854827c5a563241d91bcfeb9eb02920663", func := "sluicegate/sluicegatelaw8.NackJoin", spec := "nackJoin", apart := false, narrowed := true }
def NackJoinUptoSaid : Prop := nackJoinUptoRow.holds Try.pinned (OpenSpec.upto nackJoinSpec)

/-- 'sluicegatelaw8.NackAll', WHERE WHAT IT READS IS OF BULK AT MOST 1048576: true; the input reads as it did. -/
def nackAllUptoRow : OpenClaim := { program := "ytoefekojjagjdaa", sum := "a5ad0ecd2099b66df89e4de26a6aa8854827c5a563241d91bcfeb9eb02920663", func := "sluicegate/sluicegatelaw8.NackAll", spec := "nackAll", apart := false, narrowed := true }
def NackAllUptoSaid : Prop := nackAllUptoRow.holds Try.pinned (OpenSpec.upto nackAllSpec)

/-- 'sluicegatelaw19.ResendAll', WHERE WHAT IT READS IS OF BULK AT MOST 1048576: true; the input reads as it did. -/
def resendAllUptoRow : OpenClaim := { program := "ytoefekojjagjdaa", sum := "a5ad0ecd2099b66df89e4de26a6aa8854827c5a563241d91bcfeb9eb02920663", func := "sluicegate/sluicegatelaw19.ResendAll", spec := "resendAll", unfollowed := true, recurses := true, apart := false, narrowed := true }
def ResendAllUptoSaid : Prop := resendAllUptoRow.holds Try.pinned (OpenSpec.upto resendAllSpec)

/-- 'sluicegatelaw19.ResendOnly', WHERE WHAT IT READS IS OF BULK AT MOST 1048576: true; the input reads as it did. -/
def resendOnlyUptoRow : OpenClaim := { program := "ytoefekojjagjdaa", sum := "a5ad0ecd2099b66df89e4de26a6aa8854827c5a563241d91bcfeb9eb02920663", func := "sluicegate/sluicegatelaw19.ResendOnly", spec := "resendOnly", unfollowed := true, recurses := true, apart := false, narrowed := true }
def ResendOnlyUptoSaid : Prop := resendOnlyUptoRow.holds Try.pinned (OpenSpec.upto resendOnlySpec)

/-- 'sluicegatelaw19.ResendGaps', WHERE WHAT IT READS IS OF BULK AT MOST 1048576: true; the input reads as it did. -/
def resendGapsUptoRow : OpenClaim := { program := "ytoefekojjagjdaa", sum := "a5ad0ecd2099b66df89e4de26a6aa8854827c5a563241d91bcfeb9eb02920663", func := "sluicegate/sluicegatelaw19.ResendGaps", spec := "resendGaps", unfollowed := true, recurses := true, apart := false, narrowed := true }
def ResendGapsUptoSaid : Prop := resendGapsUptoRow.holds Try.pinned (OpenSpec.upto resendGapsSpec)

/-- 'sluicegatelaw19.ResendAgain', WHERE WHAT IT READS IS OF BULK AT MOST 1048576: true; the input reads as it did. -/
def resendAgainUptoRow : OpenClaim := { program := "ytoefekojjagjdaa", sum := "a5ad0ecd2099b66df89e4de26a6aa8854827c5a563241d91bcfeb9eb02920663", func := "sluicegate/sluicegatelaw19.ResendAgain", spec := "resendAgain", unfollowed := true, recurses := true, apart := false, narrowed := true }
def ResendAgainUptoSaid : Prop := resendAgainUptoRow.holds Try.pinned (OpenSpec.upto resendAgainSpec)

end Rows
end Go.Proofs.Ytoefekojjagjdaa
