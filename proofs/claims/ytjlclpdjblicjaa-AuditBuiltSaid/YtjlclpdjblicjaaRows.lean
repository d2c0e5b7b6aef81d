/-
  No cell of these rows narrows 'for every input' (looked for: loops, veiled, ifaces, maps, wideKeys, modest, calm, conditions, laid).
  DERIVED. THE GIVEN ROWS OF THIS SEAT. 12 by the template 'for every input the law returns true; each argument reads behind the call as it read before'; 0 by the template 'total and deterministic' (their statements: YtjlclpdjblicjaaTotals.lean).
  GIVEN WITH THE SEED: the statements are not yours to turn. If you find one false, say at which input.
  Laid BY PROGRAM, IN A SANDBOX (cutbox-rows.mjs): the forced cells as the released guide's own fill.sh prints them over the translation 41c32487da79e902… (all of the seat's roots in one cut). By AI agents, Wed Nov 11 2026. No macro, syntax, notation, axiom, sorry.
-/
import Derived.Test.YtjlclpdjblicjaaChecked
import GoSem.Claim
import GoSem.ClaimJoined
import GoSem.ClaimMapViews
import Derived.JoinedTies
import Derived.KernelRfl
namespace Go.Proofs.Ytjlclpdjblicjaa
/- THE CELL 'sum', in the pinned program and in every row, IS THE sha256 OF THE DUMP (.gsa) THAT YtjlclpdjblicjaaProg.lean LOADS. Nothing in Lean hashes anything: it is a label: what it is worth is what the hold of that sum in a sandbox is worth. -/
noncomputable def Try.pinned : Pinned := { name := "ytjlclpdjblicjaa", sum := "41c32487da79e9028850386bf76968e621350c3a8716e8a0bbebd07b79622ea6", checked := Try.checked }
namespace Rows
def none {H : Type} : Left H := { results := [], args := [] }

/-- 'sluicegatelaw13.RingPlays': WHATEVER THE INPUT: true; the input reads as it did. -/
def ringPlaysSpec : ChangeSpec := { name := "ringPlays", fn := fun _ => fun
  | [d1, d2] => { results := [.lit (.bool true)], args := [d1, d2] }
  | _ => none }
def ringPlaysRow : OpenClaim := { program := "ytjlclpdjblicjaa", sum := "41c32487da79e9028850386bf76968e621350c3a8716e8a0bbebd07b79622ea6", func := "sluicegate/sluicegatelaw13.RingPlays", spec := "ringPlays", apart := false }
def RingPlaysSaid : Prop := ringPlaysRow.holds Try.pinned (OpenSpec.ofChange ringPlaysSpec)

/-- ITS FALSE NEIGHBOUR: 'it returns false'. Refute it at one input. -/
def ringPlaysWrong : ChangeSpec := { name := "ringPlays", fn := fun _ => fun
  | [d1, d2] => { results := [.lit (.bool false)], args := [d1, d2] }
  | _ => none }
def RingPlaysWrongFalsely : Prop := ringPlaysRow.holds Try.pinned (OpenSpec.ofChange ringPlaysWrong)

/-- 'sluicegatelaw13.RingFirst': WHATEVER THE INPUT: true; the input reads as it did. -/
def ringFirstSpec : ChangeSpec := { name := "ringFirst", fn := fun _ => fun
  | [d1, d2] => { results := [.lit (.bool true)], args := [d1, d2] }
  | _ => none }
def ringFirstRow : OpenClaim := { program := "ytjlclpdjblicjaa", sum := "41c32487da79e9028850386bf76968e621350c3a8716e8a0bbebd07b79622ea6", func := "sluicegate/sluicegatelaw13.RingFirst", spec := "ringFirst", apart := false }
def RingFirstSaid : Prop := ringFirstRow.holds Try.pinned (OpenSpec.ofChange ringFirstSpec)

/-- ITS FALSE NEIGHBOUR: 'it returns false'. Refute it at one input. -/
def ringFirstWrong : ChangeSpec := { name := "ringFirst", fn := fun _ => fun
  | [d1, d2] => { results := [.lit (.bool false)], args := [d1, d2] }
  | _ => none }
def RingFirstWrongFalsely : Prop := ringFirstRow.holds Try.pinned (OpenSpec.ofChange ringFirstWrong)

/-- 'sluicegatelaw13.RingFull': WHATEVER THE INPUT: true; the input reads as it did. -/
def ringFullSpec : ChangeSpec := { name := "ringFull", fn := fun _ => fun
  | [d1, d2, d3] => { results := [.lit (.bool true)], args := [d1, d2, d3] }
  | _ => none }
def ringFullRow : OpenClaim := { program := "ytjlclpdjblicjaa", sum := "41c32487da79e9028850386bf76968e621350c3a8716e8a0bbebd07b79622ea6", func := "sluicegate/sluicegatelaw13.RingFull", spec := "ringFull", apart := false }
def RingFullSaid : Prop := ringFullRow.holds Try.pinned (OpenSpec.ofChange ringFullSpec)

/-- ITS FALSE NEIGHBOUR: 'it returns false'. Refute it at one input. -/
def ringFullWrong : ChangeSpec := { name := "ringFull", fn := fun _ => fun
  | [d1, d2, d3] => { results := [.lit (.bool false)], args := [d1, d2, d3] }
  | _ => none }
def RingFullWrongFalsely : Prop := ringFullRow.holds Try.pinned (OpenSpec.ofChange ringFullWrong)

/-- 'sluicegatelaw13.RingNone': WHATEVER THE INPUT: true; the input reads as it did. -/
def ringNoneSpec : ChangeSpec := { name := "ringNone", fn := fun _ => fun
  | [d] => { results := [.lit (.bool true)], args := [d] }
  | _ => none }
def ringNoneRow : OpenClaim := { program := "ytjlclpdjblicjaa", sum := "41c32487da79e9028850386bf76968e621350c3a8716e8a0bbebd07b79622ea6", func := "sluicegate/sluicegatelaw13.RingNone", spec := "ringNone", apart := false }
def RingNoneSaid : Prop := ringNoneRow.holds Try.pinned (OpenSpec.ofChange ringNoneSpec)

/-- ITS FALSE NEIGHBOUR: 'it returns false'. Refute it at one input. -/
def ringNoneWrong : ChangeSpec := { name := "ringNone", fn := fun _ => fun
  | [d] => { results := [.lit (.bool false)], args := [d] }
  | _ => none }
def RingNoneWrongFalsely : Prop := ringNoneRow.holds Try.pinned (OpenSpec.ofChange ringNoneWrong)

/-- 'sluicegatelaw18.HistoryPlays': WHATEVER THE INPUT: true; the input reads as it did. -/
def historyPlaysSpec : ChangeSpec := { name := "historyPlays", fn := fun _ => fun
  | [d1, d2] => { results := [.lit (.bool true)], args := [d1, d2] }
  | _ => none }
def historyPlaysRow : OpenClaim := { program := "ytjlclpdjblicjaa", sum := "41c32487da79e9028850386bf76968e621350c3a8716e8a0bbebd07b79622ea6", func := "sluicegate/sluicegatelaw18.HistoryPlays", spec := "historyPlays", unfollowed := true, recurses := true, apart := false }
def HistoryPlaysSaid : Prop := historyPlaysRow.holds Try.pinned (OpenSpec.ofChange historyPlaysSpec)

/-- ITS FALSE NEIGHBOUR: 'it returns false'. Refute it at one input. -/
def historyPlaysWrong : ChangeSpec := { name := "historyPlays", fn := fun _ => fun
  | [d1, d2] => { results := [.lit (.bool false)], args := [d1, d2] }
  | _ => none }
def HistoryPlaysWrongFalsely : Prop := historyPlaysRow.holds Try.pinned (OpenSpec.ofChange historyPlaysWrong)

/-- 'sluicegatelaw18.HistoryGoes': WHATEVER THE INPUT: true; the input reads as it did. -/
def historyGoesSpec : ChangeSpec := { name := "historyGoes", fn := fun _ => fun
  | [d1, d2] => { results := [.lit (.bool true)], args := [d1, d2] }
  | _ => none }
def historyGoesRow : OpenClaim := { program := "ytjlclpdjblicjaa", sum := "41c32487da79e9028850386bf76968e621350c3a8716e8a0bbebd07b79622ea6", func := "sluicegate/sluicegatelaw18.HistoryGoes", spec := "historyGoes", unfollowed := true, recurses := true, apart := false }
def HistoryGoesSaid : Prop := historyGoesRow.holds Try.pinned (OpenSpec.ofChange historyGoesSpec)

/-- ITS FALSE NEIGHBOUR: 'it returns false'. Refute it at one input. -/
def historyGoesWrong : ChangeSpec := { name := "historyGoes", fn := fun _ => fun
  | [d1, d2] => { results := [.lit (.bool false)], args := [d1, d2] }
  | _ => none }
def HistoryGoesWrongFalsely : Prop := historyGoesRow.holds Try.pinned (OpenSpec.ofChange historyGoesWrong)

/-- 'sluicegatelaw18.HistoryRow': WHATEVER THE INPUT: true; the input reads as it did. -/
def historyRowSpec : ChangeSpec := { name := "historyRow", fn := fun _ => fun
  | [d1, d2, d3, d4] => { results := [.lit (.bool true)], args := [d1, d2, d3, d4] }
  | _ => none }
def historyRowRow : OpenClaim := { program := "ytjlclpdjblicjaa", sum := "41c32487da79e9028850386bf76968e621350c3a8716e8a0bbebd07b79622ea6", func := "sluicegate/sluicegatelaw18.HistoryRow", spec := "historyRow", unfollowed := true, recurses := true, apart := false }
def HistoryRowSaid : Prop := historyRowRow.holds Try.pinned (OpenSpec.ofChange historyRowSpec)

/-- ITS FALSE NEIGHBOUR: 'it returns false'. Refute it at one input. -/
def historyRowWrong : ChangeSpec := { name := "historyRow", fn := fun _ => fun
  | [d1, d2, d3, d4] => { results := [.lit (.bool false)], args := [d1, d2, d3, d4] }
  | _ => none }
def HistoryRowWrongFalsely : Prop := historyRowRow.holds Try.pinned (OpenSpec.ofChange historyRowWrong)

/-- 'sluicegatelaw18.HistoryNone': WHATEVER THE INPUT: true; the input reads as it did. -/
def historyNoneSpec : ChangeSpec := { name := "historyNone", fn := fun _ => fun
  | [d] => { results := [.lit (.bool true)], args := [d] }
  | _ => none }
def historyNoneRow : OpenClaim := { program := "ytjlclpdjblicjaa", sum := "41c32487da79e9028850386bf76968e621350c3a8716e8a0bbebd07b79622ea6", func := "sluicegate/sluicegatelaw18.HistoryNone", spec := "historyNone", unfollowed := true, recurses := true, apart := false }
def HistoryNoneSaid : Prop := historyNoneRow.holds Try.pinned (OpenSpec.ofChange historyNoneSpec)

/-- ITS FALSE NEIGHBOUR: 'it returns false'. Refute it at one input. -/
def historyNoneWrong : ChangeSpec := { name := "historyNone", fn := fun _ => fun
  | [d] => { results := [.lit (.bool false)], args := [d] }
  | _ => none }
def HistoryNoneWrongFalsely : Prop := historyNoneRow.holds Try.pinned (OpenSpec.ofChange historyNoneWrong)

/-- 'sluicegatelaw28.AuditAll': WHATEVER THE INPUT: true; the input reads as it did. -/
def auditAllSpec : ChangeSpec := { name := "auditAll", fn := fun _ => fun
  | [d1, d2, d3] => { results := [.lit (.bool true)], args := [d1, d2, d3] }
  | _ => none }
def auditAllRow : OpenClaim := { program := "ytjlclpdjblicjaa", sum := "41c32487da79e9028850386bf76968e621350c3a8716e8a0bbebd07b79622ea6", func := "sluicegate/sluicegatelaw28.AuditAll", spec := "auditAll", apart := false }
def AuditAllSaid : Prop := auditAllRow.holds Try.pinned (OpenSpec.ofChange auditAllSpec)

/-- ITS FALSE NEIGHBOUR: 'it returns false'. Refute it at one input. -/
def auditAllWrong : ChangeSpec := { name := "auditAll", fn := fun _ => fun
  | [d1, d2, d3] => { results := [.lit (.bool false)], args := [d1, d2, d3] }
  | _ => none }
def AuditAllWrongFalsely : Prop := auditAllRow.holds Try.pinned (OpenSpec.ofChange auditAllWrong)

/-- 'sluicegatelaw28.AuditBuilt': WHATEVER THE INPUT: true; the input reads as it did. -/
def auditBuiltSpec : ChangeSpec := { name := "auditBuilt", fn := fun _ => fun
  | [d1, d2, d3, d4] => { results := [.lit (.bool true)], args := [d1, d2, d3, d4] }
  | _ => none }
def auditBuiltRow : OpenClaim := { program := "ytjlclpdjblicjaa", sum := "41c32487da79e9028850386bf76968e621350c3a8716e8a0bbebd07b79622ea6", func := "sluicegate/sluicegatelaw28.AuditBuilt", spec := "auditBuilt", apart := false }
def AuditBuiltSaid : Prop := auditBuiltRow.holds Try.pinned (OpenSpec.ofChange auditBuiltSpec)

/-- ITS FALSE NEIGHBOUR: 'it returns false'. Refute it at one input. -/
def auditBuiltWrong : ChangeSpec := { name := "auditBuilt", fn := fun _ => fun
  | [d1, d2, d3, d4] => { results := [.lit (.bool false)], args := [d1, d2, d3, d4] }
  | _ => none }
def AuditBuiltWrongFalsely : Prop := auditBuiltRow.holds Try.pinned (OpenSpec.ofChange auditBuiltWrong)

/-- 'sluicegatelaw28.AuditPlaces': WHATEVER THE INPUT: true; the input reads as it did. -/
def auditPlacesSpec : ChangeSpec := { name := "auditPlaces", fn := fun _ => fun
  | [d] => { results := [.lit (.bool true)], args := [d] }
  | _ => none }
def auditPlacesRow : OpenClaim := { program := "ytjlclpdjblicjaa", sum := "41c32487da79e9028850386bf76968e621350c3a8716e8a0bbebd07b79622ea6", func := "sluicegate/sluicegatelaw28.AuditPlaces", spec := "auditPlaces", apart := false }
def AuditPlacesSaid : Prop := auditPlacesRow.holds Try.pinned (OpenSpec.ofChange auditPlacesSpec)

/-- ITS FALSE NEIGHBOUR: 'it returns false'. Refute it at one input. -/
def auditPlacesWrong : ChangeSpec := { name := "auditPlaces", fn := fun _ => fun
  | [d] => { results := [.lit (.bool false)], args := [d] }
  | _ => none }
def AuditPlacesWrongFalsely : Prop := auditPlacesRow.holds Try.pinned (OpenSpec.ofChange auditPlacesWrong)

/-- 'sluicegatelaw28.AuditRoom': WHATEVER THE INPUT: true; the input reads as it did. -/
def auditRoomSpec : ChangeSpec := { name := "auditRoom", fn := fun _ => fun
  | [d1, d2, d3] => { results := [.lit (.bool true)], args := [d1, d2, d3] }
  | _ => none }
def auditRoomRow : OpenClaim := { program := "ytjlclpdjblicjaa", sum := "41c32487da79e9028850386bf76968e621350c3a8716e8a0bbebd07b79622ea6", func := "sluicegate/sluicegatelaw28.AuditRoom", spec := "auditRoom", apart := false }
def AuditRoomSaid : Prop := auditRoomRow.holds Try.pinned (OpenSpec.ofChange auditRoomSpec)

/-- ITS FALSE NEIGHBOUR: 'it returns false'. Refute it at one input. -/
def auditRoomWrong : ChangeSpec := { name := "auditRoom", fn := fun _ => fun
  | [d1, d2, d3] => { results := [.lit (.bool false)], args := [d1, d2, d3] }
  | _ => none }
def AuditRoomWrongFalsely : Prop := auditRoomRow.holds Try.pinned (OpenSpec.ofChange auditRoomWrong)

/- THE SECOND FORM. 'bulk': how many values and letters a reading holds, each counted each time it is reached (what is shared counts as often as it is met; a slice's spare places count too). A statement '..UptoSaid' is the law's where the arguments, and the package variables that the reading takes, are together of bulk at most 1048576: NARROWER than '..Said'. Prove '..Said' where nothing that the law and all that it calls make is longer than what came in: it says more and counts as full. Else prove '..UptoSaid'. A law counts once. -/
mutual
def uptoBulk {H : Type} : DataW H → Nat
  | .lit (.string bytes) => bytes.length + 1
  | .lit _ => 1
  | .nil => 1
  | .ptr d => uptoBulk d + 1
  | .slice elems spare => uptoBulkAll elems + uptoBulkAll spare + 1
  | .agg parts => uptoBulkAll parts + 1
  | .iface _ d => uptoBulk d + 1
  | .map entries => uptoBulkEntries entries + 1
  | .held _ => 1
def uptoBulkAll {H : Type} : List (DataW H) → Nat
  | [] => 0
  | d :: r => uptoBulk d + uptoBulkAll r
def uptoBulkEntries {H : Type} : List (Lit × DataW H) → Nat
  | [] => 0
  | x :: r => uptoBulkEntry x + uptoBulkEntries r
def uptoBulkEntry {H : Type} : Lit × DataW H → Nat
  | (.string bytes, d) => bytes.length + uptoBulk d + 1
  | (_, d) => uptoBulk d + 1
 end
def uptoSmall : (H : Type) → List (DataW H) → Bool := fun _ ds => decide (uptoBulkAll ds ≤ 1048576)
def OpenSpec.upto (s : _root_.Go.ChangeSpec) : _root_.Go.OpenSpec := { _root_.Go.OpenSpec.ofChange s with cond := some uptoSmall }

/-- 'sluicegatelaw13.RingPlays', WHERE WHAT IT READS IS OF BULK AT MOST 1048576: true; the input reads as it did. -/
def ringPlaysUptoRow : OpenClaim := { program := "ytjlclpdjblicjaa", sum := "41c32487da79e9028850386bf76968e621350c3a8716e8a0bbebd07b79622ea6", func := "sluicegate/sluicegatelaw13.RingPlays", spec := "ringPlays", apart := false, narrowed := true }
def RingPlaysUptoSaid : Prop := ringPlaysUptoRow.holds Try.pinned (OpenSpec.upto ringPlaysSpec)

/-- 'sluicegatelaw13.RingFirst', WHERE WHAT IT READS IS OF BULK AT MOST 1048576: true; the input reads as it did. -/
def ringFirstUptoRow : OpenClaim := { program := "ytjlclpdjblicjaa", sum := "41c32487da79e9028850386bf76968e621350c3a8716e8a0bbebd07b79622ea6", func := "sluicegate/sluicegatelaw13.RingFirst", spec := "ringFirst", apart := false, narrowed := true }
def RingFirstUptoSaid : Prop := ringFirstUptoRow.holds Try.pinned (OpenSpec.upto ringFirstSpec)

/-- 'sluicegatelaw13.RingFull', WHERE WHAT IT READS IS OF BULK AT MOST 1048576: true; the input reads as it did. -/
def ringFullUptoRow : OpenClaim := { program := "ytjlclpdjblicjaa", sum := "41c32487da79e9028850386bf76968e621350c3a8716e8a0bbebd07b79622ea6", func := "sluicegate/sluicegatelaw13.RingFull", spec := "ringFull", apart := false, narrowed := true }
def RingFullUptoSaid : Prop := ringFullUptoRow.holds Try.pinned (OpenSpec.upto ringFullSpec)

/-- 'sluicegatelaw13.RingNone', WHERE WHAT IT READS IS OF BULK AT MOST 1048576: true; the input reads as it did. -/
def ringNoneUptoRow : OpenClaim := { program := "ytjlclpdjblicjaa", sum := "41c32487da79e9028850386bf76968e621350c3a8716e8a0bbebd07b79622ea6", func := "sluicegate/sluicegatelaw13.RingNone", spec := "ringNone", apart := false, narrowed := true }
def RingNoneUptoSaid : Prop := ringNoneUptoRow.holds Try.pinned (OpenSpec.upto ringNoneSpec)

/-- 'sluicegatelaw18.HistoryPlays', WHERE WHAT IT READS IS OF BULK AT MOST 1048576: true; the input reads as it did. -/
def historyPlaysUptoRow : OpenClaim := { program := "ytjlclpdjblicjaa", sum := "41c32487da79e9028850386bf76968e621350c3a8716e8a0bbebd07b79622ea6", func := "sluicegate/sluicegatelaw18.HistoryPlays", spec := "historyPlays", unfollowed := true, recurses := true, apart := false, narrowed := true }
def HistoryPlaysUptoSaid : Prop := historyPlaysUptoRow.holds Try.pinned (OpenSpec.upto historyPlaysSpec)

/-- 'sluicegatelaw18.HistoryGoes', WHERE WHAT IT READS IS OF BULK AT MOST 1048576: true; the input reads as it did. -/
def historyGoesUptoRow : OpenClaim := { program := "ytjlclpdjblicjaa", sum := "41c32487da79e9028850386bf76968e621350c3a8716e8a0bbebd07b79622ea6", func := "sluicegate/sluicegatelaw18.HistoryGoes", spec := "historyGoes", unfollowed := true, recurses := true, apart := false, narrowed := true }
def HistoryGoesUptoSaid : Prop := historyGoesUptoRow.holds Try.pinned (OpenSpec.upto historyGoesSpec)

/-- 'sluicegatelaw18.HistoryRow', WHERE WHAT IT READS IS OF BULK AT MOST 1048576: true; the input reads as it did. -/
def historyRowUptoRow : OpenClaim := { program := "ytjlclpdjblicjaa", sum := "41c32487da79e9028850386bf76968e621350c3a8716e8a0bbebd07b79622ea6", func := "sluicegate/sluicegatelaw18.HistoryRow", spec := "historyRow", unfollowed := true, recurses := true, apart := false, narrowed := true }
def HistoryRowUptoSaid : Prop := historyRowUptoRow.holds Try.pinned (OpenSpec.upto historyRowSpec)

/-- 'sluicegatelaw18.HistoryNone', WHERE WHAT IT READS IS OF BULK AT MOST 1048576: true; the input reads as it did. -/
def historyNoneUptoRow : OpenClaim := { program := "ytjlclpdjblicjaa", sum := "41c32487da79e9028850386bf76968e621350c3a8716e8a0bbebd07b79622ea6", func := "sluicegate/sluicegatelaw18.HistoryNone", spec := "historyNone", unfollowed := true, recurses := true, apart := false, narrowed := true }
def HistoryNoneUptoSaid : Prop := historyNoneUptoRow.holds Try.pinned (OpenSpec.upto historyNoneSpec)

/-- 'sluicegatelaw28.AuditAll', WHERE WHAT IT READS IS OF BULK AT MOST 1048576: true; the input reads as it did. -/
def auditAllUptoRow : OpenClaim := { program := "ytjlclpdjblicjaa", sum := "41c32487da79e9028850386bf76968e621350c3a8716e8a0bbebd07b79622ea6", func := "sluicegate/sluicegatelaw28.AuditAll", spec := "auditAll", apart := false, narrowed := true }
def AuditAllUptoSaid : Prop := auditAllUptoRow.holds Try.pinned (OpenSpec.upto auditAllSpec)

/-- 'sluicegatelaw28.AuditBuilt', WHERE WHAT IT READS IS OF BULK AT MOST 1048576: true; the input reads as it did. -/
def auditBuiltUptoRow : OpenClaim := { program := "ytjlclpdjblicjaa", sum := "41c32487da79e9028850386bf76968e621350c3a8716e8a0bbebd07b79622ea6", func := "sluicegate/sluicegatelaw28.AuditBuilt", spec := "auditBuilt", apart := false, narrowed := true }
def AuditBuiltUptoSaid : Prop := auditBuiltUptoRow.holds Try.pinned (OpenSpec.upto auditBuiltSpec)

/-- 'sluicegatelaw28.AuditPlaces', WHERE WHAT IT READS IS OF BULK AT MOST 1048576: true; the input reads as it did. -/
def auditPlacesUptoRow : OpenClaim := { program := "ytjlclpdjblicjaa", sum := "41c32487da79e9028850386bf76968e621350c3a8716e8a0bbebd07b79622ea6", func := "sluicegate/sluicegatelaw28.AuditPlaces", spec := "auditPlaces", apart := false, narrowed := true }
def AuditPlacesUptoSaid : Prop := auditPlacesUptoRow.holds Try.pinned (OpenSpec.upto auditPlacesSpec)

/-- 'sluicegatelaw28.AuditRoom', WHERE WHAT IT READS IS OF BULK AT MOST 1048576: true; the input reads as it did. -/
def auditRoomUptoRow : OpenClaim := { program := "ytjlclpdjblicjaa", sum := "41c32487da79e9028850386bf76968e621350c3a8716e8a0bbebd07b79622ea6", func := "sluicegate/sluicegatelaw28.AuditRoom", spec := "auditRoom", apart := false, narrowed := true }
def AuditRoomUptoSaid : Prop := auditRoomUptoRow.holds Try.pinned (OpenSpec.upto auditRoomSpec)

end Rows
end Go.Proofs.Ytjlclpdjblicjaa
