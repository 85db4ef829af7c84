/-
  No cell of these rows narrows 'for every input' (looked for: loops, veiled, ifaces, maps, wideKeys, modest, calm, conditions, laid).
  DERIVED. THE GIVEN ROWS OF THIS SEAT. 19 by the template 'for every input the law returns true; each argument reads behind the call as it read before'; 0 by the template 'total and deterministic' (their statements: YtbkfnajpbhfneaaTotals.lean).
  GIVEN WITH THE SEED: the statements are not yours to turn. If you find one false, say at which input.
  Laid BY PROGRAM, IN A SANDBOX (cutbox-rows.mjs): the forced cells as the released guide's own fill.sh prints them over the translation b7efa325903b8946… (all of the seat's roots in one cut). By AI agents, Wed Nov 11 2026. No macro, syntax, notation, axiom, sorry.
-/
import Derived.Test.YtbkfnajpbhfneaaChecked
import GoSem.Claim
import GoSem.ClaimJoined
import GoSem.ClaimMapViews
import Derived.JoinedTies
import Derived.KernelRfl
namespace Go.Proofs.Ytbkfnajpbhfneaa
/- THE CELL 'sum', in the pinned program and in every row, IS THE sha256 OF THE DUMP (.gsa) THAT YtbkfnajpbhfneaaProg.lean LOADS. Nothing in Lean hashes anything: it is a label: what it is worth is what the hold of that sum in a sandbox is worth. -/
noncomputable def Try.pinned : Pinned := { name := "ytbkfnajpbhfneaa", sum := "b7efa325903b89468d5c4701501c40b5a50583b2c1b08e931621d04ac6627eba", checked := Try.checked }
namespace Rows
def none {H : Type} : Left H := { results := [], args := [] }

/-- 'posserlaw01.TicketBounds': WHATEVER THE INPUT: true; the input reads as it did. -/
def ticketBoundsSpec : ChangeSpec := { name := "ticketBounds", fn := fun _ => fun
  | [d] => { results := [.lit (.bool true)], args := [d] }
  | _ => none }
def ticketBoundsRow : OpenClaim := { program := "ytbkfnajpbhfneaa", sum := "b7efa325903b89468d5c4701501c40b5a50583b2c1b08e931621d04ac6627eba", func := "posser/posserlaw01.TicketBounds", spec := "ticketBounds", unfollowed := true, recurses := true, plainKeys := false, apart := false }
def TicketBoundsSaid : Prop := ticketBoundsRow.holds Try.pinned (OpenSpec.ofChange ticketBoundsSpec)

/-- ITS FALSE NEIGHBOUR: 'it returns false'. Refute it at one input. -/
def ticketBoundsWrong : ChangeSpec := { name := "ticketBounds", fn := fun _ => fun
  | [d] => { results := [.lit (.bool false)], args := [d] }
  | _ => none }
def TicketBoundsWrongFalsely : Prop := ticketBoundsRow.holds Try.pinned (OpenSpec.ofChange ticketBoundsWrong)

/-- 'posserlaw01.TicketLong': WHATEVER THE INPUT: true; the input reads as it did. -/
def ticketLongSpec : ChangeSpec := { name := "ticketLong", fn := fun _ => fun
  | [d] => { results := [.lit (.bool true)], args := [d] }
  | _ => none }
def ticketLongRow : OpenClaim := { program := "ytbkfnajpbhfneaa", sum := "b7efa325903b89468d5c4701501c40b5a50583b2c1b08e931621d04ac6627eba", func := "posser/posserlaw01.TicketLong", spec := "ticketLong", unfollowed := true, recurses := true, plainKeys := false, apart := false }
def TicketLongSaid : Prop := ticketLongRow.holds Try.pinned (OpenSpec.ofChange ticketLongSpec)

/-- ITS FALSE NEIGHBOUR: 'it returns false'. Refute it at one input. -/
def ticketLongWrong : ChangeSpec := { name := "ticketLong", fn := fun _ => fun
  | [d] => { results := [.lit (.bool false)], args := [d] }
  | _ => none }
def TicketLongWrongFalsely : Prop := ticketLongRow.holds Try.pinned (OpenSpec.ofChange ticketLongWrong)

/-- 'posserlaw01.TicketClashes': WHATEVER THE INPUT: true; the input reads as it did. -/
def ticketClashesSpec : ChangeSpec := { name := "ticketClashes", fn := fun _ => fun
  | [d1, d2, d3] => { results := [.lit (.bool true)], args := [d1, d2, d3] }
  | _ => none }
def ticketClashesRow : OpenClaim := { program := "ytbkfnajpbhfneaa", sum := "b7efa325903b89468d5c4701501c40b5a50583b2c1b08e931621d04ac6627eba", func := "posser/posserlaw01.TicketClashes", spec := "ticketClashes", unfollowed := true, recurses := true, plainKeys := false, apart := false }
def TicketClashesSaid : Prop := ticketClashesRow.holds Try.pinned (OpenSpec.ofChange ticketClashesSpec)

/-- ITS FALSE NEIGHBOUR: 'it returns false'. Refute it at one input. -/
def ticketClashesWrong : ChangeSpec := { name := "ticketClashes", fn := fun _ => fun
  | [d1, d2, d3] => { results := [.lit (.bool false)], args := [d1, d2, d3] }
  | _ => none }
def TicketClashesWrongFalsely : Prop := ticketClashesRow.holds Try.pinned (OpenSpec.ofChange ticketClashesWrong)

/-- 'posserlaw01.TicketFree': WHATEVER THE INPUT: true; the input reads as it did. -/
def ticketFreeSpec : ChangeSpec := { name := "ticketFree", fn := fun _ => fun
  | [d1, d2] => { results := [.lit (.bool true)], args := [d1, d2] }
  | _ => none }
def ticketFreeRow : OpenClaim := { program := "ytbkfnajpbhfneaa", sum := "b7efa325903b89468d5c4701501c40b5a50583b2c1b08e931621d04ac6627eba", func := "posser/posserlaw01.TicketFree", spec := "ticketFree", unfollowed := true, recurses := true, plainKeys := false, apart := false }
def TicketFreeSaid : Prop := ticketFreeRow.holds Try.pinned (OpenSpec.ofChange ticketFreeSpec)

/-- ITS FALSE NEIGHBOUR: 'it returns false'. Refute it at one input. -/
def ticketFreeWrong : ChangeSpec := { name := "ticketFree", fn := fun _ => fun
  | [d1, d2] => { results := [.lit (.bool false)], args := [d1, d2] }
  | _ => none }
def TicketFreeWrongFalsely : Prop := ticketFreeRow.holds Try.pinned (OpenSpec.ofChange ticketFreeWrong)

/-- 'posserlaw01.TicketLooks': WHATEVER THE INPUT: true; the input reads as it did. -/
def ticketLooksSpec : ChangeSpec := { name := "ticketLooks", fn := fun _ => fun
  | [d] => { results := [.lit (.bool true)], args := [d] }
  | _ => none }
def ticketLooksRow : OpenClaim := { program := "ytbkfnajpbhfneaa", sum := "b7efa325903b89468d5c4701501c40b5a50583b2c1b08e931621d04ac6627eba", func := "posser/posserlaw01.TicketLooks", spec := "ticketLooks", unfollowed := true, recurses := true, plainKeys := false, apart := false }
def TicketLooksSaid : Prop := ticketLooksRow.holds Try.pinned (OpenSpec.ofChange ticketLooksSpec)

/-- ITS FALSE NEIGHBOUR: 'it returns false'. Refute it at one input. -/
def ticketLooksWrong : ChangeSpec := { name := "ticketLooks", fn := fun _ => fun
  | [d] => { results := [.lit (.bool false)], args := [d] }
  | _ => none }
def TicketLooksWrongFalsely : Prop := ticketLooksRow.holds Try.pinned (OpenSpec.ofChange ticketLooksWrong)

/-- 'posserlaw01.TicketLeaves': WHATEVER THE INPUT: true; the input reads as it did. -/
def ticketLeavesSpec : ChangeSpec := { name := "ticketLeaves", fn := fun _ => fun
  | [d] => { results := [.lit (.bool true)], args := [d] }
  | _ => none }
def ticketLeavesRow : OpenClaim := { program := "ytbkfnajpbhfneaa", sum := "b7efa325903b89468d5c4701501c40b5a50583b2c1b08e931621d04ac6627eba", func := "posser/posserlaw01.TicketLeaves", spec := "ticketLeaves", unfollowed := true, recurses := true, plainKeys := false, apart := false }
def TicketLeavesSaid : Prop := ticketLeavesRow.holds Try.pinned (OpenSpec.ofChange ticketLeavesSpec)

/-- ITS FALSE NEIGHBOUR: 'it returns false'. Refute it at one input. -/
def ticketLeavesWrong : ChangeSpec := { name := "ticketLeaves", fn := fun _ => fun
  | [d] => { results := [.lit (.bool false)], args := [d] }
  | _ => none }
def TicketLeavesWrongFalsely : Prop := ticketLeavesRow.holds Try.pinned (OpenSpec.ofChange ticketLeavesWrong)

/-- 'posserlaw01.TicketEnds': WHATEVER THE INPUT: true; the input reads as it did. -/
def ticketEndsSpec : ChangeSpec := { name := "ticketEnds", fn := fun _ => fun
  | [d1, d2, d3] => { results := [.lit (.bool true)], args := [d1, d2, d3] }
  | _ => none }
def ticketEndsRow : OpenClaim := { program := "ytbkfnajpbhfneaa", sum := "b7efa325903b89468d5c4701501c40b5a50583b2c1b08e931621d04ac6627eba", func := "posser/posserlaw01.TicketEnds", spec := "ticketEnds", unfollowed := true, recurses := true, plainKeys := false, apart := false }
def TicketEndsSaid : Prop := ticketEndsRow.holds Try.pinned (OpenSpec.ofChange ticketEndsSpec)

/-- ITS FALSE NEIGHBOUR: 'it returns false'. Refute it at one input. -/
def ticketEndsWrong : ChangeSpec := { name := "ticketEnds", fn := fun _ => fun
  | [d1, d2, d3] => { results := [.lit (.bool false)], args := [d1, d2, d3] }
  | _ => none }
def TicketEndsWrongFalsely : Prop := ticketEndsRow.holds Try.pinned (OpenSpec.ofChange ticketEndsWrong)

/-- 'posserlaw01.TicketOnce': WHATEVER THE INPUT: true; the input reads as it did. -/
def ticketOnceSpec : ChangeSpec := { name := "ticketOnce", fn := fun _ => fun
  | [d] => { results := [.lit (.bool true)], args := [d] }
  | _ => none }
def ticketOnceRow : OpenClaim := { program := "ytbkfnajpbhfneaa", sum := "b7efa325903b89468d5c4701501c40b5a50583b2c1b08e931621d04ac6627eba", func := "posser/posserlaw01.TicketOnce", spec := "ticketOnce", unfollowed := true, recurses := true, plainKeys := false, apart := false }
def TicketOnceSaid : Prop := ticketOnceRow.holds Try.pinned (OpenSpec.ofChange ticketOnceSpec)

/-- ITS FALSE NEIGHBOUR: 'it returns false'. Refute it at one input. -/
def ticketOnceWrong : ChangeSpec := { name := "ticketOnce", fn := fun _ => fun
  | [d] => { results := [.lit (.bool false)], args := [d] }
  | _ => none }
def TicketOnceWrongFalsely : Prop := ticketOnceRow.holds Try.pinned (OpenSpec.ofChange ticketOnceWrong)

/-- 'posserlaw01.TicketSet': WHATEVER THE INPUT: true; the input reads as it did. -/
def ticketSetSpec : ChangeSpec := { name := "ticketSet", fn := fun _ => fun
  | [d1, d2, d3] => { results := [.lit (.bool true)], args := [d1, d2, d3] }
  | _ => none }
def ticketSetRow : OpenClaim := { program := "ytbkfnajpbhfneaa", sum := "b7efa325903b89468d5c4701501c40b5a50583b2c1b08e931621d04ac6627eba", func := "posser/posserlaw01.TicketSet", spec := "ticketSet", unfollowed := true, recurses := true, plainKeys := false, apart := false }
def TicketSetSaid : Prop := ticketSetRow.holds Try.pinned (OpenSpec.ofChange ticketSetSpec)

/-- ITS FALSE NEIGHBOUR: 'it returns false'. Refute it at one input. -/
def ticketSetWrong : ChangeSpec := { name := "ticketSet", fn := fun _ => fun
  | [d1, d2, d3] => { results := [.lit (.bool false)], args := [d1, d2, d3] }
  | _ => none }
def TicketSetWrongFalsely : Prop := ticketSetRow.holds Try.pinned (OpenSpec.ofChange ticketSetWrong)

/-- 'posserlaw01.TicketMore': WHATEVER THE INPUT: true; the input reads as it did. -/
def ticketMoreSpec : ChangeSpec := { name := "ticketMore", fn := fun _ => fun
  | [d1, d2] => { results := [.lit (.bool true)], args := [d1, d2] }
  | _ => none }
def ticketMoreRow : OpenClaim := { program := "ytbkfnajpbhfneaa", sum := "b7efa325903b89468d5c4701501c40b5a50583b2c1b08e931621d04ac6627eba", func := "posser/posserlaw01.TicketMore", spec := "ticketMore", unfollowed := true, recurses := true, plainKeys := false, apart := false }
def TicketMoreSaid : Prop := ticketMoreRow.holds Try.pinned (OpenSpec.ofChange ticketMoreSpec)

/-- ITS FALSE NEIGHBOUR: 'it returns false'. Refute it at one input. -/
def ticketMoreWrong : ChangeSpec := { name := "ticketMore", fn := fun _ => fun
  | [d1, d2] => { results := [.lit (.bool false)], args := [d1, d2] }
  | _ => none }
def TicketMoreWrongFalsely : Prop := ticketMoreRow.holds Try.pinned (OpenSpec.ofChange ticketMoreWrong)

/-- 'posserlaw01.TicketWider': WHATEVER THE INPUT: true; the input reads as it did. -/
def ticketWiderSpec : ChangeSpec := { name := "ticketWider", fn := fun _ => fun
  | [d1, d2, d3] => { results := [.lit (.bool true)], args := [d1, d2, d3] }
  | _ => none }
def ticketWiderRow : OpenClaim := { program := "ytbkfnajpbhfneaa", sum := "b7efa325903b89468d5c4701501c40b5a50583b2c1b08e931621d04ac6627eba", func := "posser/posserlaw01.TicketWider", spec := "ticketWider", unfollowed := true, recurses := true, plainKeys := false, apart := false }
def TicketWiderSaid : Prop := ticketWiderRow.holds Try.pinned (OpenSpec.ofChange ticketWiderSpec)

/-- ITS FALSE NEIGHBOUR: 'it returns false'. Refute it at one input. -/
def ticketWiderWrong : ChangeSpec := { name := "ticketWider", fn := fun _ => fun
  | [d1, d2, d3] => { results := [.lit (.bool false)], args := [d1, d2, d3] }
  | _ => none }
def TicketWiderWrongFalsely : Prop := ticketWiderRow.holds Try.pinned (OpenSpec.ofChange ticketWiderWrong)

/-- 'posserlaw01.TicketLonger': WHATEVER THE INPUT: true; the input reads as it did. -/
def ticketLongerSpec : ChangeSpec := { name := "ticketLonger", fn := fun _ => fun
  | [d1, d2, d3] => { results := [.lit (.bool true)], args := [d1, d2, d3] }
  | _ => none }
def ticketLongerRow : OpenClaim := { program := "ytbkfnajpbhfneaa", sum := "b7efa325903b89468d5c4701501c40b5a50583b2c1b08e931621d04ac6627eba", func := "posser/posserlaw01.TicketLonger", spec := "ticketLonger", unfollowed := true, recurses := true, plainKeys := false, apart := false }
def TicketLongerSaid : Prop := ticketLongerRow.holds Try.pinned (OpenSpec.ofChange ticketLongerSpec)

/-- ITS FALSE NEIGHBOUR: 'it returns false'. Refute it at one input. -/
def ticketLongerWrong : ChangeSpec := { name := "ticketLonger", fn := fun _ => fun
  | [d1, d2, d3] => { results := [.lit (.bool false)], args := [d1, d2, d3] }
  | _ => none }
def TicketLongerWrongFalsely : Prop := ticketLongerRow.holds Try.pinned (OpenSpec.ofChange ticketLongerWrong)

/-- 'posserlaw01.TicketCompared': WHATEVER THE INPUT: true; the input reads as it did. -/
def ticketComparedSpec : ChangeSpec := { name := "ticketCompared", fn := fun _ => fun
  | [d1, d2] => { results := [.lit (.bool true)], args := [d1, d2] }
  | _ => none }
def ticketComparedRow : OpenClaim := { program := "ytbkfnajpbhfneaa", sum := "b7efa325903b89468d5c4701501c40b5a50583b2c1b08e931621d04ac6627eba", func := "posser/posserlaw01.TicketCompared", spec := "ticketCompared", unfollowed := true, recurses := true, plainKeys := false, apart := false }
def TicketComparedSaid : Prop := ticketComparedRow.holds Try.pinned (OpenSpec.ofChange ticketComparedSpec)

/-- ITS FALSE NEIGHBOUR: 'it returns false'. Refute it at one input. -/
def ticketComparedWrong : ChangeSpec := { name := "ticketCompared", fn := fun _ => fun
  | [d1, d2] => { results := [.lit (.bool false)], args := [d1, d2] }
  | _ => none }
def TicketComparedWrongFalsely : Prop := ticketComparedRow.holds Try.pinned (OpenSpec.ofChange ticketComparedWrong)

/-- 'posserlaw01.TicketTubs': WHATEVER THE INPUT: true; the input reads as it did. -/
def ticketTubsSpec : ChangeSpec := { name := "ticketTubs", fn := fun _ => fun
  | [d1, d2, d3, d4] => { results := [.lit (.bool true)], args := [d1, d2, d3, d4] }
  | _ => none }
def ticketTubsRow : OpenClaim := { program := "ytbkfnajpbhfneaa", sum := "b7efa325903b89468d5c4701501c40b5a50583b2c1b08e931621d04ac6627eba", func := "posser/posserlaw01.TicketTubs", spec := "ticketTubs", unfollowed := true, recurses := true, plainKeys := false, apart := false }
def TicketTubsSaid : Prop := ticketTubsRow.holds Try.pinned (OpenSpec.ofChange ticketTubsSpec)

/-- ITS FALSE NEIGHBOUR: 'it returns false'. Refute it at one input. -/
def ticketTubsWrong : ChangeSpec := { name := "ticketTubs", fn := fun _ => fun
  | [d1, d2, d3, d4] => { results := [.lit (.bool false)], args := [d1, d2, d3, d4] }
  | _ => none }
def TicketTubsWrongFalsely : Prop := ticketTubsRow.holds Try.pinned (OpenSpec.ofChange ticketTubsWrong)

/-- 'posserlaw01.TicketFirst': WHATEVER THE INPUT: true; the input reads as it did. -/
def ticketFirstSpec : ChangeSpec := { name := "ticketFirst", fn := fun _ => fun
  | [d] => { results := [.lit (.bool true)], args := [d] }
  | _ => none }
def ticketFirstRow : OpenClaim := { program := "ytbkfnajpbhfneaa", sum := "b7efa325903b89468d5c4701501c40b5a50583b2c1b08e931621d04ac6627eba", func := "posser/posserlaw01.TicketFirst", spec := "ticketFirst", unfollowed := true, recurses := true, plainKeys := false, apart := false }
def TicketFirstSaid : Prop := ticketFirstRow.holds Try.pinned (OpenSpec.ofChange ticketFirstSpec)

/-- ITS FALSE NEIGHBOUR: 'it returns false'. Refute it at one input. -/
def ticketFirstWrong : ChangeSpec := { name := "ticketFirst", fn := fun _ => fun
  | [d] => { results := [.lit (.bool false)], args := [d] }
  | _ => none }
def TicketFirstWrongFalsely : Prop := ticketFirstRow.holds Try.pinned (OpenSpec.ofChange ticketFirstWrong)

/-- 'posserlaw01.TicketLeft': WHATEVER THE INPUT: true; the input reads as it did. -/
def ticketLeftSpec : ChangeSpec := { name := "ticketLeft", fn := fun _ => fun
  | [d1, d2] => { results := [.lit (.bool true)], args := [d1, d2] }
  | _ => none }
def ticketLeftRow : OpenClaim := { program := "ytbkfnajpbhfneaa", sum := "b7efa325903b89468d5c4701501c40b5a50583b2c1b08e931621d04ac6627eba", func := "posser/posserlaw01.TicketLeft", spec := "ticketLeft", unfollowed := true, recurses := true, plainKeys := false, apart := false }
def TicketLeftSaid : Prop := ticketLeftRow.holds Try.pinned (OpenSpec.ofChange ticketLeftSpec)

/-- ITS FALSE NEIGHBOUR: 'it returns false'. Refute it at one input. -/
def ticketLeftWrong : ChangeSpec := { name := "ticketLeft", fn := fun _ => fun
  | [d1, d2] => { results := [.lit (.bool false)], args := [d1, d2] }
  | _ => none }
def TicketLeftWrongFalsely : Prop := ticketLeftRow.holds Try.pinned (OpenSpec.ofChange ticketLeftWrong)

/-- 'posserlaw01.TicketPlays': WHATEVER THE INPUT: true; the input reads as it did. -/
def ticketPlaysSpec : ChangeSpec := { name := "ticketPlays", fn := fun _ => fun
  | [d1, d2] => { results := [.lit (.bool true)], args := [d1, d2] }
  | _ => none }
def ticketPlaysRow : OpenClaim := { program := "ytbkfnajpbhfneaa", sum := "b7efa325903b89468d5c4701501c40b5a50583b2c1b08e931621d04ac6627eba", func := "posser/posserlaw01.TicketPlays", spec := "ticketPlays", unfollowed := true, recurses := true, plainKeys := false, apart := false }
def TicketPlaysSaid : Prop := ticketPlaysRow.holds Try.pinned (OpenSpec.ofChange ticketPlaysSpec)

/-- ITS FALSE NEIGHBOUR: 'it returns false'. Refute it at one input. -/
def ticketPlaysWrong : ChangeSpec := { name := "ticketPlays", fn := fun _ => fun
  | [d1, d2] => { results := [.lit (.bool false)], args := [d1, d2] }
  | _ => none }
def TicketPlaysWrongFalsely : Prop := ticketPlaysRow.holds Try.pinned (OpenSpec.ofChange ticketPlaysWrong)

/-- 'posserlaw01.TicketNames': WHATEVER THE INPUT: true; the input reads as it did. -/
def ticketNamesSpec : ChangeSpec := { name := "ticketNames", fn := fun _ => fun
  | [] => { results := [.lit (.bool true)], args := [] }
  | _ => none }
def ticketNamesRow : OpenClaim := { program := "ytbkfnajpbhfneaa", sum := "b7efa325903b89468d5c4701501c40b5a50583b2c1b08e931621d04ac6627eba", func := "posser/posserlaw01.TicketNames", spec := "ticketNames", unfollowed := true, recurses := true, plainKeys := false, apart := false }
def TicketNamesSaid : Prop := ticketNamesRow.holds Try.pinned (OpenSpec.ofChange ticketNamesSpec)

/-- ITS FALSE NEIGHBOUR: 'it returns false'. Refute it at one input. -/
def ticketNamesWrong : ChangeSpec := { name := "ticketNames", fn := fun _ => fun
  | [] => { results := [.lit (.bool false)], args := [] }
  | _ => none }
def TicketNamesWrongFalsely : Prop := ticketNamesRow.holds Try.pinned (OpenSpec.ofChange ticketNamesWrong)

/-- 'posserlaw01.TicketTruth': WHATEVER THE INPUT: true; the input reads as it did. -/
def ticketTruthSpec : ChangeSpec := { name := "ticketTruth", fn := fun _ => fun
  | [d1, d2] => { results := [.lit (.bool true)], args := [d1, d2] }
  | _ => none }
def ticketTruthRow : OpenClaim := { program := "ytbkfnajpbhfneaa", sum := "b7efa325903b89468d5c4701501c40b5a50583b2c1b08e931621d04ac6627eba", func := "posser/posserlaw01.TicketTruth", spec := "ticketTruth", unfollowed := true, recurses := true, plainKeys := false, apart := false }
def TicketTruthSaid : Prop := ticketTruthRow.holds Try.pinned (OpenSpec.ofChange ticketTruthSpec)

/-- ITS FALSE NEIGHBOUR: 'it returns false'. Refute it at one input. -/
def ticketTruthWrong : ChangeSpec := { name := "ticketTruth", fn := fun _ => fun
  | [d1, d2] => { results := [.lit (.bool false)], args := [d1, d2] }
  | _ => none }
def TicketTruthWrongFalsely : Prop := ticketTruthRow.holds Try.pinned (OpenSpec.ofChange ticketTruthWrong)

/- THE SECOND FORM. 'bulk': how many values and letters a reading holds, each counted each time it is reached (what is shared counts as often as it is met; a slice's spare places count too). A statement '..UptoSaid' is the law's where the arguments, and the package variables that the reading takes, are together of bulk at most 1048576: NARROWER than '..Said'. Prove '..Said' where nothing that the law and all that it calls make is longer than what came in: it says more and counts as full. Else prove '..UptoSaid'. A law counts once. -/
mutual
def uptoBulk {H : Type} : DataW H → Nat
  | .lit (.string bytes) => bytes.length + 1
  | .lit _ => 1
  | .nil => 1
  | .ptr d => uptoBulk d + 1
  | .slice elems spare => uptoBulkAll elems + uptoBulkAll spare + 1
  | .agg parts => uptoBulkAll parts + 1
  | .iface _ d => uptoBulk d + 1
  | .map entries => uptoBulkEntries entries + 1
  | .held _ => 1
def uptoBulkAll {H : Type} : List (DataW H) → Nat
  | [] => 0
  | d :: r => uptoBulk d + uptoBulkAll r
def uptoBulkEntries {H : Type} : List (Lit × DataW H) → Nat
  | [] => 0
  | x :: r => uptoBulkEntry x + uptoBulkEntries r
def uptoBulkEntry {H : Type} : Lit × DataW H → Nat
  | (.string bytes, d) => bytes.length + uptoBulk d + 1
  | (_, d) => uptoBulk d + 1
 end
def uptoSmall : (H : Type) → List (DataW H) → Bool := fun _ ds => decide (uptoBulkAll ds ≤ 1048576)
def OpenSpec.upto (s : _root_.Go.ChangeSpec) : _root_.Go.OpenSpec := { _root_.Go.OpenSpec.ofChange s with cond := some uptoSmall }

/-- 'posserlaw01.TicketBounds', WHERE WHAT IT READS IS OF BULK AT MOST 1048576: true; the input reads as it did. -/
def ticketBoundsUptoRow : OpenClaim := { program := "ytbkfnajpbhfneaa", sum := "b7efa325903b89468d5c4701501c40b5a50583b2c1b08e931621d04ac6627eba", func := "posser/posserlaw01.TicketBounds", spec := "ticketBounds", unfollowed := true, recurses := true, plainKeys := false, apart := false, narrowed := true }
def TicketBoundsUptoSaid : Prop := ticketBoundsUptoRow.holds Try.pinned (OpenSpec.upto ticketBoundsSpec)

/-- 'posserlaw01.TicketLong', WHERE WHAT IT READS IS OF BULK AT MOST 1048576: true; the input reads as it did. -/
def ticketLongUptoRow : OpenClaim := { program := "ytbkfnajpbhfneaa", sum := "b7efa325903b89468d5c4701501c40b5a50583b2c1b08e931621d04ac6627eba", func := "posser/posserlaw01.TicketLong", spec := "ticketLong", unfollowed := true, recurses := true, plainKeys := false, apart := false, narrowed := true }
def TicketLongUptoSaid : Prop := ticketLongUptoRow.holds Try.pinned (OpenSpec.upto ticketLongSpec)

/-- 'posserlaw01.TicketClashes', WHERE WHAT IT READS IS OF BULK AT MOST 1048576: true; the input reads as it did. -/
def ticketClashesUptoRow : OpenClaim := { program := "ytbkfnajpbhfneaa", sum := "b7efa325903b89468d5c4701501c40b5a50583b2c1b08e931621d04ac6627eba", func := "posser/posserlaw01.TicketClashes", spec := "ticketClashes", unfollowed := true, recurses := true, plainKeys := false, apart := false, narrowed := true }
def TicketClashesUptoSaid : Prop := ticketClashesUptoRow.holds Try.pinned (OpenSpec.upto ticketClashesSpec)

/-- 'posserlaw01.TicketFree', WHERE WHAT IT READS IS OF BULK AT MOST 1048576: true; the input reads as it did. -/
def ticketFreeUptoRow : OpenClaim := { program := "ytbkfnajpbhfneaa", sum := "b7efa325903b89468d5c4701501c40b5a50583b2c1b08e931621d04ac6627eba", func := "posser/posserlaw01.TicketFree", spec := "ticketFree", unfollowed := true, recurses := true, plainKeys := false, apart := false, narrowed := true }
def TicketFreeUptoSaid : Prop := ticketFreeUptoRow.holds Try.pinned (OpenSpec.upto ticketFreeSpec)

/-- 'posserlaw01.TicketLooks', WHERE WHAT IT READS IS OF BULK AT MOST 1048576: true; the input reads as it did. -/
def ticketLooksUptoRow : OpenClaim := { program := "ytbkfnajpbhfneaa", sum := "b7efa325903b89468d5c4701501c40b5a50583b2c1b08e931621d04ac6627eba", func := "posser/posserlaw01.TicketLooks", spec := "ticketLooks", unfollowed := true, recurses := true, plainKeys := false, apart := false, narrowed := true }
def TicketLooksUptoSaid : Prop := ticketLooksUptoRow.holds Try.pinned (OpenSpec.upto ticketLooksSpec)

/-- 'posserlaw01.TicketLeaves', WHERE WHAT IT READS IS OF BULK AT MOST 1048576: true; the input reads as it did. -/
def ticketLeavesUptoRow : OpenClaim := { program := "ytbkfnajpbhfneaa", sum := "b7efa325903b89468d5c4701501c40b5a50583b2c1b08e931621d04ac6627eba", func := "posser/posserlaw01.TicketLeaves", spec := "ticketLeaves", unfollowed := true, recurses := true, plainKeys := false, apart := false, narrowed := true }
def TicketLeavesUptoSaid : Prop := ticketLeavesUptoRow.holds Try.pinned (OpenSpec.upto ticketLeavesSpec)

/-- 'posserlaw01.TicketEnds', WHERE WHAT IT READS IS OF BULK AT MOST 1048576: true; the input reads as it did. -/
def ticketEndsUptoRow : OpenClaim := { program := "ytbkfnajpbhfneaa", sum := "b7efa325903b89468d5c4701501c40b5a50583b2c1b08e931621d04ac6627eba", func := "posser/posserlaw01.TicketEnds", spec := "ticketEnds", unfollowed := true, recurses := true, plainKeys := false, apart := false, narrowed := true }
def TicketEndsUptoSaid : Prop := ticketEndsUptoRow.holds Try.pinned (OpenSpec.upto ticketEndsSpec)

/-- 'posserlaw01.TicketOnce', WHERE WHAT IT READS IS OF BULK AT MOST 1048576: true; the input reads as it did. -/
def ticketOnceUptoRow : OpenClaim := { program := "ytbkfnajpbhfneaa", sum := "b7efa325903b89468d5c4701501c40b5a50583b2c1b08e931621d04ac6627eba", func := "posser/posserlaw01.TicketOnce", spec := "ticketOnce", unfollowed := true, recurses := true, plainKeys := false, apart := false, narrowed := true }
def TicketOnceUptoSaid : Prop := ticketOnceUptoRow.holds Try.pinned (OpenSpec.upto ticketOnceSpec)

/-- 'posserlaw01.TicketSet', WHERE WHAT IT READS IS OF BULK AT MOST 1048576: true; the input reads as it did. -/
def ticketSetUptoRow : OpenClaim := { program := "ytbkfnajpbhfneaa", sum := "b7efa325903b89468d5c4701501c40b5a50583b2c1b08e931621d04ac6627eba", func := "posser/posserlaw01.TicketSet", spec := "ticketSet", unfollowed := true, recurses := true, plainKeys := false, apart := false, narrowed := true }
def TicketSetUptoSaid : Prop := ticketSetUptoRow.holds Try.pinned (OpenSpec.upto ticketSetSpec)

/-- 'posserlaw01.TicketMore', WHERE WHAT IT READS IS OF BULK AT MOST 1048576: true; the input reads as it did. -/
def ticketMoreUptoRow : OpenClaim := { program := "ytbkfnajpbhfneaa", sum := "b7efa325903b89468d5c4701501c40b5a50583b2c1b08e931621d04ac6627eba", func := "posser/posserlaw01.TicketMore", spec := "ticketMore", unfollowed := true, recurses := true, plainKeys := false, apart := false, narrowed := true }
def TicketMoreUptoSaid : Prop := ticketMoreUptoRow.holds Try.pinned (OpenSpec.upto ticketMoreSpec)

/-- 'posserlaw01.TicketWider', WHERE WHAT IT READS IS OF BULK AT MOST 1048576: true; the input reads as it did. -/
def ticketWiderUptoRow : OpenClaim := { program := "ytbkfnajpbhfneaa", sum := "b7efa325903b89468d5c4701501c40b5a50583b2c1b08e931621d04ac6627eba", func := "posser/posserlaw01.TicketWider", spec := "ticketWider", unfollowed := true, recurses := true, plainKeys := false, apart := false, narrowed := true }
def TicketWiderUptoSaid : Prop := ticketWiderUptoRow.holds Try.pinned (OpenSpec.upto ticketWiderSpec)

/-- 'posserlaw01.TicketLonger', WHERE WHAT IT READS IS OF BULK AT MOST 1048576: true; the input reads as it did. -/
def ticketLongerUptoRow : OpenClaim := { program := "ytbkfnajpbhfneaa", sum := "b7efa325903b89468d5c4701501c40b5a50583b2c1b08e931621d04ac6627eba", func := "posser/posserlaw01.TicketLonger", spec := "ticketLonger", unfollowed := true, recurses := true, plainKeys := false, apart := false, narrowed := true }
def TicketLongerUptoSaid : Prop := ticketLongerUptoRow.holds Try.pinned (OpenSpec.upto ticketLongerSpec)

/-- 'posserlaw01.TicketCompared', WHERE WHAT IT READS IS OF BULK AT MOST 1048576: true; the input reads as it did. -/
def ticketComparedUptoRow : OpenClaim := { program := "ytbkfnajpbhfneaa", sum := "b7efa325903b89468d5c4701501c40b5a50583b2c1b08e931621d04ac6627eba", func := "posser/posserlaw01.TicketCompared", spec := "ticketCompared", unfollowed := true, recurses := true, plainKeys := false, apart := false, narrowed := true }
def TicketComparedUptoSaid : Prop := ticketComparedUptoRow.holds Try.pinned (OpenSpec.upto ticketComparedSpec)

/-- 'posserlaw01.TicketTubs', WHERE WHAT IT READS IS OF BULK AT MOST 1048576: true; the input reads as it did. -/
def ticketTubsUptoRow : OpenClaim := { program := "ytbkfnajpbhfneaa", sum := "b7efa325903b89468d5c4701501c40b5a50583b2c1b08e931621d04ac6627eba", func := "posser/posserlaw01.TicketTubs", spec := "ticketTubs", unfollowed := true, recurses := true, plainKeys := false, apart := false, narrowed := true }
def TicketTubsUptoSaid : Prop := ticketTubsUptoRow.holds Try.pinned (OpenSpec.upto ticketTubsSpec)

/-- 'posserlaw01.TicketFirst', WHERE WHAT IT READS IS OF BULK AT MOST 1048576: true; the input reads as it did. -/
def ticketFirstUptoRow : OpenClaim := { program := "ytbkfnajpbhfneaa", sum := "b7efa325903b89468d5c4701501c40b5a50583b2c1b08e931621d04ac6627eba", func := "posser/posserlaw01.TicketFirst", spec := "ticketFirst", unfollowed := true, recurses := true, plainKeys := false, apart := false, narrowed := true }
def TicketFirstUptoSaid : Prop := ticketFirstUptoRow.holds Try.pinned (OpenSpec.upto ticketFirstSpec)

/-- 'posserlaw01.TicketLeft', WHERE WHAT IT READS IS OF BULK AT MOST 1048576: true; the input reads as it did. -/
def ticketLeftUptoRow : OpenClaim := { program := "ytbkfnajpbhfneaa", sum := "b7efa325903b89468d5c4701501c40b5a50583b2c1b08e931621d04ac6627eba", func := "posser/posserlaw01.TicketLeft", spec := "ticketLeft", unfollowed := true, recurses := true, plainKeys := false, apart := false, narrowed := true }
def TicketLeftUptoSaid : Prop := ticketLeftUptoRow.holds Try.pinned (OpenSpec.upto ticketLeftSpec)

/-- 'posserlaw01.TicketPlays', WHERE WHAT IT READS IS OF BULK AT MOST 1048576: true; the input reads as it did. -/
def ticketPlaysUptoRow : OpenClaim := { program := "ytbkfnajpbhfneaa", sum := "b7efa325903b89468d5c4701501c40b5a50583b2c1b08e931621d04ac6627eba", func := "posser/posserlaw01.TicketPlays", spec := "ticketPlays", unfollowed := true, recurses := true, plainKeys := false, apart := false, narrowed := true }
def TicketPlaysUptoSaid : Prop := ticketPlaysUptoRow.holds Try.pinned (OpenSpec.upto ticketPlaysSpec)

/-- 'posserlaw01.TicketNames', WHERE WHAT IT READS IS OF BULK AT MOST 1048576: true; the input reads as it did. -/
def ticketNamesUptoRow : OpenClaim := { program := "ytbkfnajpbhfneaa", sum := "b7efa325903b89468d5c4701501c40b5a50583b2c1b08e931621d04ac6627eba", func := "posser/posserlaw01.TicketNames", spec := "ticketNames", unfollowed := true, recurses := true, plainKeys := false, apart := false, narrowed := true }
def TicketNamesUptoSaid : Prop := ticketNamesUptoRow.holds Try.pinned (OpenSpec.upto ticketNamesSpec)

/-- 'posserlaw01.TicketTruth', WHERE WHAT IT READS IS OF BULK AT MOST 1048576: true; the input reads as it did. -/
def ticketTruthUptoRow : OpenClaim := { program := "ytbkfnajpbhfneaa", sum := "b7efa325903b89468d5c4701501c40b5a50583b2c1b08e931621d04ac6627eba", func := "posser/posserlaw01.TicketTruth", spec := "ticketTruth", unfollowed := true, recurses := true, plainKeys := false, apart := false, narrowed := true }
def TicketTruthUptoSaid : Prop := ticketTruthUptoRow.holds Try.pinned (OpenSpec.upto ticketTruthSpec)

end Rows
end Go.Proofs.Ytbkfnajpbhfneaa
