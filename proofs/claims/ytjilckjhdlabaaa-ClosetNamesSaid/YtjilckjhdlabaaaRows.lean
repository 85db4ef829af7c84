/-
  No cell of these rows narrows 'for every input' (looked for: loops, veiled, ifaces, maps, wideKeys, modest, calm, conditions, laid).
  DERIVED. THE GIVEN ROWS OF THIS SEAT. 20 by the template 'for every input the law returns true; each argument reads behind the call as it read before'; 0 by the template 'total and deterministic' (their statements: YtjilckjhdlabaaaTotals.lean).
  GIVEN WITH THE SEED: the statements are not yours to turn. If you find one false, say at which input.
  Laid BY PROGRAM, IN A SANDBOX (cutbox-rows.mjs): the forced cells as the released guide's own fill.sh prints them over the translation eec9b97d6122acb6… (all of the seat's roots in one cut). By AI agents, Wed Nov 11 2026. No macro, syntax, notation, axiom, sorry.
-/
import Derived.Test.YtjilckjhdlabaaaChecked
import GoSem.Claim
import GoSem.ClaimJoined
import GoSem.ClaimMapViews
import Derived.JoinedTies
import Derived.KernelRfl
namespace Go.Proofs.Ytjilckjhdlabaaa
/- THE CELL 'sum', in the pinned program and in every row, IS THE sha256 OF THE DUMP (.gsa) THAT YtjilckjhdlabaaaProg.lean LOADS. Nothing in Lean hashes anything: it is a label: what it is worth is what the hold of that sum in a sandbox is worth. -/
noncomputable def Try.pinned : Pinned := { name := "ytjilckjhdlabaaa", sum := "eec9b97d6122acb63c735a8784ca353af8b6b8feb96d6991905e3253f219f514", checked := Try.checked }
namespace Rows
def none {H : Type} : Left H := { results := [], args := [] }

/-- 'posserlaw04.ClosetStuck': WHATEVER THE INPUT: true; the input reads as it did. -/
def closetStuckSpec : ChangeSpec := { name := "closetStuck", fn := fun _ => fun
  | [d1, d2] => { results := [.lit (.bool true)], args := [d1, d2] }
  | _ => none }
def closetStuckRow : OpenClaim := { program := "ytjilckjhdlabaaa", sum := "eec9b97d6122acb63c735a8784ca353af8b6b8feb96d6991905e3253f219f514", func := "posser/posserlaw04.ClosetStuck", spec := "closetStuck", unfollowed := true, recurses := true, plainKeys := false, apart := false }
def ClosetStuckSaid : Prop := closetStuckRow.holds Try.pinned (OpenSpec.ofChange closetStuckSpec)

/-- ITS FALSE NEIGHBOUR: 'it returns false'. Refute it at one input. -/
def closetStuckWrong : ChangeSpec := { name := "closetStuck", fn := fun _ => fun
  | [d1, d2] => { results := [.lit (.bool false)], args := [d1, d2] }
  | _ => none }
def ClosetStuckWrongFalsely : Prop := closetStuckRow.holds Try.pinned (OpenSpec.ofChange closetStuckWrong)

/-- 'posserlaw04.ClosetAsks': WHATEVER THE INPUT: true; the input reads as it did. -/
def closetAsksSpec : ChangeSpec := { name := "closetAsks", fn := fun _ => fun
  | [d] => { results := [.lit (.bool true)], args := [d] }
  | _ => none }
def closetAsksRow : OpenClaim := { program := "ytjilckjhdlabaaa", sum := "eec9b97d6122acb63c735a8784ca353af8b6b8feb96d6991905e3253f219f514", func := "posser/posserlaw04.ClosetAsks", spec := "closetAsks", unfollowed := true, recurses := true, plainKeys := false, apart := false }
def ClosetAsksSaid : Prop := closetAsksRow.holds Try.pinned (OpenSpec.ofChange closetAsksSpec)

/-- ITS FALSE NEIGHBOUR: 'it returns false'. Refute it at one input. -/
def closetAsksWrong : ChangeSpec := { name := "closetAsks", fn := fun _ => fun
  | [d] => { results := [.lit (.bool false)], args := [d] }
  | _ => none }
def ClosetAsksWrongFalsely : Prop := closetAsksRow.holds Try.pinned (OpenSpec.ofChange closetAsksWrong)

/-- 'posserlaw04.ClosetLeaves': WHATEVER THE INPUT: true; the input reads as it did. -/
def closetLeavesSpec : ChangeSpec := { name := "closetLeaves", fn := fun _ => fun
  | [d] => { results := [.lit (.bool true)], args := [d] }
  | _ => none }
def closetLeavesRow : OpenClaim := { program := "ytjilckjhdlabaaa", sum := "eec9b97d6122acb63c735a8784ca353af8b6b8feb96d6991905e3253f219f514", func := "posser/posserlaw04.ClosetLeaves", spec := "closetLeaves", unfollowed := true, recurses := true, plainKeys := false, apart := false }
def ClosetLeavesSaid : Prop := closetLeavesRow.holds Try.pinned (OpenSpec.ofChange closetLeavesSpec)

/-- ITS FALSE NEIGHBOUR: 'it returns false'. Refute it at one input. -/
def closetLeavesWrong : ChangeSpec := { name := "closetLeaves", fn := fun _ => fun
  | [d] => { results := [.lit (.bool false)], args := [d] }
  | _ => none }
def ClosetLeavesWrongFalsely : Prop := closetLeavesRow.holds Try.pinned (OpenSpec.ofChange closetLeavesWrong)

/-- 'posserlaw04.ClosetFirstStuck': WHATEVER THE INPUT: true; the input reads as it did. -/
def closetFirstStuckSpec : ChangeSpec := { name := "closetFirstStuck", fn := fun _ => fun
  | [d1, d2] => { results := [.lit (.bool true)], args := [d1, d2] }
  | _ => none }
def closetFirstStuckRow : OpenClaim := { program := "ytjilckjhdlabaaa", sum := "eec9b97d6122acb63c735a8784ca353af8b6b8feb96d6991905e3253f219f514", func := "posser/posserlaw04.ClosetFirstStuck", spec := "closetFirstStuck", unfollowed := true, recurses := true, plainKeys := false, apart := false }
def ClosetFirstStuckSaid : Prop := closetFirstStuckRow.holds Try.pinned (OpenSpec.ofChange closetFirstStuckSpec)

/-- ITS FALSE NEIGHBOUR: 'it returns false'. Refute it at one input. -/
def closetFirstStuckWrong : ChangeSpec := { name := "closetFirstStuck", fn := fun _ => fun
  | [d1, d2] => { results := [.lit (.bool false)], args := [d1, d2] }
  | _ => none }
def ClosetFirstStuckWrongFalsely : Prop := closetFirstStuckRow.holds Try.pinned (OpenSpec.ofChange closetFirstStuckWrong)

/-- 'posserlaw04.ClosetDrier': WHATEVER THE INPUT: true; the input reads as it did. -/
def closetDrierSpec : ChangeSpec := { name := "closetDrier", fn := fun _ => fun
  | [d1, d2, d3, d4, d5, d6] => { results := [.lit (.bool true)], args := [d1, d2, d3, d4, d5, d6] }
  | _ => none }
def closetDrierRow : OpenClaim := { program := "ytjilckjhdlabaaa", sum := "eec9b97d6122acb63c735a8784ca353af8b6b8feb96d6991905e3253f219f514", func := "posser/posserlaw04.ClosetDrier", spec := "closetDrier", unfollowed := true, recurses := true, plainKeys := false, apart := false }
def ClosetDrierSaid : Prop := closetDrierRow.holds Try.pinned (OpenSpec.ofChange closetDrierSpec)

/-- ITS FALSE NEIGHBOUR: 'it returns false'. Refute it at one input. -/
def closetDrierWrong : ChangeSpec := { name := "closetDrier", fn := fun _ => fun
  | [d1, d2, d3, d4, d5, d6] => { results := [.lit (.bool false)], args := [d1, d2, d3, d4, d5, d6] }
  | _ => none }
def ClosetDrierWrongFalsely : Prop := closetDrierRow.holds Try.pinned (OpenSpec.ofChange closetDrierWrong)

/-- 'posserlaw04.ClosetGrace': WHATEVER THE INPUT: true; the input reads as it did. -/
def closetGraceSpec : ChangeSpec := { name := "closetGrace", fn := fun _ => fun
  | [d1, d2, d3, d4] => { results := [.lit (.bool true)], args := [d1, d2, d3, d4] }
  | _ => none }
def closetGraceRow : OpenClaim := { program := "ytjilckjhdlabaaa", sum := "eec9b97d6122acb63c735a8784ca353af8b6b8feb96d6991905e3253f219f514", func := "posser/posserlaw04.ClosetGrace", spec := "closetGrace", unfollowed := true, recurses := true, plainKeys := false, apart := false }
def ClosetGraceSaid : Prop := closetGraceRow.holds Try.pinned (OpenSpec.ofChange closetGraceSpec)

/-- ITS FALSE NEIGHBOUR: 'it returns false'. Refute it at one input. -/
def closetGraceWrong : ChangeSpec := { name := "closetGrace", fn := fun _ => fun
  | [d1, d2, d3, d4] => { results := [.lit (.bool false)], args := [d1, d2, d3, d4] }
  | _ => none }
def ClosetGraceWrongFalsely : Prop := closetGraceRow.holds Try.pinned (OpenSpec.ofChange closetGraceWrong)

/-- 'posserlaw04.ClosetTurned': WHATEVER THE INPUT: true; the input reads as it did. -/
def closetTurnedSpec : ChangeSpec := { name := "closetTurned", fn := fun _ => fun
  | [d1, d2, d3] => { results := [.lit (.bool true)], args := [d1, d2, d3] }
  | _ => none }
def closetTurnedRow : OpenClaim := { program := "ytjilckjhdlabaaa", sum := "eec9b97d6122acb63c735a8784ca353af8b6b8feb96d6991905e3253f219f514", func := "posser/posserlaw04.ClosetTurned", spec := "closetTurned", unfollowed := true, recurses := true, plainKeys := false, apart := false }
def ClosetTurnedSaid : Prop := closetTurnedRow.holds Try.pinned (OpenSpec.ofChange closetTurnedSpec)

/-- ITS FALSE NEIGHBOUR: 'it returns false'. Refute it at one input. -/
def closetTurnedWrong : ChangeSpec := { name := "closetTurned", fn := fun _ => fun
  | [d1, d2, d3] => { results := [.lit (.bool false)], args := [d1, d2, d3] }
  | _ => none }
def ClosetTurnedWrongFalsely : Prop := closetTurnedRow.holds Try.pinned (OpenSpec.ofChange closetTurnedWrong)

/-- 'posserlaw04.ClosetAsked': WHATEVER THE INPUT: true; the input reads as it did. -/
def closetAskedSpec : ChangeSpec := { name := "closetAsked", fn := fun _ => fun
  | [d1, d2, d3, d4] => { results := [.lit (.bool true)], args := [d1, d2, d3, d4] }
  | _ => none }
def closetAskedRow : OpenClaim := { program := "ytjilckjhdlabaaa", sum := "eec9b97d6122acb63c735a8784ca353af8b6b8feb96d6991905e3253f219f514", func := "posser/posserlaw04.ClosetAsked", spec := "closetAsked", unfollowed := true, recurses := true, plainKeys := false, apart := false }
def ClosetAskedSaid : Prop := closetAskedRow.holds Try.pinned (OpenSpec.ofChange closetAskedSpec)

/-- ITS FALSE NEIGHBOUR: 'it returns false'. Refute it at one input. -/
def closetAskedWrong : ChangeSpec := { name := "closetAsked", fn := fun _ => fun
  | [d1, d2, d3, d4] => { results := [.lit (.bool false)], args := [d1, d2, d3, d4] }
  | _ => none }
def ClosetAskedWrongFalsely : Prop := closetAskedRow.holds Try.pinned (OpenSpec.ofChange closetAskedWrong)

/-- 'posserlaw04.ClosetRoom': WHATEVER THE INPUT: true; the input reads as it did. -/
def closetRoomSpec : ChangeSpec := { name := "closetRoom", fn := fun _ => fun
  | [d] => { results := [.lit (.bool true)], args := [d] }
  | _ => none }
def closetRoomRow : OpenClaim := { program := "ytjilckjhdlabaaa", sum := "eec9b97d6122acb63c735a8784ca353af8b6b8feb96d6991905e3253f219f514", func := "posser/posserlaw04.ClosetRoom", spec := "closetRoom", unfollowed := true, recurses := true, plainKeys := false, apart := false }
def ClosetRoomSaid : Prop := closetRoomRow.holds Try.pinned (OpenSpec.ofChange closetRoomSpec)

/-- ITS FALSE NEIGHBOUR: 'it returns false'. Refute it at one input. -/
def closetRoomWrong : ChangeSpec := { name := "closetRoom", fn := fun _ => fun
  | [d] => { results := [.lit (.bool false)], args := [d] }
  | _ => none }
def ClosetRoomWrongFalsely : Prop := closetRoomRow.holds Try.pinned (OpenSpec.ofChange closetRoomWrong)

/-- 'posserlaw04.ClosetPlays': WHATEVER THE INPUT: true; the input reads as it did. -/
def closetPlaysSpec : ChangeSpec := { name := "closetPlays", fn := fun _ => fun
  | [d1, d2, d3] => { results := [.lit (.bool true)], args := [d1, d2, d3] }
  | _ => none }
def closetPlaysRow : OpenClaim := { program := "ytjilckjhdlabaaa", sum := "eec9b97d6122acb63c735a8784ca353af8b6b8feb96d6991905e3253f219f514", func := "posser/posserlaw04.ClosetPlays", spec := "closetPlays", unfollowed := true, recurses := true, plainKeys := false, apart := false }
def ClosetPlaysSaid : Prop := closetPlaysRow.holds Try.pinned (OpenSpec.ofChange closetPlaysSpec)

/-- ITS FALSE NEIGHBOUR: 'it returns false'. Refute it at one input. -/
def closetPlaysWrong : ChangeSpec := { name := "closetPlays", fn := fun _ => fun
  | [d1, d2, d3] => { results := [.lit (.bool false)], args := [d1, d2, d3] }
  | _ => none }
def ClosetPlaysWrongFalsely : Prop := closetPlaysRow.holds Try.pinned (OpenSpec.ofChange closetPlaysWrong)

/-- 'posserlaw04.ClosetBest': WHATEVER THE INPUT: true; the input reads as it did. -/
def closetBestSpec : ChangeSpec := { name := "closetBest", fn := fun _ => fun
  | [d1, d2, d3] => { results := [.lit (.bool true)], args := [d1, d2, d3] }
  | _ => none }
def closetBestRow : OpenClaim := { program := "ytjilckjhdlabaaa", sum := "eec9b97d6122acb63c735a8784ca353af8b6b8feb96d6991905e3253f219f514", func := "posser/posserlaw04.ClosetBest", spec := "closetBest", unfollowed := true, recurses := true, plainKeys := false, apart := false }
def ClosetBestSaid : Prop := closetBestRow.holds Try.pinned (OpenSpec.ofChange closetBestSpec)

/-- ITS FALSE NEIGHBOUR: 'it returns false'. Refute it at one input. -/
def closetBestWrong : ChangeSpec := { name := "closetBest", fn := fun _ => fun
  | [d1, d2, d3] => { results := [.lit (.bool false)], args := [d1, d2, d3] }
  | _ => none }
def ClosetBestWrongFalsely : Prop := closetBestRow.holds Try.pinned (OpenSpec.ofChange closetBestWrong)

/-- 'posserlaw04.ClosetNoSooner': WHATEVER THE INPUT: true; the input reads as it did. -/
def closetNoSoonerSpec : ChangeSpec := { name := "closetNoSooner", fn := fun _ => fun
  | [d1, d2, d3] => { results := [.lit (.bool true)], args := [d1, d2, d3] }
  | _ => none }
def closetNoSoonerRow : OpenClaim := { program := "ytjilckjhdlabaaa", sum := "eec9b97d6122acb63c735a8784ca353af8b6b8feb96d6991905e3253f219f514", func := "posser/posserlaw04.ClosetNoSooner", spec := "closetNoSooner", unfollowed := true, recurses := true, plainKeys := false, apart := false }
def ClosetNoSoonerSaid : Prop := closetNoSoonerRow.holds Try.pinned (OpenSpec.ofChange closetNoSoonerSpec)

/-- ITS FALSE NEIGHBOUR: 'it returns false'. Refute it at one input. -/
def closetNoSoonerWrong : ChangeSpec := { name := "closetNoSooner", fn := fun _ => fun
  | [d1, d2, d3] => { results := [.lit (.bool false)], args := [d1, d2, d3] }
  | _ => none }
def ClosetNoSoonerWrongFalsely : Prop := closetNoSoonerRow.holds Try.pinned (OpenSpec.ofChange closetNoSoonerWrong)

/-- 'posserlaw04.ClosetRights': WHATEVER THE INPUT: true; the input reads as it did. -/
def closetRightsSpec : ChangeSpec := { name := "closetRights", fn := fun _ => fun
  | [d1, d2, d3, d4] => { results := [.lit (.bool true)], args := [d1, d2, d3, d4] }
  | _ => none }
def closetRightsRow : OpenClaim := { program := "ytjilckjhdlabaaa", sum := "eec9b97d6122acb63c735a8784ca353af8b6b8feb96d6991905e3253f219f514", func := "posser/posserlaw04.ClosetRights", spec := "closetRights", unfollowed := true, recurses := true, plainKeys := false, apart := false }
def ClosetRightsSaid : Prop := closetRightsRow.holds Try.pinned (OpenSpec.ofChange closetRightsSpec)

/-- ITS FALSE NEIGHBOUR: 'it returns false'. Refute it at one input. -/
def closetRightsWrong : ChangeSpec := { name := "closetRights", fn := fun _ => fun
  | [d1, d2, d3, d4] => { results := [.lit (.bool false)], args := [d1, d2, d3, d4] }
  | _ => none }
def ClosetRightsWrongFalsely : Prop := closetRightsRow.holds Try.pinned (OpenSpec.ofChange closetRightsWrong)

/-- 'posserlaw04.ClosetEnds': WHATEVER THE INPUT: true; the input reads as it did. -/
def closetEndsSpec : ChangeSpec := { name := "closetEnds", fn := fun _ => fun
  | [d1, d2, d3] => { results := [.lit (.bool true)], args := [d1, d2, d3] }
  | _ => none }
def closetEndsRow : OpenClaim := { program := "ytjilckjhdlabaaa", sum := "eec9b97d6122acb63c735a8784ca353af8b6b8feb96d6991905e3253f219f514", func := "posser/posserlaw04.ClosetEnds", spec := "closetEnds", unfollowed := true, recurses := true, plainKeys := false, apart := false }
def ClosetEndsSaid : Prop := closetEndsRow.holds Try.pinned (OpenSpec.ofChange closetEndsSpec)

/-- ITS FALSE NEIGHBOUR: 'it returns false'. Refute it at one input. -/
def closetEndsWrong : ChangeSpec := { name := "closetEnds", fn := fun _ => fun
  | [d1, d2, d3] => { results := [.lit (.bool false)], args := [d1, d2, d3] }
  | _ => none }
def ClosetEndsWrongFalsely : Prop := closetEndsRow.holds Try.pinned (OpenSpec.ofChange closetEndsWrong)

/-- 'posserlaw04.ClosetMore': WHATEVER THE INPUT: true; the input reads as it did. -/
def closetMoreSpec : ChangeSpec := { name := "closetMore", fn := fun _ => fun
  | [d1, d2, d3, d4, d5] => { results := [.lit (.bool true)], args := [d1, d2, d3, d4, d5] }
  | _ => none }
def closetMoreRow : OpenClaim := { program := "ytjilckjhdlabaaa", sum := "eec9b97d6122acb63c735a8784ca353af8b6b8feb96d6991905e3253f219f514", func := "posser/posserlaw04.ClosetMore", spec := "closetMore", unfollowed := true, recurses := true, plainKeys := false, apart := false }
def ClosetMoreSaid : Prop := closetMoreRow.holds Try.pinned (OpenSpec.ofChange closetMoreSpec)

/-- ITS FALSE NEIGHBOUR: 'it returns false'. Refute it at one input. -/
def closetMoreWrong : ChangeSpec := { name := "closetMore", fn := fun _ => fun
  | [d1, d2, d3, d4, d5] => { results := [.lit (.bool false)], args := [d1, d2, d3, d4, d5] }
  | _ => none }
def ClosetMoreWrongFalsely : Prop := closetMoreRow.holds Try.pinned (OpenSpec.ofChange closetMoreWrong)

/-- 'posserlaw04.ClosetFirst': WHATEVER THE INPUT: true; the input reads as it did. -/
def closetFirstSpec : ChangeSpec := { name := "closetFirst", fn := fun _ => fun
  | [d] => { results := [.lit (.bool true)], args := [d] }
  | _ => none }
def closetFirstRow : OpenClaim := { program := "ytjilckjhdlabaaa", sum := "eec9b97d6122acb63c735a8784ca353af8b6b8feb96d6991905e3253f219f514", func := "posser/posserlaw04.ClosetFirst", spec := "closetFirst", unfollowed := true, recurses := true, plainKeys := false, apart := false }
def ClosetFirstSaid : Prop := closetFirstRow.holds Try.pinned (OpenSpec.ofChange closetFirstSpec)

/-- ITS FALSE NEIGHBOUR: 'it returns false'. Refute it at one input. -/
def closetFirstWrong : ChangeSpec := { name := "closetFirst", fn := fun _ => fun
  | [d] => { results := [.lit (.bool false)], args := [d] }
  | _ => none }
def ClosetFirstWrongFalsely : Prop := closetFirstRow.holds Try.pinned (OpenSpec.ofChange closetFirstWrong)

/-- 'posserlaw04.ClosetLeft': WHATEVER THE INPUT: true; the input reads as it did. -/
def closetLeftSpec : ChangeSpec := { name := "closetLeft", fn := fun _ => fun
  | [d1, d2] => { results := [.lit (.bool true)], args := [d1, d2] }
  | _ => none }
def closetLeftRow : OpenClaim := { program := "ytjilckjhdlabaaa", sum := "eec9b97d6122acb63c735a8784ca353af8b6b8feb96d6991905e3253f219f514", func := "posser/posserlaw04.ClosetLeft", spec := "closetLeft", unfollowed := true, recurses := true, plainKeys := false, apart := false }
def ClosetLeftSaid : Prop := closetLeftRow.holds Try.pinned (OpenSpec.ofChange closetLeftSpec)

/-- ITS FALSE NEIGHBOUR: 'it returns false'. Refute it at one input. -/
def closetLeftWrong : ChangeSpec := { name := "closetLeft", fn := fun _ => fun
  | [d1, d2] => { results := [.lit (.bool false)], args := [d1, d2] }
  | _ => none }
def ClosetLeftWrongFalsely : Prop := closetLeftRow.holds Try.pinned (OpenSpec.ofChange closetLeftWrong)

/-- 'posserlaw04.ClosetTruth': WHATEVER THE INPUT: true; the input reads as it did. -/
def closetTruthSpec : ChangeSpec := { name := "closetTruth", fn := fun _ => fun
  | [d1, d2, d3, d4, d5] => { results := [.lit (.bool true)], args := [d1, d2, d3, d4, d5] }
  | _ => none }
def closetTruthRow : OpenClaim := { program := "ytjilckjhdlabaaa", sum := "eec9b97d6122acb63c735a8784ca353af8b6b8feb96d6991905e3253f219f514", func := "posser/posserlaw04.ClosetTruth", spec := "closetTruth", unfollowed := true, recurses := true, plainKeys := false, apart := false }
def ClosetTruthSaid : Prop := closetTruthRow.holds Try.pinned (OpenSpec.ofChange closetTruthSpec)

/-- ITS FALSE NEIGHBOUR: 'it returns false'. Refute it at one input. -/
def closetTruthWrong : ChangeSpec := { name := "closetTruth", fn := fun _ => fun
  | [d1, d2, d3, d4, d5] => { results := [.lit (.bool false)], args := [d1, d2, d3, d4, d5] }
  | _ => none }
def ClosetTruthWrongFalsely : Prop := closetTruthRow.holds Try.pinned (OpenSpec.ofChange closetTruthWrong)

/-- 'posserlaw04.ClosetWider': WHATEVER THE INPUT: true; the input reads as it did. -/
def closetWiderSpec : ChangeSpec := { name := "closetWider", fn := fun _ => fun
  | [d1, d2, d3, d4] => { results := [.lit (.bool true)], args := [d1, d2, d3, d4] }
  | _ => none }
def closetWiderRow : OpenClaim := { program := "ytjilckjhdlabaaa", sum := "eec9b97d6122acb63c735a8784ca353af8b6b8feb96d6991905e3253f219f514", func := "posser/posserlaw04.ClosetWider", spec := "closetWider", unfollowed := true, recurses := true, plainKeys := false, apart := false }
def ClosetWiderSaid : Prop := closetWiderRow.holds Try.pinned (OpenSpec.ofChange closetWiderSpec)

/-- ITS FALSE NEIGHBOUR: 'it returns false'. Refute it at one input. -/
def closetWiderWrong : ChangeSpec := { name := "closetWider", fn := fun _ => fun
  | [d1, d2, d3, d4] => { results := [.lit (.bool false)], args := [d1, d2, d3, d4] }
  | _ => none }
def ClosetWiderWrongFalsely : Prop := closetWiderRow.holds Try.pinned (OpenSpec.ofChange closetWiderWrong)

/-- 'posserlaw04.ClosetNames': WHATEVER THE INPUT: true; the input reads as it did. -/
def closetNamesSpec : ChangeSpec := { name := "closetNames", fn := fun _ => fun
  | [] => { results := [.lit (.bool true)], args := [] }
  | _ => none }
def closetNamesRow : OpenClaim := { program := "ytjilckjhdlabaaa", sum := "eec9b97d6122acb63c735a8784ca353af8b6b8feb96d6991905e3253f219f514", func := "posser/posserlaw04.ClosetNames", spec := "closetNames", unfollowed := true, recurses := true, plainKeys := false, apart := false }
def ClosetNamesSaid : Prop := closetNamesRow.holds Try.pinned (OpenSpec.ofChange closetNamesSpec)

/-- ITS FALSE NEIGHBOUR: 'it returns false'. Refute it at one input. -/
def closetNamesWrong : ChangeSpec := { name := "closetNames", fn := fun _ => fun
  | [] => { results := [.lit (.bool false)], args := [] }
  | _ => none }
def ClosetNamesWrongFalsely : Prop := closetNamesRow.holds Try.pinned (OpenSpec.ofChange closetNamesWrong)

/- THE SECOND FORM. 'bulk': how many values and letters a reading holds, each counted each time it is reached (what is shared counts as often as it is met; a slice's spare places count too). A statement '..UptoSaid' is the law's where the arguments, and the package variables that the reading takes, are together of bulk at most 1048576: NARROWER than '..Said'. Prove '..Said' where nothing that the law and all that it calls make is longer than what came in: it says more and counts as full. Else prove '..UptoSaid'. A law counts once. -/
mutual
def uptoBulk {H : Type} : DataW H → Nat
  | .lit (.string bytes) => bytes.length + 1
  | .lit _ => 1
  | .nil => 1
  | .ptr d => uptoBulk d + 1
  | .slice elems spare => uptoBulkAll elems + uptoBulkAll spare + 1
  | .agg parts => uptoBulkAll parts + 1
  | .iface _ d => uptoBulk d + 1
  | .map entries => uptoBulkEntries entries + 1
  | .held _ => 1
def uptoBulkAll {H : Type} : List (DataW H) → Nat
  | [] => 0
  | d :: r => uptoBulk d + uptoBulkAll r
def uptoBulkEntries {H : Type} : List (Lit × DataW H) → Nat
  | [] => 0
  | x :: r => uptoBulkEntry x + uptoBulkEntries r
def uptoBulkEntry {H : Type} : Lit × DataW H → Nat
  | (.string bytes, d) => bytes.length + uptoBulk d + 1
  | (_, d) => uptoBulk d + 1
 end
def uptoSmall : (H : Type) → List (DataW H) → Bool := fun _ ds => decide (uptoBulkAll ds ≤ 1048576)
def OpenSpec.upto (s : _root_.Go.ChangeSpec) : _root_.Go.OpenSpec := { _root_.Go.OpenSpec.ofChange s with cond := some uptoSmall }

/-- 'posserlaw04.ClosetStuck', WHERE WHAT IT READS IS OF BULK AT MOST 1048576: true; the input reads as it did. -/
def closetStuckUptoRow : OpenClaim := { program := "ytjilckjhdlabaaa", sum := "eec9b97d6122acb63c735a8784ca353af8b6b8feb96d6991905e3253f219f514", func := "posser/posserlaw04.ClosetStuck", spec := "closetStuck", unfollowed := true, recurses := true, plainKeys := false, apart := false, narrowed := true }
def ClosetStuckUptoSaid : Prop := closetStuckUptoRow.holds Try.pinned (OpenSpec.upto closetStuckSpec)

/-- 'posserlaw04.ClosetAsks', WHERE WHAT IT READS IS OF BULK AT MOST 1048576: true; the input reads as it did. -/
def closetAsksUptoRow : OpenClaim := { program := "ytjilckjhdlabaaa", sum := "eec9b97d6122acb63c735a8784ca353af8b6b8feb96d6991905e3253f219f514", func := "posser/posserlaw04.ClosetAsks", spec := "closetAsks", unfollowed := true, recurses := true, plainKeys := false, apart := false, narrowed := true }
def ClosetAsksUptoSaid : Prop := closetAsksUptoRow.holds Try.pinned (OpenSpec.upto closetAsksSpec)

/-- 'posserlaw04.ClosetLeaves', WHERE WHAT IT READS IS OF BULK AT MOST 1048576: true; the input reads as it did. -/
def closetLeavesUptoRow : OpenClaim := { program := "ytjilckjhdlabaaa", sum := "eec9b97d6122acb63c735a8784ca353af8b6b8feb96d6991905e3253f219f514", func := "posser/posserlaw04.ClosetLeaves", spec := "closetLeaves", unfollowed := true, recurses := true, plainKeys := false, apart := false, narrowed := true }
def ClosetLeavesUptoSaid : Prop := closetLeavesUptoRow.holds Try.pinned (OpenSpec.upto closetLeavesSpec)

/-- 'posserlaw04.ClosetFirstStuck', WHERE WHAT IT READS IS OF BULK AT MOST 1048576: true; the input reads as it did. -/
def closetFirstStuckUptoRow : OpenClaim := { program := "ytjilckjhdlabaaa", sum := "eec9b97d6122acb63c735a8784ca353af8b6b8feb96d6991905e3253f219f514", func := "posser/posserlaw04.ClosetFirstStuck", spec := "closetFirstStuck", unfollowed := true, recurses := true, plainKeys := false, apart := false, narrowed := true }
def ClosetFirstStuckUptoSaid : Prop := closetFirstStuckUptoRow.holds Try.pinned (OpenSpec.upto closetFirstStuckSpec)

/-- 'posserlaw04.ClosetDrier', WHERE WHAT IT READS IS OF BULK AT MOST 1048576: true; the input reads as it did. -/
def closetDrierUptoRow : OpenClaim := { program := "ytjilckjhdlabaaa", sum := "eec9b97d6122acb63c735a8784ca353af8b6b8feb96d6991905e3253f219f514", func := "posser/posserlaw04.ClosetDrier", spec := "closetDrier", unfollowed := true, recurses := true, plainKeys := false, apart := false, narrowed := true }
def ClosetDrierUptoSaid : Prop := closetDrierUptoRow.holds Try.pinned (OpenSpec.upto closetDrierSpec)

/-- 'posserlaw04.ClosetGrace', WHERE WHAT IT READS IS OF BULK AT MOST 1048576: true; the input reads as it did. -/
def closetGraceUptoRow : OpenClaim := { program := "ytjilckjhdlabaaa", sum := "eec9b97d6122acb63c735a8784ca353af8b6b8feb96d6991905e3253f219f514", func := "posser/posserlaw04.ClosetGrace", spec := "closetGrace", unfollowed := true, recurses := true, plainKeys := false, apart := false, narrowed := true }
def ClosetGraceUptoSaid : Prop := closetGraceUptoRow.holds Try.pinned (OpenSpec.upto closetGraceSpec)

/-- 'posserlaw04.ClosetTurned', WHERE WHAT IT READS IS OF BULK AT MOST 1048576: true; the input reads as it did. -/
def closetTurnedUptoRow : OpenClaim := { program := "ytjilckjhdlabaaa", sum := "eec9b97d6122acb63c735a8784ca353af8b6b8feb96d6991905e3253f219f514", func := "posser/posserlaw04.ClosetTurned", spec := "closetTurned", unfollowed := true, recurses := true, plainKeys := false, apart := false, narrowed := true }
def ClosetTurnedUptoSaid : Prop := closetTurnedUptoRow.holds Try.pinned (OpenSpec.upto closetTurnedSpec)

/-- 'posserlaw04.ClosetAsked', WHERE WHAT IT READS IS OF BULK AT MOST 1048576: true; the input reads as it did. -/
def closetAskedUptoRow : OpenClaim := { program := "ytjilckjhdlabaaa", sum := "eec9b97d6122acb63c735a8784ca353af8b6b8feb96d6991905e3253f219f514", func := "posser/posserlaw04.ClosetAsked", spec := "closetAsked", unfollowed := true, recurses := true, plainKeys := false, apart := false, narrowed := true }
def ClosetAskedUptoSaid : Prop := closetAskedUptoRow.holds Try.pinned (OpenSpec.upto closetAskedSpec)

/-- 'posserlaw04.ClosetRoom', WHERE WHAT IT READS IS OF BULK AT MOST 1048576: true; the input reads as it did. -/
def closetRoomUptoRow : OpenClaim := { program := "ytjilckjhdlabaaa", sum := "eec9b97d6122acb63c735a8784ca353af8b6b8feb96d6991905e3253f219f514", func := "posser/posserlaw04.ClosetRoom", spec := "closetRoom", unfollowed := true, recurses := true, plainKeys := false, apart := false, narrowed := true }
def ClosetRoomUptoSaid : Prop := closetRoomUptoRow.holds Try.pinned (OpenSpec.upto closetRoomSpec)

/-- 'posserlaw04.ClosetPlays', WHERE WHAT IT READS IS OF BULK AT MOST 1048576: true; the input reads as it did. -/
def closetPlaysUptoRow : OpenClaim := { program := "ytjilckjhdlabaaa", sum := "eec9b97d6122acb63c735a8784ca353af8b6b8feb96d6991905e3253f219f514", func := "posser/posserlaw04.ClosetPlays", spec := "closetPlays", unfollowed := true, recurses := true, plainKeys := false, apart := false, narrowed := true }
def ClosetPlaysUptoSaid : Prop := closetPlaysUptoRow.holds Try.pinned (OpenSpec.upto closetPlaysSpec)

/-- 'posserlaw04.ClosetBest', WHERE WHAT IT READS IS OF BULK AT MOST 1048576: true; the input reads as it did. -/
def closetBestUptoRow : OpenClaim := { program := "ytjilckjhdlabaaa", sum := "eec9b97d6122acb63c735a8784ca353af8b6b8feb96d6991905e3253f219f514", func := "posser/posserlaw04.ClosetBest", spec := "closetBest", unfollowed := true, recurses := true, plainKeys := false, apart := false, narrowed := true }
def ClosetBestUptoSaid : Prop := closetBestUptoRow.holds Try.pinned (OpenSpec.upto closetBestSpec)

/-- 'posserlaw04.ClosetNoSooner', WHERE WHAT IT READS IS OF BULK AT MOST 1048576: true; the input reads as it did. -/
def closetNoSoonerUptoRow : OpenClaim := { program := "ytjilckjhdlabaaa", sum := "eec9b97d6122acb63c735a8784ca353af8b6b8feb96d6991905e3253f219f514", func := "posser/posserlaw04.ClosetNoSooner", spec := "closetNoSooner", unfollowed := true, recurses := true, plainKeys := false, apart := false, narrowed := true }
def ClosetNoSoonerUptoSaid : Prop := closetNoSoonerUptoRow.holds Try.pinned (OpenSpec.upto closetNoSoonerSpec)

/-- 'posserlaw04.ClosetRights', WHERE WHAT IT READS IS OF BULK AT MOST 1048576: true; the input reads as it did. -/
def closetRightsUptoRow : OpenClaim := { program := "ytjilckjhdlabaaa", sum := "eec9b97d6122acb63c735a8784ca353af8b6b8feb96d6991905e3253f219f514", func := "posser/posserlaw04.ClosetRights", spec := "closetRights", unfollowed := true, recurses := true, plainKeys := false, apart := false, narrowed := true }
def ClosetRightsUptoSaid : Prop := closetRightsUptoRow.holds Try.pinned (OpenSpec.upto closetRightsSpec)

/-- 'posserlaw04.ClosetEnds', WHERE WHAT IT READS IS OF BULK AT MOST 1048576: true; the input reads as it did. -/
def closetEndsUptoRow : OpenClaim := { program := "ytjilckjhdlabaaa", sum := "eec9b97d6122acb63c735a8784ca353af8b6b8feb96d6991905e3253f219f514", func := "posser/posserlaw04.ClosetEnds", spec := "closetEnds", unfollowed := true, recurses := true, plainKeys := false, apart := false, narrowed := true }
def ClosetEndsUptoSaid : Prop := closetEndsUptoRow.holds Try.pinned (OpenSpec.upto closetEndsSpec)

/-- 'posserlaw04.ClosetMore', WHERE WHAT IT READS IS OF BULK AT MOST 1048576: true; the input reads as it did. -/
def closetMoreUptoRow : OpenClaim := { program := "ytjilckjhdlabaaa", sum := "eec9b97d6122acb63c735a8784ca353af8b6b8feb96d6991905e3253f219f514", func := "posser/posserlaw04.ClosetMore", spec := "closetMore", unfollowed := true, recurses := true, plainKeys := false, apart := false, narrowed := true }
def ClosetMoreUptoSaid : Prop := closetMoreUptoRow.holds Try.pinned (OpenSpec.upto closetMoreSpec)

/-- 'posserlaw04.ClosetFirst', WHERE WHAT IT READS IS OF BULK AT MOST 1048576: true; the input reads as it did. -/
def closetFirstUptoRow : OpenClaim := { program := "ytjilckjhdlabaaa", sum := "eec9b97d6122acb63c735a8784ca353af8b6b8feb96d6991905e3253f219f514", func := "posser/posserlaw04.ClosetFirst", spec := "closetFirst", unfollowed := true, recurses := true, plainKeys := false, apart := false, narrowed := true }
def ClosetFirstUptoSaid : Prop := closetFirstUptoRow.holds Try.pinned (OpenSpec.upto closetFirstSpec)

/-- 'posserlaw04.ClosetLeft', WHERE WHAT IT READS IS OF BULK AT MOST 1048576: true; the input reads as it did. -/
def closetLeftUptoRow : OpenClaim := { program := "ytjilckjhdlabaaa", sum := "eec9b97d6122acb63c735a8784ca353af8b6b8feb96d6991905e3253f219f514", func := "posser/posserlaw04.ClosetLeft", spec := "closetLeft", unfollowed := true, recurses := true, plainKeys := false, apart := false, narrowed := true }
def ClosetLeftUptoSaid : Prop := closetLeftUptoRow.holds Try.pinned (OpenSpec.upto closetLeftSpec)

/-- 'posserlaw04.ClosetTruth', WHERE WHAT IT READS IS OF BULK AT MOST 1048576: true; the input reads as it did. -/
def closetTruthUptoRow : OpenClaim := { program := "ytjilckjhdlabaaa", sum := "eec9b97d6122acb63c735a8784ca353af8b6b8feb96d6991905e3253f219f514", func := "posser/posserlaw04.ClosetTruth", spec := "closetTruth", unfollowed := true, recurses := true, plainKeys := false, apart := false, narrowed := true }
def ClosetTruthUptoSaid : Prop := closetTruthUptoRow.holds Try.pinned (OpenSpec.upto closetTruthSpec)

/-- 'posserlaw04.ClosetWider', WHERE WHAT IT READS IS OF BULK AT MOST 1048576: true; the input reads as it did. -/
def closetWiderUptoRow : OpenClaim := { program := "ytjilckjhdlabaaa", sum := "eec9b97d6122acb63c735a8784ca353af8b6b8feb96d6991905e3253f219f514", func := "posser/posserlaw04.ClosetWider", spec := "closetWider", unfollowed := true, recurses := true, plainKeys := false, apart := false, narrowed := true }
def ClosetWiderUptoSaid : Prop := closetWiderUptoRow.holds Try.pinned (OpenSpec.upto closetWiderSpec)

/-- 'posserlaw04.ClosetNames', WHERE WHAT IT READS IS OF BULK AT MOST 1048576: true; the input reads as it did. -/
def closetNamesUptoRow : OpenClaim := { program := "ytjilckjhdlabaaa", sum := "eec9b97d6122acb63c735a8784ca353af8b6b8feb96d6991905e3253f219f514", func := "posser/posserlaw04.ClosetNames", spec := "closetNames", unfollowed := true, recurses := true, plainKeys := false, apart := false, narrowed := true }
def ClosetNamesUptoSaid : Prop := closetNamesUptoRow.holds Try.pinned (OpenSpec.upto closetNamesSpec)

end Rows
end Go.Proofs.Ytjilckjhdlabaaa
