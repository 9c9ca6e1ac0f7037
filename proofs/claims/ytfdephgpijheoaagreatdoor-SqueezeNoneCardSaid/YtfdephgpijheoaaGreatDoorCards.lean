/-
  DERIVED. GIVEN WITH THE SEED: THE CARDS: each row of YtfdephgpijheoaaGreatDoorRows.lean that lists a variable, with what it lists TIED to the program's text (the seventh form; the later family's looks); each row that meets fmt, with fmt's text TOLD by the authors' own Lean function (tested against real Go, not proved from fmt's source: count such statements apart). THE CARD IS WHAT COUNTS. Prove the row's statement (the work); the ties are given (YtfdephgpijheoaaGreatDoorTie.lean); close each card by the builder's one call (the guide's Derived/Test/ToyasCard.lean, 'card_holds'). Laid BY PROGRAM, IN A SANDBOX (cutbox-door.mjs). By AI agents, Wed Nov 11 2026. No macro, syntax, notation, axiom, sorry.
-/
import Derived.Test.YtfdephgpijheoaaGreatDoorRows
import GoSem.ClaimSeven
namespace Go.Proofs.YtfdephgpijheoaaGreatDoor
namespace Rows

/-- THE TIED CARD OF 'sluicegatelaw32.CursorNobody'. -/
def cursorNobodyCard : Claim7 := { stood := { row := cursorNobodyRow, standIns := [], harness := (true, "b930a49a48f7ea69164dfd424c24a42e9db92b0e4bb5fef919311b0f8a37c905"), looks := true }, kinds := [], alts := [], laidByText := true, laidKinds := [.data], laidTests := true, laidLooks := .later }
def CursorNobodyCardSaid : Prop := Claim7.holds Tryz.pinned (.plain (OpenSpec.ofChange cursorNobodySpec)) cursorNobodyCard

/-- THE TIED CARD OF 'sluicegatelaw39.BatchNobody'. -/
def batchNobodyCard : Claim7 := { stood := { row := batchNobodyRow, standIns := [], harness := (true, "b930a49a48f7ea69164dfd424c24a42e9db92b0e4bb5fef919311b0f8a37c905"), looks := true }, kinds := [], alts := [], laidByText := true, laidKinds := [.data], laidTests := true, laidLooks := .later }
def BatchNobodyCardSaid : Prop := Claim7.holds Tryz.pinned (.plain (OpenSpec.ofChange batchNobodySpec)) batchNobodyCard

/-- THE TIED CARD OF 'sluicegatelaw34.SqueezeNone'. -/
def squeezeNoneCard : Claim7 := { stood := { row := squeezeNoneRow, standIns := [], harness := (true, "b930a49a48f7ea69164dfd424c24a42e9db92b0e4bb5fef919311b0f8a37c905"), looks := true }, kinds := [], alts := [], laidByText := true, laidKinds := [.data], laidTests := true, laidLooks := .later }
def SqueezeNoneCardSaid : Prop := Claim7.holds Tryz.pinned (.plain (OpenSpec.ofChange squeezeNoneSpec)) squeezeNoneCard

/-- THE SECOND FORM's CARD OF 'sluicegatelaw32.CursorNobody'. -/
def cursorNobodyUptoCard : Claim7 := { stood := { row := cursorNobodyUptoRow, standIns := [], harness := (true, "b930a49a48f7ea69164dfd424c24a42e9db92b0e4bb5fef919311b0f8a37c905"), looks := true }, kinds := [], alts := [], laidByText := true, laidKinds := [.data], laidTests := true, laidLooks := .later }
def CursorNobodyUptoCardSaid : Prop := Claim7.holds Tryz.pinned (.plain (OpenSpec.upto cursorNobodySpec)) cursorNobodyUptoCard

/-- THE SECOND FORM's CARD OF 'sluicegatelaw39.BatchNobody'. -/
def batchNobodyUptoCard : Claim7 := { stood := { row := batchNobodyUptoRow, standIns := [], harness := (true, "b930a49a48f7ea69164dfd424c24a42e9db92b0e4bb5fef919311b0f8a37c905"), looks := true }, kinds := [], alts := [], laidByText := true, laidKinds := [.data], laidTests := true, laidLooks := .later }
def BatchNobodyUptoCardSaid : Prop := Claim7.holds Tryz.pinned (.plain (OpenSpec.upto batchNobodySpec)) batchNobodyUptoCard

/-- THE SECOND FORM's CARD OF 'sluicegatelaw34.SqueezeNone'. -/
def squeezeNoneUptoCard : Claim7 := { stood := { row := squeezeNoneUptoRow, standIns := [], harness := (true, "b930a49a48f7ea69164dfd424c24a42e9db92b0e4bb5fef919311b0f8a37c905"), looks := true }, kinds := [], alts := [], laidByText := true, laidKinds := [.data], laidTests := true, laidLooks := .later }
def SqueezeNoneUptoCardSaid : Prop := Claim7.holds Tryz.pinned (.plain (OpenSpec.upto squeezeNoneSpec)) squeezeNoneUptoCard
end Rows
end Go.Proofs.YtfdephgpijheoaaGreatDoor
