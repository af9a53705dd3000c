/-
  DERIVED. GIVEN WITH THE SEED: THE CARDS: each row of YtodbpblicjadjaaGreatDoorRows.lean that lists a variable, with what it lists TIED to the program's text (the seventh form; the later family's looks); each row that meets fmt, with fmt's text TOLD by the authors' own Lean function (tested against real Go, not proved from fmt's source: count such statements apart). THE CARD IS WHAT COUNTS. Prove the row's statement (the work); the ties are given (YtodbpblicjadjaaGreatDoorTie.lean); close each card by the builder's one call (the guide's Derived/Test/ToyasCard.lean, 'card_holds'). Laid BY PROGRAM, IN A SANDBOX (cutbox-door.mjs). By AI agents, Wed Nov 11 2026. No macro, syntax, notation, axiom, sorry.
-/
import Derived.Test.YtodbpblicjadjaaGreatDoorRows
import GoSem.ClaimSeven
namespace Go.Proofs.YtodbpblicjadjaaGreatDoor
namespace Rows

/-- THE TIED CARD OF 'catenarylaw36.JudgeFinds'. -/
def judgeFindsCard : Claim7 := { stood := { row := judgeFindsRow, standIns := [], harness := (true, "44966ecda6a4c976f136efe2f7a47447f98c48b761e44299474f0c1cc47c383e"), looks := true }, kinds := [], alts := [], laidByText := true, laidKinds := [.data, .data, .pinned], laidTests := true, laidLooks := .later }
def JudgeFindsCardSaid : Prop := Claim7.holds Tryz.pinned (.plain (OpenSpec.ofChange judgeFindsSpec)) judgeFindsCard

/-- THE TIED CARD OF 'catenarylaw36.JudgeOf'. -/
def judgeOfCard : Claim7 := { stood := { row := judgeOfRow, standIns := [], harness := (true, "44966ecda6a4c976f136efe2f7a47447f98c48b761e44299474f0c1cc47c383e"), looks := true }, kinds := [], alts := [], laidByText := true, laidKinds := [.data, .data, .pinned], laidTests := true, laidLooks := .later }
def JudgeOfCardSaid : Prop := Claim7.holds Tryz.pinned (.plain (OpenSpec.ofChange judgeOfSpec)) judgeOfCard

/-- THE SECOND FORM's CARD OF 'catenarylaw36.JudgeFinds'. -/
def judgeFindsUptoCard : Claim7 := { stood := { row := judgeFindsUptoRow, standIns := [], harness := (true, "44966ecda6a4c976f136efe2f7a47447f98c48b761e44299474f0c1cc47c383e"), looks := true }, kinds := [], alts := [], laidByText := true, laidKinds := [.data, .data, .pinned], laidTests := true, laidLooks := .later }
def JudgeFindsUptoCardSaid : Prop := Claim7.holds Tryz.pinned (.plain (OpenSpec.upto judgeFindsSpec)) judgeFindsUptoCard

/-- THE SECOND FORM's CARD OF 'catenarylaw36.JudgeOf'. -/
def judgeOfUptoCard : Claim7 := { stood := { row := judgeOfUptoRow, standIns := [], harness := (true, "44966ecda6a4c976f136efe2f7a47447f98c48b761e44299474f0c1cc47c383e"), looks := true }, kinds := [], alts := [], laidByText := true, laidKinds := [.data, .data, .pinned], laidTests := true, laidLooks := .later }
def JudgeOfUptoCardSaid : Prop := Claim7.holds Tryz.pinned (.plain (OpenSpec.upto judgeOfSpec)) judgeOfUptoCard
end Rows
end Go.Proofs.YtodbpblicjadjaaGreatDoor
