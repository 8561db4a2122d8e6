/-
  DERIVED. GIVEN WITH THE SEED: THE CARDS: each row of YtdmdabcjoealhaaDoorRows.lean that lists a variable, with what it lists TIED to the program's text (the seventh form; the later family's looks); each row that meets fmt, with fmt's text TOLD by the authors' own Lean function (tested against real Go, not proved from fmt's source: count such statements apart). THE CARD IS WHAT COUNTS. Prove the row's statement (the work); the ties are given (YtdmdabcjoealhaaDoorTie.lean); close each card by the builder's one call (the guide's Derived/Test/ToyasCard.lean, 'card_holds'). Laid BY PROGRAM, IN A SANDBOX (cutbox-door.mjs). By AI agents, Wed Nov 11 2026. No macro, syntax, notation, axiom, sorry.
-/
import Derived.Test.YtdmdabcjoealhaaDoorRows
import GoSem.ClaimSeven
namespace Go.Proofs.YtdmdabcjoealhaaDoor
namespace Rows

/-- THE TIED CARD OF 'foremanlaw08.ValueOne'. -/
def valueOneCard : Claim7 := { stood := { row := valueOneRow, standIns := [], harness := (true, "33a33931e08fe67e7e3ac327abea4097290a96a0a68719613746debdab5373a8"), looks := true }, kinds := [], alts := [], laidByText := true, laidKinds := [.data, .data, .data], laidTests := true, laidLooks := .later }
def ValueOneCardSaid : Prop := Claim7.holds Tryd.pinned (.plain (OpenSpec.ofChange valueOneSpec)) valueOneCard

/-- THE TIED CARD OF 'foremanlaw08.ValueKinds'. -/
def valueKindsCard : Claim7 := { stood := { row := valueKindsRow, standIns := [], harness := (true, "33a33931e08fe67e7e3ac327abea4097290a96a0a68719613746debdab5373a8"), looks := true }, kinds := [], alts := [], laidByText := true, laidKinds := [.data, .data, .data], laidTests := true, laidLooks := .later }
def ValueKindsCardSaid : Prop := Claim7.holds Tryd.pinned (.plain (OpenSpec.ofChange valueKindsSpec)) valueKindsCard

/-- THE TIED CARD OF 'foremanlaw08.ValueTells'. -/
def valueTellsCard : Claim7 := { stood := { row := valueTellsRow, standIns := [], harness := (true, "33a33931e08fe67e7e3ac327abea4097290a96a0a68719613746debdab5373a8"), looks := true }, kinds := [], alts := [], laidByText := true, laidKinds := [.data, .data, .data], laidTests := true, laidLooks := .later }
def ValueTellsCardSaid : Prop := Claim7.holds Tryd.pinned (.plain (OpenSpec.ofChange valueTellsSpec)) valueTellsCard

/-- THE TIED CARD OF 'foremanlaw08.ValueBack'. -/
def valueBackCard : Claim7 := { stood := { row := valueBackRow, standIns := [], harness := (true, "33a33931e08fe67e7e3ac327abea4097290a96a0a68719613746debdab5373a8"), looks := true }, kinds := [], alts := [], laidByText := true, laidKinds := [.data, .data, .data], laidTests := true, laidLooks := .later }
def ValueBackCardSaid : Prop := Claim7.holds Tryd.pinned (.plain (OpenSpec.ofChange valueBackSpec)) valueBackCard

/-- THE TIED CARD OF 'foremanlaw08.ValueCopy'. -/
def valueCopyCard : Claim7 := { stood := { row := valueCopyRow, standIns := [], harness := (true, "33a33931e08fe67e7e3ac327abea4097290a96a0a68719613746debdab5373a8"), looks := true }, kinds := [], alts := [], laidByText := true, laidKinds := [.data, .data, .data], laidTests := true, laidLooks := .later }
def ValueCopyCardSaid : Prop := Claim7.holds Tryd.pinned (.plain (OpenSpec.ofChange valueCopySpec)) valueCopyCard

/-- THE SECOND FORM's CARD OF 'foremanlaw08.ValueOne'. -/
def valueOneUptoCard : Claim7 := { stood := { row := valueOneUptoRow, standIns := [], harness := (true, "33a33931e08fe67e7e3ac327abea4097290a96a0a68719613746debdab5373a8"), looks := true }, kinds := [], alts := [], laidByText := true, laidKinds := [.data, .data, .data], laidTests := true, laidLooks := .later }
def ValueOneUptoCardSaid : Prop := Claim7.holds Tryd.pinned (.plain (OpenSpec.upto valueOneSpec)) valueOneUptoCard

/-- THE SECOND FORM's CARD OF 'foremanlaw08.ValueKinds'. -/
def valueKindsUptoCard : Claim7 := { stood := { row := valueKindsUptoRow, standIns := [], harness := (true, "33a33931e08fe67e7e3ac327abea4097290a96a0a68719613746debdab5373a8"), looks := true }, kinds := [], alts := [], laidByText := true, laidKinds := [.data, .data, .data], laidTests := true, laidLooks := .later }
def ValueKindsUptoCardSaid : Prop := Claim7.holds Tryd.pinned (.plain (OpenSpec.upto valueKindsSpec)) valueKindsUptoCard

/-- THE SECOND FORM's CARD OF 'foremanlaw08.ValueTells'. -/
def valueTellsUptoCard : Claim7 := { stood := { row := valueTellsUptoRow, standIns := [], harness := (true, "33a33931e08fe67e7e3ac327abea4097290a96a0a68719613746debdab5373a8"), looks := true }, kinds := [], alts := [], laidByText := true, laidKinds := [.data, .data, .data], laidTests := true, laidLooks := .later }
def ValueTellsUptoCardSaid : Prop := Claim7.holds Tryd.pinned (.plain (OpenSpec.upto valueTellsSpec)) valueTellsUptoCard

/-- THE SECOND FORM's CARD OF 'foremanlaw08.ValueBack'. -/
def valueBackUptoCard : Claim7 := { stood := { row := valueBackUptoRow, standIns := [], harness := (true, "33a33931e08fe67e7e3ac327abea4097290a96a0a68719613746debdab5373a8"), looks := true }, kinds := [], alts := [], laidByText := true, laidKinds := [.data, .data, .data], laidTests := true, laidLooks := .later }
def ValueBackUptoCardSaid : Prop := Claim7.holds Tryd.pinned (.plain (OpenSpec.upto valueBackSpec)) valueBackUptoCard

/-- THE SECOND FORM's CARD OF 'foremanlaw08.ValueCopy'. -/
def valueCopyUptoCard : Claim7 := { stood := { row := valueCopyUptoRow, standIns := [], harness := (true, "33a33931e08fe67e7e3ac327abea4097290a96a0a68719613746debdab5373a8"), looks := true }, kinds := [], alts := [], laidByText := true, laidKinds := [.data, .data, .data], laidTests := true, laidLooks := .later }
def ValueCopyUptoCardSaid : Prop := Claim7.holds Tryd.pinned (.plain (OpenSpec.upto valueCopySpec)) valueCopyUptoCard
end Rows
end Go.Proofs.YtdmdabcjoealhaaDoor
