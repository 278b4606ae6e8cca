/-
  DERIVED. GIVEN WITH THE SEED: THE CARDS: each row of YtdolbeonpkanpaaGreatDoorRows.lean that lists a variable, with what it lists TIED to the program's text (the seventh form; the later family's looks); each row that meets fmt, with fmt's text TOLD by the authors' own Lean function (tested against real Go, not proved from fmt's source: count such statements apart). THE CARD IS WHAT COUNTS. Prove the row's statement (the work); the ties are given (YtdolbeonpkanpaaGreatDoorTie.lean); close each card by the builder's one call (the guide's Derived/Test/ToyasCard.lean, 'card_holds'). Laid BY PROGRAM, IN A SANDBOX (cutbox-door.mjs). By AI agents, Wed Nov 11 2026. No macro, syntax, notation, axiom, sorry.
-/
import Derived.Test.YtdolbeonpkanpaaGreatDoorRows
import GoSem.ClaimSeven
namespace Go.Proofs.YtdolbeonpkanpaaGreatDoor
namespace Rows

/-- THE TIED CARD OF 'gauntletlaw5.SeglogKeeps'. -/
def seglogKeepsCard : Claim7 := { stood := { row := seglogKeepsRow, standIns := [], harness := (true, "d2055058245cc9f80ad79af2b91aedd4a3afd9558b4dcb6539354050fc6d358f"), looks := false }, kinds := [], alts := [], laidByText := true, laidKinds := [.data, .data, .data], laidTests := true, laidLooks := .later }
def SeglogKeepsCardSaid : Prop := Claim7.holds Tryz.pinned (.plain (OpenSpec.ofChange seglogKeepsSpec)) seglogKeepsCard

/-- THE TIED CARD OF 'gauntletlaw5.SeglogApart'. -/
def seglogApartCard : Claim7 := { stood := { row := seglogApartRow, standIns := [], harness := (true, "d2055058245cc9f80ad79af2b91aedd4a3afd9558b4dcb6539354050fc6d358f"), looks := false }, kinds := [], alts := [], laidByText := true, laidKinds := [.data, .data, .data], laidTests := true, laidLooks := .later }
def SeglogApartCardSaid : Prop := Claim7.holds Tryz.pinned (.plain (OpenSpec.ofChange seglogApartSpec)) seglogApartCard

/-- THE TIED CARD OF 'gauntletlaw5.SeglogPlays'. -/
def seglogPlaysCard : Claim7 := { stood := { row := seglogPlaysRow, standIns := [], harness := (true, "d2055058245cc9f80ad79af2b91aedd4a3afd9558b4dcb6539354050fc6d358f"), looks := false }, kinds := [], alts := [], laidByText := true, laidKinds := [.data, .data, .data], laidTests := true, laidLooks := .later }
def SeglogPlaysCardSaid : Prop := Claim7.holds Tryz.pinned (.plain (OpenSpec.ofChange seglogPlaysSpec)) seglogPlaysCard

/-- THE TIED CARD OF 'gauntletlaw5.SeglogTwice'. -/
def seglogTwiceCard : Claim7 := { stood := { row := seglogTwiceRow, standIns := [], harness := (true, "d2055058245cc9f80ad79af2b91aedd4a3afd9558b4dcb6539354050fc6d358f"), looks := false }, kinds := [], alts := [], laidByText := true, laidKinds := [.data, .data, .data], laidTests := true, laidLooks := .later }
def SeglogTwiceCardSaid : Prop := Claim7.holds Tryz.pinned (.plain (OpenSpec.ofChange seglogTwiceSpec)) seglogTwiceCard

/-- THE TIED CARD OF 'gauntletlaw5.SeglogAnyBytes'. -/
def seglogAnyBytesCard : Claim7 := { stood := { row := seglogAnyBytesRow, standIns := [], harness := (true, "d2055058245cc9f80ad79af2b91aedd4a3afd9558b4dcb6539354050fc6d358f"), looks := false }, kinds := [], alts := [], laidByText := true, laidKinds := [.data, .data, .data], laidTests := true, laidLooks := .later }
def SeglogAnyBytesCardSaid : Prop := Claim7.holds Tryz.pinned (.plain (OpenSpec.ofChange seglogAnyBytesSpec)) seglogAnyBytesCard

/-- THE TIED CARD OF 'gauntletlaw5.SeglogOfNothing'. -/
def seglogOfNothingCard : Claim7 := { stood := { row := seglogOfNothingRow, standIns := [], harness := (true, "d2055058245cc9f80ad79af2b91aedd4a3afd9558b4dcb6539354050fc6d358f"), looks := false }, kinds := [], alts := [], laidByText := true, laidKinds := [.data, .data, .data], laidTests := true, laidLooks := .later }
def SeglogOfNothingCardSaid : Prop := Claim7.holds Tryz.pinned (.plain (OpenSpec.ofChange seglogOfNothingSpec)) seglogOfNothingCard

/-- THE TIED CARD OF 'gauntletlaw5.SeglogMany'. -/
def seglogManyCard : Claim7 := { stood := { row := seglogManyRow, standIns := [], harness := (true, "d2055058245cc9f80ad79af2b91aedd4a3afd9558b4dcb6539354050fc6d358f"), looks := false }, kinds := [], alts := [], laidByText := true, laidKinds := [.data, .data, .data], laidTests := true, laidLooks := .later }
def SeglogManyCardSaid : Prop := Claim7.holds Tryz.pinned (.plain (OpenSpec.ofChange seglogManySpec)) seglogManyCard

/-- THE SECOND FORM's CARD OF 'gauntletlaw5.SeglogKeeps'. -/
def seglogKeepsUptoCard : Claim7 := { stood := { row := seglogKeepsUptoRow, standIns := [], harness := (true, "d2055058245cc9f80ad79af2b91aedd4a3afd9558b4dcb6539354050fc6d358f"), looks := false }, kinds := [], alts := [], laidByText := true, laidKinds := [.data, .data, .data], laidTests := true, laidLooks := .later }
def SeglogKeepsUptoCardSaid : Prop := Claim7.holds Tryz.pinned (.plain (OpenSpec.upto seglogKeepsSpec)) seglogKeepsUptoCard

/-- THE SECOND FORM's CARD OF 'gauntletlaw5.SeglogApart'. -/
def seglogApartUptoCard : Claim7 := { stood := { row := seglogApartUptoRow, standIns := [], harness := (true, "d2055058245cc9f80ad79af2b91aedd4a3afd9558b4dcb6539354050fc6d358f"), looks := false }, kinds := [], alts := [], laidByText := true, laidKinds := [.data, .data, .data], laidTests := true, laidLooks := .later }
def SeglogApartUptoCardSaid : Prop := Claim7.holds Tryz.pinned (.plain (OpenSpec.upto seglogApartSpec)) seglogApartUptoCard

/-- THE SECOND FORM's CARD OF 'gauntletlaw5.SeglogPlays'. -/
def seglogPlaysUptoCard : Claim7 := { stood := { row := seglogPlaysUptoRow, standIns := [], harness := (true, "d2055058245cc9f80ad79af2b91aedd4a3afd9558b4dcb6539354050fc6d358f"), looks := false }, kinds := [], alts := [], laidByText := true, laidKinds := [.data, .data, .data], laidTests := true, laidLooks := .later }
def SeglogPlaysUptoCardSaid : Prop := Claim7.holds Tryz.pinned (.plain (OpenSpec.upto seglogPlaysSpec)) seglogPlaysUptoCard

/-- THE SECOND FORM's CARD OF 'gauntletlaw5.SeglogTwice'. -/
def seglogTwiceUptoCard : Claim7 := { stood := { row := seglogTwiceUptoRow, standIns := [], harness := (true, "d2055058245cc9f80ad79af2b91aedd4a3afd9558b4dcb6539354050fc6d358f"), looks := false }, kinds := [], alts := [], laidByText := true, laidKinds := [.data, .data, .data], laidTests := true, laidLooks := .later }
def SeglogTwiceUptoCardSaid : Prop := Claim7.holds Tryz.pinned (.plain (OpenSpec.upto seglogTwiceSpec)) seglogTwiceUptoCard

/-- THE SECOND FORM's CARD OF 'gauntletlaw5.SeglogAnyBytes'. -/
def seglogAnyBytesUptoCard : Claim7 := { stood := { row := seglogAnyBytesUptoRow, standIns := [], harness := (true, "d2055058245cc9f80ad79af2b91aedd4a3afd9558b4dcb6539354050fc6d358f"), looks := false }, kinds := [], alts := [], laidByText := true, laidKinds := [.data, .data, .data], laidTests := true, laidLooks := .later }
def SeglogAnyBytesUptoCardSaid : Prop := Claim7.holds Tryz.pinned (.plain (OpenSpec.upto seglogAnyBytesSpec)) seglogAnyBytesUptoCard

/-- THE SECOND FORM's CARD OF 'gauntletlaw5.SeglogOfNothing'. -/
def seglogOfNothingUptoCard : Claim7 := { stood := { row := seglogOfNothingUptoRow, standIns := [], harness := (true, "d2055058245cc9f80ad79af2b91aedd4a3afd9558b4dcb6539354050fc6d358f"), looks := false }, kinds := [], alts := [], laidByText := true, laidKinds := [.data, .data, .data], laidTests := true, laidLooks := .later }
def SeglogOfNothingUptoCardSaid : Prop := Claim7.holds Tryz.pinned (.plain (OpenSpec.upto seglogOfNothingSpec)) seglogOfNothingUptoCard

/-- THE SECOND FORM's CARD OF 'gauntletlaw5.SeglogMany'. -/
def seglogManyUptoCard : Claim7 := { stood := { row := seglogManyUptoRow, standIns := [], harness := (true, "d2055058245cc9f80ad79af2b91aedd4a3afd9558b4dcb6539354050fc6d358f"), looks := false }, kinds := [], alts := [], laidByText := true, laidKinds := [.data, .data, .data], laidTests := true, laidLooks := .later }
def SeglogManyUptoCardSaid : Prop := Claim7.holds Tryz.pinned (.plain (OpenSpec.upto seglogManySpec)) seglogManyUptoCard
end Rows
end Go.Proofs.YtdolbeonpkanpaaGreatDoor
