/-
  DERIVED. GIVEN WITH THE SEED: THE CARDS: each row of YtkkcidhcfkmbjaaGreatDoorRows.lean that lists a variable, with what it lists TIED to the program's text (the seventh form; the later family's looks); each row that meets fmt, with fmt's text TOLD by the authors' own Lean function (tested against real Go, not proved from fmt's source: count such statements apart). THE CARD IS WHAT COUNTS. Prove the row's statement (the work); the ties are given (YtkkcidhcfkmbjaaGreatDoorTie.lean); close each card by the builder's one call (the guide's Derived/Test/ToyasCard.lean, 'card_holds'). Laid BY PROGRAM, IN A SANDBOX (cutbox-door.mjs). By AI agents, Wed Nov 11 2026. No macro, syntax, notation, axiom, sorry.
-/
import Derived.Test.YtkkcidhcfkmbjaaGreatDoorRows
import GoSem.ClaimSeven
namespace Go.Proofs.YtkkcidhcfkmbjaaGreatDoor
namespace Rows

/-- THE TIED CARD OF 'gauntlettop.TopUnite'. -/
def topUniteCard : Claim7 := { stood := { row := topUniteRow, standIns := [], harness := (true, "93799802294a4e9e665320224b84392aa1d8cd975ecbd03e7728fa9e1878b774"), looks := true }, kinds := [], alts := [], laidByText := true, laidKinds := [.data, .data, .data, .data, .data, .pinned], laidTests := true, laidLooks := .later }
def TopUniteCardSaid : Prop := Claim7.holds Tryz.pinned (.plain (OpenSpec.ofChange topUniteSpec)) topUniteCard

/-- THE TIED CARD OF 'gauntlettop.TopClasses'. -/
def topClassesCard : Claim7 := { stood := { row := topClassesRow, standIns := [], harness := (true, "93799802294a4e9e665320224b84392aa1d8cd975ecbd03e7728fa9e1878b774"), looks := true }, kinds := [], alts := [], laidByText := true, laidKinds := [.data, .data, .data, .data, .data, .pinned], laidTests := true, laidLooks := .later }
def TopClassesCardSaid : Prop := Claim7.holds Tryz.pinned (.plain (OpenSpec.ofChange topClassesSpec)) topClassesCard

/-- THE TIED CARD OF 'gauntlettop.TopSpec'. -/
def topSpecCard : Claim7 := { stood := { row := topSpecRow, standIns := [], harness := (true, "93799802294a4e9e665320224b84392aa1d8cd975ecbd03e7728fa9e1878b774"), looks := true }, kinds := [], alts := [], laidByText := true, laidKinds := [.data, .data, .data, .data, .data, .pinned], laidTests := true, laidLooks := .later }
def TopSpecCardSaid : Prop := Claim7.holds Tryz.pinned (.plain (OpenSpec.ofChange topSpecSpec)) topSpecCard

/-- THE TIED CARD OF 'gauntlettop.TopFill'. -/
def topFillCard : Claim7 := { stood := { row := topFillRow, standIns := [], harness := (true, "93799802294a4e9e665320224b84392aa1d8cd975ecbd03e7728fa9e1878b774"), looks := true }, kinds := [], alts := [], laidByText := true, laidKinds := [.data, .data, .data, .data, .data, .pinned], laidTests := true, laidLooks := .later }
def TopFillCardSaid : Prop := Claim7.holds Tryz.pinned (.plain (OpenSpec.ofChange topFillSpec)) topFillCard

/-- THE TIED CARD OF 'gauntlettop.TopMap'. -/
def topMapCard : Claim7 := { stood := { row := topMapRow, standIns := [], harness := (true, "93799802294a4e9e665320224b84392aa1d8cd975ecbd03e7728fa9e1878b774"), looks := true }, kinds := [], alts := [], laidByText := true, laidKinds := [.data, .data, .data, .data, .data, .pinned], laidTests := true, laidLooks := .later }
def TopMapCardSaid : Prop := Claim7.holds Tryz.pinned (.plain (OpenSpec.ofChange topMapSpec)) topMapCard

/-- THE SECOND FORM's CARD OF 'gauntlettop.TopUnite'. -/
def topUniteUptoCard : Claim7 := { stood := { row := topUniteUptoRow, standIns := [], harness := (true, "93799802294a4e9e665320224b84392aa1d8cd975ecbd03e7728fa9e1878b774"), looks := true }, kinds := [], alts := [], laidByText := true, laidKinds := [.data, .data, .data, .data, .data, .pinned], laidTests := true, laidLooks := .later }
def TopUniteUptoCardSaid : Prop := Claim7.holds Tryz.pinned (.plain (OpenSpec.upto topUniteSpec)) topUniteUptoCard

/-- THE SECOND FORM's CARD OF 'gauntlettop.TopClasses'. -/
def topClassesUptoCard : Claim7 := { stood := { row := topClassesUptoRow, standIns := [], harness := (true, "93799802294a4e9e665320224b84392aa1d8cd975ecbd03e7728fa9e1878b774"), looks := true }, kinds := [], alts := [], laidByText := true, laidKinds := [.data, .data, .data, .data, .data, .pinned], laidTests := true, laidLooks := .later }
def TopClassesUptoCardSaid : Prop := Claim7.holds Tryz.pinned (.plain (OpenSpec.upto topClassesSpec)) topClassesUptoCard

/-- THE SECOND FORM's CARD OF 'gauntlettop.TopSpec'. -/
def topSpecUptoCard : Claim7 := { stood := { row := topSpecUptoRow, standIns := [], harness := (true, "93799802294a4e9e665320224b84392aa1d8cd975ecbd03e7728fa9e1878b774"), looks := true }, kinds := [], alts := [], laidByText := true, laidKinds := [.data, .data, .data, .data, .data, .pinned], laidTests := true, laidLooks := .later }
def TopSpecUptoCardSaid : Prop := Claim7.holds Tryz.pinned (.plain (OpenSpec.upto topSpecSpec)) topSpecUptoCard

/-- THE SECOND FORM's CARD OF 'gauntlettop.TopFill'. -/
def topFillUptoCard : Claim7 := { stood := { row := topFillUptoRow, standIns := [], harness := (true, "93799802294a4e9e665320224b84392aa1d8cd975ecbd03e7728fa9e1878b774"), looks := true }, kinds := [], alts := [], laidByText := true, laidKinds := [.data, .data, .data, .data, .data, .pinned], laidTests := true, laidLooks := .later }
def TopFillUptoCardSaid : Prop := Claim7.holds Tryz.pinned (.plain (OpenSpec.upto topFillSpec)) topFillUptoCard

/-- THE SECOND FORM's CARD OF 'gauntlettop.TopMap'. -/
def topMapUptoCard : Claim7 := { stood := { row := topMapUptoRow, standIns := [], harness := (true, "93799802294a4e9e665320224b84392aa1d8cd975ecbd03e7728fa9e1878b774"), looks := true }, kinds := [], alts := [], laidByText := true, laidKinds := [.data, .data, .data, .data, .data, .pinned], laidTests := true, laidLooks := .later }
def TopMapUptoCardSaid : Prop := Claim7.holds Tryz.pinned (.plain (OpenSpec.upto topMapSpec)) topMapUptoCard
end Rows
end Go.Proofs.YtkkcidhcfkmbjaaGreatDoor
