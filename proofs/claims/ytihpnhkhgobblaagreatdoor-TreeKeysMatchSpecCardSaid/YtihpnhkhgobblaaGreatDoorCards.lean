/-
  DERIVED. GIVEN WITH THE SEED: THE CARDS: each row of YtihpnhkhgobblaaGreatDoorRows.lean that lists a variable, with what it lists TIED to the program's text (the seventh form; the later family's looks); each row that meets fmt, with fmt's text TOLD by the authors' own Lean function (tested against real Go, not proved from fmt's source: count such statements apart). THE CARD IS WHAT COUNTS. Prove the row's statement (the work); the ties are given (YtihpnhkhgobblaaGreatDoorTie.lean); close each card by the builder's one call (the guide's Derived/Test/ToyasCard.lean, 'card_holds'). Laid BY PROGRAM, IN A SANDBOX (cutbox-door.mjs). By AI agents, Wed Nov 11 2026. No macro, syntax, notation, axiom, sorry.
-/
import Derived.Test.YtihpnhkhgobblaaGreatDoorRows
import GoSem.ClaimSeven
namespace Go.Proofs.YtihpnhkhgobblaaGreatDoor
namespace Rows

/-- THE TIED CARD OF 'alumlaw15.TreeKeysMatchSpec'. -/
def treeKeysMatchSpecCard : Claim7 := { stood := { row := treeKeysMatchSpecRow, standIns := [], harness := (true, "194b0ed593273ba1e4cd1ca247cf4732ee2312a649df36cb6362aff9c281968a"), looks := false }, kinds := [], alts := [], laidByText := true, laidKinds := [.data, .data, .data, .data, .data], laidTests := true, laidLooks := .later }
def TreeKeysMatchSpecCardSaid : Prop := Claim7.holds Tryz.pinned (.plain (OpenSpec.ofChange treeKeysMatchSpecSpec)) treeKeysMatchSpecCard

/-- THE TIED CARD OF 'alumlaw15.TreeIsCanonical'. -/
def treeIsCanonicalCard : Claim7 := { stood := { row := treeIsCanonicalRow, standIns := [], harness := (true, "194b0ed593273ba1e4cd1ca247cf4732ee2312a649df36cb6362aff9c281968a"), looks := false }, kinds := [], alts := [], laidByText := true, laidKinds := [.data, .data, .data, .data, .data], laidTests := true, laidLooks := .later }
def TreeIsCanonicalCardSaid : Prop := Claim7.holds Tryz.pinned (.plain (OpenSpec.ofChange treeIsCanonicalSpec)) treeIsCanonicalCard

/-- THE TIED CARD OF 'alumlaw15.TreeRanges'. -/
def treeRangesCard : Claim7 := { stood := { row := treeRangesRow, standIns := [], harness := (true, "194b0ed593273ba1e4cd1ca247cf4732ee2312a649df36cb6362aff9c281968a"), looks := false }, kinds := [], alts := [], laidByText := true, laidKinds := [.data, .data, .data, .data, .data], laidTests := true, laidLooks := .later }
def TreeRangesCardSaid : Prop := Claim7.holds Tryz.pinned (.plain (OpenSpec.ofChange treeRangesSpec)) treeRangesCard

/-- THE TIED CARD OF 'alumlaw15.TreeIsMap'. -/
def treeIsMapCard : Claim7 := { stood := { row := treeIsMapRow, standIns := [], harness := (true, "194b0ed593273ba1e4cd1ca247cf4732ee2312a649df36cb6362aff9c281968a"), looks := false }, kinds := [], alts := [], laidByText := true, laidKinds := [.data, .data, .data, .data, .data], laidTests := true, laidLooks := .later }
def TreeIsMapCardSaid : Prop := Claim7.holds Tryz.pinned (.plain (OpenSpec.ofChange treeIsMapSpec)) treeIsMapCard

/-- THE TIED CARD OF 'alumlaw15.TreeRetires'. -/
def treeRetiresCard : Claim7 := { stood := { row := treeRetiresRow, standIns := [], harness := (true, "194b0ed593273ba1e4cd1ca247cf4732ee2312a649df36cb6362aff9c281968a"), looks := false }, kinds := [], alts := [], laidByText := true, laidKinds := [.data, .data, .data, .data, .data], laidTests := true, laidLooks := .later }
def TreeRetiresCardSaid : Prop := Claim7.holds Tryz.pinned (.plain (OpenSpec.ofChange treeRetiresSpec)) treeRetiresCard

/-- THE SECOND FORM's CARD OF 'alumlaw15.TreeKeysMatchSpec'. -/
def treeKeysMatchSpecUptoCard : Claim7 := { stood := { row := treeKeysMatchSpecUptoRow, standIns := [], harness := (true, "194b0ed593273ba1e4cd1ca247cf4732ee2312a649df36cb6362aff9c281968a"), looks := false }, kinds := [], alts := [], laidByText := true, laidKinds := [.data, .data, .data, .data, .data], laidTests := true, laidLooks := .later }
def TreeKeysMatchSpecUptoCardSaid : Prop := Claim7.holds Tryz.pinned (.plain (OpenSpec.upto treeKeysMatchSpecSpec)) treeKeysMatchSpecUptoCard

/-- THE SECOND FORM's CARD OF 'alumlaw15.TreeIsCanonical'. -/
def treeIsCanonicalUptoCard : Claim7 := { stood := { row := treeIsCanonicalUptoRow, standIns := [], harness := (true, "194b0ed593273ba1e4cd1ca247cf4732ee2312a649df36cb6362aff9c281968a"), looks := false }, kinds := [], alts := [], laidByText := true, laidKinds := [.data, .data, .data, .data, .data], laidTests := true, laidLooks := .later }
def TreeIsCanonicalUptoCardSaid : Prop := Claim7.holds Tryz.pinned (.plain (OpenSpec.upto treeIsCanonicalSpec)) treeIsCanonicalUptoCard

/-- THE SECOND FORM's CARD OF 'alumlaw15.TreeRanges'. -/
def treeRangesUptoCard : Claim7 := { stood := { row := treeRangesUptoRow, standIns := [], harness := (true, "194b0ed593273ba1e4cd1ca247cf4732ee2312a649df36cb6362aff9c281968a"), looks := false }, kinds := [], alts := [], laidByText := true, laidKinds := [.data, .data, .data, .data, .data], laidTests := true, laidLooks := .later }
def TreeRangesUptoCardSaid : Prop := Claim7.holds Tryz.pinned (.plain (OpenSpec.upto treeRangesSpec)) treeRangesUptoCard

/-- THE SECOND FORM's CARD OF 'alumlaw15.TreeIsMap'. -/
def treeIsMapUptoCard : Claim7 := { stood := { row := treeIsMapUptoRow, standIns := [], harness := (true, "194b0ed593273ba1e4cd1ca247cf4732ee2312a649df36cb6362aff9c281968a"), looks := false }, kinds := [], alts := [], laidByText := true, laidKinds := [.data, .data, .data, .data, .data], laidTests := true, laidLooks := .later }
def TreeIsMapUptoCardSaid : Prop := Claim7.holds Tryz.pinned (.plain (OpenSpec.upto treeIsMapSpec)) treeIsMapUptoCard

/-- THE SECOND FORM's CARD OF 'alumlaw15.TreeRetires'. -/
def treeRetiresUptoCard : Claim7 := { stood := { row := treeRetiresUptoRow, standIns := [], harness := (true, "194b0ed593273ba1e4cd1ca247cf4732ee2312a649df36cb6362aff9c281968a"), looks := false }, kinds := [], alts := [], laidByText := true, laidKinds := [.data, .data, .data, .data, .data], laidTests := true, laidLooks := .later }
def TreeRetiresUptoCardSaid : Prop := Claim7.holds Tryz.pinned (.plain (OpenSpec.upto treeRetiresSpec)) treeRetiresUptoCard
end Rows
end Go.Proofs.YtihpnhkhgobblaaGreatDoor
