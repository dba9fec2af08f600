/-
  DERIVED. GIVEN WITH THE SEED: THE CARDS: each row of YtgpjnffomheemaaDoorRows.lean that lists a variable, with what it lists TIED to the program's text (the seventh form; the later family's looks); each row that meets fmt, with fmt's text TOLD by the authors' own Lean function (tested against real Go, not proved from fmt's source: count such statements apart). THE CARD IS WHAT COUNTS. Prove the row's statement (the work); the ties are given (YtgpjnffomheemaaDoorTie.lean); close each card by the builder's one call (the guide's Derived/Test/ToyasCard.lean, 'card_holds'). Laid BY PROGRAM, IN A SANDBOX (cutbox-door.mjs). By AI agents, Wed Nov 11 2026. No macro, syntax, notation, axiom, sorry.
-/
import Derived.Test.YtgpjnffomheemaaDoorRows
import GoSem.ClaimSeven
namespace Go.Proofs.YtgpjnffomheemaaDoor
namespace Rows

/-- THE TIED CARD OF 'laws.FnSpots'. -/
def fnSpotsCard : Claim7 := { stood := { row := fnSpotsRow, standIns := [], harness := (true, "6076f24e2dc3cd89e20a4d00e37d0fbe416308b162492d6d31a817d9f0a79a51"), looks := false }, kinds := [], alts := [], laidByText := true, laidKinds := [.data, .data, .data], laidTests := true, laidLooks := .later }
def FnSpotsCardSaid : Prop := Claim7.holds Tryd.pinned (.plain (OpenSpec.ofChange fnSpotsSpec)) fnSpotsCard

/-- THE TIED CARD OF 'laws.FnMoves'. -/
def fnMovesCard : Claim7 := { stood := { row := fnMovesRow, standIns := [], harness := (true, "6076f24e2dc3cd89e20a4d00e37d0fbe416308b162492d6d31a817d9f0a79a51"), looks := false }, kinds := [], alts := [], laidByText := true, laidKinds := [.data, .data, .data, .data, .pinned], laidTests := true, laidLooks := .later }
def FnMovesCardSaid : Prop := Claim7.holds Tryd.pinned (.plain (OpenSpec.ofChange fnMovesSpec)) fnMovesCard

/-- THE TIED CARD OF 'laws.FnMusic'. -/
def fnMusicCard : Claim7 := { stood := { row := fnMusicRow, standIns := [], harness := (true, "6076f24e2dc3cd89e20a4d00e37d0fbe416308b162492d6d31a817d9f0a79a51"), looks := false }, kinds := [], alts := [], laidByText := true, laidKinds := [.data, .data, .data, .data, .pinned], laidTests := true, laidLooks := .later }
def FnMusicCardSaid : Prop := Claim7.holds Tryd.pinned (.plain (OpenSpec.ofChange fnMusicSpec)) fnMusicCard

/-- THE SECOND FORM's CARD OF 'laws.FnSpots'. -/
def fnSpotsUptoCard : Claim7 := { stood := { row := fnSpotsUptoRow, standIns := [], harness := (true, "6076f24e2dc3cd89e20a4d00e37d0fbe416308b162492d6d31a817d9f0a79a51"), looks := false }, kinds := [], alts := [], laidByText := true, laidKinds := [.data, .data, .data], laidTests := true, laidLooks := .later }
def FnSpotsUptoCardSaid : Prop := Claim7.holds Tryd.pinned (.plain (OpenSpec.upto fnSpotsSpec)) fnSpotsUptoCard

/-- THE SECOND FORM's CARD OF 'laws.FnMoves'. -/
def fnMovesUptoCard : Claim7 := { stood := { row := fnMovesUptoRow, standIns := [], harness := (true, "6076f24e2dc3cd89e20a4d00e37d0fbe416308b162492d6d31a817d9f0a79a51"), looks := false }, kinds := [], alts := [], laidByText := true, laidKinds := [.data, .data, .data, .data, .pinned], laidTests := true, laidLooks := .later }
def FnMovesUptoCardSaid : Prop := Claim7.holds Tryd.pinned (.plain (OpenSpec.upto fnMovesSpec)) fnMovesUptoCard

/-- THE SECOND FORM's CARD OF 'laws.FnMusic'. -/
def fnMusicUptoCard : Claim7 := { stood := { row := fnMusicUptoRow, standIns := [], harness := (true, "6076f24e2dc3cd89e20a4d00e37d0fbe416308b162492d6d31a817d9f0a79a51"), looks := false }, kinds := [], alts := [], laidByText := true, laidKinds := [.data, .data, .data, .data, .pinned], laidTests := true, laidLooks := .later }
def FnMusicUptoCardSaid : Prop := Claim7.holds Tryd.pinned (.plain (OpenSpec.upto fnMusicSpec)) fnMusicUptoCard
end Rows
end Go.Proofs.YtgpjnffomheemaaDoor
