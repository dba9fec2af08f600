/-
  DERIVED. GIVEN WITH THE SEED: THE CARDS: each row of YtbiipbfdgkfenaaDoorRows.lean that lists a variable, with what it lists TIED to the program's text (the seventh form; the later family's looks); each row that meets fmt, with fmt's text TOLD by the authors' own Lean function (tested against real Go, not proved from fmt's source: count such statements apart). THE CARD IS WHAT COUNTS. Prove the row's statement (the work); the ties are given (YtbiipbfdgkfenaaDoorTie.lean); close each card by the builder's one call (the guide's Derived/Test/ToyasCard.lean, 'card_holds'). Laid BY PROGRAM, IN A SANDBOX (cutbox-door.mjs). By AI agents, Wed Nov 11 2026. No macro, syntax, notation, axiom, sorry.
-/
import Derived.Test.YtbiipbfdgkfenaaDoorRows
import GoSem.ClaimSeven
namespace Go.Proofs.YtbiipbfdgkfenaaDoor
namespace Rows

/-- THE TIED CARD OF 'laws.FnExactSpotText'. -/
def fnExactSpotTextCard : Claim7 := { stood := { row := fnExactSpotTextRow, standIns := [], harness := (true, "737dc776e4919007c580f6051f81c66b9a8f5e6117ed77a8433addf7a0faffff"), looks := false }, kinds := [], alts := [], laidByText := true, laidKinds := [.data, .data, .data], laidTests := true, laidLooks := .later }
def FnExactSpotTextCardSaid : Prop := Claim7.holds Tryd.pinned (.plain (OpenSpec.ofChange fnExactSpotTextSpec)) fnExactSpotTextCard

/-- THE TIED CARD OF 'laws.FnExactMoveText'. -/
def fnExactMoveTextCard : Claim7 := { stood := { row := fnExactMoveTextRow, standIns := [], harness := (true, "737dc776e4919007c580f6051f81c66b9a8f5e6117ed77a8433addf7a0faffff"), looks := false }, kinds := [], alts := [], laidByText := true, laidKinds := [.data, .data, .data], laidTests := true, laidLooks := .later }
def FnExactMoveTextCardSaid : Prop := Claim7.holds Tryd.pinned (.plain (OpenSpec.ofChange fnExactMoveTextSpec)) fnExactMoveTextCard

/-- THE TIED CARD OF 'laws.FnExactMusicText'. -/
def fnExactMusicTextCard : Claim7 := { stood := { row := fnExactMusicTextRow, standIns := [], harness := (true, "737dc776e4919007c580f6051f81c66b9a8f5e6117ed77a8433addf7a0faffff"), looks := false }, kinds := [], alts := [], laidByText := true, laidKinds := [.data, .data, .data], laidTests := true, laidLooks := .later }
def FnExactMusicTextCardSaid : Prop := Claim7.holds Tryd.pinned (.plain (OpenSpec.ofChange fnExactMusicTextSpec)) fnExactMusicTextCard

/-- THE TIED CARD OF 'laws.FnExactParseMusic'. -/
def fnExactParseMusicCard : Claim7 := { stood := { row := fnExactParseMusicRow, standIns := [], harness := (true, "737dc776e4919007c580f6051f81c66b9a8f5e6117ed77a8433addf7a0faffff"), looks := false }, kinds := [], alts := [], laidByText := true, laidKinds := [.data, .pinned], laidTests := true, laidLooks := .later }
def FnExactParseMusicCardSaid : Prop := Claim7.holds Tryd.pinned (.plain (OpenSpec.ofChange fnExactParseMusicSpec)) fnExactParseMusicCard

/-- THE TIED CARD OF 'laws.FnExactParseMove'. -/
def fnExactParseMoveCard : Claim7 := { stood := { row := fnExactParseMoveRow, standIns := [], harness := (true, "737dc776e4919007c580f6051f81c66b9a8f5e6117ed77a8433addf7a0faffff"), looks := false }, kinds := [], alts := [], laidByText := true, laidKinds := [.data, .pinned], laidTests := true, laidLooks := .later }
def FnExactParseMoveCardSaid : Prop := Claim7.holds Tryd.pinned (.plain (OpenSpec.ofChange fnExactParseMoveSpec)) fnExactParseMoveCard

/-- THE SECOND FORM's CARD OF 'laws.FnExactSpotText'. -/
def fnExactSpotTextUptoCard : Claim7 := { stood := { row := fnExactSpotTextUptoRow, standIns := [], harness := (true, "737dc776e4919007c580f6051f81c66b9a8f5e6117ed77a8433addf7a0faffff"), looks := false }, kinds := [], alts := [], laidByText := true, laidKinds := [.data, .data, .data], laidTests := true, laidLooks := .later }
def FnExactSpotTextUptoCardSaid : Prop := Claim7.holds Tryd.pinned (.plain (OpenSpec.upto fnExactSpotTextSpec)) fnExactSpotTextUptoCard

/-- THE SECOND FORM's CARD OF 'laws.FnExactMoveText'. -/
def fnExactMoveTextUptoCard : Claim7 := { stood := { row := fnExactMoveTextUptoRow, standIns := [], harness := (true, "737dc776e4919007c580f6051f81c66b9a8f5e6117ed77a8433addf7a0faffff"), looks := false }, kinds := [], alts := [], laidByText := true, laidKinds := [.data, .data, .data], laidTests := true, laidLooks := .later }
def FnExactMoveTextUptoCardSaid : Prop := Claim7.holds Tryd.pinned (.plain (OpenSpec.upto fnExactMoveTextSpec)) fnExactMoveTextUptoCard

/-- THE SECOND FORM's CARD OF 'laws.FnExactMusicText'. -/
def fnExactMusicTextUptoCard : Claim7 := { stood := { row := fnExactMusicTextUptoRow, standIns := [], harness := (true, "737dc776e4919007c580f6051f81c66b9a8f5e6117ed77a8433addf7a0faffff"), looks := false }, kinds := [], alts := [], laidByText := true, laidKinds := [.data, .data, .data], laidTests := true, laidLooks := .later }
def FnExactMusicTextUptoCardSaid : Prop := Claim7.holds Tryd.pinned (.plain (OpenSpec.upto fnExactMusicTextSpec)) fnExactMusicTextUptoCard

/-- THE SECOND FORM's CARD OF 'laws.FnExactParseMusic'. -/
def fnExactParseMusicUptoCard : Claim7 := { stood := { row := fnExactParseMusicUptoRow, standIns := [], harness := (true, "737dc776e4919007c580f6051f81c66b9a8f5e6117ed77a8433addf7a0faffff"), looks := false }, kinds := [], alts := [], laidByText := true, laidKinds := [.data, .pinned], laidTests := true, laidLooks := .later }
def FnExactParseMusicUptoCardSaid : Prop := Claim7.holds Tryd.pinned (.plain (OpenSpec.upto fnExactParseMusicSpec)) fnExactParseMusicUptoCard

/-- THE SECOND FORM's CARD OF 'laws.FnExactParseMove'. -/
def fnExactParseMoveUptoCard : Claim7 := { stood := { row := fnExactParseMoveUptoRow, standIns := [], harness := (true, "737dc776e4919007c580f6051f81c66b9a8f5e6117ed77a8433addf7a0faffff"), looks := false }, kinds := [], alts := [], laidByText := true, laidKinds := [.data, .pinned], laidTests := true, laidLooks := .later }
def FnExactParseMoveUptoCardSaid : Prop := Claim7.holds Tryd.pinned (.plain (OpenSpec.upto fnExactParseMoveSpec)) fnExactParseMoveUptoCard
end Rows
end Go.Proofs.YtbiipbfdgkfenaaDoor
