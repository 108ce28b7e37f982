/-
  DERIVED. GIVEN WITH THE SEED: THE CARDS: each row of YtjdcpddcngcioaaDoorRows.lean that lists a variable, with what it lists TIED to the program's text (the seventh form; the later family's looks); each row that meets fmt, with fmt's text TOLD by the authors' own Lean function (tested against real Go, not proved from fmt's source: count such statements apart). THE CARD IS WHAT COUNTS. Prove the row's statement (the work); the ties are given (YtjdcpddcngcioaaDoorTie.lean); close each card by the builder's one call (the guide's Derived/Test/ToyasCard.lean, 'card_holds'). Laid BY PROGRAM, IN A SANDBOX (cutbox-door.mjs). By AI agents, Wed Nov 11 2026. No macro, syntax, notation, axiom, sorry.
-/
import Derived.Test.YtjdcpddcngcioaaDoorRows
import GoSem.ClaimSeven
namespace Go.Proofs.YtjdcpddcngcioaaDoor
namespace Rows

/-- THE TIED CARD OF 'sawmilllaw52.BooksCuts'. -/
def booksCutsCard : Claim7 := { stood := { row := booksCutsRow, standIns := [], harness := (true, "81169cc445b968a3775eb17372c09d63218a9aeffc06730a90cb73aa0571b936"), looks := false }, kinds := [], alts := [], laidByText := true, laidKinds := [.widerDeep], laidTests := true, laidLooks := .later }
def BooksCutsCardSaid : Prop := Claim7.holds Tryd.pinned (.plain (OpenSpec.ofChange booksCutsSpec)) booksCutsCard

/-- THE TIED CARD OF 'sawmilllaw51.LedgerAgain'. -/
def ledgerAgainCard : Claim7 := { stood := { row := ledgerAgainRow, standIns := [], harness := (true, "81169cc445b968a3775eb17372c09d63218a9aeffc06730a90cb73aa0571b936"), looks := false }, kinds := [], alts := [], laidByText := true, laidKinds := [.data, .data, .data], laidTests := true, laidLooks := .later }
def LedgerAgainCardSaid : Prop := Claim7.holds Tryd.pinned (.plain (OpenSpec.ofChange ledgerAgainSpec)) ledgerAgainCard

/-- THE TIED CARD OF 'sawmilllaw51.LedgerNone'. -/
def ledgerNoneCard : Claim7 := { stood := { row := ledgerNoneRow, standIns := [], harness := (true, "81169cc445b968a3775eb17372c09d63218a9aeffc06730a90cb73aa0571b936"), looks := false }, kinds := [], alts := [], laidByText := true, laidKinds := [.data, .data, .data], laidTests := true, laidLooks := .later }
def LedgerNoneCardSaid : Prop := Claim7.holds Tryd.pinned (.plain (OpenSpec.ofChange ledgerNoneSpec)) ledgerNoneCard

/-- THE TIED CARD OF 'sawmilllaw52.BooksMoves'. -/
def booksMovesCard : Claim7 := { stood := { row := booksMovesRow, standIns := [], harness := (true, "81169cc445b968a3775eb17372c09d63218a9aeffc06730a90cb73aa0571b936"), looks := false }, kinds := [], alts := [], laidByText := true, laidKinds := [.widerDeep], laidTests := true, laidLooks := .later }
def BooksMovesCardSaid : Prop := Claim7.holds Tryd.pinned (.plain (OpenSpec.ofChange booksMovesSpec)) booksMovesCard

/-- THE TIED CARD OF 'sawmilllaw52.BooksSums'. -/
def booksSumsCard : Claim7 := { stood := { row := booksSumsRow, standIns := [], harness := (true, "81169cc445b968a3775eb17372c09d63218a9aeffc06730a90cb73aa0571b936"), looks := false }, kinds := [], alts := [], laidByText := true, laidKinds := [.widerDeep], laidTests := true, laidLooks := .later }
def BooksSumsCardSaid : Prop := Claim7.holds Tryd.pinned (.plain (OpenSpec.ofChange booksSumsSpec)) booksSumsCard

/-- THE TIED CARD OF 'sawmilllaw52.BooksOpen'. -/
def booksOpenCard : Claim7 := { stood := { row := booksOpenRow, standIns := [], harness := (true, "81169cc445b968a3775eb17372c09d63218a9aeffc06730a90cb73aa0571b936"), looks := false }, kinds := [], alts := [], laidByText := true, laidKinds := [.data, .data, .data, .widerDeep], laidTests := true, laidLooks := .later }
def BooksOpenCardSaid : Prop := Claim7.holds Tryd.pinned (.plain (OpenSpec.ofChange booksOpenSpec)) booksOpenCard

/-- THE TIED CARD OF 'sawmilllaw51.LedgerMakes'. -/
def ledgerMakesCard : Claim7 := { stood := { row := ledgerMakesRow, standIns := [], harness := (true, "81169cc445b968a3775eb17372c09d63218a9aeffc06730a90cb73aa0571b936"), looks := false }, kinds := [], alts := [], laidByText := true, laidKinds := [.data, .data, .data], laidTests := true, laidLooks := .later }
def LedgerMakesCardSaid : Prop := Claim7.holds Tryd.pinned (.plain (OpenSpec.ofChange ledgerMakesSpec)) ledgerMakesCard

/-- THE TIED CARD OF 'sawmilllaw51.LedgerPosts'. -/
def ledgerPostsCard : Claim7 := { stood := { row := ledgerPostsRow, standIns := [], harness := (true, "81169cc445b968a3775eb17372c09d63218a9aeffc06730a90cb73aa0571b936"), looks := false }, kinds := [], alts := [], laidByText := true, laidKinds := [.data, .data, .data], laidTests := true, laidLooks := .later }
def LedgerPostsCardSaid : Prop := Claim7.holds Tryd.pinned (.plain (OpenSpec.ofChange ledgerPostsSpec)) ledgerPostsCard

/-- THE TIED CARD OF 'sawmilllaw51.LedgerZero'. -/
def ledgerZeroCard : Claim7 := { stood := { row := ledgerZeroRow, standIns := [], harness := (true, "81169cc445b968a3775eb17372c09d63218a9aeffc06730a90cb73aa0571b936"), looks := false }, kinds := [], alts := [], laidByText := true, laidKinds := [.data, .data, .data], laidTests := true, laidLooks := .later }
def LedgerZeroCardSaid : Prop := Claim7.holds Tryd.pinned (.plain (OpenSpec.ofChange ledgerZeroSpec)) ledgerZeroCard

/-- THE TIED CARD OF 'sawmilllaw51.LedgerRefuses'. -/
def ledgerRefusesCard : Claim7 := { stood := { row := ledgerRefusesRow, standIns := [], harness := (true, "81169cc445b968a3775eb17372c09d63218a9aeffc06730a90cb73aa0571b936"), looks := false }, kinds := [], alts := [], laidByText := true, laidKinds := [.data, .data, .data], laidTests := true, laidLooks := .later }
def LedgerRefusesCardSaid : Prop := Claim7.holds Tryd.pinned (.plain (OpenSpec.ofChange ledgerRefusesSpec)) ledgerRefusesCard

/-- THE SECOND FORM's CARD OF 'sawmilllaw52.BooksCuts'. -/
def booksCutsUptoCard : Claim7 := { stood := { row := booksCutsUptoRow, standIns := [], harness := (true, "81169cc445b968a3775eb17372c09d63218a9aeffc06730a90cb73aa0571b936"), looks := false }, kinds := [], alts := [], laidByText := true, laidKinds := [.widerDeep], laidTests := true, laidLooks := .later }
def BooksCutsUptoCardSaid : Prop := Claim7.holds Tryd.pinned (.plain (OpenSpec.upto booksCutsSpec)) booksCutsUptoCard

/-- THE SECOND FORM's CARD OF 'sawmilllaw51.LedgerAgain'. -/
def ledgerAgainUptoCard : Claim7 := { stood := { row := ledgerAgainUptoRow, standIns := [], harness := (true, "81169cc445b968a3775eb17372c09d63218a9aeffc06730a90cb73aa0571b936"), looks := false }, kinds := [], alts := [], laidByText := true, laidKinds := [.data, .data, .data], laidTests := true, laidLooks := .later }
def LedgerAgainUptoCardSaid : Prop := Claim7.holds Tryd.pinned (.plain (OpenSpec.upto ledgerAgainSpec)) ledgerAgainUptoCard

/-- THE SECOND FORM's CARD OF 'sawmilllaw51.LedgerNone'. -/
def ledgerNoneUptoCard : Claim7 := { stood := { row := ledgerNoneUptoRow, standIns := [], harness := (true, "81169cc445b968a3775eb17372c09d63218a9aeffc06730a90cb73aa0571b936"), looks := false }, kinds := [], alts := [], laidByText := true, laidKinds := [.data, .data, .data], laidTests := true, laidLooks := .later }
def LedgerNoneUptoCardSaid : Prop := Claim7.holds Tryd.pinned (.plain (OpenSpec.upto ledgerNoneSpec)) ledgerNoneUptoCard

/-- THE SECOND FORM's CARD OF 'sawmilllaw52.BooksMoves'. -/
def booksMovesUptoCard : Claim7 := { stood := { row := booksMovesUptoRow, standIns := [], harness := (true, "81169cc445b968a3775eb17372c09d63218a9aeffc06730a90cb73aa0571b936"), looks := false }, kinds := [], alts := [], laidByText := true, laidKinds := [.widerDeep], laidTests := true, laidLooks := .later }
def BooksMovesUptoCardSaid : Prop := Claim7.holds Tryd.pinned (.plain (OpenSpec.upto booksMovesSpec)) booksMovesUptoCard

/-- THE SECOND FORM's CARD OF 'sawmilllaw52.BooksSums'. -/
def booksSumsUptoCard : Claim7 := { stood := { row := booksSumsUptoRow, standIns := [], harness := (true, "81169cc445b968a3775eb17372c09d63218a9aeffc06730a90cb73aa0571b936"), looks := false }, kinds := [], alts := [], laidByText := true, laidKinds := [.widerDeep], laidTests := true, laidLooks := .later }
def BooksSumsUptoCardSaid : Prop := Claim7.holds Tryd.pinned (.plain (OpenSpec.upto booksSumsSpec)) booksSumsUptoCard

/-- THE SECOND FORM's CARD OF 'sawmilllaw52.BooksOpen'. -/
def booksOpenUptoCard : Claim7 := { stood := { row := booksOpenUptoRow, standIns := [], harness := (true, "81169cc445b968a3775eb17372c09d63218a9aeffc06730a90cb73aa0571b936"), looks := false }, kinds := [], alts := [], laidByText := true, laidKinds := [.data, .data, .data, .widerDeep], laidTests := true, laidLooks := .later }
def BooksOpenUptoCardSaid : Prop := Claim7.holds Tryd.pinned (.plain (OpenSpec.upto booksOpenSpec)) booksOpenUptoCard

/-- THE SECOND FORM's CARD OF 'sawmilllaw51.LedgerMakes'. -/
def ledgerMakesUptoCard : Claim7 := { stood := { row := ledgerMakesUptoRow, standIns := [], harness := (true, "81169cc445b968a3775eb17372c09d63218a9aeffc06730a90cb73aa0571b936"), looks := false }, kinds := [], alts := [], laidByText := true, laidKinds := [.data, .data, .data], laidTests := true, laidLooks := .later }
def LedgerMakesUptoCardSaid : Prop := Claim7.holds Tryd.pinned (.plain (OpenSpec.upto ledgerMakesSpec)) ledgerMakesUptoCard

/-- THE SECOND FORM's CARD OF 'sawmilllaw51.LedgerPosts'. -/
def ledgerPostsUptoCard : Claim7 := { stood := { row := ledgerPostsUptoRow, standIns := [], harness := (true, "81169cc445b968a3775eb17372c09d63218a9aeffc06730a90cb73aa0571b936"), looks := false }, kinds := [], alts := [], laidByText := true, laidKinds := [.data, .data, .data], laidTests := true, laidLooks := .later }
def LedgerPostsUptoCardSaid : Prop := Claim7.holds Tryd.pinned (.plain (OpenSpec.upto ledgerPostsSpec)) ledgerPostsUptoCard

/-- THE SECOND FORM's CARD OF 'sawmilllaw51.LedgerZero'. -/
def ledgerZeroUptoCard : Claim7 := { stood := { row := ledgerZeroUptoRow, standIns := [], harness := (true, "81169cc445b968a3775eb17372c09d63218a9aeffc06730a90cb73aa0571b936"), looks := false }, kinds := [], alts := [], laidByText := true, laidKinds := [.data, .data, .data], laidTests := true, laidLooks := .later }
def LedgerZeroUptoCardSaid : Prop := Claim7.holds Tryd.pinned (.plain (OpenSpec.upto ledgerZeroSpec)) ledgerZeroUptoCard

/-- THE SECOND FORM's CARD OF 'sawmilllaw51.LedgerRefuses'. -/
def ledgerRefusesUptoCard : Claim7 := { stood := { row := ledgerRefusesUptoRow, standIns := [], harness := (true, "81169cc445b968a3775eb17372c09d63218a9aeffc06730a90cb73aa0571b936"), looks := false }, kinds := [], alts := [], laidByText := true, laidKinds := [.data, .data, .data], laidTests := true, laidLooks := .later }
def LedgerRefusesUptoCardSaid : Prop := Claim7.holds Tryd.pinned (.plain (OpenSpec.upto ledgerRefusesSpec)) ledgerRefusesUptoCard
end Rows
end Go.Proofs.YtjdcpddcngcioaaDoor
