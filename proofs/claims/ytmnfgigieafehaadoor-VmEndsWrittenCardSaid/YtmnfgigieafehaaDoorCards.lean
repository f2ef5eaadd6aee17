/-
  DERIVED. GIVEN WITH THE SEED: THE CARDS: each row of YtmnfgigieafehaaDoorRows.lean that lists a variable, with what it lists TIED to the program's text (the seventh form; the later family's looks); each row that meets fmt, with fmt's text TOLD by the authors' own Lean function (tested against real Go, not proved from fmt's source: count such statements apart). THE CARD IS WHAT COUNTS. Prove the row's statement (the work); the ties are given (YtmnfgigieafehaaDoorTie.lean); close each card by the builder's one call (the guide's Derived/Test/ToyasCard.lean, 'card_holds'). Laid BY PROGRAM, IN A SANDBOX (cutbox-door.mjs). By AI agents, Wed Nov 11 2026. No macro, syntax, notation, axiom, sorry.
-/
import Derived.Test.YtmnfgigieafehaaDoorRows
import GoSem.ClaimSeven
namespace Go.Proofs.YtmnfgigieafehaaDoor
namespace Rows

/-- THE TIED CARD OF 'barographkeep.VmSidesTurned'. -/
def vmSidesTurnedCard : Claim7 := { stood := { row := vmSidesTurnedRow, standIns := [], harness := (true, "513c5ff43ac392a7b80e2e5f05bb2731005ff2724583ac7762b30ec4ca4c08df"), looks := false }, kinds := [], alts := [], laidByText := true, laidKinds := [.data], laidTests := true, laidLooks := .later }
def VmSidesTurnedCardSaid : Prop := Claim7.holds Tryd.pinned (.plain (OpenSpec.ofChange vmSidesTurnedSpec)) vmSidesTurnedCard

/-- THE TIED CARD OF 'barographkeep.VmMovesMade'. -/
def vmMovesMadeCard : Claim7 := { stood := { row := vmMovesMadeRow, standIns := [], harness := (true, "513c5ff43ac392a7b80e2e5f05bb2731005ff2724583ac7762b30ec4ca4c08df"), looks := false }, kinds := [], alts := [], laidByText := true, laidKinds := [.data], laidTests := true, laidLooks := .later }
def VmMovesMadeCardSaid : Prop := Claim7.holds Tryd.pinned (.plain (OpenSpec.ofChange vmMovesMadeSpec)) vmMovesMadeCard

/-- THE TIED CARD OF 'barographkeep.VmPartsHeld'. -/
def vmPartsHeldCard : Claim7 := { stood := { row := vmPartsHeldRow, standIns := [], harness := (true, "513c5ff43ac392a7b80e2e5f05bb2731005ff2724583ac7762b30ec4ca4c08df"), looks := false }, kinds := [], alts := [], laidByText := true, laidKinds := [.data], laidTests := true, laidLooks := .later }
def VmPartsHeldCardSaid : Prop := Claim7.holds Tryd.pinned (.plain (OpenSpec.ofChange vmPartsHeldSpec)) vmPartsHeldCard

/-- THE TIED CARD OF 'barographkeep.VmSumsMade'. -/
def vmSumsMadeCard : Claim7 := { stood := { row := vmSumsMadeRow, standIns := [], harness := (true, "513c5ff43ac392a7b80e2e5f05bb2731005ff2724583ac7762b30ec4ca4c08df"), looks := false }, kinds := [], alts := [], laidByText := true, laidKinds := [.data], laidTests := true, laidLooks := .later }
def VmSumsMadeCardSaid : Prop := Claim7.holds Tryd.pinned (.plain (OpenSpec.ofChange vmSumsMadeSpec)) vmSumsMadeCard

/-- THE TIED CARD OF 'barographkeep.VmSetsParted'. -/
def vmSetsPartedCard : Claim7 := { stood := { row := vmSetsPartedRow, standIns := [], harness := (true, "513c5ff43ac392a7b80e2e5f05bb2731005ff2724583ac7762b30ec4ca4c08df"), looks := false }, kinds := [], alts := [], laidByText := true, laidKinds := [.data], laidTests := true, laidLooks := .later }
def VmSetsPartedCardSaid : Prop := Claim7.holds Tryd.pinned (.plain (OpenSpec.ofChange vmSetsPartedSpec)) vmSetsPartedCard

/-- THE TIED CARD OF 'barographkeep.VmTestsMade'. -/
def vmTestsMadeCard : Claim7 := { stood := { row := vmTestsMadeRow, standIns := [], harness := (true, "513c5ff43ac392a7b80e2e5f05bb2731005ff2724583ac7762b30ec4ca4c08df"), looks := false }, kinds := [], alts := [], laidByText := true, laidKinds := [.data], laidTests := true, laidLooks := .later }
def VmTestsMadeCardSaid : Prop := Claim7.holds Tryd.pinned (.plain (OpenSpec.ofChange vmTestsMadeSpec)) vmTestsMadeCard

/-- THE TIED CARD OF 'barographkeep.VmRestsMade'. -/
def vmRestsMadeCard : Claim7 := { stood := { row := vmRestsMadeRow, standIns := [], harness := (true, "513c5ff43ac392a7b80e2e5f05bb2731005ff2724583ac7762b30ec4ca4c08df"), looks := false }, kinds := [], alts := [], laidByText := true, laidKinds := [.data], laidTests := true, laidLooks := .later }
def VmRestsMadeCardSaid : Prop := Claim7.holds Tryd.pinned (.plain (OpenSpec.ofChange vmRestsMadeSpec)) vmRestsMadeCard

/-- THE TIED CARD OF 'barographkeep.VmWaysTurned'. -/
def vmWaysTurnedCard : Claim7 := { stood := { row := vmWaysTurnedRow, standIns := [], harness := (true, "513c5ff43ac392a7b80e2e5f05bb2731005ff2724583ac7762b30ec4ca4c08df"), looks := false }, kinds := [], alts := [], laidByText := true, laidKinds := [.data], laidTests := true, laidLooks := .later }
def VmWaysTurnedCardSaid : Prop := Claim7.holds Tryd.pinned (.plain (OpenSpec.ofChange vmWaysTurnedSpec)) vmWaysTurnedCard

/-- THE TIED CARD OF 'barographkeep.VmWaysOver'. -/
def vmWaysOverCard : Claim7 := { stood := { row := vmWaysOverRow, standIns := [], harness := (true, "513c5ff43ac392a7b80e2e5f05bb2731005ff2724583ac7762b30ec4ca4c08df"), looks := false }, kinds := [], alts := [], laidByText := true, laidKinds := [.data], laidTests := true, laidLooks := .later }
def VmWaysOverCardSaid : Prop := Claim7.holds Tryd.pinned (.plain (OpenSpec.ofChange vmWaysOverSpec)) vmWaysOverCard

/-- THE TIED CARD OF 'barographkeep.VmStoresTwice'. -/
def vmStoresTwiceCard : Claim7 := { stood := { row := vmStoresTwiceRow, standIns := [], harness := (true, "513c5ff43ac392a7b80e2e5f05bb2731005ff2724583ac7762b30ec4ca4c08df"), looks := false }, kinds := [], alts := [], laidByText := true, laidKinds := [.data], laidTests := true, laidLooks := .later }
def VmStoresTwiceCardSaid : Prop := Claim7.holds Tryd.pinned (.plain (OpenSpec.ofChange vmStoresTwiceSpec)) vmStoresTwiceCard

/-- THE TIED CARD OF 'barographkeep.VmCasMade'. -/
def vmCasMadeCard : Claim7 := { stood := { row := vmCasMadeRow, standIns := [], harness := (true, "513c5ff43ac392a7b80e2e5f05bb2731005ff2724583ac7762b30ec4ca4c08df"), looks := false }, kinds := [], alts := [], laidByText := true, laidKinds := [.data], laidTests := true, laidLooks := .later }
def VmCasMadeCardSaid : Prop := Claim7.holds Tryd.pinned (.plain (OpenSpec.ofChange vmCasMadeSpec)) vmCasMadeCard

/-- THE TIED CARD OF 'barographkeep.VmEndsWritten'. -/
def vmEndsWrittenCard : Claim7 := { stood := { row := vmEndsWrittenRow, standIns := [], harness := (true, "513c5ff43ac392a7b80e2e5f05bb2731005ff2724583ac7762b30ec4ca4c08df"), looks := false }, kinds := [], alts := [], laidByText := true, laidKinds := [.data], laidTests := true, laidLooks := .later }
def VmEndsWrittenCardSaid : Prop := Claim7.holds Tryd.pinned (.plain (OpenSpec.ofChange vmEndsWrittenSpec)) vmEndsWrittenCard

/-- THE SECOND FORM's CARD OF 'barographkeep.VmSidesTurned'. -/
def vmSidesTurnedUptoCard : Claim7 := { stood := { row := vmSidesTurnedUptoRow, standIns := [], harness := (true, "513c5ff43ac392a7b80e2e5f05bb2731005ff2724583ac7762b30ec4ca4c08df"), looks := false }, kinds := [], alts := [], laidByText := true, laidKinds := [.data], laidTests := true, laidLooks := .later }
def VmSidesTurnedUptoCardSaid : Prop := Claim7.holds Tryd.pinned (.plain (OpenSpec.upto vmSidesTurnedSpec)) vmSidesTurnedUptoCard

/-- THE SECOND FORM's CARD OF 'barographkeep.VmMovesMade'. -/
def vmMovesMadeUptoCard : Claim7 := { stood := { row := vmMovesMadeUptoRow, standIns := [], harness := (true, "513c5ff43ac392a7b80e2e5f05bb2731005ff2724583ac7762b30ec4ca4c08df"), looks := false }, kinds := [], alts := [], laidByText := true, laidKinds := [.data], laidTests := true, laidLooks := .later }
def VmMovesMadeUptoCardSaid : Prop := Claim7.holds Tryd.pinned (.plain (OpenSpec.upto vmMovesMadeSpec)) vmMovesMadeUptoCard

/-- THE SECOND FORM's CARD OF 'barographkeep.VmPartsHeld'. -/
def vmPartsHeldUptoCard : Claim7 := { stood := { row := vmPartsHeldUptoRow, standIns := [], harness := (true, "513c5ff43ac392a7b80e2e5f05bb2731005ff2724583ac7762b30ec4ca4c08df"), looks := false }, kinds := [], alts := [], laidByText := true, laidKinds := [.data], laidTests := true, laidLooks := .later }
def VmPartsHeldUptoCardSaid : Prop := Claim7.holds Tryd.pinned (.plain (OpenSpec.upto vmPartsHeldSpec)) vmPartsHeldUptoCard

/-- THE SECOND FORM's CARD OF 'barographkeep.VmSumsMade'. -/
def vmSumsMadeUptoCard : Claim7 := { stood := { row := vmSumsMadeUptoRow, standIns := [], harness := (true, "513c5ff43ac392a7b80e2e5f05bb2731005ff2724583ac7762b30ec4ca4c08df"), looks := false }, kinds := [], alts := [], laidByText := true, laidKinds := [.data], laidTests := true, laidLooks := .later }
def VmSumsMadeUptoCardSaid : Prop := Claim7.holds Tryd.pinned (.plain (OpenSpec.upto vmSumsMadeSpec)) vmSumsMadeUptoCard

/-- THE SECOND FORM's CARD OF 'barographkeep.VmSetsParted'. -/
def vmSetsPartedUptoCard : Claim7 := { stood := { row := vmSetsPartedUptoRow, standIns := [], harness := (true, "513c5ff43ac392a7b80e2e5f05bb2731005ff2724583ac7762b30ec4ca4c08df"), looks := false }, kinds := [], alts := [], laidByText := true, laidKinds := [.data], laidTests := true, laidLooks := .later }
def VmSetsPartedUptoCardSaid : Prop := Claim7.holds Tryd.pinned (.plain (OpenSpec.upto vmSetsPartedSpec)) vmSetsPartedUptoCard

/-- THE SECOND FORM's CARD OF 'barographkeep.VmTestsMade'. -/
def vmTestsMadeUptoCard : Claim7 := { stood := { row := vmTestsMadeUptoRow, standIns := [], harness := (true, "513c5ff43ac392a7b80e2e5f05bb2731005ff2724583ac7762b30ec4ca4c08df"), looks := false }, kinds := [], alts := [], laidByText := true, laidKinds := [.data], laidTests := true, laidLooks := .later }
def VmTestsMadeUptoCardSaid : Prop := Claim7.holds Tryd.pinned (.plain (OpenSpec.upto vmTestsMadeSpec)) vmTestsMadeUptoCard

/-- THE SECOND FORM's CARD OF 'barographkeep.VmRestsMade'. -/
def vmRestsMadeUptoCard : Claim7 := { stood := { row := vmRestsMadeUptoRow, standIns := [], harness := (true, "513c5ff43ac392a7b80e2e5f05bb2731005ff2724583ac7762b30ec4ca4c08df"), looks := false }, kinds := [], alts := [], laidByText := true, laidKinds := [.data], laidTests := true, laidLooks := .later }
def VmRestsMadeUptoCardSaid : Prop := Claim7.holds Tryd.pinned (.plain (OpenSpec.upto vmRestsMadeSpec)) vmRestsMadeUptoCard

/-- THE SECOND FORM's CARD OF 'barographkeep.VmWaysTurned'. -/
def vmWaysTurnedUptoCard : Claim7 := { stood := { row := vmWaysTurnedUptoRow, standIns := [], harness := (true, "513c5ff43ac392a7b80e2e5f05bb2731005ff2724583ac7762b30ec4ca4c08df"), looks := false }, kinds := [], alts := [], laidByText := true, laidKinds := [.data], laidTests := true, laidLooks := .later }
def VmWaysTurnedUptoCardSaid : Prop := Claim7.holds Tryd.pinned (.plain (OpenSpec.upto vmWaysTurnedSpec)) vmWaysTurnedUptoCard

/-- THE SECOND FORM's CARD OF 'barographkeep.VmWaysOver'. -/
def vmWaysOverUptoCard : Claim7 := { stood := { row := vmWaysOverUptoRow, standIns := [], harness := (true, "513c5ff43ac392a7b80e2e5f05bb2731005ff2724583ac7762b30ec4ca4c08df"), looks := false }, kinds := [], alts := [], laidByText := true, laidKinds := [.data], laidTests := true, laidLooks := .later }
def VmWaysOverUptoCardSaid : Prop := Claim7.holds Tryd.pinned (.plain (OpenSpec.upto vmWaysOverSpec)) vmWaysOverUptoCard

/-- THE SECOND FORM's CARD OF 'barographkeep.VmStoresTwice'. -/
def vmStoresTwiceUptoCard : Claim7 := { stood := { row := vmStoresTwiceUptoRow, standIns := [], harness := (true, "513c5ff43ac392a7b80e2e5f05bb2731005ff2724583ac7762b30ec4ca4c08df"), looks := false }, kinds := [], alts := [], laidByText := true, laidKinds := [.data], laidTests := true, laidLooks := .later }
def VmStoresTwiceUptoCardSaid : Prop := Claim7.holds Tryd.pinned (.plain (OpenSpec.upto vmStoresTwiceSpec)) vmStoresTwiceUptoCard

/-- THE SECOND FORM's CARD OF 'barographkeep.VmCasMade'. -/
def vmCasMadeUptoCard : Claim7 := { stood := { row := vmCasMadeUptoRow, standIns := [], harness := (true, "513c5ff43ac392a7b80e2e5f05bb2731005ff2724583ac7762b30ec4ca4c08df"), looks := false }, kinds := [], alts := [], laidByText := true, laidKinds := [.data], laidTests := true, laidLooks := .later }
def VmCasMadeUptoCardSaid : Prop := Claim7.holds Tryd.pinned (.plain (OpenSpec.upto vmCasMadeSpec)) vmCasMadeUptoCard

/-- THE SECOND FORM's CARD OF 'barographkeep.VmEndsWritten'. -/
def vmEndsWrittenUptoCard : Claim7 := { stood := { row := vmEndsWrittenUptoRow, standIns := [], harness := (true, "513c5ff43ac392a7b80e2e5f05bb2731005ff2724583ac7762b30ec4ca4c08df"), looks := false }, kinds := [], alts := [], laidByText := true, laidKinds := [.data], laidTests := true, laidLooks := .later }
def VmEndsWrittenUptoCardSaid : Prop := Claim7.holds Tryd.pinned (.plain (OpenSpec.upto vmEndsWrittenSpec)) vmEndsWrittenUptoCard
end Rows
end Go.Proofs.YtmnfgigieafehaaDoor
