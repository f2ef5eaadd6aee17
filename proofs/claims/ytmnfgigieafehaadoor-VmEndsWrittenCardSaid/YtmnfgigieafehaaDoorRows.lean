/-
  NARROWER THAN 'FOR EVERY INPUT', by the rows' own cells (each row's printed sentence says how): VmSidesTurned: laid · VmMovesMade: laid · VmPartsHeld: laid · VmSumsMade: laid · VmSetsParted: laid · VmTestsMade: laid · VmRestsMade: laid · VmWaysTurned: laid · VmWaysOver: laid · VmStoresTwice: laid · VmCasMade: laid · VmEndsWritten: laid.
  DERIVED. THE GIVEN ROWS OF THIS SEAT. 12 by the template 'for every input the law returns true; each argument reads behind the call as it read before'; 0 by the template 'total and deterministic' (their statements: YtmnfgigieafehaaDoorTotals.lean).
  GIVEN WITH THE SEED: the statements are not yours to turn. If you find one false, say at which input.
  Laid BY PROGRAM, IN A SANDBOX (cutbox-rows.mjs): the forced cells as the released guide's own fill.sh prints them over the translation abc65d418a925c19… (all of the seat's roots in one cut). By AI agents, Wed Nov 11 2026. No macro, syntax, notation, axiom, sorry.
-/
import Derived.Test.YtmnfgigieafehaaDoorChecked
import GoSem.Claim
import GoSem.ClaimJoined
import GoSem.ClaimMapViews
import Derived.JoinedTies
import Derived.KernelRfl
namespace Go.Proofs.YtmnfgigieafehaaDoor
/- THE CELL 'sum', in the pinned program and in every row, IS THE sha256 OF THE DUMP (.gsa) THAT YtmnfgigieafehaaDoorProg.lean LOADS. Nothing in Lean hashes anything: it is a label: what it is worth is what the hold of that sum in a sandbox is worth. -/
noncomputable def Tryd.pinned : Pinned := { name := "ytmnfgigieafehaadoor", sum := "abc65d418a925c192bec50848b87555dc4391d00248fccdf2ea97ae8da161cd5", checked := Tryd.checked }
namespace Rows
def none {H : Type} : Left H := { results := [], args := [] }

/- WHAT THE LISTED PACKAGE-LEVEL VARIABLES READ AS WHEN THE CALL BEGINS. Each datum BY PROGRAM (the guide's laid-datum.mjs) off the statement by which the dump's own 'gosem.cut.vars' lays the variable. In a bare row this is a premise. The card (YtmnfgigieafehaaDoorCards.lean) ties it to the program's text. -/
def laid_barograph_vm_shapes {H : Type} : DataW H := .agg [.lit (.string []), .lit (.string [114, 110, 45, 45]), .lit (.string [114, 114, 45, 45]), .lit (.string [114, 114, 114, 45]), .lit (.string [114, 114, 114, 45]), .lit (.string [114, 114, 114, 45]), .lit (.string [114, 114, 114, 45]), .lit (.string [114, 114, 114, 45]), .lit (.string [114, 114, 114, 45]), .lit (.string [114, 114, 114, 45]), .lit (.string [112, 45, 45, 45]), .lit (.string [114, 112, 45, 45]), .lit (.string [114, 112, 45, 45]), .lit (.string [114, 114, 110, 45]), .lit (.string [114, 114, 110, 45]), .lit (.string [114, 114, 110, 114]), .lit (.string [114, 45, 45, 45]), .lit (.string [45, 45, 45, 45])]

/-- 'barographkeep.VmSidesTurned': WHATEVER THE INPUT: true; the input reads as it did. -/
def vmSidesTurnedSpec : ChangeSpec := { name := "vmSidesTurned", fn := fun _ => fun
  | [d1, d2, d3, d4] => { results := [.lit (.bool true)], args := [d1, d2, d3, d4] }
  | _ => none }
def vmSidesTurnedRow : OpenClaim := { program := "ytmnfgigieafehaadoor", sum := "abc65d418a925c192bec50848b87555dc4391d00248fccdf2ea97ae8da161cd5", func := "barograph/barographkeep.VmSidesTurned", spec := "vmSidesTurned", unfollowed := true, recurses := true, named := ["barograph/vm.shapes"], apart := false, laid := [("barograph/vm.shapes", laid_barograph_vm_shapes)] }
def VmSidesTurnedSaid : Prop := vmSidesTurnedRow.holds Tryd.pinned (OpenSpec.ofChange vmSidesTurnedSpec)

/-- ITS FALSE NEIGHBOUR: 'it returns false'. Refute it at one input. -/
def vmSidesTurnedWrong : ChangeSpec := { name := "vmSidesTurned", fn := fun _ => fun
  | [d1, d2, d3, d4] => { results := [.lit (.bool false)], args := [d1, d2, d3, d4] }
  | _ => none }
def VmSidesTurnedWrongFalsely : Prop := vmSidesTurnedRow.holds Tryd.pinned (OpenSpec.ofChange vmSidesTurnedWrong)

/-- 'barographkeep.VmMovesMade': WHATEVER THE INPUT: true; the input reads as it did. -/
def vmMovesMadeSpec : ChangeSpec := { name := "vmMovesMade", fn := fun _ => fun
  | [d1, d2, d3, d4, d5] => { results := [.lit (.bool true)], args := [d1, d2, d3, d4, d5] }
  | _ => none }
def vmMovesMadeRow : OpenClaim := { program := "ytmnfgigieafehaadoor", sum := "abc65d418a925c192bec50848b87555dc4391d00248fccdf2ea97ae8da161cd5", func := "barograph/barographkeep.VmMovesMade", spec := "vmMovesMade", unfollowed := true, recurses := true, named := ["barograph/vm.shapes"], apart := false, laid := [("barograph/vm.shapes", laid_barograph_vm_shapes)] }
def VmMovesMadeSaid : Prop := vmMovesMadeRow.holds Tryd.pinned (OpenSpec.ofChange vmMovesMadeSpec)

/-- ITS FALSE NEIGHBOUR: 'it returns false'. Refute it at one input. -/
def vmMovesMadeWrong : ChangeSpec := { name := "vmMovesMade", fn := fun _ => fun
  | [d1, d2, d3, d4, d5] => { results := [.lit (.bool false)], args := [d1, d2, d3, d4, d5] }
  | _ => none }
def VmMovesMadeWrongFalsely : Prop := vmMovesMadeRow.holds Tryd.pinned (OpenSpec.ofChange vmMovesMadeWrong)

/-- 'barographkeep.VmPartsHeld': WHATEVER THE INPUT: true; the input reads as it did. -/
def vmPartsHeldSpec : ChangeSpec := { name := "vmPartsHeld", fn := fun _ => fun
  | [d1, d2, d3, d4, d5] => { results := [.lit (.bool true)], args := [d1, d2, d3, d4, d5] }
  | _ => none }
def vmPartsHeldRow : OpenClaim := { program := "ytmnfgigieafehaadoor", sum := "abc65d418a925c192bec50848b87555dc4391d00248fccdf2ea97ae8da161cd5", func := "barograph/barographkeep.VmPartsHeld", spec := "vmPartsHeld", unfollowed := true, recurses := true, named := ["barograph/vm.shapes"], apart := false, laid := [("barograph/vm.shapes", laid_barograph_vm_shapes)] }
def VmPartsHeldSaid : Prop := vmPartsHeldRow.holds Tryd.pinned (OpenSpec.ofChange vmPartsHeldSpec)

/-- ITS FALSE NEIGHBOUR: 'it returns false'. Refute it at one input. -/
def vmPartsHeldWrong : ChangeSpec := { name := "vmPartsHeld", fn := fun _ => fun
  | [d1, d2, d3, d4, d5] => { results := [.lit (.bool false)], args := [d1, d2, d3, d4, d5] }
  | _ => none }
def VmPartsHeldWrongFalsely : Prop := vmPartsHeldRow.holds Tryd.pinned (OpenSpec.ofChange vmPartsHeldWrong)

/-- 'barographkeep.VmSumsMade': WHATEVER THE INPUT: true; the input reads as it did. -/
def vmSumsMadeSpec : ChangeSpec := { name := "vmSumsMade", fn := fun _ => fun
  | [d1, d2, d3, d4, d5] => { results := [.lit (.bool true)], args := [d1, d2, d3, d4, d5] }
  | _ => none }
def vmSumsMadeRow : OpenClaim := { program := "ytmnfgigieafehaadoor", sum := "abc65d418a925c192bec50848b87555dc4391d00248fccdf2ea97ae8da161cd5", func := "barograph/barographkeep.VmSumsMade", spec := "vmSumsMade", unfollowed := true, recurses := true, named := ["barograph/vm.shapes"], apart := false, laid := [("barograph/vm.shapes", laid_barograph_vm_shapes)] }
def VmSumsMadeSaid : Prop := vmSumsMadeRow.holds Tryd.pinned (OpenSpec.ofChange vmSumsMadeSpec)

/-- ITS FALSE NEIGHBOUR: 'it returns false'. Refute it at one input. -/
def vmSumsMadeWrong : ChangeSpec := { name := "vmSumsMade", fn := fun _ => fun
  | [d1, d2, d3, d4, d5] => { results := [.lit (.bool false)], args := [d1, d2, d3, d4, d5] }
  | _ => none }
def VmSumsMadeWrongFalsely : Prop := vmSumsMadeRow.holds Tryd.pinned (OpenSpec.ofChange vmSumsMadeWrong)

/-- 'barographkeep.VmSetsParted': WHATEVER THE INPUT: true; the input reads as it did. -/
def vmSetsPartedSpec : ChangeSpec := { name := "vmSetsParted", fn := fun _ => fun
  | [d1, d2, d3, d4, d5, d6] => { results := [.lit (.bool true)], args := [d1, d2, d3, d4, d5, d6] }
  | _ => none }
def vmSetsPartedRow : OpenClaim := { program := "ytmnfgigieafehaadoor", sum := "abc65d418a925c192bec50848b87555dc4391d00248fccdf2ea97ae8da161cd5", func := "barograph/barographkeep.VmSetsParted", spec := "vmSetsParted", unfollowed := true, recurses := true, named := ["barograph/vm.shapes"], apart := false, laid := [("barograph/vm.shapes", laid_barograph_vm_shapes)] }
def VmSetsPartedSaid : Prop := vmSetsPartedRow.holds Tryd.pinned (OpenSpec.ofChange vmSetsPartedSpec)

/-- ITS FALSE NEIGHBOUR: 'it returns false'. Refute it at one input. -/
def vmSetsPartedWrong : ChangeSpec := { name := "vmSetsParted", fn := fun _ => fun
  | [d1, d2, d3, d4, d5, d6] => { results := [.lit (.bool false)], args := [d1, d2, d3, d4, d5, d6] }
  | _ => none }
def VmSetsPartedWrongFalsely : Prop := vmSetsPartedRow.holds Tryd.pinned (OpenSpec.ofChange vmSetsPartedWrong)

/-- 'barographkeep.VmTestsMade': WHATEVER THE INPUT: true; the input reads as it did. -/
def vmTestsMadeSpec : ChangeSpec := { name := "vmTestsMade", fn := fun _ => fun
  | [d1, d2, d3, d4] => { results := [.lit (.bool true)], args := [d1, d2, d3, d4] }
  | _ => none }
def vmTestsMadeRow : OpenClaim := { program := "ytmnfgigieafehaadoor", sum := "abc65d418a925c192bec50848b87555dc4391d00248fccdf2ea97ae8da161cd5", func := "barograph/barographkeep.VmTestsMade", spec := "vmTestsMade", unfollowed := true, recurses := true, named := ["barograph/vm.shapes"], apart := false, laid := [("barograph/vm.shapes", laid_barograph_vm_shapes)] }
def VmTestsMadeSaid : Prop := vmTestsMadeRow.holds Tryd.pinned (OpenSpec.ofChange vmTestsMadeSpec)

/-- ITS FALSE NEIGHBOUR: 'it returns false'. Refute it at one input. -/
def vmTestsMadeWrong : ChangeSpec := { name := "vmTestsMade", fn := fun _ => fun
  | [d1, d2, d3, d4] => { results := [.lit (.bool false)], args := [d1, d2, d3, d4] }
  | _ => none }
def VmTestsMadeWrongFalsely : Prop := vmTestsMadeRow.holds Tryd.pinned (OpenSpec.ofChange vmTestsMadeWrong)

/-- 'barographkeep.VmRestsMade': WHATEVER THE INPUT: true; the input reads as it did. -/
def vmRestsMadeSpec : ChangeSpec := { name := "vmRestsMade", fn := fun _ => fun
  | [d1, d2, d3, d4] => { results := [.lit (.bool true)], args := [d1, d2, d3, d4] }
  | _ => none }
def vmRestsMadeRow : OpenClaim := { program := "ytmnfgigieafehaadoor", sum := "abc65d418a925c192bec50848b87555dc4391d00248fccdf2ea97ae8da161cd5", func := "barograph/barographkeep.VmRestsMade", spec := "vmRestsMade", unfollowed := true, recurses := true, named := ["barograph/vm.shapes"], apart := false, laid := [("barograph/vm.shapes", laid_barograph_vm_shapes)] }
def VmRestsMadeSaid : Prop := vmRestsMadeRow.holds Tryd.pinned (OpenSpec.ofChange vmRestsMadeSpec)

/-- ITS FALSE NEIGHBOUR: 'it returns false'. Refute it at one input. -/
def vmRestsMadeWrong : ChangeSpec := { name := "vmRestsMade", fn := fun _ => fun
  | [d1, d2, d3, d4] => { results := [.lit (.bool false)], args := [d1, d2, d3, d4] }
  | _ => none }
def VmRestsMadeWrongFalsely : Prop := vmRestsMadeRow.holds Tryd.pinned (OpenSpec.ofChange vmRestsMadeWrong)

/-- 'barographkeep.VmWaysTurned': WHATEVER THE INPUT: true; the input reads as it did. -/
def vmWaysTurnedSpec : ChangeSpec := { name := "vmWaysTurned", fn := fun _ => fun
  | [d1, d2, d3, d4] => { results := [.lit (.bool true)], args := [d1, d2, d3, d4] }
  | _ => none }
def vmWaysTurnedRow : OpenClaim := { program := "ytmnfgigieafehaadoor", sum := "abc65d418a925c192bec50848b87555dc4391d00248fccdf2ea97ae8da161cd5", func := "barograph/barographkeep.VmWaysTurned", spec := "vmWaysTurned", unfollowed := true, recurses := true, named := ["barograph/vm.shapes"], apart := false, laid := [("barograph/vm.shapes", laid_barograph_vm_shapes)] }
def VmWaysTurnedSaid : Prop := vmWaysTurnedRow.holds Tryd.pinned (OpenSpec.ofChange vmWaysTurnedSpec)

/-- ITS FALSE NEIGHBOUR: 'it returns false'. Refute it at one input. -/
def vmWaysTurnedWrong : ChangeSpec := { name := "vmWaysTurned", fn := fun _ => fun
  | [d1, d2, d3, d4] => { results := [.lit (.bool false)], args := [d1, d2, d3, d4] }
  | _ => none }
def VmWaysTurnedWrongFalsely : Prop := vmWaysTurnedRow.holds Tryd.pinned (OpenSpec.ofChange vmWaysTurnedWrong)

/-- 'barographkeep.VmWaysOver': WHATEVER THE INPUT: true; the input reads as it did. -/
def vmWaysOverSpec : ChangeSpec := { name := "vmWaysOver", fn := fun _ => fun
  | [d1, d2, d3, d4, d5] => { results := [.lit (.bool true)], args := [d1, d2, d3, d4, d5] }
  | _ => none }
def vmWaysOverRow : OpenClaim := { program := "ytmnfgigieafehaadoor", sum := "abc65d418a925c192bec50848b87555dc4391d00248fccdf2ea97ae8da161cd5", func := "barograph/barographkeep.VmWaysOver", spec := "vmWaysOver", unfollowed := true, recurses := true, named := ["barograph/vm.shapes"], apart := false, laid := [("barograph/vm.shapes", laid_barograph_vm_shapes)] }
def VmWaysOverSaid : Prop := vmWaysOverRow.holds Tryd.pinned (OpenSpec.ofChange vmWaysOverSpec)

/-- ITS FALSE NEIGHBOUR: 'it returns false'. Refute it at one input. -/
def vmWaysOverWrong : ChangeSpec := { name := "vmWaysOver", fn := fun _ => fun
  | [d1, d2, d3, d4, d5] => { results := [.lit (.bool false)], args := [d1, d2, d3, d4, d5] }
  | _ => none }
def VmWaysOverWrongFalsely : Prop := vmWaysOverRow.holds Tryd.pinned (OpenSpec.ofChange vmWaysOverWrong)

/-- 'barographkeep.VmStoresTwice': WHATEVER THE INPUT: true; the input reads as it did. -/
def vmStoresTwiceSpec : ChangeSpec := { name := "vmStoresTwice", fn := fun _ => fun
  | [d1, d2, d3, d4, d5] => { results := [.lit (.bool true)], args := [d1, d2, d3, d4, d5] }
  | _ => none }
def vmStoresTwiceRow : OpenClaim := { program := "ytmnfgigieafehaadoor", sum := "abc65d418a925c192bec50848b87555dc4391d00248fccdf2ea97ae8da161cd5", func := "barograph/barographkeep.VmStoresTwice", spec := "vmStoresTwice", unfollowed := true, recurses := true, named := ["barograph/vm.shapes"], apart := false, laid := [("barograph/vm.shapes", laid_barograph_vm_shapes)] }
def VmStoresTwiceSaid : Prop := vmStoresTwiceRow.holds Tryd.pinned (OpenSpec.ofChange vmStoresTwiceSpec)

/-- ITS FALSE NEIGHBOUR: 'it returns false'. Refute it at one input. -/
def vmStoresTwiceWrong : ChangeSpec := { name := "vmStoresTwice", fn := fun _ => fun
  | [d1, d2, d3, d4, d5] => { results := [.lit (.bool false)], args := [d1, d2, d3, d4, d5] }
  | _ => none }
def VmStoresTwiceWrongFalsely : Prop := vmStoresTwiceRow.holds Tryd.pinned (OpenSpec.ofChange vmStoresTwiceWrong)

/-- 'barographkeep.VmCasMade': WHATEVER THE INPUT: true; the input reads as it did. -/
def vmCasMadeSpec : ChangeSpec := { name := "vmCasMade", fn := fun _ => fun
  | [d1, d2, d3, d4] => { results := [.lit (.bool true)], args := [d1, d2, d3, d4] }
  | _ => none }
def vmCasMadeRow : OpenClaim := { program := "ytmnfgigieafehaadoor", sum := "abc65d418a925c192bec50848b87555dc4391d00248fccdf2ea97ae8da161cd5", func := "barograph/barographkeep.VmCasMade", spec := "vmCasMade", unfollowed := true, recurses := true, named := ["barograph/vm.shapes"], apart := false, laid := [("barograph/vm.shapes", laid_barograph_vm_shapes)] }
def VmCasMadeSaid : Prop := vmCasMadeRow.holds Tryd.pinned (OpenSpec.ofChange vmCasMadeSpec)

/-- ITS FALSE NEIGHBOUR: 'it returns false'. Refute it at one input. -/
def vmCasMadeWrong : ChangeSpec := { name := "vmCasMade", fn := fun _ => fun
  | [d1, d2, d3, d4] => { results := [.lit (.bool false)], args := [d1, d2, d3, d4] }
  | _ => none }
def VmCasMadeWrongFalsely : Prop := vmCasMadeRow.holds Tryd.pinned (OpenSpec.ofChange vmCasMadeWrong)

/-- 'barographkeep.VmEndsWritten': WHATEVER THE INPUT: true; the input reads as it did. -/
def vmEndsWrittenSpec : ChangeSpec := { name := "vmEndsWritten", fn := fun _ => fun
  | [d1, d2, d3, d4, d5] => { results := [.lit (.bool true)], args := [d1, d2, d3, d4, d5] }
  | _ => none }
def vmEndsWrittenRow : OpenClaim := { program := "ytmnfgigieafehaadoor", sum := "abc65d418a925c192bec50848b87555dc4391d00248fccdf2ea97ae8da161cd5", func := "barograph/barographkeep.VmEndsWritten", spec := "vmEndsWritten", unfollowed := true, recurses := true, named := ["barograph/vm.shapes"], apart := false, laid := [("barograph/vm.shapes", laid_barograph_vm_shapes)] }
def VmEndsWrittenSaid : Prop := vmEndsWrittenRow.holds Tryd.pinned (OpenSpec.ofChange vmEndsWrittenSpec)

/-- ITS FALSE NEIGHBOUR: 'it returns false'. Refute it at one input. -/
def vmEndsWrittenWrong : ChangeSpec := { name := "vmEndsWritten", fn := fun _ => fun
  | [d1, d2, d3, d4, d5] => { results := [.lit (.bool false)], args := [d1, d2, d3, d4, d5] }
  | _ => none }
def VmEndsWrittenWrongFalsely : Prop := vmEndsWrittenRow.holds Tryd.pinned (OpenSpec.ofChange vmEndsWrittenWrong)

/- THE SECOND FORM. 'bulk': how many values and letters a reading holds, each counted each time it is reached (what is shared counts as often as it is met; a slice's spare places count too). A statement '..UptoSaid' is the law's where the arguments, and the package variables that the reading takes, are together of bulk at most 1048576: NARROWER than '..Said'. Prove '..Said' where nothing that the law and all that it calls make is longer than what came in: it says more and counts as full. Else prove '..UptoSaid'. A law counts once. -/
mutual
def uptoBulk {H : Type} : DataW H → Nat
  | .lit (.string bytes) => bytes.length + 1
  | .lit _ => 1
  | .nil => 1
  | .ptr d => uptoBulk d + 1
  | .slice elems spare => uptoBulkAll elems + uptoBulkAll spare + 1
  | .agg parts => uptoBulkAll parts + 1
  | .iface _ d => uptoBulk d + 1
  | .map entries => uptoBulkEntries entries + 1
  | .held _ => 1
def uptoBulkAll {H : Type} : List (DataW H) → Nat
  | [] => 0
  | d :: r => uptoBulk d + uptoBulkAll r
def uptoBulkEntries {H : Type} : List (Lit × DataW H) → Nat
  | [] => 0
  | x :: r => uptoBulkEntry x + uptoBulkEntries r
def uptoBulkEntry {H : Type} : Lit × DataW H → Nat
  | (.string bytes, d) => bytes.length + uptoBulk d + 1
  | (_, d) => uptoBulk d + 1
 end
def uptoSmall : (H : Type) → List (DataW H) → Bool := fun _ ds => decide (uptoBulkAll ds ≤ 1048576)
def OpenSpec.upto (s : _root_.Go.ChangeSpec) : _root_.Go.OpenSpec := { _root_.Go.OpenSpec.ofChange s with cond := some uptoSmall }

/-- 'barographkeep.VmSidesTurned', WHERE WHAT IT READS IS OF BULK AT MOST 1048576: true; the input reads as it did. -/
def vmSidesTurnedUptoRow : OpenClaim := { program := "ytmnfgigieafehaadoor", sum := "abc65d418a925c192bec50848b87555dc4391d00248fccdf2ea97ae8da161cd5", func := "barograph/barographkeep.VmSidesTurned", spec := "vmSidesTurned", unfollowed := true, recurses := true, named := ["barograph/vm.shapes"], apart := false, laid := [("barograph/vm.shapes", laid_barograph_vm_shapes)], narrowed := true }
def VmSidesTurnedUptoSaid : Prop := vmSidesTurnedUptoRow.holds Tryd.pinned (OpenSpec.upto vmSidesTurnedSpec)

/-- 'barographkeep.VmMovesMade', WHERE WHAT IT READS IS OF BULK AT MOST 1048576: true; the input reads as it did. -/
def vmMovesMadeUptoRow : OpenClaim := { program := "ytmnfgigieafehaadoor", sum := "abc65d418a925c192bec50848b87555dc4391d00248fccdf2ea97ae8da161cd5", func := "barograph/barographkeep.VmMovesMade", spec := "vmMovesMade", unfollowed := true, recurses := true, named := ["barograph/vm.shapes"], apart := false, laid := [("barograph/vm.shapes", laid_barograph_vm_shapes)], narrowed := true }
def VmMovesMadeUptoSaid : Prop := vmMovesMadeUptoRow.holds Tryd.pinned (OpenSpec.upto vmMovesMadeSpec)

/-- 'barographkeep.VmPartsHeld', WHERE WHAT IT READS IS OF BULK AT MOST 1048576: true; the input reads as it did. -/
def vmPartsHeldUptoRow : OpenClaim := { program := "ytmnfgigieafehaadoor", sum := "abc65d418a925c192bec50848b87555dc4391d00248fccdf2ea97ae8da161cd5", func := "barograph/barographkeep.VmPartsHeld", spec := "vmPartsHeld", unfollowed := true, recurses := true, named := ["barograph/vm.shapes"], apart := false, laid := [("barograph/vm.shapes", laid_barograph_vm_shapes)], narrowed := true }
def VmPartsHeldUptoSaid : Prop := vmPartsHeldUptoRow.holds Tryd.pinned (OpenSpec.upto vmPartsHeldSpec)

/-- 'barographkeep.VmSumsMade', WHERE WHAT IT READS IS OF BULK AT MOST 1048576: true; the input reads as it did. -/
def vmSumsMadeUptoRow : OpenClaim := { program := "ytmnfgigieafehaadoor", sum := "abc65d418a925c192bec50848b87555dc4391d00248fccdf2ea97ae8da161cd5", func := "barograph/barographkeep.VmSumsMade", spec := "vmSumsMade", unfollowed := true, recurses := true, named := ["barograph/vm.shapes"], apart := false, laid := [("barograph/vm.shapes", laid_barograph_vm_shapes)], narrowed := true }
def VmSumsMadeUptoSaid : Prop := vmSumsMadeUptoRow.holds Tryd.pinned (OpenSpec.upto vmSumsMadeSpec)

/-- 'barographkeep.VmSetsParted', WHERE WHAT IT READS IS OF BULK AT MOST 1048576: true; the input reads as it did. -/
def vmSetsPartedUptoRow : OpenClaim := { program := "ytmnfgigieafehaadoor", sum := "abc65d418a925c192bec50848b87555dc4391d00248fccdf2ea97ae8da161cd5", func := "barograph/barographkeep.VmSetsParted", spec := "vmSetsParted", unfollowed := true, recurses := true, named := ["barograph/vm.shapes"], apart := false, laid := [("barograph/vm.shapes", laid_barograph_vm_shapes)], narrowed := true }
def VmSetsPartedUptoSaid : Prop := vmSetsPartedUptoRow.holds Tryd.pinned (OpenSpec.upto vmSetsPartedSpec)

/-- 'barographkeep.VmTestsMade', WHERE WHAT IT READS IS OF BULK AT MOST 1048576: true; the input reads as it did. -/
def vmTestsMadeUptoRow : OpenClaim := { program := "ytmnfgigieafehaadoor", sum := "abc65d418a925c192bec50848b87555dc4391d00248fccdf2ea97ae8da161cd5", func := "barograph/barographkeep.VmTestsMade", spec := "vmTestsMade", unfollowed := true, recurses := true, named := ["barograph/vm.shapes"], apart := false, laid := [("barograph/vm.shapes", laid_barograph_vm_shapes)], narrowed := true }
def VmTestsMadeUptoSaid : Prop := vmTestsMadeUptoRow.holds Tryd.pinned (OpenSpec.upto vmTestsMadeSpec)

/-- 'barographkeep.VmRestsMade', WHERE WHAT IT READS IS OF BULK AT MOST 1048576: true; the input reads as it did. -/
def vmRestsMadeUptoRow : OpenClaim := { program := "ytmnfgigieafehaadoor", sum := "abc65d418a925c192bec50848b87555dc4391d00248fccdf2ea97ae8da161cd5", func := "barograph/barographkeep.VmRestsMade", spec := "vmRestsMade", unfollowed := true, recurses := true, named := ["barograph/vm.shapes"], apart := false, laid := [("barograph/vm.shapes", laid_barograph_vm_shapes)], narrowed := true }
def VmRestsMadeUptoSaid : Prop := vmRestsMadeUptoRow.holds Tryd.pinned (OpenSpec.upto vmRestsMadeSpec)

/-- 'barographkeep.VmWaysTurned', WHERE WHAT IT READS IS OF BULK AT MOST 1048576: true; the input reads as it did. -/
def vmWaysTurnedUptoRow : OpenClaim := { program := "ytmnfgigieafehaadoor", sum := "abc65d418a925c192bec50848b87555dc4391d00248fccdf2ea97ae8da161cd5", func := "barograph/barographkeep.VmWaysTurned", spec := "vmWaysTurned", unfollowed := true, recurses := true, named := ["barograph/vm.shapes"], apart := false, laid := [("barograph/vm.shapes", laid_barograph_vm_shapes)], narrowed := true }
def VmWaysTurnedUptoSaid : Prop := vmWaysTurnedUptoRow.holds Tryd.pinned (OpenSpec.upto vmWaysTurnedSpec)

/-- 'barographkeep.VmWaysOver', WHERE WHAT IT READS IS OF BULK AT MOST 1048576: true; the input reads as it did. -/
def vmWaysOverUptoRow : OpenClaim := { program := "ytmnfgigieafehaadoor", sum := "abc65d418a925c192bec50848b87555dc4391d00248fccdf2ea97ae8da161cd5", func := "barograph/barographkeep.VmWaysOver", spec := "vmWaysOver", unfollowed := true, recurses := true, named := ["barograph/vm.shapes"], apart := false, laid := [("barograph/vm.shapes", laid_barograph_vm_shapes)], narrowed := true }
def VmWaysOverUptoSaid : Prop := vmWaysOverUptoRow.holds Tryd.pinned (OpenSpec.upto vmWaysOverSpec)

/-- 'barographkeep.VmStoresTwice', WHERE WHAT IT READS IS OF BULK AT MOST 1048576: true; the input reads as it did. -/
def vmStoresTwiceUptoRow : OpenClaim := { program := "ytmnfgigieafehaadoor", sum := "abc65d418a925c192bec50848b87555dc4391d00248fccdf2ea97ae8da161cd5", func := "barograph/barographkeep.VmStoresTwice", spec := "vmStoresTwice", unfollowed := true, recurses := true, named := ["barograph/vm.shapes"], apart := false, laid := [("barograph/vm.shapes", laid_barograph_vm_shapes)], narrowed := true }
def VmStoresTwiceUptoSaid : Prop := vmStoresTwiceUptoRow.holds Tryd.pinned (OpenSpec.upto vmStoresTwiceSpec)

/-- 'barographkeep.VmCasMade', WHERE WHAT IT READS IS OF BULK AT MOST 1048576: true; the input reads as it did. -/
def vmCasMadeUptoRow : OpenClaim := { program := "ytmnfgigieafehaadoor", sum := "abc65d418a925c192bec50848b87555dc4391d00248fccdf2ea97ae8da161cd5", func := "barograph/barographkeep.VmCasMade", spec := "vmCasMade", unfollowed := true, recurses := true, named := ["barograph/vm.shapes"], apart := false, laid := [("barograph/vm.shapes", laid_barograph_vm_shapes)], narrowed := true }
def VmCasMadeUptoSaid : Prop := vmCasMadeUptoRow.holds Tryd.pinned (OpenSpec.upto vmCasMadeSpec)

/-- 'barographkeep.VmEndsWritten', WHERE WHAT IT READS IS OF BULK AT MOST 1048576: true; the input reads as it did. -/
def vmEndsWrittenUptoRow : OpenClaim := { program := "ytmnfgigieafehaadoor", sum := "abc65d418a925c192bec50848b87555dc4391d00248fccdf2ea97ae8da161cd5", func := "barograph/barographkeep.VmEndsWritten", spec := "vmEndsWritten", unfollowed := true, recurses := true, named := ["barograph/vm.shapes"], apart := false, laid := [("barograph/vm.shapes", laid_barograph_vm_shapes)], narrowed := true }
def VmEndsWrittenUptoSaid : Prop := vmEndsWrittenUptoRow.holds Tryd.pinned (OpenSpec.upto vmEndsWrittenSpec)

end Rows
end Go.Proofs.YtmnfgigieafehaaDoor
