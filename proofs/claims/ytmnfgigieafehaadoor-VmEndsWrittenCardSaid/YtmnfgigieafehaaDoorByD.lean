/- Walks of the functions that give the instructions in the place of one: Parts. Conditions: the captured cells hold what is said. Printed by gen_by.py. -/
import Derived.Test.YtmnfgigieafehaaDoorByA
namespace Go.Proofs.YtmnfgigieafehaaDoor
open Go.RowKit
set_option maxRecDepth 100000

/-- Which part of an instruction is held. -/
def partsOff (second : Bool) (k : Int) : Option Nat :=
  if k = 2 ∨ k = 13 then some 2 else if k = 3 ∨ k = 4 ∨ k = 5 ∨ k = 6 ∨ k = 7 ∨ k = 8 ∨ k = 9 then some (if second then 3 else 2)
  else if k = 14 then some (if second then 1 else 2) else if k = 15 then some (if second then 4 else 2) else if k = 11 ∨ k = 12 ∨ k = 16 then some 1 else none
def getF (o : Op5) (j : Nat) : Int := if j = 1 then o.a else if j = 2 then o.b else if j = 3 then o.c else o.d
def setF (o : Op5) (j : Nat) (v : Int) : Op5 := if j = 1 then { o with a := v } else if j = 2 then { o with b := v } else if j = 3 then { o with c := v } else { o with d := v }
def partsL (second : Bool) (o : Op5) (_ f : Nat) : Option (List Op5) := (partsOff second o.k).map fun j => [⟨2, f, getF o j, 0, 0⟩, setF o j f]
set_option maxHeartbeats 1000000 in
theorem parts_2 (g : Nat) (second : Bool) (a b c d : Int) (i f : Nat) (w : World) (hg : w.cell? ⟨g, 0, none⟩ = some (.bool second)) : Calls Tryd.prog 21 #[.agg #[.int .i64 2, .int .i64 a, .int .i64 b, .int .i64 c, .int .i64 d], .int .i64 i, .int .i64 f, .pointer (some ⟨g, 0, none⟩)] w (ByPost w (some [⟨2, f, b, 0, 0⟩, ⟨2, a, f, c, d⟩])) := by
  have lg := World.block_lt_of_cell? w _ hg
  dsimp only at lg
  go_enter Tryd.func21, Tryd.ntmps21
  go_wp2_with fail
  refine (wI_calls _ _ _ _ _).mono ?_
  rintro e' w2 ⟨rfl, rfl⟩
  go_wp2_with fail
  go_ret
  exact by_some _ (by repeat (first | exact Kept.refl _ _ | refine Kept.alloc ?_ _)) _ _ (by decide) (by decide) (by simp) rfl
set_option maxHeartbeats 1000000 in
theorem parts_13 (g : Nat) (second : Bool) (a b c d : Int) (i f : Nat) (w : World) (hg : w.cell? ⟨g, 0, none⟩ = some (.bool second)) : Calls Tryd.prog 21 #[.agg #[.int .i64 13, .int .i64 a, .int .i64 b, .int .i64 c, .int .i64 d], .int .i64 i, .int .i64 f, .pointer (some ⟨g, 0, none⟩)] w (ByPost w (some [⟨2, f, b, 0, 0⟩, ⟨13, a, f, c, d⟩])) := by
  have lg := World.block_lt_of_cell? w _ hg
  dsimp only at lg
  go_enter Tryd.func21, Tryd.ntmps21
  go_wp2_with fail
  refine (wI_calls _ _ _ _ _).mono ?_
  rintro e' w2 ⟨rfl, rfl⟩
  go_wp2_with fail
  go_ret
  exact by_some _ (by repeat (first | exact Kept.refl _ _ | refine Kept.alloc ?_ _)) _ _ (by decide) (by decide) (by simp) rfl
set_option maxHeartbeats 1000000 in
theorem parts_3_t (g : Nat) (a b c d : Int) (i f : Nat) (w : World) (hg : w.cell? ⟨g, 0, none⟩ = some (.bool true)) : Calls Tryd.prog 21 #[.agg #[.int .i64 3, .int .i64 a, .int .i64 b, .int .i64 c, .int .i64 d], .int .i64 i, .int .i64 f, .pointer (some ⟨g, 0, none⟩)] w (ByPost w (some [⟨2, f, c, 0, 0⟩, ⟨3, a, b, f, d⟩])) := by
  have lg := World.block_lt_of_cell? w _ hg
  dsimp only at lg
  go_enter Tryd.func21, Tryd.ntmps21
  go_wp2_with fail
  refine (wI_calls _ _ _ _ _).mono ?_
  rintro e' w2 ⟨rfl, rfl⟩
  go_wp2_with fail
  go_ret
  exact by_some _ (by repeat (first | exact Kept.refl _ _ | refine Kept.alloc ?_ _)) _ _ (by decide) (by decide) (by simp) rfl
set_option maxHeartbeats 1000000 in
theorem parts_3_f (g : Nat) (a b c d : Int) (i f : Nat) (w : World) (hg : w.cell? ⟨g, 0, none⟩ = some (.bool false)) : Calls Tryd.prog 21 #[.agg #[.int .i64 3, .int .i64 a, .int .i64 b, .int .i64 c, .int .i64 d], .int .i64 i, .int .i64 f, .pointer (some ⟨g, 0, none⟩)] w (ByPost w (some [⟨2, f, b, 0, 0⟩, ⟨3, a, f, c, d⟩])) := by
  have lg := World.block_lt_of_cell? w _ hg
  dsimp only at lg
  go_enter Tryd.func21, Tryd.ntmps21
  go_wp2_with fail
  refine (wI_calls _ _ _ _ _).mono ?_
  rintro e' w2 ⟨rfl, rfl⟩
  go_wp2_with fail
  go_ret
  exact by_some _ (by repeat (first | exact Kept.refl _ _ | refine Kept.alloc ?_ _)) _ _ (by decide) (by decide) (by simp) rfl
set_option maxHeartbeats 1000000 in
theorem parts_4_t (g : Nat) (a b c d : Int) (i f : Nat) (w : World) (hg : w.cell? ⟨g, 0, none⟩ = some (.bool true)) : Calls Tryd.prog 21 #[.agg #[.int .i64 4, .int .i64 a, .int .i64 b, .int .i64 c, .int .i64 d], .int .i64 i, .int .i64 f, .pointer (some ⟨g, 0, none⟩)] w (ByPost w (some [⟨2, f, c, 0, 0⟩, ⟨4, a, b, f, d⟩])) := by
  have lg := World.block_lt_of_cell? w _ hg
  dsimp only at lg
  go_enter Tryd.func21, Tryd.ntmps21
  go_wp2_with fail
  refine (wI_calls _ _ _ _ _).mono ?_
  rintro e' w2 ⟨rfl, rfl⟩
  go_wp2_with fail
  go_ret
  exact by_some _ (by repeat (first | exact Kept.refl _ _ | refine Kept.alloc ?_ _)) _ _ (by decide) (by decide) (by simp) rfl
set_option maxHeartbeats 1000000 in
theorem parts_4_f (g : Nat) (a b c d : Int) (i f : Nat) (w : World) (hg : w.cell? ⟨g, 0, none⟩ = some (.bool false)) : Calls Tryd.prog 21 #[.agg #[.int .i64 4, .int .i64 a, .int .i64 b, .int .i64 c, .int .i64 d], .int .i64 i, .int .i64 f, .pointer (some ⟨g, 0, none⟩)] w (ByPost w (some [⟨2, f, b, 0, 0⟩, ⟨4, a, f, c, d⟩])) := by
  have lg := World.block_lt_of_cell? w _ hg
  dsimp only at lg
  go_enter Tryd.func21, Tryd.ntmps21
  go_wp2_with fail
  refine (wI_calls _ _ _ _ _).mono ?_
  rintro e' w2 ⟨rfl, rfl⟩
  go_wp2_with fail
  go_ret
  exact by_some _ (by repeat (first | exact Kept.refl _ _ | refine Kept.alloc ?_ _)) _ _ (by decide) (by decide) (by simp) rfl
set_option maxHeartbeats 1000000 in
theorem parts_5_t (g : Nat) (a b c d : Int) (i f : Nat) (w : World) (hg : w.cell? ⟨g, 0, none⟩ = some (.bool true)) : Calls Tryd.prog 21 #[.agg #[.int .i64 5, .int .i64 a, .int .i64 b, .int .i64 c, .int .i64 d], .int .i64 i, .int .i64 f, .pointer (some ⟨g, 0, none⟩)] w (ByPost w (some [⟨2, f, c, 0, 0⟩, ⟨5, a, b, f, d⟩])) := by
  have lg := World.block_lt_of_cell? w _ hg
  dsimp only at lg
  go_enter Tryd.func21, Tryd.ntmps21
  go_wp2_with fail
  refine (wI_calls _ _ _ _ _).mono ?_
  rintro e' w2 ⟨rfl, rfl⟩
  go_wp2_with fail
  go_ret
  exact by_some _ (by repeat (first | exact Kept.refl _ _ | refine Kept.alloc ?_ _)) _ _ (by decide) (by decide) (by simp) rfl
set_option maxHeartbeats 1000000 in
theorem parts_5_f (g : Nat) (a b c d : Int) (i f : Nat) (w : World) (hg : w.cell? ⟨g, 0, none⟩ = some (.bool false)) : Calls Tryd.prog 21 #[.agg #[.int .i64 5, .int .i64 a, .int .i64 b, .int .i64 c, .int .i64 d], .int .i64 i, .int .i64 f, .pointer (some ⟨g, 0, none⟩)] w (ByPost w (some [⟨2, f, b, 0, 0⟩, ⟨5, a, f, c, d⟩])) := by
  have lg := World.block_lt_of_cell? w _ hg
  dsimp only at lg
  go_enter Tryd.func21, Tryd.ntmps21
  go_wp2_with fail
  refine (wI_calls _ _ _ _ _).mono ?_
  rintro e' w2 ⟨rfl, rfl⟩
  go_wp2_with fail
  go_ret
  exact by_some _ (by repeat (first | exact Kept.refl _ _ | refine Kept.alloc ?_ _)) _ _ (by decide) (by decide) (by simp) rfl
set_option maxHeartbeats 1000000 in
theorem parts_6_t (g : Nat) (a b c d : Int) (i f : Nat) (w : World) (hg : w.cell? ⟨g, 0, none⟩ = some (.bool true)) : Calls Tryd.prog 21 #[.agg #[.int .i64 6, .int .i64 a, .int .i64 b, .int .i64 c, .int .i64 d], .int .i64 i, .int .i64 f, .pointer (some ⟨g, 0, none⟩)] w (ByPost w (some [⟨2, f, c, 0, 0⟩, ⟨6, a, b, f, d⟩])) := by
  have lg := World.block_lt_of_cell? w _ hg
  dsimp only at lg
  go_enter Tryd.func21, Tryd.ntmps21
  go_wp2_with fail
  refine (wI_calls _ _ _ _ _).mono ?_
  rintro e' w2 ⟨rfl, rfl⟩
  go_wp2_with fail
  go_ret
  exact by_some _ (by repeat (first | exact Kept.refl _ _ | refine Kept.alloc ?_ _)) _ _ (by decide) (by decide) (by simp) rfl
set_option maxHeartbeats 1000000 in
theorem parts_6_f (g : Nat) (a b c d : Int) (i f : Nat) (w : World) (hg : w.cell? ⟨g, 0, none⟩ = some (.bool false)) : Calls Tryd.prog 21 #[.agg #[.int .i64 6, .int .i64 a, .int .i64 b, .int .i64 c, .int .i64 d], .int .i64 i, .int .i64 f, .pointer (some ⟨g, 0, none⟩)] w (ByPost w (some [⟨2, f, b, 0, 0⟩, ⟨6, a, f, c, d⟩])) := by
  have lg := World.block_lt_of_cell? w _ hg
  dsimp only at lg
  go_enter Tryd.func21, Tryd.ntmps21
  go_wp2_with fail
  refine (wI_calls _ _ _ _ _).mono ?_
  rintro e' w2 ⟨rfl, rfl⟩
  go_wp2_with fail
  go_ret
  exact by_some _ (by repeat (first | exact Kept.refl _ _ | refine Kept.alloc ?_ _)) _ _ (by decide) (by decide) (by simp) rfl
set_option maxHeartbeats 1000000 in
theorem parts_7_t (g : Nat) (a b c d : Int) (i f : Nat) (w : World) (hg : w.cell? ⟨g, 0, none⟩ = some (.bool true)) : Calls Tryd.prog 21 #[.agg #[.int .i64 7, .int .i64 a, .int .i64 b, .int .i64 c, .int .i64 d], .int .i64 i, .int .i64 f, .pointer (some ⟨g, 0, none⟩)] w (ByPost w (some [⟨2, f, c, 0, 0⟩, ⟨7, a, b, f, d⟩])) := by
  have lg := World.block_lt_of_cell? w _ hg
  dsimp only at lg
  go_enter Tryd.func21, Tryd.ntmps21
  go_wp2_with fail
  refine (wI_calls _ _ _ _ _).mono ?_
  rintro e' w2 ⟨rfl, rfl⟩
  go_wp2_with fail
  go_ret
  exact by_some _ (by repeat (first | exact Kept.refl _ _ | refine Kept.alloc ?_ _)) _ _ (by decide) (by decide) (by simp) rfl
set_option maxHeartbeats 1000000 in
theorem parts_7_f (g : Nat) (a b c d : Int) (i f : Nat) (w : World) (hg : w.cell? ⟨g, 0, none⟩ = some (.bool false)) : Calls Tryd.prog 21 #[.agg #[.int .i64 7, .int .i64 a, .int .i64 b, .int .i64 c, .int .i64 d], .int .i64 i, .int .i64 f, .pointer (some ⟨g, 0, none⟩)] w (ByPost w (some [⟨2, f, b, 0, 0⟩, ⟨7, a, f, c, d⟩])) := by
  have lg := World.block_lt_of_cell? w _ hg
  dsimp only at lg
  go_enter Tryd.func21, Tryd.ntmps21
  go_wp2_with fail
  refine (wI_calls _ _ _ _ _).mono ?_
  rintro e' w2 ⟨rfl, rfl⟩
  go_wp2_with fail
  go_ret
  exact by_some _ (by repeat (first | exact Kept.refl _ _ | refine Kept.alloc ?_ _)) _ _ (by decide) (by decide) (by simp) rfl
set_option maxHeartbeats 1000000 in
theorem parts_8_t (g : Nat) (a b c d : Int) (i f : Nat) (w : World) (hg : w.cell? ⟨g, 0, none⟩ = some (.bool true)) : Calls Tryd.prog 21 #[.agg #[.int .i64 8, .int .i64 a, .int .i64 b, .int .i64 c, .int .i64 d], .int .i64 i, .int .i64 f, .pointer (some ⟨g, 0, none⟩)] w (ByPost w (some [⟨2, f, c, 0, 0⟩, ⟨8, a, b, f, d⟩])) := by
  have lg := World.block_lt_of_cell? w _ hg
  dsimp only at lg
  go_enter Tryd.func21, Tryd.ntmps21
  go_wp2_with fail
  refine (wI_calls _ _ _ _ _).mono ?_
  rintro e' w2 ⟨rfl, rfl⟩
  go_wp2_with fail
  go_ret
  exact by_some _ (by repeat (first | exact Kept.refl _ _ | refine Kept.alloc ?_ _)) _ _ (by decide) (by decide) (by simp) rfl
set_option maxHeartbeats 1000000 in
theorem parts_8_f (g : Nat) (a b c d : Int) (i f : Nat) (w : World) (hg : w.cell? ⟨g, 0, none⟩ = some (.bool false)) : Calls Tryd.prog 21 #[.agg #[.int .i64 8, .int .i64 a, .int .i64 b, .int .i64 c, .int .i64 d], .int .i64 i, .int .i64 f, .pointer (some ⟨g, 0, none⟩)] w (ByPost w (some [⟨2, f, b, 0, 0⟩, ⟨8, a, f, c, d⟩])) := by
  have lg := World.block_lt_of_cell? w _ hg
  dsimp only at lg
  go_enter Tryd.func21, Tryd.ntmps21
  go_wp2_with fail
  refine (wI_calls _ _ _ _ _).mono ?_
  rintro e' w2 ⟨rfl, rfl⟩
  go_wp2_with fail
  go_ret
  exact by_some _ (by repeat (first | exact Kept.refl _ _ | refine Kept.alloc ?_ _)) _ _ (by decide) (by decide) (by simp) rfl
set_option maxHeartbeats 1000000 in
theorem parts_9_t (g : Nat) (a b c d : Int) (i f : Nat) (w : World) (hg : w.cell? ⟨g, 0, none⟩ = some (.bool true)) : Calls Tryd.prog 21 #[.agg #[.int .i64 9, .int .i64 a, .int .i64 b, .int .i64 c, .int .i64 d], .int .i64 i, .int .i64 f, .pointer (some ⟨g, 0, none⟩)] w (ByPost w (some [⟨2, f, c, 0, 0⟩, ⟨9, a, b, f, d⟩])) := by
  have lg := World.block_lt_of_cell? w _ hg
  dsimp only at lg
  go_enter Tryd.func21, Tryd.ntmps21
  go_wp2_with fail
  refine (wI_calls _ _ _ _ _).mono ?_
  rintro e' w2 ⟨rfl, rfl⟩
  go_wp2_with fail
  go_ret
  exact by_some _ (by repeat (first | exact Kept.refl _ _ | refine Kept.alloc ?_ _)) _ _ (by decide) (by decide) (by simp) rfl
set_option maxHeartbeats 1000000 in
theorem parts_9_f (g : Nat) (a b c d : Int) (i f : Nat) (w : World) (hg : w.cell? ⟨g, 0, none⟩ = some (.bool false)) : Calls Tryd.prog 21 #[.agg #[.int .i64 9, .int .i64 a, .int .i64 b, .int .i64 c, .int .i64 d], .int .i64 i, .int .i64 f, .pointer (some ⟨g, 0, none⟩)] w (ByPost w (some [⟨2, f, b, 0, 0⟩, ⟨9, a, f, c, d⟩])) := by
  have lg := World.block_lt_of_cell? w _ hg
  dsimp only at lg
  go_enter Tryd.func21, Tryd.ntmps21
  go_wp2_with fail
  refine (wI_calls _ _ _ _ _).mono ?_
  rintro e' w2 ⟨rfl, rfl⟩
  go_wp2_with fail
  go_ret
  exact by_some _ (by repeat (first | exact Kept.refl _ _ | refine Kept.alloc ?_ _)) _ _ (by decide) (by decide) (by simp) rfl
set_option maxHeartbeats 1000000 in
theorem parts_14_t (g : Nat) (a b c d : Int) (i f : Nat) (w : World) (hg : w.cell? ⟨g, 0, none⟩ = some (.bool true)) : Calls Tryd.prog 21 #[.agg #[.int .i64 14, .int .i64 a, .int .i64 b, .int .i64 c, .int .i64 d], .int .i64 i, .int .i64 f, .pointer (some ⟨g, 0, none⟩)] w (ByPost w (some [⟨2, f, a, 0, 0⟩, ⟨14, f, b, c, d⟩])) := by
  have lg := World.block_lt_of_cell? w _ hg
  dsimp only at lg
  go_enter Tryd.func21, Tryd.ntmps21
  go_wp2_with fail
  refine (wI_calls _ _ _ _ _).mono ?_
  rintro e' w2 ⟨rfl, rfl⟩
  go_wp2_with fail
  go_ret
  exact by_some _ (by repeat (first | exact Kept.refl _ _ | refine Kept.alloc ?_ _)) _ _ (by decide) (by decide) (by simp) rfl
set_option maxHeartbeats 1000000 in
theorem parts_14_f (g : Nat) (a b c d : Int) (i f : Nat) (w : World) (hg : w.cell? ⟨g, 0, none⟩ = some (.bool false)) : Calls Tryd.prog 21 #[.agg #[.int .i64 14, .int .i64 a, .int .i64 b, .int .i64 c, .int .i64 d], .int .i64 i, .int .i64 f, .pointer (some ⟨g, 0, none⟩)] w (ByPost w (some [⟨2, f, b, 0, 0⟩, ⟨14, a, f, c, d⟩])) := by
  have lg := World.block_lt_of_cell? w _ hg
  dsimp only at lg
  go_enter Tryd.func21, Tryd.ntmps21
  go_wp2_with fail
  refine (wI_calls _ _ _ _ _).mono ?_
  rintro e' w2 ⟨rfl, rfl⟩
  go_wp2_with fail
  go_ret
  exact by_some _ (by repeat (first | exact Kept.refl _ _ | refine Kept.alloc ?_ _)) _ _ (by decide) (by decide) (by simp) rfl
set_option maxHeartbeats 1000000 in
theorem parts_15_t (g : Nat) (a b c d : Int) (i f : Nat) (w : World) (hg : w.cell? ⟨g, 0, none⟩ = some (.bool true)) : Calls Tryd.prog 21 #[.agg #[.int .i64 15, .int .i64 a, .int .i64 b, .int .i64 c, .int .i64 d], .int .i64 i, .int .i64 f, .pointer (some ⟨g, 0, none⟩)] w (ByPost w (some [⟨2, f, d, 0, 0⟩, ⟨15, a, b, c, f⟩])) := by
  have lg := World.block_lt_of_cell? w _ hg
  dsimp only at lg
  go_enter Tryd.func21, Tryd.ntmps21
  go_wp2_with fail
  refine (wI_calls _ _ _ _ _).mono ?_
  rintro e' w2 ⟨rfl, rfl⟩
  go_wp2_with fail
  go_ret
  exact by_some _ (by repeat (first | exact Kept.refl _ _ | refine Kept.alloc ?_ _)) _ _ (by decide) (by decide) (by simp) rfl
set_option maxHeartbeats 1000000 in
theorem parts_15_f (g : Nat) (a b c d : Int) (i f : Nat) (w : World) (hg : w.cell? ⟨g, 0, none⟩ = some (.bool false)) : Calls Tryd.prog 21 #[.agg #[.int .i64 15, .int .i64 a, .int .i64 b, .int .i64 c, .int .i64 d], .int .i64 i, .int .i64 f, .pointer (some ⟨g, 0, none⟩)] w (ByPost w (some [⟨2, f, b, 0, 0⟩, ⟨15, a, f, c, d⟩])) := by
  have lg := World.block_lt_of_cell? w _ hg
  dsimp only at lg
  go_enter Tryd.func21, Tryd.ntmps21
  go_wp2_with fail
  refine (wI_calls _ _ _ _ _).mono ?_
  rintro e' w2 ⟨rfl, rfl⟩
  go_wp2_with fail
  go_ret
  exact by_some _ (by repeat (first | exact Kept.refl _ _ | refine Kept.alloc ?_ _)) _ _ (by decide) (by decide) (by simp) rfl
set_option maxHeartbeats 1000000 in
theorem parts_11 (g : Nat) (second : Bool) (a b c d : Int) (i f : Nat) (w : World) (hg : w.cell? ⟨g, 0, none⟩ = some (.bool second)) : Calls Tryd.prog 21 #[.agg #[.int .i64 11, .int .i64 a, .int .i64 b, .int .i64 c, .int .i64 d], .int .i64 i, .int .i64 f, .pointer (some ⟨g, 0, none⟩)] w (ByPost w (some [⟨2, f, a, 0, 0⟩, ⟨11, f, b, c, d⟩])) := by
  have lg := World.block_lt_of_cell? w _ hg
  dsimp only at lg
  go_enter Tryd.func21, Tryd.ntmps21
  go_wp2_with fail
  refine (wI_calls _ _ _ _ _).mono ?_
  rintro e' w2 ⟨rfl, rfl⟩
  go_wp2_with fail
  go_ret
  exact by_some _ (by repeat (first | exact Kept.refl _ _ | refine Kept.alloc ?_ _)) _ _ (by decide) (by decide) (by simp) rfl
set_option maxHeartbeats 1000000 in
theorem parts_12 (g : Nat) (second : Bool) (a b c d : Int) (i f : Nat) (w : World) (hg : w.cell? ⟨g, 0, none⟩ = some (.bool second)) : Calls Tryd.prog 21 #[.agg #[.int .i64 12, .int .i64 a, .int .i64 b, .int .i64 c, .int .i64 d], .int .i64 i, .int .i64 f, .pointer (some ⟨g, 0, none⟩)] w (ByPost w (some [⟨2, f, a, 0, 0⟩, ⟨12, f, b, c, d⟩])) := by
  have lg := World.block_lt_of_cell? w _ hg
  dsimp only at lg
  go_enter Tryd.func21, Tryd.ntmps21
  go_wp2_with fail
  refine (wI_calls _ _ _ _ _).mono ?_
  rintro e' w2 ⟨rfl, rfl⟩
  go_wp2_with fail
  go_ret
  exact by_some _ (by repeat (first | exact Kept.refl _ _ | refine Kept.alloc ?_ _)) _ _ (by decide) (by decide) (by simp) rfl
set_option maxHeartbeats 1000000 in
theorem parts_16 (g : Nat) (second : Bool) (a b c d : Int) (i f : Nat) (w : World) (hg : w.cell? ⟨g, 0, none⟩ = some (.bool second)) : Calls Tryd.prog 21 #[.agg #[.int .i64 16, .int .i64 a, .int .i64 b, .int .i64 c, .int .i64 d], .int .i64 i, .int .i64 f, .pointer (some ⟨g, 0, none⟩)] w (ByPost w (some [⟨2, f, a, 0, 0⟩, ⟨16, f, b, c, d⟩])) := by
  have lg := World.block_lt_of_cell? w _ hg
  dsimp only at lg
  go_enter Tryd.func21, Tryd.ntmps21
  go_wp2_with fail
  refine (wI_calls _ _ _ _ _).mono ?_
  rintro e' w2 ⟨rfl, rfl⟩
  go_wp2_with fail
  go_ret
  exact by_some _ (by repeat (first | exact Kept.refl _ _ | refine Kept.alloc ?_ _)) _ _ (by decide) (by decide) (by simp) rfl
set_option maxHeartbeats 1000000 in
theorem parts_none (g : Nat) (k a b c d : Int) (i f : Nat) (h2 : (k == 2) = false) (h13 : (k == 13) = false) (h3 : (k == 3) = false) (h4 : (k == 4) = false) (h5 : (k == 5) = false) (h6 : (k == 6) = false) (h7 : (k == 7) = false) (h8 : (k == 8) = false) (h9 : (k == 9) = false) (h14 : (k == 14) = false) (h15 : (k == 15) = false) (h11 : (k == 11) = false) (h12 : (k == 12) = false) (h16 : (k == 16) = false) (w : World) : Calls Tryd.prog 21 #[.agg #[.int .i64 k, .int .i64 a, .int .i64 b, .int .i64 c, .int .i64 d], .int .i64 i, .int .i64 f, .pointer (some ⟨g, 0, none⟩)] w (ByPost w none) := by
  go_enter Tryd.func21, Tryd.ntmps21
  go_wp2_with fail
  go_ret
  exact by_none ((Kept.refl NoB w).alloc _)
theorem parts_ok {w0 : World} {g : Nat} {second : Bool} (hg : w0.cell? ⟨g, 0, none⟩ = some (.bool second)) (n : Nat) : ByOk w0 21 #[.pointer (some ⟨g, 0, none⟩)] 1 n (partsL second) := by
  intro w ⟨k, a, b, c, d⟩ i f hk _ _ hf
  have h := hk.cell hg id
  by_cases h2 : k = 2
  · subst h2
    exact parts_2 g second a b c d i f w h
  by_cases h13 : k = 13
  · subst h13
    exact parts_13 g second a b c d i f w h
  by_cases h3 : k = 3
  · subst h3
    cases second
    · exact parts_3_f g a b c d i f w h
    · exact parts_3_t g a b c d i f w h
  by_cases h4 : k = 4
  · subst h4
    cases second
    · exact parts_4_f g a b c d i f w h
    · exact parts_4_t g a b c d i f w h
  by_cases h5 : k = 5
  · subst h5
    cases second
    · exact parts_5_f g a b c d i f w h
    · exact parts_5_t g a b c d i f w h
  by_cases h6 : k = 6
  · subst h6
    cases second
    · exact parts_6_f g a b c d i f w h
    · exact parts_6_t g a b c d i f w h
  by_cases h7 : k = 7
  · subst h7
    cases second
    · exact parts_7_f g a b c d i f w h
    · exact parts_7_t g a b c d i f w h
  by_cases h8 : k = 8
  · subst h8
    cases second
    · exact parts_8_f g a b c d i f w h
    · exact parts_8_t g a b c d i f w h
  by_cases h9 : k = 9
  · subst h9
    cases second
    · exact parts_9_f g a b c d i f w h
    · exact parts_9_t g a b c d i f w h
  by_cases h14 : k = 14
  · subst h14
    cases second
    · exact parts_14_f g a b c d i f w h
    · exact parts_14_t g a b c d i f w h
  by_cases h15 : k = 15
  · subst h15
    cases second
    · exact parts_15_f g a b c d i f w h
    · exact parts_15_t g a b c d i f w h
  by_cases h11 : k = 11
  · subst h11
    exact parts_11 g second a b c d i f w h
  by_cases h12 : k = 12
  · subst h12
    exact parts_12 g second a b c d i f w h
  by_cases h16 : k = 16
  · subst h16
    exact parts_16 g second a b c d i f w h
  have hp : partsL second ⟨k, a, b, c, d⟩ i f = none := by simp [partsL, partsOff, h2, h13, h3, h4, h5, h6, h7, h8, h9, h14, h15, h11, h12, h16]
  rw [hp]
  exact parts_none g k a b c d i f (by simpa using h2) (by simpa using h13) (by simpa using h3) (by simpa using h4) (by simpa using h5) (by simpa using h6) (by simpa using h7) (by simpa using h8) (by simpa using h9) (by simpa using h14) (by simpa using h15) (by simpa using h11) (by simpa using h12) (by simpa using h16) w
end Go.Proofs.YtmnfgigieafehaaDoor
