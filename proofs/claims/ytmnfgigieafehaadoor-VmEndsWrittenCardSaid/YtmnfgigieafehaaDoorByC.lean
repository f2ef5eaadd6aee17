/- Walks of the functions that give the instructions in the place of one: Sums, Sets. Conditions: the captured cells hold what is said. Printed by gen_by.py. -/
import Derived.Test.YtmnfgigieafehaaDoorByA
namespace Go.Proofs.YtmnfgigieafehaaDoor
open Go.RowKit
set_option maxRecDepth 100000

def sumsL (less : Bool) (o : Op5) (_ f : Nat) : Option (List Op5) :=
  if o.k = 3 ∨ o.k = 4 then (if less then some [⟨1, f, 0, 0, 0⟩, ⟨4, f + 1, f, o.c, 0⟩, ⟨7 - o.k, o.a, o.b, f + 1, 0⟩] else some [⟨1, f, -1, 0, 0⟩, ⟨5, f + 1, o.c, f, 0⟩, ⟨7 - o.k, o.a, o.b, f + 1, 0⟩]) else none
set_option maxHeartbeats 2000000 in
theorem sums_3_true (g : Nat) (a b c d : Int) (i f : Nat) (hf : f ≤ 24) (w : World) (hg : w.cell? ⟨g, 0, none⟩ = some (.bool true)) : Calls Tryd.prog 22 #[.agg #[.int .i64 3, .int .i64 a, .int .i64 b, .int .i64 c, .int .i64 d], .int .i64 i, .int .i64 f, .pointer (some ⟨g, 0, none⟩)] w (ByPost w (some [⟨1, f, 0, 0, 0⟩, ⟨4, f + 1, f, c, 0⟩, ⟨4, a, b, f + 1, 0⟩])) := by
  have lg := World.block_lt_of_cell? w _ hg
  dsimp only at lg
  have lg1 : g < w.heap.size + 1 := by omega
  have lg2 : g < w.heap.size + 1 + 1 := by omega
  go_enter Tryd.func22, Tryd.ntmps22
  go_wp2_with fail
  refine (wI_calls _ _ _ _ _).mono ?_
  rintro e' w2 ⟨rfl, rfl⟩
  go_wp2_with fail
  have dc : (((w.alloc (.cells #[.int .i64 3, .int .i64 a, .int .i64 b, .int .i64 c, .int .i64 d] 28)).alloc (.cells #[.int .i64 4, .int .i64 a, .int .i64 b, .int .i64 (f + 1), .int .i64 0] 28)).alloc (.cells #[.int .i64 4, .int .i64 a, .int .i64 b, .int .i64 (f + 1), .int .i64 0] 28)).cell? ⟨w.heap.size, 3, none⟩ = some (.int .i64 c) := cell_al (cell_al (World.cell?_alloc_new w _ _ 3) _) _
  have e0 : (((w.alloc (.cells #[.int .i64 3, .int .i64 a, .int .i64 b, .int .i64 c, .int .i64 d] 28)).alloc (.cells #[.int .i64 4, .int .i64 a, .int .i64 b, .int .i64 (f + 1), .int .i64 0] 28)).alloc (.cells #[.int .i64 4, .int .i64 a, .int .i64 b, .int .i64 (f + 1), .int .i64 0] 28)).cell? ⟨w.heap.size + 1 + 1, 0, none⟩ = some (.int .i64 4) := by have h := World.cell?_alloc_new ((w.alloc (.cells #[.int .i64 3, .int .i64 a, .int .i64 b, .int .i64 c, .int .i64 d] 28)).alloc (.cells #[.int .i64 4, .int .i64 a, .int .i64 b, .int .i64 (f + 1), .int .i64 0] 28)) #[.int .i64 4, .int .i64 a, .int .i64 b, .int .i64 (f + 1), .int .i64 0] 28 0; rw [World.size_alloc, World.size_alloc] at h; exact h
  have e1 : (((w.alloc (.cells #[.int .i64 3, .int .i64 a, .int .i64 b, .int .i64 c, .int .i64 d] 28)).alloc (.cells #[.int .i64 4, .int .i64 a, .int .i64 b, .int .i64 (f + 1), .int .i64 0] 28)).alloc (.cells #[.int .i64 4, .int .i64 a, .int .i64 b, .int .i64 (f + 1), .int .i64 0] 28)).cell? ⟨w.heap.size + 1 + 1, 1, none⟩ = some (.int .i64 a) := by have h := World.cell?_alloc_new ((w.alloc (.cells #[.int .i64 3, .int .i64 a, .int .i64 b, .int .i64 c, .int .i64 d] 28)).alloc (.cells #[.int .i64 4, .int .i64 a, .int .i64 b, .int .i64 (f + 1), .int .i64 0] 28)) #[.int .i64 4, .int .i64 a, .int .i64 b, .int .i64 (f + 1), .int .i64 0] 28 1; rw [World.size_alloc, World.size_alloc] at h; exact h
  have e2 : (((w.alloc (.cells #[.int .i64 3, .int .i64 a, .int .i64 b, .int .i64 c, .int .i64 d] 28)).alloc (.cells #[.int .i64 4, .int .i64 a, .int .i64 b, .int .i64 (f + 1), .int .i64 0] 28)).alloc (.cells #[.int .i64 4, .int .i64 a, .int .i64 b, .int .i64 (f + 1), .int .i64 0] 28)).cell? ⟨w.heap.size + 1 + 1, 2, none⟩ = some (.int .i64 b) := by have h := World.cell?_alloc_new ((w.alloc (.cells #[.int .i64 3, .int .i64 a, .int .i64 b, .int .i64 c, .int .i64 d] 28)).alloc (.cells #[.int .i64 4, .int .i64 a, .int .i64 b, .int .i64 (f + 1), .int .i64 0] 28)) #[.int .i64 4, .int .i64 a, .int .i64 b, .int .i64 (f + 1), .int .i64 0] 28 2; rw [World.size_alloc, World.size_alloc] at h; exact h
  have e3 : (((w.alloc (.cells #[.int .i64 3, .int .i64 a, .int .i64 b, .int .i64 c, .int .i64 d] 28)).alloc (.cells #[.int .i64 4, .int .i64 a, .int .i64 b, .int .i64 (f + 1), .int .i64 0] 28)).alloc (.cells #[.int .i64 4, .int .i64 a, .int .i64 b, .int .i64 (f + 1), .int .i64 0] 28)).cell? ⟨w.heap.size + 1 + 1, 3, none⟩ = some (.int .i64 (f + 1)) := by have h := World.cell?_alloc_new ((w.alloc (.cells #[.int .i64 3, .int .i64 a, .int .i64 b, .int .i64 c, .int .i64 d] 28)).alloc (.cells #[.int .i64 4, .int .i64 a, .int .i64 b, .int .i64 (f + 1), .int .i64 0] 28)) #[.int .i64 4, .int .i64 a, .int .i64 b, .int .i64 (f + 1), .int .i64 0] 28 3; rw [World.size_alloc, World.size_alloc] at h; exact h
  have e4 : (((w.alloc (.cells #[.int .i64 3, .int .i64 a, .int .i64 b, .int .i64 c, .int .i64 d] 28)).alloc (.cells #[.int .i64 4, .int .i64 a, .int .i64 b, .int .i64 (f + 1), .int .i64 0] 28)).alloc (.cells #[.int .i64 4, .int .i64 a, .int .i64 b, .int .i64 (f + 1), .int .i64 0] 28)).cell? ⟨w.heap.size + 1 + 1, 4, none⟩ = some (.int .i64 0) := by have h := World.cell?_alloc_new ((w.alloc (.cells #[.int .i64 3, .int .i64 a, .int .i64 b, .int .i64 c, .int .i64 d] 28)).alloc (.cells #[.int .i64 4, .int .i64 a, .int .i64 b, .int .i64 (f + 1), .int .i64 0] 28)) #[.int .i64 4, .int .i64 a, .int .i64 b, .int .i64 (f + 1), .int .i64 0] 28 4; rw [World.size_alloc, World.size_alloc] at h; exact h
  have hwr : IntKind.i64.wrap ((f : Int) + 1) = (f : Int) + 1 := IntWalk.i64_in _ (by omega)
  go_region_held3 (fun w' => w'.cell? ⟨w.heap.size, 3, none⟩ = some (.int .i64 c) ∧ w'.cell? ⟨w.heap.size + 1 + 1, 0, none⟩ = some (.int .i64 4) ∧ w'.cell? ⟨w.heap.size + 1 + 1, 1, none⟩ = some (.int .i64 a) ∧ w'.cell? ⟨w.heap.size + 1 + 1, 2, none⟩ = some (.int .i64 b) ∧ w'.cell? ⟨w.heap.size + 1 + 1, 3, none⟩ = some (.int .i64 (f + 1)) ∧ w'.cell? ⟨w.heap.size + 1 + 1, 4, none⟩ = some (.int .i64 0))
    (refine ⟨?_, ?_, ?_, ?_, ?_, ?_⟩ <;> (repeat (with_reducible (first | assumption | refine cell_al ?_ _ | refine cell_dr ?_))))
    ((go_at_call 20
      refine (wI_calls _ _ _ _ _).mono ?_
      rintro e' w2 ⟨rfl, rfl⟩))
  clear dc e0 e1 e2 e3 e4
  go_wp2_with fail
  go_ret
  exact by_drew (by_some _ (by repeat (first | exact Kept.refl _ _ | refine Kept.alloc ?_ _)) _ _ (by decide) (by decide) (by simp) rfl)
set_option maxHeartbeats 2000000 in
theorem sums_3_false (g : Nat) (a b c d : Int) (i f : Nat) (hf : f ≤ 24) (w : World) (hg : w.cell? ⟨g, 0, none⟩ = some (.bool false)) : Calls Tryd.prog 22 #[.agg #[.int .i64 3, .int .i64 a, .int .i64 b, .int .i64 c, .int .i64 d], .int .i64 i, .int .i64 f, .pointer (some ⟨g, 0, none⟩)] w (ByPost w (some [⟨1, f, -1, 0, 0⟩, ⟨5, f + 1, c, f, 0⟩, ⟨4, a, b, f + 1, 0⟩])) := by
  have lg := World.block_lt_of_cell? w _ hg
  dsimp only at lg
  have lg1 : g < w.heap.size + 1 := by omega
  have lg2 : g < w.heap.size + 1 + 1 := by omega
  go_enter Tryd.func22, Tryd.ntmps22
  go_wp2_with fail
  refine (wI_calls _ _ _ _ _).mono ?_
  rintro e' w2 ⟨rfl, rfl⟩
  go_wp2_with fail
  have dc : (((w.alloc (.cells #[.int .i64 3, .int .i64 a, .int .i64 b, .int .i64 c, .int .i64 d] 28)).alloc (.cells #[.int .i64 4, .int .i64 a, .int .i64 b, .int .i64 (f + 1), .int .i64 0] 28)).alloc (.cells #[.int .i64 4, .int .i64 a, .int .i64 b, .int .i64 (f + 1), .int .i64 0] 28)).cell? ⟨w.heap.size, 3, none⟩ = some (.int .i64 c) := cell_al (cell_al (World.cell?_alloc_new w _ _ 3) _) _
  have e0 : (((w.alloc (.cells #[.int .i64 3, .int .i64 a, .int .i64 b, .int .i64 c, .int .i64 d] 28)).alloc (.cells #[.int .i64 4, .int .i64 a, .int .i64 b, .int .i64 (f + 1), .int .i64 0] 28)).alloc (.cells #[.int .i64 4, .int .i64 a, .int .i64 b, .int .i64 (f + 1), .int .i64 0] 28)).cell? ⟨w.heap.size + 1 + 1, 0, none⟩ = some (.int .i64 4) := by have h := World.cell?_alloc_new ((w.alloc (.cells #[.int .i64 3, .int .i64 a, .int .i64 b, .int .i64 c, .int .i64 d] 28)).alloc (.cells #[.int .i64 4, .int .i64 a, .int .i64 b, .int .i64 (f + 1), .int .i64 0] 28)) #[.int .i64 4, .int .i64 a, .int .i64 b, .int .i64 (f + 1), .int .i64 0] 28 0; rw [World.size_alloc, World.size_alloc] at h; exact h
  have e1 : (((w.alloc (.cells #[.int .i64 3, .int .i64 a, .int .i64 b, .int .i64 c, .int .i64 d] 28)).alloc (.cells #[.int .i64 4, .int .i64 a, .int .i64 b, .int .i64 (f + 1), .int .i64 0] 28)).alloc (.cells #[.int .i64 4, .int .i64 a, .int .i64 b, .int .i64 (f + 1), .int .i64 0] 28)).cell? ⟨w.heap.size + 1 + 1, 1, none⟩ = some (.int .i64 a) := by have h := World.cell?_alloc_new ((w.alloc (.cells #[.int .i64 3, .int .i64 a, .int .i64 b, .int .i64 c, .int .i64 d] 28)).alloc (.cells #[.int .i64 4, .int .i64 a, .int .i64 b, .int .i64 (f + 1), .int .i64 0] 28)) #[.int .i64 4, .int .i64 a, .int .i64 b, .int .i64 (f + 1), .int .i64 0] 28 1; rw [World.size_alloc, World.size_alloc] at h; exact h
  have e2 : (((w.alloc (.cells #[.int .i64 3, .int .i64 a, .int .i64 b, .int .i64 c, .int .i64 d] 28)).alloc (.cells #[.int .i64 4, .int .i64 a, .int .i64 b, .int .i64 (f + 1), .int .i64 0] 28)).alloc (.cells #[.int .i64 4, .int .i64 a, .int .i64 b, .int .i64 (f + 1), .int .i64 0] 28)).cell? ⟨w.heap.size + 1 + 1, 2, none⟩ = some (.int .i64 b) := by have h := World.cell?_alloc_new ((w.alloc (.cells #[.int .i64 3, .int .i64 a, .int .i64 b, .int .i64 c, .int .i64 d] 28)).alloc (.cells #[.int .i64 4, .int .i64 a, .int .i64 b, .int .i64 (f + 1), .int .i64 0] 28)) #[.int .i64 4, .int .i64 a, .int .i64 b, .int .i64 (f + 1), .int .i64 0] 28 2; rw [World.size_alloc, World.size_alloc] at h; exact h
  have e3 : (((w.alloc (.cells #[.int .i64 3, .int .i64 a, .int .i64 b, .int .i64 c, .int .i64 d] 28)).alloc (.cells #[.int .i64 4, .int .i64 a, .int .i64 b, .int .i64 (f + 1), .int .i64 0] 28)).alloc (.cells #[.int .i64 4, .int .i64 a, .int .i64 b, .int .i64 (f + 1), .int .i64 0] 28)).cell? ⟨w.heap.size + 1 + 1, 3, none⟩ = some (.int .i64 (f + 1)) := by have h := World.cell?_alloc_new ((w.alloc (.cells #[.int .i64 3, .int .i64 a, .int .i64 b, .int .i64 c, .int .i64 d] 28)).alloc (.cells #[.int .i64 4, .int .i64 a, .int .i64 b, .int .i64 (f + 1), .int .i64 0] 28)) #[.int .i64 4, .int .i64 a, .int .i64 b, .int .i64 (f + 1), .int .i64 0] 28 3; rw [World.size_alloc, World.size_alloc] at h; exact h
  have e4 : (((w.alloc (.cells #[.int .i64 3, .int .i64 a, .int .i64 b, .int .i64 c, .int .i64 d] 28)).alloc (.cells #[.int .i64 4, .int .i64 a, .int .i64 b, .int .i64 (f + 1), .int .i64 0] 28)).alloc (.cells #[.int .i64 4, .int .i64 a, .int .i64 b, .int .i64 (f + 1), .int .i64 0] 28)).cell? ⟨w.heap.size + 1 + 1, 4, none⟩ = some (.int .i64 0) := by have h := World.cell?_alloc_new ((w.alloc (.cells #[.int .i64 3, .int .i64 a, .int .i64 b, .int .i64 c, .int .i64 d] 28)).alloc (.cells #[.int .i64 4, .int .i64 a, .int .i64 b, .int .i64 (f + 1), .int .i64 0] 28)) #[.int .i64 4, .int .i64 a, .int .i64 b, .int .i64 (f + 1), .int .i64 0] 28 4; rw [World.size_alloc, World.size_alloc] at h; exact h
  have hwr : IntKind.i64.wrap ((f : Int) + 1) = (f : Int) + 1 := IntWalk.i64_in _ (by omega)
  go_region_held3 (fun w' => w'.cell? ⟨w.heap.size, 3, none⟩ = some (.int .i64 c) ∧ w'.cell? ⟨w.heap.size + 1 + 1, 0, none⟩ = some (.int .i64 4) ∧ w'.cell? ⟨w.heap.size + 1 + 1, 1, none⟩ = some (.int .i64 a) ∧ w'.cell? ⟨w.heap.size + 1 + 1, 2, none⟩ = some (.int .i64 b) ∧ w'.cell? ⟨w.heap.size + 1 + 1, 3, none⟩ = some (.int .i64 (f + 1)) ∧ w'.cell? ⟨w.heap.size + 1 + 1, 4, none⟩ = some (.int .i64 0))
    (refine ⟨?_, ?_, ?_, ?_, ?_, ?_⟩ <;> (repeat (with_reducible (first | assumption | refine cell_al ?_ _ | refine cell_dr ?_))))
    ((go_at_call 20
      refine (wI_calls _ _ _ _ _).mono ?_
      rintro e' w2 ⟨rfl, rfl⟩))
  clear dc e0 e1 e2 e3 e4
  go_wp2_with fail
  go_ret
  exact by_drew (by_some _ (by repeat (first | exact Kept.refl _ _ | refine Kept.alloc ?_ _)) _ _ (by decide) (by decide) (by simp) rfl)
set_option maxHeartbeats 2000000 in
theorem sums_4_true (g : Nat) (a b c d : Int) (i f : Nat) (hf : f ≤ 24) (w : World) (hg : w.cell? ⟨g, 0, none⟩ = some (.bool true)) : Calls Tryd.prog 22 #[.agg #[.int .i64 4, .int .i64 a, .int .i64 b, .int .i64 c, .int .i64 d], .int .i64 i, .int .i64 f, .pointer (some ⟨g, 0, none⟩)] w (ByPost w (some [⟨1, f, 0, 0, 0⟩, ⟨4, f + 1, f, c, 0⟩, ⟨3, a, b, f + 1, 0⟩])) := by
  have lg := World.block_lt_of_cell? w _ hg
  dsimp only at lg
  have lg1 : g < w.heap.size + 1 := by omega
  have lg2 : g < w.heap.size + 1 + 1 := by omega
  go_enter Tryd.func22, Tryd.ntmps22
  go_wp2_with fail
  refine (wI_calls _ _ _ _ _).mono ?_
  rintro e' w2 ⟨rfl, rfl⟩
  go_wp2_with fail
  have dc : (((w.alloc (.cells #[.int .i64 4, .int .i64 a, .int .i64 b, .int .i64 c, .int .i64 d] 28)).alloc (.cells #[.int .i64 3, .int .i64 a, .int .i64 b, .int .i64 (f + 1), .int .i64 0] 28)).alloc (.cells #[.int .i64 3, .int .i64 a, .int .i64 b, .int .i64 (f + 1), .int .i64 0] 28)).cell? ⟨w.heap.size, 3, none⟩ = some (.int .i64 c) := cell_al (cell_al (World.cell?_alloc_new w _ _ 3) _) _
  have e0 : (((w.alloc (.cells #[.int .i64 4, .int .i64 a, .int .i64 b, .int .i64 c, .int .i64 d] 28)).alloc (.cells #[.int .i64 3, .int .i64 a, .int .i64 b, .int .i64 (f + 1), .int .i64 0] 28)).alloc (.cells #[.int .i64 3, .int .i64 a, .int .i64 b, .int .i64 (f + 1), .int .i64 0] 28)).cell? ⟨w.heap.size + 1 + 1, 0, none⟩ = some (.int .i64 3) := by have h := World.cell?_alloc_new ((w.alloc (.cells #[.int .i64 4, .int .i64 a, .int .i64 b, .int .i64 c, .int .i64 d] 28)).alloc (.cells #[.int .i64 3, .int .i64 a, .int .i64 b, .int .i64 (f + 1), .int .i64 0] 28)) #[.int .i64 3, .int .i64 a, .int .i64 b, .int .i64 (f + 1), .int .i64 0] 28 0; rw [World.size_alloc, World.size_alloc] at h; exact h
  have e1 : (((w.alloc (.cells #[.int .i64 4, .int .i64 a, .int .i64 b, .int .i64 c, .int .i64 d] 28)).alloc (.cells #[.int .i64 3, .int .i64 a, .int .i64 b, .int .i64 (f + 1), .int .i64 0] 28)).alloc (.cells #[.int .i64 3, .int .i64 a, .int .i64 b, .int .i64 (f + 1), .int .i64 0] 28)).cell? ⟨w.heap.size + 1 + 1, 1, none⟩ = some (.int .i64 a) := by have h := World.cell?_alloc_new ((w.alloc (.cells #[.int .i64 4, .int .i64 a, .int .i64 b, .int .i64 c, .int .i64 d] 28)).alloc (.cells #[.int .i64 3, .int .i64 a, .int .i64 b, .int .i64 (f + 1), .int .i64 0] 28)) #[.int .i64 3, .int .i64 a, .int .i64 b, .int .i64 (f + 1), .int .i64 0] 28 1; rw [World.size_alloc, World.size_alloc] at h; exact h
  have e2 : (((w.alloc (.cells #[.int .i64 4, .int .i64 a, .int .i64 b, .int .i64 c, .int .i64 d] 28)).alloc (.cells #[.int .i64 3, .int .i64 a, .int .i64 b, .int .i64 (f + 1), .int .i64 0] 28)).alloc (.cells #[.int .i64 3, .int .i64 a, .int .i64 b, .int .i64 (f + 1), .int .i64 0] 28)).cell? ⟨w.heap.size + 1 + 1, 2, none⟩ = some (.int .i64 b) := by have h := World.cell?_alloc_new ((w.alloc (.cells #[.int .i64 4, .int .i64 a, .int .i64 b, .int .i64 c, .int .i64 d] 28)).alloc (.cells #[.int .i64 3, .int .i64 a, .int .i64 b, .int .i64 (f + 1), .int .i64 0] 28)) #[.int .i64 3, .int .i64 a, .int .i64 b, .int .i64 (f + 1), .int .i64 0] 28 2; rw [World.size_alloc, World.size_alloc] at h; exact h
  have e3 : (((w.alloc (.cells #[.int .i64 4, .int .i64 a, .int .i64 b, .int .i64 c, .int .i64 d] 28)).alloc (.cells #[.int .i64 3, .int .i64 a, .int .i64 b, .int .i64 (f + 1), .int .i64 0] 28)).alloc (.cells #[.int .i64 3, .int .i64 a, .int .i64 b, .int .i64 (f + 1), .int .i64 0] 28)).cell? ⟨w.heap.size + 1 + 1, 3, none⟩ = some (.int .i64 (f + 1)) := by have h := World.cell?_alloc_new ((w.alloc (.cells #[.int .i64 4, .int .i64 a, .int .i64 b, .int .i64 c, .int .i64 d] 28)).alloc (.cells #[.int .i64 3, .int .i64 a, .int .i64 b, .int .i64 (f + 1), .int .i64 0] 28)) #[.int .i64 3, .int .i64 a, .int .i64 b, .int .i64 (f + 1), .int .i64 0] 28 3; rw [World.size_alloc, World.size_alloc] at h; exact h
  have e4 : (((w.alloc (.cells #[.int .i64 4, .int .i64 a, .int .i64 b, .int .i64 c, .int .i64 d] 28)).alloc (.cells #[.int .i64 3, .int .i64 a, .int .i64 b, .int .i64 (f + 1), .int .i64 0] 28)).alloc (.cells #[.int .i64 3, .int .i64 a, .int .i64 b, .int .i64 (f + 1), .int .i64 0] 28)).cell? ⟨w.heap.size + 1 + 1, 4, none⟩ = some (.int .i64 0) := by have h := World.cell?_alloc_new ((w.alloc (.cells #[.int .i64 4, .int .i64 a, .int .i64 b, .int .i64 c, .int .i64 d] 28)).alloc (.cells #[.int .i64 3, .int .i64 a, .int .i64 b, .int .i64 (f + 1), .int .i64 0] 28)) #[.int .i64 3, .int .i64 a, .int .i64 b, .int .i64 (f + 1), .int .i64 0] 28 4; rw [World.size_alloc, World.size_alloc] at h; exact h
  have hwr : IntKind.i64.wrap ((f : Int) + 1) = (f : Int) + 1 := IntWalk.i64_in _ (by omega)
  go_region_held3 (fun w' => w'.cell? ⟨w.heap.size, 3, none⟩ = some (.int .i64 c) ∧ w'.cell? ⟨w.heap.size + 1 + 1, 0, none⟩ = some (.int .i64 3) ∧ w'.cell? ⟨w.heap.size + 1 + 1, 1, none⟩ = some (.int .i64 a) ∧ w'.cell? ⟨w.heap.size + 1 + 1, 2, none⟩ = some (.int .i64 b) ∧ w'.cell? ⟨w.heap.size + 1 + 1, 3, none⟩ = some (.int .i64 (f + 1)) ∧ w'.cell? ⟨w.heap.size + 1 + 1, 4, none⟩ = some (.int .i64 0))
    (refine ⟨?_, ?_, ?_, ?_, ?_, ?_⟩ <;> (repeat (with_reducible (first | assumption | refine cell_al ?_ _ | refine cell_dr ?_))))
    ((go_at_call 20
      refine (wI_calls _ _ _ _ _).mono ?_
      rintro e' w2 ⟨rfl, rfl⟩))
  clear dc e0 e1 e2 e3 e4
  go_wp2_with fail
  go_ret
  exact by_drew (by_some _ (by repeat (first | exact Kept.refl _ _ | refine Kept.alloc ?_ _)) _ _ (by decide) (by decide) (by simp) rfl)
set_option maxHeartbeats 2000000 in
theorem sums_4_false (g : Nat) (a b c d : Int) (i f : Nat) (hf : f ≤ 24) (w : World) (hg : w.cell? ⟨g, 0, none⟩ = some (.bool false)) : Calls Tryd.prog 22 #[.agg #[.int .i64 4, .int .i64 a, .int .i64 b, .int .i64 c, .int .i64 d], .int .i64 i, .int .i64 f, .pointer (some ⟨g, 0, none⟩)] w (ByPost w (some [⟨1, f, -1, 0, 0⟩, ⟨5, f + 1, c, f, 0⟩, ⟨3, a, b, f + 1, 0⟩])) := by
  have lg := World.block_lt_of_cell? w _ hg
  dsimp only at lg
  have lg1 : g < w.heap.size + 1 := by omega
  have lg2 : g < w.heap.size + 1 + 1 := by omega
  go_enter Tryd.func22, Tryd.ntmps22
  go_wp2_with fail
  refine (wI_calls _ _ _ _ _).mono ?_
  rintro e' w2 ⟨rfl, rfl⟩
  go_wp2_with fail
  have dc : (((w.alloc (.cells #[.int .i64 4, .int .i64 a, .int .i64 b, .int .i64 c, .int .i64 d] 28)).alloc (.cells #[.int .i64 3, .int .i64 a, .int .i64 b, .int .i64 (f + 1), .int .i64 0] 28)).alloc (.cells #[.int .i64 3, .int .i64 a, .int .i64 b, .int .i64 (f + 1), .int .i64 0] 28)).cell? ⟨w.heap.size, 3, none⟩ = some (.int .i64 c) := cell_al (cell_al (World.cell?_alloc_new w _ _ 3) _) _
  have e0 : (((w.alloc (.cells #[.int .i64 4, .int .i64 a, .int .i64 b, .int .i64 c, .int .i64 d] 28)).alloc (.cells #[.int .i64 3, .int .i64 a, .int .i64 b, .int .i64 (f + 1), .int .i64 0] 28)).alloc (.cells #[.int .i64 3, .int .i64 a, .int .i64 b, .int .i64 (f + 1), .int .i64 0] 28)).cell? ⟨w.heap.size + 1 + 1, 0, none⟩ = some (.int .i64 3) := by have h := World.cell?_alloc_new ((w.alloc (.cells #[.int .i64 4, .int .i64 a, .int .i64 b, .int .i64 c, .int .i64 d] 28)).alloc (.cells #[.int .i64 3, .int .i64 a, .int .i64 b, .int .i64 (f + 1), .int .i64 0] 28)) #[.int .i64 3, .int .i64 a, .int .i64 b, .int .i64 (f + 1), .int .i64 0] 28 0; rw [World.size_alloc, World.size_alloc] at h; exact h
  have e1 : (((w.alloc (.cells #[.int .i64 4, .int .i64 a, .int .i64 b, .int .i64 c, .int .i64 d] 28)).alloc (.cells #[.int .i64 3, .int .i64 a, .int .i64 b, .int .i64 (f + 1), .int .i64 0] 28)).alloc (.cells #[.int .i64 3, .int .i64 a, .int .i64 b, .int .i64 (f + 1), .int .i64 0] 28)).cell? ⟨w.heap.size + 1 + 1, 1, none⟩ = some (.int .i64 a) := by have h := World.cell?_alloc_new ((w.alloc (.cells #[.int .i64 4, .int .i64 a, .int .i64 b, .int .i64 c, .int .i64 d] 28)).alloc (.cells #[.int .i64 3, .int .i64 a, .int .i64 b, .int .i64 (f + 1), .int .i64 0] 28)) #[.int .i64 3, .int .i64 a, .int .i64 b, .int .i64 (f + 1), .int .i64 0] 28 1; rw [World.size_alloc, World.size_alloc] at h; exact h
  have e2 : (((w.alloc (.cells #[.int .i64 4, .int .i64 a, .int .i64 b, .int .i64 c, .int .i64 d] 28)).alloc (.cells #[.int .i64 3, .int .i64 a, .int .i64 b, .int .i64 (f + 1), .int .i64 0] 28)).alloc (.cells #[.int .i64 3, .int .i64 a, .int .i64 b, .int .i64 (f + 1), .int .i64 0] 28)).cell? ⟨w.heap.size + 1 + 1, 2, none⟩ = some (.int .i64 b) := by have h := World.cell?_alloc_new ((w.alloc (.cells #[.int .i64 4, .int .i64 a, .int .i64 b, .int .i64 c, .int .i64 d] 28)).alloc (.cells #[.int .i64 3, .int .i64 a, .int .i64 b, .int .i64 (f + 1), .int .i64 0] 28)) #[.int .i64 3, .int .i64 a, .int .i64 b, .int .i64 (f + 1), .int .i64 0] 28 2; rw [World.size_alloc, World.size_alloc] at h; exact h
  have e3 : (((w.alloc (.cells #[.int .i64 4, .int .i64 a, .int .i64 b, .int .i64 c, .int .i64 d] 28)).alloc (.cells #[.int .i64 3, .int .i64 a, .int .i64 b, .int .i64 (f + 1), .int .i64 0] 28)).alloc (.cells #[.int .i64 3, .int .i64 a, .int .i64 b, .int .i64 (f + 1), .int .i64 0] 28)).cell? ⟨w.heap.size + 1 + 1, 3, none⟩ = some (.int .i64 (f + 1)) := by have h := World.cell?_alloc_new ((w.alloc (.cells #[.int .i64 4, .int .i64 a, .int .i64 b, .int .i64 c, .int .i64 d] 28)).alloc (.cells #[.int .i64 3, .int .i64 a, .int .i64 b, .int .i64 (f + 1), .int .i64 0] 28)) #[.int .i64 3, .int .i64 a, .int .i64 b, .int .i64 (f + 1), .int .i64 0] 28 3; rw [World.size_alloc, World.size_alloc] at h; exact h
  have e4 : (((w.alloc (.cells #[.int .i64 4, .int .i64 a, .int .i64 b, .int .i64 c, .int .i64 d] 28)).alloc (.cells #[.int .i64 3, .int .i64 a, .int .i64 b, .int .i64 (f + 1), .int .i64 0] 28)).alloc (.cells #[.int .i64 3, .int .i64 a, .int .i64 b, .int .i64 (f + 1), .int .i64 0] 28)).cell? ⟨w.heap.size + 1 + 1, 4, none⟩ = some (.int .i64 0) := by have h := World.cell?_alloc_new ((w.alloc (.cells #[.int .i64 4, .int .i64 a, .int .i64 b, .int .i64 c, .int .i64 d] 28)).alloc (.cells #[.int .i64 3, .int .i64 a, .int .i64 b, .int .i64 (f + 1), .int .i64 0] 28)) #[.int .i64 3, .int .i64 a, .int .i64 b, .int .i64 (f + 1), .int .i64 0] 28 4; rw [World.size_alloc, World.size_alloc] at h; exact h
  have hwr : IntKind.i64.wrap ((f : Int) + 1) = (f : Int) + 1 := IntWalk.i64_in _ (by omega)
  go_region_held3 (fun w' => w'.cell? ⟨w.heap.size, 3, none⟩ = some (.int .i64 c) ∧ w'.cell? ⟨w.heap.size + 1 + 1, 0, none⟩ = some (.int .i64 3) ∧ w'.cell? ⟨w.heap.size + 1 + 1, 1, none⟩ = some (.int .i64 a) ∧ w'.cell? ⟨w.heap.size + 1 + 1, 2, none⟩ = some (.int .i64 b) ∧ w'.cell? ⟨w.heap.size + 1 + 1, 3, none⟩ = some (.int .i64 (f + 1)) ∧ w'.cell? ⟨w.heap.size + 1 + 1, 4, none⟩ = some (.int .i64 0))
    (refine ⟨?_, ?_, ?_, ?_, ?_, ?_⟩ <;> (repeat (with_reducible (first | assumption | refine cell_al ?_ _ | refine cell_dr ?_))))
    ((go_at_call 20
      refine (wI_calls _ _ _ _ _).mono ?_
      rintro e' w2 ⟨rfl, rfl⟩))
  clear dc e0 e1 e2 e3 e4
  go_wp2_with fail
  go_ret
  exact by_drew (by_some _ (by repeat (first | exact Kept.refl _ _ | refine Kept.alloc ?_ _)) _ _ (by decide) (by decide) (by simp) rfl)
theorem sums_none (g : Nat) (k a b c d : Int) (i f : Nat) (h3 : (k != 3) = true) (h4 : (k != 4) = true) (w : World) : Calls Tryd.prog 22 #[.agg #[.int .i64 k, .int .i64 a, .int .i64 b, .int .i64 c, .int .i64 d], .int .i64 i, .int .i64 f, .pointer (some ⟨g, 0, none⟩)] w (ByPost w none) := by
  go_enter Tryd.func22, Tryd.ntmps22
  go_wp2_with fail
  go_ret
  exact by_none ((Kept.refl NoB w).alloc _)
theorem sums_ok {w0 : World} {g : Nat} {less : Bool} (hg : w0.cell? ⟨g, 0, none⟩ = some (.bool less)) (n : Nat) : ByOk w0 22 #[.pointer (some ⟨g, 0, none⟩)] 2 n (sumsL less) := by
  intro w ⟨k, a, b, c, d⟩ i f hk _ _ hf
  have h := hk.cell hg id
  unfold sumsL
  dsimp only
  by_cases h3 : k = 3
  · subst h3
    cases less
    · exact sums_3_false g a b c d i f (by omega) w h
    · exact sums_3_true g a b c d i f (by omega) w h
  · by_cases h4 : k = 4
    · subst h4
      cases less
      · exact sums_4_false g a b c d i f (by omega) w h
      · exact sums_4_true g a b c d i f (by omega) w h
    · rw [if_neg (by omega)]
      exact sums_none g k a b c d i f (by simpa using h3) (by simpa using h4) w

def setsL (by' : Int) (less : Bool) (o : Op5) (_ f : Nat) : Option (List Op5) :=
  if o.k = 1 then (if less then some [⟨1, f, IntKind.i64.wrap (o.b + by'), 0, 0⟩, ⟨1, f + 1, by', 0, 0⟩, ⟨4, o.a, f, f + 1, 0⟩] else some [⟨1, f, by', 0, 0⟩, ⟨1, f + 1, IntKind.i64.wrap (o.b - by'), 0, 0⟩, ⟨3, o.a, f, f + 1, 0⟩]) else none
set_option maxHeartbeats 2000000 in
theorem sets_true (g g2 : Nat) (by' a b c d : Int) (i f : Nat) (hf : f ≤ 24) (w : World) (hg : w.cell? ⟨g, 0, none⟩ = some (.bool true)) (hg2 : w.cell? ⟨g2, 0, none⟩ = some (.int .i64 by')) : Calls Tryd.prog 23 #[.agg #[.int .i64 1, .int .i64 a, .int .i64 b, .int .i64 c, .int .i64 d], .int .i64 i, .int .i64 f, .pointer (some ⟨g, 0, none⟩), .pointer (some ⟨g2, 0, none⟩)] w (ByPost w (some [⟨1, f, IntKind.i64.wrap (b + by'), 0, 0⟩, ⟨1, f + 1, by', 0, 0⟩, ⟨4, a, f, f + 1, 0⟩])) := by
  have lg := World.block_lt_of_cell? w _ hg
  dsimp only at lg
  go_enter Tryd.func23, Tryd.ntmps23
  go_wp2_with fail
  have da : (w.alloc (.cells #[.int .i64 1, .int .i64 a, .int .i64 b, .int .i64 c, .int .i64 d] 28)).cell? ⟨w.heap.size, 1, none⟩ = some (.int .i64 a) := World.cell?_alloc_new w _ _ 1
  have db : (w.alloc (.cells #[.int .i64 1, .int .i64 a, .int .i64 b, .int .i64 c, .int .i64 d] 28)).cell? ⟨w.heap.size, 2, none⟩ = some (.int .i64 b) := World.cell?_alloc_new w _ _ 2
  have dg := cell_al hg2 (.cells #[.int .i64 1, .int .i64 a, .int .i64 b, .int .i64 c, .int .i64 d] 28)
  have hwr : IntKind.i64.wrap ((f : Int) + 1) = (f : Int) + 1 := IntWalk.i64_in _ (by omega)
  go_region_held3 (fun w' => w'.cell? ⟨w.heap.size, 1, none⟩ = some (.int .i64 a) ∧ w'.cell? ⟨w.heap.size, 2, none⟩ = some (.int .i64 b) ∧ w'.cell? ⟨g2, 0, none⟩ = some (.int .i64 by'))
    (refine ⟨?_, ?_, ?_⟩ <;> (repeat (with_reducible (first | assumption | refine cell_al ?_ _ | refine cell_dr ?_))))
    ((go_at_call 20
      refine (wI_calls _ _ _ _ _).mono ?_
      rintro e' w2 ⟨rfl, rfl⟩))
  clear da db dg
  go_wp2_with fail
  go_ret
  exact by_drew (by_some _ (by repeat (first | exact Kept.refl _ _ | refine Kept.alloc ?_ _)) _ _ (by decide) (by decide) (by simp) rfl)
set_option maxHeartbeats 2000000 in
theorem sets_false (g g2 : Nat) (by' a b c d : Int) (i f : Nat) (hf : f ≤ 24) (w : World) (hg : w.cell? ⟨g, 0, none⟩ = some (.bool false)) (hg2 : w.cell? ⟨g2, 0, none⟩ = some (.int .i64 by')) : Calls Tryd.prog 23 #[.agg #[.int .i64 1, .int .i64 a, .int .i64 b, .int .i64 c, .int .i64 d], .int .i64 i, .int .i64 f, .pointer (some ⟨g, 0, none⟩), .pointer (some ⟨g2, 0, none⟩)] w (ByPost w (some [⟨1, f, by', 0, 0⟩, ⟨1, f + 1, IntKind.i64.wrap (b - by'), 0, 0⟩, ⟨3, a, f, f + 1, 0⟩])) := by
  have lg := World.block_lt_of_cell? w _ hg
  dsimp only at lg
  go_enter Tryd.func23, Tryd.ntmps23
  go_wp2_with fail
  have da : (w.alloc (.cells #[.int .i64 1, .int .i64 a, .int .i64 b, .int .i64 c, .int .i64 d] 28)).cell? ⟨w.heap.size, 1, none⟩ = some (.int .i64 a) := World.cell?_alloc_new w _ _ 1
  have db : (w.alloc (.cells #[.int .i64 1, .int .i64 a, .int .i64 b, .int .i64 c, .int .i64 d] 28)).cell? ⟨w.heap.size, 2, none⟩ = some (.int .i64 b) := World.cell?_alloc_new w _ _ 2
  have dg := cell_al hg2 (.cells #[.int .i64 1, .int .i64 a, .int .i64 b, .int .i64 c, .int .i64 d] 28)
  have hwr : IntKind.i64.wrap ((f : Int) + 1) = (f : Int) + 1 := IntWalk.i64_in _ (by omega)
  go_region_held3 (fun w' => w'.cell? ⟨w.heap.size, 1, none⟩ = some (.int .i64 a) ∧ w'.cell? ⟨w.heap.size, 2, none⟩ = some (.int .i64 b) ∧ w'.cell? ⟨g2, 0, none⟩ = some (.int .i64 by'))
    (refine ⟨?_, ?_, ?_⟩ <;> (repeat (with_reducible (first | assumption | refine cell_al ?_ _ | refine cell_dr ?_))))
    ((go_at_call 20
      refine (wI_calls _ _ _ _ _).mono ?_
      rintro e' w2 ⟨rfl, rfl⟩))
  clear da db dg
  go_wp2_with fail
  go_ret
  exact by_drew (by_some _ (by repeat (first | exact Kept.refl _ _ | refine Kept.alloc ?_ _)) _ _ (by decide) (by decide) (by simp) rfl)
theorem sets_none (g g2 : Nat) (k a b c d : Int) (i f : Nat) (h1 : (k != 1) = true) (w : World) : Calls Tryd.prog 23 #[.agg #[.int .i64 k, .int .i64 a, .int .i64 b, .int .i64 c, .int .i64 d], .int .i64 i, .int .i64 f, .pointer (some ⟨g, 0, none⟩), .pointer (some ⟨g2, 0, none⟩)] w (ByPost w none) := by
  go_enter Tryd.func23, Tryd.ntmps23
  go_wp2_with fail
  go_ret
  exact by_none ((Kept.refl NoB w).alloc _)
theorem sets_ok {w0 : World} {g g2 : Nat} {less : Bool} {by' : Int} (hg : w0.cell? ⟨g, 0, none⟩ = some (.bool less)) (hg2 : w0.cell? ⟨g2, 0, none⟩ = some (.int .i64 by')) (n : Nat) :
    ByOk w0 23 #[.pointer (some ⟨g, 0, none⟩), .pointer (some ⟨g2, 0, none⟩)] 2 n (setsL by' less) := by
  intro w ⟨k, a, b, c, d⟩ i f hk _ _ hf
  have h := hk.cell hg id
  have h2 := hk.cell hg2 id
  unfold setsL
  dsimp only
  by_cases h1 : k = 1
  · subst h1
    cases less
    · exact sets_false g g2 by' a b c d i f (by omega) w h h2
    · exact sets_true g g2 by' a b c d i f (by omega) w h h2
  · rw [if_neg h1]
    exact sets_none g g2 k a b c d i f (by simpa using h1) w
end Go.Proofs.YtmnfgigieafehaaDoor
