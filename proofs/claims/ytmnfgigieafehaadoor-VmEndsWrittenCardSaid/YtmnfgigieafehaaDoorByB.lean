/- Walks of the functions that give the instructions in the place of one: Tests, Rests. Conditions: the captured cells hold what is said. Printed by gen_by.py. -/
import Derived.Test.YtmnfgigieafehaaDoorByA
namespace Go.Proofs.YtmnfgigieafehaaDoor
open Go.RowKit
set_option maxRecDepth 100000

def testsL (o : Op5) (_ f : Nat) : Option (List Op5) :=
  if o.k = 9 then some [⟨9, f, o.c, o.b, 0⟩, ⟨8, f + 1, o.b, o.c, 0⟩, ⟨3, f, f, f + 1, 0⟩, ⟨1, f + 1, 0, 0, 0⟩, ⟨8, o.a, f, f + 1, 0⟩]
  else if o.k = 8 then some [⟨4, f, o.b, o.c, 0⟩, ⟨1, f + 1, 0, 0, 0⟩, ⟨8, o.a, f + 1, f, 0⟩] else none
set_option maxHeartbeats 2000000 in
theorem tests_by (k a b c d : Int) (i f : Nat) (hf : f ≤ 24) (w : World) : Calls Tryd.prog 24 #[.agg #[.int .i64 k, .int .i64 a, .int .i64 b, .int .i64 c, .int .i64 d], .int .i64 i, .int .i64 f] w (ByPost w (testsL ⟨k, a, b, c, d⟩ i f)) := by
  by_cases h9 : k = 9
  · subst h9
    have hr := Lib.hid (show testsL ⟨9, a, b, c, d⟩ i f = some [⟨9, f, c, b, 0⟩, ⟨8, f + 1, b, c, 0⟩, ⟨3, f, f, f + 1, 0⟩, ⟨1, f + 1, 0, 0, 0⟩, ⟨8, a, f, f + 1, 0⟩] by simp [testsL])
    go_enter Tryd.func24, Tryd.ntmps24
    go_wp2_with fail
    have da : (w.alloc (.cells #[.int .i64 9, .int .i64 a, .int .i64 b, .int .i64 c, .int .i64 d] 28)).cell? ⟨w.heap.size, 1, none⟩ = some (.int .i64 a) := World.cell?_alloc_new w _ _ 1
    have db : (w.alloc (.cells #[.int .i64 9, .int .i64 a, .int .i64 b, .int .i64 c, .int .i64 d] 28)).cell? ⟨w.heap.size, 2, none⟩ = some (.int .i64 b) := World.cell?_alloc_new w _ _ 2
    have dc : (w.alloc (.cells #[.int .i64 9, .int .i64 a, .int .i64 b, .int .i64 c, .int .i64 d] 28)).cell? ⟨w.heap.size, 3, none⟩ = some (.int .i64 c) := World.cell?_alloc_new w _ _ 3
    go_region_held3 (fun w' => w'.cell? ⟨w.heap.size, 1, none⟩ = some (.int .i64 a) ∧ w'.cell? ⟨w.heap.size, 2, none⟩ = some (.int .i64 b) ∧ w'.cell? ⟨w.heap.size, 3, none⟩ = some (.int .i64 c))
      (refine ⟨?_, ?_, ?_⟩ <;> (repeat (with_reducible (first | assumption | refine cell_al ?_ _ | refine cell_dr ?_))))
      ((go_at_call 20
        refine (wI_calls _ _ _ _ _).mono ?_
        rintro e' w2 ⟨rfl, rfl⟩))
    clear da db dc
    go_wp2_with fail
    go_ret
    rw [hr.out]
    exact by_drew (by_some _ (by repeat (first | exact Kept.refl _ _ | refine Kept.alloc ?_ _)) _ _ (by decide) (by decide) (by simp) rfl)
  by_cases h8 : k = 8
  · subst h8
    clear h9
    have hr := Lib.hid (show testsL ⟨8, a, b, c, d⟩ i f = some [⟨4, f, b, c, 0⟩, ⟨1, f + 1, 0, 0, 0⟩, ⟨8, a, f + 1, f, 0⟩] by simp [testsL])
    go_enter Tryd.func24, Tryd.ntmps24
    go_wp2_with fail
    have da : (w.alloc (.cells #[.int .i64 8, .int .i64 a, .int .i64 b, .int .i64 c, .int .i64 d] 28)).cell? ⟨w.heap.size, 1, none⟩ = some (.int .i64 a) := World.cell?_alloc_new w _ _ 1
    have db : (w.alloc (.cells #[.int .i64 8, .int .i64 a, .int .i64 b, .int .i64 c, .int .i64 d] 28)).cell? ⟨w.heap.size, 2, none⟩ = some (.int .i64 b) := World.cell?_alloc_new w _ _ 2
    have dc : (w.alloc (.cells #[.int .i64 8, .int .i64 a, .int .i64 b, .int .i64 c, .int .i64 d] 28)).cell? ⟨w.heap.size, 3, none⟩ = some (.int .i64 c) := World.cell?_alloc_new w _ _ 3
    go_region_held3 (fun w' => w'.cell? ⟨w.heap.size, 1, none⟩ = some (.int .i64 a) ∧ w'.cell? ⟨w.heap.size, 2, none⟩ = some (.int .i64 b) ∧ w'.cell? ⟨w.heap.size, 3, none⟩ = some (.int .i64 c))
      (refine ⟨?_, ?_, ?_⟩ <;> (repeat (with_reducible (first | assumption | refine cell_al ?_ _ | refine cell_dr ?_))))
      ((go_at_call 20
        refine (wI_calls _ _ _ _ _).mono ?_
        rintro e' w2 ⟨rfl, rfl⟩))
    clear da db dc
    go_wp2_with fail
    go_ret
    rw [hr.out]
    exact by_drew (by_some _ (by repeat (first | exact Kept.refl _ _ | refine Kept.alloc ?_ _)) _ _ (by decide) (by decide) (by simp) rfl)
  have hr := Lib.hid (show testsL ⟨k, a, b, c, d⟩ i f = none by simp only [testsL]; rw [if_neg h9, if_neg h8])
  have h9' : (k == 9) = false := by simpa using h9
  have h8' : (k == 8) = false := by simpa using h8
  clear h9 h8
  go_enter Tryd.func24, Tryd.ntmps24
  go_wp2_with fail
  go_ret
  rw [hr.out]
  exact by_none ((Kept.refl NoB w).alloc _)
theorem tests_ok (w0 : World) (n : Nat) : ByOk w0 24 #[] 2 n testsL := by
  intro w ⟨k, a, b, c, d⟩ i f _ _ _ hf
  exact tests_by k a b c d i f (by omega) w

def restsL (o : Op5) (_ f : Nat) : Option (List Op5) :=
  if o.k = 7 then some [⟨6, f, o.b, o.c, 0⟩, ⟨5, f, f, o.c, 0⟩, ⟨4, f, o.b, f, 0⟩, ⟨1, f + 2, 0, 0, 0⟩, ⟨8, f + 1, o.c, f + 2, 0⟩, ⟨8, f + 1, f + 1, f + 2, 0⟩, ⟨5, o.a, f, f + 1, 0⟩] else none
set_option maxHeartbeats 4000000 in
theorem rests_by (k a b c d : Int) (i f : Nat) (hf : f ≤ 24) (w : World) : Calls Tryd.prog 25 #[.agg #[.int .i64 k, .int .i64 a, .int .i64 b, .int .i64 c, .int .i64 d], .int .i64 i, .int .i64 f] w (ByPost w (restsL ⟨k, a, b, c, d⟩ i f)) := by
  by_cases h7 : k = 7
  · subst h7
    have hr := Lib.hid (show restsL ⟨7, a, b, c, d⟩ i f = some [⟨6, f, b, c, 0⟩, ⟨5, f, f, c, 0⟩, ⟨4, f, b, f, 0⟩, ⟨1, f + 2, 0, 0, 0⟩, ⟨8, f + 1, c, f + 2, 0⟩, ⟨8, f + 1, f + 1, f + 2, 0⟩, ⟨5, a, f, f + 1, 0⟩] by simp [restsL])
    go_enter Tryd.func25, Tryd.ntmps25
    go_wp2_with fail
    have da : (w.alloc (.cells #[.int .i64 7, .int .i64 a, .int .i64 b, .int .i64 c, .int .i64 d] 28)).cell? ⟨w.heap.size, 1, none⟩ = some (.int .i64 a) := World.cell?_alloc_new w _ _ 1
    have db : (w.alloc (.cells #[.int .i64 7, .int .i64 a, .int .i64 b, .int .i64 c, .int .i64 d] 28)).cell? ⟨w.heap.size, 2, none⟩ = some (.int .i64 b) := World.cell?_alloc_new w _ _ 2
    have dc : (w.alloc (.cells #[.int .i64 7, .int .i64 a, .int .i64 b, .int .i64 c, .int .i64 d] 28)).cell? ⟨w.heap.size, 3, none⟩ = some (.int .i64 c) := World.cell?_alloc_new w _ _ 3
    go_region_held3 (fun w' => w'.cell? ⟨w.heap.size, 1, none⟩ = some (.int .i64 a) ∧ w'.cell? ⟨w.heap.size, 2, none⟩ = some (.int .i64 b) ∧ w'.cell? ⟨w.heap.size, 3, none⟩ = some (.int .i64 c))
      (refine ⟨?_, ?_, ?_⟩ <;> (repeat (with_reducible (first | assumption | refine cell_al ?_ _ | refine cell_dr ?_))))
      ((go_at_call 20
        refine (wI_calls _ _ _ _ _).mono ?_
        rintro e' w2 ⟨rfl, rfl⟩))
    clear da db dc
    go_wp2_with fail
    go_ret
    rw [hr.out]
    exact by_drew (by_some _ (by repeat (first | exact Kept.refl _ _ | refine Kept.alloc ?_ _)) _ _ (by decide) (by decide) (by simp) rfl)
  have hr := Lib.hid (show restsL ⟨k, a, b, c, d⟩ i f = none by simp only [restsL]; rw [if_neg h7])
  have h7' : (k != 7) = true := by simpa using h7
  clear h7
  go_enter Tryd.func25, Tryd.ntmps25
  go_wp2_with fail
  go_ret
  rw [hr.out]
  exact by_none ((Kept.refl NoB w).alloc _)
theorem rests_ok (w0 : World) (n : Nat) : ByOk w0 25 #[] 3 n restsL := by
  intro w ⟨k, a, b, c, d⟩ i f _ _ _ hf
  exact rests_by k a b c d i f (by omega) w
end Go.Proofs.YtmnfgigieafehaaDoor
