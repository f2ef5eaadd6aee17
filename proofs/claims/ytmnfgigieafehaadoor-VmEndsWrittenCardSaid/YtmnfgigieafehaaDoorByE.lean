/- Walks of the functions that give the instructions in the place of one: Ways, Cas. Conditions: the captured cells hold what is said. Printed by gen_by.py. -/
import Derived.Test.YtmnfgigieafehaaDoorByA
namespace Go.Proofs.YtmnfgigieafehaaDoor
open Go.RowKit
set_option maxRecDepth 100000

def waysL (o : Op5) (i f : Nat) : Option (List Op5) :=
  if o.k = 11 ∨ o.k = 12 then (if o.b = i + 2 then none else some [⟨23 - o.k, o.a, i + 2, 0, 0⟩, ⟨10, o.b, 0, 0, 0⟩])
  else if o.k = 10 then some [⟨1, f, 3, 0, 0⟩, ⟨11, f, o.a, 0, 0⟩] else none
set_option maxHeartbeats 1000000 in
theorem ways_11 (a b c d : Int) (i f : Nat) (hi : i < 200) (hb : (b == (i : Int) + 2) = false) (w : World) : Calls Tryd.prog 26 #[.agg #[.int .i64 11, .int .i64 a, .int .i64 b, .int .i64 c, .int .i64 d], .int .i64 i, .int .i64 f] w (ByPost w (some [⟨12, a, i + 2, 0, 0⟩, ⟨10, b, 0, 0, 0⟩])) := by
  have hwr : IntKind.i64.wrap ((i : Int) + 2) = (i : Int) + 2 := IntWalk.i64_in _ (by omega)
  go_enter Tryd.func26, Tryd.ntmps26
  go_wp2_with fail
  have dk : (w.alloc (.cells #[.int .i64 11, .int .i64 a, .int .i64 b, .int .i64 c, .int .i64 d] 28)).cell? ⟨w.heap.size, 0, none⟩ = some (.int .i64 11) := World.cell?_alloc_new w _ _ 0
  have da : (w.alloc (.cells #[.int .i64 11, .int .i64 a, .int .i64 b, .int .i64 c, .int .i64 d] 28)).cell? ⟨w.heap.size, 1, none⟩ = some (.int .i64 a) := World.cell?_alloc_new w _ _ 1
  have db : (w.alloc (.cells #[.int .i64 11, .int .i64 a, .int .i64 b, .int .i64 c, .int .i64 d] 28)).cell? ⟨w.heap.size, 2, none⟩ = some (.int .i64 b) := World.cell?_alloc_new w _ _ 2
  go_region_held3 (fun w' => w'.cell? ⟨w.heap.size, 0, none⟩ = some (.int .i64 11) ∧ w'.cell? ⟨w.heap.size, 1, none⟩ = some (.int .i64 a) ∧ w'.cell? ⟨w.heap.size, 2, none⟩ = some (.int .i64 b))
    (refine ⟨?_, ?_, ?_⟩ <;> (repeat (with_reducible (first | assumption | refine cell_al ?_ _ | refine cell_dr ?_))))
    ((go_at_call 20
      refine (wI_calls _ _ _ _ _).mono ?_
      rintro e' w2 ⟨rfl, rfl⟩))
  clear dk da db
  go_wp2_with fail
  go_ret
  exact by_drew (by_some _ (by repeat (first | exact Kept.refl _ _ | refine Kept.alloc ?_ _)) _ _ (by decide) (by decide) (by simp) rfl)
set_option maxHeartbeats 1000000 in
theorem ways_11_own (a b c d : Int) (i f : Nat) (hi : i < 200) (hb : (b == (i : Int) + 2) = true) (w : World) : Calls Tryd.prog 26 #[.agg #[.int .i64 11, .int .i64 a, .int .i64 b, .int .i64 c, .int .i64 d], .int .i64 i, .int .i64 f] w (ByPost w (none)) := by
  go_enter Tryd.func26, Tryd.ntmps26
  go_wp2_with fail
  go_ret
  exact by_none ((Kept.refl NoB w).alloc _)
set_option maxHeartbeats 1000000 in
theorem ways_12 (a b c d : Int) (i f : Nat) (hi : i < 200) (hb : (b == (i : Int) + 2) = false) (w : World) : Calls Tryd.prog 26 #[.agg #[.int .i64 12, .int .i64 a, .int .i64 b, .int .i64 c, .int .i64 d], .int .i64 i, .int .i64 f] w (ByPost w (some [⟨11, a, i + 2, 0, 0⟩, ⟨10, b, 0, 0, 0⟩])) := by
  have hwr : IntKind.i64.wrap ((i : Int) + 2) = (i : Int) + 2 := IntWalk.i64_in _ (by omega)
  go_enter Tryd.func26, Tryd.ntmps26
  go_wp2_with fail
  have dk : (w.alloc (.cells #[.int .i64 12, .int .i64 a, .int .i64 b, .int .i64 c, .int .i64 d] 28)).cell? ⟨w.heap.size, 0, none⟩ = some (.int .i64 12) := World.cell?_alloc_new w _ _ 0
  have da : (w.alloc (.cells #[.int .i64 12, .int .i64 a, .int .i64 b, .int .i64 c, .int .i64 d] 28)).cell? ⟨w.heap.size, 1, none⟩ = some (.int .i64 a) := World.cell?_alloc_new w _ _ 1
  have db : (w.alloc (.cells #[.int .i64 12, .int .i64 a, .int .i64 b, .int .i64 c, .int .i64 d] 28)).cell? ⟨w.heap.size, 2, none⟩ = some (.int .i64 b) := World.cell?_alloc_new w _ _ 2
  go_region_held3 (fun w' => w'.cell? ⟨w.heap.size, 0, none⟩ = some (.int .i64 12) ∧ w'.cell? ⟨w.heap.size, 1, none⟩ = some (.int .i64 a) ∧ w'.cell? ⟨w.heap.size, 2, none⟩ = some (.int .i64 b))
    (refine ⟨?_, ?_, ?_⟩ <;> (repeat (with_reducible (first | assumption | refine cell_al ?_ _ | refine cell_dr ?_))))
    ((go_at_call 20
      refine (wI_calls _ _ _ _ _).mono ?_
      rintro e' w2 ⟨rfl, rfl⟩))
  clear dk da db
  go_wp2_with fail
  go_ret
  exact by_drew (by_some _ (by repeat (first | exact Kept.refl _ _ | refine Kept.alloc ?_ _)) _ _ (by decide) (by decide) (by simp) rfl)
set_option maxHeartbeats 1000000 in
theorem ways_12_own (a b c d : Int) (i f : Nat) (hi : i < 200) (hb : (b == (i : Int) + 2) = true) (w : World) : Calls Tryd.prog 26 #[.agg #[.int .i64 12, .int .i64 a, .int .i64 b, .int .i64 c, .int .i64 d], .int .i64 i, .int .i64 f] w (ByPost w (none)) := by
  go_enter Tryd.func26, Tryd.ntmps26
  go_wp2_with fail
  go_ret
  exact by_none ((Kept.refl NoB w).alloc _)
set_option maxHeartbeats 1000000 in
theorem ways_10 (a b c d : Int) (i f : Nat)  (w : World) : Calls Tryd.prog 26 #[.agg #[.int .i64 10, .int .i64 a, .int .i64 b, .int .i64 c, .int .i64 d], .int .i64 i, .int .i64 f] w (ByPost w (some [⟨1, f, 3, 0, 0⟩, ⟨11, f, a, 0, 0⟩])) := by
  go_enter Tryd.func26, Tryd.ntmps26
  go_wp2_with fail
  have da : (w.alloc (.cells #[.int .i64 10, .int .i64 a, .int .i64 b, .int .i64 c, .int .i64 d] 28)).cell? ⟨w.heap.size, 1, none⟩ = some (.int .i64 a) := World.cell?_alloc_new w _ _ 1
  go_region_held3 (fun w' => w'.cell? ⟨w.heap.size, 1, none⟩ = some (.int .i64 a))
    ((repeat (with_reducible (first | assumption | refine cell_al ?_ _ | refine cell_dr ?_))))
    ((go_at_call 20
      refine (wI_calls _ _ _ _ _).mono ?_
      rintro e' w2 ⟨rfl, rfl⟩))
  clear da
  go_wp2_with fail
  go_ret
  exact by_drew (by_some _ (by repeat (first | exact Kept.refl _ _ | refine Kept.alloc ?_ _)) _ _ (by decide) (by decide) (by simp) rfl)
set_option maxHeartbeats 1000000 in
theorem ways_none (k : Int) (a b c d : Int) (i f : Nat) (h11 : (k == 11) = false) (h12 : (k == 12) = false) (h10 : (k == 10) = false) (w : World) : Calls Tryd.prog 26 #[.agg #[.int .i64 k, .int .i64 a, .int .i64 b, .int .i64 c, .int .i64 d], .int .i64 i, .int .i64 f] w (ByPost w (none)) := by
  go_enter Tryd.func26, Tryd.ntmps26
  go_wp2_with fail
  go_ret
  exact by_none ((Kept.refl NoB w).alloc _)
theorem ways_ok (w0 : World) {n : Nat} (hn : n ≤ 200) (m : Nat) : ByOk w0 26 #[] m n waysL := by
  intro w ⟨k, a, b, c, d⟩ i f _ _ hi _
  unfold waysL
  dsimp only
  by_cases h11 : k = 11
  · subst h11
    rw [if_pos (.inl rfl)]
    by_cases hb : b = i + 2
    · rw [if_pos hb]; exact ways_11_own a b c d i f (by omega) (by simpa using hb) w
    · rw [if_neg hb]; exact ways_11 a b c d i f (by omega) (by simpa using hb) w
  by_cases h12 : k = 12
  · subst h12
    rw [if_pos (.inr rfl)]
    by_cases hb : b = i + 2
    · rw [if_pos hb]; exact ways_12_own a b c d i f (by omega) (by simpa using hb) w
    · rw [if_neg hb]; exact ways_12 a b c d i f (by omega) (by simpa using hb) w
  rw [if_neg (by omega)]
  by_cases h10 : k = 10
  · subst h10
    rw [if_pos rfl]; exact ways_10 a b c d i f w
  · rw [if_neg h10]; exact ways_none k a b c d i f (by simpa using h11) (by simpa using h12) (by simpa using h10) w

def casL (o : Op5) (i f : Nat) : Option (List Op5) :=
  if o.k = 15 then some [⟨13, f, o.b, o.c, 0⟩, ⟨8, f + 1, f, o.d, 0⟩, ⟨12, f + 1, i + 4, 0, 0⟩, ⟨14, o.a, o.b, o.c, 0⟩, ⟨2, o.a, f + 1, 0, 0⟩] else none
set_option maxHeartbeats 4000000 in
theorem cas_15 (a b c d : Int) (i f : Nat) (hf : f ≤ 24) (hi : i < 200) (w : World) : Calls Tryd.prog 31 #[.agg #[.int .i64 15, .int .i64 a, .int .i64 b, .int .i64 c, .int .i64 d], .int .i64 i, .int .i64 f] w (ByPost w (some [⟨13, f, b, c, 0⟩, ⟨8, f + 1, f, d, 0⟩, ⟨12, f + 1, i + 4, 0, 0⟩, ⟨14, a, b, c, 0⟩, ⟨2, a, f + 1, 0, 0⟩])) := by
  have hwr : IntKind.i64.wrap ((f : Int) + 1) = (f : Int) + 1 := IntWalk.i64_in _ (by omega)
  have hwr4 : IntKind.i64.wrap ((i : Int) + 4) = (i : Int) + 4 := IntWalk.i64_in _ (by omega)
  go_enter Tryd.func31, Tryd.ntmps31
  go_wp2_with fail
  have da : (w.alloc (.cells #[.int .i64 15, .int .i64 a, .int .i64 b, .int .i64 c, .int .i64 d] 28)).cell? ⟨w.heap.size, 1, none⟩ = some (.int .i64 a) := World.cell?_alloc_new w _ _ 1
  have db : (w.alloc (.cells #[.int .i64 15, .int .i64 a, .int .i64 b, .int .i64 c, .int .i64 d] 28)).cell? ⟨w.heap.size, 2, none⟩ = some (.int .i64 b) := World.cell?_alloc_new w _ _ 2
  have dc : (w.alloc (.cells #[.int .i64 15, .int .i64 a, .int .i64 b, .int .i64 c, .int .i64 d] 28)).cell? ⟨w.heap.size, 3, none⟩ = some (.int .i64 c) := World.cell?_alloc_new w _ _ 3
  have dd : (w.alloc (.cells #[.int .i64 15, .int .i64 a, .int .i64 b, .int .i64 c, .int .i64 d] 28)).cell? ⟨w.heap.size, 4, none⟩ = some (.int .i64 d) := World.cell?_alloc_new w _ _ 4
  go_region_held3 (fun w' => w'.cell? ⟨w.heap.size, 1, none⟩ = some (.int .i64 a) ∧ w'.cell? ⟨w.heap.size, 2, none⟩ = some (.int .i64 b) ∧ w'.cell? ⟨w.heap.size, 3, none⟩ = some (.int .i64 c) ∧ w'.cell? ⟨w.heap.size, 4, none⟩ = some (.int .i64 d))
    (refine ⟨?_, ?_, ?_, ?_⟩ <;> (repeat (with_reducible (first | assumption | refine cell_al ?_ _ | refine cell_dr ?_))))
    ((go_at_call 20
      refine (wI_calls _ _ _ _ _).mono ?_
      rintro e' w2 ⟨rfl, rfl⟩))
  clear da db dc dd
  go_wp2_with fail
  go_ret
  exact by_drew (by_some _ (by repeat (first | exact Kept.refl _ _ | refine Kept.alloc ?_ _)) _ _ (by decide) (by decide) (by simp) rfl)
set_option maxHeartbeats 1000000 in
theorem cas_none (k : Int) (a b c d : Int) (i f : Nat) (h15 : (k != 15) = true) (w : World) : Calls Tryd.prog 31 #[.agg #[.int .i64 k, .int .i64 a, .int .i64 b, .int .i64 c, .int .i64 d], .int .i64 i, .int .i64 f] w (ByPost w (none)) := by
  go_enter Tryd.func31, Tryd.ntmps31
  go_wp2_with fail
  go_ret
  exact by_none ((Kept.refl NoB w).alloc _)
theorem cas_ok (w0 : World) {n : Nat} (hn : n ≤ 200) : ByOk w0 31 #[] 2 n casL := by
  intro w ⟨k, a, b, c, d⟩ i f _ _ hi hf
  unfold casL
  dsimp only
  by_cases h15 : k = 15
  · subst h15
    rw [if_pos rfl]; exact cas_15 a b c d i f (by omega) (by omega) w
  · rw [if_neg h15]; exact cas_none k a b c d i f (by simpa using h15) w
end Go.Proofs.YtmnfgigieafehaaDoor
