/- Walks of the functions that give the instructions in the place of one: Over, Twice. Conditions: the captured cells hold what is said. Printed by gen_by.py. -/
import Derived.Test.YtmnfgigieafehaaDoorByA
namespace Go.Proofs.YtmnfgigieafehaaDoor
open Go.RowKit
set_option maxRecDepth 100000

def overL (how : Int) (o : Op5) (i f : Nat) : Option (List Op5) :=
  if tgtOf o = none then (if pickI how 3 = 0 then some [⟨10, i + 3, 0, 0, 0⟩, ⟨16, f, 0, 0, 0⟩, ⟨17, 0, 0, 0, 0⟩, o]
    else if pickI how 3 = 1 then some [⟨1, f, 0, 0, 0⟩, ⟨11, f, 0, 0, 0⟩, o] else some [⟨1, f, 9, 0, 0⟩, ⟨5, f, f, f, 0⟩, o]) else none
set_option maxHeartbeats 2000000 in
theorem over_0 (g : Nat) (how k : Int) (a b c d : Int) (i f : Nat) (hi : i < 200) (hp : pickI how (3 : Nat) = 0) (w : World) (ht : tgtOff k = none) (hg : w.cell? ⟨g, 0, none⟩ = some (.int .i64 how)) : Calls Tryd.prog 27 #[.agg #[.int .i64 k, .int .i64 a, .int .i64 b, .int .i64 c, .int .i64 d], .int .i64 i, .int .i64 f, .pointer (some ⟨g, 0, none⟩)] w (ByPost w (some [⟨10, i + 3, 0, 0, 0⟩, ⟨16, f, 0, 0, 0⟩, ⟨17, 0, 0, 0, 0⟩, ⟨k, a, b, c, d⟩])) := by
  have lg := World.block_lt_of_cell? w _ hg
  dsimp only at lg
  have HP := Lib.hid hp
  have HT := Lib.hid ht
  clear hp ht
  go_enter Tryd.func27, Tryd.ntmps27
  go_wp2_with fail
  refine (target_calls w.heap.size 0 k _ (World.cell?_alloc_new w _ _ 0)).mono ?_
  rintro e' w' ⟨rfl, rfl⟩
  rw [HT.out]
  go_wp2_with fail
  refine (pick_calls how 3 (by decide) (by decide) _).mono ?_
  rintro e' w' ⟨rfl, rfl⟩
  rw [HP.out]
  go_wp2_with fail
  have hwr : IntKind.i64.wrap ((i : Int) + 3) = (i : Int) + 3 := IntWalk.i64_in _ (by omega)
  have dk : (w.alloc (.cells #[.int .i64 k, .int .i64 a, .int .i64 b, .int .i64 c, .int .i64 d] 28)).cell? ⟨w.heap.size, 0, none⟩ = some (.int .i64 k) := World.cell?_alloc_new w _ _ 0
  have da : (w.alloc (.cells #[.int .i64 k, .int .i64 a, .int .i64 b, .int .i64 c, .int .i64 d] 28)).cell? ⟨w.heap.size, 1, none⟩ = some (.int .i64 a) := World.cell?_alloc_new w _ _ 1
  have db : (w.alloc (.cells #[.int .i64 k, .int .i64 a, .int .i64 b, .int .i64 c, .int .i64 d] 28)).cell? ⟨w.heap.size, 2, none⟩ = some (.int .i64 b) := World.cell?_alloc_new w _ _ 2
  have dc : (w.alloc (.cells #[.int .i64 k, .int .i64 a, .int .i64 b, .int .i64 c, .int .i64 d] 28)).cell? ⟨w.heap.size, 3, none⟩ = some (.int .i64 c) := World.cell?_alloc_new w _ _ 3
  have dd : (w.alloc (.cells #[.int .i64 k, .int .i64 a, .int .i64 b, .int .i64 c, .int .i64 d] 28)).cell? ⟨w.heap.size, 4, none⟩ = some (.int .i64 d) := World.cell?_alloc_new w _ _ 4
  go_region_held3 (fun w' => w'.cell? ⟨w.heap.size, 0, none⟩ = some (.int .i64 k) ∧ w'.cell? ⟨w.heap.size, 1, none⟩ = some (.int .i64 a) ∧ w'.cell? ⟨w.heap.size, 2, none⟩ = some (.int .i64 b) ∧ w'.cell? ⟨w.heap.size, 3, none⟩ = some (.int .i64 c) ∧ w'.cell? ⟨w.heap.size, 4, none⟩ = some (.int .i64 d))
    (refine ⟨?_, ?_, ?_, ?_, ?_⟩ <;> (repeat (with_reducible (first | assumption | refine cell_al ?_ _ | refine cell_dr ?_))))
    ((go_at_call 20
      refine (wI_calls _ _ _ _ _).mono ?_
      rintro e' w2 ⟨rfl, rfl⟩))
  clear dk da db dc dd
  go_wp2_with fail
  go_ret
  exact by_drew (by_some _ (by repeat (first | exact Kept.refl _ _ | refine Kept.alloc ?_ _)) _ _ (by decide) (by decide) (by simp) rfl)
set_option maxHeartbeats 2000000 in
theorem over_1 (g : Nat) (how k : Int) (a b c d : Int) (i f : Nat) (hp : pickI how (3 : Nat) = 1) (w : World) (ht : tgtOff k = none) (hg : w.cell? ⟨g, 0, none⟩ = some (.int .i64 how)) : Calls Tryd.prog 27 #[.agg #[.int .i64 k, .int .i64 a, .int .i64 b, .int .i64 c, .int .i64 d], .int .i64 i, .int .i64 f, .pointer (some ⟨g, 0, none⟩)] w (ByPost w (some [⟨1, f, 0, 0, 0⟩, ⟨11, f, 0, 0, 0⟩, ⟨k, a, b, c, d⟩])) := by
  have lg := World.block_lt_of_cell? w _ hg
  dsimp only at lg
  have HP := Lib.hid hp
  have HT := Lib.hid ht
  clear hp ht
  go_enter Tryd.func27, Tryd.ntmps27
  go_wp2_with fail
  refine (target_calls w.heap.size 0 k _ (World.cell?_alloc_new w _ _ 0)).mono ?_
  rintro e' w' ⟨rfl, rfl⟩
  rw [HT.out]
  go_wp2_with fail
  refine (pick_calls how 3 (by decide) (by decide) _).mono ?_
  rintro e' w' ⟨rfl, rfl⟩
  rw [HP.out]
  go_wp2_with fail
  have dk : (w.alloc (.cells #[.int .i64 k, .int .i64 a, .int .i64 b, .int .i64 c, .int .i64 d] 28)).cell? ⟨w.heap.size, 0, none⟩ = some (.int .i64 k) := World.cell?_alloc_new w _ _ 0
  have da : (w.alloc (.cells #[.int .i64 k, .int .i64 a, .int .i64 b, .int .i64 c, .int .i64 d] 28)).cell? ⟨w.heap.size, 1, none⟩ = some (.int .i64 a) := World.cell?_alloc_new w _ _ 1
  have db : (w.alloc (.cells #[.int .i64 k, .int .i64 a, .int .i64 b, .int .i64 c, .int .i64 d] 28)).cell? ⟨w.heap.size, 2, none⟩ = some (.int .i64 b) := World.cell?_alloc_new w _ _ 2
  have dc : (w.alloc (.cells #[.int .i64 k, .int .i64 a, .int .i64 b, .int .i64 c, .int .i64 d] 28)).cell? ⟨w.heap.size, 3, none⟩ = some (.int .i64 c) := World.cell?_alloc_new w _ _ 3
  have dd : (w.alloc (.cells #[.int .i64 k, .int .i64 a, .int .i64 b, .int .i64 c, .int .i64 d] 28)).cell? ⟨w.heap.size, 4, none⟩ = some (.int .i64 d) := World.cell?_alloc_new w _ _ 4
  go_region_held3 (fun w' => w'.cell? ⟨w.heap.size, 0, none⟩ = some (.int .i64 k) ∧ w'.cell? ⟨w.heap.size, 1, none⟩ = some (.int .i64 a) ∧ w'.cell? ⟨w.heap.size, 2, none⟩ = some (.int .i64 b) ∧ w'.cell? ⟨w.heap.size, 3, none⟩ = some (.int .i64 c) ∧ w'.cell? ⟨w.heap.size, 4, none⟩ = some (.int .i64 d))
    (refine ⟨?_, ?_, ?_, ?_, ?_⟩ <;> (repeat (with_reducible (first | assumption | refine cell_al ?_ _ | refine cell_dr ?_))))
    ((go_at_call 20
      refine (wI_calls _ _ _ _ _).mono ?_
      rintro e' w2 ⟨rfl, rfl⟩))
  clear dk da db dc dd
  go_wp2_with fail
  go_ret
  exact by_drew (by_some _ (by repeat (first | exact Kept.refl _ _ | refine Kept.alloc ?_ _)) _ _ (by decide) (by decide) (by simp) rfl)
set_option maxHeartbeats 2000000 in
theorem over_2 (g : Nat) (how k : Int) (a b c d : Int) (i f : Nat) (hp : pickI how (3 : Nat) = 2) (w : World) (ht : tgtOff k = none) (hg : w.cell? ⟨g, 0, none⟩ = some (.int .i64 how)) : Calls Tryd.prog 27 #[.agg #[.int .i64 k, .int .i64 a, .int .i64 b, .int .i64 c, .int .i64 d], .int .i64 i, .int .i64 f, .pointer (some ⟨g, 0, none⟩)] w (ByPost w (some [⟨1, f, 9, 0, 0⟩, ⟨5, f, f, f, 0⟩, ⟨k, a, b, c, d⟩])) := by
  have lg := World.block_lt_of_cell? w _ hg
  dsimp only at lg
  have HP := Lib.hid hp
  have HT := Lib.hid ht
  clear hp ht
  go_enter Tryd.func27, Tryd.ntmps27
  go_wp2_with fail
  refine (target_calls w.heap.size 0 k _ (World.cell?_alloc_new w _ _ 0)).mono ?_
  rintro e' w' ⟨rfl, rfl⟩
  rw [HT.out]
  go_wp2_with fail
  refine (pick_calls how 3 (by decide) (by decide) _).mono ?_
  rintro e' w' ⟨rfl, rfl⟩
  rw [HP.out]
  go_wp2_with fail
  have dk : (w.alloc (.cells #[.int .i64 k, .int .i64 a, .int .i64 b, .int .i64 c, .int .i64 d] 28)).cell? ⟨w.heap.size, 0, none⟩ = some (.int .i64 k) := World.cell?_alloc_new w _ _ 0
  have da : (w.alloc (.cells #[.int .i64 k, .int .i64 a, .int .i64 b, .int .i64 c, .int .i64 d] 28)).cell? ⟨w.heap.size, 1, none⟩ = some (.int .i64 a) := World.cell?_alloc_new w _ _ 1
  have db : (w.alloc (.cells #[.int .i64 k, .int .i64 a, .int .i64 b, .int .i64 c, .int .i64 d] 28)).cell? ⟨w.heap.size, 2, none⟩ = some (.int .i64 b) := World.cell?_alloc_new w _ _ 2
  have dc : (w.alloc (.cells #[.int .i64 k, .int .i64 a, .int .i64 b, .int .i64 c, .int .i64 d] 28)).cell? ⟨w.heap.size, 3, none⟩ = some (.int .i64 c) := World.cell?_alloc_new w _ _ 3
  have dd : (w.alloc (.cells #[.int .i64 k, .int .i64 a, .int .i64 b, .int .i64 c, .int .i64 d] 28)).cell? ⟨w.heap.size, 4, none⟩ = some (.int .i64 d) := World.cell?_alloc_new w _ _ 4
  go_region_held3 (fun w' => w'.cell? ⟨w.heap.size, 0, none⟩ = some (.int .i64 k) ∧ w'.cell? ⟨w.heap.size, 1, none⟩ = some (.int .i64 a) ∧ w'.cell? ⟨w.heap.size, 2, none⟩ = some (.int .i64 b) ∧ w'.cell? ⟨w.heap.size, 3, none⟩ = some (.int .i64 c) ∧ w'.cell? ⟨w.heap.size, 4, none⟩ = some (.int .i64 d))
    (refine ⟨?_, ?_, ?_, ?_, ?_⟩ <;> (repeat (with_reducible (first | assumption | refine cell_al ?_ _ | refine cell_dr ?_))))
    ((go_at_call 20
      refine (wI_calls _ _ _ _ _).mono ?_
      rintro e' w2 ⟨rfl, rfl⟩))
  clear dk da db dc dd
  go_wp2_with fail
  go_ret
  exact by_drew (by_some _ (by repeat (first | exact Kept.refl _ _ | refine Kept.alloc ?_ _)) _ _ (by decide) (by decide) (by simp) rfl)
set_option maxHeartbeats 1000000 in
theorem over_none (g : Nat) (k : Int) (a b c d : Int) (i f : Nat) (j : Nat) (w : World) (ht : tgtOff k = some j) : Calls Tryd.prog 27 #[.agg #[.int .i64 k, .int .i64 a, .int .i64 b, .int .i64 c, .int .i64 d], .int .i64 i, .int .i64 f, .pointer (some ⟨g, 0, none⟩)] w (ByPost w (none)) := by
  have HT := Lib.hid ht
  clear ht
  go_enter Tryd.func27, Tryd.ntmps27
  go_wp2_with fail
  refine (target_calls w.heap.size 0 k _ (World.cell?_alloc_new w _ _ 0)).mono ?_
  rintro e' w' ⟨rfl, rfl⟩
  rw [HT.out]
  go_wp2_with fail
  go_ret
  exact by_none ((Kept.refl NoB w).alloc _)
theorem over_ok {w0 : World} {g : Nat} {how : Int} (hg : w0.cell? ⟨g, 0, none⟩ = some (.int .i64 how)) {n : Nat} (hn : n ≤ 200) : ByOk w0 27 #[.pointer (some ⟨g, 0, none⟩)] 1 n (overL how) := by
  intro w ⟨k, a, b, c, d⟩ i f hk _ hi _
  have h := hk.cell hg id
  unfold overL
  have hto := tgtOff_none ⟨k, a, b, c, d⟩
  cases ht : tgtOff k with
  | none =>
    rw [if_pos (hto.1 ht)]
    obtain ⟨h1, h2⟩ := pickI_in how 3 (by decide) (by decide)
    by_cases p0 : pickI how 3 = 0
    · rw [if_pos p0]; exact over_0 g how k a b c d i f (by omega) p0 w ht h
    · rw [if_neg p0]
      by_cases p1 : pickI how 3 = 1
      · rw [if_pos p1]; exact over_1 g how k a b c d i f p1 w ht h
      · rw [if_neg p1]; exact over_2 g how k a b c d i f (by have q0 : ¬ pickI how ((3 : Nat) : Int) = 0 := p0; have q1 : ¬ pickI how ((3 : Nat) : Int) = 1 := p1; omega) w ht h
  | some j =>
    rw [if_neg (fun h0 => by have := hto.2 h0; simp only at this; rw [ht] at this; cases this)]
    exact over_none g k a b c d i f j w ht

def twiceL (back : Bool) (o : Op5) (_ f : Nat) : Option (List Op5) :=
  if o.k = 14 then some [o, o] else if o.k = 13 then (if back then some [⟨13, f, o.b, o.c, 0⟩, ⟨14, f, o.b, o.c, 0⟩, o] else some [⟨13, f, o.b, o.c, 0⟩, o]) else none
set_option maxHeartbeats 1000000 in
theorem twice_14_true (g : Nat) (a b c d : Int) (i f : Nat)  (w : World) (hg : w.cell? ⟨g, 0, none⟩ = some (.bool true)) : Calls Tryd.prog 30 #[.agg #[.int .i64 14, .int .i64 a, .int .i64 b, .int .i64 c, .int .i64 d], .int .i64 i, .int .i64 f, .pointer (some ⟨g, 0, none⟩)] w (ByPost w (some [⟨14, a, b, c, d⟩, ⟨14, a, b, c, d⟩])) := by
  have lg := World.block_lt_of_cell? w _ hg
  dsimp only at lg
  have lg1 : g < w.heap.size + 1 := by omega
  have lg2 : g < w.heap.size + 1 + 1 := by omega
  go_enter Tryd.func30, Tryd.ntmps30
  go_wp2_with fail
  refine (wI_calls _ _ _ _ _).mono ?_
  rintro e' w2 ⟨rfl, rfl⟩
  go_wp2_with fail
  go_ret
  exact by_some _ (by repeat (first | exact Kept.refl _ _ | refine Kept.alloc ?_ _)) _ _ (by decide) (by decide) (by simp) rfl
set_option maxHeartbeats 1000000 in
theorem twice_14_false (g : Nat) (a b c d : Int) (i f : Nat)  (w : World) (hg : w.cell? ⟨g, 0, none⟩ = some (.bool false)) : Calls Tryd.prog 30 #[.agg #[.int .i64 14, .int .i64 a, .int .i64 b, .int .i64 c, .int .i64 d], .int .i64 i, .int .i64 f, .pointer (some ⟨g, 0, none⟩)] w (ByPost w (some [⟨14, a, b, c, d⟩, ⟨14, a, b, c, d⟩])) := by
  have lg := World.block_lt_of_cell? w _ hg
  dsimp only at lg
  have lg1 : g < w.heap.size + 1 := by omega
  have lg2 : g < w.heap.size + 1 + 1 := by omega
  go_enter Tryd.func30, Tryd.ntmps30
  go_wp2_with fail
  refine (wI_calls _ _ _ _ _).mono ?_
  rintro e' w2 ⟨rfl, rfl⟩
  go_wp2_with fail
  go_ret
  exact by_some _ (by repeat (first | exact Kept.refl _ _ | refine Kept.alloc ?_ _)) _ _ (by decide) (by decide) (by simp) rfl
set_option maxHeartbeats 1000000 in
theorem twice_13_false (g : Nat) (a b c d : Int) (i f : Nat)  (w : World) (hg : w.cell? ⟨g, 0, none⟩ = some (.bool false)) : Calls Tryd.prog 30 #[.agg #[.int .i64 13, .int .i64 a, .int .i64 b, .int .i64 c, .int .i64 d], .int .i64 i, .int .i64 f, .pointer (some ⟨g, 0, none⟩)] w (ByPost w (some [⟨13, f, b, c, 0⟩, ⟨13, a, b, c, d⟩])) := by
  have lg := World.block_lt_of_cell? w _ hg
  dsimp only at lg
  have lg1 : g < w.heap.size + 1 := by omega
  have lg2 : g < w.heap.size + 1 + 1 := by omega
  go_enter Tryd.func30, Tryd.ntmps30
  go_wp2_with fail
  refine (wI_calls _ _ _ _ _).mono ?_
  rintro e' w2 ⟨rfl, rfl⟩
  go_wp2_with fail
  go_ret
  exact by_some _ (by repeat (first | exact Kept.refl _ _ | refine Kept.alloc ?_ _)) _ _ (by decide) (by decide) (by simp) rfl
set_option maxHeartbeats 2000000 in
theorem twice_13_true (g : Nat) (a b c d : Int) (i f : Nat)  (w : World) (hg : w.cell? ⟨g, 0, none⟩ = some (.bool true)) : Calls Tryd.prog 30 #[.agg #[.int .i64 13, .int .i64 a, .int .i64 b, .int .i64 c, .int .i64 d], .int .i64 i, .int .i64 f, .pointer (some ⟨g, 0, none⟩)] w (ByPost w (some [⟨13, f, b, c, 0⟩, ⟨14, f, b, c, 0⟩, ⟨13, a, b, c, d⟩])) := by
  have lg := World.block_lt_of_cell? w _ hg
  dsimp only at lg
  have lg1 : g < w.heap.size + 1 := by omega
  have lg2 : g < w.heap.size + 1 + 1 := by omega
  go_enter Tryd.func30, Tryd.ntmps30
  go_wp2_with fail
  refine (wI_calls _ _ _ _ _).mono ?_
  rintro e' w2 ⟨rfl, rfl⟩
  go_wp2_with fail
  have dk : (((w.alloc (.cells #[.int .i64 13, .int .i64 a, .int .i64 b, .int .i64 c, .int .i64 d] 28)).alloc (.cells #[.int .i64 13, .int .i64 f, .int .i64 b, .int .i64 c, .int .i64 0] 28)).alloc (.cells #[.int .i64 13, .int .i64 f, .int .i64 b, .int .i64 c, .int .i64 0] 28)).cell? ⟨w.heap.size, 0, none⟩ = some (.int .i64 13) := cell_al (cell_al (World.cell?_alloc_new w _ _ 0) _) _
  have da : (((w.alloc (.cells #[.int .i64 13, .int .i64 a, .int .i64 b, .int .i64 c, .int .i64 d] 28)).alloc (.cells #[.int .i64 13, .int .i64 f, .int .i64 b, .int .i64 c, .int .i64 0] 28)).alloc (.cells #[.int .i64 13, .int .i64 f, .int .i64 b, .int .i64 c, .int .i64 0] 28)).cell? ⟨w.heap.size, 1, none⟩ = some (.int .i64 a) := cell_al (cell_al (World.cell?_alloc_new w _ _ 1) _) _
  have db : (((w.alloc (.cells #[.int .i64 13, .int .i64 a, .int .i64 b, .int .i64 c, .int .i64 d] 28)).alloc (.cells #[.int .i64 13, .int .i64 f, .int .i64 b, .int .i64 c, .int .i64 0] 28)).alloc (.cells #[.int .i64 13, .int .i64 f, .int .i64 b, .int .i64 c, .int .i64 0] 28)).cell? ⟨w.heap.size, 2, none⟩ = some (.int .i64 b) := cell_al (cell_al (World.cell?_alloc_new w _ _ 2) _) _
  have dc : (((w.alloc (.cells #[.int .i64 13, .int .i64 a, .int .i64 b, .int .i64 c, .int .i64 d] 28)).alloc (.cells #[.int .i64 13, .int .i64 f, .int .i64 b, .int .i64 c, .int .i64 0] 28)).alloc (.cells #[.int .i64 13, .int .i64 f, .int .i64 b, .int .i64 c, .int .i64 0] 28)).cell? ⟨w.heap.size, 3, none⟩ = some (.int .i64 c) := cell_al (cell_al (World.cell?_alloc_new w _ _ 3) _) _
  have dd : (((w.alloc (.cells #[.int .i64 13, .int .i64 a, .int .i64 b, .int .i64 c, .int .i64 d] 28)).alloc (.cells #[.int .i64 13, .int .i64 f, .int .i64 b, .int .i64 c, .int .i64 0] 28)).alloc (.cells #[.int .i64 13, .int .i64 f, .int .i64 b, .int .i64 c, .int .i64 0] 28)).cell? ⟨w.heap.size, 4, none⟩ = some (.int .i64 d) := cell_al (cell_al (World.cell?_alloc_new w _ _ 4) _) _
  have e0 : (((w.alloc (.cells #[.int .i64 13, .int .i64 a, .int .i64 b, .int .i64 c, .int .i64 d] 28)).alloc (.cells #[.int .i64 13, .int .i64 f, .int .i64 b, .int .i64 c, .int .i64 0] 28)).alloc (.cells #[.int .i64 13, .int .i64 f, .int .i64 b, .int .i64 c, .int .i64 0] 28)).cell? ⟨w.heap.size + 1 + 1, 0, none⟩ = some (.int .i64 13) := by have h := World.cell?_alloc_new ((w.alloc (.cells #[.int .i64 13, .int .i64 a, .int .i64 b, .int .i64 c, .int .i64 d] 28)).alloc (.cells #[.int .i64 13, .int .i64 f, .int .i64 b, .int .i64 c, .int .i64 0] 28)) #[.int .i64 13, .int .i64 f, .int .i64 b, .int .i64 c, .int .i64 0] 28 0; rw [World.size_alloc, World.size_alloc] at h; exact h
  have e1 : (((w.alloc (.cells #[.int .i64 13, .int .i64 a, .int .i64 b, .int .i64 c, .int .i64 d] 28)).alloc (.cells #[.int .i64 13, .int .i64 f, .int .i64 b, .int .i64 c, .int .i64 0] 28)).alloc (.cells #[.int .i64 13, .int .i64 f, .int .i64 b, .int .i64 c, .int .i64 0] 28)).cell? ⟨w.heap.size + 1 + 1, 1, none⟩ = some (.int .i64 f) := by have h := World.cell?_alloc_new ((w.alloc (.cells #[.int .i64 13, .int .i64 a, .int .i64 b, .int .i64 c, .int .i64 d] 28)).alloc (.cells #[.int .i64 13, .int .i64 f, .int .i64 b, .int .i64 c, .int .i64 0] 28)) #[.int .i64 13, .int .i64 f, .int .i64 b, .int .i64 c, .int .i64 0] 28 1; rw [World.size_alloc, World.size_alloc] at h; exact h
  have e2 : (((w.alloc (.cells #[.int .i64 13, .int .i64 a, .int .i64 b, .int .i64 c, .int .i64 d] 28)).alloc (.cells #[.int .i64 13, .int .i64 f, .int .i64 b, .int .i64 c, .int .i64 0] 28)).alloc (.cells #[.int .i64 13, .int .i64 f, .int .i64 b, .int .i64 c, .int .i64 0] 28)).cell? ⟨w.heap.size + 1 + 1, 2, none⟩ = some (.int .i64 b) := by have h := World.cell?_alloc_new ((w.alloc (.cells #[.int .i64 13, .int .i64 a, .int .i64 b, .int .i64 c, .int .i64 d] 28)).alloc (.cells #[.int .i64 13, .int .i64 f, .int .i64 b, .int .i64 c, .int .i64 0] 28)) #[.int .i64 13, .int .i64 f, .int .i64 b, .int .i64 c, .int .i64 0] 28 2; rw [World.size_alloc, World.size_alloc] at h; exact h
  have e3 : (((w.alloc (.cells #[.int .i64 13, .int .i64 a, .int .i64 b, .int .i64 c, .int .i64 d] 28)).alloc (.cells #[.int .i64 13, .int .i64 f, .int .i64 b, .int .i64 c, .int .i64 0] 28)).alloc (.cells #[.int .i64 13, .int .i64 f, .int .i64 b, .int .i64 c, .int .i64 0] 28)).cell? ⟨w.heap.size + 1 + 1, 3, none⟩ = some (.int .i64 c) := by have h := World.cell?_alloc_new ((w.alloc (.cells #[.int .i64 13, .int .i64 a, .int .i64 b, .int .i64 c, .int .i64 d] 28)).alloc (.cells #[.int .i64 13, .int .i64 f, .int .i64 b, .int .i64 c, .int .i64 0] 28)) #[.int .i64 13, .int .i64 f, .int .i64 b, .int .i64 c, .int .i64 0] 28 3; rw [World.size_alloc, World.size_alloc] at h; exact h
  have e4 : (((w.alloc (.cells #[.int .i64 13, .int .i64 a, .int .i64 b, .int .i64 c, .int .i64 d] 28)).alloc (.cells #[.int .i64 13, .int .i64 f, .int .i64 b, .int .i64 c, .int .i64 0] 28)).alloc (.cells #[.int .i64 13, .int .i64 f, .int .i64 b, .int .i64 c, .int .i64 0] 28)).cell? ⟨w.heap.size + 1 + 1, 4, none⟩ = some (.int .i64 0) := by have h := World.cell?_alloc_new ((w.alloc (.cells #[.int .i64 13, .int .i64 a, .int .i64 b, .int .i64 c, .int .i64 d] 28)).alloc (.cells #[.int .i64 13, .int .i64 f, .int .i64 b, .int .i64 c, .int .i64 0] 28)) #[.int .i64 13, .int .i64 f, .int .i64 b, .int .i64 c, .int .i64 0] 28 4; rw [World.size_alloc, World.size_alloc] at h; exact h
  go_region_held3 (fun w' => w'.cell? ⟨w.heap.size, 0, none⟩ = some (.int .i64 13) ∧ w'.cell? ⟨w.heap.size, 1, none⟩ = some (.int .i64 a) ∧ w'.cell? ⟨w.heap.size, 2, none⟩ = some (.int .i64 b) ∧ w'.cell? ⟨w.heap.size, 3, none⟩ = some (.int .i64 c) ∧ w'.cell? ⟨w.heap.size, 4, none⟩ = some (.int .i64 d) ∧ w'.cell? ⟨w.heap.size + 1 + 1, 0, none⟩ = some (.int .i64 13) ∧ w'.cell? ⟨w.heap.size + 1 + 1, 1, none⟩ = some (.int .i64 f) ∧ w'.cell? ⟨w.heap.size + 1 + 1, 2, none⟩ = some (.int .i64 b) ∧ w'.cell? ⟨w.heap.size + 1 + 1, 3, none⟩ = some (.int .i64 c) ∧ w'.cell? ⟨w.heap.size + 1 + 1, 4, none⟩ = some (.int .i64 0))
    (refine ⟨?_, ?_, ?_, ?_, ?_, ?_, ?_, ?_, ?_, ?_⟩ <;> (repeat (with_reducible (first | assumption | refine cell_al ?_ _ | refine cell_dr ?_))))
    ((go_at_call 20
      refine (wI_calls _ _ _ _ _).mono ?_
      rintro e' w2 ⟨rfl, rfl⟩))
  clear dk da db dc dd e0 e1 e2 e3 e4
  go_wp2_with fail
  go_ret
  exact by_drew (by_some _ (by repeat (first | exact Kept.refl _ _ | refine Kept.alloc ?_ _)) _ _ (by decide) (by decide) (by simp) rfl)
set_option maxHeartbeats 1000000 in
theorem twice_none (g : Nat) (back : Bool) (k : Int) (a b c d : Int) (i f : Nat) (h14 : (k == 14) = false) (h13 : (k == 13) = false) (w : World) (hg : w.cell? ⟨g, 0, none⟩ = some (.bool back)) : Calls Tryd.prog 30 #[.agg #[.int .i64 k, .int .i64 a, .int .i64 b, .int .i64 c, .int .i64 d], .int .i64 i, .int .i64 f, .pointer (some ⟨g, 0, none⟩)] w (ByPost w (none)) := by
  have lg := World.block_lt_of_cell? w _ hg
  dsimp only at lg
  have lg1 : g < w.heap.size + 1 := by omega
  have lg2 : g < w.heap.size + 1 + 1 := by omega
  go_enter Tryd.func30, Tryd.ntmps30
  go_wp2_with fail
  refine (wI_calls _ _ _ _ _).mono ?_
  rintro e' w2 ⟨rfl, rfl⟩
  go_wp2_with fail
  go_ret
  exact by_none (by repeat (first | exact Kept.refl _ _ | refine Kept.alloc ?_ _))
theorem twice_ok {w0 : World} {g : Nat} {back : Bool} (hg : w0.cell? ⟨g, 0, none⟩ = some (.bool back)) (n : Nat) : ByOk w0 30 #[.pointer (some ⟨g, 0, none⟩)] 1 n (twiceL back) := by
  intro w ⟨k, a, b, c, d⟩ i f hk _ _ _
  have h := hk.cell hg id
  unfold twiceL
  dsimp only
  by_cases h14 : k = 14
  · subst h14
    rw [if_pos rfl]
    cases back
    · exact twice_14_false g a b c d i f w h
    · exact twice_14_true g a b c d i f w h
  rw [if_neg h14]
  by_cases h13 : k = 13
  · subst h13
    rw [if_pos rfl]
    cases back
    · exact twice_13_false g a b c d i f w h
    · exact twice_13_true g a b c d i f w h
  · rw [if_neg h13]; exact twice_none g back k a b c d i f (by simpa using h14) (by simpa using h13) w h
end Go.Proofs.YtmnfgigieafehaaDoor
