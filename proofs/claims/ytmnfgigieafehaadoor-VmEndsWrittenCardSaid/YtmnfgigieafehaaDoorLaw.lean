/- The walks of the twelve law functions: each answers true, by the plain law of its change. Conditions: the slices' cells hold what is said; package vm's table. Printed by gen_law.py. -/
import Derived.Test.YtmnfgigieafehaaDoorByB
import Derived.Test.YtmnfgigieafehaaDoorByC
import Derived.Test.YtmnfgigieafehaaDoorByD
import Derived.Test.YtmnfgigieafehaaDoorByE
import Derived.Test.YtmnfgigieafehaaDoorByF
import Derived.Test.YtmnfgigieafehaaDoorByG
namespace Go.Proofs.YtmnfgigieafehaaDoor
open Go.RowKit
set_option maxRecDepth 100000

theorem call17 (a : Array Value) (w : World) : (callFunc 17 a).run Tryd.prog w = .ok (.enter 17 a) w := by kernel_rfl
set_option maxHeartbeats 1000000 in
theorem sides_law {w : World} {cv av sv : Value} {C A D : Nat} {l : List Op5} {args ws : List Int} (which : Int) (hc : OpsAt w cv C l) (ha : IntsAt w av A args) (hs : IntsAt w sv D ws) (hsh : Shapes w)
    (hb1 : l.length * 40 ≤ 140737488351232) (hb2 : args.length * 8 ≤ 140737488351232) (hb3 : ws.length * 8 ≤ 140737488351232) (hlaw : WLaw l args ws (swapL args.length which 0 sidesL l)) :
    Calls Tryd.prog 3 #[cv, av, sv, .int .i64 which] w fun e w' => e = .returned (.bool true) ∧ Kept NoB w w' := by
  obtain ⟨aa, ac, rfl, _⟩ := ha.val
  have Hhc := Lib.hid hc
  have Hha := Lib.hid ha
  have Hhs := Lib.hid hs
  have Hhsh := Lib.hid hsh
  have Hhlaw := Lib.hid hlaw
  clear hc ha hs hsh hlaw
  obtain ⟨na, hn⟩ : ∃ n, n = args.length := ⟨_, rfl⟩
  rw [← hn]
  have Hn := Lib.hid hn
  clear hn
  go_enter Tryd.func3, Tryd.ntmps3
  go_wp2_with fail
  refine (wSwap_calls aa na ac which 0 17 #[] w).mono ?_
  rintro e' w1 ⟨rfl, x1, x2, x3, x4, k1⟩
  have K1 : Hid (Kept NoB w w1) := (Kept.refl NoB w).trans k1
  have HC : Hid (okCode l = true → args.length ≤ 8 → ChangeOk w1 41 _ (swapL args.length which 0 sidesL) l) := fun hok h8 => swap_change hok h8 (by decide) (by rw [← Hn.out]; exact x1) x2 x3 x4 (sides_ok w1 0 _) call17
  clear x1 x2 x3 x4 k1
  go_wp2_with fail
  refine (runs_calls (Hhc.out.kept K1.out (fun _ h => h)) (by rw [Hn.out]; exact Hha.out.kept K1.out (fun _ h => h)) (Hhs.out.kept K1.out (fun _ h => h)) (Hhsh.out.kept K1.out id) hb1 hb2 hb3 HC.out Hhlaw.out call41).mono ?_
  rintro e' w2 ⟨rfl, k2⟩
  have K2 := Lib.hid k2
  clear k2
  go_wp2_with fail
  go_ret
  exact ⟨rfl, K1.out.trans K2.out⟩
theorem call18 (a : Array Value) (w : World) : (callFunc 18 a).run Tryd.prog w = .ok (.enter 18 a) w := by kernel_rfl
set_option maxHeartbeats 1000000 in
theorem moves_law {w : World} {cv av sv : Value} {C A D : Nat} {l : List Op5} {args ws : List Int} (which : Int) (added : Bool) (hc : OpsAt w cv C l) (ha : IntsAt w av A args) (hs : IntsAt w sv D ws) (hsh : Shapes w)
    (hb1 : l.length * 40 ≤ 140737488351232) (hb2 : args.length * 8 ≤ 140737488351232) (hb3 : ws.length * 8 ≤ 140737488351232) (hlaw : WLaw l args ws (swapL args.length which 2 (movesL added) l)) :
    Calls Tryd.prog 4 #[cv, av, sv, .int .i64 which, .bool added] w fun e w' => e = .returned (.bool true) ∧ Kept NoB w w' := by
  obtain ⟨aa, ac, rfl, _⟩ := ha.val
  have Hhc := Lib.hid hc
  have Hha := Lib.hid ha
  have Hhs := Lib.hid hs
  have Hhsh := Lib.hid hsh
  have Hhlaw := Lib.hid hlaw
  clear hc ha hs hsh hlaw
  obtain ⟨na, hn⟩ : ∃ n, n = args.length := ⟨_, rfl⟩
  rw [← hn]
  have Hn := Lib.hid hn
  clear hn
  go_enter Tryd.func4, Tryd.ntmps4
  go_wp2_with fail
  have b0 : (w.alloc (.cells #[.bool added] 4)).cell? ⟨w.heap.size, 0, none⟩ = some (.bool added) := World.cell?_alloc_new w _ _ 0
  refine (wSwap_calls aa na ac which 2 18 #[.pointer (some ⟨w.heap.size, 0, none⟩)] (w.alloc (.cells #[.bool added] 4))).mono ?_
  rintro e' w1 ⟨rfl, x1, x2, x3, x4, k1⟩
  have y0 := k1.cell b0 id
  have K1 : Hid (Kept NoB w w1) := (Kept.alloc1 w _).trans k1
  simp only [World.size_alloc] at x1 x2 x3 x4
  have HC : Hid (okCode l = true → args.length ≤ 8 → ChangeOk w1 41 _ (swapL args.length which 2 (movesL added)) l) := fun hok h8 => swap_change hok h8 (by decide) (by rw [← Hn.out]; exact x1) x2 x3 x4 (moves_ok y0 _) call18
  clear x1 x2 x3 x4 k1 y0 b0
  go_wp2_with fail
  refine (runs_calls (Hhc.out.kept K1.out (fun _ h => h)) (by rw [Hn.out]; exact Hha.out.kept K1.out (fun _ h => h)) (Hhs.out.kept K1.out (fun _ h => h)) (Hhsh.out.kept K1.out id) hb1 hb2 hb3 HC.out Hhlaw.out call41).mono ?_
  rintro e' w2 ⟨rfl, k2⟩
  have K2 := Lib.hid k2
  clear k2
  go_wp2_with fail
  go_ret
  exact ⟨rfl, K1.out.trans K2.out⟩
theorem call21 (a : Array Value) (w : World) : (callFunc 21 a).run Tryd.prog w = .ok (.enter 21 a) w := by kernel_rfl
set_option maxHeartbeats 1000000 in
theorem parts_law {w : World} {cv av sv : Value} {C A D : Nat} {l : List Op5} {args ws : List Int} (which : Int) (second : Bool) (hc : OpsAt w cv C l) (ha : IntsAt w av A args) (hs : IntsAt w sv D ws) (hsh : Shapes w)
    (hb1 : l.length * 40 ≤ 140737488351232) (hb2 : args.length * 8 ≤ 140737488351232) (hb3 : ws.length * 8 ≤ 140737488351232) (hlaw : WLaw l args ws (swapL args.length which 1 (partsL second) l)) :
    Calls Tryd.prog 5 #[cv, av, sv, .int .i64 which, .bool second] w fun e w' => e = .returned (.bool true) ∧ Kept NoB w w' := by
  obtain ⟨aa, ac, rfl, _⟩ := ha.val
  have Hhc := Lib.hid hc
  have Hha := Lib.hid ha
  have Hhs := Lib.hid hs
  have Hhsh := Lib.hid hsh
  have Hhlaw := Lib.hid hlaw
  clear hc ha hs hsh hlaw
  obtain ⟨na, hn⟩ : ∃ n, n = args.length := ⟨_, rfl⟩
  rw [← hn]
  have Hn := Lib.hid hn
  clear hn
  go_enter Tryd.func5, Tryd.ntmps5
  go_wp2_with fail
  have b0 : (w.alloc (.cells #[.bool second] 4)).cell? ⟨w.heap.size, 0, none⟩ = some (.bool second) := World.cell?_alloc_new w _ _ 0
  refine (wSwap_calls aa na ac which 1 21 #[.pointer (some ⟨w.heap.size, 0, none⟩)] (w.alloc (.cells #[.bool second] 4))).mono ?_
  rintro e' w1 ⟨rfl, x1, x2, x3, x4, k1⟩
  have y0 := k1.cell b0 id
  have K1 : Hid (Kept NoB w w1) := (Kept.alloc1 w _).trans k1
  simp only [World.size_alloc] at x1 x2 x3 x4
  have HC : Hid (okCode l = true → args.length ≤ 8 → ChangeOk w1 41 _ (swapL args.length which 1 (partsL second)) l) := fun hok h8 => swap_change hok h8 (by decide) (by rw [← Hn.out]; exact x1) x2 x3 x4 (parts_ok y0 _) call21
  clear x1 x2 x3 x4 k1 y0 b0
  go_wp2_with fail
  refine (runs_calls (Hhc.out.kept K1.out (fun _ h => h)) (by rw [Hn.out]; exact Hha.out.kept K1.out (fun _ h => h)) (Hhs.out.kept K1.out (fun _ h => h)) (Hhsh.out.kept K1.out id) hb1 hb2 hb3 HC.out Hhlaw.out call41).mono ?_
  rintro e' w2 ⟨rfl, k2⟩
  have K2 := Lib.hid k2
  clear k2
  go_wp2_with fail
  go_ret
  exact ⟨rfl, K1.out.trans K2.out⟩
theorem call22 (a : Array Value) (w : World) : (callFunc 22 a).run Tryd.prog w = .ok (.enter 22 a) w := by kernel_rfl
set_option maxHeartbeats 1000000 in
theorem sums_law {w : World} {cv av sv : Value} {C A D : Nat} {l : List Op5} {args ws : List Int} (which : Int) (less : Bool) (hc : OpsAt w cv C l) (ha : IntsAt w av A args) (hs : IntsAt w sv D ws) (hsh : Shapes w)
    (hb1 : l.length * 40 ≤ 140737488351232) (hb2 : args.length * 8 ≤ 140737488351232) (hb3 : ws.length * 8 ≤ 140737488351232) (hlaw : WLaw l args ws (swapL args.length which 2 (sumsL less) l)) :
    Calls Tryd.prog 6 #[cv, av, sv, .int .i64 which, .bool less] w fun e w' => e = .returned (.bool true) ∧ Kept NoB w w' := by
  obtain ⟨aa, ac, rfl, _⟩ := ha.val
  have Hhc := Lib.hid hc
  have Hha := Lib.hid ha
  have Hhs := Lib.hid hs
  have Hhsh := Lib.hid hsh
  have Hhlaw := Lib.hid hlaw
  clear hc ha hs hsh hlaw
  obtain ⟨na, hn⟩ : ∃ n, n = args.length := ⟨_, rfl⟩
  rw [← hn]
  have Hn := Lib.hid hn
  clear hn
  go_enter Tryd.func6, Tryd.ntmps6
  go_wp2_with fail
  have b0 : (w.alloc (.cells #[.bool less] 4)).cell? ⟨w.heap.size, 0, none⟩ = some (.bool less) := World.cell?_alloc_new w _ _ 0
  refine (wSwap_calls aa na ac which 2 22 #[.pointer (some ⟨w.heap.size, 0, none⟩)] (w.alloc (.cells #[.bool less] 4))).mono ?_
  rintro e' w1 ⟨rfl, x1, x2, x3, x4, k1⟩
  have y0 := k1.cell b0 id
  have K1 : Hid (Kept NoB w w1) := (Kept.alloc1 w _).trans k1
  simp only [World.size_alloc] at x1 x2 x3 x4
  have HC : Hid (okCode l = true → args.length ≤ 8 → ChangeOk w1 41 _ (swapL args.length which 2 (sumsL less)) l) := fun hok h8 => swap_change hok h8 (by decide) (by rw [← Hn.out]; exact x1) x2 x3 x4 (sums_ok y0 _) call22
  clear x1 x2 x3 x4 k1 y0 b0
  go_wp2_with fail
  refine (runs_calls (Hhc.out.kept K1.out (fun _ h => h)) (by rw [Hn.out]; exact Hha.out.kept K1.out (fun _ h => h)) (Hhs.out.kept K1.out (fun _ h => h)) (Hhsh.out.kept K1.out id) hb1 hb2 hb3 HC.out Hhlaw.out call41).mono ?_
  rintro e' w2 ⟨rfl, k2⟩
  have K2 := Lib.hid k2
  clear k2
  go_wp2_with fail
  go_ret
  exact ⟨rfl, K1.out.trans K2.out⟩
theorem call23 (a : Array Value) (w : World) : (callFunc 23 a).run Tryd.prog w = .ok (.enter 23 a) w := by kernel_rfl
set_option maxHeartbeats 1000000 in
theorem sets_law {w : World} {cv av sv : Value} {C A D : Nat} {l : List Op5} {args ws : List Int} (which : Int) (by' : Int) (less : Bool) (hc : OpsAt w cv C l) (ha : IntsAt w av A args) (hs : IntsAt w sv D ws) (hsh : Shapes w)
    (hb1 : l.length * 40 ≤ 140737488351232) (hb2 : args.length * 8 ≤ 140737488351232) (hb3 : ws.length * 8 ≤ 140737488351232) (hlaw : WLaw l args ws (swapL args.length which 2 (setsL by' less) l)) :
    Calls Tryd.prog 7 #[cv, av, sv, .int .i64 which, .int .i64 by', .bool less] w fun e w' => e = .returned (.bool true) ∧ Kept NoB w w' := by
  obtain ⟨aa, ac, rfl, _⟩ := ha.val
  have Hhc := Lib.hid hc
  have Hha := Lib.hid ha
  have Hhs := Lib.hid hs
  have Hhsh := Lib.hid hsh
  have Hhlaw := Lib.hid hlaw
  clear hc ha hs hsh hlaw
  obtain ⟨na, hn⟩ : ∃ n, n = args.length := ⟨_, rfl⟩
  rw [← hn]
  have Hn := Lib.hid hn
  clear hn
  go_enter Tryd.func7, Tryd.ntmps7
  go_wp2_with fail
  have b0 : ((w.alloc (.cells #[.int .i64 by'] 3)).alloc (.cells #[.bool less] 4)).cell? ⟨w.heap.size, 0, none⟩ = some (.int .i64 by') := cell_al (World.cell?_alloc_new w _ _ 0) _
  have b1 : ((w.alloc (.cells #[.int .i64 by'] 3)).alloc (.cells #[.bool less] 4)).cell? ⟨w.heap.size + 1, 0, none⟩ = some (.bool less) := by have h := World.cell?_alloc_new (w.alloc (.cells #[.int .i64 by'] 3)) #[.bool less] 4 0; rw [World.size_alloc] at h; exact h
  refine (wSwap_calls aa na ac which 2 23 #[.pointer (some ⟨w.heap.size + 1, 0, none⟩), .pointer (some ⟨w.heap.size, 0, none⟩)] ((w.alloc (.cells #[.int .i64 by'] 3)).alloc (.cells #[.bool less] 4))).mono ?_
  rintro e' w1 ⟨rfl, x1, x2, x3, x4, k1⟩
  have y0 := k1.cell b0 id
  have y1 := k1.cell b1 id
  have K1 : Hid (Kept NoB w w1) := ((Kept.alloc1 w _).alloc _).trans k1
  simp only [World.size_alloc] at x1 x2 x3 x4
  have HC : Hid (okCode l = true → args.length ≤ 8 → ChangeOk w1 41 _ (swapL args.length which 2 (setsL by' less)) l) := fun hok h8 => swap_change hok h8 (by decide) (by rw [← Hn.out]; exact x1) x2 x3 x4 (sets_ok y1 y0 _) call23
  clear x1 x2 x3 x4 k1 y0 y1 b0 b1
  go_wp2_with fail
  refine (runs_calls (Hhc.out.kept K1.out (fun _ h => h)) (by rw [Hn.out]; exact Hha.out.kept K1.out (fun _ h => h)) (Hhs.out.kept K1.out (fun _ h => h)) (Hhsh.out.kept K1.out id) hb1 hb2 hb3 HC.out Hhlaw.out call41).mono ?_
  rintro e' w2 ⟨rfl, k2⟩
  have K2 := Lib.hid k2
  clear k2
  go_wp2_with fail
  go_ret
  exact ⟨rfl, K1.out.trans K2.out⟩
theorem call24 (a : Array Value) (w : World) : (callFunc 24 a).run Tryd.prog w = .ok (.enter 24 a) w := by kernel_rfl
set_option maxHeartbeats 1000000 in
theorem tests_law {w : World} {cv av sv : Value} {C A D : Nat} {l : List Op5} {args ws : List Int} (which : Int) (hc : OpsAt w cv C l) (ha : IntsAt w av A args) (hs : IntsAt w sv D ws) (hsh : Shapes w)
    (hb1 : l.length * 40 ≤ 140737488351232) (hb2 : args.length * 8 ≤ 140737488351232) (hb3 : ws.length * 8 ≤ 140737488351232) (hlaw : WLaw l args ws (swapL args.length which 2 testsL l)) :
    Calls Tryd.prog 8 #[cv, av, sv, .int .i64 which] w fun e w' => e = .returned (.bool true) ∧ Kept NoB w w' := by
  obtain ⟨aa, ac, rfl, _⟩ := ha.val
  have Hhc := Lib.hid hc
  have Hha := Lib.hid ha
  have Hhs := Lib.hid hs
  have Hhsh := Lib.hid hsh
  have Hhlaw := Lib.hid hlaw
  clear hc ha hs hsh hlaw
  obtain ⟨na, hn⟩ : ∃ n, n = args.length := ⟨_, rfl⟩
  rw [← hn]
  have Hn := Lib.hid hn
  clear hn
  go_enter Tryd.func8, Tryd.ntmps8
  go_wp2_with fail
  refine (wSwap_calls aa na ac which 2 24 #[] w).mono ?_
  rintro e' w1 ⟨rfl, x1, x2, x3, x4, k1⟩
  have K1 : Hid (Kept NoB w w1) := (Kept.refl NoB w).trans k1
  have HC : Hid (okCode l = true → args.length ≤ 8 → ChangeOk w1 41 _ (swapL args.length which 2 testsL) l) := fun hok h8 => swap_change hok h8 (by decide) (by rw [← Hn.out]; exact x1) x2 x3 x4 (tests_ok w1 _) call24
  clear x1 x2 x3 x4 k1
  go_wp2_with fail
  refine (runs_calls (Hhc.out.kept K1.out (fun _ h => h)) (by rw [Hn.out]; exact Hha.out.kept K1.out (fun _ h => h)) (Hhs.out.kept K1.out (fun _ h => h)) (Hhsh.out.kept K1.out id) hb1 hb2 hb3 HC.out Hhlaw.out call41).mono ?_
  rintro e' w2 ⟨rfl, k2⟩
  have K2 := Lib.hid k2
  clear k2
  go_wp2_with fail
  go_ret
  exact ⟨rfl, K1.out.trans K2.out⟩
theorem call25 (a : Array Value) (w : World) : (callFunc 25 a).run Tryd.prog w = .ok (.enter 25 a) w := by kernel_rfl
set_option maxHeartbeats 1000000 in
theorem rests_law {w : World} {cv av sv : Value} {C A D : Nat} {l : List Op5} {args ws : List Int} (which : Int) (hc : OpsAt w cv C l) (ha : IntsAt w av A args) (hs : IntsAt w sv D ws) (hsh : Shapes w)
    (hb1 : l.length * 40 ≤ 140737488351232) (hb2 : args.length * 8 ≤ 140737488351232) (hb3 : ws.length * 8 ≤ 140737488351232) (hlaw : WLaw l args ws (swapL args.length which 3 restsL l)) :
    Calls Tryd.prog 9 #[cv, av, sv, .int .i64 which] w fun e w' => e = .returned (.bool true) ∧ Kept NoB w w' := by
  obtain ⟨aa, ac, rfl, _⟩ := ha.val
  have Hhc := Lib.hid hc
  have Hha := Lib.hid ha
  have Hhs := Lib.hid hs
  have Hhsh := Lib.hid hsh
  have Hhlaw := Lib.hid hlaw
  clear hc ha hs hsh hlaw
  obtain ⟨na, hn⟩ : ∃ n, n = args.length := ⟨_, rfl⟩
  rw [← hn]
  have Hn := Lib.hid hn
  clear hn
  go_enter Tryd.func9, Tryd.ntmps9
  go_wp2_with fail
  refine (wSwap_calls aa na ac which 3 25 #[] w).mono ?_
  rintro e' w1 ⟨rfl, x1, x2, x3, x4, k1⟩
  have K1 : Hid (Kept NoB w w1) := (Kept.refl NoB w).trans k1
  have HC : Hid (okCode l = true → args.length ≤ 8 → ChangeOk w1 41 _ (swapL args.length which 3 restsL) l) := fun hok h8 => swap_change hok h8 (by decide) (by rw [← Hn.out]; exact x1) x2 x3 x4 (rests_ok w1 _) call25
  clear x1 x2 x3 x4 k1
  go_wp2_with fail
  refine (runs_calls (Hhc.out.kept K1.out (fun _ h => h)) (by rw [Hn.out]; exact Hha.out.kept K1.out (fun _ h => h)) (Hhs.out.kept K1.out (fun _ h => h)) (Hhsh.out.kept K1.out id) hb1 hb2 hb3 HC.out Hhlaw.out call41).mono ?_
  rintro e' w2 ⟨rfl, k2⟩
  have K2 := Lib.hid k2
  clear k2
  go_wp2_with fail
  go_ret
  exact ⟨rfl, K1.out.trans K2.out⟩
theorem call26 (a : Array Value) (w : World) : (callFunc 26 a).run Tryd.prog w = .ok (.enter 26 a) w := by kernel_rfl
set_option maxHeartbeats 1000000 in
theorem ways_law {w : World} {cv av sv : Value} {C A D : Nat} {l : List Op5} {args ws : List Int} (which : Int) (hc : OpsAt w cv C l) (ha : IntsAt w av A args) (hs : IntsAt w sv D ws) (hsh : Shapes w)
    (hb1 : l.length * 40 ≤ 140737488351232) (hb2 : args.length * 8 ≤ 140737488351232) (hb3 : ws.length * 8 ≤ 140737488351232) (hlaw : WLaw l args ws (swapL args.length which 1 waysL l)) :
    Calls Tryd.prog 10 #[cv, av, sv, .int .i64 which] w fun e w' => e = .returned (.bool true) ∧ Kept NoB w w' := by
  obtain ⟨aa, ac, rfl, _⟩ := ha.val
  have Hhc := Lib.hid hc
  have Hha := Lib.hid ha
  have Hhs := Lib.hid hs
  have Hhsh := Lib.hid hsh
  have Hhlaw := Lib.hid hlaw
  clear hc ha hs hsh hlaw
  obtain ⟨na, hn⟩ : ∃ n, n = args.length := ⟨_, rfl⟩
  rw [← hn]
  have Hn := Lib.hid hn
  clear hn
  go_enter Tryd.func10, Tryd.ntmps10
  go_wp2_with fail
  refine (wSwap_calls aa na ac which 1 26 #[] w).mono ?_
  rintro e' w1 ⟨rfl, x1, x2, x3, x4, k1⟩
  have K1 : Hid (Kept NoB w w1) := (Kept.refl NoB w).trans k1
  have HC : Hid (okCode l = true → args.length ≤ 8 → ChangeOk w1 41 _ (swapL args.length which 1 waysL) l) := fun hok h8 => swap_change hok h8 (by decide) (by rw [← Hn.out]; exact x1) x2 x3 x4 (ways_ok w1 (okCode_len hok) 1) call26
  clear x1 x2 x3 x4 k1
  go_wp2_with fail
  refine (runs_calls (Hhc.out.kept K1.out (fun _ h => h)) (by rw [Hn.out]; exact Hha.out.kept K1.out (fun _ h => h)) (Hhs.out.kept K1.out (fun _ h => h)) (Hhsh.out.kept K1.out id) hb1 hb2 hb3 HC.out Hhlaw.out call41).mono ?_
  rintro e' w2 ⟨rfl, k2⟩
  have K2 := Lib.hid k2
  clear k2
  go_wp2_with fail
  go_ret
  exact ⟨rfl, K1.out.trans K2.out⟩
theorem call27 (a : Array Value) (w : World) : (callFunc 27 a).run Tryd.prog w = .ok (.enter 27 a) w := by kernel_rfl
set_option maxHeartbeats 1000000 in
theorem over_law {w : World} {cv av sv : Value} {C A D : Nat} {l : List Op5} {args ws : List Int} (which : Int) (how : Int) (hc : OpsAt w cv C l) (ha : IntsAt w av A args) (hs : IntsAt w sv D ws) (hsh : Shapes w)
    (hb1 : l.length * 40 ≤ 140737488351232) (hb2 : args.length * 8 ≤ 140737488351232) (hb3 : ws.length * 8 ≤ 140737488351232) (hlaw : WLaw l args ws (swapL args.length which 1 (overL how) l)) :
    Calls Tryd.prog 11 #[cv, av, sv, .int .i64 which, .int .i64 how] w fun e w' => e = .returned (.bool true) ∧ Kept NoB w w' := by
  obtain ⟨aa, ac, rfl, _⟩ := ha.val
  have Hhc := Lib.hid hc
  have Hha := Lib.hid ha
  have Hhs := Lib.hid hs
  have Hhsh := Lib.hid hsh
  have Hhlaw := Lib.hid hlaw
  clear hc ha hs hsh hlaw
  obtain ⟨na, hn⟩ : ∃ n, n = args.length := ⟨_, rfl⟩
  rw [← hn]
  have Hn := Lib.hid hn
  clear hn
  go_enter Tryd.func11, Tryd.ntmps11
  go_wp2_with fail
  have b0 : (w.alloc (.cells #[.int .i64 how] 3)).cell? ⟨w.heap.size, 0, none⟩ = some (.int .i64 how) := World.cell?_alloc_new w _ _ 0
  refine (wSwap_calls aa na ac which 1 27 #[.pointer (some ⟨w.heap.size, 0, none⟩)] (w.alloc (.cells #[.int .i64 how] 3))).mono ?_
  rintro e' w1 ⟨rfl, x1, x2, x3, x4, k1⟩
  have y0 := k1.cell b0 id
  have K1 : Hid (Kept NoB w w1) := (Kept.alloc1 w _).trans k1
  simp only [World.size_alloc] at x1 x2 x3 x4
  have HC : Hid (okCode l = true → args.length ≤ 8 → ChangeOk w1 41 _ (swapL args.length which 1 (overL how)) l) := fun hok h8 => swap_change hok h8 (by decide) (by rw [← Hn.out]; exact x1) x2 x3 x4 (over_ok y0 (okCode_len hok)) call27
  clear x1 x2 x3 x4 k1 y0 b0
  go_wp2_with fail
  refine (runs_calls (Hhc.out.kept K1.out (fun _ h => h)) (by rw [Hn.out]; exact Hha.out.kept K1.out (fun _ h => h)) (Hhs.out.kept K1.out (fun _ h => h)) (Hhsh.out.kept K1.out id) hb1 hb2 hb3 HC.out Hhlaw.out call41).mono ?_
  rintro e' w2 ⟨rfl, k2⟩
  have K2 := Lib.hid k2
  clear k2
  go_wp2_with fail
  go_ret
  exact ⟨rfl, K1.out.trans K2.out⟩
theorem call30 (a : Array Value) (w : World) : (callFunc 30 a).run Tryd.prog w = .ok (.enter 30 a) w := by kernel_rfl
set_option maxHeartbeats 1000000 in
theorem twice_law {w : World} {cv av sv : Value} {C A D : Nat} {l : List Op5} {args ws : List Int} (which : Int) (back : Bool) (hc : OpsAt w cv C l) (ha : IntsAt w av A args) (hs : IntsAt w sv D ws) (hsh : Shapes w)
    (hb1 : l.length * 40 ≤ 140737488351232) (hb2 : args.length * 8 ≤ 140737488351232) (hb3 : ws.length * 8 ≤ 140737488351232) (hlaw : WLaw l args ws (swapL args.length which 1 (twiceL back) l)) :
    Calls Tryd.prog 12 #[cv, av, sv, .int .i64 which, .bool back] w fun e w' => e = .returned (.bool true) ∧ Kept NoB w w' := by
  obtain ⟨aa, ac, rfl, _⟩ := ha.val
  have Hhc := Lib.hid hc
  have Hha := Lib.hid ha
  have Hhs := Lib.hid hs
  have Hhsh := Lib.hid hsh
  have Hhlaw := Lib.hid hlaw
  clear hc ha hs hsh hlaw
  obtain ⟨na, hn⟩ : ∃ n, n = args.length := ⟨_, rfl⟩
  rw [← hn]
  have Hn := Lib.hid hn
  clear hn
  go_enter Tryd.func12, Tryd.ntmps12
  go_wp2_with fail
  have b0 : (w.alloc (.cells #[.bool back] 4)).cell? ⟨w.heap.size, 0, none⟩ = some (.bool back) := World.cell?_alloc_new w _ _ 0
  refine (wSwap_calls aa na ac which 1 30 #[.pointer (some ⟨w.heap.size, 0, none⟩)] (w.alloc (.cells #[.bool back] 4))).mono ?_
  rintro e' w1 ⟨rfl, x1, x2, x3, x4, k1⟩
  have y0 := k1.cell b0 id
  have K1 : Hid (Kept NoB w w1) := (Kept.alloc1 w _).trans k1
  simp only [World.size_alloc] at x1 x2 x3 x4
  have HC : Hid (okCode l = true → args.length ≤ 8 → ChangeOk w1 41 _ (swapL args.length which 1 (twiceL back)) l) := fun hok h8 => swap_change hok h8 (by decide) (by rw [← Hn.out]; exact x1) x2 x3 x4 (twice_ok y0 _) call30
  clear x1 x2 x3 x4 k1 y0 b0
  go_wp2_with fail
  refine (runs_calls (Hhc.out.kept K1.out (fun _ h => h)) (by rw [Hn.out]; exact Hha.out.kept K1.out (fun _ h => h)) (Hhs.out.kept K1.out (fun _ h => h)) (Hhsh.out.kept K1.out id) hb1 hb2 hb3 HC.out Hhlaw.out call41).mono ?_
  rintro e' w2 ⟨rfl, k2⟩
  have K2 := Lib.hid k2
  clear k2
  go_wp2_with fail
  go_ret
  exact ⟨rfl, K1.out.trans K2.out⟩
theorem call31 (a : Array Value) (w : World) : (callFunc 31 a).run Tryd.prog w = .ok (.enter 31 a) w := by kernel_rfl
set_option maxHeartbeats 1000000 in
theorem cas_law {w : World} {cv av sv : Value} {C A D : Nat} {l : List Op5} {args ws : List Int} (which : Int) (hc : OpsAt w cv C l) (ha : IntsAt w av A args) (hs : IntsAt w sv D ws) (hsh : Shapes w)
    (hb1 : l.length * 40 ≤ 140737488351232) (hb2 : args.length * 8 ≤ 140737488351232) (hb3 : ws.length * 8 ≤ 140737488351232) (hlaw : WLaw l args ws (swapL args.length which 2 casL l)) :
    Calls Tryd.prog 13 #[cv, av, sv, .int .i64 which] w fun e w' => e = .returned (.bool true) ∧ Kept NoB w w' := by
  obtain ⟨aa, ac, rfl, _⟩ := ha.val
  have Hhc := Lib.hid hc
  have Hha := Lib.hid ha
  have Hhs := Lib.hid hs
  have Hhsh := Lib.hid hsh
  have Hhlaw := Lib.hid hlaw
  clear hc ha hs hsh hlaw
  obtain ⟨na, hn⟩ : ∃ n, n = args.length := ⟨_, rfl⟩
  rw [← hn]
  have Hn := Lib.hid hn
  clear hn
  go_enter Tryd.func13, Tryd.ntmps13
  go_wp2_with fail
  refine (wSwap_calls aa na ac which 2 31 #[] w).mono ?_
  rintro e' w1 ⟨rfl, x1, x2, x3, x4, k1⟩
  have K1 : Hid (Kept NoB w w1) := (Kept.refl NoB w).trans k1
  have HC : Hid (okCode l = true → args.length ≤ 8 → ChangeOk w1 41 _ (swapL args.length which 2 casL) l) := fun hok h8 => swap_change hok h8 (by decide) (by rw [← Hn.out]; exact x1) x2 x3 x4 (cas_ok w1 (okCode_len hok)) call31
  clear x1 x2 x3 x4 k1
  go_wp2_with fail
  refine (runs_calls (Hhc.out.kept K1.out (fun _ h => h)) (by rw [Hn.out]; exact Hha.out.kept K1.out (fun _ h => h)) (Hhs.out.kept K1.out (fun _ h => h)) (Hhsh.out.kept K1.out id) hb1 hb2 hb3 HC.out Hhlaw.out call41).mono ?_
  rintro e' w2 ⟨rfl, k2⟩
  have K2 := Lib.hid k2
  clear k2
  go_wp2_with fail
  go_ret
  exact ⟨rfl, K1.out.trans K2.out⟩
set_option maxHeartbeats 1000000 in
theorem ends_law {w : World} {cv av sv : Value} {C A D : Nat} {l : List Op5} {args ws : List Int} (which how : Int) (hc : OpsAt w cv C l) (ha : IntsAt w av A args) (hs : IntsAt w sv D ws) (hsh : Shapes w)
    (hb1 : l.length * 40 ≤ 140737488351232) (hb2 : args.length * 8 ≤ 140737488351232) (hb3 : ws.length * 8 ≤ 140737488351232) (hlaw : WLaw l args ws (endsChange how which args.length l)) :
    Calls Tryd.prog 14 #[cv, av, sv, .int .i64 which, .int .i64 how] w fun e w' => e = .returned (.bool true) ∧ Kept NoB w w' := by
  obtain ⟨aa, ac, rfl, _⟩ := ha.val
  have Hhc := Lib.hid hc
  have Hha := Lib.hid ha
  have Hhs := Lib.hid hs
  have Hhsh := Lib.hid hsh
  have Hhlaw := Lib.hid hlaw
  clear hc ha hs hsh hlaw
  obtain ⟨na, hn⟩ : ∃ n, n = args.length := ⟨_, rfl⟩
  rw [← hn]
  have Hn := Lib.hid hn
  clear hn
  go_enter Tryd.func14, Tryd.ntmps14
  go_wp2_with fail
  have K1 : Hid (Kept NoB w (((w.alloc (.cells #[.slice aa na ac] 23)).alloc (.cells #[.int .i64 which] 3)).alloc (.cells #[.int .i64 how] 3))) := ((Kept.alloc1 w _).alloc _).alloc _
  have new1 : ∀ (wz : World) (g : Nat) (x : Value) (e : TypeId), wz.heap.size = g → (wz.alloc (.cells #[x] e)).cell? ⟨g, 0, none⟩ = some x := fun wz g x e h => by subst h; exact World.cell?_alloc_new wz _ _ 0
  have x1 : (((w.alloc (.cells #[.slice aa na ac] 23)).alloc (.cells #[.int .i64 which] 3)).alloc (.cells #[.int .i64 how] 3)).cell? ⟨w.heap.size, 0, none⟩ = some (.slice aa na ac) := cell_al (cell_al (new1 _ _ _ _ rfl) _) _
  have x2 : (((w.alloc (.cells #[.slice aa na ac] 23)).alloc (.cells #[.int .i64 which] 3)).alloc (.cells #[.int .i64 how] 3)).cell? ⟨w.heap.size + 1, 0, none⟩ = some (.int .i64 which) := cell_al (new1 _ _ _ _ (by simp)) _
  have x3 : (((w.alloc (.cells #[.slice aa na ac] 23)).alloc (.cells #[.int .i64 which] 3)).alloc (.cells #[.int .i64 how] 3)).cell? ⟨w.heap.size + 1 + 1, 0, none⟩ = some (.int .i64 how) := new1 _ _ _ _ (by simp)
  have HC : Hid (okCode l = true → args.length ≤ 8 → ChangeOk _ 32 _ (endsChange how which args.length) l) := fun hok h8 => ends_change hok h8 x3 (by rw [← Hn.out]; exact x1) x2
  clear x1 x2 x3 new1
  revert HC K1
  generalize (((w.alloc (.cells #[.slice aa na ac] 23)).alloc (.cells #[.int .i64 which] 3)).alloc (.cells #[.int .i64 how] 3)) = w1
  intro K1 HC
  refine (runs_calls (Hhc.out.kept K1.out (fun _ h => h)) (by rw [Hn.out]; exact Hha.out.kept K1.out (fun _ h => h)) (Hhs.out.kept K1.out (fun _ h => h)) (Hhsh.out.kept K1.out id) hb1 hb2 hb3 HC.out Hhlaw.out call32).mono ?_
  rintro e' w2 ⟨rfl, k2⟩
  have K2 := Lib.hid k2
  clear k2
  go_wp2_with fail
  go_ret
  exact ⟨rfl, K1.out.trans K2.out⟩
end Go.Proofs.YtmnfgigieafehaaDoor
