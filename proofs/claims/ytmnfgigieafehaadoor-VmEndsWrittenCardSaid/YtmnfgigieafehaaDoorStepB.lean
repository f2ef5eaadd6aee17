/- Walks of vm's Step, a kind each, and its contract: one instruction does to the thread what 'stepS' says. Conditions: the thread lies as 'Inv' says, the code's cells as 'CodeAt' says, the call is not over, the instruction may be. -/
import Derived.Test.YtmnfgigieafehaaDoorOther
namespace Go.Proofs.YtmnfgigieafehaaDoor
open Go.RowKit
set_option maxRecDepth 100000
variable {T W B C co n cap : Nat} {cs wv : Value} {s : St}

set_option maxHeartbeats 4000000 in
theorem step_kind4 (pc : Nat) (a b c d ra : Int) (rb rc : Int) (w : World) (s1 : St) (ha0 : 0 ≤ a) (ha1 : a < 24) (hb0 : 0 ≤ b) (hb1 : b < 24) (hrb : w.cell? ⟨T, 1 + b.toNat, none⟩ = some (.int .i64 rb)) (hc0 : 0 ≤ c) (hc1 : c < 24) (hrc : w.cell? ⟨T, 1 + c.toNat, none⟩ = some (.int .i64 rc))
    (hT : T < w.heap.size) (_hC : C < w.heap.size) (hpc' : (pc : Int) < n) (hpc0 : (0 : Int) ≤ pc) (hn : n ≤ 200)
    (hov : w.cell? ⟨T, 28, none⟩ = some (.bool false)) (hcs : w.cell? ⟨T, 0, none⟩ = some (.slice (some ⟨C, co, none⟩) n cap)) (hp : w.cell? ⟨T, 25, none⟩ = some (.int .i64 pc))
    (k0 : w.cell? ⟨C, co + pc * 5, none⟩ = some (.int .i64 4)) (k1 : w.cell? ⟨C, co + pc * 5 + 1, none⟩ = some (.int .i64 a)) (k2 : w.cell? ⟨C, co + pc * 5 + 2, none⟩ = some (.int .i64 b))
    (k3 : w.cell? ⟨C, co + pc * 5 + 3, none⟩ = some (.int .i64 c)) (k4 : w.cell? ⟨C, co + pc * 5 + 4, none⟩ = some (.int .i64 d))
    (fr : ∀ i, w.frozen? ⟨T, i, none⟩ = false) (hra : w.cell? ⟨T, 1 + a.toNat, none⟩ = some (.int .i64 ra))
    (hg : Good w ((((w.setCell ⟨T, 25, none⟩ (.int .i64 (↑pc + 1))).setCell ⟨T, 1 + a.toNat, none⟩ (.int .i64 (wrap64 (rb - rc)))).alloc (Obj.cells #[Value.int IntKind.i64 4, Value.int IntKind.i64 a, Value.int IntKind.i64 b, Value.int IntKind.i64 c, Value.int IntKind.i64 d] 28)).drew.drew) T W B (.slice (some ⟨C, co, none⟩) n cap) wv s1) (H1 : Hid (s1.ov = false)) (H2 : Hid (s1.pc = pc + 1)) :
    Calls Tryd.prog 47 #[.pointer (some ⟨T, 0, none⟩), wv] w fun e' w' => e' = .returned (.tuple #[]) ∧ Good w w' T W B (.slice (some ⟨C, co, none⟩) n cap) wv (endS n s1) := by
  go_enter Tryd.func47, Tryd.ntmps47
  go_wp2
  go_region_held3 (fun w' => w'.cell? ⟨T, 0, none⟩ = some (.slice (some ⟨C, co, none⟩) n cap) ∧ w'.cell? ⟨T, 25, none⟩ = some (.int .i64 pc) ∧ w'.cell? ⟨C, co + pc * 5, none⟩ = some (.int .i64 4)
    ∧ w'.cell? ⟨C, co + pc * 5 + 1, none⟩ = some (.int .i64 a) ∧ w'.cell? ⟨C, co + pc * 5 + 2, none⟩ = some (.int .i64 b) ∧ w'.cell? ⟨C, co + pc * 5 + 3, none⟩ = some (.int .i64 c) ∧ w'.cell? ⟨C, co + pc * 5 + 4, none⟩ = some (.int .i64 d)) (go_keep) (fail)
  go_wp2
  refine wp_region_tail 18 (by kernel_rfl) (by kernel_rfl) ?_
  simp only [List.take_succ_cons, List.take_zero, List.drop_succ_cons, List.drop_zero]
  repeat still_step
  refine wpStill_nil ?_
  go_wp2
  clear hov hcs hp k0 k1 k2 k3 k4 fr hra hrb hrc
  revert hg
  generalize (((w.setCell ⟨T, 25, none⟩ (.int .i64 (↑pc + 1))).setCell ⟨T, 1 + a.toNat, none⟩ (.int .i64 (wrap64 (rb - rc)))).alloc (Obj.cells #[Value.int IntKind.i64 4, Value.int IntKind.i64 a, Value.int IntKind.i64 b, Value.int IntKind.i64 c, Value.int IntKind.i64 d] 28)).drew.drew = w1
  intro hg
  obtain ⟨tv1, ht1, _⟩ := hg.inv.th
  have e0 := ht1.c28
  have e1 := ht1.c25
  have e2 := ht1.c0
  have e3 := ht1.fr
  rw [H1.out] at e0
  rw [H2.out] at e1
  refine wp_region_tail 19 (by kernel_rfl) (by kernel_rfl) ?_
  simp only [List.take_succ_cons, List.take_zero, List.drop_succ_cons, List.drop_zero]
  repeat still_step
  refine wpStill_nil ?_
  go_wp2
  go_end0
  refine ⟨rfl, ?_⟩
  have ee : endS n s1 = { s1 with ov := ((pc : Int) + 1 == (n : Int)) } := by rw [endS, H1.out, H2.out]; rfl
  rw [ee]
  exact (hg.setOver _).drew
set_option maxHeartbeats 4000000 in
theorem step_kind5 (pc : Nat) (a b c d ra : Int) (rb rc : Int) (w : World) (s1 : St) (ha0 : 0 ≤ a) (ha1 : a < 24) (hb0 : 0 ≤ b) (hb1 : b < 24) (hrb : w.cell? ⟨T, 1 + b.toNat, none⟩ = some (.int .i64 rb)) (hc0 : 0 ≤ c) (hc1 : c < 24) (hrc : w.cell? ⟨T, 1 + c.toNat, none⟩ = some (.int .i64 rc))
    (hT : T < w.heap.size) (_hC : C < w.heap.size) (hpc' : (pc : Int) < n) (hpc0 : (0 : Int) ≤ pc) (hn : n ≤ 200)
    (hov : w.cell? ⟨T, 28, none⟩ = some (.bool false)) (hcs : w.cell? ⟨T, 0, none⟩ = some (.slice (some ⟨C, co, none⟩) n cap)) (hp : w.cell? ⟨T, 25, none⟩ = some (.int .i64 pc))
    (k0 : w.cell? ⟨C, co + pc * 5, none⟩ = some (.int .i64 5)) (k1 : w.cell? ⟨C, co + pc * 5 + 1, none⟩ = some (.int .i64 a)) (k2 : w.cell? ⟨C, co + pc * 5 + 2, none⟩ = some (.int .i64 b))
    (k3 : w.cell? ⟨C, co + pc * 5 + 3, none⟩ = some (.int .i64 c)) (k4 : w.cell? ⟨C, co + pc * 5 + 4, none⟩ = some (.int .i64 d))
    (fr : ∀ i, w.frozen? ⟨T, i, none⟩ = false) (hra : w.cell? ⟨T, 1 + a.toNat, none⟩ = some (.int .i64 ra))
    (hg : Good w ((((w.setCell ⟨T, 25, none⟩ (.int .i64 (↑pc + 1))).setCell ⟨T, 1 + a.toNat, none⟩ (.int .i64 (wrap64 (rb * rc)))).alloc (Obj.cells #[Value.int IntKind.i64 5, Value.int IntKind.i64 a, Value.int IntKind.i64 b, Value.int IntKind.i64 c, Value.int IntKind.i64 d] 28)).drew.drew) T W B (.slice (some ⟨C, co, none⟩) n cap) wv s1) (H1 : Hid (s1.ov = false)) (H2 : Hid (s1.pc = pc + 1)) :
    Calls Tryd.prog 47 #[.pointer (some ⟨T, 0, none⟩), wv] w fun e' w' => e' = .returned (.tuple #[]) ∧ Good w w' T W B (.slice (some ⟨C, co, none⟩) n cap) wv (endS n s1) := by
  go_enter Tryd.func47, Tryd.ntmps47
  go_wp2
  go_region_held3 (fun w' => w'.cell? ⟨T, 0, none⟩ = some (.slice (some ⟨C, co, none⟩) n cap) ∧ w'.cell? ⟨T, 25, none⟩ = some (.int .i64 pc) ∧ w'.cell? ⟨C, co + pc * 5, none⟩ = some (.int .i64 5)
    ∧ w'.cell? ⟨C, co + pc * 5 + 1, none⟩ = some (.int .i64 a) ∧ w'.cell? ⟨C, co + pc * 5 + 2, none⟩ = some (.int .i64 b) ∧ w'.cell? ⟨C, co + pc * 5 + 3, none⟩ = some (.int .i64 c) ∧ w'.cell? ⟨C, co + pc * 5 + 4, none⟩ = some (.int .i64 d)) (go_keep) (fail)
  go_wp2
  refine wp_region_tail 18 (by kernel_rfl) (by kernel_rfl) ?_
  simp only [List.take_succ_cons, List.take_zero, List.drop_succ_cons, List.drop_zero]
  repeat still_step
  refine wpStill_nil ?_
  go_wp2
  clear hov hcs hp k0 k1 k2 k3 k4 fr hra hrb hrc
  revert hg
  generalize (((w.setCell ⟨T, 25, none⟩ (.int .i64 (↑pc + 1))).setCell ⟨T, 1 + a.toNat, none⟩ (.int .i64 (wrap64 (rb * rc)))).alloc (Obj.cells #[Value.int IntKind.i64 5, Value.int IntKind.i64 a, Value.int IntKind.i64 b, Value.int IntKind.i64 c, Value.int IntKind.i64 d] 28)).drew.drew = w1
  intro hg
  obtain ⟨tv1, ht1, _⟩ := hg.inv.th
  have e0 := ht1.c28
  have e1 := ht1.c25
  have e2 := ht1.c0
  have e3 := ht1.fr
  rw [H1.out] at e0
  rw [H2.out] at e1
  refine wp_region_tail 19 (by kernel_rfl) (by kernel_rfl) ?_
  simp only [List.take_succ_cons, List.take_zero, List.drop_succ_cons, List.drop_zero]
  repeat still_step
  refine wpStill_nil ?_
  go_wp2
  go_end0
  refine ⟨rfl, ?_⟩
  have ee : endS n s1 = { s1 with ov := ((pc : Int) + 1 == (n : Int)) } := by rw [endS, H1.out, H2.out]; rfl
  rw [ee]
  exact (hg.setOver _).drew
set_option maxHeartbeats 4000000 in
theorem step_kind6 (pc : Nat) (a b c d ra : Int) (rb rc : Int) (w : World) (s1 : St) (ha0 : 0 ≤ a) (ha1 : a < 24) (hb0 : 0 ≤ b) (hb1 : b < 24) (hrb : w.cell? ⟨T, 1 + b.toNat, none⟩ = some (.int .i64 rb)) (hc0 : 0 ≤ c) (hc1 : c < 24) (hrc : w.cell? ⟨T, 1 + c.toNat, none⟩ = some (.int .i64 rc))
    (hT : T < w.heap.size) (_hC : C < w.heap.size) (hpc' : (pc : Int) < n) (hpc0 : (0 : Int) ≤ pc) (hn : n ≤ 200)
    (hov : w.cell? ⟨T, 28, none⟩ = some (.bool false)) (hcs : w.cell? ⟨T, 0, none⟩ = some (.slice (some ⟨C, co, none⟩) n cap)) (hp : w.cell? ⟨T, 25, none⟩ = some (.int .i64 pc))
    (k0 : w.cell? ⟨C, co + pc * 5, none⟩ = some (.int .i64 6)) (k1 : w.cell? ⟨C, co + pc * 5 + 1, none⟩ = some (.int .i64 a)) (k2 : w.cell? ⟨C, co + pc * 5 + 2, none⟩ = some (.int .i64 b))
    (k3 : w.cell? ⟨C, co + pc * 5 + 3, none⟩ = some (.int .i64 c)) (k4 : w.cell? ⟨C, co + pc * 5 + 4, none⟩ = some (.int .i64 d))
    (fr : ∀ i, w.frozen? ⟨T, i, none⟩ = false) (hra : w.cell? ⟨T, 1 + a.toNat, none⟩ = some (.int .i64 ra))
    (hg : Good w ((((w.setCell ⟨T, 25, none⟩ (.int .i64 (↑pc + 1))).setCell ⟨T, 1 + a.toNat, none⟩ (.int .i64 (quoI rb rc false))).alloc (Obj.cells #[Value.int IntKind.i64 6, Value.int IntKind.i64 a, Value.int IntKind.i64 b, Value.int IntKind.i64 c, Value.int IntKind.i64 d] 28)).drew.drew) T W B (.slice (some ⟨C, co, none⟩) n cap) wv s1) (H1 : Hid (s1.ov = false)) (H2 : Hid (s1.pc = pc + 1)) :
    Calls Tryd.prog 47 #[.pointer (some ⟨T, 0, none⟩), wv] w fun e' w' => e' = .returned (.tuple #[]) ∧ Good w w' T W B (.slice (some ⟨C, co, none⟩) n cap) wv (endS n s1) := by
  go_enter Tryd.func47, Tryd.ntmps47
  go_wp2
  go_region_held3 (fun w' => w'.cell? ⟨T, 0, none⟩ = some (.slice (some ⟨C, co, none⟩) n cap) ∧ w'.cell? ⟨T, 25, none⟩ = some (.int .i64 pc) ∧ w'.cell? ⟨C, co + pc * 5, none⟩ = some (.int .i64 6)
    ∧ w'.cell? ⟨C, co + pc * 5 + 1, none⟩ = some (.int .i64 a) ∧ w'.cell? ⟨C, co + pc * 5 + 2, none⟩ = some (.int .i64 b) ∧ w'.cell? ⟨C, co + pc * 5 + 3, none⟩ = some (.int .i64 c) ∧ w'.cell? ⟨C, co + pc * 5 + 4, none⟩ = some (.int .i64 d)) (go_keep) (fail)
  go_wp2
  refine wp_region_tail 21 (by kernel_rfl) (by kernel_rfl) ?_
  simp only [List.take_succ_cons, List.take_zero, List.drop_succ_cons, List.drop_zero]
  repeat still_step
  still_call (quo_still rb rc false _)
  repeat still_step
  refine wpStill_nil ?_
  go_wp2
  clear hov hcs hp k0 k1 k2 k3 k4 fr hra hrb hrc
  revert hg
  generalize (((w.setCell ⟨T, 25, none⟩ (.int .i64 (↑pc + 1))).setCell ⟨T, 1 + a.toNat, none⟩ (.int .i64 (quoI rb rc false))).alloc (Obj.cells #[Value.int IntKind.i64 6, Value.int IntKind.i64 a, Value.int IntKind.i64 b, Value.int IntKind.i64 c, Value.int IntKind.i64 d] 28)).drew.drew = w1
  intro hg
  obtain ⟨tv1, ht1, _⟩ := hg.inv.th
  have e0 := ht1.c28
  have e1 := ht1.c25
  have e2 := ht1.c0
  have e3 := ht1.fr
  rw [H1.out] at e0
  rw [H2.out] at e1
  refine wp_region_tail 19 (by kernel_rfl) (by kernel_rfl) ?_
  simp only [List.take_succ_cons, List.take_zero, List.drop_succ_cons, List.drop_zero]
  repeat still_step
  refine wpStill_nil ?_
  go_wp2
  go_end0
  refine ⟨rfl, ?_⟩
  have ee : endS n s1 = { s1 with ov := ((pc : Int) + 1 == (n : Int)) } := by rw [endS, H1.out, H2.out]; rfl
  rw [ee]
  exact (hg.setOver _).drew
end Go.Proofs.YtmnfgigieafehaaDoor
