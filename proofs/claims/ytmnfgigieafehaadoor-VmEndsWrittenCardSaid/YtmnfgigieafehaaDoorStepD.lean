/- Walks of vm's Step, a kind each, and its contract: one instruction does to the thread what 'stepS' says. Conditions: the thread lies as 'Inv' says, the code's cells as 'CodeAt' says, the call is not over, the instruction may be. -/
import Derived.Test.YtmnfgigieafehaaDoorOther
namespace Go.Proofs.YtmnfgigieafehaaDoor
open Go.RowKit
set_option maxRecDepth 100000
variable {T W B C co n cap : Nat} {cs wv : Value} {s : St}

set_option maxHeartbeats 4000000 in
theorem step_rest (o : Op5) (pc : Nat) (w : World) (s s1 : St) (h : Inv w T W B (.slice (some ⟨C, co, none⟩) n cap) wv s) (hs1 : Hid (otherS o { s with pc := pc + 1 } = s1)) (hk : 10 ≤ o.k) (hok : Hid (okOp n o = true)) (hws : Hid (s.ws.length ≤ 200)) (htold : Hid (s.told.length ≤ 200))
    (hT : T < w.heap.size) (_hC : C < w.heap.size) (hpc' : (pc : Int) < n) (hpc0 : (0 : Int) ≤ pc) (hn : n ≤ 200)
    (hov : w.cell? ⟨T, 28, none⟩ = some (.bool false)) (hcs : w.cell? ⟨T, 0, none⟩ = some (.slice (some ⟨C, co, none⟩) n cap)) (hp : w.cell? ⟨T, 25, none⟩ = some (.int .i64 pc))
    (k0 : w.cell? ⟨C, co + pc * 5, none⟩ = some (.int .i64 o.k)) (k1 : w.cell? ⟨C, co + pc * 5 + 1, none⟩ = some (.int .i64 o.a)) (k2 : w.cell? ⟨C, co + pc * 5 + 2, none⟩ = some (.int .i64 o.b))
    (k3 : w.cell? ⟨C, co + pc * 5 + 3, none⟩ = some (.int .i64 o.c)) (k4 : w.cell? ⟨C, co + pc * 5 + 4, none⟩ = some (.int .i64 o.d))
    (fr : ∀ i, w.frozen? ⟨T, i, none⟩ = false)  :
    Calls Tryd.prog 47 #[.pointer (some ⟨T, 0, none⟩), wv] w fun e' w' => e' = .returned (.tuple #[]) ∧ Good w w' T W B (.slice (some ⟨C, co, none⟩) n cap) wv (endS n s1) := by
  go_enter Tryd.func47, Tryd.ntmps47
  go_wp2
  go_region_held3 (fun w' => w'.cell? ⟨T, 0, none⟩ = some (.slice (some ⟨C, co, none⟩) n cap) ∧ w'.cell? ⟨T, 25, none⟩ = some (.int .i64 pc) ∧ w'.cell? ⟨C, co + pc * 5, none⟩ = some (.int .i64 o.k)
    ∧ w'.cell? ⟨C, co + pc * 5 + 1, none⟩ = some (.int .i64 o.a) ∧ w'.cell? ⟨C, co + pc * 5 + 2, none⟩ = some (.int .i64 o.b) ∧ w'.cell? ⟨C, co + pc * 5 + 3, none⟩ = some (.int .i64 o.c) ∧ w'.cell? ⟨C, co + pc * 5 + 4, none⟩ = some (.int .i64 o.d)) (go_keep) (fail)
  go_wp2_with fail
  refine (other_calls (T := T) (W := W) (B := B) (cs := .slice (some ⟨C, co, none⟩) n cap) (s := { s with pc := pc + 1 }) o n _ (by exact ((((Good.start h).setPc (pc + 1)).alloc _).drew).inv) hk hok.out hws.out htold.out).mono ?_
  rintro e' w1 ⟨rfl, hg0⟩
  have hg : Good w w1 T W B (.slice (some ⟨C, co, none⟩) n cap) wv s1 := by
    have := ((((Good.start h).setPc (pc + 1)).alloc _).drew).trans hg0
    rw [← hs1.out]; exact this
  clear hg0
  go_wp2_with fail
  clear hov hcs hp k0 k1 k2 k3 k4 fr
  obtain ⟨tv1, ht1, _⟩ := hg.inv.th
  have e0 := ht1.c28
  have e1 := ht1.c25
  have e2 := ht1.c0
  have e3 := ht1.fr
  cases hov1 : s1.ov
  · have Hov1 : Hid (s1.ov = false) := hov1
    rw [hov1] at e0
    clear hov1
    refine wp_region_tail 19 (by kernel_rfl) (by kernel_rfl) ?_
    simp only [List.take_succ_cons, List.take_zero, List.drop_succ_cons, List.drop_zero]
    repeat still_step
    refine wpStill_nil ?_
    go_wp2
    go_end0
    refine ⟨rfl, ?_⟩
    have ee : endS n s1 = { s1 with ov := ((s1.pc : Int) == (n : Int)) } := by rw [endS, Hov1.out]; rfl
    rw [ee]
    exact (hg.setOver _).drew
  · have Hov1 : Hid (s1.ov = true) := hov1
    rw [hov1] at e0
    clear hov1
    refine wp_region_tail 19 (by kernel_rfl) (by kernel_rfl) ?_
    simp only [List.take_succ_cons, List.take_zero, List.drop_succ_cons, List.drop_zero]
    iterate 6 still_step
    iterate 10 ((with_reducible refine wpStill_skip ?_ ?_); (· kernel_rfl); simp only [Act.put, List.setIfInBounds_toArray, List.set_cons_zero, List.set_cons_succ])
    iterate 3 still_step
    refine wpStill_nil ?_
    go_wp2
    go_end0
    refine ⟨rfl, ?_⟩
    have ee : endS n s1 = { s1 with ov := true } := by rw [endS, Hov1.out]; rfl
    rw [ee]
    exact (hg.setOver _).drew
end Go.Proofs.YtmnfgigieafehaaDoor
