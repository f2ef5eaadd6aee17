/- The walk of vmSure: it answers true. Conditions: package vm's table 'shapes' holds its text's strings. -/
import Derived.Test.YtmnfgigieafehaaDoorRun
import Derived.Test.YtmnfgigieafehaaDoorEqual
namespace Go.Proofs.YtmnfgigieafehaaDoor
open Go.RowKit
set_option maxRecDepth 100000

/-- A new row reads. -/
theorem RowAt.new (w : World) (xs : List Value) (e : TypeId) (size n c : Nat) (h : xs.length = n * size) : RowAt (w.alloc (.cells xs.toArray e)) (.slice (some ⟨w.heap.size, 0, none⟩) n c) w.heap.size size n xs := by
  refine ⟨h, _, c, rfl, fun _ => ⟨0, rfl, fun j u hu => ?_⟩⟩
  rw [Nat.zero_add, World.cell?_alloc_new]
  simpa using hu
theorem Kept.alloc1 (w : World) (o : Obj) : Kept NoB w (w.alloc o) := (Kept.refl NoB w).alloc o

def sureCode : List Op5 := [⟨13, 1, 0, 1, 0⟩, ⟨16, 1, 0, 0, 0⟩, ⟨14, 0, 2, 0, 0⟩]
theorem sure_ans : runAns sureCode [1] [7, 8, 9] 9 = { told := [9], ws := [1, 8, 9], steps := 3, e := 0 } := by kernel_rfl

theorem new189 (w1 : World) : IntsAt (w1.alloc (.cells #[.int .i64 1, .int .i64 8, .int .i64 9] 3)) (.slice (some ⟨w1.heap.size, 0, none⟩) 3 3) w1.heap.size [1, 8, 9] := RowAt.new w1 (intsV [1, 8, 9]) 3 1 3 3 rfl
theorem new9 (w1 : World) : IntsAt (w1.alloc (.cells #[.int .i64 9] 3)) (.slice (some ⟨w1.heap.size, 0, none⟩) 1 1) w1.heap.size [9] := RowAt.new w1 (intsV [9]) 3 1 1 1 rfl
set_option maxHeartbeats 2000000 in
theorem sure_calls (w : World) (hsh : Shapes w) : Calls Tryd.prog 34 #[] w fun e w' => e = .returned (.bool true) ∧ Kept NoB w w' := by
  have Hsh := Lib.hid hsh; clear hsh
  go_enter Tryd.func34, Tryd.ntmps34
  go_wp2_with fail
  have k1 := Kept.alloc1 w (.cells (opsV sureCode).toArray 28)
  have k2 := Kept.alloc1 (w.alloc (.cells (opsV sureCode).toArray 28)) (.cells (intsV [1]).toArray 3)
  have k3 := Kept.alloc1 ((w.alloc (.cells (opsV sureCode).toArray 28)).alloc (.cells (intsV [1]).toArray 3)) (.cells (intsV [7, 8, 9]).toArray 3)
  have hc : OpsAt (w.alloc (.cells (opsV sureCode).toArray 28)) (.slice (some ⟨w.heap.size, 0, none⟩) 3 3) w.heap.size sureCode := RowAt.new w (opsV sureCode) 28 5 3 3 rfl
  have ha : IntsAt ((w.alloc (.cells (opsV sureCode).toArray 28)).alloc (.cells (intsV [1]).toArray 3)) (.slice (some ⟨w.heap.size + 1, 0, none⟩) 1 1) (w.heap.size + 1) [1] := by
    have := RowAt.new (w.alloc (.cells (opsV sureCode).toArray 28)) (intsV [1]) 3 1 1 1 rfl
    rw [World.size_alloc] at this
    exact this
  have hs : IntsAt (((w.alloc (.cells (opsV sureCode).toArray 28)).alloc (.cells (intsV [1]).toArray 3)).alloc (.cells (intsV [7, 8, 9]).toArray 3)) (.slice (some ⟨w.heap.size + 1 + 1, 0, none⟩) 3 3) (w.heap.size + 1 + 1) [7, 8, 9] := by
    have := RowAt.new ((w.alloc (.cells (opsV sureCode).toArray 28)).alloc (.cells (intsV [1]).toArray 3)) (intsV [7, 8, 9]) 3 1 3 3 rfl
    rw [World.size_alloc, World.size_alloc] at this
    exact this
  have H := Lib.hid (run_calls (lim := 9) ((hc.kept k2 (fun _ f => f)).kept k3 (fun _ f => f)) (ha.kept k3 (fun _ f => f)) hs (((Hsh.out.kept k1 id).kept k2 id).kept k3 id) (by rfl) (by decide) (by decide) (by decide))
  have K := Lib.hid ((k1.trans k2).trans k3)
  clear k1 k2 k3 hc ha hs
  refine H.out.mono ?_
  clear H
  rintro e' w1 ⟨tv, wv, T, W, rfl, ht, hw, k4⟩
  rw [sure_ans] at ht hw ⊢
  have K4 := Lib.hid k4; clear k4
  obtain ⟨ta, tc, etv, hta⟩ := ht.val
  obtain ⟨wa, wc, ewv, hwa⟩ := hw.val
  have Ht := Lib.hid ht; clear ht
  have Hw := Lib.hid hw; clear hw
  subst etv
  subst ewv
  clear hta hwa
  go_wp2_with fail
  refine (same_calls (Ht.out.kept (Kept.alloc1 w1 _) (fun _ f => f)) (new9 w1) (by decide)).mono ?_
  rintro e' w2 ⟨rfl, k5⟩
  have K5 := Lib.hid k5; clear k5
  rw [show (([9] : List Int) == [9]) = true by decide]
  go_wp2_with fail
  refine (same_calls (((Hw.out.kept (Kept.alloc1 w1 _) (fun _ f => f)).kept K5.out (fun _ f => f)).kept (Kept.alloc1 w2 _) (fun _ f => f)) (new189 w2) (by decide)).mono ?_
  rintro e' w3 ⟨rfl, k6⟩
  have K6 := Lib.hid k6; clear k6
  rw [show (([1, 8, 9] : List Int) == [1, 8, 9]) = true by decide]
  go_wp2_with fail
  go_ret
  exact ⟨rfl, ((((K.out.trans K4.out).trans (Kept.alloc1 w1 _)).trans K5.out).trans (Kept.alloc1 w2 _)).trans K6.out⟩
end Go.Proofs.YtmnfgigieafehaaDoor
