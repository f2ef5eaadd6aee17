/- Walks of vm's 'other': jumps, what is told, words, the end. Conditions: the thread lies as 'Inv' says; the operands are what the kind asks. -/
import Derived.Test.YtmnfgigieafehaaDoorWord
import Derived.Lib.Hide
import Derived.Deep.RegionLaw
namespace Go.Proofs.YtmnfgigieafehaaDoor
open Go.RowKit
set_option maxRecDepth 100000
variable {T W B : Nat} {cs wv : Value} {s : St}

theorem word_at (k a b c d : Int) (i : Nat) (w : World) (h : Inv w T W B cs wv s) (hi : i < s.ws.length) (hk : k = 13 ∨ k = 14 ∨ k = 15) (ha : 0 ≤ a ∧ a < 24) (hd : k = 15 → 0 ≤ d ∧ d < 24) :
    Calls Tryd.prog 60 #[.pointer (some ⟨T, 0, none⟩), .agg #[.int .i64 k, .int .i64 a, .int .i64 b, .int .i64 c, .int .i64 d], .pointer (some ⟨W, i, none⟩)] w
      fun e' w' => e' = .returned (.tuple #[]) ∧ Good w w' T W B cs wv (wordS ⟨k, a, b, c, d⟩ i s) := word_calls ⟨k, a, b, c, d⟩ i w h hi hk ha hd

set_option maxHeartbeats 400000 in
theorem other_jump (a b c d : Int) (pc : Int) (w : World) (hT : T < w.heap.size) (hp : w.cell? ⟨T, 25, none⟩ = some (.int .i64 pc)) (fr : w.frozen? ⟨T, 25, none⟩ = false) :
    Calls Tryd.prog 54 #[.pointer (some ⟨T, 0, none⟩), .agg #[.int .i64 10, .int .i64 a, .int .i64 b, .int .i64 c, .int .i64 d], wv] w fun e' w' => e' = .returned (.tuple #[]) ∧
      ((w.setCell ⟨T, 25, none⟩ (.int .i64 a)).alloc (.cells #[.int .i64 10, .int .i64 a, .int .i64 b, .int .i64 c, .int .i64 d] 28)) = w' := by
  go_enter Tryd.func54, Tryd.ntmps54
  go_wp2
  go_end0
  exact ⟨rfl, rfl⟩
set_option maxHeartbeats 400000 in
theorem other_done (a b c d : Int) (ov : Bool) (w : World) (hT : T < w.heap.size) (hp : w.cell? ⟨T, 28, none⟩ = some (.bool ov)) (fr : w.frozen? ⟨T, 28, none⟩ = false) :
    Calls Tryd.prog 54 #[.pointer (some ⟨T, 0, none⟩), .agg #[.int .i64 17, .int .i64 a, .int .i64 b, .int .i64 c, .int .i64 d], wv] w fun e' w' => e' = .returned (.tuple #[]) ∧
      ((w.setCell ⟨T, 28, none⟩ (.bool true)).alloc (.cells #[.int .i64 17, .int .i64 a, .int .i64 b, .int .i64 c, .int .i64 d] 28)) = w' := by
  go_enter Tryd.func54, Tryd.ntmps54
  go_wp2
  go_end0
  exact ⟨rfl, rfl⟩
set_option maxHeartbeats 400000 in
theorem other_when_go (a b c d : Int) (pc ra : Int) (w : World) (ha0 : 0 ≤ a) (ha1 : a < 24) (hT : T < w.heap.size) (hp : w.cell? ⟨T, 25, none⟩ = some (.int .i64 pc)) (fr : w.frozen? ⟨T, 25, none⟩ = false)
    (hr : w.cell? ⟨T, 1 + a.toNat, none⟩ = some (.int .i64 ra)) (hx : (ra != 0) = true) :
    Calls Tryd.prog 54 #[.pointer (some ⟨T, 0, none⟩), .agg #[.int .i64 11, .int .i64 a, .int .i64 b, .int .i64 c, .int .i64 d], wv] w fun e' w' => e' = .returned (.tuple #[]) ∧
      ∃ n, ((w.alloc (.cells #[.int .i64 11, .int .i64 a, .int .i64 b, .int .i64 c, .int .i64 d] 28)).drewN n).setCell ⟨T, 25, none⟩ (.int .i64 b) = w' := by
  skip
  go_enter Tryd.func54, Tryd.ntmps54
  go_wp2
  go_quiet (fail)
  go_wp2
  go_end0
  exact ⟨rfl, nq, rfl⟩
set_option maxHeartbeats 400000 in
theorem other_when_no (a b c d : Int) (ra : Int) (w : World) (ha0 : 0 ≤ a) (ha1 : a < 24) (hT : T < w.heap.size)
    (hr : w.cell? ⟨T, 1 + a.toNat, none⟩ = some (.int .i64 ra)) (hx : ra = 0) :
    Calls Tryd.prog 54 #[.pointer (some ⟨T, 0, none⟩), .agg #[.int .i64 11, .int .i64 a, .int .i64 b, .int .i64 c, .int .i64 d], wv] w fun e' w' => e' = .returned (.tuple #[]) ∧
      ∃ n, (w.alloc (.cells #[.int .i64 11, .int .i64 a, .int .i64 b, .int .i64 c, .int .i64 d] 28)).drewN n = w' := by
  subst hx
  go_enter Tryd.func54, Tryd.ntmps54
  go_wp2
  go_quiet (fail)
  go_wp2
  go_end0
  exact ⟨rfl, nq, rfl⟩
set_option maxHeartbeats 400000 in
theorem other_unless_go (a b c d : Int) (pc ra : Int) (w : World) (ha0 : 0 ≤ a) (ha1 : a < 24) (hT : T < w.heap.size) (hp : w.cell? ⟨T, 25, none⟩ = some (.int .i64 pc)) (fr : w.frozen? ⟨T, 25, none⟩ = false)
    (hr : w.cell? ⟨T, 1 + a.toNat, none⟩ = some (.int .i64 ra)) (hx : ra = 0) :
    Calls Tryd.prog 54 #[.pointer (some ⟨T, 0, none⟩), .agg #[.int .i64 12, .int .i64 a, .int .i64 b, .int .i64 c, .int .i64 d], wv] w fun e' w' => e' = .returned (.tuple #[]) ∧
      ∃ n, ((w.alloc (.cells #[.int .i64 12, .int .i64 a, .int .i64 b, .int .i64 c, .int .i64 d] 28)).drewN n).setCell ⟨T, 25, none⟩ (.int .i64 b) = w' := by
  subst hx
  go_enter Tryd.func54, Tryd.ntmps54
  go_wp2
  go_quiet (fail)
  go_wp2
  go_end0
  exact ⟨rfl, nq, rfl⟩
set_option maxHeartbeats 400000 in
theorem other_unless_no (a b c d : Int) (ra : Int) (w : World) (ha0 : 0 ≤ a) (ha1 : a < 24) (hT : T < w.heap.size)
    (hr : w.cell? ⟨T, 1 + a.toNat, none⟩ = some (.int .i64 ra)) (hx : (ra != 0) = true) :
    Calls Tryd.prog 54 #[.pointer (some ⟨T, 0, none⟩), .agg #[.int .i64 12, .int .i64 a, .int .i64 b, .int .i64 c, .int .i64 d], wv] w fun e' w' => e' = .returned (.tuple #[]) ∧
      ∃ n, (w.alloc (.cells #[.int .i64 12, .int .i64 a, .int .i64 b, .int .i64 c, .int .i64 d] 28)).drewN n = w' := by
  skip
  go_enter Tryd.func54, Tryd.ntmps54
  go_wp2
  go_quiet (fail)
  go_wp2
  go_end0
  exact ⟨rfl, nq, rfl⟩
theorem own_slice {w : World} {e : TypeId} {sz : Nat} {v : Value} {n : Nat} {xs : List Value} (h : w.ownsRow B e sz v n xs) : ∃ a c, v = .slice a n c := by
  rcases h.2 with ⟨h, h2⟩ | ⟨g, cap, cur, h, _⟩
  · exact ⟨none, 0, by rw [h2]; exact h⟩
  · exact ⟨_, _, h⟩
theorem info3 : (Tryd.prog.info? 3).map (fun i => (i.zero, i.size, i.bytes)) = some (some (.int .i64 0), 1, 8) := by kernel_rfl
set_option maxHeartbeats 1000000 in
theorem other_emit (a b c d : Int) (ra : Int) (w : World) (tv : Value) (told : List Int) (ha0 : 0 ≤ a) (ha1 : a < 24) (hT : T < w.heap.size)  (hr : w.cell? ⟨T, 1 + a.toNat, none⟩ = some (.int .i64 ra))
   (hlen : (told.length : Int) < 200) (hown : w.ownsRow B 3 1 tv told.length (told.map (Value.int .i64))) (htv : w.cell? ⟨T, 26, none⟩ = some tv) (fr : w.frozen? ⟨T, 26, none⟩ = false) (hB : B ≤ w.heap.size) (hTB : T < B)
    (R : World → Prop) (hR : ∀ v' w1, w1.ownsRow B 3 1 v' (told.length + 1) (told.map (Value.int .i64) ++ [.int .i64 ra]) →
      ((w.alloc (.cells #[.int .i64 16, .int .i64 a, .int .i64 b, .int .i64 c, .int .i64 d] 28)).alloc (.cells #[.int .i64 ra] 3)).drew.grownBy w1 tv.ownBlock → R (w1.setCell ⟨T, 26, none⟩ v')) :
    Calls Tryd.prog 54 #[.pointer (some ⟨T, 0, none⟩), .agg #[.int .i64 16, .int .i64 a, .int .i64 b, .int .i64 c, .int .i64 d], wv] w fun e' w' => e' = .returned (.tuple #[]) ∧ R w' := by
  obtain ⟨ta, tc, htv'⟩ := own_slice hown
  subst htv'
  have hne : some T ≠ (Value.slice ta told.length tc).ownBlock := fun e => by have := (hown.lt T e.symm).1; omega
  obtain ⟨i0, hi, hz0, hz1, hz2⟩ := info_parts info3
  go_enter Tryd.func54, Tryd.ntmps54
  go_wp2
  go_region_law
    ((rw [if_pos (by rfl)]
      refine wp_append_own _ (.tmp 78) (.tmp 85) 23 (by rfl) B 3 i0 (.int .i64 0) 1 8 Tryd.underlying23 hi hz0 hz1 hz2 rfl (by decide) (.slice ta told.length tc) told.length (told.map (Value.int .i64)) (by rfl) (by exact (hown.alloc _).alloc _) ⟨w.heap.size + 1, 0, none⟩ 1 1 [.int .i64 ra] (by rfl) (by rfl) ?_ ?_ ?_ ?_ ?_ ?_
      · exact fun j u hu => by have := cell_one_new (w.alloc (.cells #[.int .i64 16, .int .i64 a, .int .i64 b, .int .i64 c, .int .i64 d] 28)) (.int .i64 ra) 3 j u hu; simp only [World.size_alloc] at this; exact this
      · intro u hu; simp at hu; subst hu; rfl
      · unfold maxLen; omega
      · omega
      · simp; omega
      intro v' w1 hown1 hgrow1 _
      obtain ⟨ga, gc, rfl⟩ := own_slice hown1
      have c26 : w1.cell? ⟨T, 26, none⟩ = some (.slice ta told.length tc) := hgrow1.cell (by simp; rw [World.cell?_alloc_lt _ _ _ (by simp; omega), World.cell?_alloc_lt _ _ _ hT]; exact htv) hne
      have f26 : w1.frozen? ⟨T, 26, none⟩ = false := by
        rw [World.frozen?_of_block (w := w) (a := ⟨T, 26, none⟩)]
        · exact fr
        · rw [hgrow1.block T (by simp; omega) hne]; exact (Below.heap_alloc _ _ _ (by simp; omega)).trans (Below.heap_alloc _ _ _ hT)))
  all_goals go_wp2
  all_goals go_end0
  all_goals exact ⟨rfl, hR _ _ hown1 hgrow1⟩
set_option maxHeartbeats 1000000 in
theorem other_word13 (a b c d : Int) (w : World) (h : Inv w T W B cs wv s) (ha : 0 ≤ a ∧ a < 24) (hb0 : 0 ≤ b) (hb1 : b < 24)
    (x : Int) (hr : w.cell? ⟨T, 1 + b.toNat, none⟩ = some (.int .i64 x)) (wcap wn : Nat) (hwv : wv = .slice (some ⟨W, 0, none⟩) wn wcap) (i : Nat) (hat : wrap64 (x + c) = i) (hat1 : i < wn) (hwn : wn = s.ws.length) (_hwn' : wn ≤ 200) :
    Calls Tryd.prog 54 #[.pointer (some ⟨T, 0, none⟩), .agg #[.int .i64 13, .int .i64 a, .int .i64 b, .int .i64 c, .int .i64 d], wv] w fun e' w' => e' = .returned (.tuple #[]) ∧ Good w w' T W B cs wv (wordS ⟨13, a, b, c, d⟩ i s) := by
  have hT := h.lt
  have Hi : Hid (i < s.ws.length) := by rw [← hwn]; exact hat1
  clear hwn
  subst hwv
  go_enter Tryd.func54, Tryd.ntmps54
  go_wp2
  go_quiet (fail)
  go_wp2
  refine wp_region_tail 5 (by kernel_rfl) (by kernel_rfl) ?_
  simp only [List.take_succ_cons, List.take_zero, List.drop_succ_cons, List.drop_zero]
  repeat still_step
  refine wpStill_nil ?_
  go_wp2_with fail
  refine (word_at 13 a b c d i _ (by exact ((((Good.start h).alloc _).drewN nq).drew).inv) Hi.out (by omega) ha (by omega)).mono ?_
  rintro e' w' ⟨rfl, hg⟩
  go_wp2
  go_end0
  exact ⟨rfl, ((((Good.start h).alloc _).drewN nq).drew).trans hg⟩
set_option maxHeartbeats 1000000 in
theorem other_low13 (a b c d : Int) (w : World) (h : Inv w T W B cs wv s) (hb0 : 0 ≤ b) (hb1 : b < 24)
    (x : Int) (hr : w.cell? ⟨T, 1 + b.toNat, none⟩ = some (.int .i64 x)) (wa : Option Addr) (wcap wn : Nat) (hwv : wv = .slice wa wn wcap) (z : Int) (hat : wrap64 (x + c) = z) (hat1 : z < 0) :
    Calls Tryd.prog 54 #[.pointer (some ⟨T, 0, none⟩), .agg #[.int .i64 13, .int .i64 a, .int .i64 b, .int .i64 c, .int .i64 d], wv] w fun e' w' => e' = .returned (.tuple #[]) ∧ Good w w' T W B cs wv (failS s 2) := by
  have hT := h.lt
  subst hwv
  go_enter Tryd.func54, Tryd.ntmps54
  go_wp2
  go_quiet (fail)
  go_wp2_with fail
  refine (fail_calls 2 _ (by exact (((Good.start h).alloc _).drewN nq).inv)).mono ?_
  rintro e' w' ⟨rfl, hg⟩
  go_wp2
  (try simp only [Exit.inBlock, Exit.then])
  refine bodyPost_ret (results_none rfl _ _ _) rfl ?_
  exact ⟨rfl, (((Good.start h).alloc _).drewN nq).trans hg⟩
set_option maxHeartbeats 1000000 in
theorem other_high13 (a b c d : Int) (w : World) (h : Inv w T W B cs wv s) (hb0 : 0 ≤ b) (hb1 : b < 24)
    (x : Int) (hr : w.cell? ⟨T, 1 + b.toNat, none⟩ = some (.int .i64 x)) (wa : Option Addr) (wcap wn : Nat) (hwv : wv = .slice wa wn wcap) (i : Nat) (hat : wrap64 (x + c) = i) (hat1 : wn ≤ i) :
    Calls Tryd.prog 54 #[.pointer (some ⟨T, 0, none⟩), .agg #[.int .i64 13, .int .i64 a, .int .i64 b, .int .i64 c, .int .i64 d], wv] w fun e' w' => e' = .returned (.tuple #[]) ∧ Good w w' T W B cs wv (failS s 2) := by
  have hT := h.lt
  subst hwv
  go_enter Tryd.func54, Tryd.ntmps54
  go_wp2
  go_quiet (fail)
  go_wp2_with fail
  refine (fail_calls 2 _ (by exact (((Good.start h).alloc _).drewN nq).inv)).mono ?_
  rintro e' w' ⟨rfl, hg⟩
  go_wp2
  (try simp only [Exit.inBlock, Exit.then])
  refine bodyPost_ret (results_none rfl _ _ _) rfl ?_
  exact ⟨rfl, (((Good.start h).alloc _).drewN nq).trans hg⟩
set_option maxHeartbeats 1000000 in
theorem other_word14 (a b c d : Int) (w : World) (h : Inv w T W B cs wv s) (ha : 0 ≤ a ∧ a < 24) (hb0 : 0 ≤ b) (hb1 : b < 24)
    (x : Int) (hr : w.cell? ⟨T, 1 + b.toNat, none⟩ = some (.int .i64 x)) (wcap wn : Nat) (hwv : wv = .slice (some ⟨W, 0, none⟩) wn wcap) (i : Nat) (hat : wrap64 (x + c) = i) (hat1 : i < wn) (hwn : wn = s.ws.length) (_hwn' : wn ≤ 200) :
    Calls Tryd.prog 54 #[.pointer (some ⟨T, 0, none⟩), .agg #[.int .i64 14, .int .i64 a, .int .i64 b, .int .i64 c, .int .i64 d], wv] w fun e' w' => e' = .returned (.tuple #[]) ∧ Good w w' T W B cs wv (wordS ⟨14, a, b, c, d⟩ i s) := by
  have hT := h.lt
  have Hi : Hid (i < s.ws.length) := by rw [← hwn]; exact hat1
  clear hwn
  subst hwv
  go_enter Tryd.func54, Tryd.ntmps54
  go_wp2
  go_quiet (fail)
  go_wp2
  refine wp_region_tail 5 (by kernel_rfl) (by kernel_rfl) ?_
  simp only [List.take_succ_cons, List.take_zero, List.drop_succ_cons, List.drop_zero]
  repeat still_step
  refine wpStill_nil ?_
  go_wp2_with fail
  refine (word_at 14 a b c d i _ (by exact ((((Good.start h).alloc _).drewN nq).drew).inv) Hi.out (by omega) ha (by omega)).mono ?_
  rintro e' w' ⟨rfl, hg⟩
  go_wp2
  go_end0
  exact ⟨rfl, ((((Good.start h).alloc _).drewN nq).drew).trans hg⟩
set_option maxHeartbeats 1000000 in
theorem other_low14 (a b c d : Int) (w : World) (h : Inv w T W B cs wv s) (hb0 : 0 ≤ b) (hb1 : b < 24)
    (x : Int) (hr : w.cell? ⟨T, 1 + b.toNat, none⟩ = some (.int .i64 x)) (wa : Option Addr) (wcap wn : Nat) (hwv : wv = .slice wa wn wcap) (z : Int) (hat : wrap64 (x + c) = z) (hat1 : z < 0) :
    Calls Tryd.prog 54 #[.pointer (some ⟨T, 0, none⟩), .agg #[.int .i64 14, .int .i64 a, .int .i64 b, .int .i64 c, .int .i64 d], wv] w fun e' w' => e' = .returned (.tuple #[]) ∧ Good w w' T W B cs wv (failS s 2) := by
  have hT := h.lt
  subst hwv
  go_enter Tryd.func54, Tryd.ntmps54
  go_wp2
  go_quiet (fail)
  go_wp2_with fail
  refine (fail_calls 2 _ (by exact (((Good.start h).alloc _).drewN nq).inv)).mono ?_
  rintro e' w' ⟨rfl, hg⟩
  go_wp2
  (try simp only [Exit.inBlock, Exit.then])
  refine bodyPost_ret (results_none rfl _ _ _) rfl ?_
  exact ⟨rfl, (((Good.start h).alloc _).drewN nq).trans hg⟩
set_option maxHeartbeats 1000000 in
theorem other_high14 (a b c d : Int) (w : World) (h : Inv w T W B cs wv s) (hb0 : 0 ≤ b) (hb1 : b < 24)
    (x : Int) (hr : w.cell? ⟨T, 1 + b.toNat, none⟩ = some (.int .i64 x)) (wa : Option Addr) (wcap wn : Nat) (hwv : wv = .slice wa wn wcap) (i : Nat) (hat : wrap64 (x + c) = i) (hat1 : wn ≤ i) :
    Calls Tryd.prog 54 #[.pointer (some ⟨T, 0, none⟩), .agg #[.int .i64 14, .int .i64 a, .int .i64 b, .int .i64 c, .int .i64 d], wv] w fun e' w' => e' = .returned (.tuple #[]) ∧ Good w w' T W B cs wv (failS s 2) := by
  have hT := h.lt
  subst hwv
  go_enter Tryd.func54, Tryd.ntmps54
  go_wp2
  go_quiet (fail)
  go_wp2_with fail
  refine (fail_calls 2 _ (by exact (((Good.start h).alloc _).drewN nq).inv)).mono ?_
  rintro e' w' ⟨rfl, hg⟩
  go_wp2
  (try simp only [Exit.inBlock, Exit.then])
  refine bodyPost_ret (results_none rfl _ _ _) rfl ?_
  exact ⟨rfl, (((Good.start h).alloc _).drewN nq).trans hg⟩
set_option maxHeartbeats 1000000 in
theorem other_word15 (a b c d : Int) (w : World) (h : Inv w T W B cs wv s) (ha : 0 ≤ a ∧ a < 24) (hb0 : 0 ≤ b) (hb1 : b < 24) (hd : 0 ≤ d ∧ d < 24)
    (x : Int) (hr : w.cell? ⟨T, 1 + b.toNat, none⟩ = some (.int .i64 x)) (wcap wn : Nat) (hwv : wv = .slice (some ⟨W, 0, none⟩) wn wcap) (i : Nat) (hat : wrap64 (x + c) = i) (hat1 : i < wn) (hwn : wn = s.ws.length) (_hwn' : wn ≤ 200) :
    Calls Tryd.prog 54 #[.pointer (some ⟨T, 0, none⟩), .agg #[.int .i64 15, .int .i64 a, .int .i64 b, .int .i64 c, .int .i64 d], wv] w fun e' w' => e' = .returned (.tuple #[]) ∧ Good w w' T W B cs wv (wordS ⟨15, a, b, c, d⟩ i s) := by
  have hT := h.lt
  have Hi : Hid (i < s.ws.length) := by rw [← hwn]; exact hat1
  clear hwn
  subst hwv
  go_enter Tryd.func54, Tryd.ntmps54
  go_wp2
  go_quiet (fail)
  go_wp2
  refine wp_region_tail 5 (by kernel_rfl) (by kernel_rfl) ?_
  simp only [List.take_succ_cons, List.take_zero, List.drop_succ_cons, List.drop_zero]
  repeat still_step
  refine wpStill_nil ?_
  go_wp2_with fail
  refine (word_at 15 a b c d i _ (by exact ((((Good.start h).alloc _).drewN nq).drew).inv) Hi.out (by omega) ha (fun _ => hd)).mono ?_
  rintro e' w' ⟨rfl, hg⟩
  go_wp2
  go_end0
  exact ⟨rfl, ((((Good.start h).alloc _).drewN nq).drew).trans hg⟩
set_option maxHeartbeats 1000000 in
theorem other_low15 (a b c d : Int) (w : World) (h : Inv w T W B cs wv s) (hb0 : 0 ≤ b) (hb1 : b < 24)
    (x : Int) (hr : w.cell? ⟨T, 1 + b.toNat, none⟩ = some (.int .i64 x)) (wa : Option Addr) (wcap wn : Nat) (hwv : wv = .slice wa wn wcap) (z : Int) (hat : wrap64 (x + c) = z) (hat1 : z < 0) :
    Calls Tryd.prog 54 #[.pointer (some ⟨T, 0, none⟩), .agg #[.int .i64 15, .int .i64 a, .int .i64 b, .int .i64 c, .int .i64 d], wv] w fun e' w' => e' = .returned (.tuple #[]) ∧ Good w w' T W B cs wv (failS s 2) := by
  have hT := h.lt
  subst hwv
  go_enter Tryd.func54, Tryd.ntmps54
  go_wp2
  go_quiet (fail)
  go_wp2_with fail
  refine (fail_calls 2 _ (by exact (((Good.start h).alloc _).drewN nq).inv)).mono ?_
  rintro e' w' ⟨rfl, hg⟩
  go_wp2
  (try simp only [Exit.inBlock, Exit.then])
  refine bodyPost_ret (results_none rfl _ _ _) rfl ?_
  exact ⟨rfl, (((Good.start h).alloc _).drewN nq).trans hg⟩
set_option maxHeartbeats 1000000 in
theorem other_high15 (a b c d : Int) (w : World) (h : Inv w T W B cs wv s) (hb0 : 0 ≤ b) (hb1 : b < 24)
    (x : Int) (hr : w.cell? ⟨T, 1 + b.toNat, none⟩ = some (.int .i64 x)) (wa : Option Addr) (wcap wn : Nat) (hwv : wv = .slice wa wn wcap) (i : Nat) (hat : wrap64 (x + c) = i) (hat1 : wn ≤ i) :
    Calls Tryd.prog 54 #[.pointer (some ⟨T, 0, none⟩), .agg #[.int .i64 15, .int .i64 a, .int .i64 b, .int .i64 c, .int .i64 d], wv] w fun e' w' => e' = .returned (.tuple #[]) ∧ Good w w' T W B cs wv (failS s 2) := by
  have hT := h.lt
  subst hwv
  go_enter Tryd.func54, Tryd.ntmps54
  go_wp2
  go_quiet (fail)
  go_wp2_with fail
  refine (fail_calls 2 _ (by exact (((Good.start h).alloc _).drewN nq).inv)).mono ?_
  rintro e' w' ⟨rfl, hg⟩
  go_wp2
  (try simp only [Exit.inBlock, Exit.then])
  refine bodyPost_ret (results_none rfl _ _ _) rfl ?_
  exact ⟨rfl, (((Good.start h).alloc _).drewN nq).trans hg⟩
set_option maxHeartbeats 1000000 in
theorem other_full (a b c d : Int) (w : World) (h : Inv w T W B cs wv s) (ta : Option Addr) (tc : Nat) (htv : w.cell? ⟨T, 26, none⟩ = some (.slice ta 200 tc)) :
    Calls Tryd.prog 54 #[.pointer (some ⟨T, 0, none⟩), .agg #[.int .i64 16, .int .i64 a, .int .i64 b, .int .i64 c, .int .i64 d], wv] w fun e' w' => e' = .returned (.tuple #[]) ∧ Good w w' T W B cs wv (failS s 8) := by
  have hT := h.lt
  go_enter Tryd.func54, Tryd.ntmps54
  go_wp2_with fail
  refine (fail_calls 8 _ (by exact ((Good.start h).alloc _).inv)).mono ?_
  rintro e' w' ⟨rfl, hg⟩
  go_wp2
  (try simp only [Exit.inBlock, Exit.then])
  refine bodyPost_ret (results_none rfl _ _ _) rfl ?_
  exact ⟨rfl, ((Good.start h).alloc _).trans hg⟩

theorem other_mem (k a b c d : Int) (w : World) (h : Inv w T W B cs wv s) (hk : k = 13 ∨ k = 14 ∨ k = 15) (ha : 0 ≤ a ∧ a < 24) (hb : 0 ≤ b ∧ b < 24) (hd : k = 15 → 0 ≤ d ∧ d < 24) (hws : s.ws.length ≤ 200) :
    Calls Tryd.prog 54 #[.pointer (some ⟨T, 0, none⟩), .agg #[.int .i64 k, .int .i64 a, .int .i64 b, .int .i64 c, .int .i64 d], wv] w fun e' w' => e' = .returned (.tuple #[]) ∧ Good w w' T W B cs wv (otherS ⟨k, a, b, c, d⟩ s) := by
  obtain ⟨tv, ht, _⟩ := h.th
  obtain ⟨wa, wcap, hwv, hwa⟩ := h.words.val
  have hr := ht.reg (i := b.toNat) (by omega)
  have e0 : otherS ⟨k, a, b, c, d⟩ s = if wrap64 (s.r b.toNat + c) < 0 ∨ (s.ws.length : Int) ≤ wrap64 (s.r b.toNat + c) then failS s 2 else wordS ⟨k, a, b, c, d⟩ (wrap64 (s.r b.toNat + c)).toNat s := by
    rcases hk with rfl | rfl | rfl <;> rfl
  rw [e0]
  by_cases h0 : wrap64 (s.r b.toNat + c) < 0
  · rw [if_pos (.inl h0)]
    rcases hk with rfl | rfl | rfl
    · exact other_low13 a b c d w h hb.1 hb.2 _ hr wa wcap _ hwv _ rfl h0
    · exact other_low14 a b c d w h hb.1 hb.2 _ hr wa wcap _ hwv _ rfl h0
    · exact other_low15 a b c d w h hb.1 hb.2 _ hr wa wcap _ hwv _ rfl h0
  · have hi : wrap64 (s.r b.toNat + c) = ((wrap64 (s.r b.toNat + c)).toNat : Int) := by omega
    by_cases h1 : (s.ws.length : Int) ≤ wrap64 (s.r b.toNat + c)
    · rw [if_pos (.inr h1)]
      rcases hk with rfl | rfl | rfl
      · exact other_high13 a b c d w h hb.1 hb.2 _ hr wa wcap _ hwv _ hi (by omega)
      · exact other_high14 a b c d w h hb.1 hb.2 _ hr wa wcap _ hwv _ hi (by omega)
      · exact other_high15 a b c d w h hb.1 hb.2 _ hr wa wcap _ hwv _ hi (by omega)
    · rw [if_neg (by omega)]
      have hwa' := (hwa (by omega)).1
      rw [hwa'] at hwv
      rcases hk with rfl | rfl | rfl
      · exact other_word13 a b c d w h ha hb.1 hb.2 _ hr wcap _ hwv _ hi (by omega) rfl hws
      · exact other_word14 a b c d w h ha hb.1 hb.2 _ hr wcap _ hwv _ hi (by omega) rfl hws
      · exact other_word15 a b c d w h ha hb.1 hb.2 (hd rfl) _ hr wcap _ hwv _ hi (by omega) rfl hws

/-- other: an instruction of a kind from Jump on. -/
theorem other_calls (o : Op5) (n : Nat) (w : World) (h : Inv w T W B cs wv s) (hk : 10 ≤ o.k) (hok : okOp n o = true) (hws : s.ws.length ≤ 200) (htold : s.told.length ≤ 200) :
    Calls Tryd.prog 54 #[.pointer (some ⟨T, 0, none⟩), .agg #[.int .i64 o.k, .int .i64 o.a, .int .i64 o.b, .int .i64 o.c, .int .i64 o.d], wv] w fun e' w' => e' = .returned (.tuple #[]) ∧ Good w w' T W B cs wv (otherS o s) := by
  obtain ⟨k, a, b, c, d⟩ := o
  obtain ⟨tv, ht, ho⟩ := h.th
  have hkk := ok_kind hok
  dsimp only at hk hkk ⊢
  have : k = 10 ∨ k = 11 ∨ k = 12 ∨ (k = 13 ∨ k = 14) ∨ k = 15 ∨ k = 16 ∨ k = 17 := by omega
  rcases this with rfl | rfl | rfl | h13 | rfl | rfl | rfl
  · have hj := ok_jump hok
    refine (other_jump a b c d _ w h.lt ht.c25 (ht.fr _)).mono fun e' w' ⟨he, hw'⟩ => ⟨he, ?_⟩
    subst hw'
    have ea : a = (a.toNat : Int) := by omega
    rw [ea]
    exact ((Good.start h).setPc _).alloc _
  · have hj := ok_way (.inl rfl) hok
    have hr := ht.reg (i := a.toNat) (by omega)
    by_cases hx : s.r a.toNat = 0
    · rw [show otherS ⟨11, a, b, c, d⟩ s = s by simp [otherS, hx]]
      refine (other_when_no a b c d _ w hj.1.1 hj.1.2 h.lt hr hx).mono fun e' w' ⟨he, n, hw'⟩ => ⟨he, ?_⟩
      subst hw'
      exact ((Good.start h).alloc _).drewN n
    · rw [show otherS ⟨11, a, b, c, d⟩ s = { s with pc := b.toNat } by simp [otherS, hx]]
      refine (other_when_go a b c d _ _ w hj.1.1 hj.1.2 h.lt ht.c25 (ht.fr _) hr (by simpa using hx)).mono fun e' w' ⟨he, n, hw'⟩ => ⟨he, ?_⟩
      subst hw'
      have ea : b = (b.toNat : Int) := by omega
      rw [ea]
      exact (((Good.start h).alloc _).drewN n).setPc _
  · have hj := ok_way (.inr rfl) hok
    have hr := ht.reg (i := a.toNat) (by omega)
    by_cases hx : s.r a.toNat = 0
    · rw [show otherS ⟨12, a, b, c, d⟩ s = { s with pc := b.toNat } by simp [otherS, hx]]
      refine (other_unless_go a b c d _ _ w hj.1.1 hj.1.2 h.lt ht.c25 (ht.fr _) hr hx).mono fun e' w' ⟨he, n, hw'⟩ => ⟨he, ?_⟩
      subst hw'
      have ea : b = (b.toNat : Int) := by omega
      rw [ea]
      exact (((Good.start h).alloc _).drewN n).setPc _
    · rw [show otherS ⟨12, a, b, c, d⟩ s = s by simp [otherS, hx]]
      refine (other_unless_no a b c d _ w hj.1.1 hj.1.2 h.lt hr (by simpa using hx)).mono fun e' w' ⟨he, n, hw'⟩ => ⟨he, ?_⟩
      subst hw'
      exact ((Good.start h).alloc _).drewN n
  · have hj := ok_mem h13 hok
    exact other_mem k a b c d w h (h13.elim .inl (fun e => .inr (.inl e))) hj.1 hj.2.1 (fun e => by omega) hws
  · have hj := ok_cas hok
    exact other_mem 15 a b c d w h (.inr (.inr rfl)) hj.1 hj.2.1 (fun _ => hj.2.2) hws
  · have hj := ok_emit hok
    have hr := ht.reg (i := a.toNat) (by omega)
    by_cases hl : s.told.length = 200
    · rw [show otherS ⟨16, a, b, c, d⟩ s = failS s 8 by simp [otherS, hl]]
      obtain ⟨ta, tc, htv⟩ := own_slice ho
      have c26 := ht.c26
      rw [htv, hl] at c26
      exact other_full a b c d w h ta tc c26
    · rw [show otherS ⟨16, a, b, c, d⟩ s = { s with told := s.told ++ [s.r a.toNat] } by simp [otherS, hl]]
      exact other_emit a b c d _ w tv s.told hj.1.1 hj.1.2 h.lt hr (by omega) ho ht.c26 (ht.fr _) h.bw h.tb (fun w' => Good w w' T W B cs wv { s with told := s.told ++ [s.r a.toNat] })
        (fun v' w1 h1 hg => Good.emit h ht ho ((((Kept.refl NoB w).alloc _).alloc _).drew) hg h1)
  · refine (other_done a b c d _ w h.lt ht.c28 (ht.fr _)).mono fun e' w' ⟨he, hw'⟩ => ⟨he, ?_⟩
    subst hw'
    exact ((Good.start h).setOver true).alloc _
end Go.Proofs.YtmnfgigieafehaaDoor
