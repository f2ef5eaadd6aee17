/- Walks of vm's small functions: flag, quotient, fail, word. Conditions: the thread's cells lie as 'Inv' says; the word exists; the operands are registers. -/
import Derived.Test.YtmnfgigieafehaaDoorProg
import Derived.Test.YtmnfgigieafehaaDoorBase
import Derived.WalkSpells
import Derived.WalkLawsBesides
import Derived.BigQuiet
import Derived.Deep.RegionHeld3
namespace Go.Proofs.YtmnfgigieafehaaDoor
open Go.RowKit
set_option maxRecDepth 100000

theorem ret_int {k : IntKind} {a b : Int} (h : a = b) : Ending.returned (.int k a) = .returned (.int k b) := by rw [h]

theorem flag_true (w : World) : Calls Tryd.prog 53 #[.bool true] w fun e w' => e = .returned (.int .i64 1) ∧ w = w' := by
  go_enter Tryd.func53, Tryd.ntmps53
  go_wp2
  go_ret
  exact ⟨rfl, rfl⟩
theorem flag_false (w : World) : Calls Tryd.prog 53 #[.bool false] w fun e w' => e = .returned (.int .i64 0) ∧ w = w' := by
  go_enter Tryd.func53, Tryd.ntmps53
  go_wp2
  go_ret
  exact ⟨rfl, rfl⟩
theorem flag_calls (b : Bool) (w : World) : Calls Tryd.prog 53 #[.bool b] w fun e w' => e = .returned (.int .i64 (flagI b)) ∧ w = w' := by
  cases b
  · exact flag_false w
  · exact flag_true w
theorem flag_still (b : Bool) (w : World) : Calls Tryd.prog 53 #[.bool b] w fun e w' => e = .returned (.int .i64 (flagI b)) ∧ w' = w :=
  (flag_calls b w).mono fun _ _ ⟨h, k⟩ => ⟨h, k.symm⟩

theorem quo_zero (a b : Int) (r : Bool) (h : (b == 0) = true) (w : World) : Calls Tryd.prog 52 #[.int .i64 a, .int .i64 b, .bool r] w fun e w' => e = .returned (.int .i64 0) ∧ w = w' := by
  go_enter Tryd.func52, Tryd.ntmps52
  go_wp2
  go_ret
  exact ⟨rfl, rfl⟩
theorem quo_rem (a b : Int) (h : (b == 0) = false) (h' : ¬ b = 0) (w : World) : Calls Tryd.prog 52 #[.int .i64 a, .int .i64 b, .bool true] w fun e w' => e = .returned (.int .i64 (a.tmod b)) ∧ w = w' := by
  go_enter Tryd.func52, Tryd.ntmps52
  go_wp2
  go_ret
  exact ⟨rfl, rfl⟩
theorem quo_quo (a b : Int) (h : (b == 0) = false) (h' : ¬ b = 0) (w : World) : Calls Tryd.prog 52 #[.int .i64 a, .int .i64 b, .bool false] w fun e w' => e = .returned (.int .i64 (wrap64 (a.tdiv b))) ∧ w = w' := by
  go_enter Tryd.func52, Tryd.ntmps52
  go_wp2
  go_ret
  exact ⟨rfl, rfl⟩
theorem quo_still (a b : Int) (r : Bool) (w : World) : Calls Tryd.prog 52 #[.int .i64 a, .int .i64 b, .bool r] w fun e w' => e = .returned (.int .i64 (quoI a b r)) ∧ w' = w := by
  by_cases h : b = 0
  · refine (quo_zero a b r (by simpa using h) w).mono fun e w' ⟨he, hw⟩ => ⟨?_, hw.symm⟩
    rw [he, quoI, if_pos h]
  · cases r
    · refine (quo_quo a b (by simpa using h) h w).mono fun e w' ⟨he, hw⟩ => ⟨?_, hw.symm⟩
      rw [he, quoI, if_neg h]; rfl
    · refine (quo_rem a b (by simpa using h) h w).mono fun e w' ⟨he, hw⟩ => ⟨?_, hw.symm⟩
      rw [he, quoI, if_neg h]; rfl

theorem fail_walk (T : Nat) (e : Int) (w : World) (c4 c5 : Value)
   (h4 : w.cell? ⟨T, 27, none⟩ = some c4) (h5 : w.cell? ⟨T, 28, none⟩ = some c5) (f4 : w.frozen? ⟨T, 27, none⟩ = false) (f5 : w.frozen? ⟨T, 28, none⟩ = false) :
   Calls Tryd.prog 59 #[.pointer (some ⟨T, 0, none⟩), .int .i64 e] w fun e' w' => e' = .returned (.tuple #[]) ∧ (w.setCell ⟨T, 27, none⟩ (.int .i64 e)).setCell ⟨T, 28, none⟩ (.bool true) = w' := by
  go_enter Tryd.func59, Tryd.ntmps59
  go_wp2
  go_end0
  exact ⟨rfl, rfl⟩

variable {T W B : Nat} {cs wv : Value} {s : St}
theorem fail_calls (e : Int) (w : World) (h : Inv w T W B cs wv s) :
    Calls Tryd.prog 59 #[.pointer (some ⟨T, 0, none⟩), .int .i64 e] w fun e' w' => e' = .returned (.tuple #[]) ∧ Good w w' T W B cs wv (failS s e) := by
  obtain ⟨tv, ht, _⟩ := h.th
  refine (fail_walk T e w _ _ ht.c27 ht.c28 (ht.fr _) (ht.fr _)).mono fun e' w' ⟨he, hw⟩ => ⟨he, ?_⟩
  subst hw
  exact ((Good.start h).setCode e).setOver true

theorem word_load (i : Nat) (a b c d x ra : Int) (w : World) (ha0 : 0 ≤ a) (ha1 : a < 24) (hT : T < w.heap.size) (hW : W < w.heap.size)
    (hw : w.cell? ⟨W, i, none⟩ = some (.int .i64 x)) (hr : w.cell? ⟨T, 1 + a.toNat, none⟩ = some (.int .i64 ra)) (fr : w.frozen? ⟨T, 1 + a.toNat, none⟩ = false) :
    Calls Tryd.prog 60 #[.pointer (some ⟨T, 0, none⟩), .agg #[.int .i64 13, .int .i64 a, .int .i64 b, .int .i64 c, .int .i64 d], .pointer (some ⟨W, i, none⟩)] w fun e' w' => e' = .returned (.tuple #[]) ∧
      ((w.setCell ⟨T, 1 + a.toNat, none⟩ (.int .i64 x)).alloc (.cells #[.int .i64 13, .int .i64 a, .int .i64 b, .int .i64 c, .int .i64 d] 28)).drew = w' := by
  go_enter Tryd.func60, Tryd.ntmps60
  go_wp2
  refine wp_region_tail 8 (by kernel_rfl) (by kernel_rfl) ?_
  simp only [List.take_succ_cons, List.take_zero, List.drop_succ_cons, List.drop_zero]
  repeat still_step
  refine wpStill_nil ?_
  go_wp2
  go_end0
  exact ⟨rfl, rfl⟩
theorem word_store (i : Nat) (a b c d x ra : Int) (w : World) (ha0 : 0 ≤ a) (ha1 : a < 24) (hT : T < w.heap.size) (hW : W < w.heap.size)
    (hw : w.cell? ⟨W, i, none⟩ = some (.int .i64 x)) (hr : w.cell? ⟨T, 1 + a.toNat, none⟩ = some (.int .i64 ra)) (fr : w.frozen? ⟨W, i, none⟩ = false) :
    Calls Tryd.prog 60 #[.pointer (some ⟨T, 0, none⟩), .agg #[.int .i64 14, .int .i64 a, .int .i64 b, .int .i64 c, .int .i64 d], .pointer (some ⟨W, i, none⟩)] w fun e' w' => e' = .returned (.tuple #[]) ∧
      ((w.setCell ⟨W, i, none⟩ (.int .i64 ra)).alloc (.cells #[.int .i64 14, .int .i64 a, .int .i64 b, .int .i64 c, .int .i64 d] 28)).drew = w' := by
  go_enter Tryd.func60, Tryd.ntmps60
  go_wp2
  refine wp_region_tail 8 (by kernel_rfl) (by kernel_rfl) ?_
  simp only [List.take_succ_cons, List.take_zero, List.drop_succ_cons, List.drop_zero]
  repeat still_step
  refine wpStill_nil ?_
  go_wp2
  go_end0
  exact ⟨rfl, rfl⟩
theorem word_cas_no (i : Nat) (a b c d x ra rd : Int) (w : World) (ha0 : 0 ≤ a) (ha1 : a < 24) (hd0 : 0 ≤ d) (hd1 : d < 24) (hT : T < w.heap.size) (hW : W < w.heap.size)
    (hw : w.cell? ⟨W, i, none⟩ = some (.int .i64 x)) (hr : w.cell? ⟨T, 1 + a.toNat, none⟩ = some (.int .i64 ra)) (hrd : w.cell? ⟨T, 1 + d.toNat, none⟩ = some (.int .i64 rd))
    (fr : w.frozen? ⟨T, 1 + a.toNat, none⟩ = false) (hx : (x == rd) = false) :
    Calls Tryd.prog 60 #[.pointer (some ⟨T, 0, none⟩), .agg #[.int .i64 15, .int .i64 a, .int .i64 b, .int .i64 c, .int .i64 d], .pointer (some ⟨W, i, none⟩)] w fun e' w' => e' = .returned (.tuple #[]) ∧
      ∃ n, ((w.alloc (.cells #[.int .i64 15, .int .i64 a, .int .i64 b, .int .i64 c, .int .i64 d] 28)).drewN n).setCell ⟨T, 1 + a.toNat, none⟩ (.int .i64 0) = w' := by
  go_enter Tryd.func60, Tryd.ntmps60
  go_wp2
  go_quiet (fail)
  go_wp2
  refine wp_region_tail 7 (by kernel_rfl) (by kernel_rfl) ?_
  simp only [List.take_succ_cons, List.take_zero, List.drop_succ_cons, List.drop_zero]
  repeat still_step
  still_call (flag_still false _)
  repeat still_step
  refine wpStill_nil ?_
  go_wp2
  go_end0
  exact ⟨rfl, ⟨nq + 1, rfl⟩⟩
theorem word_cas_yes (i : Nat) (a b c d x ra : Int) (w : World) (ha0 : 0 ≤ a) (ha1 : a < 24) (hd0 : 0 ≤ d) (hd1 : d < 24) (hT : T < w.heap.size) (hW : W < w.heap.size) (hTW : T ≠ W)
    (hw : w.cell? ⟨W, i, none⟩ = some (.int .i64 x)) (hr : w.cell? ⟨T, 1 + a.toNat, none⟩ = some (.int .i64 ra)) (hrd : w.cell? ⟨T, 1 + d.toNat, none⟩ = some (.int .i64 x))
    (fr : w.frozen? ⟨T, 1 + a.toNat, none⟩ = false) (fw : w.frozen? ⟨W, i, none⟩ = false) (_hr' : (w.setCell ⟨W, i, none⟩ (.int .i64 ra)).cell? ⟨T, 1 + a.toNat, none⟩ = some (.int .i64 ra)) :
    Calls Tryd.prog 60 #[.pointer (some ⟨T, 0, none⟩), .agg #[.int .i64 15, .int .i64 a, .int .i64 b, .int .i64 c, .int .i64 d], .pointer (some ⟨W, i, none⟩)] w fun e' w' => e' = .returned (.tuple #[]) ∧
      ∃ n, ((((w.alloc (.cells #[.int .i64 15, .int .i64 a, .int .i64 b, .int .i64 c, .int .i64 d] 28)).drewN n).setCell ⟨W, i, none⟩ (.int .i64 ra)).setCell ⟨T, 1 + a.toNat, none⟩ (.int .i64 1)).drew = w' := by
  go_enter Tryd.func60, Tryd.ntmps60
  go_wp2
  go_quiet (fail)
  go_wp2
  refine wp_region_tail 8 (by kernel_rfl) (by kernel_rfl) ?_
  simp only [List.take_succ_cons, List.take_zero, List.drop_succ_cons, List.drop_zero]
  repeat still_step
  refine wpStill_nil ?_
  go_wp2
  refine wp_region_tail 7 (by kernel_rfl) (by kernel_rfl) ?_
  simp only [List.take_succ_cons, List.take_zero, List.drop_succ_cons, List.drop_zero]
  repeat still_step
  still_call (flag_still true _)
  repeat still_step
  refine wpStill_nil ?_
  go_wp2
  go_end0
  exact ⟨rfl, ⟨nq + 1, rfl⟩⟩

/-- word: one of Load, Store, Cas at a word that there is. -/
theorem word_calls (o : Op5) (i : Nat) (w : World) (h : Inv w T W B cs wv s) (hi : i < s.ws.length) (hk : o.k = 13 ∨ o.k = 14 ∨ o.k = 15) (ha : 0 ≤ o.a ∧ o.a < 24) (hd : o.k = 15 → 0 ≤ o.d ∧ o.d < 24) :
    Calls Tryd.prog 60 #[.pointer (some ⟨T, 0, none⟩), .agg #[.int .i64 o.k, .int .i64 o.a, .int .i64 o.b, .int .i64 o.c, .int .i64 o.d], .pointer (some ⟨W, i, none⟩)] w
      fun e' w' => e' = .returned (.tuple #[]) ∧ Good w w' T W B cs wv (wordS o i s) := by
  obtain ⟨k, a, b, c, d⟩ := o
  obtain ⟨tv, ht, _⟩ := h.th
  obtain ⟨hw, fw, hW, hTW⟩ := h.word hi
  have hra := ht.reg (i := a.toNat) (by have := ha.1; have := ha.2; dsimp only at *; omega)
  have ha' : a.toNat < 24 := by have := ha.1; have := ha.2; dsimp only at *; omega
  dsimp only at hk ha hd ⊢
  rcases hk with rfl | rfl | rfl
  · refine (word_load i a b c d _ _ w ha.1 ha.2 h.lt hW hw hra (ht.fr _)).mono fun e' w' ⟨he, hw'⟩ => ⟨he, ?_⟩
    subst hw'
    exact (((Good.start h).setReg ha' _).alloc _).drew
  · refine (word_store i a b c d _ _ w ha.1 ha.2 h.lt hW hw hra fw).mono fun e' w' ⟨he, hw'⟩ => ⟨he, ?_⟩
    subst hw'
    exact (((Good.start h).setWord hi _).alloc _).drew
  · have hd := hd rfl
    have hrd := ht.reg (i := d.toNat) (by omega)
    by_cases hx : s.ws.getD i 0 = s.r d.toNat
    · have hr' := (ht.other (a := ⟨W, i, none⟩) hTW (.int .i64 (s.r a.toNat))).reg ha'
      refine (word_cas_yes i a b c d _ _ w ha.1 ha.2 hd.1 hd.2 h.lt hW hTW hw hra (hx ▸ hrd) (ht.fr _) fw hr').mono fun e' w' ⟨he, n, hw'⟩ => ⟨he, ?_⟩
      subst hw'
      have e1 : wordS ⟨15, a, b, c, d⟩ i s = { s with ws := s.ws.set i (s.r a.toNat), r := upd s.r a.toNat 1 } := by
        simp only [wordS]; rw [if_neg (by decide), if_neg (by decide), if_pos hx]
      rw [e1]
      exact (((((Good.start h).alloc _).drewN n).setWord hi _).setReg ha' _).drew
    · refine (word_cas_no i a b c d _ _ _ w ha.1 ha.2 hd.1 hd.2 h.lt hW hw hra hrd (ht.fr _) (by simpa using hx)).mono fun e' w' ⟨he, n, hw'⟩ => ⟨he, ?_⟩
      subst hw'
      have e1 : wordS ⟨15, a, b, c, d⟩ i s = { s with r := upd s.r a.toNat 0 } := by
        simp only [wordS]; rw [if_neg (by decide), if_neg (by decide), if_neg hx]
      rw [e1]
      exact (((Good.start h).alloc _).drewN n).setReg ha' _
end Go.Proofs.YtmnfgigieafehaaDoor
