/- Walks of the laws' small functions: wI, wMakes, wPick, wTarget. Conditions: the cells that are read hold what is said. -/
import Derived.Test.YtmnfgigieafehaaDoorClone
import Derived.Test.YtmnfgigieafehaaDoorEqual
namespace Go.Proofs.YtmnfgigieafehaaDoor
open Go.RowKit
set_option maxRecDepth 100000

def opAgg (o : Op5) : Value := .agg #[.int .i64 o.k, .int .i64 o.a, .int .i64 o.b, .int .i64 o.c, .int .i64 o.d]
theorem wI_calls (k a b c : Int) (w : World) : Calls Tryd.prog 20 #[.int .i64 k, .int .i64 a, .int .i64 b, .int .i64 c] w fun e w' =>
    e = .returned (.agg #[.int .i64 k, .int .i64 a, .int .i64 b, .int .i64 c, .int .i64 0]) ∧ w.alloc (.cells #[.int .i64 k, .int .i64 a, .int .i64 b, .int .i64 c, .int .i64 0] 28) = w' := by
  go_enter Tryd.func20, Tryd.ntmps20
  go_wp2
  exact bodyPost_ret (v := .agg #[.int .i64 k, .int .i64 a, .int .i64 b, .int .i64 c, .int .i64 0]) (by simp [results, Tryd.results20, go_sem]) rfl ⟨rfl, rfl⟩

theorem target_jump (b o : Nat) (w : World) (h : w.cell? ⟨b, o, none⟩ = some (.int .i64 10)) : Calls Tryd.prog 28 #[.pointer (some ⟨b, o, none⟩)] w fun e w' => e = .returned (.pointer (some ⟨b, o + 1, none⟩)) ∧ w = w' := by
  go_enter Tryd.func28, Tryd.ntmps28
  go_wp2
  go_ret
  exact ⟨rfl, rfl⟩
theorem target_when (b o : Nat) (k : Int) (hk : k = 11 ∨ k = 12) (w : World) (h : w.cell? ⟨b, o, none⟩ = some (.int .i64 k)) : Calls Tryd.prog 28 #[.pointer (some ⟨b, o, none⟩)] w fun e w' => e = .returned (.pointer (some ⟨b, o + 2, none⟩)) ∧ w = w' := by
  rcases hk with rfl | rfl
  all_goals
    go_enter Tryd.func28, Tryd.ntmps28
    go_wp2
    go_ret
    exact ⟨rfl, rfl⟩
theorem target_none (b o : Nat) (k : Int) (h1 : (k == 10) = false) (h2 : (k == 11) = false) (h3 : (k == 12) = false) (w : World) (h : w.cell? ⟨b, o, none⟩ = some (.int .i64 k)) : Calls Tryd.prog 28 #[.pointer (some ⟨b, o, none⟩)] w fun e w' => e = .returned (.pointer none) ∧ w = w' := by
  go_enter Tryd.func28, Tryd.ntmps28
  go_wp2
  go_ret
  exact ⟨rfl, rfl⟩
/-- Where in an instruction its target stands, if it has one. -/
def tgtOff (k : Int) : Option Nat := if k = 10 then some 1 else if k = 11 ∨ k = 12 then some 2 else none
theorem target_calls (b o : Nat) (k : Int) (w : World) (h : w.cell? ⟨b, o, none⟩ = some (.int .i64 k)) : Calls Tryd.prog 28 #[.pointer (some ⟨b, o, none⟩)] w fun e w' => e = .returned (.pointer ((tgtOff k).map fun j => ⟨b, o + j, none⟩)) ∧ w = w' := by
  unfold tgtOff
  by_cases h1 : k = 10
  · subst h1; rw [if_pos rfl]; exact target_jump b o w h
  · rw [if_neg h1]
    by_cases h2 : k = 11 ∨ k = 12
    · rw [if_pos h2]; exact target_when b o k h2 w h
    · rw [if_neg h2]; exact target_none b o k (by simpa using h1) (by simp only [beq_eq_false_iff_ne]; omega) (by simp only [beq_eq_false_iff_ne]; omega) w h

def pickI (x n : Int) : Int := wrap64 ((IntKind.u64.wrap x).tmod n)
theorem pickI_in (x : Int) (n : Nat) (hn : 0 < n) (hn2 : n ≤ 200) : 0 ≤ pickI x n ∧ pickI x n < n := by
  have h0 : 0 ≤ IntKind.u64.wrap x := by rw [IntKind.wrap_u64]; omega
  have h1 : (IntKind.u64.wrap x).tmod n = IntKind.u64.wrap x % n := Int.tmod_eq_emod_of_nonneg h0
  have h2 := Int.emod_nonneg (IntKind.u64.wrap x) (show (n : Int) ≠ 0 by omega)
  have h3 := Int.emod_lt_of_pos (IntKind.u64.wrap x) (show (0 : Int) < n by omega)
  unfold pickI
  rw [h1, IntWalk.wrap64_in _ ⟨by omega, by omega⟩]
  exact ⟨h2, h3⟩
set_option maxHeartbeats 400000 in
theorem pick_calls (x : Int) (n : Nat) (hn : 0 < n) (hn2 : n ≤ 200) (w : World) : Calls Tryd.prog 29 #[.int .i64 x, .int .i64 n] w fun e w' => e = .returned (.int .i64 (pickI x n)) ∧ w = w' := by
  have hnz : ¬ (n : Int) = 0 := by omega
  have hn' : ((n : Int) == 0) = false := by simp; omega
  go_enter Tryd.func29, Tryd.ntmps29
  go_wp2
  go_ret
  exact ⟨rfl, rfl⟩
def makesI (k : Int) : Bool := (decide (1 ≤ k) && decide (k ≤ 9)) || k == 13
theorem makes_calls (o : Op5) (w : World) : Calls Tryd.prog 19 #[opAgg o] w fun e w' => e = .returned (.bool (makesI o.k)) ∧ Kept NoB w w' := by
  obtain ⟨k, a, b, c, d⟩ := o
  unfold opAgg makesI
  dsimp only
  by_cases h1 : 1 ≤ k
  · by_cases h9 : k ≤ 9
    · go_enter Tryd.func19, Tryd.ntmps19
      go_wp2
      go_ret
      exact ⟨by simp [h1, h9], (Kept.refl NoB w).alloc _⟩
    · by_cases h13 : k = 13
      · subst h13
        go_enter Tryd.func19, Tryd.ntmps19
        go_wp2
        go_ret
        exact ⟨rfl, (Kept.refl NoB w).alloc _⟩
      · have h13' : (k == 13) = false := by simpa using h13
        go_enter Tryd.func19, Tryd.ntmps19
        go_wp2
        go_ret
        exact ⟨by rw [decide_eq_false (show ¬ k ≤ 9 by omega)]; rfl, (Kept.refl NoB w).alloc _⟩
  · by_cases h13 : k = 13
    · omega
    · have h13' : (k == 13) = false := by simpa using h13
      go_enter Tryd.func19, Tryd.ntmps19
      go_wp2
      go_ret
      exact ⟨by rw [decide_eq_false (show ¬ 1 ≤ k by omega)]; rfl, (Kept.refl NoB w).alloc _⟩
end Go.Proofs.YtmnfgigieafehaaDoor
