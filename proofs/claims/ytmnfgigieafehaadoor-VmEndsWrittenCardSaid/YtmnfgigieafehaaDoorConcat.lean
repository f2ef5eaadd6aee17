/- Walks of slices.Grow and slices.Concat of instructions. Conditions: the slices' cells hold what is said; their bytes keep the reach. -/
import Derived.Test.YtmnfgigieafehaaDoorSmall
import Derived.Test.YtmnfgigieafehaaDoorSure
import Derived.Deep.DeepCutAuto
namespace Go.Proofs.YtmnfgigieafehaaDoor
open Go.RowKit
set_option maxRecDepth 100000

set_option maxHeartbeats 400000 in
theorem grow_calls (n : Nat) (hn : 0 < n) (hn2 : n ≤ 400) (w : World) : Calls Tryd.prog 58 #[.slice none 0 0, .int .i64 n] w fun e w' => ∃ v, e = .returned v ∧ w'.ownsRow w.heap.size 28 5 v 0 [] ∧ Kept NoB w w' ∧ v ≠ .slice none 0 0 := by
  have hnx : Builtin.nextslicecap n 0 = n := by unfold Builtin.nextslicecap; rw [if_pos (by omega)]
  have hby : Tryd.t28.bytes = 40 := by kernel_rfl
  have g1 : ¬ 281474976710656 < Builtin.nextslicecap n 0 * Tryd.t28.bytes := by rw [hnx, hby]; omega
  have g2 : ¬ (281474976710656 : Int) < (n : Int) * (Tryd.t28.bytes : Int) := by rw [hby]; omega
  have g3 : ¬ n = 0 := by omega
  have g4 : ¬ n * 5 = 0 := by omega
  have g5 : ¬ (9223372036854775807 : Int) < n := by omega
  clear hnx hby
  go_enter Tryd.func58, Tryd.ntmps58
  go_wp2_with fail
  go_ret
  have hge : n ≤ (Question.appendCap n 0 28).cut (w.tape w.drawn (Question.appendCap n 0 28)) := by simp [Question.cut]
  have hle : (Question.appendCap n 0 28).cut (w.tape w.drawn (Question.appendCap n 0 28)) ≤ maxLen := grownCap_le_maxLen w n 0 28 (by unfold maxLen; omega)
  refine ⟨_, rfl, ?_, ((Kept.refl NoB w).alloc _).drew, by intro h; cases h⟩
  have := World.ownsRow_made (base := w.heap.size) (size := 5) (e := 28) w (Builtin.zeroCells #[Value.int IntKind.i64 0, Value.int IntKind.i64 0, Value.int IntKind.i64 0, Value.int IntKind.i64 0, Value.int IntKind.i64 0] n ++
            Builtin.zeroCells #[Value.int IntKind.i64 0, Value.int IntKind.i64 0, Value.int IntKind.i64 0, Value.int IntKind.i64 0, Value.int IntKind.i64 0] ((Question.appendCap n 0 28).cut (w.tape w.drawn (Question.appendCap n 0 28)) - n))
    ((Question.appendCap n 0 28).cut (w.tape w.drawn (Question.appendCap n 0 28))) (Nat.le_refl _) hle (by rw [Array.size_append, size_zeroCells, size_zeroCells]; simp; omega)
  exact this
def sumN (n : Nat → Nat) : Nat → Nat
  | 0 => 0
  | j + 1 => sumN n j + n j
def catX (x : Nat → List Value) : Nat → List Value
  | 0 => []
  | j + 1 => catX x j ++ x j
theorem sumN_mono (n : Nat → Nat) {i j : Nat} (h : i ≤ j) : sumN n i ≤ sumN n j := by
  induction h with
  | refl => exact Nat.le_refl _
  | step _ ih => exact Nat.le_trans ih (Nat.le_add_right _ _)
set_option maxHeartbeats 2000000 in
/-- slices.Concat of m parts. -/
theorem concat_calls (B m : Nat) (ad : Nat → Addr) (n c : Nat → Nat) (xs : Nat → List Value) (w : World)
    (hp : Hid (∀ j, j < m → w.cell? ⟨B, j, none⟩ = some (.slice (some (ad j)) (n j) (c j))))
    (hl : Hid (∀ j, j < m → (xs j).length = n j * 5)) (h1 : Hid (∀ j, j < m → ∀ u ∈ xs j, u.oneCell' = true))
    (hc : Hid (∀ j, j < m → ∀ i u, (xs j)[i]? = some u → w.cell? ((ad j).add i) = some u))
    (hpos : Hid (0 < sumN n m)) (hle : Hid (sumN n m ≤ 400)) (hm : m ≤ 3) :
    Calls Tryd.prog 51 #[.slice (some ⟨B, 0, none⟩) m m] w fun e w' => ∃ v, e = .returned v ∧ w'.ownsRow w.heap.size 28 5 v (sumN n m) (catX xs m) ∧ Kept NoB w w' := by
  obtain ⟨i0, hi, hz0, hz1, hz2⟩ := info_parts info28
  go_enter Tryd.func51, Tryd.ntmps51
  go_wp2
  go_loop [3, 11] (fun v i => ∃ j : Nat, j ≤ m ∧ i = .int .i64 j ∧ v = .int .i64 (sumN n j)) (fun _ i => m - (intOf i).toNat)
  case atStart => exact ⟨0, by omega, rfl, rfl⟩
  case round =>
    obtain ⟨j, hj, rfl, rfl⟩ := hrel
    by_cases hjm : j < m
    · have c0 := hp.out j hjm
      have hB := World.block_lt_of_cell? w _ c0
      have hs1 : sumN n j + n j ≤ 400 := Nat.le_trans (sumN_mono n (show j + 1 ≤ m by omega)) hle.out
      have hS := Lib.hid (show sumN n (j + 1) = sumN n j + n j from rfl)
      obtain ⟨t, ht⟩ : ∃ t, t = sumN n j := ⟨_, rfl⟩
      obtain ⟨k, hk⟩ : ∃ k, k = n j := ⟨_, rfl⟩
      rw [← ht, ← hk] at hs1 hS
      rw [← ht]
      rw [← hk] at c0
      clear ht hk
      go_wp2_with fail
      go_round
      case rel => exact ⟨j + 1, by omega, by go_num, by rw [hS.out]; exact congrArg (Value.int .i64) (by omega)⟩
      case measure => simp only [intOf]; omega
    · have hjm2 : m = j := by omega
      subst hjm2
      have hpos' : 0 < sumN n m := hpos.out
      have hle' : sumN n m ≤ 400 := hle.out
      obtain ⟨t, ht⟩ : ∃ t, t = sumN n m := ⟨_, rfl⟩
      have HT := Lib.hid ht
      rw [← ht] at hpos' hle'
      rw [← ht]
      clear ht
      as_aux_lemma =>
      go_wp2_with fail
      refine (grow_calls t hpos' hle' w).mono ?_
      rintro e' w1 ⟨v1, rfl, ho1, k1, hne⟩
      have Ho1 := Lib.hid ho1
      have K1 := Lib.hid k1
      clear ho1 k1 hne
      go_wp2_with fail
      go_loopw [6, 27] (fun v i wr => ∃ j : Nat, j ≤ m ∧ i = .int .i64 j ∧ wr.ownsRow w.heap.size 28 5 v (sumN n j) (catX xs j) ∧ Kept NoB w wr) (fun _ i _ => m - (intOf i).toNat)
      case atStart => exact ⟨0, by omega, rfl, Ho1.out, K1.out⟩
      case round =>
        obtain ⟨j, hj, rfl, ho, hk⟩ := hrel
        have Ho := Lib.hid ho
        have Hk := Lib.hid hk
        clear ho hk
        by_cases hjm : j < m
        · have c0 := Hk.out.cell (hp.out j hjm) id
          have hB := World.block_lt_of_cell? wr _ c0
          have Hl := Lib.hid (hl.out j hjm)
          have H1 := Lib.hid (h1.out j hjm)
          have Hc : Hid (∀ i u, (xs j)[i]? = some u → wr.cell? ((ad j).add i) = some u) := fun i u hu => Hk.out.cell (hc.out j hjm i u hu) id
          have hs1 : sumN n j + n j ≤ 400 := Nat.le_trans (sumN_mono n (show j + 1 ≤ m by omega)) hle.out
          have hbase := Hk.out.size
          go_wp2_with (at_builtin; refine wpList_append_own _ rfl (.tmp 31) (.tmp 32) 22 rfl w.heap.size 28 i0 (.agg #[.int .i64 0, .int .i64 0, .int .i64 0, .int .i64 0, .int .i64 0]) 5 40 Tryd.underlying22 hi hz0 hz1 hz2 rfl (by decide) u6 (sumN n j) (catX xs j) rfl Ho.out (ad j) (n j) (c j) (xs j) rfl Hl.out Hc.out H1.out ?h63 ?hby hbase ?_; rotate_right; intro v' w2 hown hgrow _)
          · have k2 : Kept NoB w w2 := Hk.out.grown hgrow (fun k hk hlt => by have := (Ho.out.lt k hk).1; omega)
            have K2 := Lib.hid k2
            have O2 := Lib.hid hown
            clear k2 hown hgrow
            go_roundw
            case rel => exact ⟨j + 1, by omega, rfl, O2.out, K2.out⟩
            case measure => simp only [intOf]; omega
          · unfold maxLen; omega
          · omega
        · have hjm2 : m = j := by omega
          subst hjm2
          go_wp2_with fail
          go_ret
          exact ⟨_, rfl, Ho.out, Hk.out⟩
end Go.Proofs.YtmnfgigieafehaaDoor
