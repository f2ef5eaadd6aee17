/- The machine of one code and one thread with one call, in memory; walks of run's May and of the searches in it and in Play. Conditions: the machine lies as 'MachAt' says; its code may be; its sizes are in their bounds. -/
import Derived.Test.YtmnfgigieafehaaDoorSure
namespace Go.Proofs.YtmnfgigieafehaaDoor
open Go.RowKit
set_option maxRecDepth 100000

/-- The cells of the machine beside its words. -/
structure MachAt (w : World) (CB TB KB : Nat) (cv av : Value) : Prop where
  codes : w.cell? ⟨CB, 0, none⟩ = some cv
  threads : w.cell? ⟨TB, 0, none⟩ = some (.slice (some ⟨KB, 0, none⟩) 1 1)
  call0 : w.cell? ⟨KB, 0, none⟩ = some (.int .i64 0)
  call1 : w.cell? ⟨KB, 1, none⟩ = some av
theorem MachAt.kept {w w' : World} {CB TB KB : Nat} {cv av : Value} (h : MachAt w CB TB KB cv av) (hk : Kept NoB w w') : MachAt w' CB TB KB cv av :=
  ⟨hk.cell h.codes id, hk.cell h.threads id, hk.cell h.call0 id, hk.cell h.call1 id⟩
def machV (wv : Value) (CB TB : Nat) : Value := .agg #[wv, .slice (some ⟨CB, 0, none⟩) 1 1, .slice (some ⟨TB, 0, none⟩) 1 1]

/-- Play's test of a number of the schedule, at 0. -/
theorem play1_walk (MB TB : Nat) (w : World) (h : w.cell? ⟨MB, 2, none⟩ = some (.slice (some ⟨TB, 0, none⟩) 1 1)) :
    Calls Tryd.prog 50 #[.int .i64 0, .pointer (some ⟨MB, 0, none⟩)] w fun e w' => e = .returned (.bool false) ∧ w = w' := by
  go_enter Tryd.func50, Tryd.ntmps50
  go_wp2
  go_ret
  exact ⟨rfl, rfl⟩
/-- May's test of a call, at the one call. -/
theorem may1_walk (MB CB : Nat) (a : Option Addr) (m c : Nat) (w : World) (hm : m ≤ 8) (hMB : MB < w.heap.size) (h : w.cell? ⟨MB, 1, none⟩ = some (.slice (some ⟨CB, 0, none⟩) 1 1)) :
    Calls Tryd.prog 55 #[.agg #[.int .i64 0, .slice a m c], .pointer (some ⟨MB, 0, none⟩)] w fun e w' => e = .returned (.bool false) ∧ w.alloc (.cells #[.int .i64 0, .slice a m c] 49) = w' := by
  go_enter Tryd.func55, Tryd.ntmps55
  go_wp2
  go_ret
  refine ⟨?_, rfl⟩
  have h8 : decide ((8 : Int) < (m : Int)) = false := decide_eq_false (by omega)
  exact congrArg (fun b => Ending.returned (.bool b)) h8

set_option maxHeartbeats 1000000 in
theorem index_call (MB CB KB : Nat) (a : Option Addr) (m c : Nat) (w : World) (hm : m ≤ 8) (hMB : MB < w.heap.size) (h : w.cell? ⟨MB, 1, none⟩ = some (.slice (some ⟨CB, 0, none⟩) 1 1))
    (h0 : w.cell? ⟨KB, 0, none⟩ = some (.int .i64 0)) (h1 : w.cell? ⟨KB, 1, none⟩ = some (.slice a m c)) :
    Calls Tryd.prog 61 #[.slice (some ⟨KB, 0, none⟩) 1 1, .func (.func 55) #[] #[.pointer (some ⟨MB, 0, none⟩)]] w fun e w' => e = .returned (.int .i64 (-1)) ∧ Kept NoB w w' := by
  go_enter Tryd.func61, Tryd.ntmps61
  go_wp2_with fail
  refine wp_loop_rounds 2 ?_
  rw [rounds_succ]
  go_wp2_with fail
  refine (may1_walk MB CB a m c _ hm hMB h).mono ?_
  rintro e' w' ⟨rfl, rfl⟩
  go_wp2_with fail
  rw [rounds_succ]
  go_wp2_with fail
  go_ret
  exact ⟨rfl, Kept.alloc1 _ _⟩
theorem contains_call (MB CB KB : Nat) (a : Option Addr) (m c : Nat) (w : World) (hm : m ≤ 8) (hMB : MB < w.heap.size) (h : w.cell? ⟨MB, 1, none⟩ = some (.slice (some ⟨CB, 0, none⟩) 1 1))
    (h0 : w.cell? ⟨KB, 0, none⟩ = some (.int .i64 0)) (h1 : w.cell? ⟨KB, 1, none⟩ = some (.slice a m c)) :
    Calls Tryd.prog 56 #[.slice (some ⟨KB, 0, none⟩) 1 1, .func (.func 55) #[] #[.pointer (some ⟨MB, 0, none⟩)]] w fun e w' => e = .returned (.bool false) ∧ Kept NoB w w' := by
  go_enter Tryd.func56, Tryd.ntmps56
  go_wp2_with fail
  refine (index_call MB CB KB a m c _ hm hMB h h0 h1).mono ?_
  rintro e' w' ⟨rfl, hk⟩
  have Hk := Lib.hid hk; clear hk
  go_wp2_with fail
  go_ret
  exact ⟨rfl, Hk.out⟩

set_option maxHeartbeats 1000000 in
theorem index_zero (MB TB S n c : Nat) (w : World) (hn : n ≤ 6000) (h : w.cell? ⟨MB, 2, none⟩ = some (.slice (some ⟨TB, 0, none⟩) 1 1)) (hz : Hid (∀ i, i < n → w.cell? ⟨S, i, none⟩ = some (.int .i64 0))) :
    Calls Tryd.prog 57 #[.slice (some ⟨S, 0, none⟩) n c, .func (.func 50) #[] #[.pointer (some ⟨MB, 0, none⟩)]] w fun e w' => e = .returned (.int .i64 (-1)) ∧ w = w' := by
  go_enter Tryd.func57, Tryd.ntmps57
  go_wp2_with fail
  go_loop [8] (fun i => ∃ k : Nat, k ≤ n ∧ i = .int .i64 k) (fun i => n - (intOf i).toNat)
  case atStart => exact ⟨0, Nat.zero_le _, rfl⟩
  case round =>
    obtain ⟨k, hk, rfl⟩ := hrel
    by_cases hlt : k < n
    · have hlt' : (k : Int) < n := by omega
      have hk0 : (0 : Int) ≤ k := by omega
      have hc := hz.out k hlt
      go_wp2_with fail
      refine (play1_walk MB TB _ h).mono ?_
      rintro e' w' ⟨rfl, rfl⟩
      go_wp2_with fail
      go_round
      case rel => exact ⟨k + 1, by omega, by go_num⟩
      case measure => simp [intOf]; omega
    · have hlt' : ¬ ((k : Int) < n) := by omega
      go_wp2_with fail
      go_ret
      exact ⟨rfl, rfl⟩
theorem contains_zero (MB TB S n c : Nat) (w : World) (hn : n ≤ 6000) (h : w.cell? ⟨MB, 2, none⟩ = some (.slice (some ⟨TB, 0, none⟩) 1 1)) (hz : Hid (∀ i, i < n → w.cell? ⟨S, i, none⟩ = some (.int .i64 0))) :
    Calls Tryd.prog 49 #[.slice (some ⟨S, 0, none⟩) n c, .func (.func 50) #[] #[.pointer (some ⟨MB, 0, none⟩)]] w fun e w' => e = .returned (.bool false) ∧ w = w' := by
  go_enter Tryd.func49, Tryd.ntmps49
  go_wp2_with fail
  refine (index_zero MB TB S n c _ hn h hz).mono ?_
  rintro e' w' ⟨rfl, rfl⟩
  go_wp2_with fail
  go_ret
  exact ⟨rfl, rfl⟩

set_option maxHeartbeats 2000000 in
theorem runMay_walk (CB TB KB C : Nat) (l : List Op5) (wa : Option Addr) (N wc : Nat) (ca aa : Option Addr) (n cc m ac : Nat) (w : World) (hM : MachAt w CB TB KB (.slice ca n cc) (.slice aa m ac)) (hN : N ≤ 200) (hm : m ≤ 8) (hn : n ≤ 200)
    (hc : Hid (OpsAt w (.slice ca n cc) C l)) (hnl : Hid (n = l.length)) (hok : Hid (okCode l = true)) (hsh : Hid (Shapes w)) (hb1 : CB < w.heap.size) (_hb2 : TB < w.heap.size) (_hb3 : KB < w.heap.size) :
    Calls Tryd.prog 48 #[.agg #[.slice wa N wc, .slice (some ⟨CB, 0, none⟩) 1 1, .slice (some ⟨TB, 0, none⟩) 1 1]] w fun e w' => e = .returned (.bool true) ∧ Kept NoB w w' := by
  obtain ⟨g1, g2, g3, g4⟩ := hM
  go_enter Tryd.func48, Tryd.ntmps48
  go_wp2_with fail
  have kb := Kept.alloc1 w (.cells #[.slice wa N wc, .slice (some ⟨CB, 0, none⟩) 1 1, .slice (some ⟨TB, 0, none⟩) 1 1] 53)
  have KB0 := Lib.hid kb; clear kb
  refine wp_loop_rounds 2 ?_
  rw [rounds_succ]
  go_wp2_with fail
  refine (may_calls (hc.out.kept KB0.out (fun _ f => f)) (hsh.out.kept KB0.out id) (by rw [← hnl.out]; omega)).mono ?_
  rintro e' w1 ⟨rfl, k1⟩
  have K1 := Lib.hid k1; clear k1
  rw [hok.out]
  have b1 : w1.cell? ⟨w.heap.size, 1, none⟩ = some (.slice (some ⟨CB, 0, none⟩) 1 1) := K1.out.cell (World.cell?_alloc_new _ _ _ _) id
  have b2 : w1.cell? ⟨w.heap.size, 2, none⟩ = some (.slice (some ⟨TB, 0, none⟩) 1 1) := K1.out.cell (World.cell?_alloc_new _ _ _ _) id
  have b3 := (K1.out.cell (KB0.out.cell g2 id) id)
  have b4 := (K1.out.cell (KB0.out.cell g3 id) id)
  have b5 := (K1.out.cell (KB0.out.cell g4 id) id)
  have hlt : w.heap.size < w1.heap.size := World.block_lt_of_cell? _ _ b1
  clear g1 g2 g3 g4
  go_wp2_with fail
  rw [rounds_succ]
  go_wp2_with fail
  refine wp_loop_rounds 2 ?_
  rw [rounds_succ]
  go_wp2_with fail
  refine (contains_call w.heap.size CB KB aa m ac _ hm hlt b1 b4 b5).mono ?_
  rintro e' w2 ⟨rfl, k2⟩
  have K2 := Lib.hid k2; clear k2
  go_wp2_with fail
  rw [rounds_succ]
  go_wp2_with fail
  go_ret
  exact ⟨rfl, (KB0.out.trans K1.out).trans K2.out⟩
/-- run's May at the machine. -/
theorem runMay_calls {w : World} {CB TB KB C A D : Nat} {cv av wv : Value} {l : List Op5} {args ws : List Int} (hM : MachAt w CB TB KB cv av) (hc : OpsAt w cv C l) (ha : IntsAt w av A args) (hs : IntsAt w wv D ws) (hok : okCode l = true) (hsh : Shapes w)
    (hm : args.length ≤ 8) (hN : ws.length ≤ 200) : Calls Tryd.prog 48 #[machV wv CB TB] w fun e w' => e = .returned (.bool true) ∧ Kept NoB w w' := by
  obtain ⟨ca, cc, rfl, _⟩ := hc.val
  obtain ⟨aa, ac, rfl, _⟩ := ha.val
  obtain ⟨wa, wc, rfl, _⟩ := hs.val
  exact runMay_walk CB TB KB C l wa _ wc ca aa _ cc _ ac w hM hN hm (okCode_len hok) hc rfl hok hsh (World.block_lt_of_cell? w _ hM.codes) (World.block_lt_of_cell? w _ hM.threads) (World.block_lt_of_cell? w _ hM.call0)
end Go.Proofs.YtmnfgigieafehaaDoor
