/- Walks of slices.Equal and sameInts at slices of numbers. Conditions: the slices' cells hold what is said. -/
import Derived.Test.YtmnfgigieafehaaDoorClone
namespace Go.Proofs.YtmnfgigieafehaaDoor
open Go.RowKit
set_option maxRecDepth 100000

theorem Kept.drewN {S : Nat → Prop} {a b : World} {n : Nat} (h : Kept S a b) : Kept S a (b.drewN n) := ⟨h.os, h.tape, h.output, h.size, h.block⟩
theorem list_same {x y : List Int} (hl : x.length = y.length) (h : ∀ j, j < x.length → x.getD j 0 = y.getD j 0) : x = y := by
  apply List.ext_getElem hl
  intro i h1 h2
  have := h i h1
  simpa [List.getD, h1, h2] using this
theorem equal_unlike (a b : Option Addr) (n m c d : Nat) (w : World) (h : ((n : Int) != (m : Int)) = true) : Calls Tryd.prog 39 #[.slice a n c, .slice b m d] w fun e w' => e = .returned (.bool false) ∧ w = w' := by
  go_enter Tryd.func39, Tryd.ntmps39
  go_wp2
  go_ret
  exact ⟨rfl, rfl⟩
theorem equal_empty (a b : Option Addr) (c d : Nat) (w : World) : Calls Tryd.prog 39 #[.slice a 0 c, .slice b 0 d] w fun e w' => e = .returned (.bool true) ∧ w = w' := by
  go_enter Tryd.func39, Tryd.ntmps39
  go_wp2
  refine wp_loop_rounds 1 ?_
  rw [rounds_succ]
  go_wp2
  go_ret
  exact ⟨rfl, rfl⟩
set_option maxHeartbeats 1000000 in
theorem equal_walk (C o D p n c d : Nat) (x y : List Int) (w : World) (hb : n * 8 ≤ 140737488351232) (hx : Hid (x.length = n)) (hy : Hid (y.length = n))
    (h1 : Hid (∀ j, j < n → w.cell? ⟨C, o + j, none⟩ = some (.int .i64 (x.getD j 0)))) (h2 : Hid (∀ j, j < n → w.cell? ⟨D, p + j, none⟩ = some (.int .i64 (y.getD j 0)))) :
    Calls Tryd.prog 39 #[.slice (some ⟨C, o, none⟩) n c, .slice (some ⟨D, p, none⟩) n d] w fun e w' => e = .returned (.bool (x == y)) ∧ Kept NoB w w' := by
  go_enter Tryd.func39, Tryd.ntmps39
  go_wp2
  go_loopw [13] (fun i wr => ∃ k : Nat, k ≤ n ∧ i = .int .i64 k ∧ (∀ j, j < k → x.getD j 0 = y.getD j 0) ∧ Kept NoB w wr) (fun i _ => n - (intOf i).toNat)
  case atStart => exact ⟨0, Nat.zero_le _, rfl, fun j hj => by omega, Kept.refl _ _⟩
  case round =>
    obtain ⟨k, hk, rfl, hall, hkept⟩ := hrel
    have Hall := Lib.hid hall; clear hall
    have Hk := Lib.hid hkept; clear hkept
    by_cases hlt : k < n
    · have hlt' : (k : Int) < n := by omega
      have hk0 : (0 : Int) ≤ k := by omega
      have c1 := Hk.out.cell (h1.out k hlt) id
      have c2 := Hk.out.cell (h2.out k hlt) id
      obtain ⟨u, hu⟩ : ∃ u, u = x.getD k 0 := ⟨_, rfl⟩
      obtain ⟨v, hv⟩ : ∃ v, v = y.getD k 0 := ⟨_, rfl⟩
      rw [← hu] at c1
      rw [← hv] at c2
      have Hu := Lib.hid hu; clear hu
      have Hv := Lib.hid hv; clear hv
      by_cases huv : u = v
      · have huv' : (u != v) = false := by simp [huv]
        have Huv := Lib.hid huv; clear huv
        go_wp2_with fail
        go_quiet (fail)
        go_wp2_with fail
        go_roundw
        case rel => exact ⟨k + 1, by omega, by go_num, fun j hj => by
          by_cases hj2 : j < k
          · exact Hall.out j hj2
          · obtain rfl : j = k := by omega
            rw [← Hu.out, ← Hv.out]; exact Huv.out, Hk.out.drewN⟩
        case measure => simp [intOf]; omega
      · have huv' : (u != v) = true := by simpa using huv
        have Huv := Lib.hid huv; clear huv
        go_wp2_with fail
        go_quiet (fail)
        go_wp2_with fail
        go_ret
        refine ⟨?_, Hk.out.drewN⟩
        have : (x == y) = false := by
          rw [beq_eq_false_iff_ne]
          intro e
          subst e
          exact Huv.out (Hu.out.trans Hv.out.symm)
        rw [this]; rfl
    · have hlt' : ¬ ((k : Int) < n) := by omega
      go_wp2_with fail
      go_ret
      refine ⟨?_, Hk.out⟩
      have : x = y := list_same (by rw [hx.out, hy.out]) (fun j hj => Hall.out j (by rw [hx.out] at hj; omega))
      rw [beq_iff_eq.2 this]; rfl
theorem equal_calls {w : World} {a b : Value} {C D : Nat} {x y : List Int} (ha : IntsAt w a C x) (hb : IntsAt w b D y) (hl : x.length * 8 ≤ 140737488351232) :
    Calls Tryd.prog 39 #[a, b] w fun e w' => e = .returned (.bool (x == y)) ∧ Kept NoB w w' := by
  obtain ⟨aa, c, rfl, hca⟩ := ha.val
  obtain ⟨ab, d, rfl, hcb⟩ := hb.val
  by_cases hxy : x.length = y.length
  · rcases Nat.eq_zero_or_pos x.length with h0 | h0
    · rw [← hxy, h0]
      have e1 : x = [] := List.eq_nil_of_length_eq_zero h0
      have e2 : y = [] := List.eq_nil_of_length_eq_zero (by omega)
      subst e1; subst e2
      exact (equal_empty aa ab c d w).mono fun e w' ⟨he, hw⟩ => ⟨he, hw ▸ Kept.refl _ _⟩
    · obtain ⟨o, rfl, hc1⟩ := hca h0
      obtain ⟨p, rfl, hc2⟩ := hcb (by omega)
      rw [← hxy]
      exact equal_walk C o D p x.length c d x y w hl rfl hxy.symm (fun j hj => hc1 j _ (get_intsV hj)) (fun j hj => hc2 j _ (get_intsV (by omega)))
  · refine (equal_unlike aa ab _ _ c d w (by simp; omega)).mono fun e w' ⟨he, hw⟩ => ⟨?_, hw ▸ Kept.refl _ _⟩
    have : (x == y) = false := by rw [beq_eq_false_iff_ne]; intro e; exact hxy (by rw [e])
    rw [this]; exact he
theorem same_unlike (a b : Option Addr) (n m c d : Nat) (w : World) (h : ((n : Int) != (m : Int)) = true) : Calls Tryd.prog 44 #[.slice a n c, .slice b m d] w fun e w' => e = .returned (.bool false) ∧ w = w' := by
  go_enter Tryd.func44, Tryd.ntmps44
  go_wp2
  go_ret
  exact ⟨rfl, rfl⟩
theorem same_empty (a b : Option Addr) (c d : Nat) (w : World) : Calls Tryd.prog 44 #[.slice a 0 c, .slice b 0 d] w fun e w' => e = .returned (.bool true) ∧ w = w' := by
  go_enter Tryd.func44, Tryd.ntmps44
  go_wp2
  refine wp_loop_rounds 1 ?_
  rw [rounds_succ]
  go_wp2
  go_ret
  exact ⟨rfl, rfl⟩
set_option maxHeartbeats 1000000 in
theorem same_walk (C o D p n c d : Nat) (x y : List Int) (w : World) (hb : n * 8 ≤ 140737488351232) (hx : Hid (x.length = n)) (hy : Hid (y.length = n))
    (h1 : Hid (∀ j, j < n → w.cell? ⟨C, o + j, none⟩ = some (.int .i64 (x.getD j 0)))) (h2 : Hid (∀ j, j < n → w.cell? ⟨D, p + j, none⟩ = some (.int .i64 (y.getD j 0)))) :
    Calls Tryd.prog 44 #[.slice (some ⟨C, o, none⟩) n c, .slice (some ⟨D, p, none⟩) n d] w fun e w' => e = .returned (.bool (x == y)) ∧ Kept NoB w w' := by
  go_enter Tryd.func44, Tryd.ntmps44
  go_wp2
  go_loopw [5] (fun i wr => ∃ k : Nat, k ≤ n ∧ i = .int .i64 k ∧ (∀ j, j < k → x.getD j 0 = y.getD j 0) ∧ Kept NoB w wr) (fun i _ => n - (intOf i).toNat)
  case atStart => exact ⟨0, Nat.zero_le _, rfl, fun j hj => by omega, Kept.refl _ _⟩
  case round =>
    obtain ⟨k, hk, rfl, hall, hkept⟩ := hrel
    have Hall := Lib.hid hall; clear hall
    have Hk := Lib.hid hkept; clear hkept
    by_cases hlt : k < n
    · have hlt' : (k : Int) < n := by omega
      have hk0 : (0 : Int) ≤ k := by omega
      have c1 := Hk.out.cell (h1.out k hlt) id
      have c2 := Hk.out.cell (h2.out k hlt) id
      obtain ⟨u, hu⟩ : ∃ u, u = x.getD k 0 := ⟨_, rfl⟩
      obtain ⟨v, hv⟩ : ∃ v, v = y.getD k 0 := ⟨_, rfl⟩
      rw [← hu] at c1
      rw [← hv] at c2
      have Hu := Lib.hid hu; clear hu
      have Hv := Lib.hid hv; clear hv
      by_cases huv : u = v
      · have huv' : (u != v) = false := by simp [huv]
        have Huv := Lib.hid huv; clear huv
        go_wp2_with fail
        go_quiet (fail)
        go_wp2_with fail
        go_roundw
        case rel => exact ⟨k + 1, by omega, by go_num, fun j hj => by
          by_cases hj2 : j < k
          · exact Hall.out j hj2
          · obtain rfl : j = k := by omega
            rw [← Hu.out, ← Hv.out]; exact Huv.out, Hk.out.drewN⟩
        case measure => simp [intOf]; omega
      · have huv' : (u != v) = true := by simpa using huv
        have Huv := Lib.hid huv; clear huv
        go_wp2_with fail
        go_quiet (fail)
        go_wp2_with fail
        go_ret
        refine ⟨?_, Hk.out.drewN⟩
        have : (x == y) = false := by
          rw [beq_eq_false_iff_ne]
          intro e
          subst e
          exact Huv.out (Hu.out.trans Hv.out.symm)
        rw [this]; rfl
    · have hlt' : ¬ ((k : Int) < n) := by omega
      go_wp2_with fail
      go_ret
      refine ⟨?_, Hk.out⟩
      have : x = y := list_same (by rw [hx.out, hy.out]) (fun j hj => Hall.out j (by rw [hx.out] at hj; omega))
      rw [beq_iff_eq.2 this]; rfl
theorem same_calls {w : World} {a b : Value} {C D : Nat} {x y : List Int} (ha : IntsAt w a C x) (hb : IntsAt w b D y) (hl : x.length * 8 ≤ 140737488351232) :
    Calls Tryd.prog 44 #[a, b] w fun e w' => e = .returned (.bool (x == y)) ∧ Kept NoB w w' := by
  obtain ⟨aa, c, rfl, hca⟩ := ha.val
  obtain ⟨ab, d, rfl, hcb⟩ := hb.val
  by_cases hxy : x.length = y.length
  · rcases Nat.eq_zero_or_pos x.length with h0 | h0
    · rw [← hxy, h0]
      have e1 : x = [] := List.eq_nil_of_length_eq_zero h0
      have e2 : y = [] := List.eq_nil_of_length_eq_zero (by omega)
      subst e1; subst e2
      exact (same_empty aa ab c d w).mono fun e w' ⟨he, hw⟩ => ⟨he, hw ▸ Kept.refl _ _⟩
    · obtain ⟨o, rfl, hc1⟩ := hca h0
      obtain ⟨p, rfl, hc2⟩ := hcb (by omega)
      rw [← hxy]
      exact same_walk C o D p x.length c d x y w hl rfl hxy.symm (fun j hj => hc1 j _ (get_intsV hj)) (fun j hj => hc2 j _ (get_intsV (by omega)))
  · refine (same_unlike aa ab _ _ c d w (by simp; omega)).mono fun e w' ⟨he, hw⟩ => ⟨?_, hw ▸ Kept.refl _ _⟩
    have : (x == y) = false := by rw [beq_eq_false_iff_ne]; intro e; exact hxy (by rw [e])
    rw [this]; exact he
end Go.Proofs.YtmnfgigieafehaaDoor
