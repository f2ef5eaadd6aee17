/- The plain law of wSwap's change, from that of each block. No Go and no memory in it. -/
import Derived.Test.YtmnfgigieafehaaDoorSimD
import Derived.Test.YtmnfgigieafehaaDoorRuns
namespace Go.Proofs.YtmnfgigieafehaaDoor
open Go.RowKit
set_option maxRecDepth 100000

/-- What is to be shown of the instructions in the place of one. -/
def ByLaw (l : List Op5) (f many : Nat) (byL : Op5 → Nat → Nat → Option (List Op5)) (I : St → Prop) : Prop :=
  ∀ k, k < l.length → f + many ≤ 24 → ∀ bl, byL (opAt l k) k f = some bl → 0 < bl.length ∧
    (∀ j, j < bl.length → okOp ((l.length + (bl.length - 1) : Nat) : Int) (shiftB k (bl.length - 1) (ownI (opAt l k)) (opAt bl j)) = true) ∧ BlockOk l bl k f I
theorem fits_more {s x n m : Int} (h : fitsI s x n = true) (hm : n ≤ m) : fitsI s x m = true := by
  unfold fitsI at h ⊢
  by_cases h1 : s = 114
  · rw [if_pos h1] at h ⊢; exact h
  · rw [if_neg h1] at h ⊢
    by_cases h2 : s = 112
    · rw [if_pos h2] at h ⊢
      simp only [Bool.and_eq_true, decide_eq_true_eq] at h ⊢
      omega
    · rw [if_neg h2] at h ⊢; exact h
theorem ok_more {o : Op5} {n m : Int} (h : okOp n o = true) (hm : n ≤ m) : okOp m o = true := by
  simp only [okOp, fitsAll, Bool.and_eq_true] at h ⊢
  exact ⟨h.1, h.2.1, fits_more h.2.2.1 hm, fits_more h.2.2.2.1 hm, fits_more h.2.2.2.2.1 hm, fits_more h.2.2.2.2.2 hm⟩
theorem ok_jump_of {n T : Int} (h : 0 ≤ T ∧ T ≤ n) : okOp n ⟨10, T, 0, 0, 0⟩ = true := by simp [okOp, fitsAll, signs, fitsI, h.1, h.2]
theorem ok_way_of {n a T k : Int} (hk : k = 11 ∨ k = 12) (ha : 0 ≤ a ∧ a < 24) (h : 0 ≤ T ∧ T ≤ n) : okOp n ⟨k, a, T, 0, 0⟩ = true := by
  rcases hk with rfl | rfl <;> simp [okOp, fitsAll, signs, fitsI, h.1, h.2, ha.1, ha.2]
theorem ok_shift {n k more : Nat} {o : Op5} (h : okOp n o = true) : okOp ((n + more : Nat) : Int) (shiftC k more o) = true := by
  have hm := ok_more h (show (n : Int) ≤ ((n + more : Nat) : Int) by omega)
  unfold shiftC
  cases ht : tgtOf o with
  | none => exact hm
  | some T =>
    dsimp only
    have hT := tgt_ok h ht
    by_cases hk : (k : Int) < T
    · rw [if_pos hk]
      obtain ⟨kk, a, b, c, d⟩ := o
      unfold tgtOf at ht
      unfold setT
      dsimp only at ht ⊢
      by_cases h1 : kk = 10
      · subst h1
        rw [if_pos rfl]
        obtain ⟨_, rfl, rfl, rfl⟩ := ok_jump h
        exact ok_jump_of (by omega)
      · rw [if_neg h1] at ht ⊢
        by_cases h2 : kk = 11 ∨ kk = 12
        · rw [if_pos h2]
          obtain ⟨ha, _, rfl, rfl⟩ := ok_way h2 h
          exact ok_way_of h2 ha (by omega)
        · rw [if_neg h2] at ht; cases ht
    · rw [if_neg hk]; exact hm
/-- wSwap's change keeps what a call answers. -/
theorem law_of_swap {l : List Op5} {args ws : List Int} {which : Int} {many : Nat} {byL : Op5 → Nat → Nat → Option (List Op5)} (I : St → Prop) (hI0 : I (beginS l args ws)) (hI : okCode l = true → ∀ s, I s → StOk l.length ws.length s → s.ov = false → I (stepS l s))
    (hby : okCode l = true → args.length ≤ 8 → (∀ o ∈ l, ∀ r ∈ usedL o, r < (freeN l args.length : Nat)) → ByLaw l (freeN l args.length) many byL I) : WLaw l args ws (swapL args.length which many byL l) := by
  intro hok h8 _ h1 l' hl' hlen
  obtain ⟨hfr, _⟩ := freeN_in hok h8
  have hu : ∀ o ∈ l, ∀ r ∈ usedL o, r < (freeN l args.length : Nat) := fun o ho r hr => by rw [← hfr]; exact freeI_used ho hr
  have hB := hby hok h8 hu
  unfold swapL at hl'
  dsimp only at hl'
  obtain ⟨f, hf⟩ : ∃ f, f = freeN l args.length := ⟨_, rfl⟩
  rw [← hf] at hl' hB hu
  split at hl'
  · cases hl'
  · rename_i hne
    have hp := pickI_in which (someL l f many byL l.length).length (by omega) (Nat.le_trans (someL_length _ _ _ _ _) (okCode_len hok))
    have hmem := someL_get (l := l) (f := f) (many := many) (byL := byL) (k := l.length) (j := (pickI which (someL l f many byL l.length).length).toNat) (by omega)
    obtain ⟨hk, hroom, _⟩ := someL_mem hmem
    revert hl' hk
    generalize (someL l f many byL l.length).getD (pickI which (someL l f many byL l.length).length).toNat 0 = k
    intro hl' hk
    cases hb : byL (opAt l k) k f with
    | none => rw [hb] at hl'; cases hl'
    | some bl =>
      rw [hb] at hl'
      cases hl'
      obtain ⟨h0, hokb, hblock⟩ := hB k hk hroom bl hb
      have hlen2 := putL_length hk h0
      refine ⟨?_, by omega, fun h2 => law_of_block hok hk h0 hu hI0 (hI hok) hblock h1 h2⟩
      rw [okCode_all, decide_eq_true hlen]
      intro j hj
      rw [hlen2] at hj ⊢
      by_cases c1 : j < k
      · rw [putL_low hk c1]; exact ok_shift (okCode_at hok (by omega))
      · by_cases c2 : j < k + bl.length
        · obtain ⟨i, rfl⟩ : ∃ i, j = k + i := ⟨j - k, by omega⟩
          rw [putL_mid hk (by omega)]; exact hokb i (by omega)
        · obtain ⟨i, rfl⟩ : ∃ i, j = i + (bl.length - 1) := ⟨j - (bl.length - 1), by omega⟩
          rw [putL_high (by omega) (by omega) h0]; exact ok_shift (okCode_at hok (by omega))
end Go.Proofs.YtmnfgigieafehaaDoor
