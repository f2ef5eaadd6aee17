/- The plain laws of the blocks: helps, and Sides. No Go and no memory in it. -/
import Derived.Test.YtmnfgigieafehaaDoorSimE
import Derived.Test.YtmnfgigieafehaaDoorByA
import Derived.Test.YtmnfgigieafehaaDoorRange
namespace Go.Proofs.YtmnfgigieafehaaDoor
open Go.RowKit
set_option maxRecDepth 100000

/-- A step of the changed code at the block's j-th instruction, where that goes nowhere. -/
theorem block_step {l bl : List Op5} {k j : Nat} {s' : St} (hk : k < l.length) (hj : j < bl.length) (hpc : s'.pc = k + j) (ht : tgtOf (opAt bl j) = none) :
    stepS (putL l k bl) s' = endS (l.length + (bl.length - 1)) (execS (opAt bl j) { s' with pc := k + j + 1 }) := by
  unfold stepS
  rw [putL_length hk (by omega), hpc, putL_mid hk hj]
  have e : shiftB k (bl.length - 1) (ownI (opAt l k)) (opAt bl j) = opAt bl j := by unfold shiftB; rw [ht]
  rw [e]
/-- The step of the code itself at k. -/
theorem own_step {l : List Op5} {k : Nat} {s : St} (hpc : s.pc = k) : stepS l s = endS l.length (execS (opAt l k) { s with pc := k + 1 }) := by
  unfold stepS; rw [hpc]
theorem side_end {k more f n : Nat} {a b : St} (hk : k < n) (h : Near f a b) (p : b.pc = mapP k more a.pc) : Side k more f (endS n a) (endS (n + more) b) := by
  refine ⟨p, h.r, h.told.symm, h.ws.symm, h.cd.symm, ?_⟩
  show (a.ov || _) = (b.ov || _)
  rw [h.ov, p]
  congr 1
  unfold mapP
  split
  · rename_i hle
    rw [Bool.eq_iff_iff]; simp <;> omega
  · rename_i hle
    rw [Bool.eq_iff_iff]; simp
/-- Behind the block. -/
theorem mapP_next (k more : Nat) : mapP k more (k + 1) = k + 1 + more := by unfold mapP; rw [if_neg (by omega)]
theorem sides_block {l : List Op5} {f : Nat} (hok : okCode l = true) (hu : ∀ o ∈ l, ∀ r ∈ usedL o, r < (f : Int)) : ByLaw l f 0 sidesL (fun _ => True) := by
  intro k hk _ bl hb
  have hok1 := okCode_at hok hk
  have hu1 := hu (opAt l k) (by rw [opAt_eq hk]; exact List.getElem_mem _)
  obtain ⟨o, ho⟩ : ∃ o, o = opAt l k := ⟨_, rfl⟩
  have ho' := ho
  rw [← ho] at hok1 hu1 hb
  obtain ⟨kk, a, b, c, d⟩ := o
  unfold sidesL at hb
  dsimp only at hb
  split at hb
  · rename_i hkk
    cases hb
    have hk3 : kk = 3 ∨ kk = 4 ∨ kk = 5 ∨ kk = 6 ∨ kk = 7 ∨ kk = 8 ∨ kk = 9 := by omega
    obtain ⟨qa, qb, qc, rfl⟩ := ok_three hk3 hok1
    have ht : tgtOf ⟨kk, a, c, b, 0⟩ = none := by unfold tgtOf; dsimp only; rw [if_neg (by omega), if_neg (by omega)]
    have ht0 : tgtOf ⟨kk, a, b, c, 0⟩ = none := by unfold tgtOf; dsimp only; rw [if_neg (by omega), if_neg (by omega)]
    have u2 := hu1 b (by rcases hkk with rfl | rfl | rfl <;> simp [usedL])
    have u3 := hu1 c (by rcases hkk with rfl | rfl | rfl <;> simp [usedL])
    refine ⟨by simp, ?_, ?_⟩
    · intro j hj
      obtain rfl : j = 0 := by simpa using hj
      have e : opAt [(⟨kk, a, c, b, 0⟩ : Op5)] 0 = ⟨kk, a, c, b, 0⟩ := rfl
      rw [e]
      have e2 : shiftB k 0 (ownI (opAt l k)) ⟨kk, a, c, b, 0⟩ = ⟨kk, a, c, b, 0⟩ := by unfold shiftB; rw [ht]
      show okOp _ (shiftB k 0 (ownI (opAt l k)) ⟨kk, a, c, b, 0⟩) = true
      rw [e2]
      rcases hkk with rfl | rfl | rfl <;> simp [okOp, fitsAll, signs, fitsI, qa.1, qa.2, qb.1, qb.2, qc.1, qc.2]
    · intro s s' _ _ h hpc hov
      refine ⟨_, Steps.one (h.same.2.2.2.symm.trans hov), .inl ?_⟩
      rw [own_step hpc, block_step (bl := [⟨kk, a, c, b, 0⟩]) (j := 0) hk (by simp) (by rw [h.pc, hpc]; unfold mapP; rw [if_pos (Nat.le_refl _)]; rfl) ht, ← ho']
      have hr2 := h.r b.toNat (by omega)
      have hr3 := h.r c.toNat (by omega)
      refine side_end hk ?_ ?_
      · have hr := h.r
        have x1 := h.same.1.symm
        have x2 := h.same.2.1.symm
        have x3 := h.same.2.2.1.symm
        have x4 := h.same.2.2.2.symm
        rcases hkk with rfl | rfl | rfl
        · exact ⟨upd_near hr _ (show wrap64 (s'.r c.toNat + s'.r b.toNat) = wrap64 (s.r b.toNat + s.r c.toNat) by rw [hr2, hr3, Int.add_comm]), x1, x2, x3, x4⟩
        · exact ⟨upd_near hr _ (show wrap64 (s'.r c.toNat * s'.r b.toNat) = wrap64 (s.r b.toNat * s.r c.toNat) by rw [hr2, hr3, Int.mul_comm]), x1, x2, x3, x4⟩
        · exact ⟨upd_near hr _ (show flagI (s'.r c.toNat == s'.r b.toNat) = flagI (s.r b.toNat == s.r c.toNat) by rw [hr2, hr3, BEq.comm]), x1, x2, x3, x4⟩
      · rw [exec_pc hok1 ht0]
        rcases hkk with rfl | rfl | rfl <;> exact (mapP_next k 0).symm
  · cases hb
theorem sides_plain {l : List Op5} {args ws : List Int} (_ : ∀ o ∈ l, OpR o) (_ : ∀ x ∈ args, InR x) (_ : ∀ x ∈ ws, InR x) (which : Int) : WLaw l args ws (swapL args.length which 0 sidesL l) :=
  law_of_swap (fun _ => True) trivial (fun _ _ _ _ _ => trivial) (fun hok _ hu => sides_block hok hu)
end Go.Proofs.YtmnfgigieafehaaDoor
