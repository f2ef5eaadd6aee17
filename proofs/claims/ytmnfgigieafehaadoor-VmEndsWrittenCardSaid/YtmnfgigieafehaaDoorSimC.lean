/- The plain law of a change of one instruction: the changed code, place by place, and the steps outside the block. No Go and no memory in it. -/
import Derived.Test.YtmnfgigieafehaaDoorSimB
namespace Go.Proofs.YtmnfgigieafehaaDoor
open Go.RowKit
set_option maxRecDepth 100000

theorem putL_length {l bl : List Op5} {k : Nat} (hk : k < l.length) (hb : 0 < bl.length) : (putL l k bl).length = l.length + (bl.length - 1) := by
  unfold putL
  simp only [List.length_append, List.length_take, List.length_map, List.length_drop]
  omega
theorem putL_low {l bl : List Op5} {k i : Nat} (hk : k < l.length) (hi : i < k) : opAt (putL l k bl) i = shiftC k (bl.length - 1) (opAt l i) := by
  unfold opAt putL
  rw [List.getD, List.getElem?_append_left (by simp; omega), List.getElem?_take_of_lt hi, List.getElem?_map, List.getD, List.getElem?_eq_getElem (by omega)]
  rfl
theorem putL_mid {l bl : List Op5} {k j : Nat} (hk : k < l.length) (hj : j < bl.length) : opAt (putL l k bl) (k + j) = shiftB k (bl.length - 1) (ownI (opAt l k)) (opAt bl j) := by
  have e : ((l.map (shiftC k (bl.length - 1))).take k).length = k := by simp; omega
  unfold opAt putL
  rw [List.getD, List.getElem?_append_right (by omega), e, Nat.add_sub_cancel_left, List.getElem?_append_left (by simpa using hj), List.getElem?_map, List.getElem?_eq_getElem hj, show bl.getD j ⟨0, 0, 0, 0, 0⟩ = bl[j] by simp [List.getD, hj]]
  rfl
theorem putL_high {l bl : List Op5} {k i : Nat} (hk : k < i) (hi : i < l.length) (hb : 0 < bl.length) : opAt (putL l k bl) (i + (bl.length - 1)) = shiftC k (bl.length - 1) (opAt l i) := by
  have e : ((l.map (shiftC k (bl.length - 1))).take k).length = k := by simp; omega
  unfold opAt putL
  rw [List.getD, List.getElem?_append_right (by omega), e, List.getElem?_append_right (by simp; omega), List.length_map, List.getElem?_drop, show k + 1 + (i + (bl.length - 1) - k - bl.length) = i by omega, List.getElem?_map, List.getD, List.getElem?_eq_getElem hi]
  rfl
/-- A step outside the block: the changed code does the like. -/
theorem stay {l bl : List Op5} {k f : Nat} {s s' : St} (hk : k < l.length) (hb : 0 < bl.length) (hok : okCode l = true) (hu : ∀ o ∈ l, ∀ r ∈ usedL o, r < f)
    (h : Side k (bl.length - 1) f s s') (hpc : s.pc < l.length) (hne : s.pc ≠ k) : Side k (bl.length - 1) f (stepS l s) (stepS (putL l k bl) s') := by
  obtain ⟨more, hm⟩ : ∃ m, m = bl.length - 1 := ⟨_, rfl⟩
  have hop : opAt (putL l k bl) s'.pc = shiftC k more (opAt l s.pc) := by
    rw [h.pc, mapP, hm]
    split
    · exact putL_low hk (by omega)
    · exact putL_high (by omega) hpc hb
  have hlen : (putL l k bl).length = l.length + more := by rw [hm]; exact putL_length hk hb
  rw [← hm] at h ⊢
  have hoo := okCode_at hok hpc
  have huo := hu (opAt l s.pc) (by rw [opAt_eq hpc]; exact List.getElem_mem _)
  have near : Near f { s with pc := s.pc + 1 } { s' with pc := s'.pc + 1 } := ⟨h.r, h.same.1.symm, h.same.2.1.symm, h.same.2.2.1.symm, h.same.2.2.2.symm⟩
  have hpc' : s'.pc + 1 = mapP k more (s.pc + 1) := by
    rw [h.pc]; unfold mapP; split <;> split <;> omega
  unfold stepS
  rw [hop, hlen]
  have fin : ∀ a b : St, Near f a b → b.pc = mapP k more a.pc → Side k more f (endS l.length a) (endS (l.length + more) b) := by
    intro a b n p
    refine ⟨p, n.r, n.told.symm, n.ws.symm, n.cd.symm, ?_⟩
    show (a.ov || _) = (b.ov || _)
    rw [n.ov, p]
    congr 1
    unfold mapP
    split
    · rename_i hle
      rw [Bool.eq_iff_iff]; simp <;> omega
    · rename_i hle
      rw [Bool.eq_iff_iff]; simp <;> omega
  cases ht : tgtOf (opAt l s.pc) with
  | none =>
    have e : shiftC k more (opAt l s.pc) = opAt l s.pc := by unfold shiftC; rw [ht]
    rw [e]
    refine fin _ _ (near.exec hoo huo ht) ?_
    rw [exec_pc hoo ht, exec_pc hoo ht]
    exact hpc'
  | some T =>
    have hT := tgt_ok hoo ht
    have e : ∃ T', shiftC k more (opAt l s.pc) = setT (opAt l s.pc) T' ∧ T'.toNat = mapP k more T.toNat := by
      unfold shiftC mapP
      rw [ht]
      dsimp only
      by_cases hkT : (k : Int) < T
      · rw [if_pos hkT, if_neg (by omega)]
        exact ⟨_, rfl, by omega⟩
      · rw [if_neg hkT, if_pos (by omega)]
        refine ⟨T, ?_, rfl⟩
        revert ht
        generalize opAt l s.pc = o
        intro ht
        unfold tgtOf at ht
        unfold setT
        by_cases h1 : o.k = 10
        · rw [if_pos h1] at ht ⊢; cases ht; rfl
        · rw [if_neg h1] at ht ⊢
          by_cases h2 : o.k = 11 ∨ o.k = 12
          · rw [if_pos h2] at ht ⊢; cases ht; rfl
          · rw [if_neg h2] at ht; cases ht
    obtain ⟨T', e1, e2⟩ := e
    rw [e1]
    obtain ⟨n, p⟩ := exec_tgt (T' := T') near hoo huo ht
    refine fin _ _ n ?_
    rcases p with ⟨p1, p2⟩ | ⟨p1, p2⟩
    · rw [p1, p2]; exact hpc'
    · rw [p1, p2]; exact e2
end Go.Proofs.YtmnfgigieafehaaDoor
