/- The plain laws of Sums, Sets, Tests and Rests: blocks of register writes. No Go and no memory in it. -/
import Derived.Test.YtmnfgigieafehaaDoorSimG
import Derived.Test.YtmnfgigieafehaaDoorByB
import Derived.Test.YtmnfgigieafehaaDoorByC
namespace Go.Proofs.YtmnfgigieafehaaDoor
open Go.RowKit
set_option maxRecDepth 100000

/-- ByLaw of blocks that only write registers. -/
theorem reg_by {l : List Op5} {f many : Nat} {byL : Op5 → Nat → Nat → Option (List Op5)}
    (h : ∀ k, k < l.length → f + many ≤ 24 → ∀ bl, byL (opAt l k) k f = some bl → 0 < bl.length ∧ isReg (opAt l k) ∧ (∀ o ∈ bl, isReg o ∧ ∀ n, okOp n o = true) ∧
      ∀ r r' : Nat → Int, (∀ i, InR (r i)) → (∀ i, i < f → r' i = r i) → ∀ i, i < f → regsS bl r' i = regS (opAt l k) r i) : ByLaw l f many byL RangeI := by
  intro k hk hf bl hb
  obtain ⟨h0, h1, h2, h3⟩ := h k hk hf bl hb
  refine ⟨h0, fun j hj => ?_, reg_block hk h0 (fun o ho => (h2 o ho).1) h1 (fun s r' hI hr => h3 s.r r' hI.1 hr)⟩
  obtain ⟨q1, q2⟩ := h2 (opAt bl j) (by rw [opAt_eq hj]; exact List.getElem_mem _)
  unfold shiftB
  rw [reg_tgt q1]
  exact q2 _
theorem nat_of {a : Int} (h : 0 ≤ a) : ∃ n : Nat, a = (n : Int) := ⟨a.toNat, by omega⟩

theorem wrap_sub_neg (x y : Int) : wrap64 (x - wrap64 (-y)) = wrap64 (x + y) := by unfold wrap64; omega
theorem wrap_add_neg (x y : Int) : wrap64 (x + wrap64 (-y)) = wrap64 (x - y) := by unfold wrap64; omega
theorem wrap_neg_one (y : Int) : wrap64 (y * -1) = wrap64 (-y) := by rw [show y * -1 = -y by omega]

theorem sums_block {l : List Op5} {f : Nat} (less : Bool) (hok : okCode l = true) (hu : ∀ o ∈ l, ∀ r ∈ usedL o, r < (f : Int)) : ByLaw l f 2 (sumsL less) RangeI := by
  refine reg_by fun k hk hf bl hb => ?_
  have hok1 := okCode_at hok hk
  have hu1 := hu (opAt l k) (by rw [opAt_eq hk]; exact List.getElem_mem _)
  revert hok1 hu1 hb
  generalize opAt l k = o
  obtain ⟨kk, a, b, c, d⟩ := o
  intro hb hok1 hu1
  unfold sumsL at hb
  dsimp only at hb
  split at hb
  · rename_i hkk
    have hk3 : kk = 3 ∨ kk = 4 ∨ kk = 5 ∨ kk = 6 ∨ kk = 7 ∨ kk = 8 ∨ kk = 9 := by omega
    obtain ⟨qa, qb, qc, rfl⟩ := ok_three hk3 hok1
    have u2 := hu1 b (by rcases hkk with rfl | rfl <;> simp [usedL])
    have u3 := hu1 c (by rcases hkk with rfl | rfl <;> simp [usedL])
    obtain ⟨a, rfl⟩ := nat_of qa.1
    obtain ⟨b, rfl⟩ := nat_of qb.1
    obtain ⟨c, rfl⟩ := nat_of qc.1
    have n1 : b ≠ f := by omega
    have n2 : b ≠ f + 1 := by omega
    have n3 : c ≠ f := by omega
    have e1 : ((f : Int) + 1).toNat = f + 1 := by omega
    refine ⟨?_, ⟨by dsimp only; omega, by dsimp only; omega⟩, ?_, ?_⟩
    · cases less <;> cases hb <;> simp
    · cases less <;> cases hb <;> intro o ho <;> simp only [List.mem_cons, List.not_mem_nil, or_false] at ho <;> rcases ho with rfl | rfl | rfl <;> rcases hkk with rfl | rfl <;>
        exact ⟨⟨by dsimp only; omega, by dsimp only; omega⟩, fun n => by simp [okOp, fitsAll, signs, fitsI] <;> omega⟩
    · intro r r' _ hr i hi
      have eb := hr b (by omega)
      have ec := hr c (by omega)
      have ei := hr i hi
      have i1 : i ≠ f := by omega
      have i2 : i ≠ f + 1 := by omega
      cases less <;> cases hb <;> rcases hkk with rfl | rfl <;> simp [regsS, regS, upd, e1, n1, n2, n3, i1, i2, eb, ec, ei, wrap_sub_neg, wrap_add_neg]
  · cases hb
theorem sums_plain {l : List Op5} {args ws : List Int} (hl : ∀ o ∈ l, OpR o) (ha : ∀ x ∈ args, InR x) (hw : ∀ x ∈ ws, InR x) (which : Int) (less : Bool) : WLaw l args ws (swapL args.length which 2 (sumsL less) l) :=
  law_in_range hl ha hw (fun hok _ hu => sums_block less hok hu)

theorem wrap_back (x y : Int) (h : InR x) : wrap64 (wrap64 (x + y) - y) = x := by unfold InR at h; unfold wrap64; omega
theorem wrap_forth (x y : Int) (h : InR x) : wrap64 (y + wrap64 (x - y)) = x := by unfold InR at h; unfold wrap64; omega
theorem sets_block {l : List Op5} {f : Nat} (by' : Int) (less : Bool) (hok : okCode l = true) (hl : ∀ o ∈ l, OpR o) : ByLaw l f 2 (setsL by' less) RangeI := by
  refine reg_by fun k hk hf bl hb => ?_
  have hok1 := okCode_at hok hk
  have hl1 := hl (opAt l k) (by rw [opAt_eq hk]; exact List.getElem_mem _)
  revert hok1 hl1 hb
  generalize opAt l k = o
  obtain ⟨kk, a, b, c, d⟩ := o
  intro hb hok1 hl1
  unfold setsL at hb
  dsimp only at hb
  split at hb
  · rename_i hkk
    subst hkk
    obtain ⟨qa, rfl, rfl⟩ := ok_set hok1
    have hbR : InR b := hl1.b
    obtain ⟨a, rfl⟩ := nat_of qa.1
    have e1 : ((f : Int) + 1).toNat = f + 1 := by omega
    refine ⟨?_, ⟨by dsimp only; omega, by dsimp only; omega⟩, ?_, ?_⟩
    · cases less <;> cases hb <;> simp
    · cases less <;> cases hb <;> intro o ho <;> simp only [List.mem_cons, List.not_mem_nil, or_false] at ho <;> rcases ho with rfl | rfl | rfl <;>
        exact ⟨⟨by dsimp only; omega, by dsimp only; omega⟩, fun n => by simp [okOp, fitsAll, signs, fitsI] <;> omega⟩
    · intro r r' _ hr i hi
      have ei := hr i hi
      have i1 : i ≠ f := by omega
      have i2 : i ≠ f + 1 := by omega
      cases less <;> cases hb <;> simp [regsS, regS, upd, e1, i1, i2, ei, IntWalk.i64_left, wrap_back, wrap_forth, hbR]
  · cases hb
theorem sets_plain {l : List Op5} {args ws : List Int} (hl : ∀ o ∈ l, OpR o) (ha : ∀ x ∈ args, InR x) (hw : ∀ x ∈ ws, InR x) (which by' : Int) (less : Bool) : WLaw l args ws (swapL args.length which 2 (setsL by' less) l) :=
  law_in_range hl ha hw (fun hok _ _ => sets_block by' less hok hl)

theorem less_made (x y : Int) : flagI (wrap64 (flagI (decide (y < x)) + flagI (x == y)) == 0) = flagI (decide (x < y)) := by
  by_cases h : x < y
  · have h1 : ¬ y < x := by omega
    have h2 : ¬ x = y := by omega
    simp [flagI, wrap64, h, h1, h2]
  · by_cases h2 : x = y
    · subst h2
      simp [flagI, wrap64]
    · have h1 : y < x := by omega
      simp [flagI, wrap64, h, h1, h2]
theorem same_made (x y : Int) (hx : InR x) (hy : InR y) : flagI (0 == wrap64 (x - y)) = flagI (x == y) := by
  congr 1
  rw [Bool.eq_iff_iff]
  simp only [beq_iff_eq]
  unfold InR at hx hy; unfold wrap64; omega
theorem tests_block {l : List Op5} {f : Nat} (hok : okCode l = true) (hu : ∀ o ∈ l, ∀ r ∈ usedL o, r < (f : Int)) : ByLaw l f 2 testsL RangeI := by
  refine reg_by fun k hk hf bl hb => ?_
  have hok1 := okCode_at hok hk
  have hu1 := hu (opAt l k) (by rw [opAt_eq hk]; exact List.getElem_mem _)
  revert hok1 hu1 hb
  generalize opAt l k = o
  obtain ⟨kk, a, b, c, d⟩ := o
  intro hb hok1 hu1
  unfold testsL at hb
  dsimp only at hb
  by_cases hkk : kk = 9 ∨ kk = 8
  · have hk3 : kk = 3 ∨ kk = 4 ∨ kk = 5 ∨ kk = 6 ∨ kk = 7 ∨ kk = 8 ∨ kk = 9 := by omega
    obtain ⟨qa, qb, qc, rfl⟩ := ok_three hk3 hok1
    have u2 := hu1 b (by rcases hkk with rfl | rfl <;> simp [usedL])
    have u3 := hu1 c (by rcases hkk with rfl | rfl <;> simp [usedL])
    obtain ⟨a, rfl⟩ := nat_of qa.1
    obtain ⟨b, rfl⟩ := nat_of qb.1
    obtain ⟨c, rfl⟩ := nat_of qc.1
    have n1 : b ≠ f := by omega
    have n2 : b ≠ f + 1 := by omega
    have n3 : c ≠ f := by omega
    have n4 : c ≠ f + 1 := by omega
    have e1 : ((f : Int) + 1).toNat = f + 1 := by omega
    refine ⟨?_, ⟨by dsimp only; omega, by dsimp only; omega⟩, ?_, ?_⟩
    · rcases hkk with rfl | rfl <;> cases hb <;> simp
    · rcases hkk with rfl | rfl <;> cases hb <;> intro o ho <;> simp only [List.mem_cons, List.not_mem_nil, or_false] at ho
      · rcases ho with rfl | rfl | rfl | rfl | rfl <;> exact ⟨⟨by dsimp only; omega, by dsimp only; omega⟩, fun n => by simp [okOp, fitsAll, signs, fitsI] <;> omega⟩
      · rcases ho with rfl | rfl | rfl <;> exact ⟨⟨by dsimp only; omega, by dsimp only; omega⟩, fun n => by simp [okOp, fitsAll, signs, fitsI] <;> omega⟩
    · intro r r' hR hr i hi
      have eb := hr b (by omega)
      have ec := hr c (by omega)
      have ei := hr i hi
      have i1 : i ≠ f := by omega
      have i2 : i ≠ f + 1 := by omega
      have l1 := less_made (r b) (r c)
      have l2 := same_made (r b) (r c) (hR b) (hR c)
      rcases hkk with rfl | rfl <;> cases hb <;> simp [regsS, regS, upd, e1, n1, n3, i1, i2, eb, ec, ei, l1, l2]
  · rw [if_neg (fun h => hkk (.inl h)), if_neg (fun h => hkk (.inr h))] at hb
    cases hb
theorem tests_plain {l : List Op5} {args ws : List Int} (hl : ∀ o ∈ l, OpR o) (ha : ∀ x ∈ args, InR x) (hw : ∀ x ∈ ws, InR x) (which : Int) : WLaw l args ws (swapL args.length which 2 testsL l) :=
  law_in_range hl ha hw (fun hok _ hu => tests_block hok hu)

theorem wrap_form (n : Int) : ∃ t, wrap64 n = n + 18446744073709551616 * t := ⟨-((n + 9223372036854775808) / 18446744073709551616), by unfold wrap64; omega⟩
theorem wrap_shift (n t : Int) : wrap64 (n + 18446744073709551616 * t) = wrap64 n := by unfold wrap64; omega
theorem rest_made (x y : Int) (hx : InR x) (hy : y ≠ 0) : wrap64 (x - wrap64 (wrap64 (x.tdiv y) * y)) = x.tmod y := by
  obtain ⟨t, ht⟩ := wrap_form (x.tdiv y)
  have h1 : wrap64 (x.tdiv y) * y = x.tdiv y * y + 18446744073709551616 * (t * y) := by rw [ht, Int.add_mul, Int.mul_assoc]
  rw [h1, wrap_shift]
  have h2 := Int.tdiv_mul_add_tmod x y
  have h3 : InR (x.tmod y) := by have := inR_quo (b := y) hx true; unfold quoI at this; rw [if_neg hy] at this; exact this
  obtain ⟨m, hm⟩ : ∃ m, m = x.tdiv y * y := ⟨_, rfl⟩
  rw [← hm] at h2 ⊢
  unfold InR at hx h3
  unfold wrap64
  omega
theorem rests_made (x y : Int) (hx : InR x) : wrap64 (wrap64 (x - wrap64 (quoI x y false * y)) * flagI (flagI (y == 0) == 0)) = quoI x y true := by
  by_cases hy : y = 0
  · subst hy
    rw [show flagI (flagI ((0 : Int) == 0) == 0) = 0 from rfl, Int.mul_zero]
    unfold quoI
    rw [if_pos rfl]
    unfold wrap64
    omega
  · rw [show flagI (y == 0) = 0 by rw [beq_eq_false_iff_ne.2 hy]; rfl, show flagI ((0 : Int) == 0) = 1 from rfl, Int.mul_one]
    have h := rest_made x y hx hy
    have h3 : InR (x.tmod y) := by have := inR_quo (b := y) hx true; unfold quoI at this; rw [if_neg hy] at this; exact this
    unfold quoI
    rw [if_neg hy, if_neg hy]
    show wrap64 (wrap64 (x - wrap64 (wrap64 (x.tdiv y) * y))) = x.tmod y
    rw [h, wrap_id h3]
theorem rests_block {l : List Op5} {f : Nat} (hok : okCode l = true) (hu : ∀ o ∈ l, ∀ r ∈ usedL o, r < (f : Int)) : ByLaw l f 3 restsL RangeI := by
  refine reg_by fun k hk hf bl hb => ?_
  have hok1 := okCode_at hok hk
  have hu1 := hu (opAt l k) (by rw [opAt_eq hk]; exact List.getElem_mem _)
  revert hok1 hu1 hb
  generalize opAt l k = o
  obtain ⟨kk, a, b, c, d⟩ := o
  intro hb hok1 hu1
  unfold restsL at hb
  dsimp only at hb
  split at hb
  · rename_i hkk
    subst hkk
    obtain ⟨qa, qb, qc, rfl⟩ := ok_three (by omega) hok1
    have u2 := hu1 b (by simp [usedL])
    have u3 := hu1 c (by simp [usedL])
    obtain ⟨a, rfl⟩ := nat_of qa.1
    obtain ⟨b, rfl⟩ := nat_of qb.1
    obtain ⟨c, rfl⟩ := nat_of qc.1
    have n1 : b ≠ f := by omega
    have n2 : b ≠ f + 1 := by omega
    have n5 : b ≠ f + 2 := by omega
    have n3 : c ≠ f := by omega
    have n4 : c ≠ f + 1 := by omega
    have n6 : c ≠ f + 2 := by omega
    have e1 : ((f : Int) + 1).toNat = f + 1 := by omega
    have e2 : ((f : Int) + 2).toNat = f + 2 := by omega
    cases hb
    refine ⟨by simp, ⟨by dsimp only; omega, by dsimp only; omega⟩, ?_, ?_⟩
    · intro o ho
      simp only [List.mem_cons, List.not_mem_nil, or_false] at ho
      rcases ho with rfl | rfl | rfl | rfl | rfl | rfl | rfl <;> exact ⟨⟨by dsimp only; omega, by dsimp only; omega⟩, fun n => by simp [okOp, fitsAll, signs, fitsI] <;> omega⟩
    · intro r r' hR hr i hi
      have eb := hr b (by omega)
      have ec := hr c (by omega)
      have ei := hr i hi
      have i1 : i ≠ f := by omega
      have i2 : i ≠ f + 1 := by omega
      have i3 : i ≠ f + 2 := by omega
      have l1 := rests_made (r b) (r c) (hR b)
      simp [regsS, regS, upd, e1, e2, n1, n3, n6, i1, i2, i3, eb, ec, ei, l1]
  · cases hb
theorem rests_plain {l : List Op5} {args ws : List Int} (hl : ∀ o ∈ l, OpR o) (ha : ∀ x ∈ args, InR x) (hw : ∀ x ∈ ws, InR x) (which : Int) : WLaw l args ws (swapL args.length which 3 restsL l) :=
  law_in_range hl ha hw (fun hok _ hu => rests_block hok hu)
end Go.Proofs.YtmnfgigieafehaaDoor
