/- The plain laws of Ways and Over. No Go and no memory in it. -/
import Derived.Test.YtmnfgigieafehaaDoorSimM
import Derived.Test.YtmnfgigieafehaaDoorByE
import Derived.Test.YtmnfgigieafehaaDoorByF
namespace Go.Proofs.YtmnfgigieafehaaDoor
open Go.RowKit
set_option maxRecDepth 100000

/-- Does When, or Unless, go? -/
def goesB (kk a : Int) (s : St) : Bool := (kk == 11) != (s.r a.toNat == 0)
theorem exec_way {kk a b c d : Int} {s : St} (h : kk = 11 ∨ kk = 12) : execS ⟨kk, a, b, c, d⟩ s = if goesB kk a s then { s with pc := b.toNat } else s := by
  unfold goesB
  rcases h with rfl | rfl
  · show (if s.r a.toNat = 0 then s else { s with pc := b.toNat }) = _
    by_cases hz : s.r a.toNat = 0
    · simp [hz]
    · simp [hz]
  · show (if s.r a.toNat = 0 then { s with pc := b.toNat } else s) = _
    by_cases hz : s.r a.toNat = 0
    · simp [hz]
    · simp [hz]
theorem goes_near {kk a : Int} {s t : St} (h : t.r a.toNat = s.r a.toNat) : goesB kk a t = goesB kk a s := by unfold goesB; rw [h]
theorem goes_other {kk a : Int} {s : St} (h : kk = 11 ∨ kk = 12) : goesB (23 - kk) a s = !goesB kk a s := by
  unfold goesB
  rcases h with rfl | rfl <;> by_cases hz : s.r a.toNat = 0 <;> simp [hz]
theorem mapP_own (k more : Nat) : mapP k more k = k := if_pos (Nat.le_refl _)

theorem ways_block {l : List Op5} {f : Nat} (hok : okCode l = true) (hu : ∀ o ∈ l, ∀ r ∈ usedL o, r < (f : Int)) : ByLaw l f 1 waysL RangeI := by
  intro k hk hf bl hb
  have hok1 := okCode_at hok hk
  have hu1 := hu (opAt l k) (by rw [opAt_eq hk]; exact List.getElem_mem _)
  obtain ⟨o, ho⟩ : ∃ o, o = opAt l k := ⟨_, rfl⟩
  rw [← ho] at hok1 hu1 hb
  obtain ⟨kk, a, b, c, d⟩ := o
  unfold waysL at hb
  dsimp only at hb
  by_cases hw : kk = 11 ∨ kk = 12
  · rw [if_pos hw] at hb
    obtain ⟨qa, qb, rfl, rfl⟩ := ok_way hw hok1
    have u1 := hu1 a (by rcases hw with rfl | rfl <;> simp [usedL])
    split at hb
    · cases hb
    · rename_i hne
      cases hb
      have hw2 : (23 - kk) = 11 ∨ (23 - kk) = 12 := by omega
      have hown : ownI (opAt l k) = b := by rw [← ho]; exact own_way hw
      have s0 : shiftB k 1 (ownI (opAt l k)) ⟨23 - kk, a, (k : Int) + 2, 0, 0⟩ = ⟨23 - kk, a, (k : Int) + 2, 0, 0⟩ := by
        rw [hown]
        refine shiftB_other (fun t ht => ?_)
        unfold tgtOf at ht
        dsimp only at ht
        rw [if_neg (by omega), if_pos hw2] at ht
        cases ht
        exact fun e => hne e.symm
      have s1 : shiftB k 1 (ownI (opAt l k)) ⟨10, b, 0, 0, 0⟩ = ⟨10, movedI k 1 b, 0, 0, 0⟩ := by rw [hown]; exact shiftB_jump
      refine ⟨by simp, fun j hj => ?_, ?_⟩
      · have hj2 : j = 0 ∨ j = 1 := by simp at hj; omega
        rcases hj2 with rfl | rfl
        · show okOp _ (shiftB k 1 (ownI (opAt l k)) ⟨23 - kk, a, (k : Int) + 2, 0, 0⟩) = true
          rw [s0]
          exact ok_way_of hw2 qa (by simp only [List.length_cons, List.length_nil]; omega)
        · show okOp _ (shiftB k 1 (ownI (opAt l k)) ⟨10, b, 0, 0, 0⟩) = true
          rw [s1]
          exact ok_jump_of (moved_in qb)
      · intro s s' _ _ hside hpc hov
        have hov' : s'.ov = false := hside.same.2.2.2.symm.trans hov
        have hpc' : s'.pc = k + 0 := by rw [hside.pc, hpc, mapP_own]; rfl
        have st0 : stepS (putL l k [⟨23 - kk, a, (k : Int) + 2, 0, 0⟩, ⟨10, b, 0, 0, 0⟩]) s' = endS (l.length + 1) (execS ⟨23 - kk, a, (k : Int) + 2, 0, 0⟩ { s' with pc := k + 0 + 1 }) := by
          rw [block_step' (j := 0) hk (by simp) hpc']
          show endS (l.length + 1) (execS (shiftB k 1 (ownI (opAt l k)) ⟨23 - kk, a, (k : Int) + 2, 0, 0⟩) _) = _
          rw [s0]
        have own := own_step (l := l) hpc
        rw [← ho, exec_way hw] at own
        rw [exec_way hw2, goes_other hw, goes_near (s := { s with pc := k + 1 }) (t := { s' with pc := k + 0 + 1 }) (hside.r a.toNat (by omega))] at st0
        cases hg : goesB kk a { s with pc := k + 1 }
        · rw [hg] at st0 own
          have st : stepS (putL l k [⟨23 - kk, a, (k : Int) + 2, 0, 0⟩, ⟨10, b, 0, 0, 0⟩]) s' = endS (l.length + 1) { s' with pc := ((k : Int) + 2).toNat } := st0
          refine ⟨_, Steps.one hov', .inl ?_⟩
          rw [st, own]
          refine side_end hk ⟨hside.r, hside.same.1.symm, hside.same.2.1.symm, hside.same.2.2.1.symm, hside.same.2.2.2.symm⟩ ?_
          show ((k : Int) + 2).toNat = mapP k 1 (k + 1)
          rw [mapP_next]; omega
        · rw [hg] at st0 own
          have st : stepS (putL l k [⟨23 - kk, a, (k : Int) + 2, 0, 0⟩, ⟨10, b, 0, 0, 0⟩]) s' = { s' with pc := k + 1 } := by
            rw [st0]; exact endS_id (show k + 0 + 1 < l.length + 1 by omega)
          refine ⟨_, Steps.to hov' st (Steps.one hov'), .inl ?_⟩
          rw [block_step' (j := 1) hk (by simp) rfl]
          show Side k 1 f _ (endS (l.length + 1) (execS (shiftB k 1 (ownI (opAt l k)) ⟨10, b, 0, 0, 0⟩) _))
          rw [s1, own]
          refine side_end hk ⟨hside.r, hside.same.1.symm, hside.same.2.1.symm, hside.same.2.2.1.symm, hside.same.2.2.2.symm⟩ ?_
          exact moved_toNat qb.1
  · rw [if_neg hw] at hb
    split at hb
    · rename_i h10
      subst h10
      cases hb
      obtain ⟨qa, rfl, rfl, rfl⟩ := ok_jump hok1
      have hown : ownI (opAt l k) = a := by rw [← ho]; rfl
      have s1 : shiftB k 1 (ownI (opAt l k)) ⟨11, (f : Int), a, 0, 0⟩ = ⟨11, (f : Int), movedI k 1 a, 0, 0⟩ := by rw [hown]; exact shiftB_way (.inl rfl)
      refine ⟨by simp, fun j hj => ?_, ?_⟩
      · have hj2 : j = 0 ∨ j = 1 := by simp at hj; omega
        rcases hj2 with rfl | rfl
        · show okOp _ (⟨1, (f : Int), 3, 0, 0⟩ : Op5) = true
          simp [okOp, fitsAll, signs, fitsI] <;> omega
        · show okOp _ (shiftB k 1 (ownI (opAt l k)) ⟨11, (f : Int), a, 0, 0⟩) = true
          rw [s1]
          exact ok_way_of (.inl rfl) (by omega) (moved_in qa)
      · refine pre_block hk 1 rfl (fun o ho => ?_) (fun s s' _ _ n => ?_)
        · obtain rfl : o = ⟨1, (f : Int), 3, 0, 0⟩ := by simpa using ho
          exact isReg_mk (by decide)
        · show Near f (execS (opAt l k) _) (execS (shiftB k 1 (ownI (opAt l k)) ⟨11, (f : Int), a, 0, 0⟩) { s' with r := upd s'.r ((f : Int)).toNat 3, pc := k + 1 + 1 }) ∧ (execS (shiftB k 1 (ownI (opAt l k)) ⟨11, (f : Int), a, 0, 0⟩) { s' with r := upd s'.r ((f : Int)).toNat 3, pc := k + 1 + 1 }).pc = _
          rw [s1, ← ho]
          have q2 : execS ⟨11, (f : Int), movedI k 1 a, 0, 0⟩ { s' with r := upd s'.r ((f : Int)).toNat 3, pc := k + 1 + 1 } = { s' with r := upd s'.r ((f : Int)).toNat 3, pc := (movedI k 1 a).toNat } :=
            if_neg (show ¬ upd s'.r ((f : Int)).toNat 3 ((f : Int)).toNat = 0 by rw [upd_same]; decide)
          rw [q2]
          refine ⟨⟨fun i hi => ?_, n.told, n.ws, n.cd, n.ov⟩, moved_toNat qa.1⟩
          show upd s'.r ((f : Int)).toNat 3 i = s.r i
          rw [upd_ne (by omega)]; exact n.r i hi
    · cases hb
theorem ways_plain {l : List Op5} {args ws : List Int} (hl : ∀ o ∈ l, OpR o) (ha : ∀ x ∈ args, InR x) (hw : ∀ x ∈ ws, InR x) (which : Int) : WLaw l args ws (swapL args.length which 1 waysL l) :=
  law_in_range hl ha hw (fun hok _ hu => ways_block hok hu)

/-- The instruction itself, last in its block. -/
theorem own_last {l bl : List Op5} {k f m : Nat} {s t : St} (hk : k < l.length) (hm : m + 1 = bl.length) (hop : opAt bl m = opAt l k) (hok : okOp l.length (opAt l k) = true) (hu : ∀ r ∈ usedL (opAt l k), r < (f : Int)) (ht : tgtOf (opAt l k) = none)
    (n : Near f s t) (hpc : s.pc = k) (hpc' : t.pc = k + m) : Side k (bl.length - 1) f (stepS l s) (stepS (putL l k bl) t) := by
  have e : shiftB k (bl.length - 1) (ownI (opAt l k)) (opAt bl m) = opAt l k := by rw [hop]; unfold shiftB; rw [ht]
  rw [own_step hpc, block_step' (j := m) hk (by omega) hpc', e]
  refine side_end hk ((n.pcs _ _).exec hok hu ht) ?_
  rw [exec_pc hok ht, exec_pc hok ht]
  show k + m + 1 = mapP k (bl.length - 1) (k + 1)
  rw [mapP_next]; omega
theorem Side.near {k more f : Nat} {s t : St} (h : Side k more f s t) : Near f s t := ⟨h.r, h.same.1.symm, h.same.2.1.symm, h.same.2.2.1.symm, h.same.2.2.2.symm⟩
theorem near_hold {f : Nat} {s t : St} (n : Near f s t) (j : Nat) (hj : f ≤ j) (v : Int) (p : Nat) : Near f s { t with r := upd t.r j v, pc := p } :=
  ⟨fun i hi => by show upd t.r j v i = _; rw [upd_ne (by omega)]; exact n.r i hi, n.told, n.ws, n.cd, n.ov⟩
theorem own_no {o : Op5} (h : tgtOf o = none) : ownI o = -1 := by unfold ownI; rw [h]; rfl

theorem over_block {l : List Op5} {f : Nat} (how : Int) (hok : okCode l = true) (hu : ∀ o ∈ l, ∀ r ∈ usedL o, r < (f : Int)) : ByLaw l f 1 (overL how) RangeI := by
  intro k hk hf bl hb
  have hok1 := okCode_at hok hk
  have hu1 := hu (opAt l k) (by rw [opAt_eq hk]; exact List.getElem_mem _)
  unfold overL at hb
  split at hb
  · rename_i ht
    have hown := own_no ht
    have sl : ∀ more own, shiftB k more own (opAt l k) = opAt l k := fun more own => by unfold shiftB; rw [ht]
    have hf2 : (f : Int) < 24 := by omega
    split at hb
    · cases hb
      have s0 : shiftB k 3 (ownI (opAt l k)) ⟨10, (k : Int) + 3, 0, 0, 0⟩ = ⟨10, (k : Int) + 3, 0, 0, 0⟩ := by
        rw [hown]
        refine shiftB_other (fun t ht => ?_)
        cases ht
        show (k : Int) + 3 ≠ -1
        omega
      refine ⟨by simp, fun j hj => ?_, ?_⟩
      · have hj2 : j = 0 ∨ j = 1 ∨ j = 2 ∨ j = 3 := by simp at hj; omega
        rcases hj2 with rfl | rfl | rfl | rfl
        · show okOp _ (shiftB k 3 (ownI (opAt l k)) ⟨10, (k : Int) + 3, 0, 0, 0⟩) = true
          rw [s0]
          exact ok_jump_of (by simp only [List.length_cons, List.length_nil]; omega)
        · show okOp _ (⟨16, (f : Int), 0, 0, 0⟩ : Op5) = true
          simp [okOp, fitsAll, signs, fitsI] <;> omega
        · rfl
        · show okOp _ (shiftB k 3 (ownI (opAt l k)) (opAt l k)) = true
          rw [sl]
          exact ok_more hok1 (by simp only [List.length_cons, List.length_nil]; omega)
      · intro s s' _ _ hside hpc hov
        have hov' : s'.ov = false := hside.same.2.2.2.symm.trans hov
        have hpc' : s'.pc = k + 0 := by rw [hside.pc, hpc, mapP_own]; rfl
        have st0 : stepS (putL l k [⟨10, (k : Int) + 3, 0, 0, 0⟩, ⟨16, (f : Int), 0, 0, 0⟩, ⟨17, 0, 0, 0, 0⟩, opAt l k]) s' = { s' with pc := ((k : Int) + 3).toNat } := by
          rw [block_step' (j := 0) hk (by simp) hpc']
          show endS (l.length + 3) (execS (shiftB k 3 (ownI (opAt l k)) ⟨10, (k : Int) + 3, 0, 0, 0⟩) _) = _
          rw [s0]
          exact endS_id (show ((k : Int) + 3).toNat < l.length + 3 by omega)
        exact ⟨_, Steps.to hov' st0 (Steps.one hov'), .inl (own_last (m := 3) hk rfl rfl hok1 hu1 ht (hside.near.pcs s.pc _) hpc (show ((k : Int) + 3).toNat = k + 3 by omega))⟩
    · split at hb
      · cases hb
        have s1 : shiftB k 2 (ownI (opAt l k)) ⟨11, (f : Int), 0, 0, 0⟩ = ⟨11, (f : Int), 0, 0, 0⟩ := by
          rw [hown]
          refine shiftB_other (fun t ht => ?_)
          cases ht
          show (0 : Int) ≠ -1
          decide
        refine ⟨by simp, fun j hj => ?_, ?_⟩
        · have hj2 : j = 0 ∨ j = 1 ∨ j = 2 := by simp at hj; omega
          rcases hj2 with rfl | rfl | rfl
          · show okOp _ (⟨1, (f : Int), 0, 0, 0⟩ : Op5) = true
            simp [okOp, fitsAll, signs, fitsI] <;> omega
          · show okOp _ (shiftB k 2 (ownI (opAt l k)) ⟨11, (f : Int), 0, 0, 0⟩) = true
            rw [s1]
            exact ok_way_of (.inl rfl) (by omega) (by omega)
          · show okOp _ (shiftB k 2 (ownI (opAt l k)) (opAt l k)) = true
            rw [sl]
            exact ok_more hok1 (by simp only [List.length_cons, List.length_nil]; omega)
        · intro s s' _ _ hside hpc hov
          have hov' : s'.ov = false := hside.same.2.2.2.symm.trans hov
          have hpc' : s'.pc = k + 0 := by rw [hside.pc, hpc, mapP_own]; rfl
          have st0 : stepS (putL l k [⟨1, (f : Int), 0, 0, 0⟩, ⟨11, (f : Int), 0, 0, 0⟩, opAt l k]) s' = { s' with r := upd s'.r f 0, pc := k + 0 + 1 } :=
            reg_one (j := 0) (o := ⟨1, (f : Int), 0, 0, 0⟩) hk (by simp) rfl (isReg_mk (by decide)) hpc'
          have st1 : stepS (putL l k [⟨1, (f : Int), 0, 0, 0⟩, ⟨11, (f : Int), 0, 0, 0⟩, opAt l k]) { s' with r := upd s'.r f 0, pc := k + 0 + 1 } = { s' with r := upd s'.r f 0, pc := k + 1 + 1 } := by
            rw [block_step' (j := 1) hk (by simp) rfl]
            show endS (l.length + 2) (execS (shiftB k 2 (ownI (opAt l k)) ⟨11, (f : Int), 0, 0, 0⟩) _) = _
            rw [s1]
            have q : execS ⟨11, (f : Int), 0, 0, 0⟩ { s' with r := upd s'.r f 0, pc := k + 1 + 1 } = { s' with r := upd s'.r f 0, pc := k + 1 + 1 } := if_pos (show upd s'.r f 0 ((f : Int)).toNat = 0 by rw [Int.toNat_natCast, upd_same])
            show endS (l.length + 2) (execS ⟨11, (f : Int), 0, 0, 0⟩ { s' with r := upd s'.r f 0, pc := k + 1 + 1 }) = _
            rw [q]
            exact endS_id (show k + 1 + 1 < l.length + 2 by omega)
          exact ⟨_, Steps.to hov' st0 (Steps.to hov' st1 (Steps.one hov')), .inl (own_last (m := 2) hk rfl rfl hok1 hu1 ht (near_hold hside.near f (Nat.le_refl _) 0 _) hpc rfl)⟩
      · cases hb
        refine ⟨by simp, fun j hj => ?_, ?_⟩
        · have hj2 : j = 0 ∨ j = 1 ∨ j = 2 := by simp at hj; omega
          rcases hj2 with rfl | rfl | rfl
          · show okOp _ (⟨1, (f : Int), 9, 0, 0⟩ : Op5) = true
            simp [okOp, fitsAll, signs, fitsI] <;> omega
          · show okOp _ (⟨5, (f : Int), (f : Int), (f : Int), 0⟩ : Op5) = true
            simp [okOp, fitsAll, signs, fitsI] <;> omega
          · show okOp _ (shiftB k 2 (ownI (opAt l k)) (opAt l k)) = true
            rw [sl]
            exact ok_more hok1 (by simp only [List.length_cons, List.length_nil]; omega)
        · intro s s' _ _ hside hpc hov
          have hov' : s'.ov = false := hside.same.2.2.2.symm.trans hov
          have hpc' : s'.pc = k + 0 := by rw [hside.pc, hpc, mapP_own]; rfl
          have st0 : stepS (putL l k [⟨1, (f : Int), 9, 0, 0⟩, ⟨5, (f : Int), (f : Int), (f : Int), 0⟩, opAt l k]) s' = { s' with r := upd s'.r f 9, pc := k + 0 + 1 } :=
            reg_one (j := 0) (o := ⟨1, (f : Int), 9, 0, 0⟩) hk (by simp) rfl (isReg_mk (by decide)) hpc'
          have st1 : stepS (putL l k [⟨1, (f : Int), 9, 0, 0⟩, ⟨5, (f : Int), (f : Int), (f : Int), 0⟩, opAt l k]) { s' with r := upd s'.r f 9, pc := k + 0 + 1 } = { s' with r := upd (upd s'.r f 9) f (wrap64 (upd s'.r f 9 f * upd s'.r f 9 f)), pc := k + 1 + 1 } :=
            reg_one (j := 1) (o := ⟨5, (f : Int), (f : Int), (f : Int), 0⟩) hk (by simp) rfl (isReg_mk (by decide)) rfl
          exact ⟨_, Steps.to hov' st0 (Steps.to hov' st1 (Steps.one hov')), .inl (own_last (m := 2) hk rfl rfl hok1 hu1 ht (near_hold (near_hold hside.near f (Nat.le_refl _) 9 0) f (Nat.le_refl _) _ _) hpc rfl)⟩
  · cases hb
theorem over_plain {l : List Op5} {args ws : List Int} (hl : ∀ o ∈ l, OpR o) (ha : ∀ x ∈ args, InR x) (hw : ∀ x ∈ ws, InR x) (which how : Int) : WLaw l args ws (swapL args.length which 1 (overL how) l) :=
  law_in_range hl ha hw (fun hok _ hu => over_block how hok hu)
end Go.Proofs.YtmnfgigieafehaaDoor
