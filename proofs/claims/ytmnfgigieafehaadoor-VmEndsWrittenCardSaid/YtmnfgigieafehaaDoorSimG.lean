/- The plain laws of blocks whose instructions write registers, and that every number of a run keeps its range. No Go and no memory in it. -/
import Derived.Test.YtmnfgigieafehaaDoorSimF
namespace Go.Proofs.YtmnfgigieafehaaDoor
open Go.RowKit
set_option maxRecDepth 100000

/-- The registers behind an instruction that only writes one. -/
def regS (o : Op5) (r : Nat → Int) : Nat → Int :=
  if o.k = 1 then upd r o.a.toNat o.b
  else if o.k = 2 then upd r o.a.toNat (r o.b.toNat)
  else if o.k = 3 then upd r o.a.toNat (wrap64 (r o.b.toNat + r o.c.toNat))
  else if o.k = 4 then upd r o.a.toNat (wrap64 (r o.b.toNat - r o.c.toNat))
  else if o.k = 5 then upd r o.a.toNat (wrap64 (r o.b.toNat * r o.c.toNat))
  else if o.k = 6 then upd r o.a.toNat (quoI (r o.b.toNat) (r o.c.toNat) false)
  else if o.k = 7 then upd r o.a.toNat (quoI (r o.b.toNat) (r o.c.toNat) true)
  else if o.k = 8 then upd r o.a.toNat (flagI (r o.b.toNat == r o.c.toNat))
  else upd r o.a.toNat (flagI (decide (r o.b.toNat < r o.c.toNat)))
def isReg (o : Op5) : Prop := 1 ≤ o.k ∧ o.k ≤ 9
theorem exec_reg {o : Op5} (h : isReg o) (s : St) : execS o s = { s with r := regS o s.r } := by
  obtain ⟨k, a, b, c, d⟩ := o
  obtain ⟨h1, h2⟩ := h
  dsimp only at h1 h2
  have hk : k = 1 ∨ k = 2 ∨ k = 3 ∨ k = 4 ∨ k = 5 ∨ k = 6 ∨ k = 7 ∨ k = 8 ∨ k = 9 := by omega
  rcases hk with rfl | rfl | rfl | rfl | rfl | rfl | rfl | rfl | rfl <;> rfl
theorem reg_tgt {o : Op5} (h : isReg o) : tgtOf o = none := by
  obtain ⟨h1, h2⟩ := h
  unfold tgtOf
  rw [if_neg (by omega), if_neg (by omega)]
theorem endS_id {n : Nat} {s : St} (h : s.pc < n) : endS n s = s := by
  obtain ⟨r, p, t, c, o, w⟩ := s
  dsimp only at h
  unfold endS
  dsimp only
  rw [beq_eq_false_iff_ne.2 (show (p : Int) ≠ (n : Int) by omega), Bool.or_false]
def regsS (bl : List Op5) (r : Nat → Int) : Nat → Int := bl.foldl (fun r o => regS o r) r
/-- A step of the changed code at the block's j-th instruction. -/
theorem block_step' {l bl : List Op5} {k j : Nat} {s' : St} (hk : k < l.length) (hj : j < bl.length) (hpc : s'.pc = k + j) :
    stepS (putL l k bl) s' = endS (l.length + (bl.length - 1)) (execS (shiftB k (bl.length - 1) (ownI (opAt l k)) (opAt bl j)) { s' with pc := k + j + 1 }) := by
  unfold stepS
  rw [putL_length hk (by omega), hpc, putL_mid hk hj]
theorem take_succ_at {bl : List Op5} {m : Nat} (hm : m < bl.length) : bl.take (m + 1) = bl.take m ++ [opAt bl m] := by
  rw [List.take_add_one, List.getElem?_eq_getElem hm]
  simp [opAt, List.getD, hm]
theorem reg_prefix {l bl : List Op5} {k : Nat} {s' : St} (hk : k < l.length) (m : Nat) (hm : m < bl.length) (hreg : ∀ o ∈ bl.take m, isReg o) (hpc : s'.pc = k) (hov : s'.ov = false) :
    Steps (putL l k bl) s' { s' with r := regsS (bl.take m) s'.r, pc := k + m } := by
  induction m with
  | zero =>
    obtain ⟨r, p, t, c, o, w⟩ := s'
    dsimp only at hpc
    subst hpc
    exact .refl _
  | succ m ih =>
    have ht := take_succ_at (bl := bl) (m := m) (by omega)
    rw [ht] at hreg ⊢
    refine (ih (by omega) (fun o ho => hreg o (by simp [ho]))).trans (.step hov ?_)
    have hr : isReg (opAt bl m) := hreg _ (by simp)
    have e : shiftB k (bl.length - 1) (ownI (opAt l k)) (opAt bl m) = opAt bl m := by unfold shiftB; rw [reg_tgt hr]
    rw [block_step' (j := m) hk (by omega) rfl, e, exec_reg hr, endS_id (by dsimp only; omega)]
    have e2 : regsS (bl.take m ++ [opAt bl m]) s'.r = regS (opAt bl m) (regsS (bl.take m) s'.r) := by unfold regsS; rw [List.foldl_append]; rfl
    rw [e2]
    exact .refl _
/-- A block whose last instruction does what the instruction itself did, the ones ahead of it having written registers. -/
theorem pre_block {l bl : List Op5} {k f : Nat} {I : St → Prop} (hk : k < l.length) (m : Nat) (hm : m + 1 = bl.length) (hreg : ∀ o ∈ bl.take m, isReg o)
    (h : ∀ s s' : St, I s → s.pc = k → Near f s s' →
      Near f (execS (opAt l k) { s with pc := k + 1 }) (execS (shiftB k m (ownI (opAt l k)) (opAt bl m)) { s' with r := regsS (bl.take m) s'.r, pc := k + m + 1 }) ∧
      (execS (shiftB k m (ownI (opAt l k)) (opAt bl m)) { s' with r := regsS (bl.take m) s'.r, pc := k + m + 1 }).pc = mapP k m (execS (opAt l k) { s with pc := k + 1 }).pc) : BlockOk l bl k f I := by
  intro s s' hI _ hside hpc hov
  have hov' : s'.ov = false := hside.same.2.2.2.symm.trans hov
  have hpc' : s'.pc = k := by rw [hside.pc, hpc]; unfold mapP; rw [if_pos (Nat.le_refl _)]
  have hm1 : bl.length - 1 = m := by omega
  obtain ⟨n, p⟩ := h s s' hI hpc ⟨hside.r, hside.same.1.symm, hside.same.2.1.symm, hside.same.2.2.1.symm, hside.same.2.2.2.symm⟩
  refine ⟨_, (reg_prefix hk m (by omega) hreg hpc' hov').trans (Steps.one hov'), .inl ?_⟩
  rw [own_step hpc, block_step' (j := m) hk (by omega) rfl, hm1]
  exact side_end hk n p
/-- A block of register writes. -/
theorem reg_block {l bl : List Op5} {k f : Nat} {I : St → Prop} (hk : k < l.length) (hb : 0 < bl.length) (hreg : ∀ o ∈ bl, isReg o) (hown : isReg (opAt l k))
    (h : ∀ (s : St) (r' : Nat → Int), I s → (∀ i, i < f → r' i = s.r i) → ∀ i, i < f → regsS bl r' i = regS (opAt l k) s.r i) : BlockOk l bl k f I := by
  refine pre_block hk (bl.length - 1) (by omega) (fun o ho => hreg o (List.mem_of_mem_take ho)) ?_
  intro s s' hI hpc n
  have hl : isReg (opAt bl (bl.length - 1)) := hreg _ (by rw [opAt_eq (show bl.length - 1 < bl.length by omega)]; exact List.getElem_mem _)
  have e : shiftB k (bl.length - 1) (ownI (opAt l k)) (opAt bl (bl.length - 1)) = opAt bl (bl.length - 1) := by unfold shiftB; rw [reg_tgt hl]
  have e2 : regS (opAt bl (bl.length - 1)) (regsS (bl.take (bl.length - 1)) s'.r) = regsS bl s'.r := by
    have ht := take_succ_at (bl := bl) (m := bl.length - 1) (by omega)
    rw [show bl.length - 1 + 1 = bl.length by omega, List.take_length] at ht
    conv => rhs; rw [ht]
    unfold regsS; rw [List.foldl_append]; rfl
  rw [e, exec_reg hl, exec_reg hown]
  dsimp only
  rw [e2]
  refine ⟨⟨h s s'.r hI n.r, n.told, n.ws, n.cd, n.ov⟩, ?_⟩
  unfold mapP
  rw [if_neg (by omega)]
  omega

/-! ### Ranges -/
def RangeI (s : St) : Prop := (∀ i, InR (s.r i)) ∧ ∀ x ∈ s.ws, InR x
theorem inR_zero : InR 0 := by unfold InR; omega
theorem inR_one : InR 1 := by unfold InR; omega
theorem inR_wrap (n : Int) : InR (wrap64 n) := by unfold InR wrap64; omega
theorem wrap_id {x : Int} (h : InR x) : wrap64 x = x := by unfold InR at h; unfold wrap64; omega
theorem inR_flag (b : Bool) : InR (flagI b) := by cases b <;> unfold flagI InR <;> simp
theorem inR_quo {a b : Int} (ha : InR a) (rest : Bool) : InR (quoI a b rest) := by
  unfold quoI
  split
  · exact inR_zero
  · split
    · unfold InR at ha ⊢
      have h1 := Int.natAbs_tmod a b
      have h2 : a.natAbs % b.natAbs ≤ a.natAbs := Nat.mod_le _ _
      by_cases h0 : 0 ≤ a
      · have := Int.tmod_nonneg b h0
        omega
      · have h3 := Int.tmod_nonneg b (show 0 ≤ -a by omega)
        rw [Int.neg_tmod] at h3
        omega
    · exact inR_wrap _
theorem inR_upd {r : Nat → Int} (h : ∀ i, InR (r i)) {v : Int} (hv : InR v) (j : Nat) : ∀ i, InR (upd r j v i) := fun i => by
  unfold upd; split
  · exact hv
  · exact h i
theorem inR_get {ws : List Int} (h : ∀ x ∈ ws, InR x) (i : Nat) : InR (ws.getD i 0) := by
  rw [List.getD]
  cases hg : ws[i]? with
  | none => exact inR_zero
  | some x => exact h x (List.mem_of_getElem? hg)
theorem inR_set {ws : List Int} (h : ∀ x ∈ ws, InR x) {v : Int} (hv : InR v) (i : Nat) : ∀ x ∈ ws.set i v, InR x := fun x hx => by
  rcases List.mem_or_eq_of_mem_set hx with h1 | rfl
  · exact h x h1
  · exact hv
theorem range_reg {o : Op5} {r : Nat → Int} (ho : OpR o) (h : ∀ i, InR (r i)) : ∀ i, InR (regS o r i) := by
  unfold regS
  repeat' split
  · exact inR_upd h ho.b _
  · exact inR_upd h (h _) _
  · exact inR_upd h (inR_wrap _) _
  · exact inR_upd h (inR_wrap _) _
  · exact inR_upd h (inR_wrap _) _
  · exact inR_upd h (inR_quo (h _) _) _
  · exact inR_upd h (inR_quo (h _) _) _
  · exact inR_upd h (inR_flag _) _
  · exact inR_upd h (inR_flag _) _
theorem range_word {o : Op5} {i : Nat} {s : St} (h : RangeI s) : RangeI (wordS o i s) := by
  unfold wordS
  repeat' split
  · exact ⟨inR_upd h.1 (inR_get h.2 _) _, h.2⟩
  · exact ⟨h.1, inR_set h.2 (h.1 _) _⟩
  · exact ⟨inR_upd h.1 inR_one _, inR_set h.2 (h.1 _) _⟩
  · exact ⟨inR_upd h.1 inR_zero _, h.2⟩
theorem range_other {o : Op5} {s : St} (h : RangeI s) : RangeI (otherS o s) := by
  unfold otherS
  repeat' split
  all_goals first | exact h | exact range_word h
theorem range_exec {o : Op5} {s : St} (ho : OpR o) (h : RangeI s) : RangeI (execS o s) := by
  by_cases hr : isReg o
  · rw [exec_reg hr]; exact ⟨range_reg ho h.1, h.2⟩
  · have e : execS o s = otherS o s := by
      unfold isReg at hr
      unfold execS
      repeat' split
      all_goals first | rfl | omega
    rw [e]; exact range_other h
theorem range_step {l : List Op5} {s : St} (hl : ∀ o ∈ l, OpR o) (hpc : s.pc < l.length) (h : RangeI s) : RangeI (stepS l s) := by
  have ho : OpR (opAt l s.pc) := hl _ (by rw [opAt_eq hpc]; exact List.getElem_mem _)
  exact range_exec (s := { s with pc := s.pc + 1 }) ho h
theorem range_begin {l : List Op5} {args ws : List Int} (ha : ∀ x ∈ args, InR x) (hw : ∀ x ∈ ws, InR x) : RangeI (beginS l args ws) := ⟨fun i => inR_get ha i, hw⟩
/-- wSwap's change keeps what a call answers, all numbers being in range. -/
theorem law_in_range {l : List Op5} {args ws : List Int} {which : Int} {many : Nat} {byL : Op5 → Nat → Nat → Option (List Op5)} (hl : ∀ o ∈ l, OpR o) (ha : ∀ x ∈ args, InR x) (hw : ∀ x ∈ ws, InR x)
    (hby : okCode l = true → args.length ≤ 8 → (∀ o ∈ l, ∀ r ∈ usedL o, r < (freeN l args.length : Nat)) → ByLaw l (freeN l args.length) many byL RangeI) : WLaw l args ws (swapL args.length which many byL l) :=
  law_of_swap RangeI (range_begin ha hw) (fun _ _ h hst hov => range_step hl (hst.pc hov) h) hby
end Go.Proofs.YtmnfgigieafehaaDoor
