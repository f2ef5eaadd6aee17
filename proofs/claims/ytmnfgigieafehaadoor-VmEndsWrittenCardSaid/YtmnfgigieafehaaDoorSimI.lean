/- The plain law of Moves; loads and stores. No Go and no memory in it. -/
import Derived.Test.YtmnfgigieafehaaDoorSimH
namespace Go.Proofs.YtmnfgigieafehaaDoor
open Go.RowKit
set_option maxRecDepth 100000

theorem isReg_mk {k a b c d : Int} (h : 1 ≤ k ∧ k ≤ 9) : isReg ⟨k, a, b, c, d⟩ := h
theorem Steps.to {l : List Op5} {s t u : St} (h0 : s.ov = false) (e : stepS l s = t) (h : Steps l t u) : Steps l s u := .step h0 (by rw [e]; exact h)
/-- A step at a register instruction that is not the block's last. -/
theorem reg_one {l bl : List Op5} {k j : Nat} {s' : St} {o : Op5} (hk : k < l.length) (hj : j + 1 < bl.length) (hop : opAt bl j = o) (ho : isReg o) (hpc : s'.pc = k + j) :
    stepS (putL l k bl) s' = { s' with r := regS o s'.r, pc := k + j + 1 } := by
  subst hop
  have e : shiftB k (bl.length - 1) (ownI (opAt l k)) (opAt bl j) = opAt bl j := by unfold shiftB; rw [reg_tgt ho]
  rw [block_step' hk (by omega) hpc, e, exec_reg ho, endS_id (by dsimp only; omega)]
theorem reg_end {l bl : List Op5} {k j : Nat} {s' : St} {o : Op5} (hk : k < l.length) (hj : j < bl.length) (hop : opAt bl j = o) (ho : isReg o) (hpc : s'.pc = k + j) :
    stepS (putL l k bl) s' = endS (l.length + (bl.length - 1)) { s' with r := regS o s'.r, pc := k + j + 1 } := by
  subst hop
  have e : shiftB k (bl.length - 1) (ownI (opAt l k)) (opAt bl j) = opAt bl j := by unfold shiftB; rw [reg_tgt ho]
  rw [block_step' hk hj hpc, e, exec_reg ho]
def addrS (b c : Int) (s : St) : Int := wrap64 (s.r b.toNat + c)
def badS (b c : Int) (s : St) : Prop := addrS b c s < 0 ∨ (s.ws.length : Int) ≤ addrS b c s
theorem exec_mem {o : Op5} (h : o.k = 13 ∨ o.k = 14 ∨ o.k = 15) (s : St) : execS o s = memS o s := by
  obtain ⟨k, a, b, c, d⟩ := o
  dsimp only at h
  rcases h with rfl | rfl | rfl <;> rfl
theorem mem_bad {k a b c d : Int} {s : St} (h : badS b c s) : memS ⟨k, a, b, c, d⟩ s = failS s 2 := by unfold memS; exact if_pos h
theorem mem_good {k a b c d : Int} {s : St} (h : ¬ badS b c s) : memS ⟨k, a, b, c, d⟩ s = wordS ⟨k, a, b, c, d⟩ (addrS b c s).toNat s := by unfold memS; exact if_neg h
theorem bad_near {b c : Int} {s t : St} (hr : t.r b.toNat = s.r b.toNat) (hw : t.ws = s.ws) : badS b c t ↔ badS b c s := by unfold badS addrS; rw [hr, hw]
theorem addr_near {b c : Int} {s t : St} (hr : t.r b.toNat = s.r b.toNat) : addrS b c t = addrS b c s := by unfold addrS; rw [hr]
theorem fail_same {n n' : Nat} {e : Int} {s t : St} (h1 : s.told = t.told) (h2 : s.ws = t.ws) : (endS n (failS s e)).ov = true ∧ Same (endS n (failS s e)) (endS n' (failS t e)) := by
  have h : ∀ (n : Nat) (s : St), (endS n (failS s e)).ov = true := fun n s => by unfold endS failS; simp
  exact ⟨h n s, h1, h2, rfl, (h n s).trans (h n' t).symm⟩
theorem upd_same (r : Nat → Int) (i : Nat) (v : Int) : upd r i v i = v := if_pos rfl
theorem upd_ne {i j : Nat} (h : j ≠ i) (r : Nat → Int) (v : Int) : upd r i v j = r j := if_neg h

/-- What a register instruction makes. -/
def valS (k b c d : Int) (r : Nat → Int) : Int := regS ⟨k, 0, b, c, d⟩ r 0
theorem reg_val {k a b c d : Int} (h : 1 ≤ k ∧ k ≤ 9) (r : Nat → Int) : regS ⟨k, a, b, c, d⟩ r = upd r a.toNat (valS k b c d r) := by
  have hk : k = 1 ∨ k = 2 ∨ k = 3 ∨ k = 4 ∨ k = 5 ∨ k = 6 ∨ k = 7 ∨ k = 8 ∨ k = 9 := by omega
  rcases hk with rfl | rfl | rfl | rfl | rfl | rfl | rfl | rfl | rfl <;> rfl
theorem val_near {n : Int} {f : Nat} {k a b c d : Int} {r r' : Nat → Int} (h : 1 ≤ k ∧ k ≤ 9) (hok : okOp n ⟨k, a, b, c, d⟩ = true) (hu : ∀ x ∈ usedL ⟨k, a, b, c, d⟩, x < (f : Int)) (hr : ∀ i, i < f → r' i = r i) : valS k b c d r' = valS k b c d r := by
  have hk : k = 1 ∨ k = 2 ∨ (k = 3 ∨ k = 4 ∨ k = 5 ∨ k = 6 ∨ k = 7 ∨ k = 8 ∨ k = 9) := by omega
  rcases hk with rfl | rfl | hk
  · rfl
  · obtain ⟨_, q, _⟩ := ok_copy hok
    have u := hu b (by simp [usedL])
    have e := hr b.toNat (by omega)
    show r' b.toNat = r b.toNat
    exact e
  · obtain ⟨_, q2, q3, _⟩ := ok_three hk hok
    have u2 := hu b (by rcases hk with rfl | rfl | rfl | rfl | rfl | rfl | rfl <;> simp [usedL])
    have u3 := hu c (by rcases hk with rfl | rfl | rfl | rfl | rfl | rfl | rfl <;> simp [usedL])
    have e2 := hr b.toNat (by omega)
    have e3 := hr c.toNat (by omega)
    rcases hk with rfl | rfl | rfl | rfl | rfl | rfl | rfl <;> simp only [valS, regS] <;> simp [upd, e2, e3]
theorem ok_put {n : Int} {k a b c d x : Int} (h : (1 ≤ k ∧ k ≤ 9) ∨ k = 13) (hok : okOp n ⟨k, a, b, c, d⟩ = true) (hx : 0 ≤ x ∧ x < 24) : okOp n ⟨k, x, b, c, d⟩ = true := by
  have hk : k = 1 ∨ k = 2 ∨ k = 3 ∨ k = 4 ∨ k = 5 ∨ k = 6 ∨ k = 7 ∨ k = 8 ∨ k = 9 ∨ k = 13 := by omega
  rcases hk with rfl | rfl | rfl | rfl | rfl | rfl | rfl | rfl | rfl | rfl <;> simp [okOp, fitsAll, signs, fitsI, hx.1, hx.2] at hok ⊢ <;> simp [hok]

theorem moves_block {l : List Op5} {f : Nat} (added : Bool) (hok : okCode l = true) (hl : ∀ o ∈ l, OpR o) (hu : ∀ o ∈ l, ∀ r ∈ usedL o, r < (f : Int)) : ByLaw l f 2 (movesL added) RangeI := by
  intro k hk hf bl hb
  have hok1 := okCode_at hok hk
  have hm : opAt l k ∈ l := by rw [opAt_eq hk]; exact List.getElem_mem _
  have hu1 := hu _ hm
  have hl1 := hl _ hm
  obtain ⟨o, ho⟩ : ∃ o, o = opAt l k := ⟨_, rfl⟩
  rw [← ho] at hok1 hu1 hb hl1
  obtain ⟨kk, a, b, c, d⟩ := o
  unfold movesL at hb
  dsimp only at hb
  have e1 : ((f : Int) + 1).toNat = f + 1 := by omega
  split at hb
  · rename_i hmk
    have hkk : (1 ≤ kk ∧ kk ≤ 9) ∨ kk = 13 := by
      unfold makesI at hmk
      simp only [Bool.or_eq_true, Bool.and_eq_true, decide_eq_true_eq, beq_iff_eq] at hmk
      exact hmk
    have hoks : ∀ o ∈ bl, tgtOf o = none ∧ ∀ n : Int, (l.length : Int) ≤ n → okOp n o = true := by
      have h0 : tgtOf ⟨kk, (f : Int), b, c, d⟩ = none := by unfold tgtOf; dsimp only; rw [if_neg (by omega), if_neg (by omega)]
      have qa : 0 ≤ a ∧ a < 24 := by
        rcases hkk with h | rfl
        · have hk : kk = 1 ∨ kk = 2 ∨ (kk = 3 ∨ kk = 4 ∨ kk = 5 ∨ kk = 6 ∨ kk = 7 ∨ kk = 8 ∨ kk = 9) := by omega
          rcases hk with rfl | rfl | h
          · exact (ok_set hok1).1
          · exact (ok_copy hok1).1
          · exact (ok_three h hok1).1
        · exact (ok_mem (.inl rfl) hok1).1
      cases added <;> cases hb <;> intro o ho <;> simp only [List.mem_cons, List.not_mem_nil, or_false] at ho
      · rcases ho with rfl | rfl
        · exact ⟨h0, fun n hn => ok_more (ok_put hkk hok1 (by omega)) hn⟩
        · exact ⟨rfl, fun n hn => by simp [okOp, fitsAll, signs, fitsI] <;> omega⟩
      · rcases ho with rfl | rfl | rfl
        · exact ⟨h0, fun n hn => ok_more (ok_put hkk hok1 (by omega)) hn⟩
        · exact ⟨rfl, fun n hn => by simp [okOp, fitsAll, signs, fitsI] <;> omega⟩
        · exact ⟨rfl, fun n hn => by simp [okOp, fitsAll, signs, fitsI] <;> omega⟩
    have hlen : 0 < bl.length := by cases added <;> cases hb <;> simp
    refine ⟨hlen, fun j hj => ?_, ?_⟩
    · obtain ⟨q1, q2⟩ := hoks (opAt bl j) (by rw [opAt_eq hj]; exact List.getElem_mem _)
      unfold shiftB
      rw [q1]
      exact q2 _ (by omega)
    · rcases hkk with h9 | rfl
      · refine reg_block hk hlen ?_ (by rw [← ho]; exact h9) ?_
        · cases added <;> cases hb <;> intro o ho <;> simp only [List.mem_cons, List.not_mem_nil, or_false] at ho
          · rcases ho with rfl | rfl
            · exact h9
            · exact isReg_mk (by decide)
          · rcases ho with rfl | rfl | rfl
            · exact h9
            · exact isReg_mk (by decide)
            · exact isReg_mk (by decide)
        · intro s r' hI hr i hi
          have hv := val_near h9 hok1 hu1 hr
          have hR : InR (valS kk b c d s.r) := range_reg (o := ⟨kk, 0, b, c, d⟩) ⟨hl1.k, inR_zero, hl1.b, hl1.c, hl1.d⟩ hI.1 0
          have hw := wrap_id hR
          rw [← ho, reg_val h9]
          have ei := hr i hi
          have i1 : i ≠ f := by omega
          have i2 : i ≠ f + 1 := by omega
          cases added <;> cases hb <;> simp only [regsS, List.foldl_cons, List.foldl_nil, reg_val h9, hv]
          · simp [regS, upd, i1, ei]
          · simp [regS, upd, e1, i1, i2, ei, hw]
      · obtain ⟨qa, qb, rfl⟩ := ok_mem (.inl rfl) hok1
        have u1 := hu1 a (by simp [usedL])
        have u2 := hu1 b (by simp [usedL])
        intro s s' hI _ hside hpc hov
        have hov' : s'.ov = false := hside.same.2.2.2.symm.trans hov
        have hpc' : s'.pc = k + 0 := by rw [hside.pc, hpc]; unfold mapP; rw [if_pos (Nat.le_refl _)]; rfl
        have hb0 : opAt bl 0 = ⟨13, f, b, c, 0⟩ := by cases added <;> cases hb <;> rfl
        have hl2 : 1 < bl.length := by cases added <;> cases hb <;> simp
        have st0 := block_step (bl := bl) (j := 0) hk hlen hpc' (by rw [hb0]; rfl)
        rw [hb0, exec_mem (.inl rfl)] at st0
        have own := own_step (l := l) hpc
        rw [← ho, exec_mem (.inl rfl)] at own
        have rb := hside.r b.toNat (by omega)
        by_cases hbad : badS b c { s with pc := k + 1 }
        · refine ⟨_, Steps.one hov', .inr ?_⟩
          rw [st0, own, mem_bad hbad, mem_bad ((bad_near (t := { s' with pc := k + 0 + 1 }) (s := { s with pc := k + 1 }) rb hside.same.2.1.symm).2 hbad)]
          exact fail_same hside.same.1 hside.same.2.1
        · rw [mem_good (fun h => hbad ((bad_near (t := { s' with pc := k + 0 + 1 }) (s := { s with pc := k + 1 }) rb hside.same.2.1.symm).1 h)), addr_near (t := { s' with pc := k + 0 + 1 }) (s := { s with pc := k + 1 }) rb] at st0
          rw [mem_good hbad] at own
          obtain ⟨i, hi⟩ : ∃ i, i = (addrS b c { s with pc := k + 1 }).toNat := ⟨_, rfl⟩
          rw [← hi] at st0 own
          have st1 : stepS (putL l k bl) s' = { s' with r := upd s'.r f (s'.ws.getD i 0), pc := k + 0 + 1 } := by
            rw [st0]
            exact endS_id (show k + 0 + 1 < _ by omega)
          have own1 : stepS l s = endS l.length { s with r := upd s.r a.toNat (s.ws.getD i 0), pc := k + 1 } := own
          have hx : InR (s.ws.getD i 0) := inR_get hI.2 i
          have hww : s'.ws.getD i 0 = s.ws.getD i 0 := by rw [hside.same.2.1]
          rw [hww] at st1
          have near : ∀ r2 : Nat → Int, (∀ j, j < f → r2 j = upd s.r a.toNat (s.ws.getD i 0) j) → ∀ p, Near f { s with r := upd s.r a.toNat (s.ws.getD i 0), pc := k + 1 } { s' with r := r2, pc := p } := fun r2 h2 p =>
            ⟨h2, hside.same.1.symm, hside.same.2.1.symm, hside.same.2.2.1.symm, hside.same.2.2.2.symm⟩
          cases added <;> cases hb
          · refine ⟨_, Steps.to hov' st1 (Steps.one hov'), .inl ?_⟩
            rw [own1, reg_end (j := 1) (o := ⟨2, a, f, 0, 0⟩) hk (by simp) rfl (isReg_mk (by decide)) rfl]
            refine side_end hk (near _ ?_ _) (mapP_next k 1).symm
            intro j hj
            have ej := hside.r j hj
            have j1 : j ≠ f := by omega
            show upd (upd s'.r f (s.ws.getD i 0)) a.toNat (upd s'.r f (s.ws.getD i 0) ((f : Int)).toNat) j = _
            simp [upd, j1, ej]
          · refine ⟨_, Steps.to hov' st1 (Steps.to hov' (reg_one (j := 1) (o := ⟨1, f + 1, 0, 0, 0⟩) hk (by simp) rfl (isReg_mk (by decide)) rfl) (Steps.one hov')), .inl ?_⟩
            rw [own1, reg_end (j := 2) (o := ⟨3, a, f + 1, f, 0⟩) hk (by simp) rfl (isReg_mk (by decide)) rfl]
            refine side_end hk (near _ ?_ _) (mapP_next k 2).symm
            intro j hj
            have ej := hside.r j hj
            have j1 : j ≠ f := by omega
            have j2 : j ≠ f + 1 := by omega
            have hw := wrap_id hx
            show upd (upd (upd s'.r f (s.ws.getD i 0)) ((f : Int) + 1).toNat 0) a.toNat (wrap64 (upd (upd s'.r f (s.ws.getD i 0)) ((f : Int) + 1).toNat 0 ((f : Int) + 1).toNat + upd (upd s'.r f (s.ws.getD i 0)) ((f : Int) + 1).toNat 0 ((f : Int)).toNat)) j = _
            rw [e1]
            revert hw
            generalize s.ws.getD i 0 = x
            intro hw
            simp [upd, j1, j2, ej, hw]
  · cases hb
theorem moves_plain {l : List Op5} {args ws : List Int} (hl : ∀ o ∈ l, OpR o) (ha : ∀ x ∈ args, InR x) (hw : ∀ x ∈ ws, InR x) (which : Int) (added : Bool) : WLaw l args ws (swapL args.length which 2 (movesL added) l) :=
  law_in_range hl ha hw (fun hok _ hu => moves_block added hok hl hu)
end Go.Proofs.YtmnfgigieafehaaDoor
