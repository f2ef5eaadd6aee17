/- The plain law of Parts; targets that are moved on. No Go and no memory in it. -/
import Derived.Test.YtmnfgigieafehaaDoorSimI
import Derived.Test.YtmnfgigieafehaaDoorByD
namespace Go.Proofs.YtmnfgigieafehaaDoor
open Go.RowKit
set_option maxRecDepth 100000

/-- An instruction's own target, moved on. -/
def movedI (k more : Nat) (b : Int) : Int := if (k : Int) < b then b + more else b
theorem moved_toNat {k more : Nat} {b : Int} (h : 0 ≤ b) : (movedI k more b).toNat = mapP k more b.toNat := by
  unfold movedI mapP
  split <;> split <;> omega
theorem moved_in {k more n : Nat} {b : Int} (h : 0 ≤ b ∧ b ≤ n) : 0 ≤ movedI k more b ∧ movedI k more b ≤ ((n + more : Nat) : Int) := by
  unfold movedI
  split <;> omega
theorem shiftB_way {k more : Nat} {kk x b : Int} (h : kk = 11 ∨ kk = 12) : shiftB k more b ⟨kk, x, b, 0, 0⟩ = ⟨kk, x, movedI k more b, 0, 0⟩ := by
  have h10 : kk ≠ 10 := by omega
  unfold shiftB tgtOf setT movedI
  dsimp only
  rw [if_neg h10, if_pos h]
  dsimp only
  rw [if_neg h10, if_pos h]
  split
  · rename_i h2; rw [if_pos h2.2]
  · rename_i h2; rw [if_neg (fun h3 => h2 ⟨rfl, h3⟩)]
theorem shiftB_jump {k more : Nat} {b : Int} : shiftB k more b ⟨10, b, 0, 0, 0⟩ = ⟨10, movedI k more b, 0, 0, 0⟩ := by
  unfold shiftB tgtOf setT movedI
  dsimp only
  rw [if_pos rfl]
  dsimp only
  rw [if_pos rfl]
  split
  · rename_i h2; rw [if_pos h2.2]
  · rename_i h2; rw [if_neg (fun h3 => h2 ⟨rfl, h3⟩)]
theorem shiftB_other {k more : Nat} {own : Int} {o : Op5} (h : ∀ t, tgtOf o = some t → t ≠ own) : shiftB k more own o = o := by
  unfold shiftB
  cases ht : tgtOf o with
  | none => rfl
  | some t => dsimp only; rw [if_neg (fun h2 => h t ht h2.1)]
theorem own_way {kk a b c d : Int} (h : kk = 11 ∨ kk = 12) : ownI ⟨kk, a, b, c, d⟩ = b := by
  unfold ownI tgtOf
  dsimp only
  rw [if_neg (by omega), if_pos h]
  rfl

/-- A load, a store or a Cas over other registers that hold the same. -/
theorem mem_near {f : Nat} {s t : St} {k a b c d a' b' d' : Int} (h : Near f s t) (hk : k = 13 ∨ k = 14 ∨ k = 15) (hb : t.r b'.toNat = s.r b.toNat) (ha : t.r a'.toNat = s.r a.toNat) (hd : k = 15 → t.r d'.toNat = s.r d.toNat) (hw : k = 14 ∨ a' = a) :
    Near f (memS ⟨k, a, b, c, d⟩ s) (memS ⟨k, a', b', c, d'⟩ t) := by
  have hbad : badS b' c t ↔ badS b c s := by unfold badS addrS; rw [hb, h.ws]
  have haddr : addrS b' c t = addrS b c s := by unfold addrS; rw [hb]
  by_cases hx : badS b c s
  · rw [mem_bad hx, mem_bad (hbad.2 hx)]; exact ⟨h.r, h.told, h.ws, rfl, rfl⟩
  · rw [mem_good hx, mem_good (fun h2 => hx (hbad.1 h2)), haddr]
    generalize (addrS b c s).toNat = i
    obtain ⟨r', p', rfl, hr⟩ := h.form
    dsimp only at hb ha hd
    rcases hk with rfl | rfl | rfl
    · obtain rfl : a' = a := by omega
      exact ⟨upd_near hr _ rfl, rfl, rfl, rfl, rfl⟩
    · refine ⟨hr, rfl, ?_, rfl, rfl⟩
      show s.ws.set i (r' a'.toNat) = s.ws.set i (s.r a.toNat)
      rw [ha]
    · obtain rfl : a' = a := by omega
      have e := hd rfl
      have w0 : ∀ (b d : Int) (s : St), wordS ⟨15, a', b, c, d⟩ i s = if s.ws.getD i 0 = s.r d.toNat then { s with ws := s.ws.set i (s.r a'.toNat), r := upd s.r a'.toNat 1 } else { s with r := upd s.r a'.toNat 0 } := fun _ _ _ => rfl
      rw [w0, w0]
      by_cases hx : s.ws.getD i 0 = s.r d.toNat
      · rw [if_pos hx, if_pos (show s.ws.getD i 0 = r' d'.toNat by rw [e]; exact hx)]; exact ⟨upd_near hr _ rfl, rfl, by dsimp only; rw [ha], rfl, rfl⟩
      · rw [if_neg hx, if_neg (show ¬ s.ws.getD i 0 = r' d'.toNat by rw [e]; exact hx)]; exact ⟨upd_near hr _ rfl, rfl, rfl, rfl, rfl⟩

section
variable {l : List Op5} {k f : Nat} {g : Int} {o o' : Op5}
theorem hold_near {s s' : St} (n : Near f s s') (hg : 0 ≤ g ∧ g < (f : Int)) (p p' : Nat) :
    Near f { s with pc := p } { s' with r := regsS [(⟨2, f, g, 0, 0⟩ : Op5)] s'.r, pc := p' } ∧ regsS [(⟨2, f, g, 0, 0⟩ : Op5)] s'.r f = s.r g.toNat := by
  have e : regsS [(⟨2, f, g, 0, 0⟩ : Op5)] s'.r = upd s'.r f (s'.r g.toNat) := rfl
  rw [e]
  refine ⟨⟨fun i hi => ?_, n.told, n.ws, n.cd, n.ov⟩, ?_⟩
  · show upd s'.r f _ i = s.r i
    rw [upd_ne (by omega)]; exact n.r i hi
  · rw [upd_same]; exact n.r _ (by omega)
theorem hold_ok {n : Int} (hg : 0 ≤ g ∧ g < (f : Int)) (hf : f + 1 ≤ 24) : okOp n ⟨2, f, g, 0, 0⟩ = true := by
  simp [okOp, fitsAll, signs, fitsI] <;> omega
theorem parts_of {I : St → Prop} (hk : k < l.length) (ho : o = opAt l k) (hok1 : okOp l.length o = true) (hg : 0 ≤ g ∧ g < (f : Int)) (hf : f + 1 ≤ 24) (hok' : okOp l.length o' = true) (ht : tgtOf o = none) (ht' : tgtOf o' = none)
    (near : ∀ s t : St, Near f s t → t.r f = s.r g.toNat → Near f (execS o s) (execS o' t)) :
    0 < [(⟨2, f, g, 0, 0⟩ : Op5), o'].length ∧ (∀ j, j < [(⟨2, f, g, 0, 0⟩ : Op5), o'].length → okOp ((l.length + ([(⟨2, f, g, 0, 0⟩ : Op5), o'].length - 1) : Nat) : Int) (shiftB k ([(⟨2, f, g, 0, 0⟩ : Op5), o'].length - 1) (ownI (opAt l k)) (opAt [(⟨2, f, g, 0, 0⟩ : Op5), o'] j)) = true) ∧
      BlockOk l [(⟨2, f, g, 0, 0⟩ : Op5), o'] k f I := by
  have e0 : ∀ more own, shiftB k more own o' = o' := fun more own => by unfold shiftB; rw [ht']
  refine ⟨by simp, fun j hj => ?_, ?_⟩
  · have hj2 : j = 0 ∨ j = 1 := by simp at hj; omega
    rcases hj2 with rfl | rfl
    · exact hold_ok hg hf
    · show okOp _ (shiftB k 1 (ownI (opAt l k)) o') = true
      rw [e0]
      exact ok_more hok' (by simp only [List.length_cons, List.length_nil]; omega)
  · refine pre_block hk 1 rfl (fun o ho => ?_) (fun s s' _ _ n => ?_)
    · obtain rfl : o = ⟨2, f, g, 0, 0⟩ := by simpa using ho
      exact isReg_mk (by decide)
    · show Near f (execS (opAt l k) _) (execS (shiftB k 1 (ownI (opAt l k)) o') _) ∧ (execS (shiftB k 1 (ownI (opAt l k)) o') _).pc = _
      rw [e0, ← ho, exec_pc hok1 ht, exec_pc hok' ht']
      obtain ⟨n1, n2⟩ := hold_near n hg (k + 1) (k + 1 + 1)
      exact ⟨near _ _ n1 n2, (mapP_next k 1).symm⟩
theorem parts_way {I : St → Prop} {kk a b : Int} (hkk : kk = 11 ∨ kk = 12) (hk : k < l.length) (ho : ⟨kk, a, b, 0, 0⟩ = opAt l k) (hb : 0 ≤ b ∧ b ≤ (l.length : Int)) (hg : 0 ≤ a ∧ a < (f : Int)) (hf : f + 1 ≤ 24) :
    0 < [(⟨2, f, a, 0, 0⟩ : Op5), ⟨kk, f, b, 0, 0⟩].length ∧ (∀ j, j < [(⟨2, f, a, 0, 0⟩ : Op5), ⟨kk, f, b, 0, 0⟩].length → okOp ((l.length + ([(⟨2, f, a, 0, 0⟩ : Op5), ⟨kk, f, b, 0, 0⟩].length - 1) : Nat) : Int) (shiftB k ([(⟨2, f, a, 0, 0⟩ : Op5), ⟨kk, f, b, 0, 0⟩].length - 1) (ownI (opAt l k)) (opAt [(⟨2, f, a, 0, 0⟩ : Op5), ⟨kk, f, b, 0, 0⟩] j)) = true) ∧
      BlockOk l [(⟨2, f, a, 0, 0⟩ : Op5), ⟨kk, f, b, 0, 0⟩] k f I := by
  have hs : shiftB k 1 (ownI (opAt l k)) ⟨kk, f, b, 0, 0⟩ = ⟨kk, f, movedI k 1 b, 0, 0⟩ := by rw [← ho, own_way hkk]; exact shiftB_way hkk
  refine ⟨by simp, fun j hj => ?_, ?_⟩
  · have hj2 : j = 0 ∨ j = 1 := by simp at hj; omega
    rcases hj2 with rfl | rfl
    · exact hold_ok hg hf
    · show okOp _ (shiftB k 1 (ownI (opAt l k)) ⟨kk, f, b, 0, 0⟩) = true
      rw [hs]
      exact ok_way_of hkk (by omega) (moved_in hb)
  · refine pre_block hk 1 rfl (fun o ho => ?_) (fun s s' _ _ n => ?_)
    · obtain rfl : o = ⟨2, f, a, 0, 0⟩ := by simpa using ho
      exact isReg_mk (by decide)
    · show Near f (execS (opAt l k) _) (execS (shiftB k 1 (ownI (opAt l k)) ⟨kk, f, b, 0, 0⟩) _) ∧ (execS (shiftB k 1 (ownI (opAt l k)) ⟨kk, f, b, 0, 0⟩) _).pc = _
      rw [hs, ← ho]
      obtain ⟨n1, n2⟩ := hold_near n hg (k + 1) (k + 1 + 1)
      obtain ⟨t, ht⟩ : ∃ t, t = ({ s' with r := regsS [(⟨2, f, a, 0, 0⟩ : Op5)] s'.r, pc := k + 1 + 1 } : St) := ⟨_, rfl⟩
      have hp : t.pc = k + 1 + 1 := by rw [ht]
      have n2 : t.r f = s.r a.toNat := by rw [ht]; exact n2
      rw [← ht] at n1
      show Near f (execS ⟨kk, a, b, 0, 0⟩ _) (execS ⟨kk, f, movedI k 1 b, 0, 0⟩ { s' with r := regsS [(⟨2, f, a, 0, 0⟩ : Op5)] s'.r, pc := k + 1 + 1 }) ∧ (execS ⟨kk, f, movedI k 1 b, 0, 0⟩ { s' with r := regsS [(⟨2, f, a, 0, 0⟩ : Op5)] s'.r, pc := k + 1 + 1 }).pc = _
      rw [← ht]
      have hn := mapP_next k 1
      have hm := moved_toNat (k := k) (more := 1) hb.1
      by_cases hz : s.r a.toNat = 0
      · have hz2 : t.r ((f : Int)).toNat = 0 := by rw [Int.toNat_natCast, n2, hz]
        rcases hkk with rfl | rfl
        · have q1 : execS ⟨11, a, b, 0, 0⟩ { s with pc := k + 1 } = { s with pc := k + 1 } := if_pos hz
          have q2 : execS ⟨11, f, movedI k 1 b, 0, 0⟩ t = t := if_pos hz2
          rw [q1, q2]
          exact ⟨n1, by rw [hp]; exact hn.symm⟩
        · have q1 : execS ⟨12, a, b, 0, 0⟩ { s with pc := k + 1 } = { s with pc := b.toNat } := if_pos hz
          have q2 : execS ⟨12, f, movedI k 1 b, 0, 0⟩ t = { t with pc := (movedI k 1 b).toNat } := if_pos hz2
          rw [q1, q2]
          exact ⟨n1.pcs _ _, hm⟩
      · have hz2 : ¬ t.r ((f : Int)).toNat = 0 := by rw [Int.toNat_natCast, n2]; exact hz
        rcases hkk with rfl | rfl
        · have q1 : execS ⟨11, a, b, 0, 0⟩ { s with pc := k + 1 } = { s with pc := b.toNat } := if_neg hz
          have q2 : execS ⟨11, f, movedI k 1 b, 0, 0⟩ t = { t with pc := (movedI k 1 b).toNat } := if_neg hz2
          rw [q1, q2]
          exact ⟨n1.pcs _ _, hm⟩
        · have q1 : execS ⟨12, a, b, 0, 0⟩ { s with pc := k + 1 } = { s with pc := k + 1 } := if_neg hz
          have q2 : execS ⟨12, f, movedI k 1 b, 0, 0⟩ t = t := if_neg hz2
          rw [q1, q2]
          exact ⟨n1, by rw [hp]; exact hn.symm⟩
end

theorem parts_block {l : List Op5} {f : Nat} (second : Bool) (hok : okCode l = true) (hu : ∀ o ∈ l, ∀ r ∈ usedL o, r < (f : Int)) : ByLaw l f 1 (partsL second) RangeI := by
  intro k hk hf bl hb
  have hok1 := okCode_at hok hk
  have hu1 := hu (opAt l k) (by rw [opAt_eq hk]; exact List.getElem_mem _)
  obtain ⟨o, ho⟩ : ∃ o, o = opAt l k := ⟨_, rfl⟩
  rw [← ho] at hok1 hu1 hb
  obtain ⟨kk, a, b, c, d⟩ := o
  obtain ⟨h1, h2⟩ := ok_kind hok1
  simp only at h1 h2
  have hkk : kk = 1 ∨ kk = 2 ∨ (kk = 3 ∨ kk = 4 ∨ kk = 5 ∨ kk = 6 ∨ kk = 7 ∨ kk = 8 ∨ kk = 9) ∨ kk = 10 ∨ (kk = 11 ∨ kk = 12) ∨ kk = 13 ∨ kk = 14 ∨ kk = 15 ∨ kk = 16 ∨ kk = 17 := by omega
  have ff : ((f : Int)).toNat = f := Int.toNat_natCast f
  rcases hkk with rfl | rfl | h3 | rfl | hw | rfl | rfl | rfl | rfl | rfl
  · simp [partsL, partsOff] at hb
  · obtain ⟨qa, qb, rfl, rfl⟩ := ok_copy hok1
    have u1 := hu1 b (by simp [usedL])
    simp [partsL, partsOff, getF, setF] at hb
    subst hb
    refine parts_of hk ho hok1 ⟨qb.1, u1⟩ hf (by simp [okOp, fitsAll, signs, fitsI] <;> omega) rfl rfl (fun s t n h => ⟨upd_near n.r _ ?_, n.told, n.ws, n.cd, n.ov⟩)
    show t.r ((f : Int)).toNat = s.r b.toNat
    rw [ff]; exact h
  · obtain ⟨qa, qb, qc, rfl⟩ := ok_three h3 hok1
    have u2 := hu1 b (by rcases h3 with rfl | rfl | rfl | rfl | rfl | rfl | rfl <;> simp [usedL])
    have u3 := hu1 c (by rcases h3 with rfl | rfl | rfl | rfl | rfl | rfl | rfl <;> simp [usedL])
    have h0 : ¬ (kk = 2 ∨ kk = 13) := by omega
    have t0 : ∀ a b c d, tgtOf ⟨kk, a, b, c, d⟩ = none := fun a b c d => by unfold tgtOf; dsimp only; rw [if_neg (by omega), if_neg (by omega)]
    have okx : ∀ b c : Int, 0 ≤ b ∧ b < 24 → 0 ≤ c ∧ c < 24 → okOp l.length ⟨kk, a, b, c, 0⟩ = true := fun b c xb xc => by
      rcases h3 with rfl | rfl | rfl | rfl | rfl | rfl | rfl <;> simp [okOp, fitsAll, signs, fitsI] <;> omega
    cases second
    · have e : bl = [⟨2, f, b, 0, 0⟩, ⟨kk, a, f, c, 0⟩] := by
        simp [partsL, partsOff, h0, h3, getF, setF] at hb; exact hb.symm
      subst e
      refine parts_of hk ho hok1 ⟨qb.1, u2⟩ hf (okx _ _ (by omega) qc) (t0 _ _ _ _) (t0 _ _ _ _) (fun s t n h => ?_)
      have e3 := n.r c.toNat (by omega)
      rw [← ff] at h
      rcases h3 with rfl | rfl | rfl | rfl | rfl | rfl | rfl <;> exact ⟨upd_near n.r _ (by simp only [h, e3]), n.told, n.ws, n.cd, n.ov⟩
    · have e : bl = [⟨2, f, c, 0, 0⟩, ⟨kk, a, b, f, 0⟩] := by
        simp [partsL, partsOff, h0, h3, getF, setF] at hb; exact hb.symm
      subst e
      refine parts_of hk ho hok1 ⟨qc.1, u3⟩ hf (okx _ _ qb (by omega)) (t0 _ _ _ _) (t0 _ _ _ _) (fun s t n h => ?_)
      have e2 := n.r b.toNat (by omega)
      rw [← ff] at h
      rcases h3 with rfl | rfl | rfl | rfl | rfl | rfl | rfl <;> exact ⟨upd_near n.r _ (by simp only [h, e2]), n.told, n.ws, n.cd, n.ov⟩
  · simp [partsL, partsOff] at hb
  · obtain ⟨qa, qb, rfl, rfl⟩ := ok_way hw hok1
    have u1 := hu1 a (by rcases hw with rfl | rfl <;> simp [usedL])
    have e : bl = [⟨2, f, a, 0, 0⟩, ⟨kk, f, b, 0, 0⟩] := by
      rcases hw with rfl | rfl <;> simp [partsL, partsOff, getF, setF] at hb <;> exact hb.symm
    subst e
    exact parts_way hw hk ho qb ⟨qa.1, u1⟩ hf
  · obtain ⟨qa, qb, rfl⟩ := ok_mem (.inl rfl) hok1
    have u1 := hu1 a (by simp [usedL])
    have u2 := hu1 b (by simp [usedL])
    simp [partsL, partsOff, getF, setF] at hb
    subst hb
    refine parts_of hk ho hok1 ⟨qb.1, u2⟩ hf (by simp [okOp, fitsAll, signs, fitsI] <;> omega) rfl rfl (fun s t n h => ?_)
    rw [exec_mem (.inl rfl), exec_mem (.inl rfl)]
    exact mem_near n (.inl rfl) (by rw [ff]; exact h) (n.r _ (by omega)) (fun h => absurd h (by decide)) (.inr rfl)
  · obtain ⟨qa, qb, rfl⟩ := ok_mem (.inr rfl) hok1
    have u1 := hu1 a (by simp [usedL])
    have u2 := hu1 b (by simp [usedL])
    cases second <;> simp [partsL, partsOff, getF, setF] at hb <;> subst hb
    · refine parts_of hk ho hok1 ⟨qb.1, u2⟩ hf (by simp [okOp, fitsAll, signs, fitsI] <;> omega) rfl rfl (fun s t n h => ?_)
      rw [exec_mem (.inr (.inl rfl)), exec_mem (.inr (.inl rfl))]
      exact mem_near n (.inr (.inl rfl)) (by rw [ff]; exact h) (n.r _ (by omega)) (fun h => absurd h (by decide)) (.inl rfl)
    · refine parts_of hk ho hok1 ⟨qa.1, u1⟩ hf (by simp [okOp, fitsAll, signs, fitsI] <;> omega) rfl rfl (fun s t n h => ?_)
      rw [exec_mem (.inr (.inl rfl)), exec_mem (.inr (.inl rfl))]
      exact mem_near n (.inr (.inl rfl)) (n.r _ (by omega)) (by rw [ff]; exact h) (fun h => absurd h (by decide)) (.inl rfl)
  · obtain ⟨qa, qb, qd⟩ := ok_cas hok1
    have u1 := hu1 a (by simp [usedL])
    have u2 := hu1 b (by simp [usedL])
    have u3 := hu1 d (by simp [usedL])
    cases second <;> simp [partsL, partsOff, getF, setF] at hb <;> subst hb
    · refine parts_of hk ho hok1 ⟨qb.1, u2⟩ hf (by simp [okOp, fitsAll, signs, fitsI] <;> omega) rfl rfl (fun s t n h => ?_)
      rw [exec_mem (.inr (.inr rfl)), exec_mem (.inr (.inr rfl))]
      exact mem_near n (.inr (.inr rfl)) (by rw [ff]; exact h) (n.r _ (by omega)) (fun _ => n.r _ (by omega)) (.inr rfl)
    · refine parts_of hk ho hok1 ⟨qd.1, u3⟩ hf (by simp [okOp, fitsAll, signs, fitsI] <;> omega) rfl rfl (fun s t n h => ?_)
      rw [exec_mem (.inr (.inr rfl)), exec_mem (.inr (.inr rfl))]
      exact mem_near n (.inr (.inr rfl)) (n.r _ (by omega)) (n.r _ (by omega)) (fun _ => by rw [ff]; exact h) (.inr rfl)
  · obtain ⟨qa, rfl, rfl, rfl⟩ := ok_emit hok1
    have u1 := hu1 a (by simp [usedL])
    simp [partsL, partsOff, getF, setF] at hb
    subst hb
    refine parts_of hk ho hok1 ⟨qa.1, u1⟩ hf (by simp [okOp, fitsAll, signs, fitsI] <;> omega) rfl rfl (fun s t n h => ?_)
    obtain ⟨r', p', rfl, hr⟩ := n.form
    show Near f (if s.told.length = 200 then failS s 8 else { s with told := s.told ++ [s.r a.toNat] }) (if s.told.length = 200 then failS { s with r := r', pc := p' } 8 else { s with r := r', pc := p', told := s.told ++ [r' ((f : Int)).toNat] })
    rw [ff, show r' f = s.r a.toNat from h]
    by_cases hx : s.told.length = 200
    · rw [if_pos hx, if_pos hx]; exact ⟨hr, rfl, rfl, rfl, rfl⟩
    · rw [if_neg hx, if_neg hx]; exact ⟨hr, rfl, rfl, rfl, rfl⟩
  · simp [partsL, partsOff] at hb
theorem parts_plain {l : List Op5} {args ws : List Int} (hl : ∀ o ∈ l, OpR o) (ha : ∀ x ∈ args, InR x) (hw : ∀ x ∈ ws, InR x) (which : Int) (second : Bool) : WLaw l args ws (swapL args.length which 1 (partsL second) l) :=
  law_in_range hl ha hw (fun hok _ hu => parts_block second hok hu)
end Go.Proofs.YtmnfgigieafehaaDoor
