/- The plain law of a change of one instruction: an instruction that stays, its target moved on. No Go and no memory in it. -/
import Derived.Test.YtmnfgigieafehaaDoorSim
namespace Go.Proofs.YtmnfgigieafehaaDoor
open Go.RowKit
set_option maxRecDepth 100000

/-- Registers and answers agree; places are not looked at. -/
structure Near (f : Nat) (s s' : St) : Prop where
  r : ∀ i, i < f → s'.r i = s.r i
  told : s'.told = s.told
  ws : s'.ws = s.ws
  cd : s'.cd = s.cd
  ov : s'.ov = s.ov
theorem Near.pcs {f : Nat} {s s' : St} (h : Near f s s') (p p' : Nat) : Near f { s with pc := p } { s' with pc := p' } := ⟨h.r, h.told, h.ws, h.cd, h.ov⟩

/-- The same state, but for the registers and the place. -/
theorem Near.form {f : Nat} {s s' : St} (h : Near f s s') : ∃ r' p', s' = { s with r := r', pc := p' } ∧ ∀ i, i < f → r' i = s.r i := by
  obtain ⟨r', p', t', c', o', w'⟩ := s'
  obtain ⟨hr, ht, hw, hc, ho⟩ := h
  simp only at hr ht hw hc ho
  subst ht hw hc ho
  exact ⟨r', p', rfl, hr⟩
theorem upd_near {f : Nat} {r r' : Nat → Int} (h : ∀ i, i < f → r' i = r i) (j : Nat) {v v' : Int} (hv : v' = v) : ∀ i, i < f → upd r' j v' i = upd r j v i := fun i hi => by
  subst hv
  unfold upd
  split
  · rfl
  · exact h i hi
theorem Near.word {f : Nat} {s s' : St} (h : Near f s s') {k a b c d : Int} {i : Nat} (ha : a.toNat < f) (hd : k = 13 ∨ k = 14 ∨ d.toNat < f) :
    Near f (wordS ⟨k, a, b, c, d⟩ i s) (wordS ⟨k, a, b, c, d⟩ i s') := by
  obtain ⟨r', p', rfl, hr⟩ := h.form
  unfold wordS
  dsimp only
  by_cases h13 : k = 13
  · rw [if_pos h13, if_pos h13]; exact ⟨upd_near hr _ rfl, rfl, rfl, rfl, rfl⟩
  · rw [if_neg h13, if_neg h13]
    by_cases h14 : k = 14
    · rw [if_pos h14, if_pos h14]; exact ⟨hr, rfl, by dsimp only; rw [hr _ ha], rfl, rfl⟩
    · rw [if_neg h14, if_neg h14]
      have e := hr d.toNat (by omega)
      by_cases hx : s.ws.getD i 0 = s.r d.toNat
      · rw [if_pos hx, if_pos (by rw [e]; exact hx)]
        exact ⟨upd_near hr _ rfl, rfl, by dsimp only; rw [hr _ ha], rfl, rfl⟩
      · rw [if_neg hx, if_neg (by rw [e]; exact hx)]
        exact ⟨upd_near hr _ rfl, rfl, rfl, rfl, rfl⟩
def memS (o : Op5) (s : St) : St :=
  if wrap64 (s.r o.b.toNat + o.c) < 0 ∨ (s.ws.length : Int) ≤ wrap64 (s.r o.b.toNat + o.c) then failS s 2 else wordS o (wrap64 (s.r o.b.toNat + o.c)).toNat s
theorem Near.mem {f : Nat} {s s' : St} (h : Near f s s') {k a b c d : Int} (ha : a.toNat < f) (hb : b.toNat < f) (hd : k = 13 ∨ k = 14 ∨ d.toNat < f) : Near f (memS ⟨k, a, b, c, d⟩ s) (memS ⟨k, a, b, c, d⟩ s') := by
  have e := h.r b.toNat hb
  unfold memS
  dsimp only
  rw [e, h.ws]
  by_cases hx : wrap64 (s.r b.toNat + c) < 0 ∨ (s.ws.length : Int) ≤ wrap64 (s.r b.toNat + c)
  · rw [if_pos hx, if_pos hx]; exact ⟨h.r, h.told, h.ws, rfl, rfl⟩
  · rw [if_neg hx, if_neg hx]; exact h.word ha hd
/-- An instruction that goes nowhere does the same. -/
theorem Near.exec {f : Nat} {n : Int} {o : Op5} {s s' : St} (h : Near f s s') (hok : okOp n o = true) (hu : ∀ r ∈ usedL o, r < f) (ht : tgtOf o = none) : Near f (execS o s) (execS o s') := by
  obtain ⟨r', p', rfl, hr⟩ := h.form
  obtain ⟨k, a, b, c, d⟩ := o
  obtain ⟨h1, h2⟩ := ok_kind hok
  simp only at h1 h2
  have hk : k = 1 ∨ k = 2 ∨ (k = 3 ∨ k = 4 ∨ k = 5 ∨ k = 6 ∨ k = 7 ∨ k = 8 ∨ k = 9) ∨ k = 10 ∨ (k = 11 ∨ k = 12) ∨ (k = 13 ∨ k = 14) ∨ k = 15 ∨ k = 16 ∨ k = 17 := by omega
  rcases hk with rfl | rfl | hk | rfl | hk | hk | rfl | rfl | rfl
  · have q := ok_set hok
    exact ⟨upd_near hr _ rfl, rfl, rfl, rfl, rfl⟩
  · have q := ok_copy hok
    have u1 := hu a (by simp [usedL])
    have u2 := hu b (by simp [usedL])
    have e2 := hr b.toNat (by omega)
    exact ⟨upd_near hr _ e2, rfl, rfl, rfl, rfl⟩
  · have q := ok_three hk hok
    have u2 := hu b (by rcases hk with rfl | rfl | rfl | rfl | rfl | rfl | rfl <;> simp [usedL])
    have u3 := hu c (by rcases hk with rfl | rfl | rfl | rfl | rfl | rfl | rfl <;> simp [usedL])
    have e2 := hr b.toNat (by omega)
    have e3 := hr c.toNat (by omega)
    rcases hk with rfl | rfl | rfl | rfl | rfl | rfl | rfl <;> exact ⟨upd_near hr _ (by simp only [e2, e3]), rfl, rfl, rfl, rfl⟩
  · cases ht
  · rcases hk with rfl | rfl <;> cases ht
  · have q := ok_mem hk hok
    have u1 := hu a (by rcases hk with rfl | rfl <;> simp [usedL])
    have u2 := hu b (by rcases hk with rfl | rfl <;> simp [usedL])
    rcases hk with rfl | rfl
    · exact h.mem (k := 13) (by omega) (by omega) (.inl rfl)
    · exact h.mem (k := 14) (by omega) (by omega) (.inr (.inl rfl))
  · have q := ok_cas hok
    have u1 := hu a (by simp [usedL])
    have u2 := hu b (by simp [usedL])
    have u3 := hu d (by simp [usedL])
    exact h.mem (k := 15) (by omega) (by omega) (.inr (.inr (by omega)))
  · have q := ok_emit hok
    have u1 := hu a (by simp [usedL])
    have e1 := hr a.toNat (by omega)
    show Near f (if s.told.length = 200 then failS s 8 else { s with told := s.told ++ [s.r a.toNat] }) (if s.told.length = 200 then failS { s with r := r', pc := p' } 8 else { s with r := r', pc := p', told := s.told ++ [r' a.toNat] })
    by_cases hx : s.told.length = 200
    · rw [if_pos hx, if_pos hx]; exact ⟨hr, rfl, rfl, rfl, rfl⟩
    · rw [if_neg hx, if_neg hx, e1]; exact ⟨hr, rfl, rfl, rfl, rfl⟩
  · exact ⟨hr, rfl, rfl, rfl, rfl⟩
theorem wordS_pc (o : Op5) (i : Nat) (s : St) : (wordS o i s).pc = s.pc := (wordS_facts o i s).1
/-- An instruction that goes nowhere leaves the place. -/
theorem exec_pc {n : Int} {o : Op5} {s : St} (hok : okOp n o = true) (ht : tgtOf o = none) : (execS o s).pc = s.pc := by
  obtain ⟨k, a, b, c, d⟩ := o
  obtain ⟨h1, h2⟩ := ok_kind hok
  simp only at h1 h2
  have hk : k = 1 ∨ k = 2 ∨ (k = 3 ∨ k = 4 ∨ k = 5 ∨ k = 6 ∨ k = 7 ∨ k = 8 ∨ k = 9) ∨ k = 10 ∨ (k = 11 ∨ k = 12) ∨ (k = 13 ∨ k = 14) ∨ k = 15 ∨ k = 16 ∨ k = 17 := by omega
  have hm : ∀ k, (memS ⟨k, a, b, c, d⟩ s).pc = s.pc := fun k => by
    unfold memS
    split
    · rfl
    · exact wordS_pc _ _ _
  rcases hk with rfl | rfl | hk | rfl | hk | hk | rfl | rfl | rfl
  · rfl
  · rfl
  · rcases hk with rfl | rfl | rfl | rfl | rfl | rfl | rfl <;> rfl
  · cases ht
  · rcases hk with rfl | rfl <;> cases ht
  · rcases hk with rfl | rfl
    · exact hm 13
    · exact hm 14
  · exact hm 15
  · show (if s.told.length = 200 then failS s 8 else { s with told := s.told ++ [s.r a.toNat] }).pc = s.pc
    split <;> rfl
  · rfl
/-- An instruction that goes somewhere, and the same with another target. -/
theorem exec_tgt {f : Nat} {n : Int} {o : Op5} {s s' : St} {T T' : Int} (h : Near f s s') (hok : okOp n o = true) (hu : ∀ r ∈ usedL o, r < f) (ht : tgtOf o = some T) :
    Near f (execS o s) (execS (setT o T') s') ∧ (((execS o s).pc = s.pc ∧ (execS (setT o T') s').pc = s'.pc) ∨ ((execS o s).pc = T.toNat ∧ (execS (setT o T') s').pc = T'.toNat)) := by
  obtain ⟨k, a, b, c, d⟩ := o
  by_cases h10 : k = 10
  · subst h10
    cases ht
    exact ⟨⟨h.r, h.told, h.ws, h.cd, h.ov⟩, .inr ⟨rfl, rfl⟩⟩
  · by_cases hw : k = 11 ∨ k = 12
    · have q := ok_way hw hok
      have u1 := hu a (by rcases hw with rfl | rfl <;> simp [usedL])
      have e1 := h.r a.toNat (by omega)
      rcases hw with rfl | rfl
      · cases ht
        show Near f (if s.r a.toNat = 0 then s else { s with pc := b.toNat }) (if s'.r a.toNat = 0 then s' else { s' with pc := T'.toNat }) ∧
          (((if s.r a.toNat = 0 then s else { s with pc := b.toNat }).pc = s.pc ∧ (if s'.r a.toNat = 0 then s' else { s' with pc := T'.toNat }).pc = s'.pc) ∨ ((if s.r a.toNat = 0 then s else { s with pc := b.toNat }).pc = b.toNat ∧ (if s'.r a.toNat = 0 then s' else { s' with pc := T'.toNat }).pc = T'.toNat))
        by_cases hz : s.r a.toNat = 0
        · rw [if_pos hz, if_pos (e1.trans hz)]; exact ⟨h, .inl ⟨rfl, rfl⟩⟩
        · rw [if_neg hz, if_neg (by rw [e1]; exact hz)]; exact ⟨⟨h.r, h.told, h.ws, h.cd, h.ov⟩, .inr ⟨rfl, rfl⟩⟩
      · cases ht
        show Near f (if s.r a.toNat = 0 then { s with pc := b.toNat } else s) (if s'.r a.toNat = 0 then { s' with pc := T'.toNat } else s') ∧
          (((if s.r a.toNat = 0 then { s with pc := b.toNat } else s).pc = s.pc ∧ (if s'.r a.toNat = 0 then { s' with pc := T'.toNat } else s').pc = s'.pc) ∨ ((if s.r a.toNat = 0 then { s with pc := b.toNat } else s).pc = b.toNat ∧ (if s'.r a.toNat = 0 then { s' with pc := T'.toNat } else s').pc = T'.toNat))
        by_cases hz : s.r a.toNat = 0
        · rw [if_pos hz, if_pos (e1.trans hz)]; exact ⟨⟨h.r, h.told, h.ws, h.cd, h.ov⟩, .inr ⟨rfl, rfl⟩⟩
        · rw [if_neg hz, if_neg (by rw [e1]; exact hz)]; exact ⟨h, .inl ⟨rfl, rfl⟩⟩
    · unfold tgtOf at ht
      rw [if_neg h10, if_neg hw] at ht
      cases ht
end Go.Proofs.YtmnfgigieafehaaDoor
