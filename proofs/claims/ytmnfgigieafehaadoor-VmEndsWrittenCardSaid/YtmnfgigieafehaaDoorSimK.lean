/- The plain laws of Twice and Cas. No Go and no memory in it. -/
import Derived.Test.YtmnfgigieafehaaDoorSimJ
namespace Go.Proofs.YtmnfgigieafehaaDoor
open Go.RowKit
set_option maxRecDepth 100000

section
variable {l bl : List Op5} {k j : Nat} {t : St} {x b c : Int}
/-- A load in a block, not its last. -/
theorem load_one (hk : k < l.length) (hj : j + 1 < bl.length) (hop : opAt bl j = ⟨13, x, b, c, 0⟩) (hpc : t.pc = k + j) (hg : ¬ badS b c t) :
    stepS (putL l k bl) t = { t with r := upd t.r x.toNat (t.ws.getD (addrS b c t).toNat 0), pc := k + j + 1 } := by
  rw [block_step (j := j) hk (by omega) hpc (by rw [hop]; rfl), hop, exec_mem (.inl rfl), mem_good (s := { t with pc := k + j + 1 }) hg]
  exact endS_id (show k + j + 1 < _ by omega)
theorem store_one (hk : k < l.length) (hj : j + 1 < bl.length) (hop : opAt bl j = ⟨14, x, b, c, 0⟩) (hpc : t.pc = k + j) (hg : ¬ badS b c t) :
    stepS (putL l k bl) t = { t with ws := t.ws.set (addrS b c t).toNat (t.r x.toNat), pc := k + j + 1 } := by
  rw [block_step (j := j) hk (by omega) hpc (by rw [hop]; rfl), hop, exec_mem (.inr (.inl rfl)), mem_good (s := { t with pc := k + j + 1 }) hg]
  exact endS_id (show k + j + 1 < _ by omega)
theorem mem_fail {kk d : Int} (hkk : kk = 13 ∨ kk = 14 ∨ kk = 15) (hk : k < l.length) (hj : j < bl.length) (hop : opAt bl j = ⟨kk, x, b, c, d⟩) (hpc : t.pc = k + j) (hg : badS b c t) :
    stepS (putL l k bl) t = endS (l.length + (bl.length - 1)) (failS { t with pc := k + j + 1 } 2) := by
  have ht : tgtOf (opAt bl j) = none := by rw [hop]; rcases hkk with rfl | rfl | rfl <;> rfl
  rw [block_step (j := j) hk hj hpc ht, hop, exec_mem hkk, mem_bad (s := { t with pc := k + j + 1 }) hg]
theorem own_fail {s : St} {kk a d : Int} (hkk : kk = 13 ∨ kk = 14 ∨ kk = 15) (ho : ⟨kk, a, b, c, d⟩ = opAt l k) (hpc : s.pc = k) (hg : badS b c s) : stepS l s = endS l.length (failS { s with pc := k + 1 } 2) := by
  rw [own_step (l := l) hpc, ← ho, exec_mem hkk, mem_bad (s := { s with pc := k + 1 }) hg]
theorem good_lt {s : St} (h : ¬ badS b c s) : (addrS b c s).toNat < s.ws.length := by unfold badS at h; omega
end
theorem set_own (ws : List Int) (i : Nat) : ws.set i (ws.getD i 0) = ws := by
  by_cases hi : i < ws.length
  · rw [List.getD, List.getElem?_eq_getElem hi]
    exact List.set_getElem_self hi
  · exact List.set_eq_of_length_le (by omega)

theorem twice_block {l : List Op5} {f : Nat} (back : Bool) (hok : okCode l = true) (hu : ∀ o ∈ l, ∀ r ∈ usedL o, r < (f : Int)) : ByLaw l f 1 (twiceL back) RangeI := by
  intro k hk hf bl hb
  have hok1 := okCode_at hok hk
  have hu1 := hu (opAt l k) (by rw [opAt_eq hk]; exact List.getElem_mem _)
  obtain ⟨o, ho⟩ : ∃ o, o = opAt l k := ⟨_, rfl⟩
  have hok2 := hok1
  have hu2 := hu1
  rw [← ho] at hok1 hu1 hb
  obtain ⟨kk, a, b, c, d⟩ := o
  unfold twiceL at hb
  dsimp only at hb
  split at hb
  · rename_i h14
    subst h14
    cases hb
    obtain ⟨qa, qb, rfl⟩ := ok_mem (.inr rfl) hok1
    have u1 := hu1 a (by simp [usedL])
    have u2 := hu1 b (by simp [usedL])
    refine ⟨by simp, fun j hj => ?_, ?_⟩
    · have hj2 : j = 0 ∨ j = 1 := by simp at hj; omega
      rcases hj2 with rfl | rfl <;> exact ok_more hok1 (by simp only [List.length_cons, List.length_nil]; omega)
    · intro s s' _ _ hside hpc hov
      have hov' : s'.ov = false := hside.same.2.2.2.symm.trans hov
      have hpc' : s'.pc = k + 0 := by rw [hside.pc, hpc, mapP_own]; rfl
      have n := hside.near
      have ra := n.r a.toNat (by omega)
      have hbn : badS b c s' ↔ badS b c s := bad_near (n.r b.toNat (by omega)) n.ws
      have han : addrS b c s' = addrS b c s := addr_near (n.r b.toNat (by omega))
      by_cases hbad : badS b c s
      · refine ⟨_, Steps.one hov', .inr ?_⟩
        rw [mem_fail (j := 0) (.inr (.inl rfl)) hk (by simp) rfl hpc' (hbn.2 hbad), own_fail (.inr (.inl rfl)) ho hpc hbad]
        exact fail_same hside.same.1 hside.same.2.1
      · have hg : ¬ badS b c s' := fun h => hbad (hbn.1 h)
        have st0 := store_one (l := l) (bl := [⟨14, a, b, c, 0⟩, ⟨14, a, b, c, 0⟩]) (j := 0) hk (by simp) rfl hpc' hg
        rw [han, ra, n.ws] at st0
        refine ⟨_, Steps.to hov' st0 (Steps.one hov'), .inl ?_⟩
        have hg2 : ¬ badS b c { s' with ws := s.ws.set (addrS b c s).toNat (s.r a.toNat), pc := k + 1 + 1 } := by
          intro h
          refine hg ?_
          unfold badS addrS at h ⊢
          dsimp only at h
          rw [List.length_set] at h
          rw [n.ws]
          exact h
        have e1 : stepS l s = endS l.length { s with ws := s.ws.set (addrS b c s).toNat (s.r a.toNat), pc := k + 1 } := by
          rw [own_step (l := l) hpc, ← ho, exec_mem (.inr (.inl rfl)), mem_good (s := { s with pc := k + 1 }) hbad]
          rfl
        have e2 : stepS (putL l k [⟨14, a, b, c, 0⟩, ⟨14, a, b, c, 0⟩]) { s' with ws := s.ws.set (addrS b c s).toNat (s.r a.toNat), pc := k + 0 + 1 } =
            endS (l.length + 1) { s' with ws := (s.ws.set (addrS b c s).toNat (s.r a.toNat)).set (addrS b c s').toNat (s'.r a.toNat), pc := k + 1 + 1 } := by
          rw [block_step (j := 1) hk (by simp) rfl rfl]
          show endS (l.length + 1) (execS ⟨14, a, b, c, 0⟩ { s' with ws := s.ws.set (addrS b c s).toNat (s.r a.toNat), pc := k + 1 + 1 }) = _
          rw [exec_mem (.inr (.inl rfl)), mem_good hg2]
          rfl
        rw [e1, e2, han, ra, List.set_set]
        exact side_end hk ⟨n.r, n.told, rfl, n.cd, n.ov⟩ (mapP_next k 1).symm
  · split at hb
    · rename_i h13
      subst h13
      obtain ⟨qa, qb, rfl⟩ := ok_mem (.inl rfl) hok1
      have u2 := hu1 b (by simp [usedL])
      have ht : tgtOf (opAt l k) = none := by rw [← ho]; rfl
      have hlen : 0 < bl.length := by cases back <;> cases hb <;> simp
      have hl1 : 1 < bl.length := by cases back <;> cases hb <;> simp
      have hb0 : opAt bl 0 = ⟨13, f, b, c, 0⟩ := by cases back <;> cases hb <;> rfl
      refine ⟨hlen, fun j hj => ?_, ?_⟩
      · have key : ∀ o ∈ bl, tgtOf o = none ∧ okOp l.length o = true := by
          cases back <;> cases hb <;> intro o ho <;> simp only [List.mem_cons, List.not_mem_nil, or_false] at ho
          · rcases ho with rfl | rfl
            · exact ⟨rfl, by simp [okOp, fitsAll, signs, fitsI] <;> omega⟩
            · exact ⟨rfl, hok1⟩
          · rcases ho with rfl | rfl | rfl
            · exact ⟨rfl, by simp [okOp, fitsAll, signs, fitsI] <;> omega⟩
            · exact ⟨rfl, by simp [okOp, fitsAll, signs, fitsI] <;> omega⟩
            · exact ⟨rfl, hok1⟩
        obtain ⟨q1, q2⟩ := key (opAt bl j) (by rw [opAt_eq hj]; exact List.getElem_mem _)
        unfold shiftB
        rw [q1]
        exact ok_more q2 (by omega)
      · intro s s' _ _ hside hpc hov
        have hov' : s'.ov = false := hside.same.2.2.2.symm.trans hov
        have hpc' : s'.pc = k + 0 := by rw [hside.pc, hpc, mapP_own]; rfl
        have n := hside.near
        have hbn : badS b c s' ↔ badS b c s := bad_near (n.r b.toNat (by omega)) n.ws
        by_cases hbad : badS b c s
        · refine ⟨_, Steps.one hov', .inr ?_⟩
          rw [mem_fail (j := 0) (.inl rfl) hk hlen hb0 hpc' (hbn.2 hbad), own_fail (.inl rfl) ho hpc hbad]
          exact fail_same hside.same.1 hside.same.2.1
        · have hg : ¬ badS b c s' := fun h => hbad (hbn.1 h)
          have st0 := load_one (l := l) (bl := bl) (j := 0) hk hl1 hb0 hpc' hg
          rw [Int.toNat_natCast] at st0
          obtain ⟨i, hi⟩ : ∃ i, i = (addrS b c s').toNat := ⟨_, rfl⟩
          rw [← hi] at st0
          cases back <;> cases hb
          · exact ⟨_, Steps.to hov' st0 (Steps.one hov'), .inl (own_last (m := 1) hk rfl ho hok2 hu2 ht (near_hold n f (Nat.le_refl _) _ _) hpc rfl)⟩
          · have rb : upd s'.r f (s'.ws.getD i 0) b.toNat = s'.r b.toNat := upd_ne (by omega) _ _
            have hg2 : ¬ badS b c { s' with r := upd s'.r f (s'.ws.getD i 0), pc := k + 0 + 1 } := by
              unfold badS addrS at hg ⊢
              dsimp only at hg ⊢
              rw [rb]; exact hg
            have ha2 : addrS b c { s' with r := upd s'.r f (s'.ws.getD i 0), pc := k + 0 + 1 } = addrS b c s' := by
              unfold addrS
              dsimp only
              rw [rb]
            have st1 := store_one (l := l) (bl := [⟨13, f, b, c, 0⟩, ⟨14, f, b, c, 0⟩, ⟨13, a, b, c, 0⟩]) (j := 1) hk (by simp) rfl rfl hg2
            rw [ha2, ← hi, Int.toNat_natCast] at st1
            dsimp only at st1
            rw [upd_same, set_own] at st1
            exact ⟨_, Steps.to hov' st0 (Steps.to hov' st1 (Steps.one hov')), .inl (own_last (m := 2) hk rfl ho hok2 hu2 ht (near_hold n f (Nat.le_refl _) _ _) hpc rfl)⟩
    · cases hb
theorem twice_plain {l : List Op5} {args ws : List Int} (hl : ∀ o ∈ l, OpR o) (ha : ∀ x ∈ args, InR x) (hw : ∀ x ∈ ws, InR x) (which : Int) (back : Bool) : WLaw l args ws (swapL args.length which 1 (twiceL back) l) :=
  law_in_range hl ha hw (fun hok _ hu => twice_block back hok hu)

theorem cas_block {l : List Op5} {f : Nat} (hok : okCode l = true) (hu : ∀ o ∈ l, ∀ r ∈ usedL o, r < (f : Int)) : ByLaw l f 2 casL RangeI := by
  intro k hk hf bl hb
  have hok1 := okCode_at hok hk
  have hu1 := hu (opAt l k) (by rw [opAt_eq hk]; exact List.getElem_mem _)
  obtain ⟨o, ho⟩ : ∃ o, o = opAt l k := ⟨_, rfl⟩
  rw [← ho] at hok1 hu1 hb
  obtain ⟨kk, a, b, c, d⟩ := o
  unfold casL at hb
  dsimp only at hb
  split at hb
  · rename_i h15
    subst h15
    cases hb
    obtain ⟨qa, qb, qd⟩ := ok_cas hok1
    have u1 := hu1 a (by simp [usedL])
    have u2 := hu1 b (by simp [usedL])
    have u3 := hu1 d (by simp [usedL])
    have hown : ownI (opAt l k) = -1 := by rw [← ho]; rfl
    have e1 : ((f : Int) + 1).toNat = f + 1 := by omega
    have s2 : shiftB k 4 (ownI (opAt l k)) ⟨12, (f : Int) + 1, (k : Int) + 4, 0, 0⟩ = ⟨12, (f : Int) + 1, (k : Int) + 4, 0, 0⟩ := by
      rw [hown]
      refine shiftB_other (fun t ht => ?_)
      cases ht
      show (k : Int) + 4 ≠ -1
      omega
    refine ⟨by simp, fun j hj => ?_, ?_⟩
    · have hj2 : j = 0 ∨ j = 1 ∨ j = 2 ∨ j = 3 ∨ j = 4 := by simp at hj; omega
      rcases hj2 with rfl | rfl | rfl | rfl | rfl
      · show okOp _ (⟨13, (f : Int), b, c, 0⟩ : Op5) = true
        simp [okOp, fitsAll, signs, fitsI] <;> omega
      · show okOp _ (⟨8, (f : Int) + 1, (f : Int), d, 0⟩ : Op5) = true
        simp [okOp, fitsAll, signs, fitsI] <;> omega
      · show okOp _ (shiftB k 4 (ownI (opAt l k)) ⟨12, (f : Int) + 1, (k : Int) + 4, 0, 0⟩) = true
        rw [s2]
        exact ok_way_of (.inr rfl) (by omega) (by simp only [List.length_cons, List.length_nil]; omega)
      · show okOp _ (⟨14, a, b, c, 0⟩ : Op5) = true
        simp [okOp, fitsAll, signs, fitsI] <;> omega
      · show okOp _ (⟨2, a, (f : Int) + 1, 0, 0⟩ : Op5) = true
        simp [okOp, fitsAll, signs, fitsI] <;> omega
    · intro s s' _ _ hside hpc hov
      obtain ⟨bl, hbl⟩ : ∃ bl, bl = [(⟨13, (f : Int), b, c, 0⟩ : Op5), ⟨8, (f : Int) + 1, (f : Int), d, 0⟩, ⟨12, (f : Int) + 1, (k : Int) + 4, 0, 0⟩, ⟨14, a, b, c, 0⟩, ⟨2, a, (f : Int) + 1, 0, 0⟩] := ⟨_, rfl⟩
      have hlen : bl.length = 5 := by rw [hbl]; rfl
      rw [← hbl] at hside ⊢
      have hov' : s'.ov = false := hside.same.2.2.2.symm.trans hov
      have hpc' : s'.pc = k + 0 := by rw [hside.pc, hpc, mapP_own]; rfl
      have n := hside.near
      have ra := n.r a.toNat (by omega)
      have rd := n.r d.toNat (by omega)
      have hbn : badS b c s' ↔ badS b c s := bad_near (n.r b.toNat (by omega)) n.ws
      have han : addrS b c s' = addrS b c s := addr_near (n.r b.toNat (by omega))
      by_cases hbad : badS b c s
      · refine ⟨_, Steps.one hov', .inr ?_⟩
        rw [mem_fail (kk := 13) (x := f) (d := 0) (j := 0) (.inl rfl) hk (by omega) (by rw [hbl]; rfl) hpc' (hbn.2 hbad), own_fail (.inr (.inr rfl)) ho hpc hbad]
        exact fail_same hside.same.1 hside.same.2.1
      · have hg : ¬ badS b c s' := fun h => hbad (hbn.1 h)
        have st0 := load_one (l := l) (bl := bl) (j := 0) (x := (f : Int)) hk (by omega) (by rw [hbl]; rfl) hpc' hg
        rw [Int.toNat_natCast, han] at st0
        obtain ⟨i, hi⟩ : ∃ i, i = (addrS b c s).toNat := ⟨_, rfl⟩
        rw [← hi] at st0
        obtain ⟨x, hx⟩ : ∃ x, x = s.ws.getD i 0 := ⟨_, rfl⟩
        rw [show s'.ws.getD i 0 = x by rw [n.ws, hx]] at st0
        obtain ⟨r2, hr2⟩ : ∃ r2, r2 = upd (upd s'.r f x) (f + 1) (flagI (x == s.r d.toNat)) := ⟨_, rfl⟩
        have r2f : r2 (f + 1) = flagI (x == s.r d.toNat) := by rw [hr2, upd_same]
        have r2n : ∀ j, j < f → r2 j = s.r j := fun j hj => by rw [hr2, upd_ne (by omega), upd_ne (by omega)]; exact n.r j hj
        have st1 : stepS (putL l k bl) { s' with r := upd s'.r f x, pc := k + 0 + 1 } = { s' with r := r2, pc := k + 1 + 1 } := by
          rw [reg_one (j := 1) (o := ⟨8, (f : Int) + 1, (f : Int), d, 0⟩) hk (by omega) (by rw [hbl]; rfl) (isReg_mk (by decide)) rfl]
          have e : regS ⟨8, (f : Int) + 1, (f : Int), d, 0⟩ (upd s'.r f x) = r2 := by
            show upd (upd s'.r f x) ((f : Int) + 1).toNat (flagI (upd s'.r f x ((f : Int)).toNat == upd s'.r f x d.toNat)) = r2
            rw [e1, Int.toNat_natCast, upd_same, upd_ne (show d.toNat ≠ f by omega), rd, hr2]
          show ({ s' with r := regS ⟨8, (f : Int) + 1, (f : Int), d, 0⟩ (upd s'.r f x), pc := k + 1 + 1 } : St) = _
          rw [e]
        have st2 : stepS (putL l k bl) { s' with r := r2, pc := k + 1 + 1 } = endS (l.length + 4) (if goesB 12 ((f : Int) + 1) { s' with r := r2, pc := k + 2 + 1 } then { s' with r := r2, pc := ((k : Int) + 4).toNat } else { s' with r := r2, pc := k + 2 + 1 }) := by
          rw [block_step' (j := 2) hk (by omega) rfl, hlen, show opAt bl 2 = ⟨12, (f : Int) + 1, (k : Int) + 4, 0, 0⟩ by rw [hbl]; rfl]
          show endS (l.length + 4) (execS (shiftB k 4 (ownI (opAt l k)) ⟨12, (f : Int) + 1, (k : Int) + 4, 0, 0⟩) { s' with r := r2, pc := k + 2 + 1 }) = _
          rw [s2, exec_way (.inr rfl)]
        have own0 : stepS l s = endS l.length (if s.ws.getD i 0 = s.r d.toNat then { s with pc := k + 1, ws := s.ws.set i (s.r a.toNat), r := upd s.r a.toNat 1 } else { s with pc := k + 1, r := upd s.r a.toNat 0 }) := by
          rw [own_step (l := l) hpc, ← ho, exec_mem (.inr (.inr rfl)), mem_good (s := { s with pc := k + 1 }) hbad, hi]
          rfl
        rw [← hx] at own0
        have fin : ∀ (ws : List Int) (p : Nat), p = k + 4 → stepS (putL l k bl) { s' with r := r2, ws := ws, pc := p } = endS (l.length + 4) { s' with r := upd r2 a.toNat (flagI (x == s.r d.toNat)), ws := ws, pc := k + 4 + 1 } := by
          intro ws p hp
          rw [reg_end (j := 4) (o := ⟨2, a, (f : Int) + 1, 0, 0⟩) hk (by omega) (by rw [hbl]; rfl) (isReg_mk (by decide)) hp, hlen]
          have e : regS ⟨2, a, (f : Int) + 1, 0, 0⟩ r2 = upd r2 a.toNat (flagI (x == s.r d.toNat)) := by
            show upd r2 a.toNat (r2 ((f : Int) + 1).toNat) = _
            rw [e1, r2f]
          show endS (l.length + 4) { s' with r := regS ⟨2, a, (f : Int) + 1, 0, 0⟩ r2, ws := ws, pc := k + 4 + 1 } = _
          rw [e]
        have hm : mapP k (bl.length - 1) (k + 1) = k + 4 + 1 := by rw [hlen, mapP_next]
        have hn4 : l.length + 4 = l.length + (bl.length - 1) := by rw [hlen]
        by_cases heq : x = s.r d.toNat
        · have hfl : flagI (x == s.r d.toNat) = 1 := by rw [heq, beq_self_eq_true]; rfl
          have hgo : goesB 12 ((f : Int) + 1) { s' with r := r2, pc := k + 2 + 1 } = false := by
            show (((12 : Int) == 11) != (r2 ((f : Int) + 1).toNat == 0)) = false
            rw [e1, r2f, hfl]; rfl
          rw [hgo] at st2
          have st2' : stepS (putL l k bl) { s' with r := r2, pc := k + 1 + 1 } = { s' with r := r2, pc := k + 2 + 1 } := by
            rw [st2]; exact endS_id (show k + 2 + 1 < l.length + 4 by omega)
          have rb2 : r2 b.toNat = s'.r b.toNat := by rw [r2n _ (by omega)]; exact (n.r b.toNat (by omega)).symm
          have hg2 : ¬ badS b c { s' with r := r2, pc := k + 2 + 1 } := by
            unfold badS addrS at hg ⊢
            dsimp only at hg ⊢
            rw [rb2]; exact hg
          have ha2 : addrS b c { s' with r := r2, pc := k + 2 + 1 } = addrS b c s := by
            rw [← han]
            unfold addrS
            dsimp only
            rw [rb2]
          have st3 := store_one (l := l) (bl := bl) (j := 3) (x := a) hk (by omega) (by rw [hbl]; rfl) rfl hg2
          rw [ha2, ← hi] at st3
          dsimp only at st3
          rw [r2n a.toNat (by omega), show s'.ws.set i (s.r a.toNat) = s.ws.set i (s.r a.toNat) by rw [n.ws]] at st3
          refine ⟨_, Steps.to hov' st0 (Steps.to hov' st1 (Steps.to hov' st2' (Steps.to hov' st3 (Steps.one hov')))), .inl ?_⟩
          rw [fin _ _ rfl, own0, if_pos heq, hn4, hfl]
          refine side_end hk ⟨upd_near r2n _ rfl, n.told, rfl, n.cd, n.ov⟩ hm.symm
        · have hfl : flagI (x == s.r d.toNat) = 0 := by rw [beq_eq_false_iff_ne.2 heq]; rfl
          have hgo : goesB 12 ((f : Int) + 1) { s' with r := r2, pc := k + 2 + 1 } = true := by
            show (((12 : Int) == 11) != (r2 ((f : Int) + 1).toNat == 0)) = true
            rw [e1, r2f, hfl]; rfl
          rw [hgo] at st2
          have st2' : stepS (putL l k bl) { s' with r := r2, pc := k + 1 + 1 } = { s' with r := r2, pc := ((k : Int) + 4).toNat } := by
            rw [st2]; exact endS_id (show ((k : Int) + 4).toNat < l.length + 4 by omega)
          refine ⟨_, Steps.to hov' st0 (Steps.to hov' st1 (Steps.to hov' st2' (Steps.one hov'))), .inl ?_⟩
          rw [fin s'.ws _ (by omega), own0, if_neg heq, hn4, hfl]
          refine side_end hk ⟨upd_near r2n _ rfl, n.told, n.ws, n.cd, n.ov⟩ hm.symm
  · cases hb
theorem cas_plain {l : List Op5} {args ws : List Int} (hl : ∀ o ∈ l, OpR o) (ha : ∀ x ∈ args, InR x) (hw : ∀ x ∈ ws, InR x) (which : Int) : WLaw l args ws (swapL args.length which 2 casL l) :=
  law_in_range hl ha hw (fun hok _ hu => cas_block hok hu)
end Go.Proofs.YtmnfgigieafehaaDoor
