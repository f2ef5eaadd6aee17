/- The plain law of Ends: a jump to the end and Done are alike, and a Done may stand behind the last instruction. No Go and no memory in it. -/
import Derived.Test.YtmnfgigieafehaaDoorSimK
import Derived.Test.YtmnfgigieafehaaDoorByG
namespace Go.Proofs.YtmnfgigieafehaaDoor
open Go.RowKit
set_option maxRecDepth 100000

theorem over_same {n n' : Nat} {s t : St} (h : s.told = t.told) (hw : s.ws = t.ws) (hc : s.cd = t.cd) (hs : s.ov = true ∨ s.pc = n) (ht : t.ov = true ∨ t.pc = n') : (endS n s).ov = true ∧ Same (endS n s) (endS n' t) := by
  have key : ∀ (n : Nat) (s : St), (s.ov = true ∨ s.pc = n) → (endS n s).ov = true := fun n s h => by
    show (s.ov || ((s.pc : Int) == (n : Int))) = true
    rcases h with h | h
    · rw [h, Bool.true_or]
    · rw [h, beq_self_eq_true, Bool.or_true]
  exact ⟨key n s hs, h, hw, hc, (key n s hs).trans (key n' t ht).symm⟩

theorem ends_block {l : List Op5} {f : Nat} : ByLaw l f 0 (endsL l.length) RangeI := by
  intro k hk hf bl hb
  obtain ⟨o, ho⟩ : ∃ o, o = opAt l k := ⟨_, rfl⟩
  rw [← ho] at hb
  obtain ⟨kk, a, b, c, d⟩ := o
  unfold endsL at hb
  dsimp only at hb
  split at hb
  · rename_i h17
    subst h17
    cases hb
    have s0 : shiftB k 0 (ownI (opAt l k)) ⟨10, (l.length : Int), 0, 0, 0⟩ = ⟨10, (l.length : Int), 0, 0, 0⟩ := by
      rw [← ho]
      refine shiftB_other (fun t ht => ?_)
      cases ht
      show (l.length : Int) ≠ -1
      omega
    refine ⟨by simp, fun j hj => ?_, ?_⟩
    · obtain rfl : j = 0 := by simpa using hj
      show okOp _ (shiftB k 0 (ownI (opAt l k)) ⟨10, (l.length : Int), 0, 0, 0⟩) = true
      rw [s0]
      exact ok_jump_of (by simp only [List.length_cons, List.length_nil]; omega)
    · intro s s' _ _ hside hpc hov
      have hov' : s'.ov = false := hside.same.2.2.2.symm.trans hov
      have hpc' : s'.pc = k + 0 := by rw [hside.pc, hpc, mapP_own]; rfl
      have st : stepS (putL l k [⟨10, (l.length : Int), 0, 0, 0⟩]) s' = endS l.length { s' with pc := ((l.length : Int)).toNat } := by
        rw [block_step' (j := 0) hk (by simp) hpc']
        show endS l.length (execS (shiftB k 0 (ownI (opAt l k)) ⟨10, (l.length : Int), 0, 0, 0⟩) _) = _
        rw [s0]
        rfl
      have own : stepS l s = endS l.length { s with pc := k + 1, ov := true } := by rw [own_step (l := l) hpc, ← ho]; rfl
      refine ⟨_, Steps.one hov', .inr ?_⟩
      rw [st, own]
      exact over_same hside.same.1 hside.same.2.1 hside.same.2.2.1 (.inl rfl) (.inr (Int.toNat_natCast _))
  · split at hb
    · rename_i h10
      obtain ⟨rfl, rfl⟩ := h10
      cases hb
      have s0 : shiftB k 0 (ownI (opAt l k)) ⟨17, 0, 0, 0, 0⟩ = ⟨17, 0, 0, 0, 0⟩ := by unfold shiftB; rfl
      refine ⟨by simp, fun j hj => ?_, ?_⟩
      · obtain rfl : j = 0 := by simpa using hj
        show okOp _ (shiftB k 0 (ownI (opAt l k)) ⟨17, 0, 0, 0, 0⟩) = true
        rw [s0]
        rfl
      · intro s s' _ _ hside hpc hov
        have hov' : s'.ov = false := hside.same.2.2.2.symm.trans hov
        have hpc' : s'.pc = k + 0 := by rw [hside.pc, hpc, mapP_own]; rfl
        have st : stepS (putL l k [⟨17, 0, 0, 0, 0⟩]) s' = endS l.length { s' with pc := k + 1, ov := true } := by
          rw [block_step' (j := 0) hk (by simp) hpc']
          show endS l.length (execS (shiftB k 0 (ownI (opAt l k)) ⟨17, 0, 0, 0, 0⟩) _) = _
          rw [s0]
          rfl
        have own : stepS l s = endS l.length { s with pc := ((l.length : Int)).toNat } := by rw [own_step (l := l) hpc, ← ho]; rfl
        refine ⟨_, Steps.one hov', .inr ?_⟩
        rw [st, own]
        exact over_same hside.same.1 hside.same.2.1 hside.same.2.2.1 (.inr (Int.toNat_natCast _)) (.inl rfl)
    · cases hb

theorem opAt_left {l m : List Op5} {i : Nat} (h : i < l.length) : opAt (l ++ m) i = opAt l i := by
  unfold opAt
  rw [List.getD, List.getElem?_append_left h, ← List.getD]
theorem opAt_end {l : List Op5} {o : Op5} : opAt (l ++ [o]) l.length = o := by
  unfold opAt
  rw [List.getD, List.getElem?_append_right (Nat.le_refl _), Nat.sub_self]
  rfl
theorem endS_over {n : Nat} {s : St} (h : s.ov = true) : (endS n s).ov = true := by
  show (s.ov || _) = true
  rw [h]
  exact Bool.true_or _
theorem begin_ov (l : List Op5) (args ws : List Int) : (beginS l args ws).ov = ((l.length : Int) == 0) := rfl
/-- Runs of a code and of the code with a Done behind it. -/
theorem done_same {l l' : List Op5} {args ws : List Int} (hok : okCode l = true) (hl1 : l'.length = l.length + 1) (hlow : ∀ i, i < l.length → opAt l' i = opAt l i) (hend : opAt l' l.length = ⟨17, 0, 0, 0, 0⟩) (n m : Nat)
    (ov1 : (runS l n (beginS l args ws)).1.ov = true) (ov2 : (runS l' m (beginS l' args ws)).1.ov = true) : Same (runS l n (beginS l args ws)).1 (runS l' m (beginS l' args ws)).1 := by
  have stEnd : ∀ s : St, s.pc = l.length → stepS l' s = endS (l.length + 1) { s with pc := l.length + 1, ov := true } := fun s hs => by
    unfold stepS
    rw [hs, hend, hl1]
    rfl
  have hb2 : (beginS l' args ws).ov = false := by
    rw [begin_ov, hl1, beq_eq_false_iff_ne.2 (by omega)]
  by_cases h0 : l.length = 0
  · have hb1 : (beginS l args ws).ov = true := by rw [begin_ov, h0]; rfl
    obtain ⟨m', _, he⟩ := (Steps.one hb2).run m ov2
    have e2 := stEnd (beginS l' args ws) (by rw [h0]; rfl)
    have ov3 : (stepS l' (beginS l' args ws)).ov = true := by rw [e2]; exact endS_over rfl
    rw [he, runS_done hb1, runS_done ov3]
    refine ⟨?_, ?_, ?_, hb1.trans ov3.symm⟩ <;> rw [e2] <;> rfl
  · have hb1 : (beginS l args ws).ov = false := by rw [begin_ov, beq_eq_false_iff_ne.2 (by omega)]
    have hbb : beginS l' args ws = beginS l args ws := by
      rw [begin_ov] at hb1 hb2
      unfold beginS
      rw [hb1, hb2]
    refine sim (l := l) (l' := l') (R := fun s s' => s' = s ∧ StOk l.length ws.length s) (fun s s' h => by rw [h.1]; exact ⟨rfl, rfl, rfl, rfl⟩) ?_ n m _ _ ⟨hbb, beginS_ok⟩ ov1 ov2
    rintro s s' ⟨rfl, hst⟩ hov
    have hpc := hst.pc hov
    obtain ⟨X, hX⟩ : ∃ X, X = execS (opAt l s'.pc) { s' with pc := s'.pc + 1 } := ⟨_, rfl⟩
    have e1 : stepS l s' = endS l.length X := by rw [hX]; rfl
    have e2 : stepS l' s' = endS (l.length + 1) X := by unfold stepS; rw [hlow _ hpc, hl1, hX]
    have hXp : X.pc ≤ l.length := by rw [hX]; exact (execS_facts (s := { s' with pc := s'.pc + 1 }) (okCode_at hok hpc) (show s'.pc + 1 ≤ l.length by omega) hst.told).1
    by_cases hlt : X.pc < l.length
    · refine ⟨_, Steps.one hov, .inl ⟨?_, stepS_ok hok hst hov⟩⟩
      rw [e1, e2, endS_id hlt, endS_id (by omega)]
    · have hpe : X.pc = l.length := by omega
      cases hxo : X.ov
      · have e3 : stepS l' s' = X := by rw [e2, endS_id (by omega)]
        refine ⟨_, Steps.to hov e3 (Steps.one hxo), .inr ?_⟩
        rw [e1, stEnd X hpe]
        exact over_same rfl rfl rfl (.inr hpe) (.inl rfl)
      · refine ⟨_, Steps.one hov, .inr ?_⟩
        rw [e1, e2]
        exact over_same rfl rfl rfl (.inl hxo) (.inl hxo)
theorem ans_over {l : List Op5} {args ws : List Int} {n : Nat} (h : (runAns l args ws n).e ≠ 11) : (runS l n (beginS l args ws)).1.ov = true := by
  cases ho : (runS l n (beginS l args ws)).1.ov
  · exact absurd (by simp only [runAns]; rw [ho]; rfl) h
  · rfl
/-- A Done behind the last instruction. -/
theorem done_law {l : List Op5} {args ws : List Int} : WLaw l args ws (some (l ++ [⟨17, 0, 0, 0, 0⟩])) := by
  intro hok _ _ h1 l' hl' hlen
  have hl1 : l'.length = l.length + 1 := by rw [← Option.some.inj hl']; simp
  have hlow : ∀ i, i < l.length → opAt l' i = opAt l i := fun i hi => by rw [← Option.some.inj hl']; exact opAt_left hi
  have hend : opAt l' l.length = ⟨17, 0, 0, 0, 0⟩ := by rw [← Option.some.inj hl']; exact opAt_end
  clear hl'
  refine ⟨?_, by omega, fun h2 => ?_⟩
  · rw [okCode_all, decide_eq_true hlen]
    intro j hj
    rw [hl1] at hj ⊢
    by_cases hj1 : j < l.length
    · rw [hlow j hj1]; exact ok_more (okCode_at hok hj1) (by omega)
    · obtain rfl : j = l.length := by omega
      rw [hend]
      rfl
  · have ov1 := ans_over h1
    have ov2 := ans_over h2
    have S := done_same hok hl1 hlow hend 1000 6000 ov1 ov2
    refine ⟨?_, S.1, S.2.1⟩
    simp only [runAns]
    rw [ov1, ov2, S.2.2.1]
theorem ends_plain {l : List Op5} {args ws : List Int} (hl : ∀ o ∈ l, OpR o) (ha : ∀ x ∈ args, InR x) (hw : ∀ x ∈ ws, InR x) (which how : Int) : WLaw l args ws (endsChange how which args.length l) := by
  unfold endsChange
  split
  · exact done_law
  · exact law_in_range hl ha hw (fun _ _ _ => ends_block)
end Go.Proofs.YtmnfgigieafehaaDoor
