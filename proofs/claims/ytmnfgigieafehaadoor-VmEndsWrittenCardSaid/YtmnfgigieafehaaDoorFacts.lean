/- Plain facts on the machine's step: what stays within its bounds. Conditions: the code may be. -/
import Derived.Test.YtmnfgigieafehaaDoorSpec
namespace Go.Proofs.YtmnfgigieafehaaDoor
open Go.RowKit

/-- A state between two steps. -/
structure StOk (n N : Nat) (s : St) : Prop where
  pc : s.ov = false → s.pc < n
  told : s.told.length ≤ 200
  ws : s.ws.length = N

theorem wordS_facts (o : Op5) (i : Nat) (s : St) : (wordS o i s).pc = s.pc ∧ (wordS o i s).told = s.told ∧ (wordS o i s).ws.length = s.ws.length ∧ (wordS o i s).ov = s.ov := by
  unfold wordS
  split
  · exact ⟨rfl, rfl, rfl, rfl⟩
  · split
    · exact ⟨rfl, rfl, by simp, rfl⟩
    · split
      · exact ⟨rfl, rfl, by simp, rfl⟩
      · exact ⟨rfl, rfl, rfl, rfl⟩
theorem otherS_facts {n : Nat} {o : Op5} {s : St} (hok : okOp n o = true) (hpc : s.pc ≤ n) (ht : s.told.length ≤ 200) :
    (otherS o s).pc ≤ n ∧ (otherS o s).told.length ≤ 200 ∧ (otherS o s).ws.length = s.ws.length := by
  obtain ⟨k, a, b, c, d⟩ := o
  unfold otherS
  dsimp only
  split
  · rename_i h; subst h; have := ok_jump hok; exact ⟨by dsimp only; omega, ht, rfl⟩
  · split
    · rename_i h; subst h; have := ok_way (.inl rfl) hok
      split
      · exact ⟨hpc, ht, rfl⟩
      · exact ⟨by dsimp only; omega, ht, rfl⟩
    · split
      · rename_i h; subst h; have := ok_way (.inr rfl) hok
        split
        · exact ⟨by dsimp only; omega, ht, rfl⟩
        · exact ⟨hpc, ht, rfl⟩
      · split
        · split
          · exact ⟨hpc, ht, rfl⟩
          · exact ⟨hpc, by simp only [List.length_append, List.length_singleton]; omega, rfl⟩
        · split
          · exact ⟨hpc, ht, rfl⟩
          · split
            · exact ⟨hpc, ht, rfl⟩
            · have := wordS_facts ⟨k, a, b, c, d⟩ (wrap64 (s.r b.toNat + c)).toNat s
              exact ⟨by rw [this.1]; exact hpc, by rw [this.2.1]; exact ht, this.2.2.1⟩
theorem execS_facts {n : Nat} {o : Op5} {s : St} (hok : okOp n o = true) (hpc : s.pc ≤ n) (ht : s.told.length ≤ 200) :
    (execS o s).pc ≤ n ∧ (execS o s).told.length ≤ 200 ∧ (execS o s).ws.length = s.ws.length := by
  unfold execS
  repeat' split
  all_goals first | exact ⟨hpc, ht, rfl⟩ | exact otherS_facts hok hpc ht
theorem okCode_at {l : List Op5} (h : okCode l = true) {i : Nat} (hi : i < l.length) : okOp l.length (opAt l i) = true := by
  simp only [okCode, Bool.and_eq_true, List.all_eq_true] at h
  have e : opAt l i = l[i] := by simp [opAt, List.getD, hi]
  rw [e]; exact h.1 _ (List.getElem_mem hi)
theorem okCode_len {l : List Op5} (h : okCode l = true) : l.length ≤ 200 := by
  simp only [okCode, Bool.and_eq_true, decide_eq_true_eq] at h; exact h.2
theorem stepS_ok {l : List Op5} {N : Nat} {s : St} (hl : okCode l = true) (h : StOk l.length N s) (hov : s.ov = false) : StOk l.length N (stepS l s) := by
  have hpc := h.pc hov
  obtain ⟨h1, h2, h3⟩ := execS_facts (s := { s with pc := s.pc + 1 }) (okCode_at hl hpc) (by dsimp only; omega) h.told
  refine ⟨fun hv => ?_, h2, h3.trans h.ws⟩
  simp only [stepS, endS, Bool.or_eq_false_iff, beq_eq_false_iff_ne, ne_eq] at hv
  show (execS (opAt l s.pc) { s with pc := s.pc + 1 }).pc < l.length
  have := hv.2
  omega
theorem beginS_ok {l : List Op5} {args ws : List Int} : StOk l.length ws.length (beginS l args ws) := by
  refine ⟨fun h => ?_, by simp [beginS], rfl⟩
  simp only [beginS, beq_eq_false_iff_ne, ne_eq] at h ⊢
  omega
/-- A run, a step ahead. -/
theorem runS_step {l : List Op5} {f : Nat} {s : St} (h : s.ov = false) : runS l (f + 1) s = ((runS l f (stepS l s)).1, (runS l f (stepS l s)).2 + 1) := by rw [runS, h]; rfl
theorem runS_over {l : List Op5} {f : Nat} {s : St} (h : s.ov = true) : runS l f s = (s, 0) := by
  cases f with
  | zero => rfl
  | succ f => rw [runS, h]; rfl
theorem runS_ok {l : List Op5} {N : Nat} (hl : okCode l = true) : ∀ (f : Nat) (s : St), StOk l.length N s → StOk l.length N (runS l f s).1
  | 0, s, h => h
  | f + 1, s, h => by
    cases hov : s.ov
    · rw [runS_step hov]; exact runS_ok hl f _ (stepS_ok hl h hov)
    · rw [runS_over hov]; exact h
theorem runAns_told {l : List Op5} {args ws : List Int} {lim : Nat} (hl : okCode l = true) : (runAns l args ws lim).told.length ≤ 200 := (runS_ok hl lim _ beginS_ok).told
theorem runAns_ws {l : List Op5} {args ws : List Int} {lim : Nat} (hl : okCode l = true) : (runAns l args ws lim).ws.length = ws.length := (runS_ok hl lim _ beginS_ok).ws
theorem runAns_steps {l : List Op5} : ∀ (f : Nat) (s : St), (runS l f s).2 ≤ f
  | 0, s => Nat.le_refl _
  | f + 1, s => by
    cases hov : s.ov
    · rw [runS_step hov]; have := runAns_steps (l := l) f (stepS l s); dsimp only; omega
    · rw [runS_over hov]; exact Nat.zero_le _
/-- A run as it stands after k steps. -/
def RunAt (l : List Op5) (lim : Nat) (s0 : St) (k : Nat) (s : St) : Prop := k ≤ lim ∧ runS l lim s0 = ((runS l (lim - k) s).1, (runS l (lim - k) s).2 + k)
theorem RunAt.start (l : List Op5) (lim : Nat) (s0 : St) : RunAt l lim s0 0 s0 := ⟨Nat.zero_le _, rfl⟩
theorem RunAt.step {l : List Op5} {lim k : Nat} {s0 s : St} (h : RunAt l lim s0 k s) (hov : s.ov = false) (hk : k < lim) : RunAt l lim s0 (k + 1) (stepS l s) := by
  refine ⟨hk, ?_⟩
  rw [h.2, show lim - k = (lim - (k + 1)) + 1 by omega, runS_step hov]
  ext1
  · rfl
  · show _ + 1 + k = _ + (k + 1); omega
theorem RunAt.over {l : List Op5} {lim k : Nat} {s0 s : St} (h : RunAt l lim s0 k s) (hov : s.ov = true) : runS l lim s0 = (s, k) := by
  rw [h.2, runS_over hov]; ext1 <;> simp
theorem RunAt.full {l : List Op5} {lim k : Nat} {s0 s : St} (h : RunAt l lim s0 k s) (hk : lim ≤ k) : runS l lim s0 = (s, k) := by
  rw [h.2, show lim - k = 0 by omega]; ext1 <;> simp [runS]
end Go.Proofs.YtmnfgigieafehaaDoor
