/- The plain law of a change of one instruction: runs of a code and of the changed code go side by side. No Go and no memory in it. -/
import Derived.Test.YtmnfgigieafehaaDoorSwap
import Derived.Test.YtmnfgigieafehaaDoorFacts
namespace Go.Proofs.YtmnfgigieafehaaDoor
open Go.RowKit
set_option maxRecDepth 100000

/-- The code's places behind a change at k. -/
def mapP (k more i : Nat) : Nat := if i ≤ k then i else i + more
/-- What a call answers of a state. -/
def Same (s s' : St) : Prop := s.told = s'.told ∧ s.ws = s'.ws ∧ s.cd = s'.cd ∧ s.ov = s'.ov
/-- The states go side by side. -/
structure Side (k more f : Nat) (s s' : St) : Prop where
  pc : s'.pc = mapP k more s.pc
  r : ∀ i, i < f → s'.r i = s.r i
  same : Same s s'

/-- Steps of a code, none of them over before the last. -/
inductive Steps (l : List Op5) : St → St → Prop
  | refl (s : St) : Steps l s s
  | step {s t : St} : s.ov = false → Steps l (stepS l s) t → Steps l s t
theorem Steps.trans {l : List Op5} {a b c : St} (h : Steps l a b) (k : Steps l b c) : Steps l a c := by
  induction h with
  | refl => exact k
  | step h0 _ ih => exact .step h0 (ih k)
theorem Steps.one {l : List Op5} {s : St} (h : s.ov = false) : Steps l s (stepS l s) := .step h (.refl _)
/-- A run that ends goes through what its steps reach. -/
theorem Steps.run {l : List Op5} {s t : St} (h : Steps l s t) (m : Nat) (hov : (runS l m s).1.ov = true) : ∃ m', m' ≤ m ∧ (runS l m s).1 = (runS l m' t).1 := by
  induction h generalizing m with
  | refl => exact ⟨m, Nat.le_refl _, rfl⟩
  | @step s t h0 _ ih =>
    cases m with
    | zero => simp only [runS] at hov; rw [h0] at hov; cases hov
    | succ m =>
      have e : (runS l (m + 1) s).1 = (runS l m (stepS l s)).1 := by simp only [runS]; rw [h0]; rfl
      rw [e] at hov ⊢
      obtain ⟨m', hm, he⟩ := ih m hov
      exact ⟨m', by omega, he⟩
theorem runS_done {l : List Op5} {s : St} (h : s.ov = true) (m : Nat) : (runS l m s).1 = s := by
  cases m with
  | zero => rfl
  | succ m => simp only [runS]; rw [h]; rfl
/-- Codes whose steps go side by side end alike. -/
theorem sim {l l' : List Op5} {R : St → St → Prop} (hR : ∀ s s', R s s' → Same s s')
    (hstep : ∀ s s', R s s' → s.ov = false → ∃ t', Steps l' s' t' ∧ (R (stepS l s) t' ∨ ((stepS l s).ov = true ∧ Same (stepS l s) t')))
    (n m : Nat) (s s' : St) (h : R s s') (h1 : (runS l n s).1.ov = true) (h2 : (runS l' m s').1.ov = true) : Same (runS l n s).1 (runS l' m s').1 := by
  induction n generalizing s s' m with
  | zero =>
    have h0 : s.ov = true := h1
    have hs := hR s s' h
    rw [runS_done (hs.2.2.2.symm.trans h0)]
    exact hs
  | succ n ih =>
    cases ho : s.ov
    · have e : (runS l (n + 1) s).1 = (runS l n (stepS l s)).1 := by simp only [runS]; rw [ho]; rfl
      rw [e] at h1 ⊢
      obtain ⟨t', ht, hRt | ⟨hov, hsm⟩⟩ := hstep s s' h ho
      · obtain ⟨m', hm, he⟩ := ht.run m h2
        rw [he] at h2 ⊢
        exact ih m' (stepS l s) t' hRt h1 h2
      · obtain ⟨m', hm, he⟩ := ht.run m h2
        rw [he, runS_done hov, runS_done (hsm.2.2.2.symm.trans hov)]
        exact hsm
    · have hs := hR s s' h
      rw [runS_done ho, runS_done (hs.2.2.2.symm.trans ho)]
      exact hs
end Go.Proofs.YtmnfgigieafehaaDoor
