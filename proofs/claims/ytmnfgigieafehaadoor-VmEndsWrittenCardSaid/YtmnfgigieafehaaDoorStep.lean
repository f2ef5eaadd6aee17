/- The contract of vm's Step: one instruction does to the thread what 'stepS' says. Conditions: the thread lies as 'Inv' says, the code's cells as 'CodeAt' says, the call is not over, the instruction may be. -/
import Derived.Test.YtmnfgigieafehaaDoorStepA
import Derived.Test.YtmnfgigieafehaaDoorStepB
import Derived.Test.YtmnfgigieafehaaDoorStepC
import Derived.Test.YtmnfgigieafehaaDoorStepD
namespace Go.Proofs.YtmnfgigieafehaaDoor
open Go.RowKit
set_option maxRecDepth 100000
variable {T W B C : Nat} {cs wv : Value} {s : St}

theorem step_calls (l : List Op5) (w : World) (h : Inv w T W B cs wv s) (hc : CodeAt w cs C l) (hov : s.ov = false) (hpc : s.pc < l.length) (hok : okOp l.length (opAt l s.pc) = true) (hl : l.length ≤ 200)
    (hws : s.ws.length ≤ 200) (htold : s.told.length ≤ 200) :
    Calls Tryd.prog 47 #[.pointer (some ⟨T, 0, none⟩), wv] w fun e' w' => e' = .returned (.tuple #[]) ∧ Good w w' T W B cs wv (stepS l s) := by
  obtain ⟨tv, ht, ho⟩ := h.th
  obtain ⟨ca, cap, rfl, hca⟩ := hc.val
  obtain ⟨co, rfl, hcell⟩ := hca (by omega)
  obtain ⟨k0, k1, k2, k3, k4⟩ := hcell s.pc hpc
  have hov' := ht.c28
  rw [hov] at hov'
  have e0 : stepS l s = endS l.length (execS (opAt l s.pc) { s with pc := s.pc + 1 }) := rfl
  rw [e0]
  generalize opAt l s.pc = o at *
  have hC : C < w.heap.size := World.block_lt_of_cell? w _ k0
  have hkk := ok_kind hok
  by_cases hk10 : 10 ≤ o.k
  · have e1 : execS o { s with pc := s.pc + 1 } = otherS o { s with pc := s.pc + 1 } := by
      unfold execS
      rw [if_neg (by omega), if_neg (by omega), if_neg (by omega), if_neg (by omega), if_neg (by omega), if_neg (by omega), if_neg (by omega), if_neg (by omega), if_neg (by omega)]
    rw [e1]
    exact step_rest o s.pc w s _ h rfl hk10 hok hws htold h.lt hC (by omega) (by omega) hl hov' ht.c0 ht.c25 k0 k1 k2 k3 k4 ht.fr
  · obtain ⟨k, a, b, c, d⟩ := o
    dsimp only at hk10 hkk k0 k1 k2 k3 k4
    have : k = 1 ∨ k = 2 ∨ k = 3 ∨ k = 4 ∨ k = 5 ∨ k = 6 ∨ k = 7 ∨ k = 8 ∨ k = 9 := by omega
    rcases this with rfl | rfl | rfl | rfl | rfl | rfl | rfl | rfl | rfl
    · have hj := ok_set hok
      exact step_kind1 s.pc a b c d _ w _ hj.1.1 hj.1.2 h.lt hC (by omega) (by omega) hl hov' ht.c0 ht.c25 k0 k1 k2 k3 k4 ht.fr (ht.reg (i := a.toNat) (by omega))
        (((((Good.start h).setPc (s.pc + 1)).setReg (i := a.toNat) (by omega) _).alloc _).drew.drew) hov rfl
    · have hj := ok_copy hok
      exact step_kind2 s.pc a b c d _ _ w _ hj.1.1 hj.1.2 hj.2.1.1 hj.2.1.2 (ht.reg (i := b.toNat) (by omega)) h.lt hC (by omega) (by omega) hl hov' ht.c0 ht.c25 k0 k1 k2 k3 k4 ht.fr (ht.reg (i := a.toNat) (by omega))
        (((((Good.start h).setPc (s.pc + 1)).setReg (i := a.toNat) (by omega) _).alloc _).drew.drew) hov rfl
    · have hj := ok_three (by omega) hok
      exact step_kind3 s.pc a b c d _ _ _ w _ hj.1.1 hj.1.2 hj.2.1.1 hj.2.1.2 (ht.reg (i := b.toNat) (by omega)) hj.2.2.1.1 hj.2.2.1.2 (ht.reg (i := c.toNat) (by omega)) h.lt hC (by omega) (by omega) hl hov' ht.c0 ht.c25 k0 k1 k2 k3 k4 ht.fr (ht.reg (i := a.toNat) (by omega))
        (((((Good.start h).setPc (s.pc + 1)).setReg (i := a.toNat) (by omega) _).alloc _).drew.drew) hov rfl
    · have hj := ok_three (by omega) hok
      exact step_kind4 s.pc a b c d _ _ _ w _ hj.1.1 hj.1.2 hj.2.1.1 hj.2.1.2 (ht.reg (i := b.toNat) (by omega)) hj.2.2.1.1 hj.2.2.1.2 (ht.reg (i := c.toNat) (by omega)) h.lt hC (by omega) (by omega) hl hov' ht.c0 ht.c25 k0 k1 k2 k3 k4 ht.fr (ht.reg (i := a.toNat) (by omega))
        (((((Good.start h).setPc (s.pc + 1)).setReg (i := a.toNat) (by omega) _).alloc _).drew.drew) hov rfl
    · have hj := ok_three (by omega) hok
      exact step_kind5 s.pc a b c d _ _ _ w _ hj.1.1 hj.1.2 hj.2.1.1 hj.2.1.2 (ht.reg (i := b.toNat) (by omega)) hj.2.2.1.1 hj.2.2.1.2 (ht.reg (i := c.toNat) (by omega)) h.lt hC (by omega) (by omega) hl hov' ht.c0 ht.c25 k0 k1 k2 k3 k4 ht.fr (ht.reg (i := a.toNat) (by omega))
        (((((Good.start h).setPc (s.pc + 1)).setReg (i := a.toNat) (by omega) _).alloc _).drew.drew) hov rfl
    · have hj := ok_three (by omega) hok
      exact step_kind6 s.pc a b c d _ _ _ w _ hj.1.1 hj.1.2 hj.2.1.1 hj.2.1.2 (ht.reg (i := b.toNat) (by omega)) hj.2.2.1.1 hj.2.2.1.2 (ht.reg (i := c.toNat) (by omega)) h.lt hC (by omega) (by omega) hl hov' ht.c0 ht.c25 k0 k1 k2 k3 k4 ht.fr (ht.reg (i := a.toNat) (by omega))
        (((((Good.start h).setPc (s.pc + 1)).setReg (i := a.toNat) (by omega) _).alloc _).drew.drew) hov rfl
    · have hj := ok_three (by omega) hok
      exact step_kind7 s.pc a b c d _ _ _ w _ hj.1.1 hj.1.2 hj.2.1.1 hj.2.1.2 (ht.reg (i := b.toNat) (by omega)) hj.2.2.1.1 hj.2.2.1.2 (ht.reg (i := c.toNat) (by omega)) h.lt hC (by omega) (by omega) hl hov' ht.c0 ht.c25 k0 k1 k2 k3 k4 ht.fr (ht.reg (i := a.toNat) (by omega))
        (((((Good.start h).setPc (s.pc + 1)).setReg (i := a.toNat) (by omega) _).alloc _).drew.drew) hov rfl
    · have hj := ok_three (by omega) hok
      exact step_kind8 s.pc a b c d _ _ _ w _ hj.1.1 hj.1.2 hj.2.1.1 hj.2.1.2 (ht.reg (i := b.toNat) (by omega)) hj.2.2.1.1 hj.2.2.1.2 (ht.reg (i := c.toNat) (by omega)) h.lt hC (by omega) (by omega) hl hov' ht.c0 ht.c25 k0 k1 k2 k3 k4 ht.fr (ht.reg (i := a.toNat) (by omega))
        (((((Good.start h).setPc (s.pc + 1)).setReg (i := a.toNat) (by omega) _).alloc _).drew.drew) hov rfl
    · have hj := ok_three (by omega) hok
      exact step_kind9 s.pc a b c d _ _ _ w _ hj.1.1 hj.1.2 hj.2.1.1 hj.2.1.2 (ht.reg (i := b.toNat) (by omega)) hj.2.2.1.1 hj.2.2.1.2 (ht.reg (i := c.toNat) (by omega)) h.lt hC (by omega) (by omega) hl hov' ht.c0 ht.c25 k0 k1 k2 k3 k4 ht.fr (ht.reg (i := a.toNat) (by omega))
        (((((Good.start h).setPc (s.pc + 1)).setReg (i := a.toNat) (by omega) _).alloc _).drew.drew) hov rfl
end Go.Proofs.YtmnfgigieafehaaDoor
