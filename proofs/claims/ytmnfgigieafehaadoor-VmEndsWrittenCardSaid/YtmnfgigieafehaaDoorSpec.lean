/- The register machine as a plain Lean function on lists and numbers: the states, one step, a run. No Go and no memory in it. -/
import Derived.RowKit
namespace Go.Proofs.YtmnfgigieafehaaDoor
open Go.RowKit

structure Op5 where
  k : Int
  a : Int
  b : Int
  c : Int
  d : Int
  deriving DecidableEq

structure St where
  r : Nat → Int
  pc : Nat
  told : List Int
  cd : Int
  ov : Bool
  ws : List Int

def upd (r : Nat → Int) (i : Nat) (v : Int) : Nat → Int := fun j => if j = i then v else r j
def flagI (b : Bool) : Int := if b then 1 else 0
def quoI (a b : Int) (rest : Bool) : Int := if b = 0 then 0 else if rest then a.tmod b else wrap64 (a.tdiv b)

/-- The signs of a kind. -/
def signs (k : Int) : List Int :=
  if k = 1 then [114, 110, 45, 45] else if k = 2 then [114, 114, 45, 45]
  else if k = 3 ∨ k = 4 ∨ k = 5 ∨ k = 6 ∨ k = 7 ∨ k = 8 ∨ k = 9 then [114, 114, 114, 45]
  else if k = 10 then [112, 45, 45, 45] else if k = 11 ∨ k = 12 then [114, 112, 45, 45]
  else if k = 13 ∨ k = 14 then [114, 114, 110, 45] else if k = 15 then [114, 114, 110, 114]
  else if k = 16 then [114, 45, 45, 45] else [45, 45, 45, 45]
def fitsI (sign n size : Int) : Bool :=
  if sign = 114 then decide (0 ≤ n) && decide (n < 24) else if sign = 112 then decide (0 ≤ n) && decide (n ≤ size) else if sign = 45 then n == 0 else true
def fitsAll (size : Int) (o : Op5) : Bool :=
  fitsI ((signs o.k).getD 0 0) o.a size && (fitsI ((signs o.k).getD 1 0) o.b size && (fitsI ((signs o.k).getD 2 0) o.c size && fitsI ((signs o.k).getD 3 0) o.d size))
def okOp (size : Int) (o : Op5) : Bool := decide (1 ≤ o.k) && (decide (o.k ≤ 17) && fitsAll size o)
/-- May a code be? -/
def okCode (l : List Op5) : Bool := l.all (okOp l.length) && decide (l.length ≤ 200)

theorem ok_kind {n : Int} {o : Op5} (h : okOp n o = true) : 1 ≤ o.k ∧ o.k ≤ 17 := by
  simp only [okOp, Bool.and_eq_true, decide_eq_true_eq] at h; exact ⟨h.1, h.2.1⟩
theorem ok_set {n a b c d : Int} (h : okOp n ⟨1, a, b, c, d⟩ = true) : (0 ≤ a ∧ a < 24) ∧ c = 0 ∧ d = 0 := by
  simp [okOp, fitsAll, signs, fitsI] at h; exact ⟨h.1, h.2.1, h.2.2⟩
theorem ok_copy {n a b c d : Int} (h : okOp n ⟨2, a, b, c, d⟩ = true) : (0 ≤ a ∧ a < 24) ∧ (0 ≤ b ∧ b < 24) ∧ c = 0 ∧ d = 0 := by
  simp [okOp, fitsAll, signs, fitsI] at h; exact ⟨h.1, h.2.1, h.2.2.1, h.2.2.2⟩
theorem ok_three {n k a b c d : Int} (hk : k = 3 ∨ k = 4 ∨ k = 5 ∨ k = 6 ∨ k = 7 ∨ k = 8 ∨ k = 9) (h : okOp n ⟨k, a, b, c, d⟩ = true) : (0 ≤ a ∧ a < 24) ∧ (0 ≤ b ∧ b < 24) ∧ (0 ≤ c ∧ c < 24) ∧ d = 0 := by
  rcases hk with rfl | rfl | rfl | rfl | rfl | rfl | rfl <;> simp [okOp, fitsAll, signs, fitsI] at h <;> exact ⟨h.1, h.2.1, h.2.2.1, h.2.2.2⟩
theorem ok_jump {n a b c d : Int} (h : okOp n ⟨10, a, b, c, d⟩ = true) : (0 ≤ a ∧ a ≤ n) ∧ b = 0 ∧ c = 0 ∧ d = 0 := by
  simp [okOp, fitsAll, signs, fitsI] at h; exact ⟨h.1, h.2.1, h.2.2.1, h.2.2.2⟩
theorem ok_way {n k a b c d : Int} (hk : k = 11 ∨ k = 12) (h : okOp n ⟨k, a, b, c, d⟩ = true) : (0 ≤ a ∧ a < 24) ∧ (0 ≤ b ∧ b ≤ n) ∧ c = 0 ∧ d = 0 := by
  rcases hk with rfl | rfl <;> simp [okOp, fitsAll, signs, fitsI] at h <;> exact ⟨h.1, h.2.1, h.2.2.1, h.2.2.2⟩
theorem ok_mem {n k a b c d : Int} (hk : k = 13 ∨ k = 14) (h : okOp n ⟨k, a, b, c, d⟩ = true) : (0 ≤ a ∧ a < 24) ∧ (0 ≤ b ∧ b < 24) ∧ d = 0 := by
  rcases hk with rfl | rfl <;> simp [okOp, fitsAll, signs, fitsI] at h <;> exact ⟨h.1, h.2.1, h.2.2⟩
theorem ok_cas {n a b c d : Int} (h : okOp n ⟨15, a, b, c, d⟩ = true) : (0 ≤ a ∧ a < 24) ∧ (0 ≤ b ∧ b < 24) ∧ (0 ≤ d ∧ d < 24) := by
  simp [okOp, fitsAll, signs, fitsI] at h; exact ⟨h.1, h.2.1, h.2.2⟩
theorem ok_emit {n a b c d : Int} (h : okOp n ⟨16, a, b, c, d⟩ = true) : (0 ≤ a ∧ a < 24) ∧ b = 0 ∧ c = 0 ∧ d = 0 := by
  simp [okOp, fitsAll, signs, fitsI] at h; exact ⟨h.1, h.2.1, h.2.2.1, h.2.2.2⟩
theorem ok_done {n a b c d : Int} (h : okOp n ⟨17, a, b, c, d⟩ = true) : a = 0 ∧ b = 0 ∧ c = 0 ∧ d = 0 := by
  simp [okOp, fitsAll, signs, fitsI] at h; exact ⟨h.1, h.2.1, h.2.2.1, h.2.2.2⟩

def failS (s : St) (e : Int) : St := { s with cd := e, ov := true }

/-- What word does with the word at a place. -/
def wordS (o : Op5) (i : Nat) (s : St) : St :=
  if o.k = 13 then { s with r := upd s.r o.a.toNat (s.ws.getD i 0) }
  else if o.k = 14 then { s with ws := s.ws.set i (s.r o.a.toNat) }
  else if s.ws.getD i 0 = s.r o.d.toNat then { s with ws := s.ws.set i (s.r o.a.toNat), r := upd s.r o.a.toNat 1 }
  else { s with r := upd s.r o.a.toNat 0 }

/-- What other does. -/
def otherS (o : Op5) (s : St) : St :=
  if o.k = 10 then { s with pc := o.a.toNat }
  else if o.k = 11 then (if s.r o.a.toNat = 0 then s else { s with pc := o.b.toNat })
  else if o.k = 12 then (if s.r o.a.toNat = 0 then { s with pc := o.b.toNat } else s)
  else if o.k = 16 then (if s.told.length = 200 then failS s 8 else { s with told := s.told ++ [s.r o.a.toNat] })
  else if o.k = 17 then { s with ov := true }
  else
    if wrap64 (s.r o.b.toNat + o.c) < 0 ∨ (s.ws.length : Int) ≤ wrap64 (s.r o.b.toNat + o.c) then failS s 2
    else wordS o (wrap64 (s.r o.b.toNat + o.c)).toNat s

/-- One instruction, pc being behind it already. -/
def execS (o : Op5) (s : St) : St :=
  if o.k = 1 then { s with r := upd s.r o.a.toNat o.b }
  else if o.k = 2 then { s with r := upd s.r o.a.toNat (s.r o.b.toNat) }
  else if o.k = 3 then { s with r := upd s.r o.a.toNat (wrap64 (s.r o.b.toNat + s.r o.c.toNat)) }
  else if o.k = 4 then { s with r := upd s.r o.a.toNat (wrap64 (s.r o.b.toNat - s.r o.c.toNat)) }
  else if o.k = 5 then { s with r := upd s.r o.a.toNat (wrap64 (s.r o.b.toNat * s.r o.c.toNat)) }
  else if o.k = 6 then { s with r := upd s.r o.a.toNat (quoI (s.r o.b.toNat) (s.r o.c.toNat) false) }
  else if o.k = 7 then { s with r := upd s.r o.a.toNat (quoI (s.r o.b.toNat) (s.r o.c.toNat) true) }
  else if o.k = 8 then { s with r := upd s.r o.a.toNat (flagI (s.r o.b.toNat == s.r o.c.toNat)) }
  else if o.k = 9 then { s with r := upd s.r o.a.toNat (flagI (decide (s.r o.b.toNat < s.r o.c.toNat))) }
  else otherS o s

/-- The end of a step: over, where pc is behind the last. -/
def endS (n : Nat) (s : St) : St := { s with ov := s.ov || ((s.pc : Int) == (n : Int)) }
def opAt (l : List Op5) (i : Nat) : Op5 := l.getD i ⟨0, 0, 0, 0, 0⟩
def stepS (l : List Op5) (s : St) : St := endS l.length (execS (opAt l s.pc) { s with pc := s.pc + 1 })

/-- The state at a call's begin. -/
def argR (args : List Int) : Nat → Int := fun i => args.getD i 0
def beginS (l : List Op5) (args ws : List Int) : St := { r := argR args, pc := 0, told := [], cd := 0, ov := (l.length : Int) == 0, ws := ws }

/-- At most so many steps; and how many they were. -/
def runS (l : List Op5) : Nat → St → St × Nat
  | 0, s => (s, 0)
  | f + 1, s => if s.ov then (s, 0) else ((runS l f (stepS l s)).1, (runS l f (stepS l s)).2 + 1)

/-- What Run answers. -/
structure Ans where
  told : List Int
  ws : List Int
  steps : Nat
  e : Int
def runAns (l : List Op5) (args ws : List Int) (limit : Nat) : Ans :=
  let p := runS l limit (beginS l args ws)
  { told := p.1.told, ws := p.1.ws, steps := p.2, e := if p.1.ov then p.1.cd else 11 }
end Go.Proofs.YtmnfgigieafehaaDoor
