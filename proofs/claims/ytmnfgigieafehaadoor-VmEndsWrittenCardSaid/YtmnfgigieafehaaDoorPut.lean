/- The walk of wPut: other instructions in the place of one. Conditions: the slices' cells hold what is said; targets are small. -/
import Derived.Test.YtmnfgigieafehaaDoorFree
import Derived.Test.YtmnfgigieafehaaDoorConcat
import Derived.Deep.RegionHeld3
namespace Go.Proofs.YtmnfgigieafehaaDoor
open Go.RowKit
set_option maxRecDepth 100000

/-- Where an instruction goes, if it goes anywhere. -/
def tgtOf (o : Op5) : Option Int := if o.k = 10 then some o.a else if o.k = 11 ∨ o.k = 12 then some o.b else none
def setT (o : Op5) (t : Int) : Op5 := if o.k = 10 then { o with a := t } else if o.k = 11 ∨ o.k = 12 then { o with b := t } else o
def ownI (o : Op5) : Int := (tgtOf o).getD (-1)
def shiftC (k more : Nat) (o : Op5) : Op5 := match tgtOf o with
  | some t => if (k : Int) < t then setT o (t + more) else o
  | none => o
def shiftB (k more : Nat) (own : Int) (o : Op5) : Op5 := match tgtOf o with
  | some t => if t = own ∧ (k : Int) < own then setT o (t + more) else o
  | none => o
/-- The code with others in the place of one. -/
def putL (l : List Op5) (k : Nat) (bl : List Op5) : List Op5 :=
  (l.map (shiftC k (bl.length - 1))).take k ++ (bl.map (shiftB k (bl.length - 1) (ownI (opAt l k))) ++ (l.map (shiftC k (bl.length - 1))).drop (k + 1))

def mixL (f : Op5 → Op5) (l : List Op5) (k : Nat) : List Op5 := (l.map f).take k ++ l.drop k
theorem mixL_length (f : Op5 → Op5) (l : List Op5) (k : Nat) : (mixL f l k).length = l.length := by
  simp only [mixL, List.length_append, List.length_take, List.length_map, List.length_drop]; omega
theorem mixL_zero (f : Op5 → Op5) (l : List Op5) : mixL f l 0 = l := by simp [mixL]
theorem mixL_all (f : Op5 → Op5) (l : List Op5) : mixL f l l.length = l.map f := by simp [mixL, ← List.map_take]
theorem mixL_get (f : Op5 → Op5) {l : List Op5} {k : Nat} (hk : k < l.length) : opAt (mixL f l k) k = opAt l k := by
  unfold opAt mixL
  rw [List.getD, List.getElem?_append_right (by simp; omega)]
  simp [List.getD, Nat.min_eq_left (Nat.le_of_lt hk)]
theorem mixL_succ (f : Op5 → Op5) {l : List Op5} {k : Nat} (hk : k < l.length) : mixL f l (k + 1) = (mixL f l k).set k (f (opAt l k)) := by
  unfold mixL
  rw [List.set_append_right _ _ (by simp; omega), List.take_add_one, List.append_assoc]
  congr 1
  rw [List.length_take, List.length_map, Nat.min_eq_left (Nat.le_of_lt hk), Nat.sub_self]
  simp only [List.getElem?_map, List.getElem?_eq_getElem hk, Option.map_some, Option.toList_some, opAt_eq hk, List.singleton_append]
  rw [List.drop_eq_getElem_cons hk]
  rfl
theorem mixL_same (f : Op5 → Op5) {l : List Op5} {k : Nat} (hk : k < l.length) (h : f (opAt l k) = opAt l k) : mixL f l (k + 1) = mixL f l k := by
  rw [mixL_succ f hk, h, ← mixL_get f hk, opAt_eq (by rw [mixL_length]; exact hk)]
  exact List.set_getElem_self _
theorem opsV_set {l : List Op5} {i j : Nat} (hi : i < l.length) (hj : tgtOff (opAt l i).k = some j) (t : Int) : (opsV l).set (i * 5 + j) (.int .i64 t) = opsV (l.set i (setT (opAt l i) t)) := by
  induction l generalizing i with
  | nil => simp at hi
  | cons o l ih =>
    have e : opsV (o :: l) = opV o ++ opsV l := rfl
    cases i with
    | zero =>
      rw [e]
      simp only [opAt, List.getD_cons_zero] at hj ⊢
      simp only [List.set_cons_zero, Nat.zero_mul, Nat.zero_add]
      rw [show opsV (setT o t :: l) = opV (setT o t) ++ opsV l from rfl]
      unfold tgtOff at hj
      unfold setT
      by_cases h1 : o.k = 10
      · rw [if_pos h1] at hj ⊢
        cases hj
        simp [opV]
      · rw [if_neg h1] at hj ⊢
        by_cases h2 : o.k = 11 ∨ o.k = 12
        · rw [if_pos h2] at hj ⊢
          cases hj
          simp [opV]
        · rw [if_neg h2] at hj
          cases hj
    | succ i =>
      have h := ih (i := i) (by simpa using hi) (by simpa [opAt] using hj)
      rw [e, List.set_append_right _ _ (by simp [opV]; omega)]
      rw [show (i + 1) * 5 + j - (opV o).length = i * 5 + j by simp [opV]; omega, h]
      simp [opAt, opsV]

/-- A row of cells from a block's head on. -/
def CellsAt (w : World) (C : Nat) (xs : List Value) : Prop := ∀ j u, xs[j]? = some u → w.cell? ⟨C, j, none⟩ = some u
theorem CellsAt.set {w : World} {C : Nat} {xs : List Value} (h : CellsAt w C xs) (j : Nat) (v : Value) : CellsAt (w.setCell ⟨C, j, none⟩ v) C (xs.set j v) := by
  intro i u hu
  by_cases hij : j = i
  · subst hij
    rw [List.getElem?_set_self'] at hu
    cases hx : xs[j]? with
    | none => rw [hx] at hu; cases hu
    | some y =>
      rw [hx] at hu
      cases hu
      exact World.cell?_setCell_same _ _ _ (h j y hx)
  · rw [List.getElem?_set_ne hij] at hu
    rw [World.cell?_setCell_other _ _ _ _ (by intro e; exact hij (by injection e))]
    exact h i u hu
theorem CellsAt.kept {w w' : World} {C : Nat} {xs : List Value} {S : Nat → Prop} (h : CellsAt w C xs) (hk : Kept S w w') (hS : ¬ S C) : CellsAt w' C xs := fun j u hu => hk.cell (h j u hu) hS
theorem CellsAt.op {w : World} {C : Nat} {l : List Op5} (h : CellsAt w C (opsV l)) {i : Nat} (hi : i < l.length) : w.cell? ⟨C, i * 5, none⟩ = some (.int .i64 (opAt l i).k) ∧
    ((tgtOff (opAt l i).k = none ∧ tgtOf (opAt l i) = none) ∨ ∃ j T, tgtOff (opAt l i).k = some j ∧ tgtOf (opAt l i) = some T ∧ w.cell? ⟨C, i * 5 + j, none⟩ = some (.int .i64 T)) := by
  obtain ⟨h0, h1, h2, _, _⟩ := get_opsV hi
  refine ⟨h _ _ h0, ?_⟩
  unfold tgtOff tgtOf
  by_cases e1 : (opAt l i).k = 10
  · exact .inr ⟨1, (opAt l i).a, by rw [if_pos e1], by rw [if_pos e1], h _ _ h1⟩
  · rw [if_neg e1, if_neg e1]
    by_cases e2 : (opAt l i).k = 11 ∨ (opAt l i).k = 12
    · exact .inr ⟨2, (opAt l i).b, by rw [if_pos e2], by rw [if_pos e2], h _ _ h2⟩
    · exact .inl ⟨by rw [if_neg e2], by rw [if_neg e2]⟩

/-- A row with an element lies in a block. -/
theorem own_row {w : World} {base n size : Nat} {e : TypeId} {v : Value} {xs : List Value} (hn : 0 < n) (h : w.ownsRow base e size v n xs) : ∃ g c, v = .slice (some ⟨g, 0, none⟩) n c ∧ base ≤ g ∧ g < w.heap.size ∧ n ≤ c ∧ c ≤ maxLen := by
  rcases h.2 with ⟨_, h0⟩ | ⟨g, cap, cur, hv, hb, hg, hle, hmx, _⟩
  · omega
  · exact ⟨g, cap, hv, hb, (Array.getElem?_eq_some_iff.1 hg).1, hle, hmx⟩
theorem opsV_append (a b : List Op5) : opsV (a ++ b) = opsV a ++ opsV b := by simp [opsV]
theorem opsV_cons (o : Op5) (l : List Op5) : opsV (o :: l) = .int .i64 o.k :: .int .i64 o.a :: .int .i64 o.b :: .int .i64 o.c :: .int .i64 o.d :: opsV l := rfl
theorem opsV_take (l : List Op5) (k : Nat) : opsV (l.take k) = (opsV l).take (k * 5) := by
  induction l generalizing k with
  | nil => simp [opsV]
  | cons o l ih =>
    cases k with
    | zero => simp [opsV]
    | succ k =>
      rw [List.take_succ_cons, opsV_cons, opsV_cons, ih k, show (k + 1) * 5 = k * 5 + 1 + 1 + 1 + 1 + 1 by omega]
      simp only [List.take_succ_cons]
theorem opsV_drop (l : List Op5) (k : Nat) : opsV (l.drop k) = (opsV l).drop (k * 5) := by
  induction l generalizing k with
  | nil => simp [opsV]
  | cons o l ih =>
    cases k with
    | zero => simp
    | succ k =>
      rw [List.drop_succ_cons, ih k, opsV_cons, show (k + 1) * 5 = k * 5 + 1 + 1 + 1 + 1 + 1 by omega]
      simp only [List.drop_succ_cons]
theorem size28 (w : World) : (sizeOf (Tryd.prog.elem 22)).run Tryd.prog w = .ok 5 w := by kernel_rfl
theorem cut_low (C n q k : Nat) (h : k ≤ q) (w : World) : (Instr.slice 22 (.slice (some ⟨C, 0, none⟩) n q) none (some (.int .i64 k)) none).run Tryd.prog w = .ok (.slice (some ⟨C, 0, none⟩) k q) w := by
  have h1 : (0 : Int) ≤ k := by omega
  have h2 : (k : Int) ≤ q := by omega
  rw [run_slice_h w 22 _ n q (by kernel_rfl) .i64 k h1 h2, size28]
  simp [sliced, Result.andThen, Addr.add]
def hiAd (C q k : Nat) : Addr := if q = k then ⟨C, 0, none⟩ else ⟨C, k * 5, none⟩
theorem cut_high (C n q k : Nat) (h : k ≤ n) (w : World) : (Instr.slice 22 (.slice (some ⟨C, 0, none⟩) n q) (some (.int .i64 k)) none none).run Tryd.prog w = .ok (.slice (some (hiAd C q k)) (n - k) (q - k)) w := by
  rw [run_slice_l w 22 _ n q (by kernel_rfl) .i64 k (by omega) (by omega), size28]
  simp only [sliced, Result.andThen, hiAd, Int.toNat_natCast]
  by_cases hq : q = k <;> simp [hq, Addr.add]
  omega
/-- What the loops of wPut hold of a row. -/
structure RowL (wb wr : World) (C : Nat) (f : Op5 → Op5) (l : List Op5) (k : Nat) : Prop where
  cells : CellsAt wr C (opsV (mixL f l k))
  fr : ∀ i, wr.frozen? ⟨C, i, none⟩ = false
  kept : Kept (fun b => b = C) wb wr
theorem RowL.start {wb : World} {base : Nat} {C cap : Nat} {l : List Op5} (f : Op5 → Op5) (h : wb.ownsRow base 28 5 (.slice (some ⟨C, 0, none⟩) l.length cap) l.length (opsV l)) : RowL wb wb C f l 0 := by
  refine ⟨fun j u hu => ?_, fun i => ?_, Kept.refl _ _⟩
  · rw [mixL_zero] at hu
    have := h.cells (g := C) rfl j u hu
    have hadd : (⟨C, 0, none⟩ : Addr).add j = ⟨C, j, none⟩ := by unfold Addr.add; split <;> simp_all
    rw [hadd] at this; exact this
  · rcases h.2 with ⟨hv, _⟩ | ⟨g, cap, cur, hv, hb, hg, r⟩
    · cases hv
    · cases hv; exact frozen_of_heap hg
theorem RowL.same {wb wr : World} {C : Nat} {f : Op5 → Op5} {l : List Op5} {k : Nat} (h : RowL wb wr C f l k) (hk : k < l.length) (hf : f (opAt l k) = opAt l k) : RowL wb wr C f l (k + 1) :=
  ⟨by rw [mixL_same f hk hf]; exact h.cells, h.fr, h.kept⟩
theorem RowL.set {wb wr : World} {C : Nat} {f : Op5 → Op5} {l : List Op5} {k : Nat} (h : RowL wb wr C f l k) (hk : k < l.length) {j : Nat} {T : Int} (hj : tgtOff (opAt l k).k = some j) (hf : f (opAt l k) = setT (opAt l k) T) :
    RowL wb (wr.setCell ⟨C, k * 5 + j, none⟩ (.int .i64 T)) C f l (k + 1) := by
  refine ⟨?_, fun i => by rw [World.frozen?_setCell]; exact h.fr i, h.kept.setCell (fun _ => rfl) _⟩
  rw [mixL_succ f hk, hf, ← mixL_get f hk, ← opsV_set (by rw [mixL_length]; exact hk) (by rw [mixL_get f hk]; exact hj)]
  exact h.cells.set _ _
theorem RowL.op {wb wr : World} {C : Nat} {f : Op5 → Op5} {l : List Op5} {k : Nat} (h : RowL wb wr C f l k) (hk : k < l.length) : wr.cell? ⟨C, k * 5, none⟩ = some (.int .i64 (opAt l k).k) ∧
    ((tgtOff (opAt l k).k = none ∧ tgtOf (opAt l k) = none) ∨ ∃ j T, tgtOff (opAt l k).k = some j ∧ tgtOf (opAt l k) = some T ∧ wr.cell? ⟨C, k * 5 + j, none⟩ = some (.int .i64 T)) := by
  have := h.cells.op (i := k) (by rw [mixL_length]; exact hk)
  rw [mixL_get f hk] at this
  exact this

theorem own_base {w : World} {base b2 : Nat} {e : TypeId} {size n : Nat} {v : Value} {xs : List Value} (h : w.ownsRow base e size v n xs) (hb : b2 ≤ base) : w.ownsRow b2 e size v n xs := by
  refine ⟨h.1, ?_⟩
  rcases h.2 with hn | ⟨g, cap, cur, hv, hg, rest⟩
  · exact .inl hn
  · exact .inr ⟨g, cap, cur, hv, Nat.le_trans hb hg, rest⟩
def pAd (C B q k : Nat) (j : Nat) : Addr := if j = 0 then ⟨C, 0, none⟩ else if j = 1 then ⟨B, 0, none⟩ else hiAd C q (k + 1)
def pN (n m k : Nat) (j : Nat) : Nat := if j = 0 then k else if j = 1 then m else n - (k + 1)
def pC (q1 q2 k : Nat) (j : Nat) : Nat := if j = 0 then q1 else if j = 1 then q2 else q1 - (k + 1)
def pX (lc bl : List Op5) (k : Nat) (j : Nat) : List Value := if j = 0 then opsV (lc.take k) else if j = 1 then opsV bl else opsV (lc.drop (k + 1))
/-- The last step of wPut. -/
theorem put_concat (C B n m k q1 q2 : Nat) (lc bl : List Op5) (w : World) (hn : lc.length = n) (hm : bl.length = m) (hk : k < n) (hq : n ≤ q1) (hm1 : 0 < m) (hle : n + m ≤ 300)
    (cc : CellsAt w C (opsV lc)) (cb : CellsAt w B (opsV bl)) :
    Calls Tryd.prog 51 #[.slice (some ⟨w.heap.size, 0, none⟩) 3 3]
      (w.alloc (.cells #[.slice (some ⟨C, 0, none⟩) k q1, .slice (some ⟨B, 0, none⟩) m q2, .slice (some (hiAd C q1 (k + 1))) (n - (k + 1)) (q1 - (k + 1))] 22)).drew
      fun e w' => ∃ v, e = .returned v ∧ w'.ownsRow w.heap.size 28 5 v (lc.take k ++ (bl ++ lc.drop (k + 1))).length (opsV (lc.take k ++ (bl ++ lc.drop (k + 1)))) ∧ Kept NoB w w' := by
  have kz := (Kept.alloc1 w (.cells #[.slice (some ⟨C, 0, none⟩) k q1, .slice (some ⟨B, 0, none⟩) m q2, .slice (some (hiAd C q1 (k + 1))) (n - (k + 1)) (q1 - (k + 1))] 22)).drew
  have h3 : ∀ j, j < 3 → j = 0 ∨ j = 1 ∨ j = 2 := fun j hj => by omega
  have es : sumN (pN n m k) 3 = n + m - 1 := by simp [sumN, pN]; omega
  have add0 : ∀ (b i : Nat), (⟨b, 0, none⟩ : Addr).add i = ⟨b, i, none⟩ := fun b i => by unfold Addr.add; split <;> simp_all
  have addn : ∀ (b o i : Nat), (⟨b, o, none⟩ : Addr).add i = ⟨b, o + i, none⟩ := fun b o i => by unfold Addr.add; split <;> simp_all
  refine (concat_calls w.heap.size 3 (pAd C B q1 k) (pN n m k) (pC q1 q2 k) (pX lc bl k) _ ?_ ?_ ?_ ?_ ?_ ?_ (by decide)).mono ?_
  · intro j hj
    rcases h3 j hj with rfl | rfl | rfl <;> simp [pAd, pN, pC, World.cell?_drew, World.cell?_alloc_new]
  · intro j hj
    rcases h3 j hj with rfl | rfl | rfl <;> simp [pN, pX, length_opsV, hn, hm]
    · omega
  · intro j hj
    rcases h3 j hj with rfl | rfl | rfl <;> simp only [pX] <;> exact one_opsV _
  · intro j hj i u hu
    rcases h3 j hj with rfl | rfl | rfl
    · simp only [pX, if_pos] at hu
      simp only [pAd, if_pos, add0]
      rw [opsV_take, List.getElem?_take] at hu
      split at hu
      · exact kz.cell (cc i u hu) id
      · cases hu
    · show World.cell? _ ((⟨B, 0, none⟩ : Addr).add i) = some u
      rw [add0]
      exact kz.cell (cb i u hu) id
    · have hu2 : (opsV (lc.drop (k + 1)))[i]? = some u := hu
      have hlen := (List.getElem?_eq_some_iff.1 hu2).1
      rw [length_opsV, List.length_drop, hn] at hlen
      have hne : ¬ q1 = k + 1 := by omega
      have : hiAd C q1 (k + 1) = ⟨C, (k + 1) * 5, none⟩ := if_neg hne
      have hcell : ∀ wz : World, wz.cell? ⟨C, (k + 1) * 5 + i, none⟩ = some u → wz.cell? ((hiAd C q1 (k + 1)).add i) = some u := fun wz h => by rw [this, addn]; exact h
      refine hcell _ ?_
      rw [opsV_drop, List.getElem?_drop] at hu2
      exact kz.cell (cc _ u hu2) id
  · show 0 < sumN _ 3
    rw [es]; omega
  · show sumN _ 3 ≤ 400
    rw [es]; omega
  · rintro e w' ⟨v, rfl, ho, hkk⟩
    refine ⟨v, rfl, ?_, kz.trans hkk⟩
    have ho2 := own_base ho kz.size
    rw [es] at ho2
    have e1 : catX (pX lc bl k) 3 = opsV (lc.take k ++ (bl ++ lc.drop (k + 1))) := by simp [catX, pX, opsV_append]
    have e2 : (lc.take k ++ (bl ++ lc.drop (k + 1))).length = n + m - 1 := by simp [hn, hm]; omega
    rw [e2, ← e1]
    exact ho2

set_option maxHeartbeats 2000000 in
theorem put_walk (C co cc B bo bc n m k : Nat) (l bl : List Op5) (w : World) (hn : Hid (n = l.length)) (hm : Hid (m = bl.length)) (hk : k < n) (hn2 : n ≤ 200) (hm1 : 0 < m) (hm2 : m ≤ 8)
    (ho : Hid (OpsAt w (.slice (some ⟨C, co, none⟩) n cc) C l)) (hb : Hid (OpsAt w (.slice (some ⟨B, bo, none⟩) m bc) B bl))
    (hc : Hid (∀ i, i < n → w.cell? ⟨C, co + i * 5, none⟩ = some (.int .i64 (opAt l i).k))) (hown : Hid (∀ j T, tgtOff (opAt l k).k = some j → tgtOf (opAt l k) = some T → w.cell? ⟨C, co + k * 5 + j, none⟩ = some (.int .i64 T)))
    (hoff : Hid (tgtOff (opAt l k).k = none ↔ tgtOf (opAt l k) = none))
    (ht : Hid (∀ i, i < n → ∀ T, tgtOf (opAt l i) = some T → 0 ≤ T ∧ T ≤ 200)) :
    Calls Tryd.prog 43 #[.slice (some ⟨C, co, none⟩) n cc, .int .i64 k, .slice (some ⟨B, bo, none⟩) m bc] w fun e w' =>
      ∃ v, e = .returned v ∧ w'.ownsRow w.heap.size 28 5 v (putL l k bl).length (opsV (putL l k bl)) ∧ Kept NoB w w' := by
  have c0 := hc.out k hk
  have hCw := World.block_lt_of_cell? w _ c0
  obtain ⟨own, hownI⟩ : ∃ own, own = ownI (opAt l k) := ⟨_, rfl⟩
  have Hown := Lib.hid hownI
  clear hownI
  go_enter Tryd.func43, Tryd.ntmps43
  go_wp2_with fail
  refine (target_calls C (co + k * 5) _ w c0).mono ?_
  rintro e' w' ⟨rfl, rfl⟩
  have hP : (((tgtOff (opAt l k).k).map fun j => (⟨C, co + k * 5 + j, none⟩ : Addr)) = none ∧ own = -1) ∨ ∃ j, ((tgtOff (opAt l k).k).map fun j => (⟨C, co + k * 5 + j, none⟩ : Addr)) = some ⟨C, co + k * 5 + j, none⟩ ∧ w.cell? ⟨C, co + k * 5 + j, none⟩ = some (.int .i64 own) := by
    cases hto : tgtOff (opAt l k).k with
    | none => exact .inl ⟨rfl, by rw [Hown.out, ownI, hoff.out.1 hto]; rfl⟩
    | some j =>
      cases htf : tgtOf (opAt l k) with
      | none => rw [hoff.out.2 htf] at hto; cases hto
      | some T => exact .inr ⟨j, rfl, by rw [Hown.out, ownI, htf]; exact hown.out j T hto htf⟩
  revert hP
  generalize ((tgtOff (opAt l k).k).map fun j => (⟨C, co + k * 5 + j, none⟩ : Addr)) = P
  intro hP
  go_upto_if 22 with fail
  go_cut [8] (fun v wx => v = .int .i64 own ∧ wx = w)
  case first =>
    rcases hP with ⟨rfl, hO⟩ | ⟨j, rfl, cT⟩
    · have HO := Lib.hid hO
      clear hO
      go_wp2_with fail
      go_meet
      exact ⟨by rw [HO.out], rfl⟩
    · go_wp2_with fail
      go_meet
      exact ⟨rfl, rfl⟩
  case rest =>
    obtain ⟨rfl, hw⟩ := hcut
    have hw2 := hw.symm
    clear hw
    subst hw2
    have hownr : -1 ≤ own ∧ own ≤ 200 := by
      rw [Hown.out, ownI]
      cases htf : tgtOf (opAt l k) with
      | none => exact ⟨by decide, by decide⟩
      | some T => have := ht.out k hk T htf; exact ⟨by simp; omega, by simp; omega⟩
    go_wp2_with fail
    refine (cloneOps_calls ho.out (one_opsV l) (by rw [← hn.out]; omega)).mono ?_
    rintro e' w1 ⟨cv, rfl, ho1, k1⟩
    have Ho1 := Lib.hid ho1
    have K1 := Lib.hid k1
    clear ho1 k1
    go_wp2_with fail
    refine (cloneOps_calls (hb.out.kept K1.out (fun _ f => f)) (one_opsV bl) (by rw [← hm.out]; omega)).mono ?_
    rintro e' w2 ⟨bv, rfl, hb2, k2⟩
    have Hb2 := Lib.hid hb2
    have K2 := Lib.hid k2
    clear hb2 k2
    have K02 : Hid (Kept NoB w w2) := K1.out.trans K2.out
    have Ho2 : Hid (w2.ownsRow w.heap.size 28 5 cv n (opsV l)) := by
      rw [hn.out]
      exact K2.out.row Ho1.out (fun _ _ f => f)
    rw [← hm.out] at Hb2
    obtain ⟨C1, q1, rfl, g1, g1', g3, g4⟩ := own_row (by omega) Ho2.out
    obtain ⟨B1, q2, rfl, g2, g2', g5, g6⟩ := own_row hm1 Hb2.out
    have hne : C1 ≠ B1 := by
      have := (Ho1.out.lt C1 rfl).2
      omega
    have R0 : Hid (RowL w2 w2 C1 (shiftC k (m - 1)) l 0) := RowL.start (cap := q1) _ (by have := Ho2.out; rw [hn.out] at this; exact this)
    go_wp2_with fail
    go_loopw [32] (fun i wr => ∃ j : Nat, j ≤ n ∧ i = .int .i64 j ∧ RowL w2 wr C1 (shiftC k (m - 1)) l j) (fun i _ => n - (intOf i).toNat)
    case atStart => exact ⟨0, by omega, rfl, R0.out⟩
    case round =>
      obtain ⟨j, hj, rfl, hR⟩ := hrel
      have HR := Lib.hid hR
      clear hR
      by_cases hlt : j < n
      · obtain ⟨d0, hd⟩ := HR.out.op (show j < l.length by rw [← hn.out]; exact hlt)
        have hCr := World.block_lt_of_cell? wr _ d0
        go_wp2_with fail
        refine (target_calls C1 (j * 5) _ wr d0).mono ?_
        rintro e' w' ⟨rfl, rfl⟩
        have HD := Lib.hid hd
        have hfr := HR.out.fr
        have hfn : tgtOf (opAt l j) = none → shiftC k (m - 1) (opAt l j) = opAt l j := fun h => by unfold shiftC; rw [h]
        have hfl : ∀ T, tgtOf (opAt l j) = some T → ¬ (k : Int) < T → shiftC k (m - 1) (opAt l j) = opAt l j := fun T h h2 => by unfold shiftC; rw [h]; exact if_neg h2
        have hfs : ∀ T, tgtOf (opAt l j) = some T → (k : Int) < T → shiftC k (m - 1) (opAt l j) = setT (opAt l j) (T + (m - 1 : Nat)) := fun T h h2 => by unfold shiftC; rw [h]; exact if_pos h2
        have HFn := Lib.hid hfn
        have HFl := Lib.hid hfl
        have HFs := Lib.hid hfs
        have HFr := Lib.hid hfr
        clear hfn hfl hfs hfr hd
        rcases HD.out with ⟨e1, e2⟩ | ⟨i, T, e1, e2, cT⟩
        · rw [e1]
          have HE := Lib.hid e2
          clear e1 e2 HD
          go_wp2_with fail
          go_roundw
          case rel => exact ⟨j + 1, by omega, by go_num, HR.out.same (by rw [← hn.out]; exact hlt) (HFn.out HE.out)⟩
          case measure => simp only [intOf]; omega
        · rw [e1]
          have hT := ht.out j hlt T e2
          have HE := Lib.hid e2
          have HE1 := Lib.hid e1
          clear e1 e2 HD
          by_cases hkT : (k : Int) < T
          · have fT := HFr.out (j * 5 + i)
            go_wp2_with fail
            go_roundw
            case rel => exact ⟨j + 1, by omega, by go_num, by
              have := HR.out.set (by rw [← hn.out]; exact hlt) HE1.out (HFs.out T HE.out hkT)
              rw [show ((m - 1 : Nat) : Int) = (m : Int) - 1 by omega] at this
              exact this⟩
            case measure => simp only [intOf]; omega
          · go_wp2_with fail
            go_roundw
            case rel => exact ⟨j + 1, by omega, by go_num, HR.out.same (by rw [← hn.out]; exact hlt) (HFl.out T HE.out hkT)⟩
            case measure => simp only [intOf]; omega
      · have hjn : n = j := by omega
        subst hjn
        clear hlt
        have K3 : Hid (Kept (fun b => b = C1) w2 wr) := HR.out.kept
        have R1 : Hid (RowL wr wr B1 (shiftB k (m - 1) own) bl 0) := by
          have h := K3.out.row Hb2.out (fun b hb e => by cases hb; exact hne e.symm)
          rw [hm.out] at h
          exact RowL.start _ h
        rename World => w3
        as_aux_lemma =>
        go_wp2_with fail
        go_loopw [57] (fun i wq => ∃ j : Nat, j ≤ m ∧ i = .int .i64 j ∧ RowL w3 wq B1 (shiftB k (m - 1) own) bl j) (fun i _ => m - (intOf i).toNat)
        case atStart => exact ⟨0, by omega, rfl, R1.out⟩
        case round =>
          obtain ⟨j, hj, rfl, hR1⟩ := hrel
          have HR1 := Lib.hid hR1
          clear hR1
          by_cases hlt : j < m
          · obtain ⟨d0, hd⟩ := HR1.out.op (show j < bl.length by rw [← hm.out]; exact hlt)
            have hCr := World.block_lt_of_cell? wr _ d0
            have HD := Lib.hid hd
            clear hd
            go_wp2_with fail
            refine (target_calls B1 (j * 5) _ wr d0).mono ?_
            rintro e' w' ⟨rfl, rfl⟩
            have hfr := HR1.out.fr
            have hfn : tgtOf (opAt bl j) = none → shiftB k (m - 1) own (opAt bl j) = opAt bl j := fun h => by unfold shiftB; rw [h]
            have hfl : ∀ T, tgtOf (opAt bl j) = some T → ¬ (T = own ∧ (k : Int) < own) → shiftB k (m - 1) own (opAt bl j) = opAt bl j := fun T h h2 => by unfold shiftB; rw [h]; exact if_neg h2
            have hfs : ∀ T, tgtOf (opAt bl j) = some T → (T = own ∧ (k : Int) < own) → shiftB k (m - 1) own (opAt bl j) = setT (opAt bl j) (T + (m - 1 : Nat)) := fun T h h2 => by unfold shiftB; rw [h]; exact if_pos h2
            have HFn := Lib.hid hfn
            have HFl := Lib.hid hfl
            have HFs := Lib.hid hfs
            have HFr := Lib.hid hfr
            clear hfn hfl hfs hfr
            rcases HD.out with ⟨e1, e2⟩ | ⟨i, T, e1, e2, cT⟩
            · rw [e1]
              have HE := Lib.hid e2
              clear e1 e2 HD
              go_wp2_with fail
              go_roundw
              case rel => exact ⟨j + 1, by omega, by go_num, HR1.out.same (by rw [← hm.out]; exact hlt) (HFn.out HE.out)⟩
              case measure => simp only [intOf]; omega
            · rw [e1]
              have HE := Lib.hid e2
              have HE1 := Lib.hid e1
              clear e1 e2 HD
              by_cases hTo : T = own
              · have HTo := Lib.hid hTo
                have hTo' : (T == own) = true := by simpa using hTo
                have hTr : -1 ≤ T ∧ T ≤ 200 := by omega
                clear hTo
                by_cases hko : (k : Int) < own
                · have fT := HFr.out (j * 5 + i)
                  go_wp2_with fail
                  go_roundw
                  case rel => exact ⟨j + 1, by omega, by go_num, by
                    have := HR1.out.set (by rw [← hm.out]; exact hlt) HE1.out (HFs.out T HE.out ⟨HTo.out, hko⟩)
                    rw [show ((m - 1 : Nat) : Int) = (m : Int) - 1 by omega] at this
                    exact this⟩
                  case measure => simp only [intOf]; omega
                · go_wp2_with fail
                  go_roundw
                  case rel => exact ⟨j + 1, by omega, by go_num, HR1.out.same (by rw [← hm.out]; exact hlt) (HFl.out T HE.out (fun h => by omega))⟩
                  case measure => simp only [intOf]; omega
              · have hTo' : (T == own) = false := by simpa using hTo
                have HTo := Lib.hid hTo
                clear hTo
                go_wp2_with fail
                go_roundw
                case rel => exact ⟨j + 1, by omega, by go_num, HR1.out.same (by rw [← hm.out]; exact hlt) (HFl.out T HE.out (fun h => HTo.out h.1))⟩
                case measure => simp only [intOf]; omega
          · have hjm : m = j := by omega
            subst hjm
            clear hlt
            have K4 : Hid (Kept (fun b => b = B1) w3 wr) := HR1.out.kept
            have CC : Hid (CellsAt wr C1 (opsV (l.map (shiftC k (m - 1))))) := by
              have h := HR.out.cells
              rw [hn.out, mixL_all] at h
              exact h.kept K4.out (fun e => hne e)
            have CB : Hid (CellsAt wr B1 (opsV (bl.map (shiftB k (m - 1) own)))) := by
              have h := HR1.out.cells
              rw [hm.out, mixL_all, ← hm.out] at h
              exact h
            have hs1 := fun w => cut_low C1 n q1 k (by omega) w
            have hs2 : ∀ w : World, (Instr.slice 22 (.slice (some ⟨C1, 0, none⟩) n q1) (some (.int .i64 ((k : Int) + 1))) none none).run Tryd.prog w = .ok (.slice (some (hiAd C1 q1 (k + 1))) (n - (k + 1)) (q1 - (k + 1))) w := fun w => cut_high C1 n q1 (k + 1) (by omega) w
            have HS1 := Lib.hid hs1
            have HS2 := Lib.hid hs2
            clear hs1 hs2
            as_aux_lemma =>
            go_wp2_with fail
            have hs1 := HS1.out
            have hs2 := HS2.out
            refine wp_region_tail 8 (by kernel_rfl) (by kernel_rfl) ?_
            simp only [List.take_succ_cons, List.take_zero, List.drop_succ_cons, List.drop_zero]
            have hwr : IntKind.i64.wrap ((k : Int) + 1) = (k : Int) + 1 := IntWalk.i64_in _ (by omega)
            repeat still_step
            refine wpStill_nil ?_
            clear hs1 hs2 hwr
            go_wp2_with fail
            refine (put_concat C1 B1 n m k q1 q2 (l.map (shiftC k (m - 1))) (bl.map (shiftB k (m - 1) own)) wr (by rw [List.length_map]; exact hn.out.symm) (by rw [List.length_map]; exact hm.out.symm) hk g3 hm1 (by omega) CC.out CB.out).mono ?_
            rintro e' w9 ⟨v, rfl, h9, k9⟩
            have H9 := Lib.hid h9
            have K9 := Lib.hid k9
            clear h9 k9
            go_wp2_with fail
            go_ret
            refine ⟨v, rfl, ?_, ?_⟩
            · have hput : putL l k bl = (l.map (shiftC k (m - 1))).take k ++ (bl.map (shiftB k (m - 1) own) ++ (l.map (shiftC k (m - 1))).drop (k + 1)) := by
                unfold putL; rw [← hm.out, ← Hown.out]
              rw [hput]
              exact own_base H9.out (Nat.le_trans (Nat.le_trans K02.out.size K3.out.size) K4.out.size)
            · exact ((K02.out.trans' K3.out (fun i hi e => by omega)).trans' K4.out (fun i hi e => by have := K1.out.size; omega)).trans K9.out
theorem tgtOff_none (o : Op5) : tgtOff o.k = none ↔ tgtOf o = none := by
  unfold tgtOff tgtOf
  by_cases h1 : o.k = 10
  · rw [if_pos h1, if_pos h1]; simp
  · rw [if_neg h1, if_neg h1]
    by_cases h2 : o.k = 11 ∨ o.k = 12
    · rw [if_pos h2, if_pos h2]; simp
    · rw [if_neg h2, if_neg h2]; simp
/-- wPut: other instructions in the place of one. -/
theorem put_calls {w : World} {cv bv : Value} {C B : Nat} {l bl : List Op5} {k : Nat} (hc : OpsAt w cv C l) (hb : OpsAt w bv B bl) (hk : k < l.length) (hn : l.length ≤ 200) (hm1 : 0 < bl.length) (hm2 : bl.length ≤ 8)
    (ht : ∀ i, i < l.length → ∀ T, tgtOf (opAt l i) = some T → 0 ≤ T ∧ T ≤ 200) :
    Calls Tryd.prog 43 #[cv, .int .i64 k, bv] w fun e w' => ∃ v, e = .returned v ∧ w'.ownsRow w.heap.size 28 5 v (putL l k bl).length (opsV (putL l k bl)) ∧ Kept NoB w w' := by
  obtain ⟨a, cc, rfl, hca⟩ := hc.code.val
  obtain ⟨a', bc, rfl, hba⟩ := hb.code.val
  obtain ⟨co, rfl, hcell⟩ := hca (by omega)
  obtain ⟨bo, rfl, _⟩ := hba hm1
  refine put_walk C co cc B bo bc l.length bl.length k l bl w rfl rfl hk hn hm1 hm2 hc hb (fun i hi => (hcell i hi).1) (fun j T h1 h2 => ?_) (tgtOff_none _) ht
  obtain ⟨_, h4, h5, _, _⟩ := hcell k hk
  unfold tgtOff at h1
  unfold tgtOf at h2
  by_cases e1 : (opAt l k).k = 10
  · rw [if_pos e1] at h1 h2
    cases h1; cases h2
    exact h4
  · rw [if_neg e1] at h1 h2
    by_cases e2 : (opAt l k).k = 11 ∨ (opAt l k).k = 12
    · rw [if_pos e2] at h1 h2
      cases h1; cases h2
      exact h5
    · rw [if_neg e2] at h1
      cases h1
end Go.Proofs.YtmnfgigieafehaaDoor
