/- How the arguments of the twelve laws are read: a slice of instructions and a slice of numbers give their lists; package vm's table gives its texts; what a law leaves alone reads again. Conditions: those of the row. -/
import Derived.Test.YtmnfgigieafehaaDoorMay
import Derived.Test.YtmnfgigieafehaaDoorRange
import Derived.Test.YtmnfgigieafehaaDoorCards
import Derived.Deep.Slices
import Derived.ProofKit
import Derived.OpenShut
import Derived.SizedLaws
import Derived.LaidMore
import Derived.WideKeyArgs
namespace Go.Proofs.YtmnfgigieafehaaDoor
open Go.ChangeShapes Go.WideShapes Go.ChangeAt Go.WideElems Go.RowKit
set_option maxRecDepth 100000

theorem inR_of {x : Int} (h : (Lit.int .i64 x).wf = true) : InR x := by
  simp [Lit.wf, IntKind.min, IntKind.max, IntKind.signed, IntKind.bits] at h
  exact ⟨by omega, by omega⟩
theorem laidOut : laidOutB Tryd.prog = true := by kernel_rfl
theorem cells28 : Tryd.prog.cellsOf 28 = 5 := by kernel_rfl
theorem cells3 : Tryd.prog.cellsOf 3 = 1 := by kernel_rfl
theorem bytes28 : Tryd.prog.bytesOf 28 = 40 := by kernel_rfl
theorem bytes3 : Tryd.prog.bytesOf 3 = 8 := by kernel_rfl
theorem addr_add (C off i : Nat) : (⟨C, off, none⟩ : Addr).add i = ⟨C, off + i, none⟩ := by unfold Addr.add; split <;> simp_all

section
variable {H : Type} {enc : TypeId × Value → H} {W : World}

/-- One instruction's cells. -/
theorem open_op {fuel : Nat} {cs : List Value} {x : DataW H × List MemPlace} {sp : Nat → Bool} (h : DataW.trod enc Tryd.prog W 0 sp true fuel 28 cs = some x) : ∃ o : Op5, OpR o ∧ cs = opV o := by
  obtain ⟨xs, n, _, _, hl, hlen, hf⟩ := DataW.trod_struct Tryd.underlying28 h
  rw [cells28] at hl
  match cs, hl with
  | [c0, c1, c2, c3, c4], _ =>
    match xs, hlen with
    | [x0, x1, x2, x3, x4], _ =>
      have h0 : DataW.trod enc Tryd.prog W 0 sp true n 3 (([c0, c1, c2, c3, c4].drop 0).take (Tryd.prog.cellsOf 3)) = some x0 := hf 0 _ rfl
      have h1 : DataW.trod enc Tryd.prog W 0 sp true n 3 (([c0, c1, c2, c3, c4].drop 1).take (Tryd.prog.cellsOf 3)) = some x1 := hf 1 _ rfl
      have h2 : DataW.trod enc Tryd.prog W 0 sp true n 3 (([c0, c1, c2, c3, c4].drop 2).take (Tryd.prog.cellsOf 3)) = some x2 := hf 2 _ rfl
      have h3 : DataW.trod enc Tryd.prog W 0 sp true n 3 (([c0, c1, c2, c3, c4].drop 3).take (Tryd.prog.cellsOf 3)) = some x3 := hf 3 _ rfl
      have h4 : DataW.trod enc Tryd.prog W 0 sp true n 3 (([c0, c1, c2, c3, c4].drop 4).take (Tryd.prog.cellsOf 3)) = some x4 := hf 4 _ rfl
      rw [cells3] at h0 h1 h2 h3 h4
      obtain ⟨k, e0, _, w0⟩ := DataW.trod_int (x := x0) Tryd.underlying3 h0
      obtain ⟨a, e1, _, w1⟩ := DataW.trod_int (x := x1) Tryd.underlying3 h1
      obtain ⟨b, e2, _, w2⟩ := DataW.trod_int (x := x2) Tryd.underlying3 h2
      obtain ⟨c, e3, _, w3⟩ := DataW.trod_int (x := x3) Tryd.underlying3 h3
      obtain ⟨d, e4, _, w4⟩ := DataW.trod_int (x := x4) Tryd.underlying3 h4
      have f0 : [c0] = [Value.int .i64 k] := e0
      have f1 : [c1] = [Value.int .i64 a] := e1
      have f2 : [c2] = [Value.int .i64 b] := e2
      have f3 : [c3] = [Value.int .i64 c] := e3
      have f4 : [c4] = [Value.int .i64 d] := e4
      cases f0; cases f1; cases f2; cases f3; cases f4
      exact ⟨⟨k, a, b, c, d⟩, ⟨inR_of w0, inR_of w1, inR_of w2, inR_of w3, inR_of w4⟩, rfl⟩

instance : Inhabited Op5 := ⟨⟨0, 0, 0, 0, 0⟩⟩
theorem get_opV {o : Op5} {r : Nat} (h : r < 5) (l : List Op5) {i : Nat} (hi : i < l.length) (ho : opAt l i = o) : (opsV l)[i * 5 + r]? = (opV o)[r]? := by
  obtain ⟨h0, h1, h2, h3, h4⟩ := get_opsV hi
  subst ho
  match r, h with
  | 0, _ => exact h0
  | 1, _ => exact h1
  | 2, _ => exact h2
  | 3, _ => exact h3
  | 4, _ => exact h4

/-- A slice of instructions. -/
theorem opens_ops {r : Reach} {b0 : Nat} {v : Value} {d : DataW H} {ps : List MemPlace} (hval : Value.okWide Tryd.prog W r b0 22 v) (hd : DataW.Trod enc Tryd.prog W 0 (fun _ => true) true 22 v d ps) :
    ∃ C l, OpsAt W v C l ∧ (∀ o ∈ l, OpR o) ∧
      ∀ (ts : List TypeId) (ds : List (DataW H)) (j : Nat), (DataW.weightsEach Tryd.prog ts ds).all (· ≤ reachBytes) = true → ts[j]? = some 22 → ds[j]? = some d → l.length * 40 ≤ 140737488351232 := by
  obtain ⟨a0, len0, cap0, rfl⟩ := okWide_slice Tryd.underlying22 hval
  obtain ⟨fuel, hn⟩ := hd
  have hn' : DataW.trod enc Tryd.prog W 0 (fun _ => true) true fuel 22 [.slice a0 len0 cap0] = some (d, ps) := hn
  rcases Go.Deep.open_slice Tryd.underlying22 hn' with ⟨hc, _⟩ | ⟨a, len, cap, m, n, D, Pl, hc, hb, hl, hm, hm', hx, hel⟩
  · simp at hc
    obtain ⟨rfl, rfl, rfl⟩ := hc
    exact ⟨0, [], ⟨rfl, none, 0, rfl, fun h => absurd h (by simp)⟩, by simp, fun _ _ _ _ _ _ => by simp⟩
  · simp at hc
    obtain ⟨rfl, rfl, rfl⟩ := hc
    simp only [if_true] at hm'
    subst hm'
    simp only [Prod.mk.injEq] at hx
    obtain ⟨f, hf⟩ := Go.Deep.choose_lt (α := Op5) (n := len0) (p := fun i o => OpR o ∧ ∀ j, j < 5 → W.cell? (a.add (i * 5 + j)) = (opV o)[j]?) (fun i hi => by
      obtain ⟨cs', h1, h2⟩ := hel i (by omega)
      rw [cells28] at h1
      obtain ⟨o, ho, rfl⟩ := open_op h2
      refine ⟨o, ho, fun j hj => ?_⟩
      rw [← Go.Deep.add_add]
      exact (World.cells?_some h1).2.2 j hj)
    refine ⟨a.block, (List.range len0).map f, ⟨by rw [length_opsV], some a, m, by simp, ?_⟩, ?_, ?_⟩
    · intro hlen
      simp only [List.length_map, List.length_range] at hlen
      have hsp : a.spot = none := by
        have := (hf 0 hlen).2 0 (by decide)
        simp only [Nat.zero_mul, Nat.add_zero, Addr.add, if_true] at this
        have h2 : W.cell? a = some (.int .i64 (f 0).k) := this
        unfold World.cell? at h2
        split at h2
        · split at h2
          · cases h2
          · rename_i hs; simpa using hs
        · cases h2
      obtain ⟨C, off, spot⟩ := a
      simp only at hsp
      subst hsp
      refine ⟨off, rfl, fun j u hu => ?_⟩
      have hj : j < len0 * 5 := by
        have := (List.getElem?_eq_some_iff.1 hu).1
        simpa [length_opsV] using this
      have hi : j / 5 < len0 := by omega
      have := (hf (j / 5) hi).2 (j % 5) (by omega)
      rw [addr_add, show j / 5 * 5 + j % 5 = j by omega] at this
      rw [this, ← hu]
      have hg := get_opV (o := f (j / 5)) (r := j % 5) (by omega) ((List.range len0).map f) (i := j / 5) (by simpa using hi) (by simp [opAt, hi])
      rw [show j / 5 * 5 + j % 5 = j by omega] at hg
      exact hg.symm
    · intro o ho
      simp only [List.mem_map, List.mem_range] at ho
      obtain ⟨i, hi, rfl⟩ := ho
      exact (hf i hi).1
    · intro ts ds j hw ht hd
      rw [hx.1] at hd
      have := sized_slice hw ht hd Tryd.underlying22
      rw [bytes28] at this
      simp only [List.length_map, List.length_range, reachBytes] at this ⊢
      omega

/-- A slice of numbers. -/
theorem opens_ints {r : Reach} {b0 : Nat} {v : Value} {d : DataW H} {ps : List MemPlace} (hval : Value.okWide Tryd.prog W r b0 23 v) (hd : DataW.Trod enc Tryd.prog W 0 (fun _ => true) true 23 v d ps) :
    ∃ C l, IntsAt W v C l ∧ (∀ x ∈ l, InR x) ∧
      ∀ (ts : List TypeId) (ds : List (DataW H)) (j : Nat), (DataW.weightsEach Tryd.prog ts ds).all (· ≤ reachBytes) = true → ts[j]? = some 23 → ds[j]? = some d → l.length * 8 ≤ 140737488351232 := by
  obtain ⟨a0, len0, cap0, rfl⟩ := okWide_slice Tryd.underlying23 hval
  obtain ⟨fuel, hn⟩ := hd
  have hn' : DataW.trod enc Tryd.prog W 0 (fun _ => true) true fuel 23 [.slice a0 len0 cap0] = some (d, ps) := hn
  rcases open_ints Tryd.underlying23 Tryd.underlying3 cells3 hn' with ⟨hc, _⟩ | ⟨a, len, cap, zs, hc, hb, hl, hm, hz, hx, hcell, hwf⟩
  · simp at hc
    obtain ⟨rfl, rfl, rfl⟩ := hc
    exact ⟨0, [], ⟨rfl, none, 0, rfl, fun h => absurd h (by simp)⟩, by simp, fun _ _ _ _ _ _ => by simp⟩
  · simp at hc
    obtain ⟨rfl, rfl, rfl⟩ := hc
    simp only [if_true] at hz
    simp only [Prod.mk.injEq] at hx
    have hlen : (zs.take len0).length = len0 := by simp; omega
    refine ⟨a.block, zs.take len0, ⟨by rw [length_intsV, Nat.mul_one], some a, cap0, by rw [hlen], ?_⟩, ?_, ?_⟩
    · intro h0
      rw [hlen] at h0
      have hsp : a.spot = none := by
        have h2 := hcell 0 (by omega)
        simp only [Addr.add, if_true] at h2
        unfold World.cell? at h2
        split at h2
        · split at h2
          · cases h2
          · rename_i hs; simpa using hs
        · cases h2
      obtain ⟨C, off, spot⟩ := a
      simp only at hsp
      subst hsp
      refine ⟨off, rfl, fun j u hu => ?_⟩
      have hj : j < len0 := by
        have := (List.getElem?_eq_some_iff.1 hu).1
        rw [length_intsV, hlen] at this; exact this
      have := hcell j (by omega)
      rw [addr_add] at this
      rw [this, ← hu, get_intsV (by rw [hlen]; exact hj)]
      simp [List.getD, hj]
    · intro x hxm
      exact inR_of (hwf x (List.mem_of_mem_take hxm))
    · intro ts ds j hw ht hd
      rw [hx.1] at hd
      have := sized_slice hw ht hd Tryd.underlying23
      rw [bytes3] at this
      simp only [lits, List.length_map, reachBytes] at this ⊢
      omega

theorem gShapes : Tryd.prog.globalNamed "barograph/vm.shapes" = some 0 := by kernel_rfl
theorem gShapesType : (Tryd.prog.globals[0]?).map (·.type) = some 64 := by kernel_rfl

/-- A text of the table, by its place. -/
theorem table_text {t e : TypeId} {n fuel : Nat} {cs : List Value} {sp : Nat → Bool} {held : Bool} {ys : List (List UInt8)} {p : List MemPlace} (ht : Tryd.prog.underlying t = some (.array n e)) (he : Tryd.prog.underlying e = some .string) (hc : Tryd.prog.cellsOf e = 1)
    (h : DataW.trod enc Tryd.prog W 0 sp held fuel t cs = some (.agg (ys.map fun y => .lit (.string y)), p)) (i : Nat) (hi : i < n) : ∃ s : ByteArray, cs[i]? = some (.string s) ∧ ys[i]? = some s.data.toList := by
  obtain ⟨xs, m, _, hx, _, hlen, hel⟩ := DataW.trod_array ht h
  simp only [Prod.mk.injEq, DataW.agg.injEq] at hx
  have h1 := hel i hi
  rw [hc, Nat.mul_one, List.getElem?_eq_getElem (by omega)] at h1
  obtain ⟨s, e1, e2, _⟩ := DataW.trod_string he h1
  refine ⟨s, ?_, ?_⟩
  · have := congrArg (·[0]?) e1
    simpa [List.getElem?_take, List.getElem?_drop] using this
  · have h2 : (ys.map fun y => (DataW.lit (.string y) : DataW H))[i]? = some (xs[i]).1 := by rw [hx.1]; simp [show i < xs.length by omega]
    rw [e2] at h2
    simp only [List.getElem?_map, Option.map_eq_some_iff, DataW.lit.injEq, Lit.string.injEq] at h2
    obtain ⟨y, hy, rfl⟩ := h2
    exact hy
end

def tableTexts : List (List UInt8) := [[], [114, 110, 45, 45], [114, 114, 45, 45], [114, 114, 114, 45], [114, 114, 114, 45], [114, 114, 114, 45], [114, 114, 114, 45], [114, 114, 114, 45], [114, 114, 114, 45], [114, 114, 114, 45], [112, 45, 45, 45], [114, 112, 45, 45], [114, 112, 45, 45], [114, 114, 110, 45], [114, 114, 110, 45], [114, 114, 110, 114], [114, 45, 45, 45], [45, 45, 45, 45]]
theorem table_signs : ∀ k : Fin 18, k.val = 0 ∨ tableTexts[k.val]? = some (signBytes k.val).data.toList := by decide +kernel
theorem cells9 : Tryd.prog.cellsOf 9 = 1 := by kernel_rfl
theorem table_underlying : Tryd.prog.underlying 64 = some (.array 18 9) := Tryd.underlying64

/-- What the row's list gives: package vm's table. -/
theorem shapes_of {W : World} (h : laidMetH Tryd.prog [("barograph/vm.shapes", Rows.laid_barograph_vm_shapes)] W) : Shapes W := by
  rw [MakeChecks.laidMetH_plain _ _ _ (by kernel_rfl)] at h
  obtain ⟨ps, ⟨g0, t0, cs0, f0, p0, q0, hg0, ht0, hv0, hd0, _⟩, _, _⟩ := h
  obtain rfl := Option.some.inj (gShapes.symm.trans hg0)
  obtain rfl := Option.some.inj (gShapesType.symm.trans ht0)
  have hcell : ∀ k : Nat, 1 ≤ k → k ≤ 17 → W.cell? ⟨0, k, none⟩ = some (.string (signBytes k)) := by
    intro k h1 h2
    obtain ⟨s, hs, hy⟩ := table_text (ys := tableTexts) table_underlying Tryd.underlying9 cells9 hd0 k (by omega)
    rcases table_signs ⟨k, by omega⟩ with h0 | h0
    · exact absurd h0 (by show ¬ k = 0; omega)
    · have e : s.data.toList = (signBytes k).data.toList := Option.some.inj (hy.symm.trans h0)
      have : s = signBytes k := by
        cases s with | mk d => cases hb : signBytes k with | mk d' => rw [hb] at e; simp only [ByteArray.mk.injEq]; exact Array.toList_inj.1 e
      rw [World.var?_cell hg0 hv0 k, ← this]
      simpa using hs
  exact ⟨World.block_lt_of_cell? W _ (hcell 1 (by decide) (by decide)), hcell⟩

section
variable {H : Type} {enc : TypeId × Value → H}
theorem all_stay {W W' : World} (hb : Below W.heap.size W W') : ∀ {ts : List TypeId} {vs : List Value} {ds : List (DataW H)} {ps : List MemPlace}, (ts.all fun t => Tryd.prog.readableRec t && decide (t < Tryd.prog.types.size)) = true →
    DataW.TrodAll enc Tryd.prog W 0 (fun _ => true) true ts vs ds ps → (∀ x ∈ ps, x.block < W.heap.size) → DataW.TrodAll enc Tryd.prog W' 0 (fun b => decide (b < W.heap.size)) true ts vs ds ps := by
  intro ts
  induction ts with
  | nil => intro vs ds ps _ h _; obtain ⟨rfl, rfl, rfl⟩ := trodAll_nil h; exact trodAll_mk0
  | cons t ts ih =>
    intro vs ds ps ht h hlt
    obtain ⟨v, vs', d, ds', p, q, rfl, rfl, rfl, h0, h1⟩ := trodAll_cons h
    simp only [List.all_cons, Bool.and_eq_true, decide_eq_true_eq] at ht
    exact trodAll_cons_mk (Below.trod laidOut ht.1.1 ht.1.2 h0 hb (fun x hx => hlt x (by simp [hx]))) (ih ht.2 h1 (fun x hx => hlt x (by simp [hx])))

/-- What a law that keeps the memory owes its row. -/
theorem post_kept {f : Func} {s : ChangeSpec} {W W' : World} {args : Array Value} {ds gs : List (DataW H)} {before : List MemPlace} (hW : DataW.Whole enc Tryd.prog f.params.toList s.vars false W args.toList ds gs before) (hv : s.vars = []) (hk : Kept NoB W W')
    (hr : f.resultTypes = #[4]) (hs : s.fn H (ds ++ gs) = { results := [.lit (.bool true)], args := ds }) (hall : (f.params.toList.all fun t => Tryd.prog.readableRec t && decide (t < Tryd.prog.types.size)) = true) :
    s.post enc Tryd.prog f false true false false W args (.bool true) W' := by
  have hlt : ∀ x ∈ before, x.block < W.heap.size := fun x hx => hW.lt x hx
  have hW' := hW
  obtain ⟨p, q, hA, hV, rfl, _, _⟩ := hW
  rw [hv] at hV
  obtain ⟨rfl, rfl⟩ := trodVars_none hV
  refine ⟨ds, [], p ++ [], [], p, [], hW', ?_, ?_, ?_, hk.below.frame _, fun h => by cases h⟩
  · rw [hs, hr]
    exact trodAll_cons_mk (shut_bool Tryd.underlying4 true) trodAll_mk0
  · rw [hs]
    exact all_stay hk.below hall hA (fun x hx => hlt x (by simp [hx]))
  · rw [hs, hv]
    rfl
end
end Go.Proofs.YtmnfgigieafehaaDoor
