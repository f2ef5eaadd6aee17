/- The walk of vm's Begin. Conditions: at most eight arguments, their cells hold what is said. -/
import Derived.Test.YtmnfgigieafehaaDoorClone
namespace Go.Proofs.YtmnfgigieafehaaDoor
open Go.RowKit
set_option maxRecDepth 100000

def bareCells (cs : Value) : List Value := [cs, .int .i64 0, .int .i64 0, .int .i64 0, .int .i64 0, .int .i64 0, .int .i64 0, .int .i64 0, .int .i64 0, .int .i64 0, .int .i64 0, .int .i64 0, .int .i64 0, .int .i64 0, .int .i64 0, .int .i64 0, .int .i64 0, .int .i64 0, .int .i64 0, .int .i64 0, .int .i64 0, .int .i64 0, .int .i64 0, .int .i64 0, .int .i64 0, .int .i64 0, .slice none 0 0, .int .i64 0, .bool false]
theorem size67 : (Tryd.prog.info? 3).map (·.size) = some 1 := by kernel_rfl
theorem splice_args (cs : Value) (args : List Int) (h : args.length ≤ 8) : (splice (bareCells cs) 1 (intsV args)).toArray = thCells cs (argR args) 0 (.slice none 0 0) 0 false := by
  match args, h with
  | [], _ => rfl
  | [a], _ => rfl
  | [a, b], _ => rfl
  | [a, b, c], _ => rfl
  | [a, b, c, d], _ => rfl
  | [a, b, c, d, e], _ => rfl
  | [a, b, c, d, e, f], _ => rfl
  | [a, b, c, d, e, f, g], _ => rfl
  | [a, b, c, d, e, f, g, i], _ => rfl
  | _ :: _ :: _ :: _ :: _ :: _ :: _ :: _ :: _ :: _, h => simp at h

/-- The state ahead of the last store of Begin. -/
def bareS (args ws : List Int) : St := { r := argR args, pc := 0, told := [], cd := 0, ov := false, ws := ws }
set_option maxHeartbeats 1000000 in
theorem begin_walk (ca : Option Addr) (n cap : Nat) (aa : Option Addr) (m ac : Nat) (args ws : List Int) (w : World) (hm : m ≤ 8) (hx : Hid (args.length = m))
    (hc : Hid (0 < m → ∃ ad, aa = some ad ∧ ad.block < w.heap.size ∧ ∀ j u, (intsV args)[j]? = some u → w.cell? (ad.add j) = some u)) (R : Ending → World → Prop)
    (hR : ∀ w1, ThreadAt w1 w.heap.size (.slice ca n cap) (bareS args ws) (.slice none 0 0) → Kept NoB w w1 → R (.returned (.pointer (some ⟨w.heap.size, 0, none⟩))) (w1.setCell ⟨w.heap.size, 28, none⟩ (.bool ((n : Int) == 0)))) :
    Calls Tryd.prog 46 #[.slice ca n cap, .slice aa m ac] w R := by
  have HS : Hid (∀ w1 : World, w1.heap[w.heap.size]? = some (.cells (splice (bareCells (.slice ca n cap)) 1 (intsV args)).toArray 69 (0, 0)) → ThreadAt w1 w.heap.size (.slice ca n cap) (bareS args ws) (.slice none 0 0)) := by
    intro w1 h
    rw [splice_args _ _ (by rw [hx.out]; exact hm)] at h
    exact h
  go_enter Tryd.func46, Tryd.ntmps46
  go_wp2_with (with_reducible refine wpList_copy_splice rfl (.tmp 12) (.tmp 13) 23 23 rfl 3 Tryd.underlying23 size67 (some ⟨w.heap.size, 1, none⟩) aa 24 24 m ac rfl rfl w.heap.size 1 (bareCells (.slice ca n cap)) 69 ?h1 (intsV args) ?h2 ?h3 ?h4 ?h5 w.heap.size w ?h6 ?h7 ?h8; rotate_right; intro w1 HG hb; have ht : ThreadAt w1 w.heap.size (.slice ca n cap) (bareS args ws) (.slice none 0 0) := HS.out _ HG.out; clear HG; have c28 := ht.c28; have f28 := ht.fr 28)
  · exact hR w1 ht (Kept.ofBelow hb)
  · exact heap_alloc_new w _
  · have := hx.out
    rw [length_intsV]; simp only [Nat.min_def]; split <;> omega
  · intro h0
    rw [length_intsV, hx.out] at h0
    obtain ⟨ad, e, hlt, hcell⟩ := hc.out h0
    exact ⟨ad, e, fun j u hu => by rw [World.cell?_alloc_lt]; exact hcell j u hu; rw [show (ad.add j).block = ad.block by unfold Addr.add; split <;> rfl]; exact hlt⟩
  · rw [length_intsV, hx.out]; simp [bareCells]; omega
  · exact one_intsV args
  · exact (Below.refl _ _).alloc (Nat.le_refl _) _
  · exact Nat.le_refl _
/-- Begin: a new thread. -/
theorem begin_calls {w : World} {cs av : Value} {A n : Nat} {args ws : List Int} (hcs : ∃ a cap, cs = .slice a n cap) (ha : IntsAt w av A args) (hargs : args.length ≤ 8) :
    Calls Tryd.prog 46 #[cs, av] w fun e w' => e = .returned (.pointer (some ⟨w.heap.size, 0, none⟩)) ∧
      ThreadAt w' w.heap.size cs { bareS args ws with ov := (n : Int) == 0 } (.slice none 0 0) ∧ Kept NoB w w' ∧ w.heap.size < w'.heap.size := by
  obtain ⟨ca, cap, rfl⟩ := hcs
  obtain ⟨aa, ac, rfl, hc⟩ := ha.val
  refine begin_walk ca n cap aa _ ac args ws w hargs rfl (fun h0 => ?_) _ (fun w1 ht hk => ⟨rfl, ht.setOver _, hk.setCell (fun h => absurd h (by simp)) _, by have := ht.lt; simpa [World.setCell] using this⟩)
  obtain ⟨off, e, hcell⟩ := hc h0
  refine ⟨_, e, ha.lt (by decide) h0, fun j u hu => ?_⟩
  have hadd : (⟨A, off, none⟩ : Addr).add j = ⟨A, off + j, none⟩ := by unfold Addr.add; split <;> simp_all
  rw [hadd]; exact hcell j u hu
end Go.Proofs.YtmnfgigieafehaaDoor
