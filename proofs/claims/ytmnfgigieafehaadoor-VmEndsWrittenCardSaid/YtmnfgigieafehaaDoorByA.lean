/- Walks of the functions that give the instructions in the place of one: Sides, Moves. Conditions: the captured cells hold what is said. -/
import Derived.Test.YtmnfgigieafehaaDoorSwap
namespace Go.Proofs.YtmnfgigieafehaaDoor
open Go.RowKit
set_option maxRecDepth 100000

/-- What such a function answers. -/
def ByPost (w : World) (r : Option (List Op5)) (e : Ending) (w' : World) : Prop :=
  ∃ v, e = .returned v ∧ Kept NoB w w' ∧ ((r = none ∧ v = .slice none 0 0) ∨ (∃ bl B ad cap, r = some bl ∧ v = .slice (some ad) bl.length cap ∧ OpsAt w' v B bl ∧ 0 < bl.length ∧ bl.length ≤ 8))
theorem by_none {w w' : World} (hk : Kept NoB w w') : ByPost w none (.returned (.slice none 0 0)) w' := ⟨_, rfl, hk, .inl ⟨rfl, rfl⟩⟩
theorem by_some {w w' : World} (bl : List Op5) (hk : Kept NoB w w') (g n : Nat) (h0 : 0 < n) (h8 : n ≤ 8) (hg : w'.heap.size = g) (hn : bl.length = n) :
    ByPost w (some bl) (.returned (.slice (some ⟨g, 0, none⟩) n n)) (w'.alloc (.cells (opsV bl).toArray 28)) := by
  subst hg hn
  exact ⟨_, rfl, hk.alloc _, .inr ⟨bl, _, _, _, rfl, rfl, RowAt.new w' (opsV bl) 28 5 bl.length bl.length (length_opsV bl), h0, h8⟩⟩
theorem by_drew {w w' : World} {r : Option (List Op5)} {e : Ending} (h : ByPost w r e w') : ByPost w r e w'.drew := by
  obtain ⟨v, he, hk, hv⟩ := h
  refine ⟨v, he, hk.drew, ?_⟩
  rcases hv with hv | ⟨bl, B, ad, cap, h1, h2, h3, h4⟩
  · exact .inl hv
  · exact .inr ⟨bl, B, ad, cap, h1, h2, h3.kept (Kept.refl NoB w').drew (fun _ h => h), h4⟩

theorem cell_al {w : World} {p : Addr} {v : Value} (h : w.cell? p = some v) (o : Obj) : (w.alloc o).cell? p = some v := (Kept.alloc1 w o).cell h id
theorem cell_dr {w : World} {p : Addr} {v : Value} (h : w.cell? p = some v) : w.drew.cell? p = some v := h
def sidesL (o : Op5) (_ _ : Nat) : Option (List Op5) := if o.k = 3 ∨ o.k = 5 ∨ o.k = 8 then some [⟨o.k, o.a, o.c, o.b, o.d⟩] else none
theorem sides_by (k a b c d : Int) (i f : Nat) (w : World) : Calls Tryd.prog 17 #[.agg #[.int .i64 k, .int .i64 a, .int .i64 b, .int .i64 c, .int .i64 d], .int .i64 i, .int .i64 f] w (ByPost w (sidesL ⟨k, a, b, c, d⟩ i f)) := by
  by_cases hk : k = 3 ∨ k = 5 ∨ k = 8
  · have hr := Lib.hid (show sidesL ⟨k, a, b, c, d⟩ i f = some [⟨k, a, c, b, d⟩] by simp only [sidesL]; rw [if_pos hk])
    rcases hk with rfl | rfl | rfl
    all_goals
      go_enter Tryd.func17, Tryd.ntmps17
      go_wp2
      go_ret
      rw [hr.out]
      exact by_some [_] (Kept.refl NoB w |>.alloc _) _ _ (by decide) (by decide) (by simp) rfl
  · have hr := Lib.hid (show sidesL ⟨k, a, b, c, d⟩ i f = none by simp only [sidesL]; rw [if_neg hk])
    have h3 : (k != 3) = true := by simp; omega
    have h5 : (k != 5) = true := by simp; omega
    have h8 : (k != 8) = true := by simp; omega
    clear hk
    go_enter Tryd.func17, Tryd.ntmps17
    go_wp2
    go_ret
    rw [hr.out]
    exact by_none (Kept.refl NoB w |>.alloc _)
theorem sides_ok (w0 : World) (many n : Nat) : ByOk w0 17 #[] many n sidesL := by
  intro w ⟨k, a, b, c, d⟩ i f _ _ _ _
  exact sides_by k a b c d i f w

def movesL (added : Bool) (o : Op5) (_ f : Nat) : Option (List Op5) :=
  if makesI o.k = true then (if added then some [⟨o.k, f, o.b, o.c, o.d⟩, ⟨1, f + 1, 0, 0, 0⟩, ⟨3, o.a, f + 1, f, 0⟩] else some [⟨o.k, f, o.b, o.c, o.d⟩, ⟨2, o.a, f, 0, 0⟩]) else none
set_option maxHeartbeats 2000000 in
theorem moves_by (g : Nat) (added : Bool) (k a b c d : Int) (i f : Nat) (hf : f ≤ 24) (w : World) (hg : w.cell? ⟨g, 0, none⟩ = some (.bool added)) :
    Calls Tryd.prog 18 #[.agg #[.int .i64 k, .int .i64 a, .int .i64 b, .int .i64 c, .int .i64 d], .int .i64 i, .int .i64 f, .pointer (some ⟨g, 0, none⟩)] w (ByPost w (movesL added ⟨k, a, b, c, d⟩ i f)) := by
  have lg := World.block_lt_of_cell? w _ hg
  dsimp only at lg
  have H := fun w => makes_calls ⟨k, a, b, c, d⟩ w
  have HH := Lib.hid H
  clear H
  go_enter Tryd.func18, Tryd.ntmps18
  go_wp2_with fail
  refine (HH.out _).mono ?_
  rintro e' w1 ⟨rfl, k1⟩
  have k0 : Kept NoB w w1 := (Kept.refl NoB w |>.alloc _).trans k1
  have hg1 := k0.cell hg id
  have c0 : w1.cell? ⟨w.heap.size, 0, none⟩ = some (.int .i64 k) := k1.cell (World.cell?_alloc_new w _ _ 0) id
  have c1 : w1.cell? ⟨w.heap.size, 1, none⟩ = some (.int .i64 a) := k1.cell (World.cell?_alloc_new w _ _ 1) id
  have c2 : w1.cell? ⟨w.heap.size, 2, none⟩ = some (.int .i64 b) := k1.cell (World.cell?_alloc_new w _ _ 2) id
  have c3 : w1.cell? ⟨w.heap.size, 3, none⟩ = some (.int .i64 c) := k1.cell (World.cell?_alloc_new w _ _ 3) id
  have c4 : w1.cell? ⟨w.heap.size, 4, none⟩ = some (.int .i64 d) := k1.cell (World.cell?_alloc_new w _ _ 4) id
  have fr : w1.frozen? ⟨w.heap.size, 1, none⟩ = false := by rw [k1.frozen (by simp) id]; exact frozen_of_heap (heap_alloc_new w _)
  have l1 : w.heap.size < w1.heap.size := World.block_lt_of_cell? w1 _ c0
  have K0 := Lib.hid k0
  clear k0 k1
  cases hmk : makesI k
  · have hr := Lib.hid (show movesL added ⟨k, a, b, c, d⟩ i f = none by simp only [movesL]; rw [hmk]; rfl)
    clear hmk
    go_wp2_with fail
    go_ret
    rw [hr.out]
    exact by_none K0.out
  · have hne : g ≠ w.heap.size := by omega
    have K2 : Hid (Kept NoB w (w1.setCell ⟨w.heap.size, 1, none⟩ (.int .i64 f))) := K0.out.setCell (fun h => absurd h (Nat.lt_irrefl _)) _
    have hg2 : (w1.setCell ⟨w.heap.size, 1, none⟩ (.int .i64 f)).cell? ⟨g, 0, none⟩ = some (.bool added) := K2.out.cell hg id
    have Hr := Lib.hid (show movesL added ⟨k, a, b, c, d⟩ i f = if added then some [⟨k, f, b, c, d⟩, ⟨1, f + 1, 0, 0, 0⟩, ⟨3, a, f + 1, f, 0⟩] else some [⟨k, f, b, c, d⟩, ⟨2, a, f, 0, 0⟩] by simp only [movesL]; rw [hmk]; rfl)
    clear hmk
    have HF : Hid (∀ wx, wx = w1.setCell ⟨w.heap.size, 1, none⟩ (.int .i64 f) → wx.cell? ⟨w.heap.size, 0, none⟩ = some (.int .i64 k) ∧ wx.cell? ⟨w.heap.size, 1, none⟩ = some (.int .i64 f) ∧ wx.cell? ⟨w.heap.size, 2, none⟩ = some (.int .i64 b) ∧ wx.cell? ⟨w.heap.size, 3, none⟩ = some (.int .i64 c) ∧ wx.cell? ⟨w.heap.size, 4, none⟩ = some (.int .i64 d)) := by
      rintro wx rfl
      refine ⟨?_, World.cell?_setCell_same _ _ _ c1, ?_, ?_, ?_⟩ <;> rw [World.cell?_setCell_other _ _ _ _ (by intro e; injection e; omega)] <;> assumption
    cases added
    · go_wp2_with fail
      obtain ⟨d0, d1, d2, d3, d4⟩ := HF.out _ rfl
      go_region_held3 (fun w' => w'.cell? ⟨w.heap.size, 0, none⟩ = some (.int .i64 k) ∧ w'.cell? ⟨w.heap.size, 1, none⟩ = some (.int .i64 f) ∧ w'.cell? ⟨w.heap.size, 2, none⟩ = some (.int .i64 b) ∧ w'.cell? ⟨w.heap.size, 3, none⟩ = some (.int .i64 c) ∧ w'.cell? ⟨w.heap.size, 4, none⟩ = some (.int .i64 d))
        (refine ⟨?_, ?_, ?_, ?_, ?_⟩ <;> (repeat (with_reducible (first | assumption | refine cell_al ?_ _ | refine cell_dr ?_))))
        ((go_at_call 20
          refine (wI_calls _ _ _ _ _).mono ?_
          rintro e' w2 ⟨rfl, rfl⟩))
      clear d0 d1 d2 d3 d4
      go_wp2_with fail
      go_ret
      rw [Hr.out]
      exact by_drew (by_some _ (by repeat (first | exact K2.out | refine Kept.alloc ?_ _)) _ _ (by decide) (by decide) (by simp [World.setCell]) rfl)
    · have hwr : IntKind.i64.wrap ((f : Int) + 1) = (f : Int) + 1 := IntWalk.i64_in _ (by omega)
      go_wp2_with fail
      obtain ⟨d0, d1, d2, d3, d4⟩ := HF.out _ rfl
      go_region_held3 (fun w' => w'.cell? ⟨w.heap.size, 0, none⟩ = some (.int .i64 k) ∧ w'.cell? ⟨w.heap.size, 1, none⟩ = some (.int .i64 f) ∧ w'.cell? ⟨w.heap.size, 2, none⟩ = some (.int .i64 b) ∧ w'.cell? ⟨w.heap.size, 3, none⟩ = some (.int .i64 c) ∧ w'.cell? ⟨w.heap.size, 4, none⟩ = some (.int .i64 d))
        (refine ⟨?_, ?_, ?_, ?_, ?_⟩ <;> (repeat (with_reducible (first | assumption | refine cell_al ?_ _ | refine cell_dr ?_))))
        ((go_at_call 20
          refine (wI_calls _ _ _ _ _).mono ?_
          rintro e' w2 ⟨rfl, rfl⟩))
      clear d0 d1 d2 d3 d4
      go_wp2_with fail
      go_ret
      rw [Hr.out]
      exact by_drew (by_some _ (by repeat (first | exact K2.out | refine Kept.alloc ?_ _)) _ _ (by decide) (by decide) (by simp [World.setCell]) rfl)
theorem moves_ok {w0 : World} {g : Nat} {added : Bool} (hg : w0.cell? ⟨g, 0, none⟩ = some (.bool added)) (n : Nat) : ByOk w0 18 #[.pointer (some ⟨g, 0, none⟩)] 2 n (movesL added) := by
  intro w ⟨k, a, b, c, d⟩ i f hk _ _ hf
  exact moves_by g added k a b c d i f (by omega) w (hk.cell hg id)
end Go.Proofs.YtmnfgigieafehaaDoor
