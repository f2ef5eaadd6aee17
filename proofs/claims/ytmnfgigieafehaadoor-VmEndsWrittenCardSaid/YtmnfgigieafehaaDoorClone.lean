/- Slices that are read, and walks of slices.Clone (of numbers, of instructions) and of vm's Begin. Conditions: the slices' cells hold what is said; their bytes keep the reach. -/
import Derived.Test.YtmnfgigieafehaaDoorOther
import Derived.Lib.SliceRun
import Derived.Laws.CopyOwn
namespace Go.Proofs.YtmnfgigieafehaaDoor
open Go.RowKit
set_option maxRecDepth 100000

/-- A slice of n elements whose cells are xs; if there is an element they lie in block C. -/
structure RowAt (w : World) (v : Value) (C size n : Nat) (xs : List Value) : Prop where
  len : xs.length = n * size
  val : ∃ a cap, v = .slice a n cap ∧ (0 < n → ∃ off, a = some ⟨C, off, none⟩ ∧ ∀ j u, xs[j]? = some u → w.cell? ⟨C, off + j, none⟩ = some u)

theorem RowAt.kept {w w' : World} {v : Value} {C size n : Nat} {xs : List Value} {S : Nat → Prop} (h : RowAt w v C size n xs) (hk : Kept S w w') (hS : 0 < n → ¬ S C) : RowAt w' v C size n xs := by
  obtain ⟨a, cap, hv, hc⟩ := h.val
  refine ⟨h.len, a, cap, hv, fun hn => ?_⟩
  obtain ⟨off, ha, hcell⟩ := hc hn
  exact ⟨off, ha, fun j u hu => hk.cell (hcell j u hu) (hS hn)⟩
theorem RowAt.lt {w : World} {v : Value} {C size n : Nat} {xs : List Value} (h : RowAt w v C size n xs) (hs : 0 < size) (hn : 0 < n) : C < w.heap.size := by
  obtain ⟨a, cap, hv, hc⟩ := h.val
  obtain ⟨off, ha, hcell⟩ := hc hn
  have hl : 0 < xs.length := by rw [h.len]; exact Nat.mul_pos hn hs
  exact World.block_lt_of_cell? w _ (hcell 0 xs[0] (by simp [hl]))
/-- An owned row reads. -/
theorem RowAt.ofOwns {w : World} {base : Nat} {e : TypeId} {v : Value} {size n : Nat} {xs : List Value} (h : w.ownsRow base e size v n xs) : ∃ C, RowAt w v C size n xs ∧ (0 < n → base ≤ C ∧ C < w.heap.size ∧ ∃ cap, v = .slice (some ⟨C, 0, none⟩) n cap) := by
  rcases h.2 with ⟨hv, hn⟩ | ⟨g, cap, cur, hv, hb, hg, r⟩
  · exact ⟨0, ⟨h.1, none, 0, by rw [hn]; exact hv, fun h0 => by omega⟩, fun h0 => by omega⟩
  · refine ⟨g, ⟨h.1, _, cap, hv, fun _ => ⟨0, rfl, fun j u hu => ?_⟩⟩, fun _ => ⟨hb, (Array.getElem?_eq_some_iff.1 hg).1, cap, hv⟩⟩
    have := h.cells (g := g) (by rw [hv]; rfl) j u hu
    have hadd : (⟨g, 0, none⟩ : Addr).add j = ⟨g, 0 + j, none⟩ := by unfold Addr.add; split <;> simp_all
    rw [hadd] at this; exact this

def intsV (l : List Int) : List Value := l.map (Value.int .i64)
def opV (o : Op5) : List Value := [.int .i64 o.k, .int .i64 o.a, .int .i64 o.b, .int .i64 o.c, .int .i64 o.d]
def opsV (l : List Op5) : List Value := l.flatMap opV
theorem length_intsV (l : List Int) : (intsV l).length = l.length := by simp [intsV]
theorem length_opsV (l : List Op5) : (opsV l).length = l.length * 5 := by
  induction l with
  | nil => rfl
  | cons o l ih => simp only [opsV, List.flatMap_cons, List.length_append] at *; rw [ih]; simp [opV]; omega
theorem one_intsV (l : List Int) : ∀ u ∈ intsV l, u.oneCell' = true := by
  intro u hu; simp only [intsV, List.mem_map] at hu; obtain ⟨x, _, rfl⟩ := hu; rfl
theorem one_opsV (l : List Op5) : ∀ u ∈ opsV l, u.oneCell' = true := by
  intro u hu
  simp only [opsV, List.mem_flatMap] at hu
  obtain ⟨o, _, ho⟩ := hu
  simp only [opV, List.mem_cons, List.not_mem_nil, or_false] at ho
  rcases ho with rfl | rfl | rfl | rfl | rfl <;> rfl
theorem get_opsV {l : List Op5} {i : Nat} (hi : i < l.length) : (opsV l)[i * 5]? = some (.int .i64 (opAt l i).k) ∧ (opsV l)[i * 5 + 1]? = some (.int .i64 (opAt l i).a) ∧ (opsV l)[i * 5 + 2]? = some (.int .i64 (opAt l i).b) ∧
    (opsV l)[i * 5 + 3]? = some (.int .i64 (opAt l i).c) ∧ (opsV l)[i * 5 + 4]? = some (.int .i64 (opAt l i).d) := by
  induction l generalizing i with
  | nil => simp at hi
  | cons o l ih =>
    have e : opsV (o :: l) = [.int .i64 o.k, .int .i64 o.a, .int .i64 o.b, .int .i64 o.c, .int .i64 o.d] ++ opsV l := rfl
    rw [e]
    cases i with
    | zero => simp [opAt]
    | succ i =>
      have h := ih (i := i) (by simpa using hi)
      have e5 : ∀ j, (i + 1) * 5 + j = (i * 5 + j) + 5 := fun j => by omega
      have e0 : (i + 1) * 5 = (i * 5) + 5 := by omega
      simp only [e0, Nat.add_right_comm _ 5 _]
      refine ⟨?_, ?_, ?_, ?_, ?_⟩ <;> rw [List.getElem?_append_right (by simp)] <;> simp only [List.length_cons, List.length_nil, Nat.zero_add, Nat.reduceAdd, Nat.add_sub_cancel]
      · exact h.1
      · exact h.2.1
      · exact h.2.2.1
      · exact h.2.2.2.1
      · exact h.2.2.2.2
theorem get_intsV {l : List Int} {i : Nat} (hi : i < l.length) : (intsV l)[i]? = some (.int .i64 (l.getD i 0)) := by simp [intsV, List.getD, hi]

def IntsAt (w : World) (v : Value) (C : Nat) (l : List Int) : Prop := RowAt w v C 1 l.length (intsV l)
def OpsAt (w : World) (v : Value) (C : Nat) (l : List Op5) : Prop := RowAt w v C 5 l.length (opsV l)

theorem IntsAt.kept {w w' : World} {v : Value} {C : Nat} {l : List Int} {S : Nat → Prop} (h : IntsAt w v C l) (hk : Kept S w w') (hS : 0 < l.length → ¬ S C) : IntsAt w' v C l := RowAt.kept h hk hS
theorem OpsAt.kept {w w' : World} {v : Value} {C : Nat} {l : List Op5} {S : Nat → Prop} (h : OpsAt w v C l) (hk : Kept S w w') (hS : 0 < l.length → ¬ S C) : OpsAt w' v C l := RowAt.kept h hk hS
theorem OpsAt.code {w : World} {v : Value} {C : Nat} {l : List Op5} (h : OpsAt w v C l) : CodeAt w v C l := by
  obtain ⟨a, cap, hv, hc⟩ := h.val
  refine ⟨a, cap, hv, fun hl => ?_⟩
  obtain ⟨off, ha, hcell⟩ := hc hl
  refine ⟨off, ha, fun i hi => ?_⟩
  obtain ⟨h0, h1, h2, h3, h4⟩ := get_opsV hi
  exact ⟨hcell _ _ h0, hcell _ _ h1, hcell _ _ h2, hcell _ _ h3, hcell _ _ h4⟩

theorem info28 : (Tryd.prog.info? 28).map (fun i => (i.zero, i.size, i.bytes)) = some (some (.agg #[.int .i64 0, .int .i64 0, .int .i64 0, .int .i64 0, .int .i64 0]), 5, 40) := by kernel_rfl

/-- slices.Clone of a nil slice. -/
theorem clone_nil (c : Nat) (w : World) : Calls Tryd.prog 37 #[.slice none 0 c] w fun e w' => e = .returned (.slice none 0 0) ∧ w = w' := by
  have hq := fun (w : World) => Lib.run_eql_slice_nil (P := Tryd.prog) w 23 3 none 0 c 0 0 Tryd.underlying23
  go_enter Tryd.func37, Tryd.ntmps37
  go_wp2
  go_ret
  exact ⟨rfl, rfl⟩
set_option maxHeartbeats 400000 in
theorem clone_some (ad : Addr) (n c : Nat) (xs : List Value) (hl : Hid (xs.length = n * 1)) (h1 : Hid (∀ u ∈ xs, u.oneCell' = true)) (w : World) (hreach : n * 8 ≤ 140737488351232) (hc : Hid (∀ j u, xs[j]? = some u → w.cell? (ad.add j) = some u))
    (had : Hid (0 < n → ad.block < w.heap.size)) (R : Ending → World → Prop) (hR : ∀ v' w1, w1.ownsRow w.heap.size 3 1 v' n xs → Kept NoB w w1 → R (.returned v') w1) : Calls Tryd.prog 37 #[.slice (some ad) n c] w R := by
  have hq := fun (w : World) => Lib.run_eql_slice_nil (P := Tryd.prog) w 23 3 (some ad) n c 0 0 Tryd.underlying23
  obtain ⟨i0, hi, hz0, hz1, hz2⟩ := info_parts info3
  go_enter Tryd.func37, Tryd.ntmps37
  go_wp2_with (at_builtin; refine wpList_append_own _ rfl (.tmp 5) (.tmp 6) 23 rfl w.heap.size 3 i0 (.int .i64 0) 1 8 Tryd.underlying23 hi hz0 hz1 hz2 rfl (by decide) (.slice (some ⟨w.heap.size, 0, none⟩) 0 0) 0 [] rfl ?h1 ad n c xs rfl ?h2 ?h3 ?h4 ?h5 ?h6 ?h7 ?h8; rotate_right; intro v' w1 hown hgrow _)
  · refine hR v' w1 (by simpa using hown) (((Kept.refl NoB w).alloc _).grown hgrow fun k hk hlt => ?_)
    simp only [Value.ownBlock, Option.some.injEq] at hk
    omega
  · exact World.ownsRow_made w #[] 0 (Nat.le_refl _) (by decide) rfl
  · exact hl.out
  · intro j u hu
    by_cases h0 : 0 < n
    · rw [World.cell?_alloc_lt]
      · exact hc.out j u hu
      · rw [show (ad.add j).block = ad.block by unfold Addr.add; split <;> rfl]
        exact had.out h0
    · have : n = 0 := by omega
      subst this
      have := hl.out
      rw [Nat.zero_mul] at this
      rw [List.eq_nil_of_length_eq_zero this] at hu
      simp at hu
  · exact h1.out
  · unfold maxLen; omega
  · omega
  · simp
/-- slices.Clone: a new row of the same cells. -/
theorem clone_calls {w : World} {v : Value} {C n : Nat} {xs : List Value} (h : RowAt w v C 1 n xs) (h1 : ∀ u ∈ xs, u.oneCell' = true) (hreach : n * 8 ≤ 140737488351232) :
    Calls Tryd.prog 37 #[v] w fun e w' => ∃ v', e = .returned v' ∧ w'.ownsRow w.heap.size 3 1 v' n xs ∧ Kept NoB w w' := by
  obtain ⟨a, cap, rfl, hc⟩ := h.val
  cases a with
  | none =>
    have hn : n = 0 := by
      rcases Nat.eq_zero_or_pos n with h0 | h0
      · exact h0
      · obtain ⟨_, h2, _⟩ := hc h0; cases h2
    subst hn
    have hx : xs = [] := List.eq_nil_of_length_eq_zero (by simpa using h.len)
    subst hx
    refine (clone_nil cap w).mono fun e w' ⟨he, hw⟩ => ?_
    subst hw
    exact ⟨_, he, World.ownsRow_nil _ _ _ _, Kept.refl _ _⟩
  | some ad =>
    refine clone_some ad n cap xs h.len h1 w hreach (fun j u hu => ?_) (fun h0 => ?_) _ (fun v' w1 ho hk => ⟨v', rfl, ho, hk⟩)
    · have h0 : 0 < n := by
        rcases Nat.eq_zero_or_pos n with h0 | h0
        · subst h0
          have := h.len
          rw [Nat.zero_mul] at this
          rw [List.eq_nil_of_length_eq_zero this] at hu
          simp at hu
        · exact h0
      obtain ⟨off, e, hcell⟩ := hc h0
      cases e
      have hadd : (⟨C, off, none⟩ : Addr).add j = ⟨C, off + j, none⟩ := by unfold Addr.add; split <;> simp_all
      rw [hadd]; exact hcell j u hu
    · obtain ⟨off, e, _⟩ := hc h0
      cases e
      exact h.lt (by decide) h0
/-- slices.Clone of a nil slice. -/
theorem cloneOps_nil (c : Nat) (w : World) : Calls Tryd.prog 38 #[.slice none 0 c] w fun e w' => e = .returned (.slice none 0 0) ∧ w = w' := by
  have hq := fun (w : World) => Lib.run_eql_slice_nil (P := Tryd.prog) w 22 28 none 0 c 0 0 Tryd.underlying22
  go_enter Tryd.func38, Tryd.ntmps38
  go_wp2
  go_ret
  exact ⟨rfl, rfl⟩
set_option maxHeartbeats 400000 in
theorem cloneOps_some (ad : Addr) (n c : Nat) (xs : List Value) (hl : Hid (xs.length = n * 5)) (h1 : Hid (∀ u ∈ xs, u.oneCell' = true)) (w : World) (hreach : n * 40 ≤ 140737488351232) (hc : Hid (∀ j u, xs[j]? = some u → w.cell? (ad.add j) = some u))
    (had : Hid (0 < n → ad.block < w.heap.size)) (R : Ending → World → Prop) (hR : ∀ v' w1, w1.ownsRow w.heap.size 28 5 v' n xs → Kept NoB w w1 → R (.returned v') w1) : Calls Tryd.prog 38 #[.slice (some ad) n c] w R := by
  have hq := fun (w : World) => Lib.run_eql_slice_nil (P := Tryd.prog) w 22 28 (some ad) n c 0 0 Tryd.underlying22
  obtain ⟨i0, hi, hz0, hz1, hz2⟩ := info_parts info28
  go_enter Tryd.func38, Tryd.ntmps38
  go_wp2_with (at_builtin; refine wpList_append_own _ rfl (.tmp 5) (.tmp 6) 22 rfl w.heap.size 28 i0 (.agg #[.int .i64 0, .int .i64 0, .int .i64 0, .int .i64 0, .int .i64 0]) 5 40 Tryd.underlying22 hi hz0 hz1 hz2 rfl (by decide) (.slice (some ⟨w.heap.size, 0, none⟩) 0 0) 0 [] rfl ?h1 ad n c xs rfl ?h2 ?h3 ?h4 ?h5 ?h6 ?h7 ?h8; rotate_right; intro v' w1 hown hgrow _)
  · refine hR v' w1 (by simpa using hown) (((Kept.refl NoB w).alloc _).grown hgrow fun k hk hlt => ?_)
    simp only [Value.ownBlock, Option.some.injEq] at hk
    omega
  · exact World.ownsRow_made w #[] 0 (Nat.le_refl _) (by decide) rfl
  · exact hl.out
  · intro j u hu
    by_cases h0 : 0 < n
    · rw [World.cell?_alloc_lt]
      · exact hc.out j u hu
      · rw [show (ad.add j).block = ad.block by unfold Addr.add; split <;> rfl]
        exact had.out h0
    · have : n = 0 := by omega
      subst this
      have := hl.out
      rw [Nat.zero_mul] at this
      rw [List.eq_nil_of_length_eq_zero this] at hu
      simp at hu
  · exact h1.out
  · unfold maxLen; omega
  · omega
  · simp
/-- slices.Clone: a new row of the same cells. -/
theorem cloneOps_calls {w : World} {v : Value} {C n : Nat} {xs : List Value} (h : RowAt w v C 5 n xs) (h1 : ∀ u ∈ xs, u.oneCell' = true) (hreach : n * 40 ≤ 140737488351232) :
    Calls Tryd.prog 38 #[v] w fun e w' => ∃ v', e = .returned v' ∧ w'.ownsRow w.heap.size 28 5 v' n xs ∧ Kept NoB w w' := by
  obtain ⟨a, cap, rfl, hc⟩ := h.val
  cases a with
  | none =>
    have hn : n = 0 := by
      rcases Nat.eq_zero_or_pos n with h0 | h0
      · exact h0
      · obtain ⟨_, h2, _⟩ := hc h0; cases h2
    subst hn
    have hx : xs = [] := List.eq_nil_of_length_eq_zero (by simpa using h.len)
    subst hx
    refine (cloneOps_nil cap w).mono fun e w' ⟨he, hw⟩ => ?_
    subst hw
    exact ⟨_, he, World.ownsRow_nil _ _ _ _, Kept.refl _ _⟩
  | some ad =>
    refine cloneOps_some ad n cap xs h.len h1 w hreach (fun j u hu => ?_) (fun h0 => ?_) _ (fun v' w1 ho hk => ⟨v', rfl, ho, hk⟩)
    · have h0 : 0 < n := by
        rcases Nat.eq_zero_or_pos n with h0 | h0
        · subst h0
          have := h.len
          rw [Nat.zero_mul] at this
          rw [List.eq_nil_of_length_eq_zero this] at hu
          simp at hu
        · exact h0
      obtain ⟨off, e, hcell⟩ := hc h0
      cases e
      have hadd : (⟨C, off, none⟩ : Addr).add j = ⟨C, off + j, none⟩ := by unfold Addr.add; split <;> simp_all
      rw [hadd]; exact hcell j u hu
    · obtain ⟨off, e, _⟩ := hc h0
      cases e
      exact h.lt (by decide) h0
end Go.Proofs.YtmnfgigieafehaaDoor
