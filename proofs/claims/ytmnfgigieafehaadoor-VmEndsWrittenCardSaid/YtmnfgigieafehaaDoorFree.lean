/- The walk of wFree: the first register that no code uses. Conditions: the code's cells hold what is said; what it uses are registers. -/
import Derived.Test.YtmnfgigieafehaaDoorSmall
import Derived.Test.YtmnfgigieafehaaDoorSure
import Derived.Deep.DeepCutAuto
import Derived.Deep.CutBlock
namespace Go.Proofs.YtmnfgigieafehaaDoor
open Go.RowKit
set_option maxRecDepth 100000

/-- The registers that an instruction uses. -/
def usedL (o : Op5) : List Int :=
  if o.k = 10 ∨ o.k = 17 then [] else if o.k = 2 ∨ o.k = 13 ∨ o.k = 14 then [o.a, o.b]
  else if o.k = 3 ∨ o.k = 4 ∨ o.k = 5 ∨ o.k = 6 ∨ o.k = 7 ∨ o.k = 8 ∨ o.k = 9 then [o.a, o.b, o.c] else if o.k = 15 then [o.a, o.b, o.d] else [o.a]
def topI (n : Int) (l : List Int) : Int := l.foldl (fun n r => max n (r + 1)) n
def freeI (l : List Op5) (n : Int) : Int := l.foldl (fun n o => topI n (usedL o)) n
theorem usedL_length (o : Op5) : (usedL o).length ≤ 3 := by
  unfold usedL
  repeat' split
  all_goals simp
theorem topI_take {n : Int} {l : List Int} {j : Nat} (hj : j < l.length) : topI n (l.take (j + 1)) = max (topI n (l.take j)) (l.getD j 0 + 1) := by
  unfold topI
  rw [List.take_add_one, List.foldl_append]
  simp [List.getD, hj]
theorem freeI_take {l : List Op5} {n : Int} {j : Nat} (hj : j < l.length) : freeI (l.take (j + 1)) n = topI (freeI (l.take j) n) (usedL (opAt l j)) := by
  unfold freeI
  rw [List.take_add_one, List.foldl_append]
  simp [opAt, List.getD, hj]
theorem topI_in {n : Int} {l : List Int} (hn : 0 ≤ n ∧ n ≤ 24) (h : ∀ r ∈ l, 0 ≤ r ∧ r < 24) : 0 ≤ topI n l ∧ topI n l ≤ 24 := by
  induction l generalizing n with
  | nil => exact hn
  | cons r l ih =>
    have hr := h r (by simp)
    exact ih (n := max n (r + 1)) (by omega) (fun r hr => h r (by simp [hr]))
theorem freeI_in {n : Int} {l : List Op5} (hn : 0 ≤ n ∧ n ≤ 24) (h : ∀ o ∈ l, ∀ r ∈ usedL o, 0 ≤ r ∧ r < 24) : 0 ≤ freeI l n ∧ freeI l n ≤ 24 := by
  induction l generalizing n with
  | nil => exact hn
  | cons o l ih => exact ih (n := topI n (usedL o)) (topI_in hn (h o (by simp))) (fun o ho => h o (by simp [ho]))
theorem topI_ge (n : Int) (l : List Int) : n ≤ topI n l := by
  induction l generalizing n with
  | nil => exact Int.le_refl _
  | cons r l ih => have := ih (max n (r + 1)); exact Int.le_trans (by omega) this
theorem topI_used {n : Int} {l : List Int} {r : Int} (h : r ∈ l) : r < topI n l := by
  induction l generalizing n with
  | nil => cases h
  | cons x l ih =>
    rcases List.mem_cons.1 h with rfl | h
    · have := topI_ge (max n (r + 1)) l; show r < topI (max n (r + 1)) l; omega
    · exact ih h
theorem freeI_ge (n : Int) (l : List Op5) : n ≤ freeI l n := by
  induction l generalizing n with
  | nil => exact Int.le_refl _
  | cons o l ih => exact Int.le_trans (topI_ge n _) (ih _)
theorem freeI_used {n : Int} {l : List Op5} {o : Op5} {r : Int} (h : o ∈ l) (hr : r ∈ usedL o) : r < freeI l n := by
  induction l generalizing n with
  | nil => cases h
  | cons x l ih =>
    rcases List.mem_cons.1 h with rfl | h
    · exact Int.lt_of_lt_of_le (topI_used hr) (freeI_ge _ l)
    · exact ih h

theorem app_at (wz : World) (g : Nat) (xs z : Array Value) (vs : List Int) (n cap : Nat) (hg : wz.heap.size = g) (h : xs.toList = intsV vs) (hn : vs.length = n) :
    IntsAt ((wz.alloc (.cells (xs ++ z) 3)).drew) (.slice (some ⟨g, 0, none⟩) n cap) g vs := by
  subst hg hn
  refine ⟨by simp [intsV], _, cap, rfl, fun _ => ⟨0, rfl, fun j u hu => ?_⟩⟩
  rw [Nat.zero_add, World.cell?_drew, World.cell?_alloc_new, Array.getElem?_append_left, ← Array.getElem?_toList, h]
  · exact hu
  · have := (List.getElem?_eq_some_iff.1 hu).1
    rw [← h] at this
    simpa using this
theorem app_at3 (wz : World) (g : Nat) (xs ys z : Array Value) (vs : List Int) (n cap : Nat) (hg : wz.heap.size = g) (h : (xs ++ ys).toList = intsV vs) (hn : vs.length = n) :
    IntsAt ((wz.alloc (.cells (xs ++ (ys ++ z)) 3)).drew) (.slice (some ⟨g, 0, none⟩) n cap) g vs := by
  rw [← Array.append_assoc]
  exact app_at wz g (xs ++ ys) z vs n cap hg h hn
set_option maxHeartbeats 2000000 in
theorem free_walk (C co cap n : Nat) (l : List Op5) (na : Int) (w : World) (hn : Hid (n = l.length)) (hb : n * 40 ≤ 140737488351232) (hna : 0 ≤ na ∧ na ≤ 24)
    (hu : Hid (∀ o ∈ l, ∀ r ∈ usedL o, 0 ≤ r ∧ r < 24))
    (hc : Hid (∀ i, i < n → w.cell? ⟨C, co + i * 5, none⟩ = some (.int .i64 (opAt l i).k) ∧ w.cell? ⟨C, co + i * 5 + 1, none⟩ = some (.int .i64 (opAt l i).a) ∧
    w.cell? ⟨C, co + i * 5 + 2, none⟩ = some (.int .i64 (opAt l i).b) ∧ w.cell? ⟨C, co + i * 5 + 3, none⟩ = some (.int .i64 (opAt l i).c) ∧
    w.cell? ⟨C, co + i * 5 + 4, none⟩ = some (.int .i64 (opAt l i).d))) :
    Calls Tryd.prog 42 #[.slice (some ⟨C, co, none⟩) n cap, .int .i64 na] w fun e w' => e = .returned (.int .i64 (freeI l na)) ∧ Kept NoB w w' := by
  obtain ⟨i0, hi, hz0, hz1, hz2⟩ := info_parts info3
  go_enter Tryd.func42, Tryd.ntmps42
  go_wp2
  go_loopw [5, 14] (fun f i wr => ∃ k : Nat, k ≤ n ∧ i = .int .i64 k ∧ f = .int .i64 (freeI (l.take k) na) ∧ Kept NoB w wr) (fun _ i _ => n - (intOf i).toNat)
  case atStart => exact ⟨0, Nat.zero_le _, rfl, rfl, Kept.refl _ _⟩
  case round =>
    obtain ⟨k, hk, rfl, rfl, hkept⟩ := hrel
    have Hk := Lib.hid hkept; clear hkept
    by_cases hlt : k < n
    · obtain ⟨c0, c1, c2, c3, c4⟩ := hc.out k hlt
      have d0 := Hk.out.cell c0 id
      have d1 := Hk.out.cell c1 id
      have d2 := Hk.out.cell c2 id
      have d3 := Hk.out.cell c3 id
      have d4 := Hk.out.cell c4 id
      clear c0 c1 c2 c3 c4
      have Hf := Lib.hid (freeI_take (n := na) (l := l) (j := k) (by rw [← hn.out]; exact hlt))
      have hfin := freeI_in (l := l.take k) hna (fun o ho => hu.out o (List.mem_of_mem_take ho))
      obtain ⟨f, hf⟩ : ∃ f, f = freeI (l.take k) na := ⟨_, rfl⟩
      rw [← hf] at hfin Hf ⊢
      clear hf
      have HU := Lib.hid (hu.out (opAt l k) (by rw [opAt_eq (by rw [← hn.out]; exact hlt)]; exact List.getElem_mem _))
      obtain ⟨o, ho⟩ : ∃ o, o = opAt l k := ⟨_, rfl⟩
      rw [← ho] at d0 d1 d2 d3 d4 Hf HU
      clear ho
      have hCr : C < wr.heap.size := World.block_lt_of_cell? wr _ d0
      go_upto_block 2 with fail
      go_cut [8] (fun v wx => ∃ D, IntsAt wx v D (usedL o) ∧ Kept NoB wr wx)
      case first =>
        as_aux_lemma =>
        by_cases hk10 : o.k = 10
        · have hU := Lib.hid (show usedL o = [] by simp [usedL, hk10])
          have e10 : (o.k == 10) = true := by rw [hk10]; rfl
          have e17 : (o.k == 17) = false := by rw [hk10]; rfl
          have e2 : (o.k == 2) = false := by rw [hk10]; rfl
          have e13 : (o.k == 13) = false := by rw [hk10]; rfl
          have e14 : (o.k == 14) = false := by rw [hk10]; rfl
          have e3 : (o.k == 3) = false := by rw [hk10]; rfl
          have e4 : (o.k == 4) = false := by rw [hk10]; rfl
          have e5 : (o.k == 5) = false := by rw [hk10]; rfl
          have e6 : (o.k == 6) = false := by rw [hk10]; rfl
          have e7 : (o.k == 7) = false := by rw [hk10]; rfl
          have e8 : (o.k == 8) = false := by rw [hk10]; rfl
          have e9 : (o.k == 9) = false := by rw [hk10]; rfl
          have e15 : (o.k == 15) = false := by rw [hk10]; rfl
          clear hk10
          as_aux_lemma =>
          go_wp2_with fail
          go_meet
          exact ⟨0, by rw [hU.out]; exact ⟨rfl, none, 0, rfl, fun h => by cases h⟩, ((Kept.refl NoB wr).alloc _).alloc _⟩
        by_cases hk17 : o.k = 17
        · have hU := Lib.hid (show usedL o = [] by simp [usedL, hk17])
          have e10 : (o.k == 10) = false := by rw [hk17]; rfl
          have e17 : (o.k == 17) = true := by rw [hk17]; rfl
          have e2 : (o.k == 2) = false := by rw [hk17]; rfl
          have e13 : (o.k == 13) = false := by rw [hk17]; rfl
          have e14 : (o.k == 14) = false := by rw [hk17]; rfl
          have e3 : (o.k == 3) = false := by rw [hk17]; rfl
          have e4 : (o.k == 4) = false := by rw [hk17]; rfl
          have e5 : (o.k == 5) = false := by rw [hk17]; rfl
          have e6 : (o.k == 6) = false := by rw [hk17]; rfl
          have e7 : (o.k == 7) = false := by rw [hk17]; rfl
          have e8 : (o.k == 8) = false := by rw [hk17]; rfl
          have e9 : (o.k == 9) = false := by rw [hk17]; rfl
          have e15 : (o.k == 15) = false := by rw [hk17]; rfl
          clear hk17 hk10
          as_aux_lemma =>
          go_wp2_with fail
          go_meet
          exact ⟨0, by rw [hU.out]; exact ⟨rfl, none, 0, rfl, fun h => by cases h⟩, ((Kept.refl NoB wr).alloc _).alloc _⟩
        by_cases hk2 : o.k = 2
        · have hU := Lib.hid (show usedL o = [o.a, o.b] by simp [usedL, hk2])
          have e10 : (o.k == 10) = false := by rw [hk2]; rfl
          have e17 : (o.k == 17) = false := by rw [hk2]; rfl
          have e2 : (o.k == 2) = true := by rw [hk2]; rfl
          have e13 : (o.k == 13) = false := by rw [hk2]; rfl
          have e14 : (o.k == 14) = false := by rw [hk2]; rfl
          have e3 : (o.k == 3) = false := by rw [hk2]; rfl
          have e4 : (o.k == 4) = false := by rw [hk2]; rfl
          have e5 : (o.k == 5) = false := by rw [hk2]; rfl
          have e6 : (o.k == 6) = false := by rw [hk2]; rfl
          have e7 : (o.k == 7) = false := by rw [hk2]; rfl
          have e8 : (o.k == 8) = false := by rw [hk2]; rfl
          have e9 : (o.k == 9) = false := by rw [hk2]; rfl
          have e15 : (o.k == 15) = false := by rw [hk2]; rfl
          clear hk2 hk10 hk17
          as_aux_lemma =>
          go_wp2_with fail
          go_meet
          exact ⟨_, by rw [hU.out]; exact app_at _ _ _ _ [o.a, o.b] 2 _ (by simp) rfl rfl, (((((Kept.refl NoB wr).alloc _).alloc _).alloc _).alloc _).drew⟩
        by_cases hk13 : o.k = 13
        · have hU := Lib.hid (show usedL o = [o.a, o.b] by simp [usedL, hk13])
          have e10 : (o.k == 10) = false := by rw [hk13]; rfl
          have e17 : (o.k == 17) = false := by rw [hk13]; rfl
          have e2 : (o.k == 2) = false := by rw [hk13]; rfl
          have e13 : (o.k == 13) = true := by rw [hk13]; rfl
          have e14 : (o.k == 14) = false := by rw [hk13]; rfl
          have e3 : (o.k == 3) = false := by rw [hk13]; rfl
          have e4 : (o.k == 4) = false := by rw [hk13]; rfl
          have e5 : (o.k == 5) = false := by rw [hk13]; rfl
          have e6 : (o.k == 6) = false := by rw [hk13]; rfl
          have e7 : (o.k == 7) = false := by rw [hk13]; rfl
          have e8 : (o.k == 8) = false := by rw [hk13]; rfl
          have e9 : (o.k == 9) = false := by rw [hk13]; rfl
          have e15 : (o.k == 15) = false := by rw [hk13]; rfl
          clear hk13 hk10 hk17 hk2
          as_aux_lemma =>
          go_wp2_with fail
          go_meet
          exact ⟨_, by rw [hU.out]; exact app_at _ _ _ _ [o.a, o.b] 2 _ (by simp) rfl rfl, (((((Kept.refl NoB wr).alloc _).alloc _).alloc _).alloc _).drew⟩
        by_cases hk14 : o.k = 14
        · have hU := Lib.hid (show usedL o = [o.a, o.b] by simp [usedL, hk14])
          have e10 : (o.k == 10) = false := by rw [hk14]; rfl
          have e17 : (o.k == 17) = false := by rw [hk14]; rfl
          have e2 : (o.k == 2) = false := by rw [hk14]; rfl
          have e13 : (o.k == 13) = false := by rw [hk14]; rfl
          have e14 : (o.k == 14) = true := by rw [hk14]; rfl
          have e3 : (o.k == 3) = false := by rw [hk14]; rfl
          have e4 : (o.k == 4) = false := by rw [hk14]; rfl
          have e5 : (o.k == 5) = false := by rw [hk14]; rfl
          have e6 : (o.k == 6) = false := by rw [hk14]; rfl
          have e7 : (o.k == 7) = false := by rw [hk14]; rfl
          have e8 : (o.k == 8) = false := by rw [hk14]; rfl
          have e9 : (o.k == 9) = false := by rw [hk14]; rfl
          have e15 : (o.k == 15) = false := by rw [hk14]; rfl
          clear hk14 hk10 hk17 hk2 hk13
          as_aux_lemma =>
          go_wp2_with fail
          go_meet
          exact ⟨_, by rw [hU.out]; exact app_at _ _ _ _ [o.a, o.b] 2 _ (by simp) rfl rfl, (((((Kept.refl NoB wr).alloc _).alloc _).alloc _).alloc _).drew⟩
        by_cases hk3 : o.k = 3
        · have hU := Lib.hid (show usedL o = [o.a, o.b, o.c] by simp [usedL, hk3])
          have e10 : (o.k == 10) = false := by rw [hk3]; rfl
          have e17 : (o.k == 17) = false := by rw [hk3]; rfl
          have e2 : (o.k == 2) = false := by rw [hk3]; rfl
          have e13 : (o.k == 13) = false := by rw [hk3]; rfl
          have e14 : (o.k == 14) = false := by rw [hk3]; rfl
          have e3 : (o.k == 3) = true := by rw [hk3]; rfl
          have e4 : (o.k == 4) = false := by rw [hk3]; rfl
          have e5 : (o.k == 5) = false := by rw [hk3]; rfl
          have e6 : (o.k == 6) = false := by rw [hk3]; rfl
          have e7 : (o.k == 7) = false := by rw [hk3]; rfl
          have e8 : (o.k == 8) = false := by rw [hk3]; rfl
          have e9 : (o.k == 9) = false := by rw [hk3]; rfl
          have e15 : (o.k == 15) = false := by rw [hk3]; rfl
          clear hk3 hk10 hk17 hk2 hk13 hk14
          as_aux_lemma =>
          go_wp2_with fail
          go_meet
          exact ⟨_, by rw [hU.out]; exact app_at3 _ _ _ _ _ [o.a, o.b, o.c] 3 _ (by simp) rfl rfl, (((((Kept.refl NoB wr).alloc _).alloc _).alloc _).alloc _).drew⟩
        by_cases hk4 : o.k = 4
        · have hU := Lib.hid (show usedL o = [o.a, o.b, o.c] by simp [usedL, hk4])
          have e10 : (o.k == 10) = false := by rw [hk4]; rfl
          have e17 : (o.k == 17) = false := by rw [hk4]; rfl
          have e2 : (o.k == 2) = false := by rw [hk4]; rfl
          have e13 : (o.k == 13) = false := by rw [hk4]; rfl
          have e14 : (o.k == 14) = false := by rw [hk4]; rfl
          have e3 : (o.k == 3) = false := by rw [hk4]; rfl
          have e4 : (o.k == 4) = true := by rw [hk4]; rfl
          have e5 : (o.k == 5) = false := by rw [hk4]; rfl
          have e6 : (o.k == 6) = false := by rw [hk4]; rfl
          have e7 : (o.k == 7) = false := by rw [hk4]; rfl
          have e8 : (o.k == 8) = false := by rw [hk4]; rfl
          have e9 : (o.k == 9) = false := by rw [hk4]; rfl
          have e15 : (o.k == 15) = false := by rw [hk4]; rfl
          clear hk4 hk10 hk17 hk2 hk13 hk14 hk3
          as_aux_lemma =>
          go_wp2_with fail
          go_meet
          exact ⟨_, by rw [hU.out]; exact app_at3 _ _ _ _ _ [o.a, o.b, o.c] 3 _ (by simp) rfl rfl, (((((Kept.refl NoB wr).alloc _).alloc _).alloc _).alloc _).drew⟩
        by_cases hk5 : o.k = 5
        · have hU := Lib.hid (show usedL o = [o.a, o.b, o.c] by simp [usedL, hk5])
          have e10 : (o.k == 10) = false := by rw [hk5]; rfl
          have e17 : (o.k == 17) = false := by rw [hk5]; rfl
          have e2 : (o.k == 2) = false := by rw [hk5]; rfl
          have e13 : (o.k == 13) = false := by rw [hk5]; rfl
          have e14 : (o.k == 14) = false := by rw [hk5]; rfl
          have e3 : (o.k == 3) = false := by rw [hk5]; rfl
          have e4 : (o.k == 4) = false := by rw [hk5]; rfl
          have e5 : (o.k == 5) = true := by rw [hk5]; rfl
          have e6 : (o.k == 6) = false := by rw [hk5]; rfl
          have e7 : (o.k == 7) = false := by rw [hk5]; rfl
          have e8 : (o.k == 8) = false := by rw [hk5]; rfl
          have e9 : (o.k == 9) = false := by rw [hk5]; rfl
          have e15 : (o.k == 15) = false := by rw [hk5]; rfl
          clear hk5 hk10 hk17 hk2 hk13 hk14 hk3 hk4
          as_aux_lemma =>
          go_wp2_with fail
          go_meet
          exact ⟨_, by rw [hU.out]; exact app_at3 _ _ _ _ _ [o.a, o.b, o.c] 3 _ (by simp) rfl rfl, (((((Kept.refl NoB wr).alloc _).alloc _).alloc _).alloc _).drew⟩
        by_cases hk6 : o.k = 6
        · have hU := Lib.hid (show usedL o = [o.a, o.b, o.c] by simp [usedL, hk6])
          have e10 : (o.k == 10) = false := by rw [hk6]; rfl
          have e17 : (o.k == 17) = false := by rw [hk6]; rfl
          have e2 : (o.k == 2) = false := by rw [hk6]; rfl
          have e13 : (o.k == 13) = false := by rw [hk6]; rfl
          have e14 : (o.k == 14) = false := by rw [hk6]; rfl
          have e3 : (o.k == 3) = false := by rw [hk6]; rfl
          have e4 : (o.k == 4) = false := by rw [hk6]; rfl
          have e5 : (o.k == 5) = false := by rw [hk6]; rfl
          have e6 : (o.k == 6) = true := by rw [hk6]; rfl
          have e7 : (o.k == 7) = false := by rw [hk6]; rfl
          have e8 : (o.k == 8) = false := by rw [hk6]; rfl
          have e9 : (o.k == 9) = false := by rw [hk6]; rfl
          have e15 : (o.k == 15) = false := by rw [hk6]; rfl
          clear hk6 hk10 hk17 hk2 hk13 hk14 hk3 hk4 hk5
          as_aux_lemma =>
          go_wp2_with fail
          go_meet
          exact ⟨_, by rw [hU.out]; exact app_at3 _ _ _ _ _ [o.a, o.b, o.c] 3 _ (by simp) rfl rfl, (((((Kept.refl NoB wr).alloc _).alloc _).alloc _).alloc _).drew⟩
        by_cases hk7 : o.k = 7
        · have hU := Lib.hid (show usedL o = [o.a, o.b, o.c] by simp [usedL, hk7])
          have e10 : (o.k == 10) = false := by rw [hk7]; rfl
          have e17 : (o.k == 17) = false := by rw [hk7]; rfl
          have e2 : (o.k == 2) = false := by rw [hk7]; rfl
          have e13 : (o.k == 13) = false := by rw [hk7]; rfl
          have e14 : (o.k == 14) = false := by rw [hk7]; rfl
          have e3 : (o.k == 3) = false := by rw [hk7]; rfl
          have e4 : (o.k == 4) = false := by rw [hk7]; rfl
          have e5 : (o.k == 5) = false := by rw [hk7]; rfl
          have e6 : (o.k == 6) = false := by rw [hk7]; rfl
          have e7 : (o.k == 7) = true := by rw [hk7]; rfl
          have e8 : (o.k == 8) = false := by rw [hk7]; rfl
          have e9 : (o.k == 9) = false := by rw [hk7]; rfl
          have e15 : (o.k == 15) = false := by rw [hk7]; rfl
          clear hk7 hk10 hk17 hk2 hk13 hk14 hk3 hk4 hk5 hk6
          as_aux_lemma =>
          go_wp2_with fail
          go_meet
          exact ⟨_, by rw [hU.out]; exact app_at3 _ _ _ _ _ [o.a, o.b, o.c] 3 _ (by simp) rfl rfl, (((((Kept.refl NoB wr).alloc _).alloc _).alloc _).alloc _).drew⟩
        by_cases hk8 : o.k = 8
        · have hU := Lib.hid (show usedL o = [o.a, o.b, o.c] by simp [usedL, hk8])
          have e10 : (o.k == 10) = false := by rw [hk8]; rfl
          have e17 : (o.k == 17) = false := by rw [hk8]; rfl
          have e2 : (o.k == 2) = false := by rw [hk8]; rfl
          have e13 : (o.k == 13) = false := by rw [hk8]; rfl
          have e14 : (o.k == 14) = false := by rw [hk8]; rfl
          have e3 : (o.k == 3) = false := by rw [hk8]; rfl
          have e4 : (o.k == 4) = false := by rw [hk8]; rfl
          have e5 : (o.k == 5) = false := by rw [hk8]; rfl
          have e6 : (o.k == 6) = false := by rw [hk8]; rfl
          have e7 : (o.k == 7) = false := by rw [hk8]; rfl
          have e8 : (o.k == 8) = true := by rw [hk8]; rfl
          have e9 : (o.k == 9) = false := by rw [hk8]; rfl
          have e15 : (o.k == 15) = false := by rw [hk8]; rfl
          clear hk8 hk10 hk17 hk2 hk13 hk14 hk3 hk4 hk5 hk6 hk7
          as_aux_lemma =>
          go_wp2_with fail
          go_meet
          exact ⟨_, by rw [hU.out]; exact app_at3 _ _ _ _ _ [o.a, o.b, o.c] 3 _ (by simp) rfl rfl, (((((Kept.refl NoB wr).alloc _).alloc _).alloc _).alloc _).drew⟩
        by_cases hk9 : o.k = 9
        · have hU := Lib.hid (show usedL o = [o.a, o.b, o.c] by simp [usedL, hk9])
          have e10 : (o.k == 10) = false := by rw [hk9]; rfl
          have e17 : (o.k == 17) = false := by rw [hk9]; rfl
          have e2 : (o.k == 2) = false := by rw [hk9]; rfl
          have e13 : (o.k == 13) = false := by rw [hk9]; rfl
          have e14 : (o.k == 14) = false := by rw [hk9]; rfl
          have e3 : (o.k == 3) = false := by rw [hk9]; rfl
          have e4 : (o.k == 4) = false := by rw [hk9]; rfl
          have e5 : (o.k == 5) = false := by rw [hk9]; rfl
          have e6 : (o.k == 6) = false := by rw [hk9]; rfl
          have e7 : (o.k == 7) = false := by rw [hk9]; rfl
          have e8 : (o.k == 8) = false := by rw [hk9]; rfl
          have e9 : (o.k == 9) = true := by rw [hk9]; rfl
          have e15 : (o.k == 15) = false := by rw [hk9]; rfl
          clear hk9 hk10 hk17 hk2 hk13 hk14 hk3 hk4 hk5 hk6 hk7 hk8
          as_aux_lemma =>
          go_wp2_with fail
          go_meet
          exact ⟨_, by rw [hU.out]; exact app_at3 _ _ _ _ _ [o.a, o.b, o.c] 3 _ (by simp) rfl rfl, (((((Kept.refl NoB wr).alloc _).alloc _).alloc _).alloc _).drew⟩
        by_cases hk15 : o.k = 15
        · have hU := Lib.hid (show usedL o = [o.a, o.b, o.d] by simp [usedL, hk15])
          have e10 : (o.k == 10) = false := by rw [hk15]; rfl
          have e17 : (o.k == 17) = false := by rw [hk15]; rfl
          have e2 : (o.k == 2) = false := by rw [hk15]; rfl
          have e13 : (o.k == 13) = false := by rw [hk15]; rfl
          have e14 : (o.k == 14) = false := by rw [hk15]; rfl
          have e3 : (o.k == 3) = false := by rw [hk15]; rfl
          have e4 : (o.k == 4) = false := by rw [hk15]; rfl
          have e5 : (o.k == 5) = false := by rw [hk15]; rfl
          have e6 : (o.k == 6) = false := by rw [hk15]; rfl
          have e7 : (o.k == 7) = false := by rw [hk15]; rfl
          have e8 : (o.k == 8) = false := by rw [hk15]; rfl
          have e9 : (o.k == 9) = false := by rw [hk15]; rfl
          have e15 : (o.k == 15) = true := by rw [hk15]; rfl
          clear hk15 hk10 hk17 hk2 hk13 hk14 hk3 hk4 hk5 hk6 hk7 hk8 hk9
          as_aux_lemma =>
          go_wp2_with fail
          go_meet
          exact ⟨_, by rw [hU.out]; exact app_at3 _ _ _ _ _ [o.a, o.b, o.d] 3 _ (by simp) rfl rfl, (((((Kept.refl NoB wr).alloc _).alloc _).alloc _).alloc _).drew⟩
        have hU := Lib.hid (show usedL o = [o.a] by simp [usedL, hk10, hk17, hk2, hk13, hk14, hk3, hk4, hk5, hk6, hk7, hk8, hk9, hk15])
        have e10 : (o.k == 10) = false := by simpa using hk10
        have e17 : (o.k == 17) = false := by simpa using hk17
        have e2 : (o.k == 2) = false := by simpa using hk2
        have e13 : (o.k == 13) = false := by simpa using hk13
        have e14 : (o.k == 14) = false := by simpa using hk14
        have e3 : (o.k == 3) = false := by simpa using hk3
        have e4 : (o.k == 4) = false := by simpa using hk4
        have e5 : (o.k == 5) = false := by simpa using hk5
        have e6 : (o.k == 6) = false := by simpa using hk6
        have e7 : (o.k == 7) = false := by simpa using hk7
        have e8 : (o.k == 8) = false := by simpa using hk8
        have e9 : (o.k == 9) = false := by simpa using hk9
        have e15 : (o.k == 15) = false := by simpa using hk15
        clear hk10 hk17 hk2 hk13 hk14 hk3 hk4 hk5 hk6 hk7 hk8 hk9 hk15
        go_wp2_with fail
        go_meet
        have hD := RowAt.new (wr.alloc (.cells #[.int .i64 o.k, .int .i64 o.a, .int .i64 o.b, .int .i64 o.c, .int .i64 o.d] 28)) (intsV [o.a]) 3 1 1 1 rfl
        rw [World.size_alloc] at hD
        exact ⟨_, by rw [hU.out]; exact hD, ((Kept.refl NoB wr).alloc _).alloc _⟩
      case rest =>
        as_aux_lemma =>
        obtain ⟨D, hD, hkx⟩ := hcut
        have Hkx := Lib.hid hkx
        obtain ⟨da, dc, rfl, hcell⟩ := hD.val
        have Hcell := Lib.hid hcell
        clear hkx hD hcell d0 d1 d2 d3 d4
        obtain ⟨us, hus⟩ : ∃ us, us = usedL o := ⟨_, rfl⟩
        have Hus := usedL_length o
        rw [← hus] at Hcell Hf HU Hus ⊢
        clear hus
        obtain ⟨m, hm⟩ : ∃ m, m = us.length := ⟨_, rfl⟩
        have Hm := Lib.hid hm
        have hm3 : m ≤ 3 := by rw [hm]; exact Hus
        rw [← hm] at Hcell ⊢
        clear hm
        go_wp2_with fail
        go_loop [5, 61] (fun v i => ∃ j : Nat, j ≤ m ∧ i = .int .i64 j ∧ v = .int .i64 (topI f (us.take j))) (fun _ i => m - (intOf i).toNat)
        case atStart => exact ⟨0, by omega, rfl, rfl⟩
        case round =>
          obtain ⟨j, hj, rfl, rfl⟩ := hrel
          by_cases hjm : j < m
          · obtain ⟨off, rfl, hcl⟩ := Hcell.out (by omega)
            have r0 := hcl j _ (get_intsV (l := us) (i := j) (by rw [← Hm.out]; exact hjm))
            have hr := HU.out (us.getD j 0) (by rw [List.getD, List.getElem?_eq_getElem (by rw [← Hm.out]; exact hjm)]; exact List.getElem_mem _)
            have hT := Lib.hid (topI_take (n := f) (l := us) (j := j) (by rw [← Hm.out]; exact hjm))
            have hti := topI_in (l := us.take j) hfin (fun r hr => HU.out r (List.mem_of_mem_take hr))
            clear hcl
            obtain ⟨r, hrr⟩ : ∃ r, r = us.getD j 0 := ⟨_, rfl⟩
            obtain ⟨t, htt⟩ : ∃ t, t = topI f (us.take j) := ⟨_, rfl⟩
            rw [← hrr] at r0 hr hT
            rw [← htt] at hT hti ⊢
            clear hrr htt
            have hD := World.block_lt_of_cell? wc _ r0
            go_wp2_with fail
            go_round
            case rel => exact ⟨j + 1, by omega, by go_num, by
              rw [hT.out]
              refine congrArg (Value.int .i64) ?_
              rw [Int.max_def]
              split <;> split <;> omega⟩
            case measure =>
              simp only [intOf]
              omega
          · have hjm2 : m = j := by omega
            subst hjm2
            go_wp2_with fail
            go_roundw
            case rel => exact ⟨k + 1, by omega, by go_num, by rw [Hf.out, Hm.out, List.take_length], Hk.out.trans Hkx.out⟩
            case measure => simp [intOf]; omega
    · have hkn : n = k := by omega
      subst hkn
      go_wp2_with fail
      go_ret
      refine ⟨?_, Hk.out⟩
      rw [hn.out, List.take_length]
      rfl
theorem free_empty (a : Option Addr) (cap : Nat) (na : Int) (w : World) : Calls Tryd.prog 42 #[.slice a 0 cap, .int .i64 na] w fun e w' => e = .returned (.int .i64 na) ∧ w = w' := by
  go_enter Tryd.func42, Tryd.ntmps42
  go_wp2
  refine wp_loop_rounds 1 ?_
  rw [rounds_succ]
  go_wp2
  go_ret
  exact ⟨rfl, rfl⟩
/-- wFree: behind the last register that is used. -/
theorem free_calls {w : World} {v : Value} {C : Nat} {l : List Op5} {na : Int} (h : OpsAt w v C l) (hb : l.length * 40 ≤ 140737488351232) (hna : 0 ≤ na ∧ na ≤ 24) (hu : ∀ o ∈ l, ∀ r ∈ usedL o, 0 ≤ r ∧ r < 24) :
    Calls Tryd.prog 42 #[v, .int .i64 na] w fun e w' => e = .returned (.int .i64 (freeI l na)) ∧ Kept NoB w w' := by
  obtain ⟨a, cap, rfl, hc⟩ := h.code.val
  rcases Nat.eq_zero_or_pos l.length with h0 | h0
  · rw [h0]
    obtain rfl : l = [] := List.eq_nil_of_length_eq_zero h0
    exact (free_empty a cap na w).mono fun e w' ⟨he, hw⟩ => ⟨he, hw ▸ Kept.refl _ _⟩
  · obtain ⟨co, rfl, hcell⟩ := hc h0
    exact free_walk C co cap l.length l na w rfl hb hna hu hcell
end Go.Proofs.YtmnfgigieafehaaDoor
