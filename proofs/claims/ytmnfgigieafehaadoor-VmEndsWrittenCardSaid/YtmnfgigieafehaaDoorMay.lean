/- Walks of vm's fits and May. Conditions: the code's cells hold what is said; package vm's table 'shapes' holds its text's strings. -/
import Derived.Test.YtmnfgigieafehaaDoorClone
namespace Go.Proofs.YtmnfgigieafehaaDoor
open Go.RowKit
set_option maxRecDepth 100000

theorem fits_walk_r (n sz : Int) (w : World) : Calls Tryd.prog 45 #[.int .u8 114, .int .i64 n, .int .i64 sz] w fun e w' => e = .returned (.bool (decide (0 ≤ n) && decide (n < 24))) ∧ w = w' := by
  by_cases h0 : 0 ≤ n
  · by_cases h1 : n < 24
    all_goals
      go_enter Tryd.func45, Tryd.ntmps45
      go_wp2
      go_ret
      exact ⟨by simp [h0, h1], rfl⟩
  · go_enter Tryd.func45, Tryd.ntmps45
    go_wp2
    go_ret
    exact ⟨by rw [decide_eq_false (Int.not_le.2 (by omega))]; rfl, rfl⟩
theorem fits_walk_p (n sz : Int) (w : World) : Calls Tryd.prog 45 #[.int .u8 112, .int .i64 n, .int .i64 sz] w fun e w' => e = .returned (.bool (decide (0 ≤ n) && decide (n ≤ sz))) ∧ w = w' := by
  by_cases h0 : 0 ≤ n
  · by_cases h1 : n ≤ sz
    all_goals
      go_enter Tryd.func45, Tryd.ntmps45
      go_wp2
      go_ret
      exact ⟨by simp [h0, h1], rfl⟩
  · go_enter Tryd.func45, Tryd.ntmps45
    go_wp2
    go_ret
    exact ⟨by rw [decide_eq_false (Int.not_le.2 (by omega))]; rfl, rfl⟩
theorem fits_walk_0 (n sz : Int) (w : World) : Calls Tryd.prog 45 #[.int .u8 45, .int .i64 n, .int .i64 sz] w fun e w' => e = .returned (.bool (n == 0)) ∧ w = w' := by
  go_enter Tryd.func45, Tryd.ntmps45
  go_wp2
  go_ret
  exact ⟨rfl, rfl⟩
theorem fits_walk_n (sg n sz : Int) (h1 : (sg == 114) = false) (h2 : (sg == 112) = false) (h3 : (sg == 45) = false) (w : World) : Calls Tryd.prog 45 #[.int .u8 sg, .int .i64 n, .int .i64 sz] w fun e w' => e = .returned (.bool true) ∧ w = w' := by
  go_enter Tryd.func45, Tryd.ntmps45
  go_wp2
  go_ret
  exact ⟨rfl, rfl⟩
theorem fits_calls (sg n sz : Int) (w : World) : Calls Tryd.prog 45 #[.int .u8 sg, .int .i64 n, .int .i64 sz] w fun e w' => e = .returned (.bool (fitsI sg n sz)) ∧ w = w' := by
  unfold fitsI
  by_cases h1 : sg = 114
  · subst h1; rw [if_pos rfl]; exact fits_walk_r n sz w
  · rw [if_neg h1]
    by_cases h2 : sg = 112
    · subst h2; rw [if_pos rfl]; exact fits_walk_p n sz w
    · rw [if_neg h2]
      by_cases h3 : sg = 45
      · subst h3; rw [if_pos rfl]; exact fits_walk_0 n sz w
      · rw [if_neg h3]; exact fits_walk_n sg n sz (by simpa using h1) (by simpa using h2) (by simpa using h3) w

/-- What package vm's table holds. -/
def signBytes (k : Int) : ByteArray := ⟨((signs k).map fun n => UInt8.ofNat n.toNat).toArray⟩
def Shapes (w : World) : Prop := 0 < w.heap.size ∧ ∀ k : Nat, 1 ≤ k → k ≤ 17 → w.cell? ⟨0, k, none⟩ = some (.string (signBytes k))
theorem Shapes.kept {w w' : World} {S : Nat → Prop} (h : Shapes w) (hk : Kept S w w') (hS : ¬ S 0) : Shapes w' := ⟨Nat.lt_of_lt_of_le h.1 hk.size, fun k h1 h2 => hk.cell (h.2 k h1 h2) hS⟩
theorem signs_cases (k : Int) : signs k ∈ [[114, 110, 45, 45], [114, 114, 45, 45], [114, 114, 114, 45], [112, 45, 45, 45], [114, 112, 45, 45], [114, 114, 110, 45], [114, 114, 110, 114], [114, 45, 45, 45], [45, 45, 45, 45]] := by
  unfold signs
  repeat' split
  all_goals simp
theorem signBytes_size (k : Int) : (signBytes k).size = 4 := by
  have h := signs_cases k
  simp only [List.mem_cons, List.not_mem_nil, or_false] at h
  unfold signBytes
  rcases h with h | h | h | h | h | h | h | h | h <;> rw [h] <;> rfl

theorem signBytes_get (k : Int) (m : Nat) (hm : m < 4) (h : m < (signBytes k).size) : (((signBytes k)[m]'h).toNat : Int) = (signs k).getD m 0 := by
  have key : ∀ L : List Int, L ∈ [[114, 110, 45, 45], [114, 114, 45, 45], [114, 114, 114, 45], [112, 45, 45, 45], [114, 112, 45, 45], [114, 114, 110, 45], [114, 114, 110, 114], [114, 45, 45, 45], [45, 45, 45, 45]] →
      ∀ (h : m < (⟨(L.map fun n => UInt8.ofNat n.toNat).toArray⟩ : ByteArray).size), ((((⟨(L.map fun n => UInt8.ofNat n.toNat).toArray⟩ : ByteArray)[m]'h).toNat : Nat) : Int) = L.getD m 0 := by
    intro L hL
    simp only [List.mem_cons, List.not_mem_nil, or_false] at hL
    have hm4 : m = 0 ∨ m = 1 ∨ m = 2 ∨ m = 3 := by omega
    rcases hL with rfl | rfl | rfl | rfl | rfl | rfl | rfl | rfl | rfl <;> rcases hm4 with rfl | rfl | rfl | rfl <;> intro h <;> rfl
  exact key (signs k) (signs_cases k) h
theorem ok_of {n : Int} {o : Op5} (h1 : 1 ≤ o.k) (h2 : o.k ≤ 17) (h : ∀ j, j < 4 → fitsI ((signs o.k).getD j 0) ([o.a, o.b, o.c, o.d].getD j 0) n = true) : okOp n o = true := by
  simp only [okOp, fitsAll, Bool.and_eq_true, decide_eq_true_eq]
  exact ⟨h1, h2, h 0 (by omega), h 1 (by omega), h 2 (by omega), h 3 (by omega)⟩
theorem ok_of_not {n : Int} {o : Op5} (j : Nat) (hj : j < 4) (h : fitsI ((signs o.k).getD j 0) ([o.a, o.b, o.c, o.d].getD j 0) n = false) : okOp n o = false := by
  have hj4 : j = 0 ∨ j = 1 ∨ j = 2 ∨ j = 3 := by omega
  simp only [okOp, fitsAll]
  rcases hj4 with rfl | rfl | rfl | rfl
  · rw [show fitsI ((signs o.k).getD 0 0) o.a n = false from h]; simp
  · rw [show fitsI ((signs o.k).getD 1 0) o.b n = false from h]; simp
  · rw [show fitsI ((signs o.k).getD 2 0) o.c n = false from h]; simp
  · rw [show fitsI ((signs o.k).getD 3 0) o.d n = false from h]; simp
theorem opAt_eq {l : List Op5} {k : Nat} (hk : k < l.length) : opAt l k = l[k] := by simp [opAt, List.getD, hk]
theorem okCode_no {l : List Op5} {k : Nat} (hk : k < l.length) (h : okOp l.length (opAt l k) = false) : okCode l = false := by
  have : l.all (okOp l.length) = false := by
    rw [List.all_eq_false]
    exact ⟨l[k], List.getElem_mem hk, by rw [← opAt_eq hk, h]; decide⟩
  rw [okCode, this]; rfl
theorem okCode_all {l : List Op5} (h : ∀ j, j < l.length → okOp l.length (opAt l j) = true) : okCode l = decide (l.length ≤ 200) := by
  have : l.all (okOp l.length) = true := by
    rw [List.all_eq_true]
    intro o ho
    obtain ⟨j, hj, rfl⟩ := List.getElem_of_mem ho
    rw [← opAt_eq hj]; exact h j hj
  rw [okCode, this]; rfl
theorem idx0 (a b c d : Int) (w : World) : (Instr.index 62 (.agg #[.int .i64 a, .int .i64 b, .int .i64 c, .int .i64 d]) (.int .i64 0)).run Tryd.prog w = .ok (.int .i64 a) w := by kernel_rfl
theorem idx1 (a b c d : Int) (w : World) : (Instr.index 62 (.agg #[.int .i64 a, .int .i64 b, .int .i64 c, .int .i64 d]) (.int .i64 1)).run Tryd.prog w = .ok (.int .i64 b) w := by kernel_rfl
theorem idx2 (a b c d : Int) (w : World) : (Instr.index 62 (.agg #[.int .i64 a, .int .i64 b, .int .i64 c, .int .i64 d]) (.int .i64 2)).run Tryd.prog w = .ok (.int .i64 c) w := by kernel_rfl
theorem idx3 (a b c d : Int) (w : World) : (Instr.index 62 (.agg #[.int .i64 a, .int .i64 b, .int .i64 c, .int .i64 d]) (.int .i64 3)).run Tryd.prog w = .ok (.int .i64 d) w := by kernel_rfl
set_option maxHeartbeats 2000000 in
theorem may_walk (C co cap n : Nat) (l : List Op5) (w : World) (hn : Hid (n = l.length)) (hb : n * 40 ≤ 140737488351232) (hsh : Hid (Shapes w))
    (hc : Hid (∀ i, i < n → w.cell? ⟨C, co + i * 5, none⟩ = some (.int .i64 (opAt l i).k) ∧ w.cell? ⟨C, co + i * 5 + 1, none⟩ = some (.int .i64 (opAt l i).a) ∧
    w.cell? ⟨C, co + i * 5 + 2, none⟩ = some (.int .i64 (opAt l i).b) ∧ w.cell? ⟨C, co + i * 5 + 3, none⟩ = some (.int .i64 (opAt l i).c) ∧
    w.cell? ⟨C, co + i * 5 + 4, none⟩ = some (.int .i64 (opAt l i).d))) :
    Calls Tryd.prog 35 #[.slice (some ⟨C, co, none⟩) n cap] w fun e w' => e = .returned (.bool (okCode l)) ∧ Kept NoB w w' := by
  go_enter Tryd.func35, Tryd.ntmps35
  go_wp2
  go_loopw [9] (fun i wr => ∃ k : Nat, k ≤ n ∧ i = .int .i64 k ∧ (∀ j, j < k → okOp n (opAt l j) = true) ∧ Kept NoB w wr) (fun i _ => n - (intOf i).toNat)
  case atStart => exact ⟨0, Nat.zero_le _, rfl, fun j hj => by omega, Kept.refl _ _⟩
  case round =>
    obtain ⟨k, hk, rfl, hall, hkept⟩ := hrel
    have Hall := Lib.hid hall; clear hall
    have Hk := Lib.hid hkept; clear hkept
    by_cases hlt : k < n
    · obtain ⟨c0, c1, c2, c3, c4⟩ := hc.out k hlt
      have d0 := Hk.out.cell c0 id
      have d1 := Hk.out.cell c1 id
      have d2 := Hk.out.cell c2 id
      have d3 := Hk.out.cell c3 id
      have d4 := Hk.out.cell c4 id
      clear c0 c1 c2 c3 c4
      obtain ⟨o, ho⟩ : ∃ o, o = opAt l k := ⟨_, rfl⟩
      rw [← ho] at d0 d1 d2 d3 d4
      have Ho := Lib.hid ho; clear ho
      have hCr : C < wr.heap.size := World.block_lt_of_cell? wr _ d0
      by_cases hkind : 1 ≤ o.k
      · by_cases hkind2 : o.k ≤ 17
        · obtain ⟨s, hs⟩ : ∃ s, s = signBytes o.k := ⟨_, rfl⟩
          have hs4 : s.size = 4 := by rw [hs]; exact signBytes_size _
          have hshr : wr.cell? ⟨0, o.k.toNat, none⟩ = some (.string s) := by rw [hs]; have := (hsh.out.kept Hk.out id).2 o.k.toNat (by omega) (by omega); rw [show ((o.k.toNat : Nat) : Int) = o.k by omega] at this; exact this
          have h0r : 0 < wr.heap.size := (hsh.out.kept Hk.out id).1
          have Hsg : Hid (∀ m (h : m < s.size), m < 4 → ((s[m]'h).toNat : Int) = (signs o.k).getD m 0) := by rw [hs]; exact fun m h hm => signBytes_get o.k m hm h
          clear hs
          go_wp2_with fail
          go_loop [30] (fun i => ∃ m : Nat, m ≤ 4 ∧ i = .int .i64 m ∧ (∀ j, j < m → fitsI ((signs o.k).getD j 0) ([o.a, o.b, o.c, o.d].getD j 0) n = true)) (fun i => 4 - (intOf i).toNat)
          case atStart => exact ⟨0, by omega, rfl, fun j hj => by omega⟩
          case round =>
            obtain ⟨m, hm, rfl, hfit⟩ := hrel
            have Hfit := Lib.hid hfit; clear hfit
            have hm5 : m = 0 ∨ m = 1 ∨ m = 2 ∨ m = 3 ∨ m = 4 := by omega
            rcases hm5 with rfl | rfl | rfl | rfl | rfl
            · have hi := fun w => idx0 o.a o.b o.c o.d w
              have Hg := Lib.hid (Hsg.out 0 (by omega) (by omega))
              go_wp2_with fail
              refine (fits_calls _ _ _ _).mono ?_
              rintro e' w' ⟨rfl, rfl⟩
              cases hf : fitsI (s[0].toNat : Int) o.a (n : Int)
              · have Hf := Lib.hid hf; clear hf
                go_wp2_with fail
                go_ret
                refine ⟨?_, Hk.out.alloc _⟩
                have hno : okOp l.length (opAt l k) = false := by
                  rw [← hn.out, ← Ho.out]; refine ok_of_not 0 (by omega) ?_; rw [← Hg.out]; exact Hf.out
                rw [okCode_no (hn.out ▸ hlt) hno]; rfl
              · have Hf := Lib.hid hf; clear hf
                go_wp2_with fail
                go_round
                case rel => exact ⟨1, by omega, rfl, fun j hj => by
                  by_cases hj2 : j < 0
                  · exact Hfit.out j hj2
                  · obtain rfl : j = 0 := by omega
                    rw [← Hg.out]; exact Hf.out⟩
                case measure => simp [intOf]
            · have hi := fun w => idx1 o.a o.b o.c o.d w
              have Hg := Lib.hid (Hsg.out 1 (by omega) (by omega))
              go_wp2_with fail
              refine (fits_calls _ _ _ _).mono ?_
              rintro e' w' ⟨rfl, rfl⟩
              cases hf : fitsI (s[1].toNat : Int) o.b (n : Int)
              · have Hf := Lib.hid hf; clear hf
                go_wp2_with fail
                go_ret
                refine ⟨?_, Hk.out.alloc _⟩
                have hno : okOp l.length (opAt l k) = false := by
                  rw [← hn.out, ← Ho.out]; refine ok_of_not 1 (by omega) ?_; rw [← Hg.out]; exact Hf.out
                rw [okCode_no (hn.out ▸ hlt) hno]; rfl
              · have Hf := Lib.hid hf; clear hf
                go_wp2_with fail
                go_round
                case rel => exact ⟨2, by omega, rfl, fun j hj => by
                  by_cases hj2 : j < 1
                  · exact Hfit.out j hj2
                  · obtain rfl : j = 1 := by omega
                    rw [← Hg.out]; exact Hf.out⟩
                case measure => simp [intOf]
            · have hi := fun w => idx2 o.a o.b o.c o.d w
              have Hg := Lib.hid (Hsg.out 2 (by omega) (by omega))
              go_wp2_with fail
              refine (fits_calls _ _ _ _).mono ?_
              rintro e' w' ⟨rfl, rfl⟩
              cases hf : fitsI (s[2].toNat : Int) o.c (n : Int)
              · have Hf := Lib.hid hf; clear hf
                go_wp2_with fail
                go_ret
                refine ⟨?_, Hk.out.alloc _⟩
                have hno : okOp l.length (opAt l k) = false := by
                  rw [← hn.out, ← Ho.out]; refine ok_of_not 2 (by omega) ?_; rw [← Hg.out]; exact Hf.out
                rw [okCode_no (hn.out ▸ hlt) hno]; rfl
              · have Hf := Lib.hid hf; clear hf
                go_wp2_with fail
                go_round
                case rel => exact ⟨3, by omega, rfl, fun j hj => by
                  by_cases hj2 : j < 2
                  · exact Hfit.out j hj2
                  · obtain rfl : j = 2 := by omega
                    rw [← Hg.out]; exact Hf.out⟩
                case measure => simp [intOf]
            · have hi := fun w => idx3 o.a o.b o.c o.d w
              have Hg := Lib.hid (Hsg.out 3 (by omega) (by omega))
              go_wp2_with fail
              refine (fits_calls _ _ _ _).mono ?_
              rintro e' w' ⟨rfl, rfl⟩
              cases hf : fitsI (s[3].toNat : Int) o.d (n : Int)
              · have Hf := Lib.hid hf; clear hf
                go_wp2_with fail
                go_ret
                refine ⟨?_, Hk.out.alloc _⟩
                have hno : okOp l.length (opAt l k) = false := by
                  rw [← hn.out, ← Ho.out]; refine ok_of_not 3 (by omega) ?_; rw [← Hg.out]; exact Hf.out
                rw [okCode_no (hn.out ▸ hlt) hno]; rfl
              · have Hf := Lib.hid hf; clear hf
                go_wp2_with fail
                go_round
                case rel => exact ⟨4, by omega, rfl, fun j hj => by
                  by_cases hj2 : j < 3
                  · exact Hfit.out j hj2
                  · obtain rfl : j = 3 := by omega
                    rw [← Hg.out]; exact Hf.out⟩
                case measure => simp [intOf]
            · go_wp2_with fail
              go_roundw
              case rel => exact ⟨k + 1, by omega, by go_num, fun j hj => by
                by_cases hj2 : j < k
                · exact Hall.out j hj2
                · obtain rfl : j = k := by omega
                  rw [← Ho.out]; exact ok_of hkind hkind2 Hfit.out, Hk.out.alloc _⟩
              case measure => simp [intOf]; omega
        · go_wp2_with fail
          go_ret
          refine ⟨?_, Hk.out.alloc _⟩
          have hno : okOp l.length (opAt l k) = false := by
            rw [← hn.out, ← Ho.out]; simp only [okOp]; rw [decide_eq_false (show ¬ o.k ≤ 17 by omega)]; simp
          rw [okCode_no (hn.out ▸ hlt) hno]; rfl
      · go_wp2_with fail
        go_ret
        refine ⟨?_, Hk.out.alloc _⟩
        have hno : okOp l.length (opAt l k) = false := by
          rw [← hn.out, ← Ho.out]; simp only [okOp]; rw [decide_eq_false (show ¬ 1 ≤ o.k by omega)]; simp
        rw [okCode_no (hn.out ▸ hlt) hno]; rfl
    · go_wp2_with fail
      go_ret
      refine ⟨?_, Hk.out⟩
      have hkn : k = n := by omega
      subst hkn
      rw [okCode_all (by rw [← hn.out]; exact Hall.out), ← hn.out]
      have e : decide ((k : Int) ≤ 200) = decide (k ≤ 200) := decide_eq_decide.2 (by omega)
      exact congrArg (fun b => Ending.returned (.bool b)) e
theorem may_empty (a : Option Addr) (cap : Nat) (w : World) : Calls Tryd.prog 35 #[.slice a 0 cap] w fun e w' => e = .returned (.bool true) ∧ w = w' := by
  go_enter Tryd.func35, Tryd.ntmps35
  go_wp2
  refine wp_loop_rounds 1 ?_
  rw [rounds_succ]
  go_wp2
  go_ret
  exact ⟨rfl, rfl⟩
/-- May: is the code one that may be. -/
theorem may_calls {w : World} {v : Value} {C : Nat} {l : List Op5} (h : OpsAt w v C l) (hsh : Shapes w) (hb : l.length * 40 ≤ 140737488351232) :
    Calls Tryd.prog 35 #[v] w fun e w' => e = .returned (.bool (okCode l)) ∧ Kept NoB w w' := by
  obtain ⟨a, cap, rfl, hc⟩ := h.code.val
  rcases Nat.eq_zero_or_pos l.length with h0 | h0
  · rw [h0]
    obtain rfl : l = [] := List.eq_nil_of_length_eq_zero h0
    exact (may_empty a cap w).mono fun e w' ⟨he, hw⟩ => ⟨he, hw ▸ Kept.refl _ _⟩
  · obtain ⟨co, rfl, hcell⟩ := hc h0
    exact may_walk C co cap l.length l w rfl hb hsh hcell
end Go.Proofs.YtmnfgigieafehaaDoor
