/- The walk of wSwap, of VmEndsWritten's functions. Conditions: the captured cells hold what is said. -/
import Derived.Test.YtmnfgigieafehaaDoorByA
import Derived.BigQuiet
namespace Go.Proofs.YtmnfgigieafehaaDoor
open Go.RowKit
set_option maxRecDepth 100000

/-- wSwap: a function, and the cells that it captures. -/
theorem wSwap_calls (aa : Option Addr) (na ac : Nat) (which : Int) (many G : Nat) (gcaps : Array Value) (w : World) : Calls Tryd.prog 16 #[.slice aa na ac, .int .i64 which, .int .i64 many, .func (.func G) #[] gcaps] w fun e w' =>
    e = .returned (.func (.func 41) #[] #[.pointer (some ⟨w.heap.size, 0, none⟩), .pointer (some ⟨w.heap.size + 1 + 1, 0, none⟩), .pointer (some ⟨w.heap.size + 1 + 1 + 1, 0, none⟩), .pointer (some ⟨w.heap.size + 1, 0, none⟩)]) ∧
      w'.cell? ⟨w.heap.size, 0, none⟩ = some (.slice aa na ac) ∧ w'.cell? ⟨w.heap.size + 1 + 1, 0, none⟩ = some (.int .i64 many) ∧ w'.cell? ⟨w.heap.size + 1 + 1 + 1, 0, none⟩ = some (.func (.func G) #[] gcaps) ∧ w'.cell? ⟨w.heap.size + 1, 0, none⟩ = some (.int .i64 which) ∧ Kept NoB w w' := by
  go_enter Tryd.func16, Tryd.ntmps16
  go_wp2
  go_ret
  have new1 : ∀ (wz : World) (g : Nat) (x : Value) (e : TypeId), wz.heap.size = g → (wz.alloc (.cells #[x] e)).cell? ⟨g, 0, none⟩ = some x := fun wz g x e h => by subst h; exact World.cell?_alloc_new wz _ _ 0
  exact ⟨rfl, cell_al (cell_al (cell_al (new1 _ _ _ _ rfl) _) _) _, cell_al (new1 _ _ _ _ (by simp)) _, new1 _ _ _ _ (by simp), cell_al (cell_al (new1 _ _ _ _ (by simp)) _) _, by repeat (first | exact Kept.refl _ _ | refine Kept.alloc ?_ _)⟩

def endsL (n : Nat) (o : Op5) (_ _ : Nat) : Option (List Op5) :=
  if o.k = 17 then some [⟨10, n, 0, 0, 0⟩] else if o.k = 10 ∧ o.a = n then some [⟨17, 0, 0, 0, 0⟩] else none

set_option maxHeartbeats 1000000 in
theorem ends_17 (g n : Nat) (ca : Option Addr) (cc : Nat) (a b c d : Int) (i f : Nat) (w : World) (hg : w.cell? ⟨g, 0, none⟩ = some (.slice ca n cc)) :
    Calls Tryd.prog 33 #[.agg #[.int .i64 17, .int .i64 a, .int .i64 b, .int .i64 c, .int .i64 d], .int .i64 i, .int .i64 f, .pointer (some ⟨g, 0, none⟩)] w (ByPost w (some [⟨10, n, 0, 0, 0⟩])) := by
  have lg := World.block_lt_of_cell? w _ hg
  dsimp only at lg
  go_enter Tryd.func33, Tryd.ntmps33
  go_wp2_with fail
  refine (wI_calls _ _ _ _ _).mono ?_
  rintro e' w2 ⟨rfl, rfl⟩
  go_wp2_with fail
  go_ret
  exact by_some _ (by repeat (first | exact Kept.refl _ _ | refine Kept.alloc ?_ _)) _ _ (by decide) (by decide) (by simp) rfl
set_option maxHeartbeats 1000000 in
theorem ends_10_t (g n : Nat) (ca : Option Addr) (cc : Nat) (b c d : Int) (i f : Nat) (w : World) (hg : w.cell? ⟨g, 0, none⟩ = some (.slice ca n cc)) :
    Calls Tryd.prog 33 #[.agg #[.int .i64 10, .int .i64 n, .int .i64 b, .int .i64 c, .int .i64 d], .int .i64 i, .int .i64 f, .pointer (some ⟨g, 0, none⟩)] w (ByPost w (some [⟨17, 0, 0, 0, 0⟩])) := by
  have lg := World.block_lt_of_cell? w _ hg
  dsimp only at lg
  go_enter Tryd.func33, Tryd.ntmps33
  go_wp2_with fail
  refine (target_calls w.heap.size 0 10 _ (World.cell?_alloc_new w _ _ 0)).mono ?_
  rintro e' w' ⟨rfl, rfl⟩
  have ht : (tgtOff 10).map (fun j => (⟨w.heap.size, 0 + j, none⟩ : Addr)) = some ⟨w.heap.size, 1, none⟩ := rfl
  rw [ht]
  clear ht
  go_wp2_with fail
  go_quiet (fail)
  go_wp2_with fail
  go_ret
  exact by_some _ (((Kept.refl NoB w).alloc _).drewN) _ _ (by decide) (by decide) (by simp) rfl
set_option maxHeartbeats 1000000 in
theorem ends_10_f (g n : Nat) (ca : Option Addr) (cc : Nat) (a b c d : Int) (i f : Nat) (w : World) (hg : w.cell? ⟨g, 0, none⟩ = some (.slice ca n cc)) (ha : (a == (n : Int)) = false) :
    Calls Tryd.prog 33 #[.agg #[.int .i64 10, .int .i64 a, .int .i64 b, .int .i64 c, .int .i64 d], .int .i64 i, .int .i64 f, .pointer (some ⟨g, 0, none⟩)] w (ByPost w (none)) := by
  have lg := World.block_lt_of_cell? w _ hg
  dsimp only at lg
  go_enter Tryd.func33, Tryd.ntmps33
  go_wp2_with fail
  refine (target_calls w.heap.size 0 10 _ (World.cell?_alloc_new w _ _ 0)).mono ?_
  rintro e' w' ⟨rfl, rfl⟩
  have ht : (tgtOff 10).map (fun j => (⟨w.heap.size, 0 + j, none⟩ : Addr)) = some ⟨w.heap.size, 1, none⟩ := rfl
  rw [ht]
  clear ht
  go_wp2_with fail
  go_quiet (fail)
  go_wp2_with fail
  go_ret
  exact by_none (((Kept.refl NoB w).alloc _).drewN)
set_option maxHeartbeats 1000000 in
theorem ends_none (g n : Nat) (ca : Option Addr) (cc : Nat) (k a b c d : Int) (i f : Nat) (h17 : (k == 17) = false) (h10 : (k == 10) = false) (w : World) (hg : w.cell? ⟨g, 0, none⟩ = some (.slice ca n cc)) :
    Calls Tryd.prog 33 #[.agg #[.int .i64 k, .int .i64 a, .int .i64 b, .int .i64 c, .int .i64 d], .int .i64 i, .int .i64 f, .pointer (some ⟨g, 0, none⟩)] w (ByPost w none) := by
  have lg := World.block_lt_of_cell? w _ hg
  dsimp only at lg
  go_enter Tryd.func33, Tryd.ntmps33
  go_wp2_with fail
  refine (target_calls w.heap.size 0 k _ (World.cell?_alloc_new w _ _ 0)).mono ?_
  rintro e' w' ⟨rfl, rfl⟩
  generalize (tgtOff k).map (fun j => (⟨w.heap.size, 0 + j, none⟩ : Addr)) = P
  go_wp2_with fail
  go_quiet (fail)
  go_wp2_with fail
  go_ret
  exact by_none (((Kept.refl NoB w).alloc _).drewN)
theorem ends_ok {w0 : World} {g n : Nat} {ca : Option Addr} {cc : Nat} (hg : w0.cell? ⟨g, 0, none⟩ = some (.slice ca n cc)) : ByOk w0 33 #[.pointer (some ⟨g, 0, none⟩)] 0 n (endsL n) := by
  intro w ⟨k, a, b, c, d⟩ i f hk _ _ _
  have h := hk.cell hg id
  unfold endsL
  dsimp only
  by_cases h17 : k = 17
  · subst h17
    rw [if_pos rfl]
    exact ends_17 g n ca cc a b c d i f w h
  rw [if_neg h17]
  by_cases h10 : k = 10
  · subst h10
    by_cases ha : a = n
    · subst ha
      rw [if_pos ⟨rfl, rfl⟩]
      exact ends_10_t g n ca cc b c d i f w h
    · rw [if_neg (fun h => ha h.2)]
      exact ends_10_f g n ca cc a b c d i f w h (by simpa using ha)
  · rw [if_neg (fun h => h10 h.1)]
    exact ends_none g n ca cc k a b c d i f (by simpa using h17) (by simpa using h10) w h

/-- What wSwap's function answers, its arguments in one row. -/
theorem swap_flat {w : World} {G gA gM gY gW na many : Nat} {which : Int} {gcaps : Array Value} {byL : Op5 → Nat → Nat → Option (List Op5)} {l : List Op5} {aa : Option Addr} {ac : Nat} {cv : Value} {C : Nat} (hok : okCode l = true) (hna : na ≤ 8) (hmany : many ≤ 8)
    (hA : w.cell? ⟨gA, 0, none⟩ = some (.slice aa na ac)) (hM : w.cell? ⟨gM, 0, none⟩ = some (.int .i64 many)) (hY : w.cell? ⟨gY, 0, none⟩ = some (.func (.func G) #[] gcaps)) (hW : w.cell? ⟨gW, 0, none⟩ = some (.int .i64 which))
    (hby : ByOk w G gcaps many l.length byL) (hcall : ∀ (a : Array Value) (w : World), (callFunc G a).run Tryd.prog w = .ok (.enter G a) w) (hops : OpsAt w cv C l) :
    Calls Tryd.prog 41 #[cv, .pointer (some ⟨gA, 0, none⟩), .pointer (some ⟨gM, 0, none⟩), .pointer (some ⟨gY, 0, none⟩), .pointer (some ⟨gW, 0, none⟩)] w fun e w' =>
      ∃ v, e = .returned v ∧ Kept NoB w w' ∧ ((swapL na which many byL l = none ∧ v = .slice none 0 0) ∨ (∃ l' M ad cap, swapL na which many byL l = some l' ∧ v = .slice (some ad) l'.length cap ∧ OpsAt w' v M l')) := by
  have h := swap_calls hok hna hmany hA hM hY hW hby hcall hops
  have e : (#[cv] ++ #[Value.pointer (some ⟨gA, 0, none⟩), .pointer (some ⟨gM, 0, none⟩), .pointer (some ⟨gY, 0, none⟩), .pointer (some ⟨gW, 0, none⟩)] : Array Value) = #[cv, .pointer (some ⟨gA, 0, none⟩), .pointer (some ⟨gM, 0, none⟩), .pointer (some ⟨gY, 0, none⟩), .pointer (some ⟨gW, 0, none⟩)] := by simp
  rw [e] at h
  exact h
theorem call33 (a : Array Value) (w : World) : (callFunc 33 a).run Tryd.prog w = .ok (.enter 33 a) w := by kernel_rfl
def endsChange (how which : Int) (na : Nat) (l : List Op5) : Option (List Op5) :=
  if how.tmod 2 = 0 then some (l ++ [⟨17, 0, 0, 0, 0⟩]) else swapL na which 0 (endsL l.length) l
set_option maxHeartbeats 4000000 in
theorem ends_change {w0 : World} {gH gA gW na : Nat} {how which : Int} {l : List Op5} {aa : Option Addr} {ac : Nat} (hok : okCode l = true) (hna : na ≤ 8)
    (hH : w0.cell? ⟨gH, 0, none⟩ = some (.int .i64 how)) (hA : w0.cell? ⟨gA, 0, none⟩ = some (.slice aa na ac)) (hW : w0.cell? ⟨gW, 0, none⟩ = some (.int .i64 which)) :
    ChangeOk w0 32 #[.pointer (some ⟨gH, 0, none⟩), .pointer (some ⟨gA, 0, none⟩), .pointer (some ⟨gW, 0, none⟩)] (endsChange how which na) l := by
  intro w cv hk base hb1 hb2 hown
  have hl := okCode_len hok
  obtain ⟨a, cc, rfl⟩ := own_any hown
  obtain ⟨n, hn⟩ : ∃ n, n = l.length := ⟨_, rfl⟩
  rw [← hn] at hown hl ⊢
  have Hn := Lib.hid hn
  have Ho := Lib.hid hown
  have Hok := Lib.hid hok
  have Hk := Lib.hid hk
  have cH := hk.cell hH id
  have cA := hk.cell hA id
  have cW := hk.cell hW id
  have lH := World.block_lt_of_cell? w _ cH
  have lA := World.block_lt_of_cell? w _ cA
  have lW := World.block_lt_of_cell? w _ cW
  dsimp only at lH lA lW
  clear hn hown hok hk hH hA hW
  obtain ⟨i0, hi, hz0, hz1, hz2⟩ := info_parts info28
  by_cases hh : how.tmod 2 = 0
  · have HH := Lib.hid hh
    have hh' : (how.tmod 2 == 0) = true := by simpa using hh
    clear hh
    show Calls Tryd.prog 32 #[.slice a n cc, .pointer (some ⟨gH, 0, none⟩), .pointer (some ⟨gA, 0, none⟩), .pointer (some ⟨gW, 0, none⟩)] w _
    go_enter Tryd.func32, Tryd.ntmps32
    go_wp2_with (at_builtin; refine wpList_append_own _ rfl (.tmp 9) (.tmp 11) 22 rfl base 28 i0 (.agg #[.int .i64 0, .int .i64 0, .int .i64 0, .int .i64 0, .int .i64 0]) 5 40 Tryd.underlying22 hi hz0 hz1 hz2 rfl (by decide) (.slice a n cc) n (opsV l) rfl ((Ho.out.alloc _).alloc _) ⟨w.heap.size + 1, 0, none⟩ 1 1 (opsV [⟨17, 0, 0, 0, 0⟩]) rfl rfl ?h2 ?h3 ?h4 ?h5 ?h6 ?_; rotate_right; intro v' w3 hown hgrow _)
    · have k3 : Kept (fun b => base ≤ b) w w3 := (((Kept.refl _ w).alloc _).alloc _).grown hgrow (fun k hk _ => (Ho.out.lt k hk).1)
      obtain ⟨g3, q3, rfl, _, _, _, _⟩ := own_row (by omega) hown
      obtain ⟨D, hD, _⟩ := RowAt.ofOwns hown
      go_ret
      have e1 : n + 1 = (l ++ [(⟨17, 0, 0, 0, 0⟩ : Op5)]).length := by rw [List.length_append, ← Hn.out]; rfl
      refine ⟨.slice (some ⟨g3, 0, none⟩) (n + 1) q3, rfl, k3, .inr ⟨l ++ [⟨17, 0, 0, 0, 0⟩], D, _, q3, ?_, by rw [← e1], ?_⟩⟩
      · unfold endsChange; rw [if_pos HH.out]
      · unfold OpsAt
        rw [← e1, opsV_append]
        exact hD
    · intro j u hu
      have hadd : (⟨w.heap.size + 1, 0, none⟩ : Addr).add j = ⟨w.heap.size + 1, j, none⟩ := by unfold Addr.add; split <;> simp_all
      rw [hadd]
      have h := World.cell?_alloc_new (w.alloc (.cells #[.slice a n cc] 22)) (opsV [⟨17, 0, 0, 0, 0⟩]).toArray 28 j
      rw [World.size_alloc] at h
      refine h.trans ?_
      rw [← hu]
      simp
    · exact one_opsV _
    · unfold maxLen; omega
    · omega
    · simp only [World.size_alloc]; omega
  · have HH := Lib.hid hh
    have hh' : (how.tmod 2 == 0) = false := by simpa using hh
    clear hh
    show Calls Tryd.prog 32 #[.slice a n cc, .pointer (some ⟨gH, 0, none⟩), .pointer (some ⟨gA, 0, none⟩), .pointer (some ⟨gW, 0, none⟩)] w _
    go_enter Tryd.func32, Tryd.ntmps32
    go_wp2_with fail
    have cC : (w.alloc (.cells #[.slice a n cc] 22)).cell? ⟨w.heap.size, 0, none⟩ = some (.slice a n cc) := World.cell?_alloc_new w #[.slice a n cc] 22 0
    have cA2 := cell_al cA (.cells #[.slice a n cc] 22)
    have cW2 := cell_al cW (.cells #[.slice a n cc] 22)
    go_region_held3 (fun w' => w'.cell? ⟨w.heap.size, 0, none⟩ = some (.slice a n cc) ∧ w'.cell? ⟨gA, 0, none⟩ = some (.slice aa na ac) ∧ w'.cell? ⟨gW, 0, none⟩ = some (.int .i64 which))
      (refine ⟨?_, ?_, ?_⟩ <;> (repeat (with_reducible (first | assumption | refine cell_al ?_ _ | refine cell_dr ?_))))
      (first
        | (go_at_call 16
           refine (wSwap_calls aa na ac which 0 33 #[.pointer (some ⟨w.heap.size, 0, none⟩)] _).mono ?_
           rintro e' w2 ⟨rfl, x1, x2, x3, x4, k2⟩
           have y1 := k2.cell (cell_dr cC) id
           have y2 := k2.cell (cell_dr cA2) id
           have y3 := k2.cell (cell_dr cW2) id
           have K2 : Hid (Kept NoB w w2) := (((Kept.refl NoB w).alloc _).drew).trans k2
           simp only [World.size_drew, World.size_alloc] at x1 x2 x3 x4
           have X1 := Lib.hid x1
           have X2 := Lib.hid x2
           have X3 := Lib.hid x3
           have X4 := Lib.hid x4
           clear x1 x2 x3 x4 k2)
        | (go_at_call 41
           obtain ⟨D, hD, _⟩ := RowAt.ofOwns (K2.out.row Ho.out (fun _ _ h => h))
           refine (swap_flat (byL := endsL n) (C := D) (l := l) (gA := w.heap.size + 1) (gM := w.heap.size + 1 + 1 + 1) (gY := w.heap.size + 1 + 1 + 1 + 1) (gW := w.heap.size + 1 + 1) (w := w2) (cv := .slice a n cc) (na := na) (many := 0) (which := which) Hok.out hna (by decide) X1.out X2.out X3.out X4.out (by rw [← Hn.out]; exact ends_ok y1) call33 (by unfold OpsAt; rw [← Hn.out]; exact hD)).mono ?_
           rintro e' w4 ⟨v, rfl, k4, hv⟩
           have z1 := k4.cell y1 id
           have z2 := k4.cell y2 id
           have z3 := k4.cell y3 id
           have K4 : Hid (Kept NoB w w4) := K2.out.trans k4
           have Hv := Lib.hid hv
           clear k4 hv hD))
    clear z1 z2 z3 y1 y2 y3 cC cA2 cW2
    go_wp2_with fail
    go_ret
    refine ⟨v, rfl, K4.out.noB, ?_⟩
    unfold endsChange
    rw [if_neg HH.out, ← Hn.out]
    exact Hv.out
end Go.Proofs.YtmnfgigieafehaaDoor
