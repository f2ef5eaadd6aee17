/- The walk of vm's Run on a code that may be: it answers what 'runAns' says, and changes nothing that was there. Conditions: the three slices' cells hold what is said; the code may be; the sizes and the limit are in their bounds. -/
import Derived.Test.YtmnfgigieafehaaDoorStep
import Derived.Test.YtmnfgigieafehaaDoorBegin
import Derived.Test.YtmnfgigieafehaaDoorMay
import Derived.Test.YtmnfgigieafehaaDoorFacts
namespace Go.Proofs.YtmnfgigieafehaaDoor
open Go.RowKit
set_option maxRecDepth 100000

theorem WordsAt.ofOwns {w : World} {base T n : Nat} {v : Value} {l : List Int} (h : w.ownsRow base 3 1 v n (intsV l)) (hn : n = l.length) (hT : T < base) : ∃ W, WordsAt w v W T w.heap.size l ∧ (0 < l.length → base ≤ W) ∧ (l.length = 0 → W = T) := by
  subst hn
  rcases h.2 with ⟨hv, h0⟩ | ⟨g, cap, cur, hv, hb, hg, hnc, hcm, hcs, htake⟩
  · exact ⟨T, ⟨⟨none, 0, by rw [h0]; exact hv, fun h => by omega⟩, fun i hi => by omega, fun i hi => by omega⟩, fun h => by omega, fun _ => rfl⟩
  · by_cases h0 : l.length = 0
    · exact ⟨T, ⟨⟨_, cap, hv, fun h => by omega⟩, fun i hi => by omega, fun i hi => by omega⟩, fun h => by omega, fun _ => rfl⟩
    · refine ⟨g, ⟨⟨_, cap, hv, fun _ => ⟨rfl, by omega, (Array.getElem?_eq_some_iff.1 hg).1⟩⟩, fun i hi => ?_, fun i hi => frozen_of_heap hg⟩, fun _ => hb, fun h => absurd h h0⟩
      have h1 := get_intsV hi
      rw [← htake, List.getElem?_take] at h1
      split at h1
      · rw [cell_of_heap hg, ← h1]; simp
      · cases h1
theorem WordsAt.ints {w : World} {v : Value} {W T B : Nat} {l : List Int} (h : WordsAt w v W T B l) : IntsAt w v W l := by
  obtain ⟨a, cap, hv, ha⟩ := h.val
  refine ⟨by rw [length_intsV]; omega, a, cap, hv, fun h0 => ⟨0, (ha h0).1, fun j u hu => ?_⟩⟩
  have hj : j < l.length := by
    have := (List.getElem?_eq_some_iff.1 hu).1
    rwa [length_intsV] at this
  rw [get_intsV hj] at hu
  rw [Nat.zero_add, ← hu]
  exact h.cell j hj

/-- What Run hands back. -/
def RunPost (l : List Op5) (args ws : List Int) (lim : Nat) (w : World) (e : Ending) (w' : World) : Prop :=
  ∃ tv wv T' W', e = .returned (.tuple #[tv, wv, .int .i64 (runAns l args ws lim).steps, .int .i64 (runAns l args ws lim).e]) ∧
    IntsAt w' tv T' (runAns l args ws lim).told ∧ IntsAt w' wv W' (runAns l args ws lim).ws ∧ Kept NoB w w'

theorem RunPost.mk {l : List Op5} {args ws : List Int} {lim : Nat} {w w' : World} {s : St} {k : Nat} {e : Int} {tv wv : Value} {B W T B' : Nat} (hr : runS l lim (beginS l args ws) = (s, k)) (he : e = if s.ov then s.cd else 11)
    (ht : w'.ownsRow B 3 1 tv s.told.length (s.told.map (Value.int .i64))) (hw : WordsAt w' wv W T B' s.ws) (hk : Kept NoB w w') : RunPost l args ws lim w (.returned (.tuple #[tv, wv, .int .i64 k, .int .i64 e])) w' := by
  obtain ⟨C, hC, _⟩ := RowAt.ofOwns ht
  have e1 : runAns l args ws lim = { told := s.told, ws := s.ws, steps := k, e := e } := by simp only [runAns, hr, he]
  exact ⟨tv, wv, C, W, by rw [e1], by rw [e1]; exact hC, by rw [e1]; exact hw.ints, hk⟩

set_option maxHeartbeats 4000000 in
theorem run_walk (C A D lim : Nat) (l : List Op5) (args ws : List Int) (ca aa sa : Option Addr) (ccap acap scap n m N : Nat) (w : World)
    (hn : Hid (n = l.length)) (hm : Hid (m = args.length)) (hN : Hid (N = ws.length))
    (hc : Hid (OpsAt w (.slice ca n ccap) C l)) (ha : Hid (IntsAt w (.slice aa m acap) A args)) (hs : Hid (IntsAt w (.slice sa N scap) D ws)) (hsh : Hid (Shapes w)) (hok : Hid (okCode l = true))
    (hn8 : n ≤ 200) (hm8 : m ≤ 8) (hN8 : N ≤ 200) (hlim : lim ≤ 6000) (hblt : Hid (0 < l.length → C < w.heap.size)) :
    Calls Tryd.prog 36 #[.slice ca n ccap, .slice aa m acap, .slice sa N scap, .int .i64 lim] w (RunPost l args ws lim w) := by
  go_enter Tryd.func36, Tryd.ntmps36
  go_wp2_with fail
  refine (may_calls hc.out hsh.out (by rw [← hn.out]; omega)).mono ?_
  rintro e' w1 ⟨rfl, k1⟩
  have K1 := Lib.hid k1; clear k1
  rw [hok.out]
  go_wp2_with fail
  refine (begin_calls (ws := ws) (n := n) (args := args) (A := A) ⟨ca, ccap, rfl⟩ (ha.out.kept K1.out (fun _ f => f)) (by rw [← hm.out]; exact hm8)).mono ?_
  rintro e' w2 ⟨rfl, ht, k2, hT⟩
  have K2 := Lib.hid k2; clear k2
  have Ht := Lib.hid ht; clear ht
  go_wp2_with fail
  refine (clone_calls ((hs.out.kept K1.out (fun _ f => f)).kept K2.out (fun _ f => f)) (one_intsV ws) (by rw [← hN.out]; omega)).mono ?_
  rintro e' w3 ⟨wv, rfl, ho, k3⟩
  have K3 := Lib.hid k3; clear k3
  have Ho := Lib.hid ho; clear ho
  obtain ⟨W, hW0⟩ := WordsAt.ofOwns Ho.out rfl hT
  have HW := Lib.hid hW0; clear hW0
  have H0 : Hid (Inv w3 w1.heap.size W w3.heap.size (.slice ca n ccap) wv (beginS l args ws)) := by
    refine ⟨⟨.slice none 0 0, ?_, World.ownsRow_nil _ _ _ _⟩, HW.out.1, Nat.lt_of_lt_of_le hT K3.out.size, Nat.le_refl _⟩
    have := Ht.out.kept K3.out id
    rw [hn.out] at this ⊢
    exact this
  have HC : Hid (∀ w', Kept (S3 w1.heap.size W w3.heap.size) w3 w' → CodeAt w' (.slice ca n ccap) C l) := by
    intro w' hk'
    have h1 := (((hc.out.kept K1.out (fun _ f => f)).kept K2.out (fun _ f => f)).kept K3.out (fun _ f => f)).code
    refine h1.kept hk' (fun hl => ?_)
    have hC := hblt.out hl
    have s1 := K1.out.size
    have s2 := K2.out.size
    have s3 := K3.out.size
    rintro (h | h | h)
    · omega
    · by_cases h0 : ws.length = 0
      · have := HW.out.2.2 h0; omega
      · have := HW.out.2.1 (by omega); omega
    · omega
  go_wp2_with fail
  go_loopw [10] (fun i wr => ∃ (k : Nat) (s : St), i = .int .i64 k ∧ RunAt l lim (beginS l args ws) k s ∧ StOk l.length ws.length s ∧ Good w3 wr w1.heap.size W w3.heap.size (.slice ca n ccap) wv s) (fun i _ => lim - (intOf i).toNat)
  case atStart => exact ⟨0, _, rfl, RunAt.start _ _ _, beginS_ok, Good.start H0.out⟩
  case round =>
    obtain ⟨k, s, rfl, hrun, hst, hg⟩ := hrel
    have Hrun := Lib.hid hrun; clear hrun
    have Hst := Lib.hid hst; clear hst
    have Hg := Lib.hid hg; clear hg
    obtain ⟨tv, ht, hto⟩ := Hg.out.inv.th
    have c28 := ht.c28
    have c27 := ht.c27
    have c26 := ht.c26
    have fr := ht.fr
    have hk := Hrun.out.1
    cases hov : s.ov
    · have Hov : Hid (s.ov = false) := hov
      rw [hov] at c28
      clear hov
      by_cases hlt : k < lim
      · have hlt' : (k : Int) < lim := by omega
        go_wp2_with fail
        refine (step_calls l wr Hg.out.inv (HC.out wr Hg.out.kept) Hov.out (Hst.out.pc Hov.out) (okCode_at hok.out (Hst.out.pc Hov.out)) (by rw [← hn.out]; exact hn8) (by rw [Hst.out.ws, ← hN.out]; exact hN8) Hst.out.told).mono ?_
        rintro e' w5 ⟨rfl, hg5⟩
        have Hg5 := Lib.hid hg5; clear hg5
        go_wp2_with fail
        go_roundw
        case rel => exact ⟨k + 1, _, by go_num, Hrun.out.step Hov.out hlt, stepS_ok hok.out Hst.out Hov.out, Hg.out.trans Hg5.out⟩
        case measure => simp [intOf]; omega
      · have hlt' : ¬ ((k : Int) < lim) := by omega
        go_wp2_with fail
        go_quiet (fail)
        go_wp2_with fail
        refine bodyPost_ret (v := .tuple #[tv, wv, .int .i64 k, .int .i64 11]) (by simp [results, Tryd.results36, go_sem]) rfl ?_
        have hg' := (Hg.out.setCode 11).drewN nq
        have hkept : Kept NoB w w3 := (K1.out.trans K2.out).trans K3.out
        have hs3 : ∀ i, i < w.heap.size → S3 w1.heap.size W w3.heap.size i → NoB i := by
          intro i hi h
          have s1 := K1.out.size
          have s2 := K2.out.size
          have s3 := K3.out.size
          rcases h with h | h | h
          · omega
          · by_cases h0 : ws.length = 0
            · have := HW.out.2.2 h0; omega
            · have := HW.out.2.1 (by omega); omega
          · omega
        obtain ⟨tv', ht', hto'⟩ := hg'.inv.th
        have etv : tv' = tv := Option.some.inj (ht'.c26.symm.trans (ht.setCode 11).c26)
        subst etv
        exact RunPost.mk (Hrun.out.full (by omega)) (by rw [Hov.out]; rfl) hto' hg'.inv.words (hkept.trans' hg'.kept hs3)
    · have Hov : Hid (s.ov = true) := hov
      rw [hov] at c28
      clear hov
      go_wp2_with fail
      go_quiet (fail)
      go_wp2_with fail
      refine bodyPost_ret (v := .tuple #[tv, wv, .int .i64 k, .int .i64 s.cd]) (by simp [results, Tryd.results36, go_sem]) rfl ?_
      have hkept : Kept NoB w w3 := (K1.out.trans K2.out).trans K3.out
      have hs3 : ∀ i, i < w.heap.size → S3 w1.heap.size W w3.heap.size i → NoB i := by
        intro i hi h
        have s1 := K1.out.size
        have s2 := K2.out.size
        have s3 := K3.out.size
        rcases h with h | h | h
        · omega
        · by_cases h0 : ws.length = 0
          · have := HW.out.2.2 h0; omega
          · have := HW.out.2.1 (by omega); omega
        · omega
      exact RunPost.mk (Hrun.out.over Hov.out) (by rw [Hov.out]; rfl) hto (Hg.out.drewN nq).inv.words (hkept.trans' (Hg.out.drewN nq).kept hs3)
/-- Run on a code that may be. -/
theorem run_calls {w : World} {cv av sv : Value} {C A D lim : Nat} {l : List Op5} {args ws : List Int} (hc : OpsAt w cv C l) (ha : IntsAt w av A args) (hs : IntsAt w sv D ws) (hsh : Shapes w) (hok : okCode l = true)
    (hm8 : args.length ≤ 8) (hN8 : ws.length ≤ 200) (hlim : lim ≤ 6000) :
    Calls Tryd.prog 36 #[cv, av, sv, .int .i64 lim] w (RunPost l args ws lim w) := by
  obtain ⟨ca, ccap, rfl, _⟩ := hc.val
  obtain ⟨aa, acap, rfl, _⟩ := ha.val
  obtain ⟨sa, scap, rfl, _⟩ := hs.val
  exact run_walk C A D lim l args ws ca aa sa ccap acap scap _ _ _ w rfl rfl rfl hc ha hs hsh hok (okCode_len hok) hm8 hN8 hlim (fun h0 => hc.lt (by decide) h0)
end Go.Proofs.YtmnfgigieafehaaDoor
