/- The walk of wRuns: it answers true where the changed code, if there is one, tells the same. Conditions: the slices' cells hold what is said; the function that changes does what 'ChangeOk' says; the plain law 'WLaw'. -/
import Derived.Test.YtmnfgigieafehaaDoorPlay
import Derived.Deep.OwnRows
namespace Go.Proofs.YtmnfgigieafehaaDoor
open Go.RowKit
set_option maxRecDepth 100000

/-- What a function that changes a code does: nil, or a new code. -/
def ChangeOk (w0 : World) (F : Nat) (caps : Array Value) (changeL : List Op5 → Option (List Op5)) (l : List Op5) : Prop :=
  ∀ (w : World) (cv : Value), Kept NoB w0 w → ∀ base, w0.heap.size ≤ base → base ≤ w.heap.size → w.ownsRow base 28 5 cv l.length (opsV l) →
    Calls Tryd.prog F (#[cv] ++ caps) w fun e w' => ∃ v, e = .returned v ∧ Kept (fun b => base ≤ b) w w' ∧
      ((changeL l = none ∧ v = .slice none 0 0) ∨ (∃ l' M ad cap, changeL l = some l' ∧ v = .slice (some ad) l'.length cap ∧ OpsAt w' v M l'))

/-- The plain law of a change. -/
def WLaw (l : List Op5) (args ws : List Int) (r : Option (List Op5)) : Prop :=
  okCode l = true → args.length ≤ 8 → ws.length ≤ 200 → (runAns l args ws 1000).e ≠ 11 → ∀ l', r = some l' → l'.length ≤ 200 →
    okCode l' = true ∧ 0 < l'.length ∧ ((runAns l' args ws 6000).e ≠ 11 →
      (runAns l args ws 1000).e = (runAns l' args ws 6000).e ∧ (runAns l args ws 1000).told = (runAns l' args ws 6000).told ∧ (runAns l args ws 1000).ws = (runAns l' args ws 6000).ws)

theorem made_zero (w : World) (L i : Nat) (h : i < L) : (w.alloc (.cells (madeCells #[.int .i64 0] L) 3)).cell? ⟨w.heap.size, i, none⟩ = some (.int .i64 0) := by
  rw [World.cell?_alloc_new]
  have e : ∀ j, j % 1 = 0 := fun j => Nat.mod_one j
  simp [madeCells, h, e]
theorem mk_slice (L : Nat) (hL : L ≤ 6000) (w : World) : (Instr.makeSlice 23 (.int .i64 (L : Int)) (.int .i64 (L : Int))).run Tryd.prog w = .ok (.slice (some ⟨w.heap.size, 0, none⟩) L L) (w.alloc (.cells (madeCells #[.int .i64 0] L) 3)) :=
  run_make_row' (P := Tryd.prog) 23 3 (.int .i64 0) 8 Tryd.underlying23 info3 rfl .i64 .i64 L (by omega) (by omega) w

theorem call41 (a : Array Value) (w : World) : (callFunc 41 a).run Tryd.prog w = .ok (.enter 41 a) w := by kernel_rfl
theorem call32 (a : Array Value) (w : World) : (callFunc 32 a).run Tryd.prog w = .ok (.enter 32 a) w := by kernel_rfl
set_option maxHeartbeats 4000000 in
theorem runs_walk (C A D F : Nat) (caps : Array Value) (changeL : List Op5 → Option (List Op5)) (l : List Op5) (args ws : List Int) (ca aa sa : Option Addr) (cc ac sc n m N : Nat) (w : World)
    (hn : Hid (n = l.length)) (hm : Hid (m = args.length)) (hN : Hid (N = ws.length)) (hc : Hid (OpsAt w (.slice ca n cc) C l)) (ha : Hid (IntsAt w (.slice aa m ac) A args)) (hs : Hid (IntsAt w (.slice sa N sc) D ws)) (hsh : Hid (Shapes w))
    (hb1 : n * 40 ≤ 140737488351232) (hb2 : m * 8 ≤ 140737488351232) (hb3 : N * 8 ≤ 140737488351232)
    (hch : Hid (okCode l = true → args.length ≤ 8 → ChangeOk w F caps changeL l)) (hlaw : Hid (WLaw l args ws (changeL l))) (hcall : ∀ (a : Array Value) (w : World), (callFunc F a).run Tryd.prog w = .ok (.enter F a) w) :
    Calls Tryd.prog 15 #[.slice ca n cc, .slice aa m ac, .slice sa N sc, .func (.func F) #[] caps] w fun e w' => e = .returned (.bool true) ∧ Kept NoB w w' := by
  have hq := fun (w : World) (a : Option Addr) (n c : Nat) => Lib.run_eql_slice_nil (P := Tryd.prog) w 22 28 a n c 0 0 Tryd.underlying22
  go_enter Tryd.func15, Tryd.ntmps15
  go_wp2_with fail
  refine (sure_calls _ hsh.out).mono ?_
  rintro e' w1 ⟨rfl, k1⟩
  have K1 := Lib.hid k1; clear k1
  go_wp2_with fail
  refine (may_calls (hc.out.kept K1.out (fun _ f => f)) (hsh.out.kept K1.out id) (by rw [← hn.out]; exact hb1)).mono ?_
  rintro e' w2 ⟨rfl, k2⟩
  have K2 : Hid (Kept NoB w w2) := K1.out.trans k2
  clear k2 K1
  cases hok : okCode l
  · clear hok
    go_wp2_with fail
    go_ret
    exact ⟨rfl, K2.out⟩
  have Hok := Lib.hid hok; clear hok
  by_cases hm8 : m ≤ 8
  · by_cases hN2 : N ≤ 200
    · go_wp2_with fail
      refine (clone_calls (hs.out.kept K2.out (fun _ f => f)) (one_intsV ws) (by rw [← hN.out]; exact hb3)).mono ?_
      rintro e' w3 ⟨sv1, rfl, ho3, k3⟩
      have K3 : Hid (Kept NoB w w3) := K2.out.trans k3
      have Ho3 := Lib.hid ho3
      clear k3 K2 ho3
      obtain ⟨D1, hs1, _⟩ := RowAt.ofOwns Ho3.out
      have Hs1 : Hid (IntsAt w3 sv1 D1 ws) := hs1
      clear hs1 Ho3
      go_wp2_with fail
      refine (run_calls (lim := 1000) (hc.out.kept K3.out (fun _ f => f)) (ha.out.kept K3.out (fun _ f => f)) Hs1.out (hsh.out.kept K3.out id) Hok.out (by rw [← hm.out]; exact hm8) (by rw [← hN.out]; exact hN2) (by decide)).mono ?_
      rintro e' w4 ⟨tv, wv, T1, W1, rfl, ht1, hw1, k4⟩
      have K4 : Hid (Kept NoB w w4) := K3.out.trans k4
      have b1 := runAns_told (args := args) (ws := ws) (lim := 1000) Hok.out
      have b2 := runAns_ws (args := args) (ws := ws) (lim := 1000) Hok.out
      obtain ⟨A1, hA1⟩ : ∃ x, x = runAns l args ws 1000 := ⟨_, rfl⟩
      rw [← hA1] at ht1 hw1 b1 b2 ⊢
      have Ht1 := Lib.hid ht1
      have Hw1 := Lib.hid hw1
      have HA1 := Lib.hid hA1
      have B2 := Lib.hid b2
      clear k4 K3 Hs1 ht1 hw1 hA1 b2
      by_cases he : A1.e = 11
      · have he' : (A1.e == 11) = true := by simpa using he
        clear he
        go_wp2_with fail
        go_ret
        exact ⟨rfl, K4.out⟩
      · have he' : (A1.e == 11) = false := by simpa using he
        have He := Lib.hid he
        clear he
        as_aux_lemma =>
        go_wp2_with fail
        refine (cloneOps_calls (hc.out.kept K4.out (fun _ f => f)) (one_opsV l) (by rw [← hn.out]; exact hb1)).mono ?_
        rintro e' w5 ⟨cv1, rfl, ho5, k5⟩
        have K45 := Lib.hid k5
        have K5 : Hid (Kept NoB w w5) := K4.out.trans k5
        have Ho5 := Lib.hid ho5
        clear k5 ho5
        go_wp2_with fail
        refine (hch.out Hok.out (by rw [← hm.out]; exact hm8) w5 cv1 K5.out w4.heap.size K4.out.size K45.out.size Ho5.out).mono ?_
        rintro e' w6 ⟨v, rfl, k6, hv⟩
        have K56 := Lib.hid k6
        have K6 : Hid (Kept NoB w w6) := K5.out.trans' k6 (fun i hi h => by have := K4.out.size; omega)
        clear k6
        rcases hv with ⟨hnone, rfl⟩ | ⟨l', M, ad, cap, hsome, rfl, hops⟩
        · clear hnone
          go_wp2_with fail
          go_ret
          exact ⟨rfl, K6.out⟩
        · have Hops := Lib.hid hops
          have Hsome := Lib.hid hsome
          clear hops hsome
          by_cases hl' : l'.length ≤ 200
          · obtain ⟨hok2, hpos, hsame⟩ := hlaw.out Hok.out (by rw [← hm.out]; exact hm8) (by rw [← hN.out]; exact hN2) (by rw [← HA1.out]; exact He.out) l' Hsome.out hl'
            have Hok2 := Lib.hid hok2
            have Hpos := Lib.hid hpos
            have Hsame := Lib.hid hsame
            clear hok2 hpos hsame
            as_aux_lemma =>
            go_wp2_with fail
            refine (may_calls Hops.out (hsh.out.kept K6.out id) (by omega)).mono ?_
            rintro e' w7 ⟨rfl, k7⟩
            have K67 := Lib.hid k7
            have K7 : Hid (Kept NoB w w7) := K6.out.trans k7
            clear k7
            rw [Hok2.out]
            go_wp2_with fail
            refine (clone_calls (hs.out.kept K7.out (fun _ f => f)) (one_intsV ws) (by rw [← hN.out]; exact hb3)).mono ?_
            rintro e' w8 ⟨sv2, rfl, ho8, k8⟩
            have K68 : Hid (Kept NoB w6 w8) := K67.out.trans k8
            have K8 : Hid (Kept NoB w w8) := K7.out.trans k8
            obtain ⟨D2, hs2, _⟩ := RowAt.ofOwns ho8
            have Hs2 : Hid (IntsAt w8 sv2 D2 ws) := hs2
            clear k8 ho8 hs2 K67 K7
            go_wp2_with fail
            refine (run_calls (lim := 6000) (Hops.out.kept K68.out (fun _ f => f)) (ha.out.kept K8.out (fun _ f => f)) Hs2.out (hsh.out.kept K8.out id) Hok2.out (by rw [← hm.out]; exact hm8) (by rw [← hN.out]; exact hN2) (by decide)).mono ?_
            rintro e' w9 ⟨tv2, wv2, T2, W2, rfl, ht2, hw2, k9⟩
            have K69 : Hid (Kept NoB w6 w9) := K68.out.trans k9
            have K9 : Hid (Kept NoB w w9) := K8.out.trans k9
            obtain ⟨A2, hA2⟩ : ∃ x, x = runAns l' args ws 6000 := ⟨_, rfl⟩
            have bs : A2.steps ≤ 6000 := by rw [hA2]; exact runAns_steps _ _
            rw [← hA2] at ht2 hw2 ⊢
            have Ht2 := Lib.hid ht2
            have Hw2 := Lib.hid hw2
            have HA2 := Lib.hid hA2
            clear k9 ht2 hw2 hA2 K68 K8 Hs2
            by_cases hf : A2.e = 11
            · have hf' : (A2.e == 11) = true := by simpa using hf
              clear hf
              go_wp2_with fail
              go_ret
              exact ⟨rfl, K9.out⟩
            · have hf' : (A2.e == 11) = false := by simpa using hf
              have Hf := Lib.hid hf
              clear hf
              obtain ⟨q1, q2, q3⟩ := Hsame.out (by rw [← HA2.out]; exact Hf.out)
              rw [← HA1.out, ← HA2.out] at q1 q2 q3
              have q1' : (A1.e != A2.e) = false := by simpa using q1
              have Q1 := Lib.hid q1
              have Q2 := Lib.hid q2
              have Q3 := Lib.hid q3
              clear q1 q2 q3 Hsame
              have KT : Hid (IntsAt w9 tv T1 A1.told ∧ IntsAt w9 wv W1 A1.ws) :=
                ⟨((Ht1.out.kept K45.out (fun _ f => f)).kept K56.out (fun h0 h => by have := Ht1.out.lt (by decide) h0; omega)).kept K69.out (fun _ f => f),
                 ((Hw1.out.kept K45.out (fun _ f => f)).kept K56.out (fun h0 h => by have := Hw1.out.lt (by decide) h0; omega)).kept K69.out (fun _ f => f)⟩
              go_wp2_with fail
              refine (equal_calls KT.out.1 Ht2.out (by omega)).mono ?_
              rintro e' w10 ⟨rfl, k10⟩
              have K9a := Lib.hid k10
              clear k10
              rw [show (A1.told == A2.told) = true by rw [Q2.out]; simp]
              go_wp2_with fail
              refine (equal_calls (KT.out.2.kept K9a.out (fun _ f => f)) (Hw2.out.kept K9a.out (fun _ f => f)) (by rw [B2.out, ← hN.out]; exact hb3)).mono ?_
              rintro e' w11 ⟨rfl, k11⟩
              have K9b : Hid (Kept NoB w9 w11) := K9a.out.trans k11
              have K11 : Hid (Kept NoB w w11) := K9.out.trans K9b.out
              clear k11 K9a
              rw [show (A1.ws == A2.ws) = true by rw [Q3.out]; simp]
              go_wp2_with fail
              have X : Hid (∀ wz, wz = ((((w11.alloc (.cells #[.slice (some ad) l'.length cap] 22)).alloc (.cells #[.int .i64 0, .slice aa m ac] 49)).alloc (.cells #[.slice (some ⟨w11.heap.size + 1, 0, none⟩) 1 1] 50)).alloc (.cells #[.slice sa N sc, .slice (some ⟨w11.heap.size, 0, none⟩) 1 1, .slice (some ⟨w11.heap.size + 1 + 1, 0, none⟩) 1 1] 53)) → MachAt wz w11.heap.size (w11.heap.size + 1 + 1) (w11.heap.size + 1) (.slice (some ad) l'.length cap) (.slice aa m ac) ∧ Kept NoB w11 wz ∧
                  wz.cell? ⟨w11.heap.size + 1 + 1 + 1, 0, none⟩ = some (.slice sa N sc) ∧ wz.cell? ⟨w11.heap.size + 1 + 1 + 1, 1, none⟩ = some (.slice (some ⟨w11.heap.size, 0, none⟩) 1 1) ∧ wz.cell? ⟨w11.heap.size + 1 + 1 + 1, 2, none⟩ = some (.slice (some ⟨w11.heap.size + 1 + 1, 0, none⟩) 1 1)) := by
                intro wz hwz
                subst hwz
                refine ⟨⟨?_, ?_, ?_, ?_⟩, ((((Kept.refl NoB w11).alloc _).alloc _).alloc _).alloc _, ?_, ?_, ?_⟩ <;> simp [go_sem]
              revert X
              generalize ((((w11.alloc (.cells #[.slice (some ad) l'.length cap] 22)).alloc (.cells #[.int .i64 0, .slice aa m ac] 49)).alloc (.cells #[.slice (some ⟨w11.heap.size + 1, 0, none⟩) 1 1] 50)).alloc (.cells #[.slice sa N sc, .slice (some ⟨w11.heap.size, 0, none⟩) 1 1, .slice (some ⟨w11.heap.size + 1 + 1, 0, none⟩) 1 1] 53)) = w12
              intro X
              have HX := Lib.hid (X.out w12 rfl)
              clear X
              have m0 := HX.out.2.2.1
              have m1 := HX.out.2.2.2.1
              have m2 := HX.out.2.2.2.2
              have K6z : Hid (Kept NoB w6 w12) := (K69.out.trans K9b.out).trans HX.out.2.1
              have K12 : Hid (Kept NoB w w12) := K11.out.trans HX.out.2.1
              have HV : Hid ((runS l' 6000 (beginS l' args ws)).1.ov = true) := by
                have := Hf.out
                rw [HA2.out] at this
                simp only [runAns] at this
                cases h : (runS l' 6000 (beginS l' args ws)).1.ov
                · rw [h] at this; exact absurd rfl this
                · rfl
              have HE : Hid ((runS l' 6000 (beginS l' args ws)).1.cd = A2.e) := by
                rw [HA2.out]; simp only [runAns]; rw [HV.out]; rfl
              have HR : Hid (runS l' 6000 (beginS l' args ws) = ((runS l' 6000 (beginS l' args ws)).1, A2.steps)) := by
                rw [HA2.out]; rfl
              obtain ⟨L, hmin, hL1, hL2⟩ : ∃ L : Nat, (if (6000 : Int) < (A2.steps : Int) + 2 then (6000 : Int) else (A2.steps : Int) + 2) = (L : Int) ∧ A2.steps ≤ L ∧ L ≤ 6000 := by
                by_cases hbig : (6000 : Int) < (A2.steps : Int) + 2
                · exact ⟨6000, by rw [if_pos hbig]; rfl, by omega, by omega⟩
                · exact ⟨A2.steps + 2, by rw [if_neg hbig]; rfl, by omega, by omega⟩
              as_aux_lemma =>
              have hwr : IntKind.i64.wrap ((A2.steps : Int) + 2) = (A2.steps : Int) + 2 := IntWalk.i64_in _ (by omega)
              have hmk := fun w => mk_slice L hL2 w
              go_region_held3 (fun w' => w'.cell? ⟨w11.heap.size + 1 + 1 + 1, 0, none⟩ = some (.slice sa N sc) ∧ w'.cell? ⟨w11.heap.size + 1 + 1 + 1, 1, none⟩ = some (.slice (some ⟨w11.heap.size, 0, none⟩) 1 1) ∧ w'.cell? ⟨w11.heap.size + 1 + 1 + 1, 2, none⟩ = some (.slice (some ⟨w11.heap.size + 1 + 1, 0, none⟩) 1 1))
                (first | go_keep | (exact ⟨by assumption, by assumption, by assumption⟩))
                ((go_at_call 40
                  have kz : Kept NoB w12 (w12.alloc (.cells (madeCells #[.int .i64 0] (L)) 3)).drew := (Kept.alloc1 w12 _).drew
                  refine (play_calls (L := L) (HX.out.1.kept kz) ((Hops.out.kept K6z.out (fun _ f => f)).kept kz (fun _ f => f)) ((ha.out.kept K12.out (fun _ f => f)).kept kz (fun _ f => f)) ((hs.out.kept K12.out (fun _ f => f)).kept kz (fun _ f => f)) Hok2.out ((hsh.out.kept K12.out id).kept kz id) (by rw [← hm.out]; exact hm8) (by rw [← hN.out]; exact hN2) (by omega) HR.out HV.out Hpos.out (by omega) (fun i hi => made_zero w12 (L) i hi)).mono ?_
                  rintro e' w13 ⟨out, wv3, rfl, hpl, k13⟩
                  have n0 := (kz.trans k13).cell m0 id
                  have n1 := (kz.trans k13).cell m1 id
                  have n2 := (kz.trans k13).cell m2 id
                  have K13 : Hid (Kept NoB w12 w13) := kz.trans k13
                  have Hpl := Lib.hid hpl
                  clear kz k13 hpl))
              obtain ⟨⟨tv3, T3, OB, st, ht3, hrow⟩, W3, hw3⟩ := Hpl.out
              obtain ⟨oa, oc, rfl, hoc⟩ := hrow.val
              obtain ⟨off, rfl, hcell⟩ := hoc (by decide)
              have p9 := hcell 9 _ rfl
              have p10 := hcell 10 _ rfl
              have p11 := hcell 11 _ rfl
              have Ht3 := Lib.hid ht3
              have Hw3 := Lib.hid hw3
              clear hrow hoc hcell ht3 hw3 Hpl n0 n1 n2 m0 m1 m2
              rw [HE.out] at p10
              have q5 : (A2.e == A1.e) = true := by rw [Q1.out]; simp
              clear hmk hwr hmin
              go_wp2_with fail
              refine (equal_calls Ht3.out ((KT.out.1.kept K9b.out (fun _ f => f)).kept (HX.out.2.1.trans K13.out) (fun _ f => f)) ?_).mono ?_
              · have e1 : (runS l' 6000 (beginS l' args ws)).1.told = A2.told := by rw [HA2.out]; rfl
                rw [e1, ← Q2.out]; omega
              rintro e' w14 ⟨rfl, k14⟩
              have K14 := Lib.hid k14
              clear k14
              rw [show ((runS l' 6000 (beginS l' args ws)).1.told == A1.told) = true by rw [Q2.out, HA2.out]; simp [runAns]]
              go_wp2_with fail
              refine (equal_calls (Hw3.out.kept K14.out (fun _ f => f)) (((KT.out.2.kept K9b.out (fun _ f => f)).kept (HX.out.2.1.trans K13.out) (fun _ f => f)).kept K14.out (fun _ f => f)) ?_).mono ?_
              · have e1 : (runS l' 6000 (beginS l' args ws)).1.ws = A2.ws := by rw [HA2.out]; rfl
                rw [e1, ← Q3.out, B2.out, ← hN.out]; exact hb3
              rintro e' w15 ⟨rfl, k15⟩
              have K15 := Lib.hid k15
              clear k15
              rw [show ((runS l' 6000 (beginS l' args ws)).1.ws == A1.ws) = true by rw [Q3.out, HA2.out]; simp [runAns]]
              go_wp2_with fail
              go_ret
              exact ⟨rfl, ((K12.out.trans K13.out).trans K14.out).trans K15.out⟩
          · go_wp2_with fail
            go_ret
            exact ⟨rfl, K6.out⟩
    · go_wp2_with fail
      go_ret
      exact ⟨rfl, K2.out⟩
  · go_wp2_with fail
    go_ret
    exact ⟨rfl, K2.out⟩
/-- wRuns answers true. -/
theorem runs_calls {w : World} {cv av sv : Value} {C A D F : Nat} {caps : Array Value} {changeL : List Op5 → Option (List Op5)} {l : List Op5} {args ws : List Int} (hc : OpsAt w cv C l) (ha : IntsAt w av A args) (hs : IntsAt w sv D ws) (hsh : Shapes w)
    (hb1 : l.length * 40 ≤ 140737488351232) (hb2 : args.length * 8 ≤ 140737488351232) (hb3 : ws.length * 8 ≤ 140737488351232) (hch : okCode l = true → args.length ≤ 8 → ChangeOk w F caps changeL l) (hlaw : WLaw l args ws (changeL l))
    (hcall : ∀ (a : Array Value) (w : World), (callFunc F a).run Tryd.prog w = .ok (.enter F a) w) :
    Calls Tryd.prog 15 #[cv, av, sv, .func (.func F) #[] caps] w fun e w' => e = .returned (.bool true) ∧ Kept NoB w w' := by
  obtain ⟨ca, cc, rfl, _⟩ := hc.val
  obtain ⟨aa, ac, rfl, _⟩ := ha.val
  obtain ⟨sa, sc, rfl, _⟩ := hs.val
  exact runs_walk C A D F caps changeL l args ws ca aa sa cc ac sc _ _ _ w rfl rfl rfl hc ha hs hsh hb1 hb2 hb3 hch hlaw hcall
end Go.Proofs.YtmnfgigieafehaaDoor
