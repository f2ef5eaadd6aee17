/- The walk of run's Play at the machine of one code, one thread and one call, under a schedule of noughts. -/
import Derived.Test.YtmnfgigieafehaaDoorMach
namespace Go.Proofs.YtmnfgigieafehaaDoor
open Go.RowKit
set_option maxRecDepth 100000

theorem info75 : (Tryd.prog.info? 75).map (fun i => (i.zero, i.size, i.bytes)) = some (some (.pointer none), 1, 8) := by kernel_rfl
theorem info58 : (Tryd.prog.info? 58).map (fun i => (i.zero, i.size, i.bytes)) = some (some (.agg #[.int .i64 0, .int .i64 0, .int .i64 0, .bool false, .int .i64 0, .slice none 0 0]), 6, 64) := by kernel_rfl

theorem own_one {w : World} {base : Nat} {e : TypeId} {v x : Value} (h : w.ownsRow base e 1 v 1 [x]) : ∃ g c, v = .slice (some ⟨g, 0, none⟩) 1 c ∧ base ≤ g ∧ g < w.heap.size ∧ w.cell? ⟨g, 0, none⟩ = some x := by
  rcases h.2 with ⟨_, h0⟩ | ⟨g, cap, cur, hv, hb, hg, _⟩
  · cases h0
  · refine ⟨g, cap, hv, hb, (Array.getElem?_eq_some_iff.1 hg).1, ?_⟩
    have := h.cells (g := g) (by rw [hv]; rfl) 0 x rfl
    exact this
theorem WordsAt.re {w : World} {v : Value} {W T B T' B' : Nat} {l : List Int} (h : WordsAt w v W T B l) (hn : 0 < l.length → T' ≠ W ∧ W < B') : WordsAt w v W T' B' l := by
  obtain ⟨a, cap, hv, ha⟩ := h.val
  exact ⟨⟨a, cap, hv, fun h0 => ⟨(ha h0).1, hn h0⟩⟩, h.cell, h.fr⟩

/-- A thread of a play: its calls, the next, the one it is in. -/
def ThAt (w : World) (TH : Nat) (calls : Value) (next : Int) (p : Option Addr) : Prop := w.heap[TH]? = some (.cells #[calls, .int .i64 next, .pointer p] 77 (0, 0))
section
variable {w w' : World} {TH : Nat} {calls : Value} {next : Int} {p : Option Addr}
theorem ThAt.c0 (h : ThAt w TH calls next p) : w.cell? ⟨TH, 0, none⟩ = some calls := cell_of_heap h
theorem ThAt.c1 (h : ThAt w TH calls next p) : w.cell? ⟨TH, 1, none⟩ = some (.int .i64 next) := cell_of_heap h
theorem ThAt.c2 (h : ThAt w TH calls next p) : w.cell? ⟨TH, 2, none⟩ = some (.pointer p) := cell_of_heap h
theorem ThAt.fr (h : ThAt w TH calls next p) (i : Nat) : w.frozen? ⟨TH, i, none⟩ = false := frozen_of_heap h
theorem ThAt.lt (h : ThAt w TH calls next p) : TH < w.heap.size := (Array.getElem?_eq_some_iff.1 h).1
theorem ThAt.kept {S : Nat → Prop} (h : ThAt w TH calls next p) (hk : Kept S w w') (hS : ¬ S TH) : ThAt w' TH calls next p := by
  unfold ThAt; rw [hk.block TH h.lt hS]; exact h
theorem ThAt.setNext (h : ThAt w TH calls next p) (v : Int) : ThAt (w.setCell ⟨TH, 1, none⟩ (.int .i64 v)) TH calls v p := by
  unfold ThAt; rw [heap_setCell_same h]; rfl
theorem ThAt.setP (h : ThAt w TH calls next p) (v : Option Addr) : ThAt (w.setCell ⟨TH, 2, none⟩ (.pointer v)) TH calls next v := by
  unfold ThAt; rw [heap_setCell_same h]; rfl
end
def ev1 : List Value := [.int .i64 0, .int .i64 0, .int .i64 0, .bool false, .int .i64 0, .slice none 0 0]
def ev2 (st : Int) (e : Int) (tv : Value) : List Value := [.int .i64 st, .int .i64 0, .int .i64 0, .bool true, .int .i64 e, tv]
/-- What Play has at its end. -/
structure Played (w : World) (out wv : Value) (sf : St) : Prop where
  told : ∃ tv T' OB st, IntsAt w tv T' sf.told ∧ RowAt w out OB 6 2 (ev1 ++ ev2 st sf.cd tv)
  words : ∃ W', IntsAt w wv W' sf.ws
theorem Played.kept {w w' : World} {out wv : Value} {sf : St} (h : Played w out wv sf) (hk : Kept NoB w w') : Played w' out wv sf := by
  obtain ⟨⟨tv, T', OB, st, h1, h2⟩, W', h3⟩ := h
  exact ⟨⟨tv, T', OB, st, h1.kept hk (fun _ f => f), h2.kept hk (fun _ f => f)⟩, W', h3.kept hk (fun _ f => f)⟩
theorem RunAt.end {l : List Op5} {lim k nst : Nat} {s0 s sf : St} (h : RunAt l lim s0 k s) (hr : runS l lim s0 = (sf, nst)) (hov : s.ov = true) : s = sf ∧ k = nst := by
  have := h.over hov
  rw [hr] at this
  exact ⟨(Prod.mk.inj this).1.symm, (Prod.mk.inj this).2.symm⟩
theorem RunAt.lt {l : List Op5} {lim k nst : Nat} {s0 s sf : St} (h : RunAt l lim s0 k s) (hr : runS l lim s0 = (sf, nst)) (hsf : sf.ov = true) (hov : s.ov = false) : k < nst ∧ k < lim := by
  by_cases hk : lim ≤ k
  · have := h.full hk
    rw [hr] at this
    have e := (Prod.mk.inj this).1
    rw [e, hov] at hsf
    cases hsf
  · refine ⟨?_, by omega⟩
    have h2 := h.2
    rw [hr, show lim - k = (lim - k - 1) + 1 by omega, runS_step hov] at h2
    have e := (Prod.mk.inj h2).2
    dsimp only at e
    omega
/-- The end of the call, as Play has it. -/
theorem Played.mk' {wy w8 : World} {T W B TH RB : Nat} {cs wv out v' : Value} {s : St} {st : Int} {ta : Option Addr} {tc : Nat} {calls : Value} {next : Int} {p q : Option Addr} (hg : Inv wy T W B cs wv s)
    (hto : wy.ownsRow B 3 1 (.slice ta s.told.length tc) s.told.length (s.told.map (Value.int .i64))) (_hth : ThAt wy TH calls next p) (hTH : TH < T) (hW : W < TH)
    (hro : wy.ownsRow RB 58 6 out 1 ev1) (hRB : T < RB) (hrb : ∀ b, out.ownBlock = some b → b < B)
    (k8 : Kept (fun b => some b = out.ownBlock) wy w8) (hown : w8.ownsRow RB 58 6 v' (1 + 1) (ev1 ++ ev2 st s.cd (.slice ta s.told.length tc))) : Played (w8.setCell ⟨TH, 2, none⟩ (.pointer q)) v' wv s := by
  have ks : Kept (fun b => b = TH) w8 (w8.setCell ⟨TH, 2, none⟩ (.pointer q)) := (Kept.refl (fun b => b = TH) w8).setCell (fun _ => rfl) _
  obtain ⟨C, hC, hCb⟩ := RowAt.ofOwns hto
  obtain ⟨O, hO, hOb⟩ := RowAt.ofOwns hown
  have htb := hg.tb
  have own : ∀ b, some b = out.ownBlock → RB ≤ b ∧ b < B := fun b hb => ⟨(hro.lt b hb.symm).1, hrb b hb.symm⟩
  refine ⟨⟨.slice ta s.told.length tc, C, O, st, ?_, ?_⟩, ⟨W, ?_⟩⟩
  · refine (RowAt.kept hC k8 (fun h0 e => ?_)).kept ks (fun h0 e => ?_)
    · have := own _ e; have := (hCb h0).1; omega
    · have := (hCb h0).1; omega
  · exact RowAt.kept hO ks (fun h0 e => by have := (hOb (by omega)).1; omega)
  · refine ((hg.words.kept k8 (fun h0 e => ?_)).kept ks (fun h0 e => ?_)).ints
    · have := own _ e; omega
    · omega
/-- What Play hands back. -/
def PlayPost (w : World) (sf : St) (e : Ending) (w' : World) : Prop := ∃ out wv, e = .returned (.tuple #[out, wv, .int .i64 0]) ∧ Played w' out wv sf ∧ Kept NoB w w'
/-- Play's rounds: ahead of the call; in it; behind it. -/
def PlayRel (w4 : World) (TH W : Nat) (calls cv wv : Value) (l : List Op5) (args ws : List Int) (sf : St) (k : Nat) (out : Value) (wr : World) : Prop :=
  Kept (fun b => b = TH ∨ b = W) w4 wr ∧
  ((k = 0 ∧ out = .slice none 0 0 ∧ wr = w4) ∨
   (∃ T B s, ThAt wr TH calls 1 (some ⟨T, 0, none⟩) ∧ Inv wr T W B cv wv s ∧ RunAt l 6000 (beginS l args ws) k s ∧ s.ov = false ∧ StOk l.length ws.length s ∧ w4.heap.size ≤ T ∧ wr.ownsRow (T + 1) 58 6 out 1 ev1 ∧ (∀ b, out.ownBlock = some b → b < B)) ∨
   (ThAt wr TH calls 1 none ∧ Played wr out wv sf))

set_option maxHeartbeats 4000000 in
theorem play_walk (CB TB KB C A D S L L2 : Nat) (l : List Op5) (args ws : List Int) (wa : Option Addr) (N wc : Nat) (ca aa : Option Addr) (n cc m ac : Nat) (w : World) (hM : Hid (MachAt w CB TB KB (.slice ca n cc) (.slice aa m ac))) (hN : N ≤ 200) (hm : m ≤ 8) (hn : n ≤ 200) (hL : L ≤ 6000)
    (hc : Hid (OpsAt w (.slice ca n cc) C l)) (ha : Hid (IntsAt w (.slice aa m ac) A args)) (hs : Hid (IntsAt w (.slice wa N wc) D ws)) (hnl : Hid (n = l.length)) (hml : Hid (m = args.length)) (hNl : Hid (N = ws.length)) (hok : Hid (okCode l = true)) (hsh : Hid (Shapes w))
    (nst : Nat) (sf : St) (hrun : Hid (runS l 6000 (beginS l args ws) = (sf, nst))) (hsf : Hid (sf.ov = true)) (hlen : Hid (0 < l.length)) (hnst : Hid (nst ≤ L)) (hz : Hid (∀ i, i < L → w.cell? ⟨S, i, none⟩ = some (.int .i64 0))) :
    Calls Tryd.prog 40 #[.agg #[.slice wa N wc, .slice (some ⟨CB, 0, none⟩) 1 1, .slice (some ⟨TB, 0, none⟩) 1 1], .slice (some ⟨S, 0, none⟩) L L2] w (PlayPost w sf) := by
  obtain ⟨i0, hi, hz0, hz1, hz2⟩ := info_parts info75
  obtain ⟨j0, hj, hy0, hy1, hy2⟩ := info_parts info58
  go_enter Tryd.func40, Tryd.ntmps40
  go_wp2_with fail
  have kb := Kept.alloc1 w (.cells #[.slice wa N wc, .slice (some ⟨CB, 0, none⟩) 1 1, .slice (some ⟨TB, 0, none⟩) 1 1] 53)
  have K0 := Lib.hid kb; clear kb
  refine (runMay_calls (hM.out.kept K0.out) (hc.out.kept K0.out (fun _ f => f)) (ha.out.kept K0.out (fun _ f => f)) (hs.out.kept K0.out (fun _ f => f)) hok.out (hsh.out.kept K0.out id) (by rw [← hml.out]; exact hm) (by rw [← hNl.out]; exact hN)).mono ?_
  rintro e' w1 ⟨rfl, k1⟩
  have K1 := Lib.hid k1; clear k1
  have b0 : w1.cell? ⟨w.heap.size, 0, none⟩ = some (.slice wa N wc) := K1.out.cell (World.cell?_alloc_new _ _ _ _) id
  have b1 : w1.cell? ⟨w.heap.size, 1, none⟩ = some (.slice (some ⟨CB, 0, none⟩) 1 1) := K1.out.cell (World.cell?_alloc_new _ _ _ _) id
  have b2 : w1.cell? ⟨w.heap.size, 2, none⟩ = some (.slice (some ⟨TB, 0, none⟩) 1 1) := K1.out.cell (World.cell?_alloc_new _ _ _ _) id
  go_wp2_with fail
  refine (contains_zero w.heap.size TB S L L2 _ hL b2 (fun i hi => K1.out.cell (K0.out.cell (hz.out i hi) id) id)).mono ?_
  rintro e' w' ⟨rfl, rfl⟩
  go_wp2_with fail
  refine (clone_calls ((hs.out.kept K0.out (fun _ f => f)).kept K1.out (fun _ f => f)) (one_intsV ws) (by rw [← hNl.out]; omega)).mono ?_
  rintro e' w3 ⟨wv, rfl, ho, k3⟩
  have K3 := Lib.hid k3; clear k3
  have Ho := Lib.hid ho; clear ho
  have hlt1 : w.heap.size < w1.heap.size := World.block_lt_of_cell? _ _ b0
  obtain ⟨W, hW0⟩ := WordsAt.ofOwns (T := w.heap.size) Ho.out rfl hlt1
  have HW := Lib.hid hW0; clear hW0
  have hWge : w.heap.size ≤ W := by
    by_cases h0 : ws.length = 0
    · rw [HW.out.2.2 h0]; exact Nat.le_refl _
    · have := HW.out.2.1 (by omega); omega
  have hWlt : W < w3.heap.size := by
    by_cases h0 : ws.length = 0
    · rw [HW.out.2.2 h0]; have := K3.out.size; omega
    · have := HW.out.1.val; obtain ⟨_, _, _, h2⟩ := this; exact (h2 (by omega)).2.2
  have B0 := Lib.hid (K3.out.cell b0 id)
  have B1 := Lib.hid (K3.out.cell b1 id)
  have b2' := K3.out.cell b2 id
  have B2 := Lib.hid b2'
  have hM3 := ((hM.out.kept K0.out).kept K1.out).kept K3.out
  have c2 := hM3.threads
  have HM3 := Lib.hid hM3; clear hM3
  have hlt3 : w.heap.size < w3.heap.size := World.block_lt_of_cell? _ _ b2'
  clear b0 b1 b2
  go_wp2_with fail
  refine wp_loop_rounds 2 ?_
  rw [rounds_succ]
  go_wp2_with (at_builtin; refine wpList_append_own _ rfl (.tmp 38) (.tmp 42) 74 rfl (w3.heap.size + 1) 75 i0 (.pointer none) 1 8 Tryd.underlying74 hi hz0 hz1 hz2 rfl (by decide) (.slice none 0 0) 0 [] rfl (World.ownsRow_nil _ _ _ _) ⟨w3.heap.size + 1, 0, none⟩ 1 1 [.pointer (some ⟨w3.heap.size, 0, none⟩)] rfl rfl ?h1 ?h2 ?h3 ?h4 ?h5 ?h6; rotate_right; intro tv w4 hrow hgrow _)
  · simp only [Nat.zero_add, List.nil_append] at hrow
    obtain ⟨RB, rc, rfl, hRB, hRBlt, cRB⟩ := own_one hrow
    have K4 : Hid (Kept NoB w3 w4) := (((Kept.refl NoB w3).alloc _).alloc _).grown hgrow (fun k hk => by cases hk)
    have HT : Hid (ThAt w4 w3.heap.size (.slice (some ⟨KB, 0, none⟩) 1 1) 0 none) := by
      have h1 : ThAt (w3.alloc (.cells #[.slice (some ⟨KB, 0, none⟩) 1 1, .int .i64 0, .pointer none] 77)) w3.heap.size (.slice (some ⟨KB, 0, none⟩) 1 1) 0 none := heap_alloc_new w3 _
      exact h1.kept (((Kept.refl NoB _).alloc _).grown hgrow (fun k hk => by cases hk)) id
    clear hrow hgrow
    rw [rounds_succ]
    go_wp2_with fail
    go_loopw [47, 11] (fun i out wr => ∃ k : Nat, k ≤ L ∧ i = .int .i64 k ∧ PlayRel w4 w3.heap.size W (.slice (some ⟨KB, 0, none⟩) 1 1) (.slice ca n cc) wv l args ws sf k out wr) (fun i _ _ => L - (intOf i).toNat)
    case atStart => exact ⟨0, Nat.zero_le _, rfl, Kept.refl _ _, .inl ⟨rfl, rfl, rfl⟩⟩
    case round =>
      obtain ⟨k, hk, rfl, hkept, hph⟩ := hrel
      have Hk := Lib.hid hkept; clear hkept
      have hk0 : (0 : Int) ≤ k := by omega
      have cR : wr.cell? ⟨RB, 0, none⟩ = some (.pointer (some ⟨w3.heap.size, 0, none⟩)) := Hk.out.cell cRB (by dsimp only; omega)
      have HS : Hid (k < L → wr.cell? ⟨S, k, none⟩ = some (.int .i64 0)) := by
        intro hkL
        have h0 := hz.out k hkL
        have hS := World.block_lt_of_cell? w _ h0
        dsimp only at hS
        have s3 := K3.out.size
        exact Hk.out.cell (K4.out.cell (K3.out.cell (K1.out.cell (K0.out.cell h0 id) id) id) id) (by dsimp only; omega)
      by_cases hlt : k < L
      · have hlt' : (k : Int) < L := by omega
        have cS := HS.out hlt
        clear HS
        rcases hph with ⟨rfl, rfl, rfl⟩ | ⟨T, B, s, hth, hinv, hrat, hov, hst, hT, hro, hrb⟩ | ⟨hth, hpl⟩
        · have t0 := HT.out.c0
          have t1 := HT.out.c1
          have t2 := HT.out.c2
          go_wp2_with fail
          go_region_held3 (fun w' => w'.cell? ⟨w3.heap.size, 0, none⟩ = some (.slice (some ⟨KB, 0, none⟩) 1 1) ∧ w'.cell? ⟨w3.heap.size, 1, none⟩ = some (.int .i64 0) ∧ w'.cell? ⟨w3.heap.size, 2, none⟩ = some (.pointer none)) (go_keep) (fail)
          have hM4 := HM3.out.kept K4.out
          have mC := hM4.codes
          have m0 := hM4.call0
          have m1 := hM4.call1
          have mB := K4.out.cell B1.out id
          have l0 := HT.out.lt
          have l1 := World.block_lt_of_cell? _ _ m0
          have l2 := World.block_lt_of_cell? _ _ mC
          have l3 := World.block_lt_of_cell? _ _ mB
          dsimp only at l1 l2 l3
          have fTH := HT.out.fr 2
          have fTH1 := HT.out.fr 1
          clear hM4
          go_wp2_with fail
          go_region_held3 (fun w' => w'.cell? ⟨w3.heap.size, 0, none⟩ = some (.slice (some ⟨KB, 0, none⟩) 1 1) ∧ w'.cell? ⟨w3.heap.size, 1, none⟩ = some (.int .i64 0) ∧ w'.cell? ⟨KB, 0, none⟩ = some (.int .i64 0) ∧ w'.cell? ⟨KB, 1, none⟩ = some (.slice aa m ac)) (go_keep) (fail)
          go_wp2_with fail
          have HA : Hid (IntsAt wr (.slice aa m ac) A args) := (((ha.out.kept K0.out (fun _ f => f)).kept K1.out (fun _ f => f)).kept K3.out (fun _ f => f)).kept K4.out (fun _ f => f)
          have n1 : w.heap.size < w3.heap.size := hlt3
          have n2 : CB < w3.heap.size := World.block_lt_of_cell? _ _ HM3.out.codes
          go_region_held3 (fun w' => w'.cell? ⟨w.heap.size, 1, none⟩ = some (.slice (some ⟨CB, 0, none⟩) 1 1) ∧ w'.cell? ⟨CB, 0, none⟩ = some (.slice ca n cc) ∧ w'.cell? ⟨wr.heap.size, 0, none⟩ = some (.int .i64 0) ∧ w'.cell? ⟨wr.heap.size, 1, none⟩ = some (.slice aa m ac))
            (first | go_keep | (exact ⟨by assumption, by assumption, by assumption, by assumption⟩) | (refine ⟨?_, ?_, ?_, ?_⟩ <;> (rw [World.cell?_setCell_other _ _ _ _ (by intro e; injection e; omega)]; assumption)))
            ((go_at_call 46
              have kb : Kept NoB wr (wr.alloc (.cells #[.int .i64 0, .slice aa m ac] 49)).drew.drew.drew := (((Kept.alloc1 wr _).drew).drew).drew
              refine (begin_calls (ws := ws) (n := n) (args := args) (A := A) ⟨ca, cc, rfl⟩ (HA.out.kept kb (fun _ f => f)) (by rw [← hml.out]; exact hm)).mono ?_
              rintro e' w5 ⟨rfl, ht5, k5, hT5⟩
              have s0 := (kb.trans k5).cell mB id
              have s1 := (kb.trans k5).cell mC id
              have s2 : w5.cell? ⟨wr.heap.size, 0, none⟩ = some (.int .i64 0) := k5.cell (World.cell?_alloc_new wr _ _ 0) id
              have s3 : w5.cell? ⟨wr.heap.size, 1, none⟩ = some (.slice aa m ac) := k5.cell (World.cell?_alloc_new wr _ _ 1) id
              have s4 := (kb.trans k5).cell t2 id
              have s5 := ((kb.trans k5).frozen (p := ⟨w3.heap.size, 2, none⟩) l0 id).trans fTH
              have K5 : Hid (Kept NoB wr w5) := kb.trans k5
              have Ht5 := Lib.hid ht5
              clear ht5 k5 kb))
          have K6 : Hid (Kept (fun b => b = w3.heap.size) wr (w5.setCell ⟨w3.heap.size, 2, none⟩ (.pointer (some ⟨wr.heap.size + 1, 0, none⟩)))) := Kept.setCell (S := fun b => b = w3.heap.size) (K5.out.noB) (fun _ => rfl) _
          have X : Hid (ThAt (w5.setCell ⟨w3.heap.size, 2, none⟩ (.pointer (some ⟨wr.heap.size + 1, 0, none⟩))) w3.heap.size (.slice (some ⟨KB, 0, none⟩) 1 1) 0 (some ⟨wr.heap.size + 1, 0, none⟩) ∧
              ThreadAt (w5.setCell ⟨w3.heap.size, 2, none⟩ (.pointer (some ⟨wr.heap.size + 1, 0, none⟩))) (wr.heap.size + 1) (.slice ca n cc) (beginS l args ws) (.slice none 0 0)) := by
            refine ⟨(HT.out.kept K5.out id).setP _, ?_⟩
            have h5 := Ht5.out
            simp only [World.size_drew, World.size_alloc] at h5
            rw [hnl.out] at h5 ⊢
            exact h5.other (by dsimp only; omega) _
          clear Ht5 K5
          revert X K6
          generalize w5.setCell ⟨w3.heap.size, 2, none⟩ (.pointer (some ⟨wr.heap.size + 1, 0, none⟩)) = w6
          intro K6 X
          have t1 := X.out.1.c1
          have t2 := X.out.1.c2
          have l6 := X.out.2.lt
          have l7 := X.out.1.lt
          have hA : True := trivial
          go_wp2_with (at_builtin; refine wpList_append_own _ rfl (.tmp 95) (.tmp 103) 54 rfl (wr.heap.size + 1 + 1) 58 j0 (.agg #[.int .i64 0, .int .i64 0, .int .i64 0, .bool false, .int .i64 0, .slice none 0 0]) 6 64 Tryd.underlying54 hj hy0 hy1 hy2 rfl (by decide) (.slice none 0 0) 0 [] rfl (World.ownsRow_nil _ _ _ _) ⟨w6.heap.size, 0, none⟩ 1 1 ev1 rfl rfl ?a1 ?a2 ?a3 ?a4 ?a5 ?a6; rotate_right; intro ov w7 hrow7 hgrow7 _; have k7 : Kept NoB w6 w7 := ((Kept.refl NoB w6).alloc _).grown hgrow7 (fun k hk => by cases hk); have v1 := k7.cell t1 id; have v2 := k7.cell t2 id; have v3 := (k7.frozen (p := ⟨w3.heap.size, 1, none⟩) l7 id).trans (X.out.1.fr 1); have K7 := Lib.hid k7; have Hrow7 := Lib.hid hrow7; clear k7 hrow7 hgrow7)
          · have s4 := K4.out.size
            have hro : w7.ownsRow (wr.heap.size + 1 + 1) 58 6 ov 1 ev1 := by have := Hrow7.out; simpa using this
            have ks : Kept (fun b => b = w3.heap.size) w7 (w7.setCell ⟨w3.heap.size, 1, none⟩ (.int .i64 1)) := Kept.setCell (S := fun b => b = w3.heap.size) (Kept.refl _ w7) (fun _ => rfl) _
            have kx : Kept (fun b => b = w3.heap.size) wr (w7.setCell ⟨w3.heap.size, 1, none⟩ (.int .i64 1)) := (K6.out.trans (K7.out.noB)).trans ks
            have X2 : Hid (ThAt (w7.setCell ⟨w3.heap.size, 1, none⟩ (.int .i64 1)) w3.heap.size (.slice (some ⟨KB, 0, none⟩) 1 1) 1 (some ⟨wr.heap.size + 1, 0, none⟩) ∧
                Inv (w7.setCell ⟨w3.heap.size, 1, none⟩ (.int .i64 1)) (wr.heap.size + 1) W (w7.setCell ⟨w3.heap.size, 1, none⟩ (.int .i64 1)).heap.size (.slice ca n cc) wv (beginS l args ws) ∧
                (w7.setCell ⟨w3.heap.size, 1, none⟩ (.int .i64 1)).ownsRow (wr.heap.size + 1 + 1) 58 6 ov 1 ev1 ∧
                Kept (fun b => b = w3.heap.size ∨ b = W) wr (w7.setCell ⟨w3.heap.size, 1, none⟩ (.int .i64 1)) ∧ CodeAt (w7.setCell ⟨w3.heap.size, 1, none⟩ (.int .i64 1)) (.slice ca n cc) C l ∧
                (∀ b, ov.ownBlock = some b → b < (w7.setCell ⟨w3.heap.size, 1, none⟩ (.int .i64 1)).heap.size)) := by
              have lk := kx.size
              have l8 : wr.heap.size + 1 < w7.heap.size := Nat.lt_of_lt_of_le l6 K7.out.size
              refine ⟨(X.out.1.kept K7.out id).setNext 1, ⟨⟨.slice none 0 0, ?_, World.ownsRow_nil _ _ _ _⟩, ?_, by simpa [World.setCell] using l8, Nat.le_refl _⟩, ?_, kx.mono (fun _ _ h => .inl h), ?_, ?_⟩
              · exact (X.out.2.kept K7.out id).other (by dsimp only; omega) _
              · refine ((HW.out.1.kept K4.out (fun _ f => f)).kept kx (fun h0 e => by omega)).re (fun h0 => ⟨by omega, by omega⟩)
              · exact ks.row hro (fun b hb e => by have := (hro.lt b hb).1; omega)
              · have h1 := ((((hc.out.kept K0.out (fun _ f => f)).kept K1.out (fun _ f => f)).kept K3.out (fun _ f => f)).kept K4.out (fun _ f => f)).code
                refine h1.kept kx (fun hl => ?_)
                have hC := hc.out.lt (by decide) hl
                omega
              · intro b hb
                have := (hro.lt b hb).2
                simpa [World.setCell] using this
            clear hro ks kx v1 v2 v3 K7 Hrow7 K6 X t0 t1 t2 m0 m1 mC mB fTH fTH1 cS cR
            revert X2
            generalize w7.setCell ⟨w3.heap.size, 1, none⟩ (.int .i64 1) = wx
            intro X2
            have Hth := Lib.hid X2.out.1
            have Hinv := Lib.hid X2.out.2.1
            have Hro := Lib.hid X2.out.2.2.1
            have HKx := Lib.hid X2.out.2.2.2.1
            have Hcode := Lib.hid X2.out.2.2.2.2.1
            have Hrb := Lib.hid X2.out.2.2.2.2.2
            have Hov : Hid ((beginS l args ws).ov = false) := by
              have := hlen.out
              show _ = _
              simp only [beginS, beq_eq_false_iff_ne, ne_eq]; omega
            have Hst := Lib.hid (beginS_ok (l := l) (args := args) (ws := ws))
            have Hrat := Lib.hid (RunAt.start l 6000 (beginS l args ws))
            have hTge : wr.heap.size ≤ wr.heap.size + 1 := by omega
            have hT : wr.heap.size ≤ wr.heap.size + 1 := hTge
            clear X2
            refine (step_calls l wx Hinv.out Hcode.out Hov.out (Hst.out.pc Hov.out) (okCode_at hok.out (Hst.out.pc Hov.out)) (by rw [← hnl.out]; exact hn) (by rw [Hst.out.ws, ← hNl.out]; exact hN) Hst.out.told).mono ?_
            rintro e' wy ⟨rfl, hg⟩
            have Hg := Lib.hid hg; clear hg
            have hy := Hth.out.kept Hg.out.kept (by have := Hinv.out.tb; have := Hth.out.lt; rintro (h | h | h) <;> omega)
            have u1 := hy.c1
            have u2 := hy.c2
            have f2 := hy.fr 2
            have Hy := Lib.hid hy; clear hy
            obtain ⟨tv, ht, hto⟩ := Hg.out.inv.th
            obtain ⟨ta, tc, rfl⟩ := own_slice hto
            have d28 := ht.c28
            have d27 := ht.c27
            have d26 := ht.c26
            have lT := ht.lt
            have Hto := Lib.hid hto; clear hto
            have Ht := Lib.hid ht; clear ht
            have Hroy : Hid (wy.ownsRow (wr.heap.size + 1 + 1) 58 6 ov 1 ev1) := Hg.out.kept.row Hro.out (fun b hb => by
              have h1 := (Hro.out.lt b hb).1
              have h2 := Hrb.out b hb
              rintro (h | h | h) <;> omega)
            have HKy : Hid (Kept (fun b => b = w3.heap.size ∨ b = W) wr wy) := HKx.out.trans' Hg.out.kept (fun i hi h => by
              rcases h with h | h | h
              · omega
              · exact .inr h
              · have := HKx.out.size; have := Hinv.out.tb; omega)
            have Hst2 := Lib.hid (stepS_ok hok.out Hst.out Hov.out)
            have Hrat2 := Lib.hid (Hrat.out.step Hov.out (Hrat.out.lt hrun.out hsf.out Hov.out).2)
            obtain ⟨s2, hs2⟩ : ∃ s2, s2 = stepS l (beginS l args ws) := ⟨_, rfl⟩
            rw [← hs2] at Hg d28 d27 d26 Hto Ht Hst2 Hrat2
            have Hs2 := Lib.hid hs2; clear hs2
            cases hov2 : s2.ov
            · rw [hov2] at d28
              have Hov2 := Lib.hid hov2; clear hov2
              go_wp2_with fail
              go_roundw
              case rel => exact ⟨1, by omega, by go_num, HKy.out, .inr (.inl ⟨_, _, _, Hy.out, Hg.out.inv, Hrat2.out, Hov2.out, Hst2.out, hTge, Hroy.out, Hrb.out⟩)⟩
              case measure => simp [intOf]; omega
            · rw [hov2] at d28
              have Hov2 := Lib.hid hov2; clear hov2
              go_wp2_with fail
              have lTH := Hy.out.lt
              have hbT : wr.heap.size + 1 + 1 ≤ wy.heap.size := lT
              have hneTH : some w3.heap.size ≠ Value.ownBlock ov := fun e => by have := (Hroy.out.lt _ e.symm).1; omega
              have hneT : some (wr.heap.size + 1) ≠ Value.ownBlock ov := fun e => by have := (Hroy.out.lt _ e.symm).1; omega
              go_region_held3 (fun w' => w'.cell? ⟨w3.heap.size, 1, none⟩ = some (.int .i64 1) ∧ w'.cell? ⟨w3.heap.size, 2, none⟩ = some (.pointer (some ⟨wr.heap.size + 1, 0, none⟩)) ∧ w'.cell? ⟨wr.heap.size + 1, 27, none⟩ = some (.int .i64 s2.cd) ∧ w'.cell? ⟨wr.heap.size + 1, 26, none⟩ = some (.slice ta s2.told.length tc))
                (first | go_keep | (exact ⟨by assumption, by assumption, by assumption, by assumption⟩))
                ((rw [if_pos (by rfl)]
                  refine wp_append_own _ (.tmp 130) (.tmp 153) 54 (by rfl) (wr.heap.size + 1 + 1) 58 j0 (.agg #[.int .i64 0, .int .i64 0, .int .i64 0, .bool false, .int .i64 0, .slice none 0 0]) 6 64 Tryd.underlying54 hj hy0 hy1 hy2 rfl (by decide) ov 1 ev1 (by rfl) (by exact Hroy.out.alloc _) ⟨wy.heap.size, 0, none⟩ 1 1 (ev2 (0 : Nat) s2.cd (.slice ta s2.told.length tc)) (by rfl) (by rfl) ?_ ?_ ?_ ?_ ?_ ?_
                  · exact fun j u hu => by
                      have hadd : (⟨wy.heap.size, 0, none⟩ : Addr).add j = ⟨wy.heap.size, j, none⟩ := by unfold Addr.add; split <;> simp_all
                      rw [hadd]
                      exact (World.cell?_alloc_new wy (ev2 (0 : Nat) s2.cd (.slice ta s2.told.length tc)).toArray 58 j).trans (by simpa using hu)
                  · intro u hu; simp only [ev2, List.mem_cons, List.not_mem_nil, or_false] at hu; rcases hu with rfl | rfl | rfl | rfl | rfl | rfl <;> rfl
                  · unfold maxLen; omega
                  · omega
                  · simp; omega
                  intro v' w8 hown8 hgrow8 _
                  have k8 : Kept (fun b => some b = Value.ownBlock ov) wy w8 := (((Kept.refl (fun b => some b = Value.ownBlock ov) wy).alloc _).drew).grown hgrow8 (fun b hb _ => hb.symm)
                  have g1 := k8.cell u1 hneTH
                  have g2 := k8.cell u2 hneTH
                  have g3 := k8.cell d27 hneT
                  have g4 := k8.cell d26 hneT
                  have g5 := (k8.frozen (p := ⟨w3.heap.size, 2, none⟩) lTH hneTH).trans f2
                  have K8 := Lib.hid k8
                  have Hown8 := Lib.hid hown8
                  clear k8 hown8 hgrow8))
              go_wp2_with fail
              go_roundw
              case rel =>
                obtain ⟨e1, e2⟩ := Hrat2.out.end hrun.out Hov2.out
                refine ⟨1, by omega, by go_num, ?_, .inr (.inr ⟨?_, ?_⟩)⟩
                · refine Kept.setCell ?_ (fun _ => .inl rfl) _
                  exact HKy.out.trans' K8.out (fun i hi h => by have := (Hroy.out.lt i h.symm).1; omega)
                · exact (Hy.out.kept K8.out hneTH).setP none
                · rw [← e1]; exact Played.mk' (TH := w3.heap.size) (RB := wr.heap.size + 1 + 1) Hg.out.inv Hto.out Hy.out (by omega) hWlt Hroy.out (by omega) Hrb.out K8.out Hown8.out
              case measure => simp [intOf]; omega
          · intro j u hu
            have hadd : (⟨w6.heap.size, 0, none⟩ : Addr).add j = ⟨w6.heap.size, j, none⟩ := by unfold Addr.add; split <;> simp_all
            rw [hadd]
            exact (World.cell?_alloc_new w6 ev1.toArray 58 j).trans (by simpa using hu)
          · intro u hu; simp only [ev1, List.mem_cons, List.not_mem_nil, or_false] at hu; rcases hu with rfl | rfl | rfl | rfl | rfl | rfl <;> rfl
          · decide
          · decide
          · simp; omega
        · have hB : True := trivial
          have Hth0 := Lib.hid hth
          have Hinv0 := Lib.hid hinv
          have Hrat := Lib.hid hrat
          have Hov := Lib.hid hov
          have Hst := Lib.hid hst
          have Hro0 := Lib.hid hro
          have Hrb := Lib.hid hrb
          have hTge := hT
          have t1 := hth.c1
          have t2 := hth.c2
          have l0 := hth.lt
          have s4 := K4.out.size
          have Hcode0 : Hid (CodeAt wr (.slice ca n cc) C l) := by
            have h1 := ((((hc.out.kept K0.out (fun _ f => f)).kept K1.out (fun _ f => f)).kept K3.out (fun _ f => f)).kept K4.out (fun _ f => f)).code
            refine h1.kept Hk.out (fun hl => ?_)
            have hC := hc.out.lt (by decide) hl
            have s3 := K3.out.size
            omega
          clear hth hinv hrat hov hst hro hrb
          go_wp2_with fail
          go_quiet (fail)
          have X : Hid (ThAt (wr.drewN nq) w3.heap.size (.slice (some ⟨KB, 0, none⟩) 1 1) 1 (some ⟨T, 0, none⟩) ∧ Inv (wr.drewN nq) T W B (.slice ca n cc) wv s ∧ (wr.drewN nq).ownsRow (T + 1) 58 6 u11 1 ev1 ∧
              Kept (fun b => b = w3.heap.size ∨ b = W) w4 (wr.drewN nq) ∧ CodeAt (wr.drewN nq) (.slice ca n cc) C l) :=
            ⟨Hth0.out, ((Good.start Hinv0.out).drewN nq).inv, Hro0.out, Hk.out.drewN, Hcode0.out.kept ((Kept.refl NoB wr).drewN) (fun _ f => f)⟩
          clear Hth0 Hinv0 Hro0 Hk Hcode0 t1 t2 cS cR l0
          revert X
          generalize wr.drewN nq = wx
          intro X
          have Hth := Lib.hid X.out.1
          have Hinv := Lib.hid X.out.2.1
          have Hro := Lib.hid X.out.2.2.1
          have HKx := Lib.hid X.out.2.2.2.1
          have Hcode := Lib.hid X.out.2.2.2.2
          clear X
          have t1 := Hth.out.c1
          have t2 := Hth.out.c2
          have l0 := Hth.out.lt
          go_wp2_with fail
          refine (step_calls l wx Hinv.out Hcode.out Hov.out (Hst.out.pc Hov.out) (okCode_at hok.out (Hst.out.pc Hov.out)) (by rw [← hnl.out]; exact hn) (by rw [Hst.out.ws, ← hNl.out]; exact hN) Hst.out.told).mono ?_
          rintro e' wy ⟨rfl, hg⟩
          have Hg := Lib.hid hg; clear hg
          have hy := Hth.out.kept Hg.out.kept (by have := Hinv.out.tb; have := Hth.out.lt; rintro (h | h | h) <;> omega)
          have u1 := hy.c1
          have u2 := hy.c2
          have f2 := hy.fr 2
          have Hy := Lib.hid hy; clear hy
          obtain ⟨tv, ht, hto⟩ := Hg.out.inv.th
          obtain ⟨ta, tc, rfl⟩ := own_slice hto
          have d28 := ht.c28
          have d27 := ht.c27
          have d26 := ht.c26
          have lT := ht.lt
          have Hto := Lib.hid hto; clear hto
          have Ht := Lib.hid ht; clear ht
          have Hroy : Hid (wy.ownsRow (T + 1) 58 6 u11 1 ev1) := Hg.out.kept.row Hro.out (fun b hb => by
            have h1 := (Hro.out.lt b hb).1
            have h2 := Hrb.out b hb
            rintro (h | h | h) <;> omega)
          have HKy : Hid (Kept (fun b => b = w3.heap.size ∨ b = W) w4 wy) := HKx.out.trans' Hg.out.kept (fun i hi h => by
            rcases h with h | h | h
            · omega
            · exact .inr h
            · have := HKx.out.size; have := Hinv.out.tb; omega)
          have Hst2 := Lib.hid (stepS_ok hok.out Hst.out Hov.out)
          have Hrat2 := Lib.hid (Hrat.out.step Hov.out (Hrat.out.lt hrun.out hsf.out Hov.out).2)
          obtain ⟨s2, hs2⟩ : ∃ s2, s2 = stepS l s := ⟨_, rfl⟩
          rw [← hs2] at Hg d28 d27 d26 Hto Ht Hst2 Hrat2
          have Hs2 := Lib.hid hs2; clear hs2
          cases hov2 : s2.ov
          · rw [hov2] at d28
            have Hov2 := Lib.hid hov2; clear hov2
            go_wp2_with fail
            go_roundw
            case rel => exact ⟨k + 1, by omega, by go_num, HKy.out, .inr (.inl ⟨_, _, _, Hy.out, Hg.out.inv, Hrat2.out, Hov2.out, Hst2.out, hTge, Hroy.out, Hrb.out⟩)⟩
            case measure => simp [intOf]; omega
          · rw [hov2] at d28
            have Hov2 := Lib.hid hov2; clear hov2
            go_wp2_with fail
            have lTH := Hy.out.lt
            have hbT : T + 1 ≤ wy.heap.size := lT
            have hneTH : some w3.heap.size ≠ Value.ownBlock u11 := fun e => by have := (Hroy.out.lt _ e.symm).1; omega
            have hneT : some (T) ≠ Value.ownBlock u11 := fun e => by have := (Hroy.out.lt _ e.symm).1; omega
            go_region_held3 (fun w' => w'.cell? ⟨w3.heap.size, 1, none⟩ = some (.int .i64 1) ∧ w'.cell? ⟨w3.heap.size, 2, none⟩ = some (.pointer (some ⟨T, 0, none⟩)) ∧ w'.cell? ⟨T, 27, none⟩ = some (.int .i64 s2.cd) ∧ w'.cell? ⟨T, 26, none⟩ = some (.slice ta s2.told.length tc))
              (first | go_keep | (exact ⟨by assumption, by assumption, by assumption, by assumption⟩))
              ((rw [if_pos (by rfl)]
                refine wp_append_own _ (.tmp 130) (.tmp 153) 54 (by rfl) (T + 1) 58 j0 (.agg #[.int .i64 0, .int .i64 0, .int .i64 0, .bool false, .int .i64 0, .slice none 0 0]) 6 64 Tryd.underlying54 hj hy0 hy1 hy2 rfl (by decide) u11 1 ev1 (by rfl) (by exact Hroy.out.alloc _) ⟨wy.heap.size, 0, none⟩ 1 1 (ev2 k s2.cd (.slice ta s2.told.length tc)) (by rfl) (by rfl) ?_ ?_ ?_ ?_ ?_ ?_
                · exact fun j u hu => by
                    have hadd : (⟨wy.heap.size, 0, none⟩ : Addr).add j = ⟨wy.heap.size, j, none⟩ := by unfold Addr.add; split <;> simp_all
                    rw [hadd]
                    exact (World.cell?_alloc_new wy (ev2 k s2.cd (.slice ta s2.told.length tc)).toArray 58 j).trans (by simpa using hu)
                · intro u hu; simp only [ev2, List.mem_cons, List.not_mem_nil, or_false] at hu; rcases hu with rfl | rfl | rfl | rfl | rfl | rfl <;> rfl
                · unfold maxLen; omega
                · omega
                · simp; omega
                intro v' w8 hown8 hgrow8 _
                have k8 : Kept (fun b => some b = Value.ownBlock u11) wy w8 := (((Kept.refl (fun b => some b = Value.ownBlock u11) wy).alloc _).drew).grown hgrow8 (fun b hb _ => hb.symm)
                have g1 := k8.cell u1 hneTH
                have g2 := k8.cell u2 hneTH
                have g3 := k8.cell d27 hneT
                have g4 := k8.cell d26 hneT
                have g5 := (k8.frozen (p := ⟨w3.heap.size, 2, none⟩) lTH hneTH).trans f2
                have K8 := Lib.hid k8
                have Hown8 := Lib.hid hown8
                clear k8 hown8 hgrow8))
            go_wp2_with fail
            go_roundw
            case rel =>
              obtain ⟨e1, e2⟩ := Hrat2.out.end hrun.out Hov2.out
              refine ⟨k + 1, by omega, by go_num, ?_, .inr (.inr ⟨?_, ?_⟩)⟩
              · refine Kept.setCell ?_ (fun _ => .inl rfl) _
                exact HKy.out.trans' K8.out (fun i hi h => by have := (Hroy.out.lt i h.symm).1; omega)
              · exact (Hy.out.kept K8.out hneTH).setP none
              · rw [← e1]; exact Played.mk' (TH := w3.heap.size) (RB := T + 1) Hg.out.inv Hto.out Hy.out (by omega) hWlt Hroy.out (by omega) Hrb.out K8.out Hown8.out
            case measure => simp [intOf]; omega
        · have Hth := Lib.hid hth
          have Hpl := Lib.hid hpl
          have t1 := hth.c1
          have t2 := hth.c2
          have t0 := hth.c0
          clear hth hpl
          go_wp2_with fail
          go_quiet (fail)
          go_wp2_with fail
          go_roundw
          case rel => exact ⟨k + 1, by omega, by go_num, Hk.out.drewN, .inr (.inr ⟨Hth.out, Hpl.out.kept ((Kept.refl NoB wr).drewN)⟩)⟩
          case measure => simp [intOf]; omega
      · have hlt' : ¬ ((k : Int) < L) := by omega
        clear HS
        have Hph := Lib.hid hph; clear hph
        go_wp2_with fail
        refine bodyPost_ret (v := .tuple #[u11, wv, .int .i64 0]) (by simp [results, Tryd.results40, go_sem]) rfl ⟨u11, wv, rfl, ?_, ?_⟩
        · have hn0 := hnst.out
          rcases Hph.out with ⟨h0, _, _⟩ | ⟨T, B, s, _, _, hrat, hov, _⟩ | ⟨_, hpl⟩
          · have hb0 : (beginS l args ws).ov = false := by
              have := hlen.out
              simp only [beginS, beq_eq_false_iff_ne, ne_eq]; omega
            have := (RunAt.start l 6000 (beginS l args ws)).lt hrun.out hsf.out hb0
            omega
          · have := hrat.lt hrun.out hsf.out hov
            omega
          · exact hpl
        · refine ((((K0.out.trans K1.out).trans K3.out).trans K4.out)).trans' Hk.out (fun i hi h => ?_)
          have s1 := K0.out.size
          have s3 := K3.out.size
          rcases h with h | h <;> omega
  · intro j u hu
    have := cell_one_new (w3.alloc (.cells #[.slice (some ⟨KB, 0, none⟩) 1 1, .int .i64 0, .pointer none] 77)) (.pointer (some ⟨w3.heap.size, 0, none⟩)) 75 j u hu
    simp only [World.size_alloc] at this
    exact this
  · intro u hu; simp at hu; subst hu; rfl
  · decide
  · decide
  · simp
/-- Play at the machine of one code, one thread and one call, which ends. -/
theorem play_calls {w : World} {CB TB KB C A D S L L2 nst : Nat} {cv av sv : Value} {l : List Op5} {args ws : List Int} {sf : St} (hM : MachAt w CB TB KB cv av) (hc : OpsAt w cv C l) (ha : IntsAt w av A args) (hs : IntsAt w sv D ws) (hok : okCode l = true) (hsh : Shapes w)
    (hm : args.length ≤ 8) (hN : ws.length ≤ 200) (hL : L ≤ 6000) (hrun : runS l 6000 (beginS l args ws) = (sf, nst)) (hsf : sf.ov = true) (hlen : 0 < l.length) (hnst : nst ≤ L) (hz : ∀ i, i < L → w.cell? ⟨S, i, none⟩ = some (.int .i64 0)) :
    Calls Tryd.prog 40 #[machV sv CB TB, .slice (some ⟨S, 0, none⟩) L L2] w (PlayPost w sf) := by
  obtain ⟨ca, cc, rfl, _⟩ := hc.val
  obtain ⟨aa, ac, rfl, _⟩ := ha.val
  obtain ⟨sa, sc, rfl, _⟩ := hs.val
  exact play_walk CB TB KB C A D S L L2 l args ws sa _ sc ca aa _ cc _ ac w hM hN hm (okCode_len hok) hL hc ha hs rfl rfl rfl hok hsh nst sf hrun hsf hlen hnst hz
end Go.Proofs.YtmnfgigieafehaaDoor
