/- The walk of wSwap's function: what it makes of a code. Conditions: the captured cells hold what is said; the function that gives the other instructions does what 'ByOk' says. -/
import Derived.Test.YtmnfgigieafehaaDoorPut
import Derived.Test.YtmnfgigieafehaaDoorRuns
namespace Go.Proofs.YtmnfgigieafehaaDoor
open Go.RowKit
set_option maxRecDepth 100000

/-- What a function that gives the instructions in the place of one does: nil, or a new row of them. -/
def ByOk (w0 : World) (F : Nat) (caps : Array Value) (many n : Nat) (byL : Op5 → Nat → Nat → Option (List Op5)) : Prop :=
  ∀ (w : World) (o : Op5) (i f : Nat), Kept NoB w0 w → okOp n o = true → i < n → f + many ≤ 24 →
    Calls Tryd.prog F (#[opAgg o, .int .i64 i, .int .i64 f] ++ caps) w fun e w' => ∃ v, e = .returned v ∧ Kept NoB w w' ∧
      ((byL o i f = none ∧ v = .slice none 0 0) ∨ (∃ bl B ad cap, byL o i f = some bl ∧ v = .slice (some ad) bl.length cap ∧ OpsAt w' v B bl ∧ 0 < bl.length ∧ bl.length ≤ 8))

def freeN (l : List Op5) (na : Nat) : Nat := (freeI l na).toNat
/-- The places where there are others. -/
def someL (l : List Op5) (f many : Nat) (byL : Op5 → Nat → Nat → Option (List Op5)) (k : Nat) : List Nat :=
  (List.range k).filter fun i => decide (f + many ≤ 24) && (byL (opAt l i) i f).isSome
/-- What wSwap's function makes of a code. -/
def swapL (na : Nat) (which : Int) (many : Nat) (byL : Op5 → Nat → Nat → Option (List Op5)) (l : List Op5) : Option (List Op5) :=
  let ps := someL l (freeN l na) many byL l.length
  if ps.length = 0 then none else
    let k := ps.getD (pickI which ps.length).toNat 0
    (byL (opAt l k) k (freeN l na)).map (putL l k)

theorem someL_succ (l : List Op5) (f many : Nat) (byL : Op5 → Nat → Nat → Option (List Op5)) (k : Nat) :
    someL l f many byL (k + 1) = someL l f many byL k ++ (if (decide (f + many ≤ 24) && (byL (opAt l k) k f).isSome) = true then [k] else []) := by
  unfold someL
  rw [List.range_succ, List.filter_append]
  congr 1
  rw [List.filter_cons, List.filter_nil]
theorem someL_length (l : List Op5) (f many : Nat) (byL : Op5 → Nat → Nat → Option (List Op5)) (k : Nat) : (someL l f many byL k).length ≤ k := by
  have := List.length_filter_le (fun i => decide (f + many ≤ 24) && (byL (opAt l i) i f).isSome) (List.range k)
  rw [List.length_range] at this
  exact this
theorem someL_mem {l : List Op5} {f many : Nat} {byL : Op5 → Nat → Nat → Option (List Op5)} {k i : Nat} (h : i ∈ someL l f many byL k) : i < k ∧ f + many ≤ 24 ∧ (byL (opAt l i) i f).isSome = true := by
  simp only [someL, List.mem_filter, List.mem_range, Bool.and_eq_true, decide_eq_true_eq] at h
  exact ⟨h.1, h.2.1, h.2.2⟩

/-- What an instruction that may be uses are registers. -/
theorem used_ok {n : Int} {o : Op5} (h : okOp n o = true) : ∀ r ∈ usedL o, 0 ≤ r ∧ r < 24 := by
  obtain ⟨k, a, b, c, d⟩ := o
  obtain ⟨h1, h2⟩ := ok_kind h
  simp only at h1 h2
  have hk : k = 1 ∨ k = 2 ∨ (k = 3 ∨ k = 4 ∨ k = 5 ∨ k = 6 ∨ k = 7 ∨ k = 8 ∨ k = 9) ∨ k = 10 ∨ (k = 11 ∨ k = 12) ∨ (k = 13 ∨ k = 14) ∨ k = 15 ∨ k = 16 ∨ k = 17 := by omega
  rcases hk with rfl | rfl | hk | rfl | hk | hk | rfl | rfl | rfl
  · have := ok_set h
    intro r hr; simp [usedL] at hr; subst hr; exact this.1
  · have := ok_copy h
    intro r hr; simp [usedL] at hr
    rcases hr with rfl | rfl
    · exact this.1
    · exact this.2.1
  · have := ok_three hk h
    intro r hr
    rcases hk with rfl | rfl | rfl | rfl | rfl | rfl | rfl <;> simp [usedL] at hr <;> (rcases hr with rfl | rfl | rfl <;> first | exact this.1 | exact this.2.1 | exact this.2.2.1)
  · intro r hr; simp [usedL] at hr
  · have := ok_way hk h
    intro r hr
    rcases hk with rfl | rfl <;> simp [usedL] at hr <;> (subst hr; exact this.1)
  · have := ok_mem hk h
    intro r hr
    rcases hk with rfl | rfl <;> simp [usedL] at hr <;> (rcases hr with rfl | rfl <;> first | exact this.1 | exact this.2.1)
  · have := ok_cas h
    intro r hr; simp [usedL] at hr
    rcases hr with rfl | rfl | rfl
    · exact this.1
    · exact this.2.1
    · exact this.2.2
  · have := ok_emit h
    intro r hr; simp [usedL] at hr; subst hr; exact this.1
  · intro r hr; simp [usedL] at hr
/-- The target of an instruction that may be lies in the code. -/
theorem tgt_ok {n : Int} {o : Op5} (h : okOp n o = true) {T : Int} (ht : tgtOf o = some T) : 0 ≤ T ∧ T ≤ n := by
  obtain ⟨k, a, b, c, d⟩ := o
  unfold tgtOf at ht
  simp only at ht
  by_cases h1 : k = 10
  · subst h1
    rw [if_pos rfl] at ht
    cases ht
    exact (ok_jump h).1
  · rw [if_neg h1] at ht
    by_cases h2 : k = 11 ∨ k = 12
    · rw [if_pos h2] at ht
      cases ht
      exact (ok_way h2 h).2.1
    · rw [if_neg h2] at ht
      cases ht
theorem okCode_mem {l : List Op5} (h : okCode l = true) : ∀ o ∈ l, okOp l.length o = true := by
  simp only [okCode, Bool.and_eq_true, List.all_eq_true] at h
  exact h.1
theorem freeN_in {l : List Op5} {na : Nat} (h : okCode l = true) (hna : na ≤ 8) : (freeI l na) = (freeN l na : Nat) ∧ freeN l na ≤ 24 := by
  have := freeI_in (n := na) (l := l) (by omega) (fun o ho => used_ok (okCode_mem h o ho))
  unfold freeN
  omega

theorem someL_get {l : List Op5} {f many : Nat} {byL : Op5 → Nat → Nat → Option (List Op5)} {k j : Nat} (hj : j < (someL l f many byL k).length) : (someL l f many byL k).getD j 0 ∈ someL l f many byL k := by
  rw [List.getD, List.getElem?_eq_getElem hj]
  exact List.getElem_mem hj
theorem own_any {w : World} {base n size : Nat} {e : TypeId} {v : Value} {xs : List Value} (h : w.ownsRow base e size v n xs) : ∃ a c, v = .slice a n c := by
  rcases h.2 with ⟨hv, h0⟩ | ⟨g, cap, cur, hv, _⟩
  · exact ⟨none, 0, by rw [h0]; exact hv⟩
  · exact ⟨_, cap, hv⟩
def natsV (l : List Nat) : List Value := l.map fun (i : Nat) => Value.int .i64 (i : Int)
set_option maxHeartbeats 4000000 in
theorem swap_walk (C co cc G gA gM gY gW n na many : Nat) (which : Int) (gcaps : Array Value) (byL : Op5 → Nat → Nat → Option (List Op5)) (l : List Op5) (aa : Option Addr) (ac : Nat) (w : World)
    (hn : Hid (n = l.length)) (hn2 : n ≤ 200) (hpos : 0 < n) (hna : na ≤ 8) (hmany : many ≤ 8) (hok : Hid (okCode l = true)) (ho : Hid (OpsAt w (.slice (some ⟨C, co, none⟩) n cc) C l))
    (hA : w.cell? ⟨gA, 0, none⟩ = some (.slice aa na ac)) (hM : w.cell? ⟨gM, 0, none⟩ = some (.int .i64 many)) (hY : w.cell? ⟨gY, 0, none⟩ = some (.func (.func G) #[] gcaps)) (hW : w.cell? ⟨gW, 0, none⟩ = some (.int .i64 which))
    (hcell : Hid (∀ i, i < n → w.cell? ⟨C, co + i * 5, none⟩ = some (.int .i64 (opAt l i).k) ∧ w.cell? ⟨C, co + i * 5 + 1, none⟩ = some (.int .i64 (opAt l i).a) ∧
    w.cell? ⟨C, co + i * 5 + 2, none⟩ = some (.int .i64 (opAt l i).b) ∧ w.cell? ⟨C, co + i * 5 + 3, none⟩ = some (.int .i64 (opAt l i).c) ∧
    w.cell? ⟨C, co + i * 5 + 4, none⟩ = some (.int .i64 (opAt l i).d)))
    (hby : Hid (ByOk w G gcaps many n byL)) (hcall : ∀ (a : Array Value) (w : World), (callFunc G a).run Tryd.prog w = .ok (.enter G a) w) :
    Calls Tryd.prog 41 (#[.slice (some ⟨C, co, none⟩) n cc] ++ #[.pointer (some ⟨gA, 0, none⟩), .pointer (some ⟨gM, 0, none⟩), .pointer (some ⟨gY, 0, none⟩), .pointer (some ⟨gW, 0, none⟩)]) w fun e w' =>
      ∃ v, e = .returned v ∧ Kept NoB w w' ∧ ((swapL na which many byL l = none ∧ v = .slice none 0 0) ∨ (∃ l' M ad cap, swapL na which many byL l = some l' ∧ v = .slice (some ad) l'.length cap ∧ OpsAt w' v M l')) := by
  have hq := fun (w : World) (a : Option Addr) (n c : Nat) => Lib.run_eql_slice_nil (P := Tryd.prog) w 22 28 a n c 0 0 Tryd.underlying22
  obtain ⟨i0, hi, hz0, hz1, hz2⟩ := info_parts info3
  obtain ⟨hfr, hfr2⟩ := freeN_in hok.out hna
  have Hfr := Lib.hid hfr
  clear hfr
  obtain ⟨f, hf⟩ : ∃ f, f = freeN l na := ⟨_, rfl⟩
  rw [← hf] at Hfr hfr2
  have Hf := Lib.hid hf
  clear hf
  have lA := World.block_lt_of_cell? w _ hA
  have lM := World.block_lt_of_cell? w _ hM
  have lY := World.block_lt_of_cell? w _ hY
  have lW := World.block_lt_of_cell? w _ hW
  dsimp only at lA lM lY lW
  go_enter Tryd.func41, Tryd.ntmps41
  go_wp2_with fail
  refine (free_calls ho.out (by rw [← hn.out]; omega) (by omega) (fun o h => used_ok (okCode_mem hok.out o h))).mono ?_
  rintro e' w1 ⟨rfl, k1⟩
  have K1 := Lib.hid k1
  clear k1
  rw [Hfr.out]
  go_wp2_with fail
  go_loopw [8, 18] (fun v i wr => ∃ k : Nat, k ≤ n ∧ i = .int .i64 k ∧ wr.ownsRow w.heap.size 3 1 v (someL l f many byL k).length (natsV (someL l f many byL k)) ∧ Kept NoB w wr) (fun _ i _ => n - (intOf i).toNat)
  case atStart => exact ⟨0, by omega, rfl, World.ownsRow_nil _ _ _ _, K1.out⟩
  case round =>
    obtain ⟨k, hk, rfl, hown, hkept⟩ := hrel
    have Ho := Lib.hid hown
    have Hk := Lib.hid hkept
    clear hown hkept
    have Hs := Lib.hid (someL_succ l f many byL k)
    have hlen := someL_length l f many byL k
    obtain ⟨ps, hps⟩ : ∃ ps, ps = someL l f many byL k := ⟨_, rfl⟩
    rw [← hps] at Ho Hs hlen
    have Hps := Lib.hid hps
    clear hps
    obtain ⟨m, hm⟩ : ∃ m, m = ps.length := ⟨_, rfl⟩
    rw [← hm] at Ho hlen
    have Hm := Lib.hid hm
    clear hm
    by_cases hlt : k < n
    · obtain ⟨c0, c1, c2, c3, c4⟩ := hcell.out k hlt
      have d0 := Hk.out.cell c0 id
      have d1 := Hk.out.cell c1 id
      have d2 := Hk.out.cell c2 id
      have d3 := Hk.out.cell c3 id
      have d4 := Hk.out.cell c4 id
      clear c0 c1 c2 c3 c4
      have Hoko := Lib.hid (okCode_mem hok.out (opAt l k) (by rw [opAt_eq (by rw [← hn.out]; exact hlt)]; exact List.getElem_mem _))
      obtain ⟨o, hoo⟩ : ∃ o, o = opAt l k := ⟨_, rfl⟩
      rw [← hoo] at d0 d1 d2 d3 d4 Hs Hoko
      clear hoo
      have hCr : C < wr.heap.size := World.block_lt_of_cell? wr _ d0
      have bM := Hk.out.cell hM id
      have bY := Hk.out.cell hY id
      have lM' := World.block_lt_of_cell? wr _ bM
      have lY' := World.block_lt_of_cell? wr _ bY
      dsimp only at lM' lY'
      by_cases hroom : f + many ≤ 24
      · have hroom' : ((f : Int) + many) ≤ 24 := by omega
        go_wp2_with fail
        refine (hby.out _ o k f (Hk.out.alloc _) (by have := Hoko.out; rw [← hn.out] at this; exact this) hlt hroom).mono ?_
        rintro e' w2 ⟨v, rfl, k2, hv⟩
        have K2 : Hid (Kept NoB wr w2) := ((Kept.refl NoB wr).alloc _).trans k2
        have Hv := Lib.hid hv
        clear k2 hv d0 d1 d2 d3 d4 bM bY
        rcases Hv.out with ⟨hnone, rfl⟩ | ⟨bl, B, ad, cap, hsome, rfl, _⟩
        · have Hnone := Lib.hid hnone
          clear hnone
          go_wp2_with fail
          go_roundw
          case rel => exact ⟨k + 1, by omega, by go_num, by
            rw [Hs.out, Hnone.out]
            simp only [Option.isSome_none, Bool.and_false, Bool.false_eq_true, if_false, List.append_nil]
            rw [← Hm.out]
            exact K2.out.row Ho.out (fun _ _ h => h), Hk.out.trans K2.out⟩
          case measure => simp only [intOf]; omega
        · have Hsome := Lib.hid hsome
          have Ho2 : Hid (w2.ownsRow w.heap.size 3 1 u8 m (natsV ps)) := K2.out.row Ho.out (fun _ _ h => h)
          have hsz : w.heap.size ≤ w2.heap.size := Nat.le_trans Hk.out.size K2.out.size
          clear hsome
          go_wp2_with (at_builtin; refine wpList_append_own _ rfl (.tmp 35) (.tmp 37) 23 rfl w.heap.size 3 i0 (.int .i64 0) 1 8 Tryd.underlying23 hi hz0 hz1 hz2 rfl (by decide) u8 m (natsV ps) rfl (Ho2.out.alloc _) ⟨w2.heap.size, 0, none⟩ 1 1 [.int .i64 k] rfl rfl ?h2 ?h3 ?h4 ?h5 ?h6 ?_; rotate_right; intro v' w3 hown hgrow _)
          · have k3 : Kept NoB w w3 := ((Hk.out.trans K2.out).alloc _).grown hgrow (fun b hb hlt => by have := (Ho.out.lt b hb).1; omega)
            have K3 := Lib.hid k3
            have O3 := Lib.hid hown
            clear k3 hown hgrow
            go_roundw
            case rel => exact ⟨k + 1, by omega, by go_num, by
              rw [Hs.out, Hsome.out, decide_eq_true hroom]
              simp only [Option.isSome_some, Bool.and_true, if_true, List.length_append, List.length_singleton]
              rw [← Hm.out]
              unfold natsV
              rw [List.map_append]
              exact O3.out, K3.out⟩
            case measure => simp only [intOf]; omega
          · intro j u hu
            match j, hu with
            | 0, hu =>
              cases hu
              exact World.cell?_alloc_new w2 _ _ 0
          · intro u hu
            rw [List.mem_singleton] at hu
            subst hu
            rfl
          · unfold maxLen; omega
          · omega
          · simp only [World.size_alloc]; omega
      · have hroom' : ¬ ((f : Int) + many) ≤ 24 := by omega
        go_wp2_with fail
        go_roundw
        case rel => exact ⟨k + 1, by omega, by go_num, by
          rw [Hs.out, decide_eq_false hroom]
          simp only [Bool.false_and, Bool.false_eq_true, if_false, List.append_nil]
          rw [← Hm.out]
          exact Ho.out.alloc _, Hk.out.alloc _⟩
        case measure => simp only [intOf]; omega
    · have hkn : n = k := by omega
      subst hkn
      clear hlt
      rw [hn.out] at Hps
      by_cases hm0 : m = 0
      · have hm0' : ((m : Int) == 0) = true := by rw [hm0]; rfl
        have Hm0 := Lib.hid hm0
        clear hm0
        obtain ⟨a8, q8, rfl⟩ := own_any Ho.out
        go_wp2_with fail
        go_ret
        refine ⟨_, rfl, Hk.out, .inl ⟨?_, rfl⟩⟩
        unfold swapL
        simp only [← Hf.out, ← Hps.out, ← Hm.out]
        rw [if_pos Hm0.out]
      · have hm0' : ((m : Int) == 0) = false := by simpa using hm0
        obtain ⟨B8, q8, rfl, h81, h82, _, _⟩ := own_row (by omega) Ho.out
        obtain ⟨hp1, hp2⟩ := pickI_in which m (by omega) (by omega)
        obtain ⟨p, hp⟩ : ∃ p : Nat, pickI which m = p := ⟨(pickI which m).toNat, by omega⟩
        have hpm : p < m := by omega
        have HP := Lib.hid hp
        clear hp hp1 hp2
        have c8 : wr.cell? ⟨B8, p, none⟩ = some (.int .i64 (ps.getD p 0 : Nat)) := by
          have h := Ho.out.cells (g := B8) rfl p (.int .i64 (ps.getD p 0 : Nat)) (by simp [natsV, List.getD, show p < ps.length by rw [← Hm.out]; exact hpm])
          have hadd : (⟨B8, 0, none⟩ : Addr).add p = ⟨B8, p, none⟩ := by unfold Addr.add; split <;> simp_all
          rw [hadd] at h; exact h
        have hmem := someL_get (l := l) (f := f) (many := many) (byL := byL) (k := l.length) (j := p) (by rw [← Hps.out, ← Hm.out]; exact hpm)
        obtain ⟨hat, hroom, hsm⟩ := someL_mem hmem
        rw [← Hps.out] at hat hsm
        rw [← hn.out] at hat
        obtain ⟨at', hat'⟩ : ∃ x, x = ps.getD p 0 := ⟨_, rfl⟩
        rw [← hat'] at c8 hat hsm
        have Hat := Lib.hid hat'
        have Hsm := Lib.hid hsm
        clear hat' hsm hmem
        have bW := Hk.out.cell hW id
        have lW' := World.block_lt_of_cell? wr _ bW
        dsimp only at lW'
        go_wp2_with fail
        refine (pick_calls which m (by omega) (by omega) wr).mono ?_
        rintro e' w' ⟨rfl, rfl⟩
        rw [HP.out]
        go_wp2_with fail
        obtain ⟨c0, c1, c2, c3, c4⟩ := hcell.out at' hat
        have d0 := Hk.out.cell c0 id
        have d1 := Hk.out.cell c1 id
        have d2 := Hk.out.cell c2 id
        have d3 := Hk.out.cell c3 id
        have d4 := Hk.out.cell c4 id
        clear c0 c1 c2 c3 c4
        have bY := Hk.out.cell hY id
        have lY' := World.block_lt_of_cell? wr _ bY
        have hCr : C < wr.heap.size := World.block_lt_of_cell? wr _ d0
        dsimp only at lY'
        have Hoko := Lib.hid (okCode_mem hok.out (opAt l at') (by rw [opAt_eq (by rw [← hn.out]; exact hat)]; exact List.getElem_mem _))
        obtain ⟨o, hoo⟩ : ∃ o, o = opAt l at' := ⟨_, rfl⟩
        rw [← hoo] at d0 d1 d2 d3 d4 Hsm Hoko
        have Hoo := Lib.hid hoo
        clear hoo
        rw [← hn.out] at Hoko
        go_region_held3 (fun w' => w'.cell? ⟨gY, 0, none⟩ = some (.func (.func G) #[] gcaps) ∧ w'.cell? ⟨C, co + at' * 5, none⟩ = some (.int .i64 o.k) ∧ w'.cell? ⟨C, co + at' * 5 + 1, none⟩ = some (.int .i64 o.a) ∧
            w'.cell? ⟨C, co + at' * 5 + 2, none⟩ = some (.int .i64 o.b) ∧ w'.cell? ⟨C, co + at' * 5 + 3, none⟩ = some (.int .i64 o.c) ∧ w'.cell? ⟨C, co + at' * 5 + 4, none⟩ = some (.int .i64 o.d))
          (first | go_keep | exact ⟨by assumption, by assumption, by assumption, by assumption, by assumption, by assumption⟩)
          (first
            | (go_at_call 43
               go_loud (refine (put_calls (OpsAt.kept (S := NoB) (OpsAt.kept (S := NoB) ho.out Hk.out.drew (fun _ h => h)) K2.out (fun _ h => h)) Hbl.out.1 (by rw [← hn.out]; exact hat) (by rw [← hn.out]; exact hn2) Hbl.out.2.1 Hbl.out.2.2
                 (fun i hi T hT => by
                   have h := tgt_ok (okCode_mem hok.out (opAt l i) (by rw [opAt_eq hi]; exact List.getElem_mem _)) hT
                   rw [← hn.out] at h
                   omega)).mono ?_)
               rintro e' w3 ⟨v, rfl, h9, k9⟩
               have f0 := k9.cell e0 id
               have f1 := k9.cell e1 id
               have f2 := k9.cell e2 id
               have f3 := k9.cell e3 id
               have f4 := k9.cell e4 id
               have f5 := k9.cell e5 id
               have H9 := Lib.hid h9
               have K9 := Lib.hid k9
               clear h9 k9)
            | (refine (hby.out _ o at' f Hk.out.drew Hoko.out hat hroom).mono ?_
               rintro e' w2 ⟨v, rfl, k2, hv⟩
               have e0 := k2.cell bY id
               have e1 := k2.cell d0 id
               have e2 := k2.cell d1 id
               have e3 := k2.cell d2 id
               have e4 := k2.cell d3 id
               have e5 := k2.cell d4 id
               rcases hv with ⟨hnone, _⟩ | ⟨bl, B, ad, cap, hsome, rfl, hbl⟩
               · have := Hsm.out
                 rw [hnone] at this
                 cases this
               have K2 := Lib.hid k2
               have Hsome := Lib.hid hsome
               have Hbl := Lib.hid hbl
               clear k2 hsome hbl))
        clear f0 f1 f2 f3 f4 f5 e0 e1 e2 e3 e4 e5 d0 d1 d2 d3 d4 bY
        go_wp2_with fail
        go_ret
        have hlen : 0 < (putL l at' bl).length := by
          have h1 := Hbl.out.2.1
          unfold putL
          simp only [List.length_append, List.length_map]
          omega
        obtain ⟨B9, q9, rfl, h91, _, _, _⟩ := own_row hlen H9.out
        obtain ⟨D9, hD9, _⟩ := RowAt.ofOwns H9.out
        refine ⟨_, rfl, (Hk.out.drew.trans K2.out).trans K9.out, .inr ⟨putL l at' bl, D9, _, _, ?_, rfl, hD9⟩⟩
        unfold swapL
        have hm1 : ¬ m = 0 := hm0
        simp only [← Hf.out, ← Hps.out, ← Hm.out]
        rw [if_neg hm1, HP.out, Int.toNat_natCast, ← Hat.out, ← Hoo.out, Hsome.out]
        rfl
theorem swap_empty (gA gM gY gW na : Nat) (a : Option Addr) (cc : Nat) (aa : Option Addr) (ac : Nat) (w : World) (hna : na ≤ 8)
    (hA : w.cell? ⟨gA, 0, none⟩ = some (.slice aa na ac)) :
    Calls Tryd.prog 41 (#[.slice a 0 cc] ++ #[.pointer (some ⟨gA, 0, none⟩), .pointer (some ⟨gM, 0, none⟩), .pointer (some ⟨gY, 0, none⟩), .pointer (some ⟨gW, 0, none⟩)]) w fun e w' => e = .returned (.slice none 0 0) ∧ Kept NoB w w' := by
  have lA := World.block_lt_of_cell? w _ hA
  dsimp only at lA
  have H := Lib.hid (free_calls (w := w) (v := .slice a 0 cc) (C := 0) (l := []) (na := na) ⟨rfl, a, cc, rfl, fun h => by cases h⟩ (by decide) (by omega) (fun o h => by cases h))
  go_enter Tryd.func41, Tryd.ntmps41
  go_wp2_with fail
  refine H.out.mono ?_
  rintro e' w1 ⟨rfl, k1⟩
  have K1 := Lib.hid k1
  clear k1
  go_wp2_with fail
  refine wp_loop_rounds 1 ?_
  rw [rounds_succ]
  go_wp2_with fail
  go_ret
  exact ⟨rfl, K1.out⟩
/-- What wSwap's function answers. -/
theorem swap_calls {w : World} {G gA gM gY gW na many : Nat} {which : Int} {gcaps : Array Value} {byL : Op5 → Nat → Nat → Option (List Op5)} {l : List Op5} {aa : Option Addr} {ac : Nat} {cv : Value} {C : Nat} (hok : okCode l = true) (hna : na ≤ 8) (hmany : many ≤ 8)
    (hA : w.cell? ⟨gA, 0, none⟩ = some (.slice aa na ac)) (hM : w.cell? ⟨gM, 0, none⟩ = some (.int .i64 many)) (hY : w.cell? ⟨gY, 0, none⟩ = some (.func (.func G) #[] gcaps)) (hW : w.cell? ⟨gW, 0, none⟩ = some (.int .i64 which))
    (hby : ByOk w G gcaps many l.length byL) (hcall : ∀ (a : Array Value) (w : World), (callFunc G a).run Tryd.prog w = .ok (.enter G a) w) (hops : OpsAt w cv C l) :
    Calls Tryd.prog 41 (#[cv] ++ #[.pointer (some ⟨gA, 0, none⟩), .pointer (some ⟨gM, 0, none⟩), .pointer (some ⟨gY, 0, none⟩), .pointer (some ⟨gW, 0, none⟩)]) w fun e w' =>
      ∃ v, e = .returned v ∧ Kept NoB w w' ∧ ((swapL na which many byL l = none ∧ v = .slice none 0 0) ∨ (∃ l' M ad cap, swapL na which many byL l = some l' ∧ v = .slice (some ad) l'.length cap ∧ OpsAt w' v M l')) := by
  have hl := okCode_len hok
  obtain ⟨a, cc, rfl, hc⟩ := hops.code.val
  rcases Nat.eq_zero_or_pos l.length with h0 | h0
  · obtain rfl : l = [] := List.eq_nil_of_length_eq_zero h0
    refine (swap_empty gA gM gY gW na a cc aa ac w hna hA).mono ?_
    rintro e w' ⟨rfl, k⟩
    refine ⟨_, rfl, k, .inl ⟨?_, rfl⟩⟩
    simp [swapL, someL]
  · obtain ⟨co, rfl, hcell⟩ := hc h0
    exact swap_walk C co cc G gA gM gY gW l.length na many which gcaps byL l aa ac w rfl hl h0 hna hmany hok hops hA hM hY hW hcell hby hcall
/-- wSwap's function changes a code as 'swapL' says. -/
theorem swap_change {w0 : World} {G gA gM gY gW na many : Nat} {which : Int} {gcaps : Array Value} {byL : Op5 → Nat → Nat → Option (List Op5)} {l : List Op5} {aa : Option Addr} {ac : Nat} (hok : okCode l = true) (hna : na ≤ 8) (hmany : many ≤ 8)
    (hA : w0.cell? ⟨gA, 0, none⟩ = some (.slice aa na ac)) (hM : w0.cell? ⟨gM, 0, none⟩ = some (.int .i64 many)) (hY : w0.cell? ⟨gY, 0, none⟩ = some (.func (.func G) #[] gcaps)) (hW : w0.cell? ⟨gW, 0, none⟩ = some (.int .i64 which))
    (hby : ByOk w0 G gcaps many l.length byL) (hcall : ∀ (a : Array Value) (w : World), (callFunc G a).run Tryd.prog w = .ok (.enter G a) w) :
    ChangeOk w0 41 #[.pointer (some ⟨gA, 0, none⟩), .pointer (some ⟨gM, 0, none⟩), .pointer (some ⟨gY, 0, none⟩), .pointer (some ⟨gW, 0, none⟩)] (swapL na which many byL) l := by
  intro w cv hk base hb1 hb2 hown
  obtain ⟨C, hC, _⟩ := RowAt.ofOwns hown
  refine (swap_calls (C := C) hok hna hmany (hk.cell hA id) (hk.cell hM id) (hk.cell hY id) (hk.cell hW id) (fun w' o i f hk' => hby w' o i f (hk.trans hk')) hcall hC).mono ?_
  rintro e w' ⟨v, rfl, k, hv⟩
  exact ⟨v, rfl, k.noB, hv⟩
end Go.Proofs.YtmnfgigieafehaaDoor
