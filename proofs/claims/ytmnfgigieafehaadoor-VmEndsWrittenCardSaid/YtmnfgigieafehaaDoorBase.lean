/- Memory: the frame 'Kept', the cells of a thread, of words and of a code, and what the walks' stores do to them. Conditions: none; nothing of the program's text is used here. -/
import Derived.Test.YtmnfgigieafehaaDoorSpec
import Derived.WalkKit
import Derived.StillTailTactics
import Derived.Deep.QuietTactic
namespace Go.Proofs.YtmnfgigieafehaaDoor
open Go.RowKit
set_option maxRecDepth 100000

/-- A region that draws its order: operations that leave the world alone, and behind them a forced tail. -/
theorem wp_region_tail {P : Program} {id : Nat} {Q : Exit → Act → World → Prop} {a : Act} {w : World} {l : List Oper} (n : Nat) (hm : P.follows .mixedOrders = true) (hB : Region.lexTailB .any l.toArray n = true)
    (h : wpStill P l.toArray w.drew (fun a' => wpList P l.toArray Q (l.drop n) a' w.drew) (l.take n) a) : (Code.region id l.toArray true).wp P Q a w :=
  wp_region_still_tail n hm hB h

theorem wpStill_skip {P : Program} {ops : Array Oper} {w : World} {Q : Act → Prop} {a : Act} {o : Oper} {rest : List Oper} (hw : Region.wanted o (yielded ops a.tmps) = false)
    (h : wpStill P ops w Q rest (a.put o.dst undef)) : wpStill P ops w Q (o :: rest) a := by simp only [wpStill, hw]; exact h

/-- What was there is as it was, but for the blocks of S. -/
structure Kept (S : Nat → Prop) (w w' : World) : Prop where
  os : w'.os = w.os
  tape : w'.tape = w.tape
  output : w'.output = w.output
  size : w.heap.size ≤ w'.heap.size
  block : ∀ k, k < w.heap.size → ¬ S k → w'.heap[k]? = w.heap[k]?

def NoB : Nat → Prop := fun _ => False

theorem Kept.refl (S : Nat → Prop) (w : World) : Kept S w w := ⟨rfl, rfl, rfl, Nat.le_refl _, fun _ _ _ => rfl⟩
theorem Kept.trans {S : Nat → Prop} {a b c : World} (h : Kept S a b) (k : Kept S b c) : Kept S a c :=
  ⟨k.os.trans h.os, k.tape.trans h.tape, k.output.trans h.output, Nat.le_trans h.size k.size, fun i hi hs => (k.block i (Nat.lt_of_lt_of_le hi h.size) hs).trans (h.block i hi hs)⟩
/-- A second part may write what is new since the first began. -/
theorem Kept.trans' {S T : Nat → Prop} {a b c : World} (h : Kept S a b) (k : Kept T b c) (hT : ∀ i, i < a.heap.size → T i → S i) : Kept S a c :=
  ⟨k.os.trans h.os, k.tape.trans h.tape, k.output.trans h.output, Nat.le_trans h.size k.size, fun i hi hs => (k.block i (Nat.lt_of_lt_of_le hi h.size) (fun ht => hs (hT i hi ht))).trans (h.block i hi hs)⟩
theorem Kept.mono {S T : Nat → Prop} {a b : World} (h : Kept S a b) (hS : ∀ i, i < a.heap.size → S i → T i) : Kept T a b :=
  ⟨h.os, h.tape, h.output, h.size, fun i hi ht => h.block i hi (fun hs => ht (hS i hi hs))⟩
theorem Kept.drew {S : Nat → Prop} {a b : World} (h : Kept S a b) : Kept S a b.drew := ⟨h.os, h.tape, h.output, h.size, h.block⟩
theorem Kept.alloc {S : Nat → Prop} {a b : World} (h : Kept S a b) (o : Obj) : Kept S a (b.alloc o) :=
  h.trans ⟨rfl, rfl, rfl, by simp, fun k hk _ => Below.heap_alloc _ _ _ hk⟩
theorem Kept.setCell {S : Nat → Prop} {a b : World} (h : Kept S a b) {p : Addr} (hp : p.block < a.heap.size → S p.block) (v : Value) : Kept S a (b.setCell p v) :=
  h.trans' (T := fun k => k = p.block) ⟨rfl, rfl, rfl, by simp [World.setCell], fun k _ hne => Below.heap_setCell _ _ _ _ hne⟩ (fun i hi e => by subst e; exact hp hi)
theorem Kept.grown {S : Nat → Prop} {a b c : World} {row : Option Nat} (h : Kept S a b) (hg : b.grownBy c row) (hr : ∀ k, row = some k → k < a.heap.size → S k) : Kept S a c :=
  h.trans' (T := fun k => some k = row) ⟨hg.os, hg.tape, hg.output, hg.size, fun k hk hne => hg.block k hk hne⟩ (fun i hi e => hr i e.symm hi)
theorem Kept.cell {S : Nat → Prop} {w w' : World} (h : Kept S w w') {p : Addr} {v : Value} (hc : w.cell? p = some v) (hp : ¬ S p.block) : w'.cell? p = some v :=
  (World.cell?_of_block (w := w) (h.block p.block (World.block_lt_of_cell? w p hc) hp)).trans hc
theorem Kept.frozen {S : Nat → Prop} {w w' : World} (h : Kept S w w') {p : Addr} (hs : p.block < w.heap.size) (hp : ¬ S p.block) : w'.frozen? p = w.frozen? p :=
  World.frozen?_of_block (w := w) (h.block p.block hs hp)
theorem Kept.below {w w' : World} (h : Kept NoB w w') : Below w.heap.size w w' := ⟨h.os, h.tape, h.output, h.size, fun k hk => h.block k hk (fun f => f)⟩
theorem Kept.ofBelow {w w' : World} (h : Below w.heap.size w w') : Kept NoB w w' := ⟨h.os, h.tape, h.output, h.size, fun k hk _ => h.block k hk⟩
theorem Kept.noB {S : Nat → Prop} {w w' : World} (h : Kept NoB w w') : Kept S w w' := h.mono (fun _ _ f => f.elim)
theorem Kept.row {S : Nat → Prop} {w w' : World} {base : Nat} {e : TypeId} {size : Nat} {v : Value} {n : Nat} {xs : List Value} (h : Kept S w w') (ho : w.ownsRow base e size v n xs)
    (hS : ∀ k, v.ownBlock = some k → ¬ S k) : w'.ownsRow base e size v n xs := by
  refine ⟨ho.1, ?_⟩
  rcases ho.2 with hn | ⟨g, cap, cur, hv, hb, hg, rest⟩
  · exact .inl hn
  · refine .inr ⟨g, cap, cur, hv, hb, ?_, rest⟩
    rw [h.block g (Array.getElem?_eq_some_iff.1 hg).1 (hS g (by rw [hv]; rfl))]
    exact hg

/-- A block of cells, whole. -/
theorem heap_setCell_same {w : World} {T i : Nat} {c : Array Value} {e : TypeId} {f : Nat × Nat} (h : w.heap[T]? = some (.cells c e f)) (v : Value) :
    (w.setCell ⟨T, i, none⟩ v).heap[T]? = some (.cells (c.setIfInBounds i v) e f) := by
  simp only [World.setCell, Array.getElem?_modify, h]
  simp
theorem heap_setCell_ne {w : World} {T : Nat} {a : Addr} (h : T ≠ a.block) (v : Value) : (w.setCell a v).heap[T]? = w.heap[T]? := Below.heap_setCell _ _ _ _ h
theorem heap_alloc_ne {w : World} {T : Nat} {x : Obj} (h : w.heap[T]? = some x) (o : Obj) : (w.alloc o).heap[T]? = some x := by
  rw [Below.heap_alloc _ _ _ (Array.getElem?_eq_some_iff.1 h).1]; exact h
theorem cell_of_heap {w : World} {T i : Nat} {c : Array Value} {e : TypeId} {f : Nat × Nat} (h : w.heap[T]? = some (.cells c e f)) : w.cell? ⟨T, i, none⟩ = c[i]? := by
  simp [World.cell?, h]
theorem frozen_of_heap {w : World} {T i : Nat} {c : Array Value} {e : TypeId} (h : w.heap[T]? = some (.cells c e (0, 0))) : w.frozen? ⟨T, i, none⟩ = false := by
  simp [World.frozen?, h]

/-- The 29 cells of a thread. -/
def thCells (cs : Value) (r : Nat → Int) (pc : Nat) (tv : Value) (cd : Int) (ov : Bool) : Array Value :=
  #[cs, .int .i64 (r 0), .int .i64 (r 1), .int .i64 (r 2), .int .i64 (r 3), .int .i64 (r 4), .int .i64 (r 5), .int .i64 (r 6), .int .i64 (r 7), .int .i64 (r 8), .int .i64 (r 9), .int .i64 (r 10), .int .i64 (r 11), .int .i64 (r 12), .int .i64 (r 13), .int .i64 (r 14), .int .i64 (r 15), .int .i64 (r 16), .int .i64 (r 17), .int .i64 (r 18), .int .i64 (r 19), .int .i64 (r 20), .int .i64 (r 21), .int .i64 (r 22), .int .i64 (r 23), .int .i64 (pc : Nat), tv, .int .i64 cd, .bool ov]
def ThreadAt (w : World) (T : Nat) (cs : Value) (s : St) (tv : Value) : Prop := w.heap[T]? = some (.cells (thCells cs s.r s.pc tv s.cd s.ov) 69 (0, 0))

theorem thCells_reg {cs tv : Value} {r : Nat → Int} {pc : Nat} {cd : Int} {ov : Bool} {i : Nat} (h : i < 24) : (thCells cs r pc tv cd ov)[1 + i]? = some (.int .i64 (r i)) := by
  have : i = 0 ∨ i = 1 ∨ i = 2 ∨ i = 3 ∨ i = 4 ∨ i = 5 ∨ i = 6 ∨ i = 7 ∨ i = 8 ∨ i = 9 ∨ i = 10 ∨ i = 11 ∨ i = 12 ∨ i = 13 ∨ i = 14 ∨ i = 15 ∨ i = 16 ∨ i = 17 ∨ i = 18 ∨ i = 19 ∨ i = 20 ∨ i = 21 ∨ i = 22 ∨ i = 23 := by omega
  rcases this with h | h | h | h | h | h | h | h | h | h | h | h | h | h | h | h | h | h | h | h | h | h | h | h <;> subst h <;> rfl
theorem thCells_setReg {cs tv : Value} {r : Nat → Int} {pc : Nat} {cd : Int} {ov : Bool} {i : Nat} (h : i < 24) (v : Int) :
    (thCells cs r pc tv cd ov).setIfInBounds (1 + i) (.int .i64 v) = thCells cs (upd r i v) pc tv cd ov := by
  have : i = 0 ∨ i = 1 ∨ i = 2 ∨ i = 3 ∨ i = 4 ∨ i = 5 ∨ i = 6 ∨ i = 7 ∨ i = 8 ∨ i = 9 ∨ i = 10 ∨ i = 11 ∨ i = 12 ∨ i = 13 ∨ i = 14 ∨ i = 15 ∨ i = 16 ∨ i = 17 ∨ i = 18 ∨ i = 19 ∨ i = 20 ∨ i = 21 ∨ i = 22 ∨ i = 23 := by omega
  rcases this with h | h | h | h | h | h | h | h | h | h | h | h | h | h | h | h | h | h | h | h | h | h | h | h <;> subst h <;> simp [thCells, upd]

section
variable {w : World} {T : Nat} {cs tv : Value} {s : St}
theorem ThreadAt.lt (h : ThreadAt w T cs s tv) : T < w.heap.size := (Array.getElem?_eq_some_iff.1 h).1
theorem ThreadAt.c0 (h : ThreadAt w T cs s tv) : w.cell? ⟨T, 0, none⟩ = some cs := cell_of_heap h
theorem ThreadAt.c25 (h : ThreadAt w T cs s tv) : w.cell? ⟨T, 25, none⟩ = some (.int .i64 s.pc) := cell_of_heap h
theorem ThreadAt.c26 (h : ThreadAt w T cs s tv) : w.cell? ⟨T, 26, none⟩ = some tv := cell_of_heap h
theorem ThreadAt.c27 (h : ThreadAt w T cs s tv) : w.cell? ⟨T, 27, none⟩ = some (.int .i64 s.cd) := cell_of_heap h
theorem ThreadAt.c28 (h : ThreadAt w T cs s tv) : w.cell? ⟨T, 28, none⟩ = some (.bool s.ov) := cell_of_heap h
theorem ThreadAt.reg (h : ThreadAt w T cs s tv) {i : Nat} (hi : i < 24) : w.cell? ⟨T, 1 + i, none⟩ = some (.int .i64 (s.r i)) := (cell_of_heap h).trans (thCells_reg hi)
theorem ThreadAt.fr (h : ThreadAt w T cs s tv) (i : Nat) : w.frozen? ⟨T, i, none⟩ = false := frozen_of_heap h
theorem ThreadAt.setReg (h : ThreadAt w T cs s tv) {i : Nat} (hi : i < 24) (v : Int) : ThreadAt (w.setCell ⟨T, 1 + i, none⟩ (.int .i64 v)) T cs { s with r := upd s.r i v } tv := by
  unfold ThreadAt; rw [heap_setCell_same h, thCells_setReg hi]
theorem ThreadAt.setPc (h : ThreadAt w T cs s tv) (v : Nat) : ThreadAt (w.setCell ⟨T, 25, none⟩ (.int .i64 (v : Int))) T cs { s with pc := v } tv := by
  unfold ThreadAt; rw [heap_setCell_same h]; rfl
theorem ThreadAt.setTold (h : ThreadAt w T cs s tv) (v : Value) : ThreadAt (w.setCell ⟨T, 26, none⟩ v) T cs s v := by
  unfold ThreadAt; rw [heap_setCell_same h]; rfl
theorem ThreadAt.setCode (h : ThreadAt w T cs s tv) (v : Int) : ThreadAt (w.setCell ⟨T, 27, none⟩ (.int .i64 v)) T cs { s with cd := v } tv := by
  unfold ThreadAt; rw [heap_setCell_same h]; rfl
theorem ThreadAt.setOver (h : ThreadAt w T cs s tv) (v : Bool) : ThreadAt (w.setCell ⟨T, 28, none⟩ (.bool v)) T cs { s with ov := v } tv := by
  unfold ThreadAt; rw [heap_setCell_same h]; rfl
theorem ThreadAt.other (h : ThreadAt w T cs s tv) {a : Addr} (ha : T ≠ a.block) (v : Value) : ThreadAt (w.setCell a v) T cs s tv := by
  unfold ThreadAt; rw [heap_setCell_ne ha]; exact h
theorem ThreadAt.alloc (h : ThreadAt w T cs s tv) (o : Obj) : ThreadAt (w.alloc o) T cs s tv := heap_alloc_ne h o
theorem ThreadAt.drew (h : ThreadAt w T cs s tv) : ThreadAt w.drew T cs s tv := h
theorem ThreadAt.kept {w' : World} {S : Nat → Prop} (h : ThreadAt w T cs s tv) (hk : Kept S w w') (hS : ¬ S T) : ThreadAt w' T cs s tv := by
  unfold ThreadAt; rw [hk.block T h.lt hS]; exact h
end

/-- Words that may be written: the slice's cells in block W, from its head on. -/
structure WordsAt (w : World) (wv : Value) (W T B : Nat) (l : List Int) : Prop where
  val : ∃ a cap, wv = .slice a l.length cap ∧ (0 < l.length → a = some ⟨W, 0, none⟩ ∧ T ≠ W ∧ W < B)
  cell : ∀ i, i < l.length → w.cell? ⟨W, i, none⟩ = some (.int .i64 (l.getD i 0))
  fr : ∀ i, i < l.length → w.frozen? ⟨W, i, none⟩ = false

theorem WordsAt.kept {w w' : World} {wv : Value} {W T B : Nat} {l : List Int} {S : Nat → Prop} (h : WordsAt w wv W T B l) (hk : Kept S w w') (hS : 0 < l.length → ¬ S W) : WordsAt w' wv W T B l :=
  ⟨h.val, fun i hi => hk.cell (h.cell i hi) (hS (by omega)), fun i hi => by
    rw [hk.frozen (World.block_lt_of_cell? w _ (h.cell i hi)) (hS (by omega))]; exact h.fr i hi⟩
theorem WordsAt.set {w : World} {wv : Value} {W T B : Nat} {l : List Int} (h : WordsAt w wv W T B l) {i : Nat} (v : Int) : WordsAt (w.setCell ⟨W, i, none⟩ (.int .i64 v)) wv W T B (l.set i v) := by
  refine ⟨by rw [List.length_set]; exact h.val, fun j hj => ?_, fun j hj => ?_⟩
  · rw [List.length_set] at hj
    by_cases hij : i = j
    · subst hij
      rw [World.cell?_setCell_same _ _ _ (h.cell i hj)]
      simp [List.getD, hj]
    · rw [World.cell?_setCell_other _ _ _ _ (by intro e; exact hij (by injection e)), h.cell j hj]
      simp [List.getD, List.getElem?_set_ne hij]
  · rw [List.length_set] at hj
    rw [World.frozen?_setCell]; exact h.fr j hj

/-- A code: the slice's cells, five an instruction. -/
structure CodeAt (w : World) (cs : Value) (C : Nat) (l : List Op5) : Prop where
  val : ∃ a cap, cs = .slice a l.length cap ∧ (0 < l.length → ∃ co, a = some ⟨C, co, none⟩ ∧ ∀ i, i < l.length →
    w.cell? ⟨C, co + i * 5, none⟩ = some (.int .i64 (opAt l i).k) ∧ w.cell? ⟨C, co + i * 5 + 1, none⟩ = some (.int .i64 (opAt l i).a) ∧
    w.cell? ⟨C, co + i * 5 + 2, none⟩ = some (.int .i64 (opAt l i).b) ∧ w.cell? ⟨C, co + i * 5 + 3, none⟩ = some (.int .i64 (opAt l i).c) ∧
    w.cell? ⟨C, co + i * 5 + 4, none⟩ = some (.int .i64 (opAt l i).d))

theorem CodeAt.kept {w w' : World} {cs : Value} {C : Nat} {l : List Op5} {S : Nat → Prop} (h : CodeAt w cs C l) (hk : Kept S w w') (hS : 0 < l.length → ¬ S C) : CodeAt w' cs C l := by
  obtain ⟨a, cap, hv, hc⟩ := h.val
  refine ⟨a, cap, hv, fun hl => ?_⟩
  obtain ⟨co, ha, hcell⟩ := hc hl
  refine ⟨co, ha, fun i hi => ?_⟩
  obtain ⟨h0, h1, h2, h3, h4⟩ := hcell i hi
  exact ⟨hk.cell h0 (hS hl), hk.cell h1 (hS hl), hk.cell h2 (hS hl), hk.cell h3 (hS hl), hk.cell h4 (hS hl)⟩

/-- What a step may write: the thread, the words, what lies from B on. -/
def S3 (T W B : Nat) : Nat → Prop := fun k => k = T ∨ k = W ∨ B ≤ k

/-- A thread in the middle of a call: its state, its words, what it has told. -/
structure Inv (w : World) (T W B : Nat) (cs wv : Value) (s : St) : Prop where
  th : ∃ tv, ThreadAt w T cs s tv ∧ w.ownsRow B 3 1 tv s.told.length (s.told.map (Value.int .i64))
  words : WordsAt w wv W T B s.ws
  tb : T < B
  bw : B ≤ w.heap.size

/-- A thread in the middle of a call, and what the call has kept. -/
structure Good (w0 w : World) (T W B : Nat) (cs wv : Value) (s : St) : Prop where
  inv : Inv w T W B cs wv s
  kept : Kept (S3 T W B) w0 w

section
variable {w0 w : World} {T W B : Nat} {cs wv : Value} {s : St}
theorem Good.start (h : Inv w T W B cs wv s) : Good w w T W B cs wv s := ⟨h, Kept.refl _ _⟩
theorem Inv.lt (h : Inv w T W B cs wv s) : T < w.heap.size := Nat.lt_of_lt_of_le h.tb h.bw

theorem Good.setReg (h : Good w0 w T W B cs wv s) {i : Nat} (hi : i < 24) (v : Int) : Good w0 (w.setCell ⟨T, 1 + i, none⟩ (.int .i64 v)) T W B cs wv { s with r := upd s.r i v } := by
  obtain ⟨⟨⟨tv, ht, ho⟩, hw, tb, bw⟩, hk⟩ := h
  have k1 : Kept (fun k => k = T) w (w.setCell ⟨T, 1 + i, none⟩ (.int .i64 v)) := (Kept.refl (fun k => k = T) w).setCell (fun _ => rfl) _
  exact ⟨⟨⟨tv, ht.setReg hi v, ownsRow_setCell_below ho tb _⟩, hw.kept k1 (fun hl e => by obtain ⟨_, _, _, h2⟩ := hw.val; exact (h2 hl).2.1 e.symm), tb, by simpa using bw⟩, hk.setCell (fun _ => .inl rfl) _⟩
theorem Good.setPc (h : Good w0 w T W B cs wv s) (v : Nat) : Good w0 (w.setCell ⟨T, 25, none⟩ (.int .i64 (v : Int))) T W B cs wv { s with pc := v } := by
  obtain ⟨⟨⟨tv, ht, ho⟩, hw, tb, bw⟩, hk⟩ := h
  have k1 : Kept (fun k => k = T) w (w.setCell ⟨T, 25, none⟩ (.int .i64 (v : Int))) := (Kept.refl (fun k => k = T) w).setCell (fun _ => rfl) _
  exact ⟨⟨⟨tv, ht.setPc v, ownsRow_setCell_below ho tb _⟩, hw.kept k1 (fun hl e => by obtain ⟨_, _, _, h2⟩ := hw.val; exact (h2 hl).2.1 e.symm), tb, by simpa using bw⟩, hk.setCell (fun _ => .inl rfl) _⟩
theorem Good.setCode (h : Good w0 w T W B cs wv s) (v : Int) : Good w0 (w.setCell ⟨T, 27, none⟩ (.int .i64 v)) T W B cs wv { s with cd := v } := by
  obtain ⟨⟨⟨tv, ht, ho⟩, hw, tb, bw⟩, hk⟩ := h
  have k1 : Kept (fun k => k = T) w (w.setCell ⟨T, 27, none⟩ (.int .i64 v)) := (Kept.refl (fun k => k = T) w).setCell (fun _ => rfl) _
  exact ⟨⟨⟨tv, ht.setCode v, ownsRow_setCell_below ho tb _⟩, hw.kept k1 (fun hl e => by obtain ⟨_, _, _, h2⟩ := hw.val; exact (h2 hl).2.1 e.symm), tb, by simpa using bw⟩, hk.setCell (fun _ => .inl rfl) _⟩
theorem Good.setOver (h : Good w0 w T W B cs wv s) (v : Bool) : Good w0 (w.setCell ⟨T, 28, none⟩ (.bool v)) T W B cs wv { s with ov := v } := by
  obtain ⟨⟨⟨tv, ht, ho⟩, hw, tb, bw⟩, hk⟩ := h
  have k1 : Kept (fun k => k = T) w (w.setCell ⟨T, 28, none⟩ (.bool v)) := (Kept.refl (fun k => k = T) w).setCell (fun _ => rfl) _
  exact ⟨⟨⟨tv, ht.setOver v, ownsRow_setCell_below ho tb _⟩, hw.kept k1 (fun hl e => by obtain ⟨_, _, _, h2⟩ := hw.val; exact (h2 hl).2.1 e.symm), tb, by simpa using bw⟩, hk.setCell (fun _ => .inl rfl) _⟩
theorem Good.setWord (h : Good w0 w T W B cs wv s) {i : Nat} (hi : i < s.ws.length) (v : Int) : Good w0 (w.setCell ⟨W, i, none⟩ (.int .i64 v)) T W B cs wv { s with ws := s.ws.set i v } := by
  obtain ⟨⟨⟨tv, ht, ho⟩, hw, tb, bw⟩, hk⟩ := h
  obtain ⟨_, _, _, h2⟩ := hw.val
  have h3 := h2 (by omega)
  exact ⟨⟨⟨tv, ht.other h3.2.1 _, ownsRow_setCell_below ho h3.2.2 _⟩, hw.set v, tb, by simpa using bw⟩, hk.setCell (fun _ => .inr (.inl rfl)) _⟩
theorem Good.alloc (h : Good w0 w T W B cs wv s) (o : Obj) : Good w0 (w.alloc o) T W B cs wv s := by
  obtain ⟨⟨⟨tv, ht, ho⟩, hw, tb, bw⟩, hk⟩ := h
  exact ⟨⟨⟨tv, ht.alloc o, ho.alloc o⟩, hw.kept ((Kept.refl NoB w).alloc o) (fun _ f => f), tb, by simp; omega⟩, hk.alloc o⟩
theorem Good.drew (h : Good w0 w T W B cs wv s) : Good w0 w.drew T W B cs wv s :=
  ⟨⟨h.inv.th, ⟨h.inv.words.val, h.inv.words.cell, h.inv.words.fr⟩, h.inv.tb, h.inv.bw⟩, h.kept.drew⟩
theorem Good.drewN (h : Good w0 w T W B cs wv s) (n : Nat) : Good w0 (w.drewN n) T W B cs wv s :=
  ⟨⟨h.inv.th, ⟨h.inv.words.val, h.inv.words.cell, h.inv.words.fr⟩, h.inv.tb, h.inv.bw⟩, ⟨h.kept.os, h.kept.tape, h.kept.output, h.kept.size, h.kept.block⟩⟩
theorem Good.trans {w1 : World} (h : Good w0 w T W B cs wv s) {s' : St} (k : Good w w1 T W B cs wv s') : Good w0 w1 T W B cs wv s' := ⟨k.inv, h.kept.trans k.kept⟩
/-- What is told grows by one. -/
theorem Good.emit {w wx w1 : World} {tv v' : Value} {x : Int} (h : Inv w T W B cs wv s) (ht : ThreadAt w T cs s tv) (ho : w.ownsRow B 3 1 tv s.told.length (s.told.map (Value.int .i64))) (hx : Kept NoB w wx)
    (hg : wx.grownBy w1 tv.ownBlock) (h1 : w1.ownsRow B 3 1 v' (s.told.length + 1) (s.told.map (Value.int .i64) ++ [.int .i64 x])) :
    Good w (w1.setCell ⟨T, 26, none⟩ v') T W B cs wv { s with told := s.told ++ [x] } := by
  have hk : Kept (fun k => B ≤ k) w w1 := (hx.noB).grown hg (fun k hk _ => (ho.lt k hk).1)
  have tb := h.tb
  have hk2 : Kept (S3 T W B) w (w1.setCell ⟨T, 26, none⟩ v') := (hk.mono (fun _ _ hi => .inr (.inr hi))).setCell (fun _ => .inl rfl) _
  have ht1 : ThreadAt w1 T cs s tv := ht.kept hk (by omega)
  have hw1 := h.words.kept hk (fun hl => by obtain ⟨_, _, _, h2⟩ := h.words.val; have := (h2 hl).2.2; omega)
  have k1 : Kept (fun k => k = T) w1 (w1.setCell ⟨T, 26, none⟩ v') := (Kept.refl (fun k => k = T) w1).setCell (fun _ => rfl) _
  refine ⟨⟨⟨v', ht1.setTold v', ?_⟩, hw1.kept k1 (fun hl e => by obtain ⟨_, _, _, h2⟩ := h.words.val; exact (h2 hl).2.1 e.symm), tb, Nat.le_trans h.bw hk2.size⟩, hk2⟩
  simp only [List.length_append, List.length_singleton, List.map_append, List.map_cons, List.map_nil]
  exact ownsRow_setCell_below h1 tb _
/-- The words' facts for a walk. -/
theorem Inv.word (h : Inv w T W B cs wv s) {i : Nat} (hi : i < s.ws.length) : w.cell? ⟨W, i, none⟩ = some (.int .i64 (s.ws.getD i 0)) ∧ w.frozen? ⟨W, i, none⟩ = false ∧ W < w.heap.size ∧ T ≠ W :=
  ⟨h.words.cell i hi, h.words.fr i hi, World.block_lt_of_cell? w _ (h.words.cell i hi), by obtain ⟨_, _, _, h2⟩ := h.words.val; exact (h2 (by omega)).2.1⟩
end
/-- A value that a walk hands on: no result. -/
def unitV : Value := .tuple #[]
end Go.Proofs.YtmnfgigieafehaaDoor
