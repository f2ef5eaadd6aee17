/- The plain law of a change of one instruction: from the block to the runs. No Go and no memory in it. -/
import Derived.Test.YtmnfgigieafehaaDoorSimC
namespace Go.Proofs.YtmnfgigieafehaaDoor
open Go.RowKit
set_option maxRecDepth 100000

/-- What the block at k has to do, I being what every state on the way is. -/
def BlockOk (l bl : List Op5) (k f : Nat) (I : St → Prop) : Prop :=
  ∀ s s', I s → StOk l.length s.ws.length s → Side k (bl.length - 1) f s s' → s.pc = k → s.ov = false →
    ∃ t', Steps (putL l k bl) s' t' ∧ (Side k (bl.length - 1) f (stepS l s) t' ∨ ((stepS l s).ov = true ∧ Same (stepS l s) t'))
theorem law_of_block {l bl : List Op5} {k f : Nat} {args ws : List Int} {I : St → Prop} (hok : okCode l = true) (hk : k < l.length) (hb : 0 < bl.length) (hu : ∀ o ∈ l, ∀ r ∈ usedL o, r < f)
    (hI0 : I (beginS l args ws)) (hI : ∀ s, I s → StOk l.length ws.length s → s.ov = false → I (stepS l s)) (hbl : BlockOk l bl k f I)
    (h1 : (runAns l args ws 1000).e ≠ 11) (h2 : (runAns (putL l k bl) args ws 6000).e ≠ 11) :
    (runAns l args ws 1000).e = (runAns (putL l k bl) args ws 6000).e ∧ (runAns l args ws 1000).told = (runAns (putL l k bl) args ws 6000).told ∧ (runAns l args ws 1000).ws = (runAns (putL l k bl) args ws 6000).ws := by
  have ov1 : (runS l 1000 (beginS l args ws)).1.ov = true := by
    cases h : (runS l 1000 (beginS l args ws)).1.ov
    · exact absurd (by simp only [runAns]; rw [h]; rfl) h1
    · rfl
  have ov2 : (runS (putL l k bl) 6000 (beginS (putL l k bl) args ws)).1.ov = true := by
    cases h : (runS (putL l k bl) 6000 (beginS (putL l k bl) args ws)).1.ov
    · exact absurd (by simp only [runAns]; rw [h]; rfl) h2
    · rfl
  have hl2 := putL_length hk hb
  have S := sim (l := l) (l' := putL l k bl) (R := fun s s' => Side k (bl.length - 1) f s s' ∧ I s ∧ StOk l.length ws.length s) (fun s s' h => h.1.same)
    (fun s s' ⟨h, hi, hst⟩ ho => by
      by_cases hp : s.pc = k
      · obtain ⟨t', ht, hd⟩ := hbl s s' hi (by rw [hst.ws]; exact hst) h hp ho
        exact ⟨t', ht, hd.imp (fun hd => ⟨hd, hI s hi hst ho, stepS_ok hok hst ho⟩) id⟩
      · exact ⟨_, Steps.one (h.same.2.2.2.symm.trans ho), .inl ⟨stay hk hb hok hu h (hst.pc ho) hp, hI s hi hst ho, stepS_ok hok hst ho⟩⟩)
    1000 6000 (beginS l args ws) (beginS (putL l k bl) args ws)
    ⟨⟨by simp [beginS, mapP], fun _ _ => rfl, ⟨rfl, rfl, rfl, by simp only [beginS]; rw [beq_eq_false_iff_ne.2 (show (l.length : Int) ≠ 0 by omega), beq_eq_false_iff_ne.2 (show ((putL l k bl).length : Int) ≠ 0 by omega)]⟩⟩, hI0, beginS_ok⟩ ov1 ov2
  refine ⟨?_, S.1, S.2.1⟩
  simp only [runAns]
  rw [ov1, ov2, S.2.2.1]
end Go.Proofs.YtmnfgigieafehaaDoor
