/- The ranges of a code's numbers. -/
import Derived.Test.YtmnfgigieafehaaDoorSpec
namespace Go.Proofs.YtmnfgigieafehaaDoor
def InR (x : Int) : Prop := -9223372036854775808 ≤ x ∧ x ≤ 9223372036854775807
structure OpR (o : Op5) : Prop where
  k : InR o.k
  a : InR o.a
  b : InR o.b
  c : InR o.c
  d : InR o.d
end Go.Proofs.YtmnfgigieafehaaDoor
