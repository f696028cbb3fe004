/- Layer 16 (dot): the law DotOrders, told of the arguments as they are opened. -/
import Derived.Test.YtjlmbdhjpjbneaaD8
import Derived.Test.YtjlmbdhjpjbneaaO5
namespace Go.Proofs.Ytjlmbdhjpjbneaa
open Go.RowKit
theorem dotOrders_law (w : World) {a b : Value} (ha : IsDot a) (hb : IsDot b) :
    Calls Try.prog 3 #[a, b] w fun e w' => e = .returned (.bool true) ∧ Below w.heap.size w w' := by
  obtain ⟨d, i, s, rfl, h1, h2, h3⟩ := ha
  obtain ⟨d', i', s', rfl, h4, h5, h6⟩ := hb
  exact dotOrders_walk w d i s d' i' s' h1 h2 h3 h4 h5 h6
end Go.Proofs.Ytjlmbdhjpjbneaa
