/- Cylinder: the helpers of the laws (copy, compare, size, mark, look again); lengths up to 2^20. -/
import Derived.Test.YthgllpocljeegaaGreatDoorRowPin
import Derived.Handy
namespace Go.Proofs.YthgllpocljeegaaGreatDoor
open Go.RowKit

/-- a new value -/
def NewCylinder (st tr : Int) (l : List (Int × Int)) (w : World) (en : Ending) (w' : World) : Prop :=
  ∃ A c, en = .returned (.agg #[.int .i64 st, .int .i64 tr, .slice A l.length c]) ∧ w'.ownsRow w.heap.size 44 2 (.slice A l.length c) l.length (cP l) ∧ Below w.heap.size w w'

end Go.Proofs.YthgllpocljeegaaGreatDoor
