/- Walks: op.Right. -/
import Derived.Test.YtdienbcjfljjnaaGreatDoorOpR0
import Derived.Test.YtdienbcjfljjnaaGreatDoorOpR1
import Derived.Test.YtdienbcjfljjnaaGreatDoorOpR2
import Derived.Test.YtdienbcjfljjnaaGreatDoorOpR3
import Derived.Test.YtdienbcjfljjnaaGreatDoorOpR4
open Go.RowKit Go.Shelf
namespace Go.Proofs.YtdienbcjfljjnaaGreatDoor
open Go Go.Proofs Fm

theorem opRight_any (o : Opn) (w : World) (v : Value) (hv : OpV w o v) (hT : KTab w) :
    Calls Tryz.prog 22 #[v] w fun e w' => e = .returned (.bool (rightO o)) ∧ Ext w w' := by
  cases hz : oK o.what with
  | false => exact opRight_w0 o w v hv hT hz
  | true =>
  cases h1 : r1O o with
  | false => exact opRight_w1 o w v hv hT hz h1
  | true =>
  by_cases c1 : 0 ≤ o.quo
  case neg => exact opRight_w2 o w v hv hT hz h1 c1
  cases h2 : r2O o with
  | false => exact opRight_w3 o w v hv hT hz h1 c1 h2
  | true =>
  cases h3 : r3O o with
  | false => exact opRight_w4 o w v hv hT hz h1 c1 h2 h3
  | true =>
  cases h4 : r4O o with
  | false => exact opRight_w5 o w v hv hT hz h1 c1 h2 h3 h4
  | true => exact opRight_w6 o w v hv hT hz h1 c1 h2 h3 h4
end Go.Proofs.YtdienbcjfljjnaaGreatDoor
