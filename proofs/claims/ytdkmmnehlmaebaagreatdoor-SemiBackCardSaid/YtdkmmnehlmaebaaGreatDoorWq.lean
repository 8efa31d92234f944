
/- A value as a card wants it. Condition: it is laid. -/
import Derived.Test.YtdkmmnehlmaebaaGreatDoorWo
namespace Go.Proofs.YtdkmmnehlmaebaaGreatDoor
open Go.ChangeShapes Go.WideShapes Go.ChangeAt Go.RowKit

set_option maxRecDepth 100000 in
theorem open_value {H : Type} {enc : TypeId × Value → H} {W : World} {r : Reach} {b0 : Nat} {v : Value} {d : DataW H} {ps : List MemPlace}
    (hval : Value.okWide Tryz.prog W r b0 27 v) (h : DataW.Trod enc Tryz.prog W 0 (fun _ => true) true 27 v d ps) :
    ∃ x : Se.SV, v = x.v ∧ x.ok W := Se.open_value hval h
end Go.Proofs.YtdkmmnehlmaebaaGreatDoor
