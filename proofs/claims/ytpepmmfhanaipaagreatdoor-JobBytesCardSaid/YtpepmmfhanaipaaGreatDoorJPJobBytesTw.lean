-- Put together by mergex.py out of this workplace's texts.
import Derived.Test.YtpepmmfhanaipaaGreatDoorJPJobBytesx5
import Derived.Test.YtpepmmfhanaipaaGreatDoorJe
namespace Go.Proofs.YtpepmmfhanaipaaGreatDoor.PJobBytes
open Go.RowKit
theorem thresherlaw14_wakes.calls (r : Bool) (w : World) (hL : Lang.Laid w) (h : thresherlaw14_wakes.f = some r) :
    Calls Tryz.prog 32 #[] w fun e w' => e = .returned (.bool r) ∧ Below w.heap.size w w' := by
  obtain rfl : true = r := Option.some.inj h
  exact Wk.c32 w hL
end Go.Proofs.YtpepmmfhanaipaaGreatDoor.PJobBytes
