/- What the laws of layer 5 import. -/
import Derived.Test.YtgalddnblciciaaDoorMacG
import Derived.Test.YtgalddnblciciaaDoorShaKit
import Derived.Test.YtgalddnblciciaaDoorOpenBulk
import Derived.Test.YtgalddnblciciaaDoorSpread
import Derived.Deep.DeepHandedRow
import Derived.Test.YtgalddnblciciaaDoorRegB
namespace Go.Proofs.YtgalddnblciciaaDoor
open Go.RowKit Go.Deep
theorem mac_key {w : World} (hK : Hid (Consts w Sha.tab)) : ∀ w1, Below w.heap.size w w1 → Calls Tryd.prog 28 #[] w1 fun e w2 => e = .returned (.bool true) ∧ Below w.heap.size w w2 := fun _ h => (macAwake_any _ (hK.out.below h)).mono fun _ _ ⟨he, h2⟩ => ⟨he, h.trans (h2.mono h.size)⟩
end Go.Proofs.YtgalddnblciciaaDoor
