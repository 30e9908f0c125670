/- The rows' last step over the laid variable sha.constants: what the laws' frames import. -/
import Derived.Test.YtgalddnblciciaaDoorShaAwake
import Derived.Test.YtgalddnblciciaaDoorOpenArr
import Derived.Test.YtgalddnblciciaaDoorCards
import Derived.Test.YtgalddnblciciaaDoorTie
import Derived.ProofKit
import Derived.LaidMore
import Derived.OpenShut
import Derived.Stop.Joined
import Derived.Lib.LaidTab
import Derived.SevenTiedAt
