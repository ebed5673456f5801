/- TERRAINS: what a law asks of them. -/
import Derived.Test.YtlkdgochmoeaaaaVau
import Derived.Test.YtlkdgochmoeaaaaVrInt
import Derived.Test.YtlkdgochmoeaaaaVsC
set_option linter.unusedVariables false
set_option linter.unusedSimpArgs false
set_option maxRecDepth 100000
set_option maxHeartbeats 4000000
namespace Go.Vs
open Go.Proofs
attribute [local irreducible] exec vwp thenQ blkQ loopQ RetPost

structure Terrain where
  (width height : Int)
  (burn : List Int)
  deriving DecidableEq
@[reducible] def Terrain.pv (t : Terrain) : List PV := [.int .i64 t.width, .int .i64 t.height, .list 1 (ints t.burn)]
end Go.Vs
