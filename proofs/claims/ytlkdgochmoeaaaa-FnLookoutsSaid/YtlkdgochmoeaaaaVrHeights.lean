/- HEIGHTS: what a law asks of them. -/
import Derived.Test.YtlkdgochmoeaaaaVau
import Derived.Test.YtlkdgochmoeaaaaVrTerrain
set_option linter.unusedVariables false
set_option linter.unusedSimpArgs false
set_option maxRecDepth 100000
set_option maxHeartbeats 4000000
namespace Go.Vs
open Go.Proofs
attribute [local irreducible] exec vwp thenQ blkQ loopQ RetPost

structure Heights where
  (terrain : Terrain)
  (metres : List Int)
  deriving DecidableEq
@[reducible] def Heights.pv (h : Heights) : List PV := [.int .i64 h.terrain.width, .int .i64 h.terrain.height, .list 1 (ints h.terrain.burn), .list 1 (ints h.metres)]
def Heights.size (h : Heights) : Nat := h.terrain.burn.length + h.metres.length
end Go.Vs
