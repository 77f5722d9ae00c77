/-
  MergeMoves: CASES, RECKONED.
-/
import Derived.Test.YtbhblbkehmlcfaaGreatW10
namespace Go.Ideal
open Go
set_option maxRecDepth 1000000
theorem mv_14:∀n i j u v w,mvRun n i j u v w [(0,(5,3),(5,0),(5,3)),(1,(5,3),(5,0),(5,4))] .e=endX:=fun _ _ _ _ _ _=>by kernel_rfl
theorem mv_20:∀n i j u v w,mvRun n i j u v w [(0,(5,3),(5,3),(5,3)),(1,(5,3),(5,3),(5,4))] .e=endX:=fun _ _ _ _ _ _=>by kernel_rfl
theorem mv_32:∀n i j u v w,mvRun n i j u v w [(0,(5,4),(6,4),(6,3)),(1,(5,4),(6,4),(6,4)),(2,(5,4),(6,4),(6,5))] .e=endX:=fun _ _ _ _ _ _=>by kernel_rfl
end Go.Ideal
