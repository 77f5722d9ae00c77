/-
  MergeMoves: CASES, RECKONED.
-/
import Derived.Test.YtbhblbkehmlcfaaGreatW10
namespace Go.Ideal
open Go
set_option maxRecDepth 1000000
theorem mv_21:∀n i j u v w,mvRun n i j u v w [(0,(5,3),(5,4),(5,0)),(1,(5,3),(5,4),(5,1)),(2,(5,3),(5,4),(5,2))] .e=endX:=fun _ _ _ _ _ _=>by kernel_rfl
theorem mv_27:∀n i j u v w,mvRun n i j u v w [(0,(5,4),(6,2),(6,0)),(1,(5,4),(6,2),(6,1)),(2,(5,4),(6,2),(6,2))] .e=endX:=fun _ _ _ _ _ _=>by kernel_rfl
end Go.Ideal
