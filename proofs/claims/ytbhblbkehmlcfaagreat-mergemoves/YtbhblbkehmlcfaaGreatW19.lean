/-
  MergeMoves: CASES, RECKONED.
-/
import Derived.Test.YtbhblbkehmlcfaaGreatW10
namespace Go.Ideal
open Go
set_option maxRecDepth 1000000
theorem mv_8:∀n i j u v w,mvRun n i j u v w [(0,(5,2),(4,1),(4,3))] .e=endX:=fun _ _ _ _ _ _=>by kernel_rfl
theorem mv_11:∀n i j u v w,mvRun n i j u v w [(0,(5,2),(4,3),(4,0)),(1,(5,2),(4,3),(4,1)),(2,(5,2),(4,3),(4,2))] .e=endX:=fun _ _ _ _ _ _=>by kernel_rfl
theorem mv_31:∀n i j u v w,mvRun n i j u v w [(0,(5,4),(6,4),(6,0)),(1,(5,4),(6,4),(6,1)),(2,(5,4),(6,4),(6,2))] .e=endX:=fun _ _ _ _ _ _=>by kernel_rfl
end Go.Ideal
