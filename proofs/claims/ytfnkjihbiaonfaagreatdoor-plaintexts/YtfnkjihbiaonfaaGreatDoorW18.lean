import Derived.Test.YtfnkjihbiaonfaaGreatDoorW17
namespace Go.Ideal
open Go Go.Proofs
theorem readableI : Tryz.prog.readableRec 3 = true ∧ 3 < Tryz.prog.types.size := ⟨by kernel_rfl, of_decide_eq_true (by kernel_rfl)⟩
end Go.Ideal
