/- The laws on heat: the walks. -/
import Derived.Test.YtdblfcmmeggpdaaHa
namespace Go.Proofs.Ytdblfcmmeggpdaa
open Go.RowKit
theorem FnExactHeatStep_any (a b : Int) (w : World) :
    Calls Try.prog 3 #[.int .i64 a, .int .i64 b] w fun e w' => e = .returned (.bool true) ∧ Chg NoB w w' := by
  go_enter Try.func3, Try.ntmps3
  go_wp2_with (first | (go_at_call 15; refine (sHeatStep_any _ _ _).mono ?_; rintro e w' ⟨rfl, rfl⟩) | (go_at_call 16; refine (iHeatStep_any _ _ _).mono ?_; rintro e w' ⟨rfl, rfl⟩))
  go_ret
  exact ⟨rfl, Chg.refl _ _⟩
end Go.Proofs.Ytdblfcmmeggpdaa
