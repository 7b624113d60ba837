/-
  What the statements begin with: an engine, where the number may be. Conditions: those each theorem names.
-/
import Derived.Test.YtaileihnkmjfiaaS2
import Derived.Test.YtaileihnkmjfiaaMakes
namespace Go.Proofs.Ytaileihnkmjfiaa
open Go.RowKit

theorem first_bad (v : Int) (w : World) (hv : v < 0 ∨ 1048576 < v) : Calls Try.prog 13 #[i64 v] w fun e w' => e = .returned (.tuple #[.pointer none, .bool true]) ∧ w = w' := by
  have c1 := fun w => new_bad v w hv
  by_cases h1 : v < 0
  · have h2 : ¬ (0 ≤ v) := by omega
    clear hv
    go_enter Try.func13, Try.ntmps13
    go_wp2_with (go_at_call 33; refine (c1 _).mono ?_; rintro e w' ⟨rfl, rfl⟩)
    go_ret2
    exact ⟨rfl, rfl⟩
  · have h2 : 0 ≤ v := by omega
    have h3 : ¬ (v ≤ 1048576) := by omega
    clear hv
    go_enter Try.func13, Try.ntmps13
    go_wp2_with (go_at_call 33; refine (c1 _).mono ?_; rintro e w' ⟨rfl, rfl⟩)
    go_ret2
    exact ⟨rfl, rfl⟩
end Go.Proofs.Ytaileihnkmjfiaa
