/-
  The small engine of the statements' own closes its clause. Conditions: none.
-/
import Derived.Test.YtaileihnkmjfiaaS1
namespace Go.Proofs.Ytaileihnkmjfiaa

theorem own_add : ((ES.new 2).add [1, 2]).2 = 0 := by decide +kernel
theorem own_decide : ((((ES.new 2).add [1, 2]).1).decide' (-1)).2 = 0 := by decide +kernel
theorem own_propagate : ((((ES.new 2).add [1, 2]).1).decide' (-1)).1.propagate.2 = true := by decide +kernel
theorem own_value : ((((ES.new 2).add [1, 2]).1).decide' (-1)).1.propagate.1.value 2 = 1 := by decide +kernel
end Go.Proofs.Ytaileihnkmjfiaa
