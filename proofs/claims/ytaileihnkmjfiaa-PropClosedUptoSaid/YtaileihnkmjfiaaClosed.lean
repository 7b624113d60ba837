/-
  PropClosed, where what comes in is of bulk at most 1048576: behind a Propagate that answers true no clause that was taken is false or a unit; behind one that answers false there is a false clause. Conditions: the bulk alone.
-/
import Derived.Test.YtaileihnkmjfiaaC2
import Derived.Test.YtaileihnkmjfiaaU1
namespace Go.Proofs.Ytaileihnkmjfiaa
open Go.ChangeShapes Go.WideShapes Go.ChangeAt Go.RowKit

set_option maxRecDepth 100000 in
theorem closed_lifted (os : Os) (started : os.Started) (H : Type) (enc : TypeId × Value → H) (F : Stop.Interp) :
    ReturnsInHanded {} Try.checked os 3 .any ((Rows.OpenSpec.upto Rows.propClosedSpec).pre6 enc Try.prog Try.f3 Rows.propClosedUptoRow.domain false) (((Rows.OpenSpec.upto Rows.propClosedSpec).at F).post enc Try.prog Try.f3 false true false false) := by
  refine returnsInHanded_of_cond (C := Try.checked) (s := Rows.OpenSpec.upto Rows.propClosedSpec) (k := Rows.uptoSmall) rfl Try.own started (by kernel_rfl) Try.func3
    (OpenSpec.witness (enc := enc) (C := Try.checked) (s := Rows.OpenSpec.upto Rows.propClosedSpec) (k := Rows.uptoSmall) rfl false ⟨#[], #[.int .i64 0, .slice none 0 0], []⟩ 8 (by kernel_rfl) (by kernel_rfl) (by kernel_rfl)
      (x := ([.lit (.int .i64 0), .nil], [], [])) (by kernel_rfl) rfl (by kernel_rfl)) ?_
  intro W base args ds gs before hval hW _ hk _
  exact contract2 (s := Rows.propClosedSpec) closed_walk Try.params3 rfl rfl (fun _ _ => rfl) W base args ds gs before hval hW hk

theorem closed_holds : Rows.PropClosedUptoSaid :=
  OpenClaim.holds_of_cond 3 Try.f3 rfl rfl rfl rfl rfl rfl rfl ⟨rfl, rfl, rfl, rfl, rfl⟩ rfl rfl rfl rfl rfl (by kernel_rfl) Try.func3 (by kernel_rfl)
    (of_decide_eq_true (by kernel_rfl)) (by unfold Func.isWrapper; first | (rw [if_pos (by decide +kernel)]; kernel_rfl) | (rw [if_neg (by decide +kernel)]; exact ⟨rfl, rfl⟩))
    (fun os started H enc _ F => closed_lifted os started H enc F)

#print axioms closed_holds
end Go.Proofs.Ytaileihnkmjfiaa
