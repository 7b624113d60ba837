/-
  PropReasons, where what comes in is of bulk at most 1048576: behind every call each variable that has a value, but by a decision, has a reason that was taken, and in a conflict there is a false clause. Conditions: the bulk alone.
-/
import Derived.Test.YtaileihnkmjfiaaN4
import Derived.Test.YtaileihnkmjfiaaU1
namespace Go.Proofs.Ytaileihnkmjfiaa
open Go.ChangeShapes Go.WideShapes Go.ChangeAt Go.RowKit

set_option maxRecDepth 100000 in
theorem reasons_lifted (os : Os) (started : os.Started) (H : Type) (enc : TypeId × Value → H) (F : Stop.Interp) :
    ReturnsInHanded {} Try.checked os 12 .any ((Rows.OpenSpec.upto Rows.propReasonsSpec).pre6 enc Try.prog Try.f12 Rows.propReasonsUptoRow.domain false) (((Rows.OpenSpec.upto Rows.propReasonsSpec).at F).post enc Try.prog Try.f12 false true false false) := by
  refine returnsInHanded_of_cond (C := Try.checked) (s := Rows.OpenSpec.upto Rows.propReasonsSpec) (k := Rows.uptoSmall) rfl Try.own started (by kernel_rfl) Try.func12
    (OpenSpec.witness (enc := enc) (C := Try.checked) (s := Rows.OpenSpec.upto Rows.propReasonsSpec) (k := Rows.uptoSmall) rfl false ⟨#[], #[.int .i64 0, .slice none 0 0], []⟩ 8 (by kernel_rfl) (by kernel_rfl) (by kernel_rfl)
      (x := ([.lit (.int .i64 0), .nil], [], [])) (by kernel_rfl) rfl (by kernel_rfl)) ?_
  intro W base args ds gs before hval hW _ hk _
  exact contract2 (s := Rows.propReasonsSpec) reasons_walk Try.params12 rfl rfl (fun _ _ => rfl) W base args ds gs before hval hW hk

theorem reasons_holds : Rows.PropReasonsUptoSaid :=
  OpenClaim.holds_of_cond 12 Try.f12 rfl rfl rfl rfl rfl rfl rfl ⟨rfl, rfl, rfl, rfl, rfl⟩ rfl rfl rfl rfl rfl (by kernel_rfl) Try.func12 (by kernel_rfl)
    (of_decide_eq_true (by kernel_rfl)) (by unfold Func.isWrapper; first | (rw [if_pos (by decide +kernel)]; kernel_rfl) | (rw [if_neg (by decide +kernel)]; exact ⟨rfl, rfl⟩))
    (fun os started H enc _ F => reasons_lifted os started H enc F)

#print axioms reasons_holds
end Go.Proofs.Ytaileihnkmjfiaa
