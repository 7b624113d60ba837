/-
  PropOwn, where what comes in is of bulk at most 1048576: what Trail, Reason and Conflict hand out is the caller's: marked, grown, and looked at again, nothing turns. Conditions: the bulk alone.
-/
import Derived.Test.YtaileihnkmjfiaaW2
import Derived.Test.YtaileihnkmjfiaaU1
namespace Go.Proofs.Ytaileihnkmjfiaa
open Go.ChangeShapes Go.WideShapes Go.ChangeAt Go.RowKit

set_option maxRecDepth 100000 in
theorem own_lifted (os : Os) (started : os.Started) (H : Type) (enc : TypeId × Value → H) (F : Stop.Interp) :
    ReturnsInHanded {} Try.checked os 11 .any ((Rows.OpenSpec.upto Rows.propOwnSpec).pre6 enc Try.prog Try.f11 Rows.propOwnUptoRow.domain false) (((Rows.OpenSpec.upto Rows.propOwnSpec).at F).post enc Try.prog Try.f11 false true false false) := by
  refine returnsInHanded_of_cond (C := Try.checked) (s := Rows.OpenSpec.upto Rows.propOwnSpec) (k := Rows.uptoSmall) rfl Try.own started (by kernel_rfl) Try.func11
    (OpenSpec.witness (enc := enc) (C := Try.checked) (s := Rows.OpenSpec.upto Rows.propOwnSpec) (k := Rows.uptoSmall) rfl false ⟨#[], #[.int .i64 0, .slice none 0 0], []⟩ 8 (by kernel_rfl) (by kernel_rfl) (by kernel_rfl)
      (x := ([.lit (.int .i64 0), .nil], [], [])) (by kernel_rfl) rfl (by kernel_rfl)) ?_
  intro W base args ds gs before hval hW _ hk _
  exact contract2 (s := Rows.propOwnSpec) own_walk Try.params11 rfl rfl (fun _ _ => rfl) W base args ds gs before hval hW hk

theorem own_holds : Rows.PropOwnUptoSaid :=
  OpenClaim.holds_of_cond 11 Try.f11 rfl rfl rfl rfl rfl rfl rfl ⟨rfl, rfl, rfl, rfl, rfl⟩ rfl rfl rfl rfl rfl (by kernel_rfl) Try.func11 (by kernel_rfl)
    (of_decide_eq_true (by kernel_rfl)) (by unfold Func.isWrapper; first | (rw [if_pos (by decide +kernel)]; kernel_rfl) | (rw [if_neg (by decide +kernel)]; exact ⟨rfl, rfl⟩))
    (fun os started H enc _ F => own_lifted os started H enc F)

#print axioms own_holds
end Go.Proofs.Ytaileihnkmjfiaa
