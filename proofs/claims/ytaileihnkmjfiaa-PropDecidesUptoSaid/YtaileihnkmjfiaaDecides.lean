/-
  PropDecides, where what comes in is of bulk at most 1048576: every Decide and every Back answers as the document says. Conditions: the bulk alone.
-/
import Derived.Test.YtaileihnkmjfiaaPlay
import Derived.Test.YtaileihnkmjfiaaU2
namespace Go.Proofs.Ytaileihnkmjfiaa
open Go.ChangeShapes Go.WideShapes Go.ChangeAt Go.RowKit

set_option maxRecDepth 100000 in
theorem decides_lifted (os : Os) (started : os.Started) (H : Type) (enc : TypeId × Value → H) (F : Stop.Interp) :
    ReturnsInHanded {} Try.checked os 7 .any ((Rows.OpenSpec.upto Rows.propDecidesSpec).pre6 enc Try.prog Try.f7 Rows.propDecidesUptoRow.domain false) (((Rows.OpenSpec.upto Rows.propDecidesSpec).at F).post enc Try.prog Try.f7 false true false false) := by
  refine returnsInHanded_of_cond (C := Try.checked) (s := Rows.OpenSpec.upto Rows.propDecidesSpec) (k := Rows.uptoSmall) rfl Try.own started (by kernel_rfl) Try.func7
    (OpenSpec.witness (enc := enc) (C := Try.checked) (s := Rows.OpenSpec.upto Rows.propDecidesSpec) (k := Rows.uptoSmall) rfl false ⟨#[], #[.int .i64 0, .slice none 0 0], []⟩ 8 (by kernel_rfl) (by kernel_rfl) (by kernel_rfl)
      (x := ([.lit (.int .i64 0), .nil], [], [])) (by kernel_rfl) rfl (by kernel_rfl)) ?_
  intro W base args ds gs before hval hW _ hk _
  exact contract3 (s := Rows.propDecidesSpec) decides_walk Try.params7 rfl rfl (fun _ _ => rfl) W base args ds gs before hval hW hk

theorem decides_holds : Rows.PropDecidesUptoSaid :=
  OpenClaim.holds_of_cond 7 Try.f7 rfl rfl rfl rfl rfl rfl rfl ⟨rfl, rfl, rfl, rfl, rfl⟩ rfl rfl rfl rfl rfl (by kernel_rfl) Try.func7 (by kernel_rfl)
    (of_decide_eq_true (by kernel_rfl)) (by unfold Func.isWrapper; first | (rw [if_pos (by decide +kernel)]; kernel_rfl) | (rw [if_neg (by decide +kernel)]; exact ⟨rfl, rfl⟩))
    (fun os started H enc _ F => decides_lifted os started H enc F)

#print axioms decides_holds
end Go.Proofs.Ytaileihnkmjfiaa
