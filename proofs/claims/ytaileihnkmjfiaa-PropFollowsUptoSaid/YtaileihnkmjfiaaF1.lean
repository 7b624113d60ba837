/-
  Does a number make a literal, all clauses and all decisions true? Conditions: those each theorem names.
-/
import Derived.Test.YtaileihnkmjfiaaO1
import Derived.Test.YtaileihnkmjfiaaT5
namespace Go.Proofs.Ytaileihnkmjfiaa
open Go.RowKit

/-- a variable's bit -/
def bitAt (t : Int) (v : Nat) : Int := (t / 2 ^ ((v : Int) % 64).toNat).tmod 2
def holdsB (t l : Int) : Bool := if l < 0 then bitAt t l.natAbs == 0 else bitAt t l.natAbs == 1

theorem holdsB_neg (t : Int) {l : Int} (hl : l ≠ 0) (h : holdsB t (-l) = true) : ¬ holdsB t l = true := by
  unfold holdsB at h ⊢
  rw [show (-l).natAbs = l.natAbs by omega] at h
  by_cases h0 : l < 0
  · rw [if_neg (by omega)] at h
    rw [if_pos h0]
    simp only [beq_iff_eq] at h ⊢
    omega
  · rw [if_pos (by omega)] at h
    rw [if_neg h0]
    simp only [beq_iff_eq] at h ⊢
    omega

set_option maxHeartbeats 1000000 in
theorem holds_any (t l : Int) (w : World) (_ht : 0 ≤ t) (h1 : -1048576 ≤ l) (h2 : l ≤ 1048576) :
    Calls Try.prog 19 #[.int .u64 t, i64 l] w fun e w' => e = .returned (.bool (holdsB t l)) ∧ w = w' := by
  by_cases h0 : l < 0
  · have HB : Hid (holdsB t l = (bitAt t l.natAbs == 0)) := by show _ = _; unfold holdsB; rw [if_pos h0]
    obtain ⟨k, rfl, hk0⟩ := nat_of_neg h0
    rw [natAbs_neg'] at HB
    have hk : (k : Int) ≤ 1048576 := by omega
    go_enter Try.func19, Try.ntmps19
    go_wp2
    go_ret
    exact ⟨by rw [HB.out]; rfl, rfl⟩
  · have HB : Hid (holdsB t l = (bitAt t l.natAbs == 1)) := by show _ = _; unfold holdsB; rw [if_neg h0]
    obtain ⟨k, rfl⟩ := nat_of_pos h0
    rw [natAbs_pos'] at HB
    have hk : 0 ≤ (k : Int) := by omega
    go_enter Try.func19, Try.ntmps19
    go_wp2
    go_ret
    exact ⟨by rw [HB.out]; rfl, rfl⟩
end Go.Proofs.Ytaileihnkmjfiaa
