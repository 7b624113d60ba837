/-
  worth of the engine returns its number and changes nothing. Conditions: the engine lies in the world, and what each theorem names.
-/
import Derived.Test.YtaileihnkmjfiaaT1
namespace Go.Proofs.Ytaileihnkmjfiaa
open Go.RowKit

theorem int_cases3 {x : Int} (h : -1 ≤ x ∧ x ≤ 1) : x = 1 ∨ x = 0 ∨ x = -1 := by omega

theorem ES.of_rng {S : ES} (hS : S.Dim) (l : Int) : -1 ≤ S.of l ∧ S.of l ≤ 1 := by
  have := hS.val_rng l.natAbs
  unfold ES.of
  split <;> omega

set_option maxHeartbeats 400000 in
theorem worth_any (b : Nat) (G : GH) (S : ES) (l : Int) (w : World) (h : Eng w b G S) (hS : S.Dim) (hl : l.natAbs ≤ S.n) :
    Calls Try.prog 59 #[.pointer (some ⟨b, 0, none⟩), i64 l] w fun e w' => e = .returned (i64 (S.worth l)) ∧ w = w' := by
  have hnl := hS.n_le
  obtain ⟨la, hla⟩ := h.lies (.inl 7) (by simp only [engD, hS.lev_len]; omega)
  have hla : G.g (.inl 7) = some la := hla
  have k2 : (l.natAbs : Int) < S.lev.length := by rw [hS.lev_len]; omega
  have c7 := h.s7 hla
  have z7 := h.e7 hla (k := l.natAbs) (by omega)
  have hlr := hS.lev_le l.natAbs
  have hof := int_cases3 (ES.of_rng hS l)
  have hc := of_any b G S l w h hS hl
  have HW : Hid (S.worth l = if S.of l = 1 then 2097154 - (S.lev.getD l.natAbs 0 : Int) else if S.of l = 0 then 1048577 else (S.lev.getD l.natAbs 0 : Int)) := rfl
  generalize S.lev.getD l.natAbs 0 = v at *
  have hv0 : (v : Int) ≤ 1048576 := by omega
  have hv1 : 0 ≤ (v : Int) := by omega
  generalize S.of l = o at *
  generalize S.worth l = W at *
  by_cases hneg : l < 0
  · obtain ⟨k, rfl, hk0⟩ := nat_of_neg hneg
    rw [natAbs_neg'] at *
    have hk3 : (k : Int) ≤ 1048576 := by omega
    rcases hof with rfl | rfl | rfl
    all_goals
      go_enter Try.func59, Try.ntmps59
      go_wp2_with (go_at_call 51; refine hc.mono ?_; rintro e w' ⟨rfl, rfl⟩)
      go_ret
      refine ⟨?_, rfl⟩
      rw [HW.out]
      simp
  · obtain ⟨k, rfl⟩ := nat_of_pos hneg
    rw [natAbs_pos'] at *
    have hk3 : (k : Int) ≤ 1048576 := by omega
    have hk4 : 0 ≤ (k : Int) := by omega
    rcases hof with rfl | rfl | rfl
    all_goals
      go_enter Try.func59, Try.ntmps59
      go_wp2_with (go_at_call 51; refine hc.mono ?_; rintro e w' ⟨rfl, rfl⟩)
      go_ret
      refine ⟨?_, rfl⟩
      rw [HW.out]
      simp

end Go.Proofs.Ytaileihnkmjfiaa
