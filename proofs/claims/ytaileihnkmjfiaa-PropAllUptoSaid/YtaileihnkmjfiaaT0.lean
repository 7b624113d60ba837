/-
  Of, place and is of the engine return what the data say and change nothing. Conditions: the engine lies in the world, and what each theorem names.
-/
import Derived.Test.YtaileihnkmjfiaaDat
namespace Go.Proofs.Ytaileihnkmjfiaa
open Go.RowKit


set_option maxHeartbeats 400000 in
theorem of_any (b : Nat) (G : GH) (S : ES) (l : Int) (w : World) (h : Eng w b G S) (hS : S.Dim) (hl : l.natAbs ≤ S.n) :
    Calls Try.prog 51 #[.pointer (some ⟨b, 0, none⟩), i64 l] w fun e w' => e = .returned (.int .i8 (S.of l)) ∧ w = w' := by
  have hvl := hS.val_len
  have hnl := hS.n_le
  obtain ⟨va, hva⟩ := h.lies (.inl 6) (by simp only [engD]; omega)
  have c6 := h.f6
  rw [show G.g (.inl 6) = some va from hva, sv_some] at c6
  have a6 := h.at6 (v := l.natAbs) hva (by omega)
  have hx := hS.val_rng l.natAbs
  unfold ES.of
  by_cases hneg : l < 0
  · obtain ⟨k, hk⟩ : ∃ k : Nat, -l = k := ⟨l.natAbs, by omega⟩
    obtain rfl : l = -(k : Int) := by omega
    rw [show (-(k : Int)).natAbs = k by omega] at *
    have hk2 : (k : Int) < S.val.length := by omega
    have hk3 : (k : Int) ≤ 1048576 := by omega
    clear hl hk hva hvl
    generalize S.val.getD k 0 = x at *
    go_enter Try.func51, Try.ntmps51
    go_wp2
    go_ret
    exact ⟨by simp, rfl⟩
  · obtain ⟨k, rfl⟩ : ∃ k : Nat, l = k := ⟨l.natAbs, by omega⟩
    rw [show (k : Int).natAbs = k by omega] at *
    have hk2 : (k : Int) < S.val.length := by omega
    have hk3 : (k : Int) ≤ 1048576 := by omega
    clear hl hva hvl
    generalize S.val.getD k 0 = x at *
    go_enter Try.func51, Try.ntmps51
    go_wp2
    go_ret
    exact ⟨by simp, rfl⟩

theorem place_any (l : Int) (w : World) (hl : l.natAbs ≤ 1048576) :
    Calls Try.prog 55 #[i64 l] w fun e w' => e = .returned (i64 (pl l)) ∧ w = w' := by
  unfold pl
  by_cases hneg : l < 0
  · have h1 : -1048576 ≤ l := by omega
    go_enter Try.func55, Try.ntmps55
    go_wp2
    go_ret
    refine ⟨?_, rfl⟩
    simp; omega
  · have h1 : 0 ≤ l := by omega
    have h2 : l ≤ 1048576 := by omega
    go_enter Try.func55, Try.ntmps55
    go_wp2
    go_ret
    refine ⟨?_, rfl⟩
    simp; omega

theorem is_any (b : Nat) (G : GH) (S : ES) (l : Int) (w : World) (h : Eng w b G S) (hS : S.Dim) :
    Calls Try.prog 50 #[.pointer (some ⟨b, 0, none⟩), i64 l] w fun e w' => e = .returned (.bool (decide (l ≠ 0 ∧ l.natAbs ≤ S.n))) ∧ w = w' := by
  have hnl := hS.n_le
  have c0 := h.f0
  clear h hS
  generalize S.n = n at *
  by_cases h0 : l = 0
  · subst h0
    go_enter Try.func50, Try.ntmps50
    go_wp2
    go_ret
    simp
  · have h0' : (l != 0) = true := by simpa using h0
    by_cases h1 : l ≥ -(n : Int)
    · by_cases h2 : l ≤ n
      · go_enter Try.func50, Try.ntmps50
        go_wp2
        go_ret
        refine ⟨?_, rfl⟩
        simp [h0]; omega
      · go_enter Try.func50, Try.ntmps50
        go_wp2
        go_ret
        refine ⟨?_, rfl⟩
        simp; omega
    · go_enter Try.func50, Try.ntmps50
      go_wp2
      go_ret
      refine ⟨?_, rfl⟩
      simp; omega
end Go.Proofs.Ytaileihnkmjfiaa
