/-
  Reason of the engine hands out a copy. Conditions: the engine lies in the world, and what each theorem names.
-/
import Derived.Test.YtaileihnkmjfiaaT13
namespace Go.Proofs.Ytaileihnkmjfiaa
open Go.RowKit

/-- what a reason hands out -/
def ES.reason (S : ES) (v : Int) : List Int := if S.value v = 0 ∨ S.rsn.getD v.toNat 0 = 0 then [] else S.cs.getD (S.rsn.getD v.toNat 0 - 1) []

theorem reason_any (b : Nat) (G : GH) (S : ES) (v : Int) (w : World) (h : Eng w b G S) (hS : S.Ok) :
    Calls Try.prog 27 #[.pointer (some ⟨b, 0, none⟩), i64 v] w fun e w' => ∃ d, e = .returned d.v ∧ Rw w' 3 1 d ∧ d.n = (S.reason v).length ∧ d.xs = ints (S.reason v) ∧ (d.g = none ∨ d.g = some w.heap.size) ∧ Below w.heap.size w w' := by
  obtain ⟨i0, hi0, hz0, hz1, hz2⟩ := info_parts Try.info3
  have cV := value_any b G S v w h hS.dim
  by_cases h1 : S.value v = 0
  · have HC : Hid (S.reason v = []) := by show _ = _; unfold ES.reason; rw [if_pos (.inl h1)]
    rw [h1] at cV
    clear h1
    go_enter Try.func27, Try.ntmps27
    go_wp2_with (go_at_call 36; refine cV.mono ?_; rintro e w' ⟨rfl, rfl⟩)
    go_ret
    exact ⟨⟨none, 0, 0, []⟩, rfl, Rw.empty _ _ _, by rw [HC.out]; rfl, by rw [HC.out]; rfl, .inl rfl, Below.refl _ _⟩
  · have hv : 1 ≤ v ∧ v ≤ S.n := by
      unfold ES.value at h1
      split at h1
      · exact absurd rfl h1
      · omega
    obtain ⟨n, rfl⟩ : ∃ n : Nat, v = n := ⟨v.toNat, by omega⟩
    obtain ⟨ra, hra⟩ := h.lies (.inl 8) (by simp only [engD, hS.rsn_len]; omega)
    have hra : G.g (.inl 8) = some ra := hra
    have hrl := hS.rsn_len
    have hnl := hS.n_le
    have c8 := h.s8 hra
    have e8 := h.e8 hra (k := n) (by omega)
    have hn' : (n : Int) < (S.rsn.length : Int) := by omega
    have hn2 : (n : Int) < (S.n : Int) + 1 := by omega
    have hrr := hS.rsn_rng n
    have hb : (S.value (n : Int) == 0) = false := by simpa using h1
    by_cases h2 : S.rsn.getD n 0 = 0
    · have HC : Hid (S.reason n = []) := by show _ = _; unfold ES.reason; rw [if_pos (.inr (by simpa using h2))]
      rw [h2] at e8
      generalize S.value (n : Int) = z at *
      clear h2 hrr
      go_enter Try.func27, Try.ntmps27
      go_wp2_with (go_at_call 36; refine cV.mono ?_; rintro e w' ⟨rfl, rfl⟩)
      go_ret
      exact ⟨⟨none, 0, 0, []⟩, rfl, Rw.empty _ _ _, by rw [HC.out]; rfl, by rw [HC.out]; rfl, .inl rfl, Below.refl _ _⟩
    · have HC : Hid (S.reason n = S.cs.getD (S.rsn.getD n 0 - 1) []) := by show _ = _; unfold ES.reason; rw [if_neg (by simpa using ⟨h1, h2⟩)]; simp
      have hcs := hS.cs_len
      obtain ⟨k, hk⟩ : ∃ k, S.rsn.getD n 0 = k + 1 := ⟨S.rsn.getD n 0 - 1, by omega⟩
      rw [hk] at HC e8
      rw [Nat.add_sub_cancel] at HC
      have hkl : k < S.cs.length := by omega
      obtain ⟨ca, hca⟩ := h.lies (.inl 1) (by simp only [engD]; omega)
      have hca : G.g (.inl 1) = some ca := hca
      have c1 := h.s1 hca
      have e1 := h.e1 hca hkl
      unfold sv at e1
      have R := h.row (.inr (0, k))
      have hlen := hS.cl_len (S.cs.getD k []) (by simp [List.getD, hkl])
      have hn0 : ((k + 1 : Nat) : Int) ≠ 0 := by omega
      have hb3 : (⟨none, 0, 0, []⟩ : RD).n + (S.cs.getD k []).length ≤ maxLen := by show 0 + (S.cs.getD k []).length ≤ _; simp only [maxLen]; omega
      have hb4 : ((⟨none, 0, 0, []⟩ : RD).n + (S.cs.getD k []).length) * 8 ≤ 140737488355328 := by show (0 + (S.cs.getD k []).length) * 8 ≤ _; omega
      have hxl : (ints (S.cs.getD k [])).length = (S.cs.getD k []).length * 1 := by simp [ints]
      have hone := ints_one (S.cs.getD k [])
      have hnews := R.news
      have hnews0 := R.news0
      have hkl' : (k : Int) < (S.cs.length : Int) := by omega
      have hwk : IntKind.i64.wrap (k : Int) = (k : Int) := IntWalk.i64_in _ (by omega)
      have hcs' : (S.cs.length : Int) ≤ 1048576 := by omega
      simp only [engD] at hnews hnews0
      generalize S.cs.getD k [] = c at *
      generalize S.value (n : Int) = z at *
      clear hk h2 hrr
      go_enter Try.func27, Try.ntmps27
      go_wp2_with (go_at_call 36; refine cV.mono ?_; rintro e w' ⟨rfl, rfl⟩)
      go_region_law ((refine step_append_rw rfl (.const (.slice none 0 0)) (.tmp 32) 28 rfl 3 i0 (.int .i64 0) 1 8 Try.underlying28 hi0 hz0 hz1 hz2 rfl (by decide) ⟨none, 0, 0, []⟩ rfl (Rw.empty _ _ _) _ c.length _ (ints c) rfl hxl hnews0 hnews hone hb3 hb4 ?_; intro d' w5 rw1 en ex eg hgr))
      all_goals go_wp2
      all_goals go_ret
      all_goals
        have en2 : d'.n = c.length := by simpa using en
        exact ⟨d', (by unfold RD.v sv; rw [en2]; rfl), rw1, by rw [HC.out]; exact en2, by rw [HC.out]; simpa using ex, eg, ⟨hgr.os, hgr.tape, hgr.output, hgr.size, fun k hk => hgr.block k hk (by simp)⟩⟩
end Go.Proofs.Ytaileihnkmjfiaa
