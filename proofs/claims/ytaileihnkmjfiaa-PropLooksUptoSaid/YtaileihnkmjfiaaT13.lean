/-
  Trail of the engine hands out a copy. Conditions: the engine lies in the world, and what each theorem names.
-/
import Derived.Test.YtaileihnkmjfiaaP9
namespace Go.Proofs.Ytaileihnkmjfiaa
open Go.RowKit

theorem Rw.news {w : World} {T : Nat} {d : RD} (h : Rw w T 1 d) : ∀ a, Option.map (fun g => ({ block := g, off := 0 } : Addr)) d.g = some a → ∀ j u, d.xs[j]? = some u → w.cell? (a.add j) = some u := by
  intro a ha j u hj
  obtain ⟨g, hg, rfl⟩ := Option.map_eq_some_iff.1 ha
  have e : (({ block := g, off := 0 } : Addr).add j) = ⟨g, j, none⟩ := by unfold Addr.add; split <;> simp_all
  rw [e]
  exact h.cellv hg hj
theorem Rw.news0 {w : World} {T : Nat} {d : RD} (h : Rw w T 1 d) : Option.map (fun g => ({ block := g, off := 0 } : Addr)) d.g = none → d.n = 0 := by
  intro hn
  have h1 : d.g = none := by simpa using hn
  have := h.nil h1
  have := h.le
  omega

theorem trail_any (b : Nat) (G : GH) (S : ES) (w : World) (h : Eng w b G S) (hS : S.Ok) :
    Calls Try.prog 18 #[.pointer (some ⟨b, 0, none⟩)] w fun e w' => ∃ d, e = .returned d.v ∧ Rw w' 3 1 d ∧ d.n = S.tr.length ∧ d.xs = ints S.tr ∧ (d.g = none ∨ d.g = some w.heap.size) ∧ Below w.heap.size w w' := by
  obtain ⟨i0, hi0, hz0, hz1, hz2⟩ := info_parts Try.info3
  have f9 := h.f9
  unfold sv at f9
  have R := h.row (.inl 9)
  have htl := hS.tr_len
  have hnl := hS.n_le
  have hxs : (engD G S (.inl 9)).xs = ints S.tr := rfl
  have hb3 : (⟨none, 0, 0, []⟩ : RD).n + S.tr.length ≤ maxLen := by simp only [maxLen]; omega
  have hb4 : ((⟨none, 0, 0, []⟩ : RD).n + S.tr.length) * 8 ≤ 140737488355328 := by show (0 + S.tr.length) * 8 ≤ _; omega
  go_enter Try.func18, Try.ntmps18
  go_wp2_with (at_builtin; go_loud (refine wpList_append_rw rfl (.const (.slice none 0 0)) (.tmp 6) 28 rfl 3 i0 (.int .i64 0) 1 8 Try.underlying28 hi0 hz0 hz1 hz2 rfl (by decide) ⟨none, 0, 0, []⟩ rfl (Rw.empty _ _ _) _ S.tr.length _ (ints S.tr) rfl (by simp [ints]) R.news0 R.news (ints_one _) hb3 hb4 ?_; intro d' w5 rw1 en ex eg hgr))
  go_ret
  have en2 : d'.n = S.tr.length := by simpa using en
  exact ⟨d', (by unfold RD.v sv; rw [en2]; rfl), rw1, by simpa using en, by simpa using ex, eg, ⟨hgr.os, hgr.tape, hgr.output, hgr.size, fun k hk => hgr.block k hk (by simp)⟩⟩

/-- what a conflict hands out -/
def ES.conflict (S : ES) : List Int := if S.clash = 0 then [] else S.cs.getD (S.clash - 1) []

theorem conflict_any (b : Nat) (G : GH) (S : ES) (w : World) (h : Eng w b G S) (hS : S.Ok) :
    Calls Try.prog 20 #[.pointer (some ⟨b, 0, none⟩)] w fun e w' => ∃ d, e = .returned d.v ∧ Rw w' 3 1 d ∧ d.n = S.conflict.length ∧ d.xs = ints S.conflict ∧ (d.g = none ∨ d.g = some w.heap.size) ∧ Below w.heap.size w w' := by
  obtain ⟨i0, hi0, hz0, hz1, hz2⟩ := info_parts Try.info3
  have f12 := h.f12
  by_cases hc : S.clash = 0
  · have hc0 : ((S.clash : Nat) : Int) = 0 := by omega
    have HC : Hid (S.conflict = []) := by show _ = _; unfold ES.conflict; rw [if_pos hc]
    clear hc
    go_enter Try.func20, Try.ntmps20
    go_wp2
    go_ret
    exact ⟨⟨none, 0, 0, []⟩, rfl, Rw.empty _ _ _, by rw [HC.out]; rfl, by rw [HC.out]; rfl, .inl rfl, Below.refl _ _⟩
  · have HC : Hid (S.conflict = S.cs.getD (S.clash - 1) []) := by show _ = _; unfold ES.conflict; rw [if_neg hc]
    have hcl := hS.clash_le
    have hcs := hS.cs_len
    obtain ⟨k, hk⟩ : ∃ k, S.clash = k + 1 := ⟨S.clash - 1, by omega⟩
    rw [hk] at HC f12
    rw [Nat.add_sub_cancel] at HC
    have hkl : k < S.cs.length := by omega
    obtain ⟨ca, hca⟩ := h.lies (.inl 1) (by simp only [engD]; omega)
    have hca : G.g (.inl 1) = some ca := hca
    have c1 := h.s1 hca
    have e1 := h.e1 hca hkl
    unfold sv at e1
    have R := h.row (.inr (0, k))
    have hlen := hS.cl_len (S.cs.getD k []) (by simp [List.getD, hkl])
    have hn0 : ((k + 1 : Nat) : Int) ≠ 0 := by omega
    have hidx : ((k + 1 : Nat) : Int) - 1 = (k : Nat) := by omega
    have hb3 : (⟨none, 0, 0, []⟩ : RD).n + (S.cs.getD k []).length ≤ maxLen := by show 0 + (S.cs.getD k []).length ≤ _; simp only [maxLen]; omega
    have hb4 : ((⟨none, 0, 0, []⟩ : RD).n + (S.cs.getD k []).length) * 8 ≤ 140737488355328 := by show (0 + (S.cs.getD k []).length) * 8 ≤ _; omega
    have hxl : (ints (S.cs.getD k [])).length = (S.cs.getD k []).length * 1 := by simp [ints]
    have hone := ints_one (S.cs.getD k [])
    have hnews := R.news
    have hnews0 := R.news0
    have hkl' : (k : Int) < (S.cs.length : Int) := by omega
    have hwk : IntKind.i64.wrap (k : Int) = (k : Int) := IntWalk.i64_in _ (by omega)
    have hcs' : (S.cs.length : Int) ≤ 1048576 := by omega
    simp only [engD] at hnews hnews0
    generalize S.cs.getD k [] = c at *
    clear hk
    go_enter Try.func20, Try.ntmps20
    go_wp2_with fail
    go_region_law ((refine step_append_rw rfl (.const (.slice none 0 0)) (.tmp 18) 28 rfl 3 i0 (.int .i64 0) 1 8 Try.underlying28 hi0 hz0 hz1 hz2 rfl (by decide) ⟨none, 0, 0, []⟩ rfl (Rw.empty _ _ _) _ c.length _ (ints c) rfl hxl hnews0 hnews hone hb3 hb4 ?_; intro d' w5 rw1 en ex eg hgr))
    all_goals go_wp2
    all_goals go_ret
    all_goals
      have en2 : d'.n = c.length := by simpa using en
      exact ⟨d', (by unfold RD.v sv; rw [en2]; rfl), rw1, by rw [HC.out]; exact en2, by rw [HC.out]; simpa using ex, eg, ⟨hgr.os, hgr.tape, hgr.output, hgr.size, fun k hk => hgr.block k hk (by simp)⟩⟩
end Go.Proofs.Ytaileihnkmjfiaa
