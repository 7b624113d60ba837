/-
  A clause can be adopted into the list of clauses. Conditions: the engine lies in the world, and what each theorem names.
-/
import Derived.Test.YtaileihnkmjfiaaT9
namespace Go.Proofs.Ytaileihnkmjfiaa
open Go.RowKit

namespace ES
def addOk (S : ES) (c : List Int) : ES := { S with fr := S.fr ++ [S.cs.length], cs := S.cs ++ [c], pr := S.pr ++ [(0, 0)], stp := S.stp ++ [0], lits := S.lits + c.length }
def add (S : ES) (c : List Int) : ES × Int :=
  if ¬ ∀ l ∈ c, S.isLit l then (S, 20) else if 65536 < c.length then (S, 22) else if 1048576 ≤ S.cs.length ∨ 4194304 < S.lits + c.length then (S, 23) else (S.addOk c, 0)
end ES

theorem Own.adopt {ρ : Type} [DecidableEq ρ] {ty : ρ → Nat × Nat} {w : World} {D : ρ → RD} (h : Own ty w D) (r : ρ) {d : RD} (hrw : Rw w (ty r).1 (ty r).2 d) (hnew : ∀ g, d.g = some g → ¬ feet D g) : Own ty w (upd D r d) := by
  refine ⟨fun r' => ?_, fun a b x ha hb => ?_⟩
  · by_cases e : r' = r
    · subst e; rw [upd_same]; exact hrw
    · rw [upd_other D _ e]; exact h.row r'
  · by_cases ea : a = r
    · by_cases eb : b = r
      · rw [ea, eb]
      · subst ea
        rw [upd_same] at ha
        rw [upd_other D _ eb] at hb
        exact absurd ⟨b, hb⟩ (hnew x ha)
    · rw [upd_other D _ ea] at ha
      by_cases eb : b = r
      · subst eb
        rw [upd_same] at hb
        exact absurd ⟨a, ha⟩ (hnew x hb)
      · rw [upd_other D _ eb] at hb
        exact h.inj _ _ x ha hb

theorem Turned.wider {F F' F'' : Nat → Prop} {w w' : World} (t : Turned F w F' w') (h : ∀ k, F'' k → F' k ∨ w.heap.size ≤ k) : Turned F w F'' w' :=
  ⟨t.os, t.tape, t.output, t.size, t.block, fun k hk => (h k hk).elim (t.foot k) .inr⟩

theorem rowsOf_snoc_any {α : Type} (G : GH) (t : Nat) (L : List (List α)) (x : List α) (d : RD) (hn : d.n = x.length) : rowsOf (G.upd (.inr (t, L.length)) d) t (L ++ [x]) = rowsOf G t L ++ [sv d.g d.n d.cap] := by
  unfold rowsOf
  rw [List.length_append, List.length_singleton, List.range_succ, List.map_append]
  congr 1
  · refine List.map_congr_left fun k hk => ?_
    have hk : k < L.length := by simpa using hk
    have hne : k ≠ L.length := by omega
    simp [List.getD, List.getElem?_append_left hk, GH.upd, hne]
  · simp [GH.upd, List.getD, hn]

theorem getD_snoc_other {α : Type} (L : List (List α)) (x : List α) (k : Nat) (hk : k ≠ L.length) : (L ++ [x]).getD k [] = L.getD k [] := by
  by_cases h : k < L.length
  · simp [List.getD, List.getElem?_append_left h]
  · have h1 : L[k]? = none := List.getElem?_eq_none (by omega)
    have h2 : (L ++ [x])[k]? = none := List.getElem?_eq_none (by simp; omega)
    simp [List.getD, h1, h2]
theorem getD_snoc_same {α : Type} (L : List (List α)) (x : List α) : (L ++ [x]).getD L.length [] = x := by simp [List.getD]

theorem Eng.pushCs {w : World} {b : Nat} {G : GH} {S : ES} (h : Eng w b G S) {w1 : World} {d dO : RD} (c : List Int) (hO : Rw w 3 1 dO) (hOn : dO.n = c.length) (hOx : dO.xs = ints c) (hOg : ∀ g, dO.g = some g → ¬ ft G g)
    (hrw : Rw w1 28 1 d) (hn : d.n = S.cs.length + 1) (hx : d.xs = (engD G S (.inl 1)).xs ++ [sv dO.g dO.n dO.cap]) (hg : d.g = G.g (.inl 1) ∨ ∀ k, d.g = some k → w.heap.size ≤ k) (hgr : w.grownBy w1 (G.g (.inl 1))) :
    Eng (w1.setCell ⟨b, 1, none⟩ d.v) b ((G.upd (.inl 1) d).upd (.inr (0, S.cs.length)) dO) { S with cs := S.cs ++ [c] } ∧
    Turned (ft G) w (fun k => ft G k ∨ w.heap.size ≤ k) (w1.setCell ⟨b, 1, none⟩ d.v) ∧ (∀ k, ft ((G.upd (.inl 1) d).upd (.inr (0, S.cs.length)) dO) k → ft G k ∨ w.heap.size ≤ k ∨ dO.g = some k) ∧
    w1.cell? ⟨b, 1, none⟩ = some (sv (G.g (.inl 1)) S.cs.length (G.c (.inl 1))) ∧ w1.frozen? ⟨b, 1, none⟩ = false := by
  have O := h.own.put (.inl 1) (D := engD G S) (d := d) hrw hg hgr
  have hOg' : ∀ g, dO.g = some g → ¬ feet (upd (engD G S) (.inl 1) d) g := by
    intro g hgo hf
    rcases feet_upd hf with hf | hf
    · exact hOg g hgo (feet_eq G S ▸ hf)
    · rcases hg with hg | hg
      · exact hOg g hgo ⟨.inl 1, rfl, hg ▸ hf⟩
      · have h1 := hg g hf
        have h2 := hO.lt hgo
        omega
  have hO1 : Rw w1 3 1 dO := hO.grown hgr (fun g hgo e => hOg g hgo ⟨.inl 1, rfl, e⟩)
  have OA := O.adopt (.inr (0, S.cs.length)) hO1 hOg'
  have c1 := O.cell (.inl 16) (g := b) (i := 1) (u := sv (G.g (.inl 1)) S.cs.length (G.c (.inl 1))) h.at_ rfl
  have hu16 : upd (upd (engD G S) (.inl 1) d) (.inr (0, S.cs.length)) dO (.inl 16) = engD G S (.inl 16) := by rw [upd_inr_inl]; rfl
  have O2 := OA.set (.inl 16) (g := b) 1 d.v (by rw [hu16]; exact h.at_)
  have e : upd (upd (upd (engD G S) (.inl 1) d) (.inr (0, S.cs.length)) dO) (.inl 16) { upd (upd (engD G S) (.inl 1) d) (.inr (0, S.cs.length)) dO (.inl 16) with xs := (upd (upd (engD G S) (.inl 1) d) (.inr (0, S.cs.length)) dO (.inl 16)).xs.set 1 d.v } = engD ((G.upd (.inl 1) d).upd (.inr (0, S.cs.length)) dO) { S with cs := S.cs ++ [c] } := by
    rw [hu16]
    refine engD_ext (fun f hf => by rw [upd_inl, if_neg (other_ne hf rfl), upd_inr_inl, upd_inl, if_neg (other_ne hf rfl), engD_other G S f hf]) ?_ ?_ ?_ ?_ ?_ ?_ ?_ ?_ ?_ ?_ ?_ ?_ ?_ ?_ ?_ (fun t k => by rw [upd_inl_inr, upd_inr, if_neg (by omega), upd_inl_inr]; rfl)
    · rw [upd_inl, if_neg (by simp), upd_inr_inl, upd_same]
      obtain ⟨a1, a2, a3, a4⟩ := d
      simp only at hn hx
      simp only [engD]
      have := rowsOf_snoc_any (G.upd (.inl 1) ⟨a1, a2, a3, a4⟩) 0 S.cs c dO hOn
      rw [this, rowsOf_upd_far, hn, hx]
      simp [GH.upd, engD]
    · rw [upd_inl, if_neg (by simp), upd_inr_inl, upd_inl, if_neg (by simp)]; simp [engD, GH.upd]
    · rw [upd_inl, if_neg (by simp), upd_inr_inl, upd_inl, if_neg (by simp)]; simp only [engD]; rw [rowsOf_upd_other _ 1 0 _ _ _ (by simp), rowsOf_upd_far]; simp [GH.upd]
    · rw [upd_inl, if_neg (by simp), upd_inr_inl, upd_inl, if_neg (by simp)]; simp only [engD]; rw [rowsOf_upd_other _ 2 0 _ _ _ (by simp), rowsOf_upd_far]; simp [GH.upd]
    · rw [upd_inl, if_neg (by simp), upd_inr_inl, upd_inl, if_neg (by simp)]; simp [engD, GH.upd]
    · rw [upd_inl, if_neg (by simp), upd_inr_inl, upd_inl, if_neg (by simp)]; simp [engD, GH.upd]
    · rw [upd_inl, if_neg (by simp), upd_inr_inl, upd_inl, if_neg (by simp)]; simp [engD, GH.upd]
    · rw [upd_inl, if_neg (by simp), upd_inr_inl, upd_inl, if_neg (by simp)]; simp [engD, GH.upd]
    · rw [upd_inl, if_neg (by simp), upd_inr_inl, upd_inl, if_neg (by simp)]; simp [engD, GH.upd]
    · rw [upd_inl, if_neg (by simp), upd_inr_inl, upd_inl, if_neg (by simp)]; simp [engD, GH.upd]
    · rw [upd_inl, if_neg (by simp), upd_inr_inl, upd_inl, if_neg (by simp)]; simp [engD, GH.upd]
    · rw [upd_inl, if_pos rfl]; simp [engD, GH.upd, stc, RD.v, hn]
    · intro k
      rw [upd_inl_inr, upd_inr]
      by_cases ek : k = S.cs.length
      · subst ek
        rw [if_pos ⟨rfl, rfl⟩]
        obtain ⟨a1, a2, a3, a4⟩ := dO
        simp only at hOn hOx
        simp only [engD]
        rw [getD_snoc_same, hOn, hOx]; simp [GH.upd]
      · rw [if_neg (fun h => ek h.2), upd_inl_inr]
        simp only [engD]
        rw [getD_snoc_other _ _ _ ek]; simp [GH.upd, ek]
    · intro k
      rw [upd_inl_inr, upd_inr, if_neg (by simp), upd_inl_inr]; simp [engD, GH.upd]
    · intro k
      rw [upd_inl_inr, upd_inr, if_neg (by simp), upd_inl_inr]; simp [engD, GH.upd]
  refine ⟨⟨e ▸ O2, by simpa [GH.upd] using h.at_, fun k hk => ?_, fun k hk => by simpa [GH.upd] using h.out1 k hk, fun k hk => by simpa [GH.upd] using h.out2 k hk⟩, ?_, ?_, c1, O.frozen (.inl 16) (g := b) 1 h.at_⟩
  · have hk : S.cs.length + 1 ≤ k := by simpa using hk
    have hne : k ≠ S.cs.length := by omega
    simpa [GH.upd, hne] using h.out0 k (by omega)
  · exact ⟨hgr.os, hgr.tape, hgr.output, by have := hgr.size; simpa [World.setCell] using this,
      fun k hk hF => (Below.heap_setCell w1 ⟨b, 1, none⟩ d.v k (fun e' => hF (e' ▸ h.foot_b))).trans (hgr.block k hk (fun e' => hF ⟨.inl 1, rfl, e'.symm⟩)), fun k hk => hk⟩
  · rintro k ⟨r, hr, hk⟩
    by_cases e1 : r = .inr (0, S.cs.length)
    · subst e1
      exact .inr (.inr (by simpa [GH.upd] using hk))
    · by_cases e2 : r = .inl 1
      · subst e2
        have hk : d.g = some k := by simpa [GH.upd] using hk
        rcases hg with hg | hg
        · exact .inl ⟨.inl 1, rfl, hg ▸ hk⟩
        · exact .inr (.inl (hg k hk))
      · exact .inl ⟨r, hr, by simpa [GH.upd, e1, e2] using hk⟩
end Go.Proofs.Ytaileihnkmjfiaa
