/-
  Behind a Propagate that answers true no clause is false or a unit; what is on the trail follows from the clauses and the decisions. Conditions: those each theorem names.
-/
import Derived.Test.YtaileihnkmjfiaaP8
namespace Go.Proofs.Ytaileihnkmjfiaa
namespace ES

/-- no clause is false or a unit -/
theorem Good.closed {S : ES} (hg : S.Good) (hc : S.clash = 0) (hf : S.fr = []) (hh : S.head = S.tr.length) {k : Nat} (hk : k < S.cs.length) :
    (∃ a, a ∈ S.cs.getD k [] ∧ S.of a = 1) ∨ ∃ a b, a ∈ S.cs.getD k [] ∧ b ∈ S.cs.getD k [] ∧ a ≠ b ∧ S.of a = 0 ∧ S.of b = 0 := by
  have h := hg.inv
  obtain ⟨f1, f2, f3⟩ := hg.fine k hk (by rw [hf]; simp) (by omega)
  have hin1 := h.pr_fst k f1
  by_cases hz : (S.pr.getD k (0, 0)).2 = 0
  · obtain ⟨_, a2, _⟩ := f2 hz
    exact .inl ⟨_, hin1, (of_one h.core f1).2 a2⟩
  · obtain ⟨a1, a2, a3⟩ := f3 hz
    have hin2 := h.pr_snd k hz
    unfold Side at a2 a3
    rw [hh, List.take_length] at a2 a3
    have r1 := of_range h.core (S.pr.getD k (0, 0)).1
    have r2 := of_range h.core (S.pr.getD k (0, 0)).2
    by_cases c1 : S.of (S.pr.getD k (0, 0)).1 = -1
    · exact .inl ⟨_, hin2, (of_one h.core hz).2 (a2 ((of_minus h.core f1).1 c1)).1⟩
    · by_cases c2 : S.of (S.pr.getD k (0, 0)).2 = -1
      · exact .inl ⟨_, hin1, (of_one h.core f1).2 (a3 ((of_minus h.core hz).1 c2)).1⟩
      · by_cases c3 : S.of (S.pr.getD k (0, 0)).1 = 1
        · exact .inl ⟨_, hin1, c3⟩
        · by_cases c4 : S.of (S.pr.getD k (0, 0)).2 = 1
          · exact .inl ⟨_, hin2, c4⟩
          · exact .inr ⟨_, _, hin1, hin2, fun he => a1 he.symm, by omega, by omega⟩

/-- a conflict's clause is false -/
theorem Good.clash {S : ES} (hg : S.Good) (hc : S.clash ≠ 0) : S.clash - 1 < S.cs.length ∧ ∀ l, l ∈ S.cs.getD (S.clash - 1) [] → S.of l = -1 := by
  have h := hg.inv
  have := h.clash_le
  refine ⟨by omega, fun l hl => (of_minus h.core (h.lits _ l hl).1).2 (h.clash_false hc l hl)⟩

/-- what makes the clauses and the decisions true makes the trail true -/
theorem Good.follows {S : ES} (hg : S.Good) (T : Int → Prop) (hneg : ∀ l, l ≠ 0 → T (-l) → ¬ T l)
    (hcl : ∀ c, c ∈ S.cs → ∃ l, l ∈ c ∧ T l) (hdec : ∀ j, j < S.mks.length → T (S.tr.getD (S.mks.getD j 0) 0)) :
    (∀ l, l ∈ S.tr → T l) ∧ S.clash = 0 := by
  have h := hg.inv
  have key : ∀ m i, i < m → i < S.tr.length → T (S.tr.getD i 0) := by
    intro m
    induction m with
    | zero => intro i hi; omega
    | succ m ih =>
      intro i hi hlt
      rcases h.why i hlt with ⟨a, _⟩ | ⟨_, k, b1, _, b3, b4⟩
      · obtain ⟨j, hj, he⟩ := mem_getD (0 : Nat) a
        have := hdec j hj
        rw [he] at this
        exact this
      · obtain ⟨l, hl, ht⟩ := hcl _ (getD_mem' [] b1)
        by_cases he : l = S.tr.getD i 0
        · rw [← he]; exact ht
        · have hm := b4 l hl he
          obtain ⟨j, hj, hje⟩ := mem_getD (0 : Int) hm
          rw [List.length_take] at hj
          rw [getD_take, if_pos (by omega)] at hje
          have := ih j (by omega) (by omega)
          rw [hje] at this
          exact absurd ht (hneg l (h.lits k l hl).1 this)
  have hall : ∀ l, l ∈ S.tr → T l := by
    intro l hl
    obtain ⟨i, hi, he⟩ := mem_getD (0 : Int) hl
    rw [← he]
    exact key (i + 1) i (by omega) hi
  refine ⟨hall, ?_⟩
  by_cases hc : S.clash = 0
  · exact hc
  · have hcl2 := h.clash_le
    obtain ⟨l, hl, ht⟩ := hcl _ (getD_mem' [] (show S.clash - 1 < S.cs.length by omega))
    exact absurd ht (hneg l (h.lits _ l hl).1 (hall _ (h.clash_false hc l hl)))

/-- the decisions: what stands on the trail at the marks -/
def decs (S : ES) : List Int := S.mks.map fun m => S.tr.getD m 0
theorem decs_len (S : ES) : S.decs.length = S.mks.length := by simp [decs]
theorem decs_goes {S S' : ES} (hg : S.Good) (h : Goes S S') : S'.decs = S.decs := by
  obtain ⟨t, ht⟩ := h.tr
  unfold decs
  rw [h.mks, ht]
  refine List.map_congr_left fun m hm => ?_
  obtain ⟨j, hj, rfl⟩ := mem_getD (0 : Nat) hm
  have := hg.inv.core.mks_lt j hj
  simp only [List.getD_eq_getElem?_getD] at this ⊢
  rw [List.getElem?_append_left this]
theorem decs_deep {S : ES} (hg : S.Good) (l : Int) : (S.deep l).decs = S.decs ++ [l] := by
  unfold decs
  show (S.mks ++ [S.tr.length]).map (fun m => (S.tr ++ [l]).getD m 0) = _
  rw [List.map_append]
  congr 1
  · refine List.map_congr_left fun m hm => ?_
    obtain ⟨j, hj, rfl⟩ := mem_getD (0 : Nat) hm
    have := hg.inv.core.mks_lt j hj
    rw [getD_snoc, if_pos this]
  · simp
theorem decs_rear {S : ES} (hg : S.Good) {level : Nat} (hl : level < S.mks.length) : (S.rear level).decs = S.decs.take level := by
  have r := (hg.rear hl).2
  unfold decs
  rw [r.mks, r.tr, ← List.map_take]
  refine List.map_congr_left fun m hm => ?_
  obtain ⟨j, hj, rfl⟩ := mem_getD (0 : Nat) hm
  rw [List.length_take] at hj
  have e : (S.mks.take level).getD j 0 = S.mks.getD j 0 := by rw [getD_take, if_pos (by omega)]
  rw [e]
  have := hg.inv.core.mks_inc j level (by omega) hl
  rw [getD_take, if_pos this]
end ES
end Go.Proofs.Ytaileihnkmjfiaa
