/-
  What best chooses, what lay does to the lists, and sums over numbers. Conditions: those each theorem names.
-/
import Derived.Test.YtaileihnkmjfiaaP1
namespace Go.Proofs.Ytaileihnkmjfiaa

/-- the sum of f over the numbers below m -/
def sumTo (f : Nat → Nat) : Nat → Nat
  | 0 => 0
  | m + 1 => sumTo f m + f m
theorem sumTo_le {f g : Nat → Nat} : ∀ {m : Nat}, (∀ k, k < m → f k ≤ g k) → sumTo f m ≤ sumTo g m
  | 0, _ => Nat.le_refl _
  | m + 1, h => Nat.add_le_add (sumTo_le fun k hk => h k (by omega)) (h m (by omega))
theorem sumTo_congr {f g : Nat → Nat} {m : Nat} (h : ∀ k, k < m → f k = g k) : sumTo f m = sumTo g m :=
  Nat.le_antisymm (sumTo_le fun k hk => Nat.le_of_eq (h k hk)) (sumTo_le fun k hk => Nat.le_of_eq (h k hk).symm)
theorem sumTo_lt {f g : Nat → Nat} {m k0 d : Nat} (h : ∀ k, k < m → f k ≤ g k) (hk : k0 < m) (h0 : f k0 + d ≤ g k0) : sumTo f m + d ≤ sumTo g m := by
  induction m with
  | zero => omega
  | succ m ih =>
    show sumTo f m + f m + d ≤ sumTo g m + g m
    by_cases he : k0 = m
    · subst he
      have := sumTo_le (m := k0) fun k hk => h k (by omega)
      omega
    · have := ih (fun k hk => h k (by omega)) (by omega)
      have := h m (by omega)
      omega
theorem sumTo_add (f g : Nat → Nat) (m : Nat) : sumTo (fun k => f k + g k) m = sumTo f m + sumTo g m := by
  induction m with
  | zero => rfl
  | succ m ih =>
    show sumTo _ m + (f m + g m) = sumTo f m + f m + (sumTo g m + g m)
    omega

/-- how many entries a list of lists has -/
def ents (L : List (List Nat)) : Nat := (L.map List.length).sum
theorem ents_append (L M : List (List Nat)) : ents (L ++ M) = ents L + ents M := by simp [ents]
theorem ents_set (L : List (List Nat)) (i : Nat) (x : List Nat) (h : i < L.length) : ents (L.set i x) + (L.getD i []).length = ents L + x.length := by
  induction L generalizing i with
  | nil => simp at h
  | cons y L ih =>
    cases i with
    | zero => simp [ents]; omega
    | succ i =>
      have := ih i (by simpa using h)
      simp [ents] at this ⊢
      omega
theorem ents_replicate (m : Nat) : ents (List.replicate m []) = 0 := by simp [ents]
theorem ents_getD (L : List (List Nat)) (i : Nat) : (L.getD i []).length ≤ ents L := by
  by_cases h : i < L.length
  · have := ents_set L i [] h
    simp at this ⊢
    omega
  · simp [List.getD, List.getElem?_eq_none (Nat.le_of_not_lt h)]

namespace ES
theorem grow_len (L : List (List Nat)) (i : Nat) : L.length ≤ (grow L i).length ∧ i < (grow L i).length ∧ ((grow L i).length ≤ L.length ∨ (grow L i).length = i + 1) := by
  simp [grow]
  omega
theorem grow_getD (L : List (List Nat)) (i j : Nat) : (grow L i).getD j [] = L.getD j [] := by
  simp only [grow, List.getD_eq_getElem?_getD, List.getElem?_append]
  by_cases h : j < L.length
  · simp [h]
  · simp only [h, if_false, List.getElem?_replicate]
    split <;> simp [List.getElem?_eq_none (Nat.le_of_not_lt h)]
theorem grow_ents (L : List (List Nat)) (i : Nat) : ents (grow L i) = ents L := by
  rw [grow, ents_append, ents_replicate]; rfl
theorem lay_len (L : List (List Nat)) (i k : Nat) : L.length ≤ (lay L i k).length ∧ i < (lay L i k).length ∧ ((lay L i k).length ≤ L.length ∨ (lay L i k).length = i + 1) := by
  have := grow_len L i
  simpa [lay] using this
theorem lay_getD (L : List (List Nat)) (i k j : Nat) : (lay L i k).getD j [] = if i = j then L.getD j [] ++ [k] else L.getD j [] := by
  have hl := (grow_len L i).2.1
  unfold lay
  rw [getD_set, grow_getD, grow_getD]
  by_cases h : i = j
  · subst h
    simp [hl]
  · simp [h]
theorem lay_mem {L : List (List Nat)} {i k j m : Nat} : m ∈ (lay L i k).getD j [] ↔ m ∈ L.getD j [] ∨ (m = k ∧ i = j) := by
  rw [lay_getD]
  by_cases h : i = j
  · simp [h]
  · simp [h]
theorem lay_ents (L : List (List Nat)) (i k : Nat) : ents (lay L i k) = ents L + 1 := by
  have hl := (grow_len L i).2.1
  have := ents_set (grow L i) i ((grow L i).getD i [] ++ [k]) hl
  rw [grow_ents] at this
  unfold lay
  rw [List.length_append] at this
  simp only [List.length_cons, List.length_nil] at this
  omega

/-- what is so of the two literals that are chosen out of xs -/
def Chosen (S : ES) (xs : List Int) (p : Int × Int) : Prop :=
  (xs = [] ∧ p = (0, 0)) ∨
  (p.1 ∈ xs ∧ p.1 ≠ 0 ∧ (∀ l, l ∈ xs → S.worth l ≤ S.worth p.1) ∧
    ((p.2 = 0 ∧ ∀ l, l ∈ xs → l = p.1) ∨ (p.2 ≠ 0 ∧ p.2 ∈ xs ∧ p.2 ≠ p.1 ∧ ∀ l, l ∈ xs → l ≠ p.1 → S.worth l ≤ S.worth p.2)))

theorem chosen_step (S : ES) (xs : List Int) (p : Int × Int) (l : Int) (hl : l ≠ 0) (h : Chosen S xs p) : Chosen S (xs ++ [l]) (S.bestStep p l) := by
  obtain ⟨a, b⟩ := p
  rcases h with ⟨rfl, he⟩ | ⟨h1, h2, h3, h4⟩
  · cases he
    right
    unfold bestStep
    rw [if_neg (by simp [hl]), if_pos (.inl rfl)]
    exact ⟨by simp, hl, by simp, .inl ⟨rfl, by simp⟩⟩
  · right
    simp only at h1 h2 h3 h4
    unfold bestStep
    by_cases c1 : l = a ∨ l = b
    · rw [if_pos c1]
      rcases h4 with ⟨hb, h4⟩ | ⟨hb, hbm, hba, h4⟩
      · have hla : l = a := by
          rcases c1 with c | c
          · exact c
          · exact absurd (c.trans hb) hl
        subst hla
        refine ⟨by simp, h2, fun m hm => ?_, .inl ⟨hb, fun m hm => ?_⟩⟩
        · rcases List.mem_append.1 hm with hm | hm
          · exact h3 m hm
          · rw [List.mem_singleton.1 hm]; exact Int.le_refl _
        · rcases List.mem_append.1 hm with hm | hm
          · exact h4 m hm
          · exact List.mem_singleton.1 hm
      · have hlx : l ∈ xs := by rcases c1 with c | c <;> subst c <;> assumption
        refine ⟨by simp [h1], h2, fun m hm => ?_, .inr ⟨hb, by simp [hbm], hba, fun m hm => ?_⟩⟩
        · rcases List.mem_append.1 hm with hm | hm
          · exact h3 m hm
          · rw [List.mem_singleton.1 hm]; exact h3 l hlx
        · rcases List.mem_append.1 hm with hm | hm
          · exact h4 m hm
          · rw [List.mem_singleton.1 hm]; exact h4 l hlx
    · rw [if_neg c1]
      have n1 : l ≠ a := fun h => c1 (.inl h)
      have n2 : l ≠ b := fun h => c1 (.inr h)
      by_cases c2 : S.worth a < S.worth l
      · rw [if_pos (.inr c2)]
        refine ⟨by simp, hl, fun m hm => ?_, .inr ⟨h2, by simp [h1], fun h => n1 h.symm, fun m hm hne => ?_⟩⟩
        · rcases List.mem_append.1 hm with hm | hm
          · exact Int.le_trans (h3 m hm) (Int.le_of_lt c2)
          · rw [List.mem_singleton.1 hm]; exact Int.le_refl _
        · rcases List.mem_append.1 hm with hm | hm
          · exact h3 m hm
          · exact absurd (List.mem_singleton.1 hm) hne
      · rw [if_neg (by rintro (h | h); exact h2 h; exact c2 h)]
        have hle : S.worth l ≤ S.worth a := by omega
        have hall : ∀ m, m ∈ xs ++ [l] → S.worth m ≤ S.worth a := fun m hm => by
          rcases List.mem_append.1 hm with hm | hm
          · exact h3 m hm
          · rw [List.mem_singleton.1 hm]; exact hle
        rcases h4 with ⟨hb, h4⟩ | ⟨hb, hbm, hba, h4⟩
        · rw [if_pos (.inl hb)]
          refine ⟨by simp [h1], h2, hall, .inr ⟨hl, by simp, n1, fun m hm hne => ?_⟩⟩
          rcases List.mem_append.1 hm with hm | hm
          · exact absurd (h4 m hm) hne
          · rw [List.mem_singleton.1 hm]; exact Int.le_refl _
        · by_cases c3 : S.worth b < S.worth l
          · rw [if_pos (.inr c3)]
            refine ⟨by simp [h1], h2, hall, .inr ⟨hl, by simp, n1, fun m hm hne => ?_⟩⟩
            rcases List.mem_append.1 hm with hm | hm
            · exact Int.le_trans (h4 m hm hne) (Int.le_of_lt c3)
            · rw [List.mem_singleton.1 hm]; exact Int.le_refl _
          · rw [if_neg (by rintro (h | h); exact hb h; exact c3 h)]
            refine ⟨by simp [h1], h2, hall, .inr ⟨hb, by simp [hbm], hba, fun m hm hne => ?_⟩⟩
            rcases List.mem_append.1 hm with hm | hm
            · exact h4 m hm hne
            · rw [List.mem_singleton.1 hm]; exact Int.not_lt.1 c3

theorem best_chosen (S : ES) (c : List Int) (h : ∀ l, l ∈ c → l ≠ 0) : Chosen S c (S.best c) := by
  have : ∀ (ys xs : List Int) (p : Int × Int), (∀ l, l ∈ ys → l ≠ 0) → Chosen S xs p → Chosen S (xs ++ ys) (ys.foldl S.bestStep p) := by
    intro ys
    induction ys with
    | nil => intro xs p _ h; simpa using h
    | cons y ys ih =>
      intro xs p hy h
      have := ih (xs ++ [y]) (S.bestStep p y) (fun l hl => hy l (by simp [hl])) (chosen_step S xs p y (hy y (by simp)) h)
      simpa using this
  exact this c [] (0, 0) h (.inl ⟨rfl, rfl⟩)

theorem best_congr {S S' : ES} {c : List Int} (h : ∀ l, l ∈ c → S'.worth l = S.worth l) : S'.best c = S.best c := by
  have : ∀ (ys : List Int) (p : Int × Int), (∀ l, l ∈ ys → S'.worth l = S.worth l) → (p.1 = 0 ∨ S'.worth p.1 = S.worth p.1) → (p.2 = 0 ∨ S'.worth p.2 = S.worth p.2) → ys.foldl S'.bestStep p = ys.foldl S.bestStep p := by
    intro ys
    induction ys with
    | nil => intro _ _ _ _; rfl
    | cons y ys ih =>
      intro p hy h1 h2
      have e : S'.bestStep p y = S.bestStep p y := by
        unfold bestStep
        rw [hy y (by simp)]
        have i1 : (p.1 = 0 ∨ S'.worth p.1 < S.worth y) ↔ (p.1 = 0 ∨ S.worth p.1 < S.worth y) := by
          rcases h1 with h | h
          · simp [h]
          · rw [h]
        have i2 : (p.2 = 0 ∨ S'.worth p.2 < S.worth y) ↔ (p.2 = 0 ∨ S.worth p.2 < S.worth y) := by
          rcases h2 with h | h
          · simp [h]
          · rw [h]
        simp only [i1, i2]
      rw [List.foldl_cons, List.foldl_cons, e]
      refine ih _ (fun l hl => hy l (by simp [hl])) ?_ ?_
      · unfold bestStep
        split
        · exact h1
        · split
          · exact .inr (hy y (by simp))
          · split <;> exact h1
      · unfold bestStep
        split
        · exact h2
        · split
          · exact h1
          · split
            · exact .inr (hy y (by simp))
            · exact h2
  exact this c (0, 0) h (.inl rfl) (.inl rfl)

section
variable {S : ES} (h : S.core) (hn : S.n ≤ 1048576)
include h hn
theorem lv_le (l : Int) : S.lv l ≤ 1048576 := by
  have a := h.lev_le l.natAbs
  have b := h.mks_len
  have c := h.tr_len
  unfold lv
  omega
theorem worth_false (l : Int) : S.worth l ≤ 1048576 ↔ S.of l = -1 := by
  have := lv_le h hn l
  have hr := of_range h l
  unfold worth
  split
  · omega
  · split
    · omega
    · omega
/-- the greatest is false: all are -/
theorem all_false {c : List Int} (h0 : ∀ l, l ∈ c → l ≠ 0) (hb : (S.best c).1 = 0 ∨ S.of (S.best c).1 = -1) : ∀ l, l ∈ c → S.of l = -1 := by
  intro l hl
  rcases best_chosen S c h0 with ⟨rfl, _⟩ | ⟨h1, h2, h3, _⟩
  · cases hl
  · rcases hb with hb | hb
    · exact absurd hb h2
    · have := (worth_false h hn _).2 hb
      have := h3 l hl
      exact (worth_false h hn l).1 (by omega)
/-- the second is none or false: all but the first are false -/
theorem rest_false {c : List Int} (h0 : ∀ l, l ∈ c → l ≠ 0) (hb : (S.best c).2 = 0 ∨ S.of (S.best c).2 = -1) : ∀ l, l ∈ c → l ≠ (S.best c).1 → S.of l = -1 := by
  intro l hl hne
  rcases best_chosen S c h0 with ⟨rfl, _⟩ | ⟨h1, h2, h3, ⟨_, h4⟩ | ⟨h4, _, _, h5⟩⟩
  · cases hl
  · exact absurd (h4 l hl) hne
  · rcases hb with hb | hb
    · exact absurd hb h4
    · have := (worth_false h hn _).2 hb
      have := h5 l hl hne
      exact (worth_false h hn l).1 (by omega)
end
end ES
end Go.Proofs.Ytaileihnkmjfiaa
