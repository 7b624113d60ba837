/-
  The engine's values, levels and trail agree with one another, and every set, decision and undoing keeps them so. Conditions: those each theorem names.
-/
import Derived.Test.YtaileihnkmjfiaaDat
namespace Go.Proofs.Ytaileihnkmjfiaa

theorem nodup_len (m : Nat) : ∀ (L : List Nat), L.Nodup → (∀ x, x ∈ L → x < m) → L.length ≤ m := by
  induction m with
  | zero =>
    intro L _ h
    cases L with
    | nil => simp
    | cons x xs => exact absurd (h x (by simp)) (by omega)
  | succ m ih =>
    intro L hn h
    have h1 := ih (L.erase m) (hn.erase m) (fun x hx => by
      have h2 := (hn.mem_erase_iff).1 hx
      have := h x h2.2
      have := h2.1
      omega)
    by_cases hm : m ∈ L
    · rw [List.length_erase_of_mem hm] at h1
      omega
    · rw [List.erase_of_not_mem hm] at h1
      omega

theorem getD_set {α : Type} (L : List α) (i j : Nat) (x z : α) : (L.set i x).getD j z = if i = j ∧ i < L.length then x else L.getD j z := by
  simp only [List.getD_eq_getElem?_getD, List.getElem?_set]
  by_cases h : i = j
  · subst h
    by_cases h2 : i < L.length
    · simp [h2]
    · simp [h2]
  · simp [h]
theorem getD_snoc {α : Type} (L : List α) (x z : α) (j : Nat) : (L ++ [x]).getD j z = if j < L.length then L.getD j z else if j = L.length then x else z := by
  simp only [List.getD_eq_getElem?_getD, List.getElem?_append]
  by_cases h : j < L.length
  · simp [h]
  · simp only [h, if_false]
    by_cases h2 : j = L.length
    · subst h2; simp
    · have : j - L.length ≠ 0 := by omega
      obtain ⟨m, hm⟩ : ∃ m, j - L.length = m + 1 := ⟨j - L.length - 1, by omega⟩
      simp [h2, hm]
theorem getD_take {α : Type} (L : List α) (z : α) (m j : Nat) : (L.take m).getD j z = if j < m then L.getD j z else z := by
  simp only [List.getD_eq_getElem?_getD, List.getElem?_take]
  by_cases h : j < m <;> simp [h]
theorem mem_getD {α : Type} {L : List α} {x : α} (z : α) (h : x ∈ L) : ∃ i, i < L.length ∧ L.getD i z = x := by
  obtain ⟨i, hi, he⟩ := List.mem_iff_getElem.1 h
  exact ⟨i, hi, by simp [List.getD, hi, he]⟩
theorem getD_mem' {α : Type} {L : List α} {i : Nat} (z : α) (h : i < L.length) : L.getD i z ∈ L := by simp [List.getD, h]

def LevAt (mks : List Nat) (i L : Nat) : Prop := L ≤ mks.length ∧ (∀ j, j < L → mks.getD j 0 ≤ i) ∧ ∀ j, L ≤ j → j < mks.length → i < mks.getD j 0

structure Core (n : Nat) (val : List Int) (lev : List Nat) (tr : List Int) (mks : List Nat) : Prop where
  val_len : val.length = n + 1
  lev_len : lev.length = n + 1
  tr_rng : ∀ l, l ∈ tr → l ≠ 0 ∧ l.natAbs ≤ n
  tr_nd : (tr.map Int.natAbs).Nodup
  val_eq : ∀ l, l ∈ tr → val.getD l.natAbs 0 = ES.sg l
  val_zero : ∀ v, val.getD v 0 ≠ 0 → ∃ l, l ∈ tr ∧ l.natAbs = v
  lev_tr : ∀ i, i < tr.length → LevAt mks i (lev.getD (tr.getD i 0).natAbs 0)
  lev_zero : ∀ v, val.getD v 0 = 0 → lev.getD v 0 = 0
  mks_lt : ∀ j, j < mks.length → mks.getD j 0 < tr.length
  mks_inc : ∀ i j, i < j → j < mks.length → mks.getD i 0 < mks.getD j 0

theorem sg_cases {l : Int} (h : l ≠ 0) : (0 < l ∧ ES.sg l = 1 ∧ (l.natAbs : Int) = l) ∨ (l < 0 ∧ ES.sg l = -1 ∧ (l.natAbs : Int) = -l) := by
  unfold ES.sg
  by_cases h1 : l < 0
  · exact .inr ⟨h1, by simp [h1], by omega⟩
  · exact .inl ⟨by omega, by simp [h1], by omega⟩

namespace Core
variable {n : Nat} {val : List Int} {lev : List Nat} {tr : List Int} {mks : List Nat}

theorem tr_len (h : Core n val lev tr mks) : tr.length ≤ n := by
  have := nodup_len n ((tr.map Int.natAbs).map (· - 1)) ?_ ?_
  · simpa using this
  · refine List.Pairwise.map _ ?_ (List.Pairwise.and_mem.1 h.tr_nd)
    intro a b ⟨ha, hb, hab⟩
    simp only [List.mem_map] at ha hb
    obtain ⟨x, hx, rfl⟩ := ha
    obtain ⟨y, hy, rfl⟩ := hb
    have := (h.tr_rng x hx).1
    have := (h.tr_rng y hy).1
    omega
  · intro x hx
    simp only [List.map_map, List.mem_map, Function.comp] at hx
    obtain ⟨l, hl, rfl⟩ := hx
    have := h.tr_rng l hl
    omega

theorem same (h : Core n val lev tr mks) {l m : Int} (hl : l ∈ tr) (hm : m ∈ tr) (he : l.natAbs = m.natAbs) : l = m := by
  have a := h.val_eq l hl
  have b := h.val_eq m hm
  rw [he, b] at a
  rcases sg_cases (h.tr_rng l hl).1 with ⟨_, s, _⟩ | ⟨_, s, _⟩ <;> rcases sg_cases (h.tr_rng m hm).1 with ⟨_, t, _⟩ | ⟨_, t, _⟩ <;> rw [s, t] at a <;> omega

theorem rng (h : Core n val lev tr mks) (v : Nat) : -1 ≤ val.getD v 0 ∧ val.getD v 0 ≤ 1 := by
  by_cases hz : val.getD v 0 = 0
  · omega
  · obtain ⟨l, hl, rfl⟩ := h.val_zero v hz
    rw [h.val_eq l hl]
    unfold ES.sg
    split <;> omega

theorem mks_len (h : Core n val lev tr mks) : mks.length ≤ tr.length := by
  have : ∀ j, j < mks.length → j ≤ mks.getD j 0 := by
    intro j
    induction j with
    | zero => intro _; exact Nat.zero_le _
    | succ j ih =>
      intro hj
      have := ih (by omega)
      have := h.mks_inc j (j + 1) (by omega) hj
      omega
  by_cases hz : mks.length = 0
  · omega
  · have a := this (mks.length - 1) (by omega)
    have b := h.mks_lt (mks.length - 1) (by omega)
    omega

theorem lev_le (h : Core n val lev tr mks) (v : Nat) : lev.getD v 0 ≤ mks.length := by
  by_cases hz : val.getD v 0 = 0
  · rw [h.lev_zero v hz]; exact Nat.zero_le _
  · obtain ⟨l, hl, rfl⟩ := h.val_zero v hz
    obtain ⟨i, hi, rfl⟩ := mem_getD 0 hl
    exact (h.lev_tr i hi).1

theorem set (h : Core n val lev tr mks) {l : Int} (h0 : l ≠ 0) (hn : l.natAbs ≤ n) (hz : val.getD l.natAbs 0 = 0) :
    Core n (val.set l.natAbs (ES.sg l)) (lev.set l.natAbs mks.length) (tr ++ [l]) mks := by
  have hv : l.natAbs < val.length := by rw [h.val_len]; omega
  have hv2 : l.natAbs < lev.length := by rw [h.lev_len]; omega
  have hnew : ∀ m, m ∈ tr → m.natAbs ≠ l.natAbs := by
    intro m hm he
    have := h.val_eq m hm
    rw [he, hz] at this
    rcases sg_cases (h.tr_rng m hm).1 with ⟨_, s, _⟩ | ⟨_, s, _⟩ <;> omega
  refine ⟨by simpa using h.val_len, by simpa using h.lev_len, ?_, ?_, ?_, ?_, ?_, ?_, ?_, h.mks_inc⟩
  · intro m hm
    rcases List.mem_append.1 hm with hm | hm
    · exact h.tr_rng m hm
    · rw [List.mem_singleton] at hm
      subst hm
      exact ⟨h0, hn⟩
  · rw [List.map_append, List.nodup_append]
    refine ⟨h.tr_nd, by simp, ?_⟩
    intro a ha b hb
    simp only [List.map_cons, List.map_nil, List.mem_singleton] at hb
    subst hb
    obtain ⟨m, hm, rfl⟩ := List.mem_map.1 ha
    exact hnew m hm
  · intro m hm
    rw [getD_set]
    rcases List.mem_append.1 hm with hm | hm
    · rw [if_neg (fun hc => hnew m hm hc.1.symm)]
      exact h.val_eq m hm
    · rw [List.mem_singleton] at hm
      subst hm
      rw [if_pos ⟨rfl, hv⟩]
  · intro v hne
    rw [getD_set] at hne
    split at hne
    · rename_i hc
      exact ⟨l, by simp, hc.1⟩
    · obtain ⟨m, hm, he⟩ := h.val_zero v hne
      exact ⟨m, by simp [hm], he⟩
  · intro i hi
    rw [List.length_append] at hi
    simp only [List.length_cons, List.length_nil] at hi
    by_cases hi2 : i < tr.length
    · rw [show (tr ++ [l]).getD i 0 = tr.getD i 0 by rw [getD_snoc, if_pos hi2], getD_set, if_neg (fun hc => hnew _ (getD_mem' 0 hi2) hc.1.symm)]
      exact h.lev_tr i hi2
    · have : i = tr.length := by omega
      subst this
      rw [show (tr ++ [l]).getD tr.length 0 = l by rw [getD_snoc, if_neg (Nat.lt_irrefl _), if_pos rfl], getD_set, if_pos ⟨rfl, hv2⟩]
      exact ⟨Nat.le_refl _, fun j hj => Nat.le_of_lt (h.mks_lt j hj), fun j h1 h2 => by omega⟩
  · intro v hzv
    rw [getD_set] at hzv ⊢
    split at hzv
    · rcases sg_cases h0 with ⟨_, s, _⟩ | ⟨_, s, _⟩ <;> omega
    · rename_i hc
      rw [if_neg (fun hc2 => hc ⟨hc2.1, hv⟩)]
      exact h.lev_zero v hzv
  · intro j hj
    have := h.mks_lt j hj
    rw [List.length_append]
    omega

theorem decide (h : Core n val lev tr mks) {l : Int} (h0 : l ≠ 0) (hn : l.natAbs ≤ n) (hz : val.getD l.natAbs 0 = 0) :
    Core n (val.set l.natAbs (ES.sg l)) (lev.set l.natAbs (mks.length + 1)) (tr ++ [l]) (mks ++ [tr.length]) := by
  have g := h.set h0 hn hz
  have hv2 : l.natAbs < lev.length := by rw [h.lev_len]; omega
  have hnew : ∀ m, m ∈ tr → m.natAbs ≠ l.natAbs := by
    intro m hm he
    have := h.val_eq m hm
    rw [he, hz] at this
    rcases sg_cases (h.tr_rng m hm).1 with ⟨_, s, _⟩ | ⟨_, s, _⟩ <;> omega
  refine ⟨g.val_len, by simpa using h.lev_len, g.tr_rng, g.tr_nd, g.val_eq, g.val_zero, ?_, ?_, ?_, ?_⟩
  · intro i hi
    rw [List.length_append] at hi
    simp only [List.length_cons, List.length_nil] at hi
    by_cases hi2 : i < tr.length
    · rw [show (tr ++ [l]).getD i 0 = tr.getD i 0 by rw [getD_snoc, if_pos hi2], getD_set, if_neg (fun hc => hnew _ (getD_mem' 0 hi2) hc.1.symm)]
      obtain ⟨a, b, c⟩ := h.lev_tr i hi2
      refine ⟨by rw [List.length_append]; omega, fun j hj => ?_, fun j h1 h2 => ?_⟩
      · rw [getD_snoc, if_pos (by omega)]; exact b j hj
      · rw [getD_snoc]
        simp only [List.length_append, List.length_cons, List.length_nil] at h2
        by_cases hj : j < mks.length
        · rw [if_pos hj]; exact c j h1 hj
        · rw [if_neg hj, if_pos (by omega)]; exact hi2
    · have : i = tr.length := by omega
      subst this
      rw [show (tr ++ [l]).getD tr.length 0 = l by rw [getD_snoc, if_neg (Nat.lt_irrefl _), if_pos rfl], getD_set, if_pos ⟨rfl, hv2⟩]
      refine ⟨by simp, fun j hj => ?_, fun j h1 h2 => ?_⟩
      · rw [getD_snoc]
        by_cases hj2 : j < mks.length
        · rw [if_pos hj2]; exact Nat.le_of_lt (h.mks_lt j hj2)
        · rw [if_neg hj2, if_pos (by omega)]; exact Nat.le_refl _
      · simp only [List.length_append, List.length_cons, List.length_nil] at h2
        omega
  · intro v hzv
    have := g.lev_zero v hzv
    rw [getD_set] at this ⊢
    split
    · rename_i hc
      rw [getD_set, if_pos ⟨hc.1, by rw [h.val_len]; omega⟩] at hzv
      rcases sg_cases h0 with ⟨_, s, _⟩ | ⟨_, s, _⟩ <;> omega
    · rename_i hc
      rw [if_neg hc] at this
      exact this
  · intro j hj
    simp only [List.length_append, List.length_cons, List.length_nil] at hj ⊢
    rw [getD_snoc]
    by_cases hj2 : j < mks.length
    · rw [if_pos hj2]; have := h.mks_lt j hj2; omega
    · rw [if_neg hj2, if_pos (by omega)]; omega
  · intro i j hij hj
    simp only [List.length_append, List.length_cons, List.length_nil] at hj
    rw [getD_snoc, getD_snoc, if_pos (by omega)]
    by_cases hj2 : j < mks.length
    · rw [if_pos hj2]; exact h.mks_inc i j hij hj2
    · rw [if_neg hj2, if_pos (by omega)]; exact h.mks_lt i (by omega)

/-- what is left when the trail is cut at a mark, and what was behind it has no value and no level any more -/
theorem back (h : Core n val lev tr mks) {level : Nat} (hl : level < mks.length) {val' : List Int} {lev' : List Nat}
    (hv1 : val'.length = val.length) (hv2 : lev'.length = lev.length)
    (hv : ∀ v, val'.getD v 0 = if (∃ l, l ∈ tr.drop (mks.getD level 0) ∧ l.natAbs = v) then 0 else val.getD v 0)
    (hw : ∀ v, lev'.getD v 0 = if (∃ l, l ∈ tr.drop (mks.getD level 0) ∧ l.natAbs = v) then 0 else lev.getD v 0) :
    Core n val' lev' (tr.take (mks.getD level 0)) (mks.take level) := by
  classical
  have hm := h.mks_lt level hl
  have hsub : ∀ l, l ∈ tr.take (mks.getD level 0) → l ∈ tr := fun l hl => List.mem_of_mem_take hl
  have hkeep : ∀ l, l ∈ tr.take (mks.getD level 0) → ¬ ∃ m, m ∈ tr.drop (mks.getD level 0) ∧ m.natAbs = l.natAbs := by
    rintro l hl ⟨m, hm2, he⟩
    have hnd := h.tr_nd
    rw [← List.take_append_drop (mks.getD level 0) tr, List.map_append, List.nodup_append] at hnd
    exact hnd.2.2 _ (List.mem_map_of_mem hl) _ (List.mem_map_of_mem hm2) he.symm
  refine ⟨by rw [hv1, h.val_len], by rw [hv2, h.lev_len], fun l hl => h.tr_rng l (hsub l hl), ?_, ?_, ?_, ?_, ?_, ?_, ?_⟩
  · have hnd := h.tr_nd
    rw [← List.take_append_drop (mks.getD level 0) tr, List.map_append, List.nodup_append] at hnd
    exact hnd.1
  · intro l hl2
    rw [hv, if_neg (hkeep l hl2)]
    exact h.val_eq l (hsub l hl2)
  · intro v hne
    rw [hv] at hne
    split at hne
    · exact absurd rfl hne
    · rename_i hc
      obtain ⟨l, hl2, rfl⟩ := h.val_zero v hne
      rw [← List.take_append_drop (mks.getD level 0) tr] at hl2
      rcases List.mem_append.1 hl2 with h1 | h1
      · exact ⟨l, h1, rfl⟩
      · exact absurd ⟨l, h1, rfl⟩ hc
  · intro i hi
    have hi' := hi
    rw [List.length_take] at hi
    rw [getD_take, if_pos (by omega), hw, if_neg (by have := hkeep _ (getD_mem' (z := (0:Int)) hi'); rw [getD_take, if_pos (by omega)] at this; exact this)]
    obtain ⟨a, b, c⟩ := h.lev_tr i (by omega)
    have hle : lev.getD (tr.getD i 0).natAbs 0 ≤ level := by
      by_cases hle : lev.getD (tr.getD i 0).natAbs 0 ≤ level
      · exact hle
      · have := b level (by omega)
        omega
    refine ⟨by rw [List.length_take]; omega, fun j hj => ?_, fun j h1 h2 => ?_⟩
    · rw [getD_take, if_pos (by omega)]; exact b j hj
    · rw [List.length_take] at h2
      rw [getD_take, if_pos (by omega)]; exact c j h1 (by omega)
  · intro v hz
    rw [hv] at hz
    rw [hw]
    split
    · rfl
    · rename_i hc
      rw [if_neg hc] at hz
      exact h.lev_zero v hz
  · intro j hj
    rw [List.length_take] at hj ⊢
    rw [getD_take, if_pos (by omega)]
    have := h.mks_inc j level (by omega) hl
    omega
  · intro i j hij hj
    rw [List.length_take] at hj
    rw [getD_take, getD_take, if_pos (by omega), if_pos (by omega)]
    exact h.mks_inc i j hij (by omega)
end Core

theorem Core.new (n : Nat) : Core n (List.replicate (n + 1) 0) (List.replicate (n + 1) 0) [] [] := by
  have hz : ∀ v, (List.replicate (n + 1) (0 : Int)).getD v 0 = 0 := by
    intro v; simp only [List.getD_eq_getElem?_getD, List.getElem?_replicate]; split <;> rfl
  have hz2 : ∀ v, (List.replicate (n + 1) (0 : Nat)).getD v 0 = 0 := by
    intro v; simp only [List.getD_eq_getElem?_getD, List.getElem?_replicate]; split <;> rfl
  exact ⟨by simp, by simp, by simp, by simp, by simp, fun v h => absurd (hz v) h, by simp, fun v _ => hz2 v, by simp, by simp⟩

namespace ES
def core (S : ES) : Prop := Core S.n S.val S.lev S.tr S.mks

theorem of_neg (S : ES) (l : Int) (hl : l ≠ 0) : S.of (-l) = - S.of l := by
  unfold of
  rw [Int.natAbs_neg]
  split <;> split <;> omega
theorem of_zero {S : ES} {l : Int} : S.of l = 0 ↔ S.val.getD l.natAbs 0 = 0 := by
  unfold of
  split <;> omega
section
variable {S : ES} (h : S.core)
include h
theorem of_one {l : Int} (_hl : l ≠ 0) : S.of l = 1 ↔ l ∈ S.tr := by
  constructor
  · intro ho
    have hne : S.val.getD l.natAbs 0 ≠ 0 := by unfold of at ho; split at ho <;> omega
    obtain ⟨m, hm, he⟩ := h.val_zero _ hne
    have hv := h.val_eq m hm
    rw [he] at hv
    have h0 := (h.tr_rng m hm).1
    have : m = l := by
      unfold of at ho
      rw [hv] at ho
      unfold sg at ho
      split at ho <;> split at ho <;> omega
    exact this ▸ hm
  · intro hm
    have hv := h.val_eq l hm
    unfold of
    rw [hv]
    unfold sg
    split <;> omega
theorem of_minus {l : Int} (hl : l ≠ 0) : S.of l = -1 ↔ -l ∈ S.tr := by
  rw [← of_one h (by omega : -l ≠ 0), of_neg S l hl]
  omega
theorem of_range (l : Int) : -1 ≤ S.of l ∧ S.of l ≤ 1 := by
  have := h.rng l.natAbs
  unfold of
  split <;> omega
theorem not_both {l : Int} (h1 : l ∈ S.tr) (h2 : -l ∈ S.tr) : False := by
  have h0 := (h.tr_rng l h1).1
  have a := (of_one h h0).2 h1
  have b := (of_minus h h0).2 h2
  omega
end
end ES
end Go.Proofs.Ytaileihnkmjfiaa
