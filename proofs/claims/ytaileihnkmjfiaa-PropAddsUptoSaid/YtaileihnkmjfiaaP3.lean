/-
  The engine's invariant, and that settle keeps it. Conditions: those each theorem names.
-/
import Derived.Test.YtaileihnkmjfiaaP2
namespace Go.Proofs.Ytaileihnkmjfiaa

theorem pl_inj {a b : Int} (h : pl a = pl b) : a = b := by
  unfold pl at h
  split at h <;> split at h <;> omega

def wtch (L : List (List Nat)) (k : Nat) (q : Int × Int) (l : Int) : List (List Nat) := if l ≠ 0 ∧ l ≠ q.1 ∧ l ≠ q.2 then ES.lay L (pl l) k else L
theorem watchOne_eq (S : ES) (k : Nat) (q : Int × Int) (l : Int) : S.watchOne k q l = { S with wt := wtch S.wt k q l } := by
  unfold ES.watchOne wtch ES.layW
  split <;> rfl

/-- the lists W are those of L, and k in the lists of what is new of p -/
structure Wtd (L W : List (List Nat)) (k : Nat) (q p : Int × Int) : Prop where
  sub : ∀ i m, m ∈ L.getD i [] → m ∈ W.getD i []
  sup : ∀ i m, m ∈ W.getD i [] → m ∈ L.getD i [] ∨ m = k
  new : ∀ l, l ≠ 0 → (l = p.1 ∨ l = p.2) → l ≠ q.1 → l ≠ q.2 → k ∈ W.getD (pl l) []
  old : ∀ l, l ≠ 0 → (l = q.1 ∨ l = q.2) → W.getD (pl l) [] = L.getD (pl l) []
  ents : ents W ≤ ents L + 2
  same : p = q → W = L
  len : ∀ m, L.length ≤ m → (∀ l, (l = p.1 ∨ l = p.2) → pl l < m) → W.length ≤ m
  len2 : L.length ≤ W.length

theorem wtch_one (L : List (List Nat)) (k : Nat) (q : Int × Int) (l : Int) :
    (∀ i m, m ∈ L.getD i [] → m ∈ (wtch L k q l).getD i []) ∧ (∀ i m, m ∈ (wtch L k q l).getD i [] → m ∈ L.getD i [] ∨ m = k) ∧
    (l ≠ 0 → l ≠ q.1 → l ≠ q.2 → k ∈ (wtch L k q l).getD (pl l) []) ∧ (∀ m, (m = q.1 ∨ m = q.2) → (wtch L k q l).getD (pl m) [] = L.getD (pl m) []) ∧
    ents (wtch L k q l) ≤ ents L + 1 ∧ (∀ m, L.length ≤ m → pl l < m → (wtch L k q l).length ≤ m) ∧ L.length ≤ (wtch L k q l).length := by
  unfold wtch
  split
  · rename_i hc
    refine ⟨fun i m h => ES.lay_mem.2 (.inl h), fun i m h => (ES.lay_mem.1 h).imp id (·.1), fun _ _ _ => ES.lay_mem.2 (.inr ⟨rfl, rfl⟩), ?_, by rw [ES.lay_ents]; exact Nat.le_refl _, ?_, (ES.lay_len L (pl l) k).1⟩
    · intro m hm
      rw [ES.lay_getD, if_neg]
      intro he
      have := pl_inj he
      subst this
      rcases hm with h | h
      · exact hc.2.1 h
      · exact hc.2.2 h
    · intro m h1 h2
      rcases (ES.lay_len L (pl l) k).2.2 with h | h <;> omega
  · rename_i hc
    refine ⟨fun _ _ h => h, fun _ _ h => .inl h, fun h1 h2 h3 => absurd ⟨h1, h2, h3⟩ hc, fun _ _ => rfl, Nat.le_succ _, fun m h _ => h, Nat.le_refl _⟩

theorem wtd (L : List (List Nat)) (k : Nat) (q p : Int × Int) : Wtd L (wtch (wtch L k q p.1) k q p.2) k q p := by
  obtain ⟨a1, a2, a3, a4, a5, a6, a7⟩ := wtch_one L k q p.1
  obtain ⟨b1, b2, b3, b4, b5, b6, b7⟩ := wtch_one (wtch L k q p.1) k q p.2
  refine ⟨fun i m h => b1 i m (a1 i m h), fun i m h => ?_, ?_, ?_, by omega, ?_, ?_, by omega⟩
  · rcases b2 i m h with h | h
    · exact a2 i m h
    · exact .inr h
  · rintro l h0 (rfl | rfl) h1 h2
    · exact b1 _ _ (a3 h0 h1 h2)
    · exact b3 h0 h1 h2
  · intro l _ hl
    rw [b4 l hl, a4 l hl]
  · rintro rfl
    unfold wtch
    simp
  · intro m h1 h2
    exact b6 m (a6 m h1 (h2 _ (.inl rfl))) (h2 _ (.inr rfl))

namespace ES
/-- settle's four ways -/
theorem settle_cases (S : ES) (k : Nat) :
    ∃ (W : List (List Nat)) (p : Int × Int), p = S.best (S.cs.getD k []) ∧ Wtd S.wt W k (S.pr.getD k (0, 0)) p ∧
    (((p.1 = 0 ∨ S.of p.1 = -1) ∧ S.settle k = ({ S with wt := W, pr := S.pr.set k p, clash := k + 1 }, false)) ∨
     (p.1 ≠ 0 ∧ S.of p.1 ≠ -1 ∧ p.2 ≠ 0 ∧ S.of p.2 ≠ -1 ∧ S.settle k = ({ S with wt := W, pr := S.pr.set k p }, true)) ∨
     (p.1 ≠ 0 ∧ S.of p.1 ≠ -1 ∧ (p.2 = 0 ∨ S.of p.2 = -1) ∧ ∃ S4, S4 = (if S.of p.1 = 0 then ({ S with wt := W, pr := S.pr.set k p } : ES).set p.1 (k + 1) else { S with wt := W, pr := S.pr.set k p }) ∧
       S.settle k = (if 0 < S4.lv p.1 ∧ (p.2 = 0 ∨ S4.lv p.2 < S4.lv p.1) then S4.layH p.1.natAbs k else S4, true))) := by
  refine ⟨_, S.best (S.cs.getD k []), rfl, wtd S.wt k (S.pr.getD k (0, 0)) (S.best (S.cs.getD k [])), ?_⟩
  unfold settle
  simp only [watchOne_eq]
  generalize S.best (S.cs.getD k []) = p
  by_cases h1 : p.1 = 0 ∨ S.of p.1 = -1
  · left
    refine ⟨h1, ?_⟩
    rw [if_pos h1]
  · right
    have h1' : p.1 ≠ 0 ∧ S.of p.1 ≠ -1 := ⟨fun h => h1 (.inl h), fun h => h1 (.inr h)⟩
    by_cases h2 : p.2 ≠ 0 ∧ S.of p.2 ≠ -1
    · left
      refine ⟨h1'.1, h1'.2, h2.1, h2.2, ?_⟩
      rw [if_neg h1, if_pos h2]
    · right
      refine ⟨h1'.1, h1'.2, ?_, _, rfl, ?_⟩
      · by_cases h3 : p.2 = 0
        · exact .inl h3
        · exact .inr (Decidable.not_not.1 fun h4 => h2 ⟨h3, h4⟩)
      · rw [if_neg h1, if_neg h2]

def Why (S : ES) (i : Nat) : Prop :=
  (i ∈ S.mks ∧ S.rsn.getD (S.tr.getD i 0).natAbs 0 = 0) ∨
  (i ∉ S.mks ∧ ∃ k, k < S.cs.length ∧ S.rsn.getD (S.tr.getD i 0).natAbs 0 = k + 1 ∧ S.tr.getD i 0 ∈ S.cs.getD k [] ∧ ∀ l, l ∈ S.cs.getD k [] → l ≠ S.tr.getD i 0 → -l ∈ S.tr.take i)

/-- what is always so (x: a literal whose list is being gone through) -/
structure Inv (S : ES) (x : Int) : Prop where
  core : S.core
  n_le : S.n ≤ 1048576
  rsn_len : S.rsn.length = S.n + 1
  lit_rng : ∀ c, c ∈ S.cs → ∀ l, l ∈ c → l ≠ 0 ∧ l.natAbs ≤ S.n
  cl_len : ∀ c, c ∈ S.cs → c.length ≤ 65536
  cs_len : S.cs.length ≤ 1048576
  lits_eq : S.lits = (S.cs.map List.length).sum
  lits_le : S.lits ≤ 4194304
  pr_len : S.pr.length = S.cs.length
  stp_len : S.stp.length = S.cs.length
  stp_le : ∀ k, S.stp.getD k 0 ≤ S.turn
  pr_fst : ∀ k, (S.pr.getD k (0, 0)).1 ≠ 0 → (S.pr.getD k (0, 0)).1 ∈ S.cs.getD k []
  pr_snd : ∀ k, (S.pr.getD k (0, 0)).2 ≠ 0 → (S.pr.getD k (0, 0)).2 ∈ S.cs.getD k []
  wt_rng : ∀ i k, k ∈ S.wt.getD i [] → k < S.cs.length
  hl_rng : ∀ i k, k ∈ S.hl.getD i [] → k < S.cs.length
  fr_rng : ∀ k, k ∈ S.fr → k < S.cs.length
  clash_le : S.clash ≤ S.cs.length
  head_le : S.head ≤ S.tr.length
  wt_len : S.wt.length ≤ 2 * S.n + 2
  hl_len : S.hl.length ≤ S.n + 1
  pw : ∀ k l, l ≠ 0 → l ≠ x → (l = (S.pr.getD k (0, 0)).1 ∨ l = (S.pr.getD k (0, 0)).2) → k ∈ S.wt.getD (pl l) []
  why : ∀ i, i < S.tr.length → S.Why i
  rsn_zero : ∀ v, S.val.getD v 0 = 0 → S.rsn.getD v 0 = 0
  clash_false : S.clash ≠ 0 → ∀ l, l ∈ S.cs.getD (S.clash - 1) [] → -l ∈ S.tr

theorem Inv.lits {S : ES} {x : Int} (h : S.Inv x) (k : Nat) : ∀ l, l ∈ S.cs.getD k [] → l ≠ 0 ∧ l.natAbs ≤ S.n := by
  intro l hl
  by_cases hk : k < S.cs.length
  · exact h.lit_rng _ (getD_mem' [] hk) l hl
  · simp [List.getD, List.getElem?_eq_none (Nat.le_of_not_lt hk)] at hl

theorem pl_le {l : Int} {n : Nat} (h : l.natAbs ≤ n) : pl l < 2 * n + 2 := by
  unfold pl
  split <;> omega

theorem Inv.ok {S : ES} {x : Int} (h : S.Inv x) : S.Ok := by
  have hc := h.core
  have hn := h.n_le
  refine ⟨h.n_le, hc.val_len, hc.lev_len, h.rsn_len, hc.rng, h.lit_rng, h.cl_len, h.cs_len, h.lits_le, h.pr_len, h.stp_len, ?_, h.wt_rng, h.hl_rng, h.fr_rng, ?_, h.clash_le, hc.tr_rng, hc.tr_len, hc.mks_len, ?_, hc.lev_le, h.head_le, ?_, ?_⟩
  · intro k
    constructor
    · by_cases hz : (S.pr.getD k (0, 0)).1 = 0
      · rw [hz]; exact Nat.zero_le _
      · exact (h.lits k _ (h.pr_fst k hz)).2
    · by_cases hz : (S.pr.getD k (0, 0)).2 = 0
      · rw [hz]; exact Nat.zero_le _
      · exact (h.lits k _ (h.pr_snd k hz)).2
  · intro v
    by_cases hz : S.val.getD v 0 = 0
    · rw [h.rsn_zero v hz]; exact Nat.zero_le _
    · obtain ⟨l, hl, rfl⟩ := hc.val_zero v hz
      obtain ⟨i, hi, rfl⟩ := mem_getD 0 hl
      rcases h.why i hi with ⟨_, h2⟩ | ⟨_, k, hk, h2, _⟩
      · rw [h2]; exact Nat.zero_le _
      · rw [h2]; exact hk
  · intro m hm
    obtain ⟨j, hj, rfl⟩ := mem_getD 0 hm
    exact Nat.le_of_lt (hc.mks_lt j hj)
  · have := h.wt_len; omega
  · have := h.hl_len; omega

theorem take_snoc_le {α : Type} (L : List α) (x : α) (i : Nat) (h : i ≤ L.length) : (L ++ [x]).take i = L.take i := by
  rw [List.take_append, Nat.sub_eq_zero_of_le h]; simp

/-- a unit clause's literal is set -/
theorem Inv.setU {S : ES} {x : Int} (h : S.Inv x) (hc0 : S.clash = 0) {l : Int} {k : Nat} (hk : k < S.cs.length) (hl : l ∈ S.cs.getD k []) (hz : S.of l = 0) (hr : ∀ m, m ∈ S.cs.getD k [] → m ≠ l → S.of m = -1) :
    (S.set l (k + 1)).Inv x := by
  have hc := h.core
  obtain ⟨h0, hn⟩ := h.lits k l hl
  have hz' := of_zero.1 hz
  have hv3 : l.natAbs < S.rsn.length := by rw [h.rsn_len]; omega
  have hv1 : l.natAbs < S.val.length := by rw [hc.val_len]; omega
  have hnew : ∀ m, m ∈ S.tr → m.natAbs ≠ l.natAbs := by
    intro m hm he
    have := hc.val_eq m hm
    rw [he, hz'] at this
    rcases sg_cases (hc.tr_rng m hm).1 with ⟨_, s, _⟩ | ⟨_, s, _⟩ <;> omega
  refine ⟨hc.set h0 hn hz', h.n_le, by simpa [set] using h.rsn_len, h.lit_rng, h.cl_len, h.cs_len, h.lits_eq, h.lits_le, h.pr_len, h.stp_len, h.stp_le, h.pr_fst, h.pr_snd, h.wt_rng, h.hl_rng, h.fr_rng, h.clash_le, ?_, h.wt_len, h.hl_len, h.pw, ?_, ?_, fun hne => absurd hc0 hne⟩
  · have := h.head_le
    simp [set]
    omega
  · intro i hi
    simp only [set, List.length_append, List.length_cons, List.length_nil] at hi
    by_cases hi2 : i < S.tr.length
    · have e : (S.set l (k + 1)).tr.getD i 0 = S.tr.getD i 0 := by simp only [set]; rw [getD_snoc, if_pos hi2]
      have e2 : (S.set l (k + 1)).rsn.getD (S.tr.getD i 0).natAbs 0 = S.rsn.getD (S.tr.getD i 0).natAbs 0 := by
        simp only [set]; rw [getD_set, if_neg (fun hc => hnew _ (getD_mem' 0 hi2) hc.1.symm)]
      have e3 : (S.set l (k + 1)).tr.take i = S.tr.take i := take_snoc_le _ _ _ (Nat.le_of_lt hi2)
      unfold Why
      rw [e, e2, e3]
      exact h.why i hi2
    · have hi3 : i = S.tr.length := by omega
      subst hi3
      have e : (S.set l (k + 1)).tr.getD S.tr.length 0 = l := by simp only [set]; rw [getD_snoc, if_neg (Nat.lt_irrefl _), if_pos rfl]
      have e2 : (S.set l (k + 1)).rsn.getD l.natAbs 0 = k + 1 := by simp only [set]; rw [getD_set, if_pos ⟨rfl, hv3⟩]
      have e3 : (S.set l (k + 1)).tr.take S.tr.length = S.tr := by show (S.tr ++ [l]).take S.tr.length = S.tr; rw [take_snoc_le _ _ _ (Nat.le_refl _), List.take_length]
      right
      rw [e, e2, e3]
      refine ⟨fun hm => ?_, k, hk, rfl, hl, fun m hm hne => (of_minus hc (h.lits k m hm).1).1 (hr m hm hne)⟩
      obtain ⟨j, hj, he⟩ := mem_getD 0 hm
      have := hc.mks_lt j hj
      have he : S.mks.getD j 0 = S.tr.length := he
      omega
  · intro v hv
    simp only [set] at hv ⊢
    rw [getD_set] at hv ⊢
    split at hv
    · rcases sg_cases h0 with ⟨_, s, _⟩ | ⟨_, s, _⟩ <;> omega
    · rename_i hcn
      rw [if_neg (fun hc2 => hcn ⟨hc2.1, hv1⟩)]
      exact h.rsn_zero v hv

theorem Inv.layH {S : ES} {x : Int} (h : S.Inv x) {v k : Nat} (hv : v ≤ S.n) (hk : k < S.cs.length) : (S.layH v k).Inv x := by
  refine ⟨h.core, h.n_le, h.rsn_len, h.lit_rng, h.cl_len, h.cs_len, h.lits_eq, h.lits_le, h.pr_len, h.stp_len, h.stp_le, h.pr_fst, h.pr_snd, h.wt_rng, ?_, h.fr_rng, h.clash_le, h.head_le, h.wt_len, ?_, h.pw, h.why, h.rsn_zero, h.clash_false⟩
  · intro i m hm
    rcases lay_mem.1 hm with hm | ⟨rfl, _⟩
    · exact h.hl_rng i m hm
    · exact hk
  · show (lay S.hl v k).length ≤ S.n + 1
    have := h.hl_len
    rcases (lay_len S.hl v k).2.2 with h2 | h2 <;> omega

/-- the pair of a clause is laid anew -/
theorem Inv.repair {S : ES} {x : Int} (h : S.Inv x) {k : Nat} (hk : k < S.cs.length) {W : List (List Nat)} {p : Int × Int} (hp : p = S.best (S.cs.getD k [])) (hW : Wtd S.wt W k (S.pr.getD k (0, 0)) p) :
    ({ S with wt := W, pr := S.pr.set k p } : ES).Inv x := by
  have hch := best_chosen S (S.cs.getD k []) (fun l hl => (h.lits k l hl).1)
  rw [← hp] at hch
  have hkp : k < S.pr.length := by rw [h.pr_len]; exact hk
  have hin1 : p.1 ≠ 0 → p.1 ∈ S.cs.getD k [] := by
    intro h1
    rcases hch with ⟨_, he⟩ | ⟨h2, _⟩
    · exact absurd (by rw [he]) h1
    · exact h2
  have hin2 : p.2 ≠ 0 → p.2 ∈ S.cs.getD k [] := by
    intro h1
    rcases hch with ⟨_, he⟩ | ⟨_, _, _, ⟨he, _⟩ | ⟨_, h2, _⟩⟩
    · exact absurd (by rw [he]) h1
    · exact absurd he h1
    · exact h2
  have hpr : ∀ m, (S.pr.set k p).getD m (0, 0) = if k = m then p else S.pr.getD m (0, 0) := by
    intro m
    rw [getD_set]
    by_cases he : k = m
    · simp [he]; intro h2; omega
    · simp [he]
  refine ⟨h.core, h.n_le, h.rsn_len, h.lit_rng, h.cl_len, h.cs_len, h.lits_eq, h.lits_le, by simpa using h.pr_len, h.stp_len, h.stp_le, ?_, ?_, ?_, h.hl_rng, h.fr_rng, h.clash_le, h.head_le, ?_, h.hl_len, ?_, h.why, h.rsn_zero, h.clash_false⟩
  · intro m hm
    simp only [hpr] at hm ⊢
    split at hm
    · rename_i he; subst he; rw [if_pos rfl]; exact hin1 hm
    · rename_i he; rw [if_neg he]; exact h.pr_fst m hm
  · intro m hm
    simp only [hpr] at hm ⊢
    split at hm
    · rename_i he; subst he; rw [if_pos rfl]; exact hin2 hm
    · rename_i he; rw [if_neg he]; exact h.pr_snd m hm
  · intro i m hm
    rcases hW.sup i m hm with hm | rfl
    · exact h.wt_rng i m hm
    · exact hk
  · refine hW.len _ h.wt_len ?_
    rintro l (rfl | rfl)
    · by_cases h1 : p.1 = 0
      · rw [h1]; exact pl_le (Nat.zero_le _)
      · exact pl_le (h.lits k _ (hin1 h1)).2
    · by_cases h1 : p.2 = 0
      · rw [h1]; exact pl_le (Nat.zero_le _)
      · exact pl_le (h.lits k _ (hin2 h1)).2
  · intro m l h0 hx hm
    simp only [hpr] at hm
    split at hm
    · rename_i he
      subst he
      by_cases hq : l = (S.pr.getD k (0, 0)).1 ∨ l = (S.pr.getD k (0, 0)).2
      · exact hW.sub _ _ (h.pw k l h0 hx hq)
      · exact hW.new l h0 hm (fun h => hq (.inl h)) (fun h => hq (.inr h))
    · exact hW.sub _ _ (h.pw m l h0 hx hm)
end ES
end Go.Proofs.Ytaileihnkmjfiaa
