/-
  Add, Decide, Back and New keep the invariant, the watches and the bounds. Conditions: those each theorem names.
-/
import Derived.Test.YtaileihnkmjfiaaT11
import Derived.Test.YtaileihnkmjfiaaT12
import Derived.Test.YtaileihnkmjfiaaP6
namespace Go.Proofs.Ytaileihnkmjfiaa
namespace ES

theorem getD_beyond {α : Type} (L : List α) (z : α) {j : Nat} (h : L.length ≤ j) : L.getD j z = z := by
  simp [List.getD, List.getElem?_eq_none h]

theorem Good.new {n : Nat} (hn : n ≤ 1048576) : (ES.new n).Good := by
  have hc := Core.new n
  refine ⟨⟨hc, hn, by simp [ES.new], ?_, ?_, by simp [ES.new], rfl, by simp [ES.new], rfl, rfl, ?_, ?_, ?_, ?_, ?_, ?_, by simp [ES.new], by simp [ES.new], by simp [ES.new], by simp [ES.new], ?_, ?_, ?_, ?_⟩, ?_⟩ <;>
    simp [ES.new]
  intro v _
  simp only [List.getElem?_replicate]
  split <;> rfl
theorem new_sizes (n : Nat) : (ES.new n).wsz = 0 ∧ (ES.new n).mass = 0 ∧ (ES.new n).far (ES.new n).head = 0 := ⟨rfl, rfl, rfl⟩

/-- a clause more -/
theorem Good.addOk {S : ES} (hg : S.Good) {c : List Int} (hc : ∀ l, l ∈ c → l ≠ 0 ∧ l.natAbs ≤ S.n) (h1 : c.length ≤ 65536) (h2 : S.cs.length < 1048576) (h3 : S.lits + c.length ≤ 4194304) : (S.addOk c).Good := by
  have h := hg.inv
  have hcs : ∀ k, k < S.cs.length → (S.cs ++ [c]).getD k [] = S.cs.getD k [] := fun k hk => by rw [getD_snoc, if_pos hk]
  have hpr : ∀ k, (S.pr ++ [(0, 0)]).getD k (0, 0) = S.pr.getD k (0, 0) := by
    intro k
    rw [getD_snoc]
    by_cases hk : k < S.pr.length
    · rw [if_pos hk]
    · rw [if_neg hk, getD_beyond _ _ (by omega)]
      split <;> rfl
  have hpz : ∀ k, ¬ k < S.cs.length → S.pr.getD k (0, 0) = (0, 0) := fun k hk => getD_beyond _ _ (by rw [h.pr_len]; omega)
  have hlen : (S.cs ++ [c]).length = S.cs.length + 1 := by simp
  refine ⟨⟨h.core, h.n_le, h.rsn_len, ?_, ?_, ?_, ?_, ?_, ?_, ?_, ?_, ?_, ?_, ?_, ?_, ?_, ?_, h.head_le, h.wt_len, h.hl_len, ?_, ?_, h.rsn_zero, ?_⟩, ?_⟩
  · intro d hd
    rcases List.mem_append.1 hd with hd | hd
    · exact h.lit_rng d hd
    · rw [List.mem_singleton.1 hd]; exact hc
  · intro d hd
    rcases List.mem_append.1 hd with hd | hd
    · exact h.cl_len d hd
    · rw [List.mem_singleton.1 hd]; exact h1
  · show (S.cs ++ [c]).length ≤ _
    omega
  · show S.lits + c.length = _
    rw [h.lits_eq]
    simp [ES.addOk]
  · exact h3
  · show (S.pr ++ [(0, 0)]).length = (S.cs ++ [c]).length
    simp [h.pr_len]
  · show (S.stp ++ [0]).length = (S.cs ++ [c]).length
    simp [h.stp_len]
  · intro k
    show (S.stp ++ [0]).getD k 0 ≤ S.turn
    rw [getD_snoc]
    split
    · exact h.stp_le k
    · split <;> exact Nat.zero_le _
  · intro k hk
    show ((S.pr ++ [(0, 0)]).getD k (0, 0)).1 ∈ (S.cs ++ [c]).getD k []
    have hk : ((S.pr ++ [(0, 0)]).getD k (0, 0)).1 ≠ 0 := hk
    rw [hpr] at hk ⊢
    by_cases hl : k < S.cs.length
    · rw [hcs k hl]; exact h.pr_fst k hk
    · rw [hpz k hl] at hk; exact absurd rfl hk
  · intro k hk
    show ((S.pr ++ [(0, 0)]).getD k (0, 0)).2 ∈ (S.cs ++ [c]).getD k []
    have hk : ((S.pr ++ [(0, 0)]).getD k (0, 0)).2 ≠ 0 := hk
    rw [hpr] at hk ⊢
    by_cases hl : k < S.cs.length
    · rw [hcs k hl]; exact h.pr_snd k hk
    · rw [hpz k hl] at hk; exact absurd rfl hk
  · intro i k hk
    show k < (S.cs ++ [c]).length
    have := h.wt_rng i k hk
    omega
  · intro i k hk
    show k < (S.cs ++ [c]).length
    have := h.hl_rng i k hk
    omega
  · intro k hk
    show k < (S.cs ++ [c]).length
    rcases List.mem_append.1 hk with hk | hk
    · have := h.fr_rng k hk; omega
    · rw [List.mem_singleton.1 hk]; omega
  · show S.clash ≤ (S.cs ++ [c]).length
    have := h.clash_le
    omega
  · intro k l h0 hx hl
    have hl : l = ((S.pr ++ [(0, 0)]).getD k (0, 0)).1 ∨ l = ((S.pr ++ [(0, 0)]).getD k (0, 0)).2 := hl
    rw [hpr] at hl
    exact h.pw k l h0 hx hl
  · intro i hi
    rcases h.why i hi with a | ⟨a, k, b1, b2, b3, b4⟩
    · exact .inl a
    · refine .inr ⟨a, k, ?_, b2, ?_, ?_⟩
      · show k < (S.cs ++ [c]).length
        omega
      · show S.tr.getD i 0 ∈ (S.cs ++ [c]).getD k []
        rw [hcs k b1]; exact b3
      · intro l hl
        have hl : l ∈ (S.cs ++ [c]).getD k [] := hl
        rw [hcs k b1] at hl
        exact b4 l hl
  · intro hne l hl
    have hne : S.clash ≠ 0 := hne
    have := h.clash_le
    have hl : l ∈ (S.cs ++ [c]).getD (S.clash - 1) [] := hl
    rw [hcs _ (by omega)] at hl
    exact h.clash_false hne l hl
  · intro k hk hkf hkc
    have hk : k < (S.cs ++ [c]).length := hk
    have hkf : k ∉ S.fr ++ [S.cs.length] := hkf
    rw [List.mem_append, List.mem_singleton, not_or] at hkf
    have hk2 : k < S.cs.length := by omega
    have hf := hg.fine k hk2 hkf.1 hkc
    have e1 : (S.addOk c).pr.getD k (0, 0) = S.pr.getD k (0, 0) := hpr k
    have e2 : (S.addOk c).cs.getD k [] = S.cs.getD k [] := hcs k hk2
    unfold Fine
    rw [e1, e2]
    exact hf

theorem addOk_sizes {S : ES} (hg : S.Good) (c : List Int) : (S.addOk c).wsz ≤ S.wsz + 2 * (1 + c.length) ∧ (S.addOk c).mass = S.mass + 1 ∧ (S.addOk c).far S.head ≤ S.far S.head + c.length := by
  have h := hg.inv
  have hcs : ∀ k, k < S.cs.length → (S.cs ++ [c]).getD k [] = S.cs.getD k [] := fun k hk => by rw [getD_snoc, if_pos hk]
  have hcn : (S.cs ++ [c]).getD S.cs.length [] = c := by rw [getD_snoc, if_neg (Nat.lt_irrefl _), if_pos rfl]
  have hprl : ∀ k, k < S.cs.length → (S.pr ++ [(0, 0)]).getD k (0, 0) = S.pr.getD k (0, 0) := fun k hk => by rw [getD_snoc, if_pos (by rw [h.pr_len]; exact hk)]
  have hlen : (S.addOk c).cs.length = S.cs.length + 1 := by simp [ES.addOk]
  refine ⟨?_, ?_, ?_⟩
  · unfold ES.wsz
    rw [hlen]
    have h1 : sumTo (S.addOk c).stale (S.cs.length + 1) = sumTo (S.addOk c).stale S.cs.length + (S.addOk c).stale S.cs.length := rfl
    have h2 : sumTo (S.addOk c).stale S.cs.length = sumTo S.stale S.cs.length := sumTo_congr fun k hk => by
      show (if (S.pr ++ [(0, 0)]).getD k (0, 0) = S.best ((S.cs ++ [c]).getD k []) then 0 else 1) + S.opens ((S.cs ++ [c]).getD k []) = _
      rw [hprl k hk, hcs k hk]
      rfl
    have h3 : (S.addOk c).stale S.cs.length ≤ 1 + c.length := by
      show (if (S.pr ++ [(0, 0)]).getD S.cs.length (0, 0) = S.best ((S.cs ++ [c]).getD S.cs.length []) then 0 else 1) + S.opens ((S.cs ++ [c]).getD S.cs.length []) ≤ _
      rw [hcn]
      have : S.opens c ≤ c.length := List.countP_le_length
      split <;> omega
    show ents S.wt + _ ≤ _
    omega
  · show (S.fr ++ [S.cs.length]).length + ents S.hl = _
    unfold ES.mass
    simp
    omega
  · unfold ES.far
    rw [hlen]
    show sumTo (fun k => ((S.cs ++ [c]).getD k []).countP fun a => decide (-a ∉ S.tr.take S.head)) S.cs.length + ((S.cs ++ [c]).getD S.cs.length []).countP _ ≤ _
    rw [hcn]
    have h2 : sumTo (fun k => ((S.cs ++ [c]).getD k []).countP fun a => decide (-a ∉ S.tr.take S.head)) S.cs.length = sumTo (fun k => (S.cs.getD k []).countP fun a => decide (-a ∉ S.tr.take S.head)) S.cs.length :=
      sumTo_congr fun k hk => by rw [hcs k hk]
    rw [h2]
    exact Nat.add_le_add_left List.countP_le_length _

/-- a decision -/
def deep (S : ES) (l : Int) : ES := ({ S with mks := S.mks ++ [S.tr.length] } : ES).set l 0
theorem Good.deep {S : ES} (hg : S.Good) {l : Int} (hl : l ≠ 0 ∧ l.natAbs ≤ S.n) (hc : S.clash = 0) (hz : S.of l = 0) : (S.deep l).Good := by
  have h := hg.inv
  have hcore := h.core
  have hz' := of_zero.1 hz
  have hv3 : l.natAbs < S.rsn.length := by rw [h.rsn_len]; omega
  have hv1 : l.natAbs < S.val.length := by rw [hcore.val_len]; omega
  have hnew : ∀ m, m ∈ S.tr → m.natAbs ≠ l.natAbs := by
    intro m hm he
    have := hcore.val_eq m hm
    rw [he, hz'] at this
    rcases sg_cases (hcore.tr_rng m hm).1 with ⟨_, s, _⟩ | ⟨_, s, _⟩ <;> omega
  have hcore2 : (S.deep l).core := by
    have := hcore.decide hl.1 hl.2 hz'
    unfold core ES.deep ES.set
    simpa using this
  refine ⟨⟨hcore2, h.n_le, by simpa [ES.deep, ES.set] using h.rsn_len, h.lit_rng, h.cl_len, h.cs_len, h.lits_eq, h.lits_le, h.pr_len, h.stp_len, h.stp_le, h.pr_fst, h.pr_snd, h.wt_rng, h.hl_rng, h.fr_rng, h.clash_le, ?_, h.wt_len, h.hl_len, h.pw, ?_, ?_, fun hne => absurd hc hne⟩, ?_⟩
  · have := h.head_le
    show S.head ≤ (S.tr ++ [l]).length
    rw [List.length_append]
    omega
  · intro i hi
    have hi : i < (S.tr ++ [l]).length := hi
    simp only [List.length_append, List.length_cons, List.length_nil] at hi
    show (i ∈ S.mks ++ [S.tr.length] ∧ (S.rsn.set l.natAbs 0).getD ((S.tr ++ [l]).getD i 0).natAbs 0 = 0) ∨
      (i ∉ S.mks ++ [S.tr.length] ∧ ∃ k, k < S.cs.length ∧ (S.rsn.set l.natAbs 0).getD ((S.tr ++ [l]).getD i 0).natAbs 0 = k + 1 ∧ (S.tr ++ [l]).getD i 0 ∈ S.cs.getD k [] ∧ ∀ l', l' ∈ S.cs.getD k [] → l' ≠ (S.tr ++ [l]).getD i 0 → -l' ∈ (S.tr ++ [l]).take i)
    by_cases hi2 : i < S.tr.length
    · have e : (S.tr ++ [l]).getD i 0 = S.tr.getD i 0 := by rw [getD_snoc, if_pos hi2]
      rw [e, gset_ne _ _ _ (fun he => hnew _ (getD_mem' 0 hi2) he.symm), take_snoc_le _ _ _ (Nat.le_of_lt hi2), List.mem_append, List.mem_singleton]
      have hne : i ≠ S.tr.length := by omega
      rcases h.why i hi2 with ⟨a, b⟩ | ⟨a, b⟩
      · exact .inl ⟨.inl a, b⟩
      · exact .inr ⟨not_or.2 ⟨a, hne⟩, b⟩
    · have hi3 : i = S.tr.length := by omega
      subst hi3
      left
      rw [show (S.tr ++ [l]).getD S.tr.length 0 = l by rw [getD_snoc, if_neg (Nat.lt_irrefl _), if_pos rfl], gset_self _ _ _ hv3]
      exact ⟨by simp, rfl⟩
  · intro v hv
    have hv : (S.val.set l.natAbs (sg l)).getD v 0 = 0 := hv
    show (S.rsn.set l.natAbs 0).getD v 0 = 0
    by_cases he : l.natAbs = v
    · subst he
      rw [gset_self _ _ _ hv3]
    · rw [gset_ne _ _ _ he] at hv ⊢
      exact h.rsn_zero v hv
  · intro k hk hkf hkc
    refine (hg.fine k hk hkf hkc).mono h.head_le rfl rfl ⟨[l], rfl⟩ ?_ (fun _ _ hh => hh)
    intro m hm
    exact lv_set_other (S := { S with mks := S.mks ++ [S.tr.length] }) 0 (hnew m hm)

theorem deep_sizes {S : ES} (hg : S.Good) {l : Int} (hl : l ≠ 0 ∧ l.natAbs ≤ S.n) (hz : S.of l = 0) : (S.deep l).wsz ≤ S.wsz ∧ (S.deep l).mass = S.mass ∧ (S.deep l).far S.head = S.far S.head := by
  refine ⟨?_, rfl, ?_⟩
  · have := wsz_set (S := { S with mks := S.mks ++ [S.tr.length] }) (l := l) (r := 0) hl.1 (by show l.natAbs < S.val.length; rw [hg.inv.core.val_len]; omega) hz
    exact this
  · unfold ES.far
    show sumTo (fun k => (S.cs.getD k []).countP fun a => decide (-a ∉ (S.tr ++ [l]).take S.head)) S.cs.length = _
    rw [take_head hg.inv.head_le]

/-- what undoing does -/
structure Undone (S S' : ES) (ls : List Int) : Prop where
  n : S'.n = S.n
  cs : S'.cs = S.cs
  lits : S'.lits = S.lits
  pr : S'.pr = S.pr
  wt : S'.wt = S.wt
  clash : S'.clash = S.clash
  stp : S'.stp = S.stp
  turn : S'.turn = S.turn
  val_len : S'.val.length = S.val.length
  lev_len : S'.lev.length = S.lev.length
  rsn_len : S'.rsn.length = S.rsn.length
  hl_len : S'.hl.length = S.hl.length
  val1 : ∀ v, (∃ l, l ∈ ls ∧ l.natAbs = v) → S'.val.getD v 0 = 0 ∧ S'.lev.getD v 0 = 0 ∧ S'.rsn.getD v 0 = 0
  val2 : ∀ v, (¬ ∃ l, l ∈ ls ∧ l.natAbs = v) → S'.val.getD v 0 = S.val.getD v 0 ∧ S'.lev.getD v 0 = S.lev.getD v 0 ∧ S'.rsn.getD v 0 = S.rsn.getD v 0 ∧ S'.hl.getD v [] = S.hl.getD v []
  hl_sub : ∀ v k, k ∈ S'.hl.getD v [] → k ∈ S.hl.getD v []
  fr : ∀ k, k ∈ S'.fr ↔ k ∈ S.fr ∨ ∃ l, l ∈ ls ∧ k ∈ S.hl.getD l.natAbs []
  mass : S'.mass = S.mass
  frl : S'.fr.length ≤ S.mass

theorem gset_or {α : Type} (L : List α) (i j : Nat) (z : α) : (L.set i z).getD j z = if i = j then z else L.getD j z := by
  by_cases h : i = j
  · subst h
    rw [if_pos rfl]
    by_cases h2 : i < L.length
    · rw [gset_self _ _ _ h2]
    · rw [getD_beyond _ _ (by rw [List.length_set]; omega)]
  · rw [if_neg h, gset_ne _ _ _ h]

theorem undone (ls : List Int) : ∀ S : ES, Undone S (S.undo ls) ls := by
  induction ls with
  | nil =>
    intro S
    exact ⟨rfl, rfl, rfl, rfl, rfl, rfl, rfl, rfl, rfl, rfl, rfl, rfl, fun v h => by simp at h, fun v _ => ⟨rfl, rfl, rfl, rfl⟩, fun _ _ h => h, fun k => by simp [undo], rfl, by show S.fr.length ≤ _; unfold ES.mass; omega⟩
  | cons l ls ih =>
    intro S
    have hone : Undone S (S.undoOne l) [l] := by
      have hval : (S.undoOne l).val = S.val.set l.natAbs 0 ∧ (S.undoOne l).lev = S.lev.set l.natAbs 0 ∧ (S.undoOne l).rsn = S.rsn.set l.natAbs 0 ∧ (S.undoOne l).hl = S.hl.set l.natAbs [] ∧ (S.undoOne l).fr = S.fr ++ S.hl.getD l.natAbs [] := by
        unfold undoOne undoH
        split
        · exact ⟨rfl, rfl, rfl, rfl, rfl⟩
        · rename_i hlt
          have hlt : ¬ l.natAbs < S.hl.length := hlt
          refine ⟨rfl, rfl, rfl, ?_, ?_⟩
          · show S.hl = _
            rw [List.set_eq_of_length_le (by omega)]
          · show S.fr = _
            rw [getD_beyond _ _ (by omega), List.append_nil]
      have hrest : (S.undoOne l).n = S.n ∧ (S.undoOne l).cs = S.cs ∧ (S.undoOne l).lits = S.lits ∧ (S.undoOne l).pr = S.pr ∧ (S.undoOne l).wt = S.wt ∧ (S.undoOne l).clash = S.clash ∧ (S.undoOne l).stp = S.stp ∧ (S.undoOne l).turn = S.turn := by
        unfold undoOne undoH
        split <;> exact ⟨rfl, rfl, rfl, rfl, rfl, rfl, rfl, rfl⟩
      obtain ⟨a1, a2, a3, a4, a5⟩ := hval
      obtain ⟨b1, b2, b3, b4, b5, b6, b7, b8⟩ := hrest
      have hm : (S.undoOne l).mass = S.mass := by
        unfold ES.mass
        rw [a4, a5, List.length_append]
        by_cases hlt : l.natAbs < S.hl.length
        · have := ents_set S.hl l.natAbs [] hlt
          simp only [List.length_nil] at this
          omega
        · rw [List.set_eq_of_length_le (by omega), getD_beyond _ _ (by omega)]
          simp
      refine ⟨b1, b2, b3, b4, b5, b6, b7, b8, by rw [a1, List.length_set], by rw [a2, List.length_set], by rw [a3, List.length_set], by rw [a4, List.length_set], ?_, ?_, ?_, ?_, hm, ?_⟩
      · rintro v ⟨m, hm, rfl⟩
        rw [List.mem_singleton.1 hm, a1, a2, a3, gset_or, gset_or, gset_or]
        simp
      · intro v hv
        have hne : l.natAbs ≠ v := fun he => hv ⟨l, by simp, he⟩
        rw [a1, a2, a3, a4, gset_ne _ _ _ hne, gset_ne _ _ _ hne, gset_ne _ _ _ hne, gset_ne _ _ _ hne]
        exact ⟨rfl, rfl, rfl, rfl⟩
      · intro v k hk
        rw [a4, gset_or] at hk
        split at hk
        · cases hk
        · exact hk
      · intro k
        rw [a5, List.mem_append]
        simp
      · rw [← hm]
        unfold ES.mass
        omega
    have h2 := ih (S.undoOne l)
    have e : S.undo (l :: ls) = (S.undoOne l).undo ls := rfl
    rw [e]
    refine ⟨h2.n.trans hone.n, h2.cs.trans hone.cs, h2.lits.trans hone.lits, h2.pr.trans hone.pr, h2.wt.trans hone.wt, h2.clash.trans hone.clash, h2.stp.trans hone.stp, h2.turn.trans hone.turn, h2.val_len.trans hone.val_len, h2.lev_len.trans hone.lev_len, h2.rsn_len.trans hone.rsn_len, h2.hl_len.trans hone.hl_len, ?_, ?_, ?_, ?_, h2.mass.trans hone.mass, by rw [← hone.mass]; exact h2.frl⟩
    · intro v hv
      by_cases h3 : ∃ m, m ∈ ls ∧ m.natAbs = v
      · exact h2.val1 v h3
      · obtain ⟨a1, a2, a3, _⟩ := h2.val2 v h3
        obtain ⟨m, hm, he⟩ := hv
        rcases List.mem_cons.1 hm with rfl | hm
        · obtain ⟨b1, b2, b3⟩ := hone.val1 v ⟨m, by simp, he⟩
          exact ⟨a1.trans b1, a2.trans b2, a3.trans b3⟩
        · exact absurd ⟨m, hm, he⟩ h3
    · intro v hv
      obtain ⟨a1, a2, a3, a4⟩ := h2.val2 v (fun ⟨m, hm, he⟩ => hv ⟨m, by simp [hm], he⟩)
      obtain ⟨b1, b2, b3, b4⟩ := hone.val2 v (fun ⟨m, hm, he⟩ => hv ⟨m, by rw [List.mem_singleton.1 hm]; simp, he⟩)
      exact ⟨a1.trans b1, a2.trans b2, a3.trans b3, a4.trans b4⟩
    · intro v k hk
      exact hone.hl_sub v k (h2.hl_sub v k hk)
    · intro k
      rw [h2.fr, hone.fr]
      constructor
      · rintro ((h3 | ⟨m, hm, h3⟩) | ⟨m, hm, h3⟩)
        · exact .inl h3
        · exact .inr ⟨m, by rw [List.mem_singleton.1 hm]; simp, h3⟩
        · exact .inr ⟨m, by simp [hm], hone.hl_sub _ _ h3⟩
      · rintro (h3 | ⟨m, hm, h3⟩)
        · exact .inl (.inl h3)
        · rcases List.mem_cons.1 hm with rfl | hm
          · exact .inl (.inr ⟨m, by simp, h3⟩)
          · by_cases he : m.natAbs = l.natAbs
            · exact .inl (.inr ⟨l, by simp, by rw [← he]; exact h3⟩)
            · refine .inr ⟨m, hm, ?_⟩
              rw [(hone.val2 m.natAbs (fun ⟨x, hx, hxe⟩ => he (by rw [List.mem_singleton.1 hx] at hxe; exact hxe.symm))).2.2.2]
              exact h3

theorem lev_side {S : ES} (h : S.core) {level : Nat} (hl : level < S.mks.length) {l : Int} :
    (l ∈ S.tr.take (S.mks.getD level 0) → S.lv l ≤ level) ∧ (l ∈ S.tr.drop (S.mks.getD level 0) → level < S.lv l) := by
  constructor
  · intro hm
    obtain ⟨i, hi, he⟩ := mem_getD (0 : Int) hm
    rw [List.length_take] at hi
    rw [getD_take, if_pos (by omega)] at he
    subst he
    obtain ⟨a, b, c⟩ := h.lev_tr i (by omega)
    unfold lv
    by_cases hle : S.lev.getD (S.tr.getD i 0).natAbs 0 ≤ level
    · exact hle
    · have := b level (by omega)
      omega
  · intro hm
    obtain ⟨i, hi, he⟩ := mem_getD (0 : Int) hm
    rw [List.length_drop] at hi
    have e : (S.tr.drop (S.mks.getD level 0)).getD i 0 = S.tr.getD (S.mks.getD level 0 + i) 0 := by
      simp [List.getD]
    rw [e] at he
    subst he
    obtain ⟨a, b, c⟩ := h.lev_tr (S.mks.getD level 0 + i) (by omega)
    unfold lv
    by_cases hle : S.lev.getD (S.tr.getD (S.mks.getD level 0 + i) 0).natAbs 0 ≤ level
    · have := c level hle hl
      omega
    · omega

/-- Back to a level below -/
def rear (S : ES) (level : Nat) : ES := (S.backTo (S.mks.getD level 0) level).backC

structure Rear (S S' : ES) (level : Nat) : Prop where
  n : S'.n = S.n
  cs : S'.cs = S.cs
  lits : S'.lits = S.lits
  pr : S'.pr = S.pr
  wt : S'.wt = S.wt
  clash : S'.clash = 0
  turn : S'.turn = S.turn
  tr : S'.tr = S.tr.take (S.mks.getD level 0)
  mks : S'.mks = S.mks.take level
  head : S'.head = min S.head (S.mks.getD level 0)
  lv : ∀ l, l ∈ S'.tr → S'.lv l = S.lv l
  mass : S'.mass ≤ S.mass + 1

theorem Good.rear {S : ES} (hg : S.Good) {level : Nat} (hl : level < S.mks.length) : (S.rear level).Good ∧ Rear S (S.rear level) level := by
  have h := hg.inv
  have hcore := h.core
  have u := undone (S.tr.drop (S.mks.getD level 0)) S
  have hm := hcore.mks_lt level hl
  have hkeep : ∀ l, l ∈ S.tr.take (S.mks.getD level 0) → ¬ ∃ m, m ∈ S.tr.drop (S.mks.getD level 0) ∧ m.natAbs = l.natAbs := by
    rintro l hl ⟨m, hm2, he⟩
    have hnd := hcore.tr_nd
    rw [← List.take_append_drop (S.mks.getD level 0) S.tr, List.map_append, List.nodup_append] at hnd
    exact hnd.2.2 _ (List.mem_map_of_mem hl) _ (List.mem_map_of_mem hm2) he.symm
  have hcb := hcore.back hl u.val_len u.lev_len (fun v => by
    split
    · rename_i hv; exact (u.val1 v hv).1
    · rename_i hv; exact (u.val2 v hv).1) (fun v => by
    split
    · rename_i hv; exact (u.val1 v hv).2.1
    · rename_i hv; exact (u.val2 v hv).2.1)
  -- the fields of the result
  have hf : (S.rear level).n = S.n ∧ (S.rear level).cs = S.cs ∧ (S.rear level).lits = S.lits ∧ (S.rear level).pr = S.pr ∧ (S.rear level).wt = S.wt ∧ (S.rear level).clash = 0 ∧ (S.rear level).stp = S.stp ∧ (S.rear level).turn = S.turn ∧
      (S.rear level).val = (S.undo (S.tr.drop (S.mks.getD level 0))).val ∧ (S.rear level).lev = (S.undo (S.tr.drop (S.mks.getD level 0))).lev ∧ (S.rear level).rsn = (S.undo (S.tr.drop (S.mks.getD level 0))).rsn ∧ (S.rear level).hl = (S.undo (S.tr.drop (S.mks.getD level 0))).hl ∧
      (S.rear level).tr = S.tr.take (S.mks.getD level 0) ∧ (S.rear level).mks = S.mks.take level ∧ (S.rear level).head = min S.head (S.mks.getD level 0) ∧
      (∀ k, k ∈ (S.rear level).fr ↔ k ∈ (S.undo (S.tr.drop (S.mks.getD level 0))).fr ∨ S.clash = k + 1) ∧ (S.rear level).fr.length ≤ (S.undo (S.tr.drop (S.mks.getD level 0))).fr.length + 1 := by
    unfold ES.rear backC backTo
    by_cases hc : S.clash ≠ 0
    · rw [if_pos (by show (S.undo _).clash ≠ 0; rw [u.clash]; exact hc)]
      refine ⟨u.n, u.cs, u.lits, u.pr, u.wt, rfl, u.stp, u.turn, rfl, rfl, rfl, rfl, rfl, rfl, rfl, ?_, ?_⟩
      · intro k
        show k ∈ (S.undo _).fr ++ [(S.undo _).clash - 1] ↔ _
        rw [u.clash, List.mem_append, List.mem_singleton]
        constructor
        · rintro (h1 | h1)
          · exact .inl h1
          · exact .inr (by omega)
        · rintro (h1 | h1)
          · exact .inl h1
          · exact .inr (by omega)
      · show ((S.undo _).fr ++ [(S.undo _).clash - 1]).length ≤ _
        simp
    · rw [if_neg (by show ¬ (S.undo _).clash ≠ 0; rw [u.clash]; exact hc)]
      refine ⟨u.n, u.cs, u.lits, u.pr, u.wt, by show (S.undo _).clash = 0; rw [u.clash]; omega, u.stp, u.turn, rfl, rfl, rfl, rfl, rfl, rfl, rfl, ?_, Nat.le_succ _⟩
      intro k
      show k ∈ (S.undo _).fr ↔ _
      constructor
      · exact .inl
      · rintro (h1 | h1)
        · exact h1
        · omega
  obtain ⟨f1, f2, f3, f4, f5, f6, f7, f8, f9, f10, f11, f12, f13, f14, f15, f16, f17⟩ := hf
  have hlv : ∀ l, l ∈ S.tr.take (S.mks.getD level 0) → (S.rear level).lv l = S.lv l := by
    intro l hl2
    unfold ES.lv
    rw [f10, (u.val2 _ (hkeep l hl2)).2.1]
  have hhl : ∀ l, l ∈ S.tr.take (S.mks.getD level 0) → (S.rear level).hl.getD l.natAbs [] = S.hl.getD l.natAbs [] := by
    intro l hl2
    rw [f12, (u.val2 _ (hkeep l hl2)).2.2.2]
  have htakelen : (S.tr.take (S.mks.getD level 0)).length = S.mks.getD level 0 := by rw [List.length_take]; omega
  refine ⟨⟨⟨?_, by rw [f1]; exact h.n_le, by rw [f11, f1, u.rsn_len]; exact h.rsn_len, by rw [f1, f2]; exact h.lit_rng, by rw [f2]; exact h.cl_len, by rw [f2]; exact h.cs_len, by rw [f2, f3]; exact h.lits_eq, by rw [f3]; exact h.lits_le, by rw [f2, f4]; exact h.pr_len, by rw [f2, f7]; exact h.stp_len, by rw [f7, f8]; exact h.stp_le, by rw [f2, f4]; exact h.pr_fst, by rw [f2, f4]; exact h.pr_snd, by rw [f2, f5]; exact h.wt_rng, ?_, ?_, by rw [f6]; exact Nat.zero_le _, ?_, by rw [f1, f5]; exact h.wt_len, by rw [f1, f12, u.hl_len]; exact h.hl_len, by rw [f4, f5]; exact h.pw, ?_, ?_, fun hne => absurd f6 hne⟩, ?_⟩, ⟨f1, f2, f3, f4, f5, f6, f8, f13, f14, f15, fun l hl2 => hlv l (by rw [f13] at hl2; exact hl2), ?_⟩⟩
  · unfold core
    rw [f1, f9, f10, f13, f14]
    exact hcb
  · intro i k hk
    rw [f12] at hk
    rw [f2]
    exact h.hl_rng i k (u.hl_sub i k hk)
  · intro k hk
    rw [f2]
    rcases (f16 k).1 hk with hk | hk
    · rcases (u.fr k).1 hk with hk | ⟨l, _, hk⟩
      · exact h.fr_rng k hk
      · exact h.hl_rng _ k hk
    · have := h.clash_le
      omega
  · rw [f13, f15, htakelen]
    omega
  · intro i hi
    rw [f13, htakelen] at hi
    have hi2 : i < S.tr.length := by omega
    have e : (S.rear level).tr.getD i 0 = S.tr.getD i 0 := by rw [f13, getD_take, if_pos hi]
    have hmem : S.tr.getD i 0 ∈ S.tr.take (S.mks.getD level 0) := by
      have := getD_mem' (L := S.tr.take (S.mks.getD level 0)) (i := i) (0 : Int) (by rw [htakelen]; exact hi)
      rw [getD_take, if_pos hi] at this
      exact this
    have e2 : (S.rear level).rsn.getD (S.tr.getD i 0).natAbs 0 = S.rsn.getD (S.tr.getD i 0).natAbs 0 := by rw [f11, (u.val2 _ (hkeep _ hmem)).2.2.1]
    have e3 : (S.rear level).tr.take i = S.tr.take i := by rw [f13, List.take_take, Nat.min_eq_left (by omega)]
    have e4 : i ∈ (S.rear level).mks ↔ i ∈ S.mks := by
      rw [f14]
      constructor
      · exact fun hh => List.mem_of_mem_take hh
      · intro hh
        obtain ⟨j, hj, he⟩ := mem_getD (0 : Nat) hh
        have hjl : j < level := by
          by_cases hjl : j < level
          · exact hjl
          · by_cases hje : j = level
            · subst hje; omega
            · have := hcore.mks_inc level j (by omega) hj
              omega
        have := getD_mem' (L := S.mks.take level) (i := j) (0 : Nat) (by rw [List.length_take]; omega)
        rw [getD_take, if_pos hjl, he] at this
        exact this
    unfold Why
    rw [e, e2, e3, e4, f2]
    exact h.why i hi2
  · intro v hv
    rw [f9] at hv
    rw [f11]
    by_cases hd : ∃ l, l ∈ S.tr.drop (S.mks.getD level 0) ∧ l.natAbs = v
    · exact (u.val1 v hd).2.2
    · rw [(u.val2 v hd).2.2.1]
      rw [(u.val2 v hd).1] at hv
      exact h.rsn_zero v hv
  · intro k hk hkf _
    rw [f2] at hk
    rw [f16, not_or, u.fr, not_or] at hkf
    obtain ⟨⟨k1, k2⟩, k3⟩ := hkf
    have hfine := hg.fine k hk k1 k3
    have hside : ∀ l, l ∈ S.tr → l ∈ S.tr.take (S.mks.getD level 0) ∨ (l ∈ S.tr.drop (S.mks.getD level 0) ∧ level < S.lv l ∧ k ∉ S.hl.getD l.natAbs []) := by
      intro l hl2
      rw [← List.take_append_drop (S.mks.getD level 0) S.tr] at hl2
      rcases List.mem_append.1 hl2 with h1 | h1
      · exact .inl h1
      · exact .inr ⟨h1, (lev_side hcore hl).2 h1, fun h2 => k2 ⟨l, h1, h2⟩⟩
    have hS : ∀ a b, S.Side S.head k a b → (S.rear level).Side (S.rear level).head k a b := by
      intro a b hs ha
      rw [f13, f15, List.take_take] at ha
      have ha1 : -a ∈ S.tr.take S.head := by
        have : S.tr.take (min (min S.head (S.mks.getD level 0)) (S.mks.getD level 0)) = (S.tr.take S.head).take (min (min S.head (S.mks.getD level 0)) (S.mks.getD level 0)) := by
          rw [List.take_take]; congr 1; omega
        rw [this] at ha
        exact List.mem_of_mem_take ha
      have ha2 : -a ∈ S.tr.take (S.mks.getD level 0) := by
        have : S.tr.take (min (min S.head (S.mks.getD level 0)) (S.mks.getD level 0)) = (S.tr.take (S.mks.getD level 0)).take (min (min S.head (S.mks.getD level 0)) (S.mks.getD level 0)) := by
          rw [List.take_take]; congr 1; omega
        rw [this] at ha
        exact List.mem_of_mem_take ha
      obtain ⟨b1, b2⟩ := hs ha1
      have la := (lev_side hcore hl).1 ha2
      rw [lv_neg] at la
      have lva : (S.rear level).lv a = S.lv a := by have := hlv _ ha2; rwa [lv_neg, lv_neg] at this
      rcases hside b b1 with b3 | ⟨_, b4, b5⟩
      · refine ⟨by rw [f13]; exact b3, ?_⟩
        rw [hlv b b3, hhl b b3, lva]
        exact b2
      · rcases b2 with b2 | b2
        · omega
        · exact absurd b2 b5
    unfold Fine at hfine ⊢
    rw [f4, f2]
    obtain ⟨a1, a2, a3⟩ := hfine
    refine ⟨a1, fun hz => ?_, fun hz => ⟨(a3 hz).1, hS _ _ (a3 hz).2.1, hS _ _ (a3 hz).2.2⟩⟩
    obtain ⟨c1, c2, c3⟩ := a2 hz
    rcases hside _ c2 with b3 | ⟨_, b4, b5⟩
    · refine ⟨c1, by rw [f13]; exact b3, ?_⟩
      rw [hlv _ b3, hhl _ b3]
      exact c3
    · rcases c3 with c3 | c3
      · omega
      · exact absurd c3 b5
  · have := u.mass
    unfold ES.mass at this ⊢
    rw [f12]
    omega

theorem wsz_any (S : ES) : S.wsz ≤ ents S.wt + 2 * (S.cs.length + (S.cs.map List.length).sum) := by
  unfold ES.wsz
  have : ∀ m, m ≤ S.cs.length → sumTo S.stale m ≤ m + ((S.cs.take m).map List.length).sum := by
    intro m
    induction m with
    | zero => intro _; simp [sumTo]
    | succ m ih =>
      intro hm
      have h1 := ih (by omega)
      have h2 : S.stale m ≤ 1 + (S.cs.getD m []).length := by
        unfold stale opens
        have : (S.cs.getD m []).countP (fun l => decide (S.of l = 0)) ≤ (S.cs.getD m []).length := List.countP_le_length
        split <;> omega
      show sumTo S.stale m + S.stale m ≤ _
      rw [List.take_add_one, List.getElem?_eq_getElem (by omega)]
      have e : S.cs.getD m [] = S.cs[m] := by simp [List.getD, show m < S.cs.length by omega]
      rw [e] at h2
      simp only [Option.toList, List.map_append, List.sum_append, List.map_cons, List.map_nil, List.sum_cons, List.sum_nil]
      omega
  have := this S.cs.length (Nat.le_refl _)
  rw [List.take_length] at this
  omega
end ES
end Go.Proofs.Ytaileihnkmjfiaa
