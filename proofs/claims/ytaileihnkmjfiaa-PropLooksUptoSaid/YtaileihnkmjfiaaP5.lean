/-
  A visit keeps the invariant and the watches, and asks nothing that is not so. Conditions: those each theorem names.
-/
import Derived.Test.YtaileihnkmjfiaaDat2
import Derived.Test.YtaileihnkmjfiaaP4
namespace Go.Proofs.Ytaileihnkmjfiaa
namespace ES

/-- what a part of Propagate leaves as it is -/
structure Keeps (S S' : ES) : Prop where
  n : S'.n = S.n
  cs : S'.cs = S.cs
  lits : S'.lits = S.lits
  mks : S'.mks = S.mks
  head : S'.head = S.head
  fr : S'.fr = S.fr
  turn : S'.turn = S.turn
  tr : ∃ t, S'.tr = S.tr ++ t
  lv : ∀ l, l ∈ S.tr → S'.lv l = S.lv l
theorem Keeps.refl (S : ES) : Keeps S S := ⟨rfl, rfl, rfl, rfl, rfl, rfl, rfl, ⟨[], by simp⟩, fun _ _ => rfl⟩
theorem Keeps.trans {A B C : ES} (h : Keeps A B) (g : Keeps B C) : Keeps A C := by
  obtain ⟨t, ht⟩ := h.tr
  obtain ⟨u, hu⟩ := g.tr
  exact ⟨g.n.trans h.n, g.cs.trans h.cs, g.lits.trans h.lits, g.mks.trans h.mks, g.head.trans h.head, g.fr.trans h.fr, g.turn.trans h.turn, ⟨t ++ u, by rw [hu, ht, List.append_assoc]⟩,
    fun l hl => (g.lv l (by rw [ht]; simp [hl])).trans (h.lv l hl)⟩
theorem Settled.keeps {S : ES} {k : Nat} {R : ES × Bool} (h : Settled S k R) : Keeps S R.1 := ⟨h.n, h.cs, h.lits, h.mks, h.head, h.fr, h.turn, h.tr, h.lv⟩

/-- clauses with l that this visit has not settled -/
def unst (S : ES) (l : Int) : Nat := sumTo (fun k => if l ∈ S.cs.getD k [] ∧ S.stp.getD k 0 ≠ S.turn then 1 else 0) S.cs.length

theorem Inv.mark {S : ES} {x : Int} (h : S.Inv x) (k : Nat) : (S.mark k).Inv x := by
  refine ⟨h.core, h.n_le, h.rsn_len, h.lit_rng, h.cl_len, h.cs_len, h.lits_eq, h.lits_le, h.pr_len, by simpa [ES.mark] using h.stp_len, ?_, h.pr_fst, h.pr_snd, h.wt_rng, h.hl_rng, h.fr_rng, h.clash_le, h.head_le, h.wt_len, h.hl_len, h.pw, h.why, h.rsn_zero, h.clash_false⟩
  intro j
  show (S.stp.set k S.turn).getD j 0 ≤ S.turn
  rw [getD_set]
  split
  · exact Nat.le_refl _
  · exact h.stp_le j

theorem Inv.putW {S : ES} {x : Int} (h : S.Inv x) (L : List Nat) (hL : ∀ k, k ∈ L → k < S.cs.length) : (S.putW (pl x) L).Inv x := by
  refine ⟨h.core, h.n_le, h.rsn_len, h.lit_rng, h.cl_len, h.cs_len, h.lits_eq, h.lits_le, h.pr_len, h.stp_len, h.stp_le, h.pr_fst, h.pr_snd, ?_, h.hl_rng, h.fr_rng, h.clash_le, h.head_le, by simpa [ES.putW] using h.wt_len, h.hl_len, ?_, h.why, h.rsn_zero, h.clash_false⟩
  · intro i k hk
    have hk : k ∈ (S.wt.set (pl x) L).getD i [] := hk
    rw [getD_set] at hk
    split at hk
    · exact hL k hk
    · exact h.wt_rng i k hk
  · intro k l h0 hx hp
    show k ∈ (S.wt.set (pl x) L).getD (pl l) []
    rw [gset_ne _ _ _ (fun he => hx (pl_inj he.symm))]
    exact h.pw k l h0 hx hp

/-- the list that was gone through is laid back whole -/
theorem Inv.close {S : ES} {x : Int} (h : S.Inv x) (hx : x ≠ 0) (L : List Nat) (hL : ∀ k, k ∈ L → k < S.cs.length) (hlt : pl x < S.wt.length)
    (hin : ∀ k, (x = (S.pr.getD k (0, 0)).1 ∨ x = (S.pr.getD k (0, 0)).2) → k ∈ L) : (S.putW (pl x) L).Inv 0 := by
  have h1 := h.putW L hL
  refine ⟨h1.core, h1.n_le, h1.rsn_len, h1.lit_rng, h1.cl_len, h1.cs_len, h1.lits_eq, h1.lits_le, h1.pr_len, h1.stp_len, h1.stp_le, h1.pr_fst, h1.pr_snd, h1.wt_rng, h1.hl_rng, h1.fr_rng, h1.clash_le, h1.head_le, h1.wt_len, h1.hl_len, ?_, h1.why, h1.rsn_zero, h1.clash_false⟩
  intro k l h0 _ hp
  by_cases hl : l = x
  · subst hl
    show k ∈ (S.wt.set (pl l) L).getD (pl l) []
    rw [gset_self _ _ _ hlt]
    exact hin k hp
  · exact h1.pw k l h0 hl hp
theorem Inv.weak {S : ES} (h : S.Inv 0) (x : Int) : S.Inv x :=
  ⟨h.core, h.n_le, h.rsn_len, h.lit_rng, h.cl_len, h.cs_len, h.lits_eq, h.lits_le, h.pr_len, h.stp_len, h.stp_le, h.pr_fst, h.pr_snd, h.wt_rng, h.hl_rng, h.fr_rng, h.clash_le, h.head_le, h.wt_len, h.hl_len, fun k l h0 _ hp => h.pw k l h0 h0 hp, h.why, h.rsn_zero, h.clash_false⟩

theorem Fine.more {S : ES} {h k : Nat} {l : Int} (hf : S.Fine (h - 1) k) (h1 : 1 ≤ h) (h2 : h ≤ S.tr.length) (hl : S.tr.getD (h - 1) 0 = -l)
    (hn1 : (S.pr.getD k (0, 0)).1 ≠ l) (hn2 : (S.pr.getD k (0, 0)).2 ≠ l) : S.Fine h k := by
  have hs : S.tr.take h = S.tr.take (h - 1) ++ [-l] := by
    obtain ⟨m, rfl⟩ : ∃ m, h = m + 1 := ⟨h - 1, by omega⟩
    have hm : m < S.tr.length := by omega
    rw [List.take_add_one, List.getElem?_eq_getElem hm]
    simp only [Nat.add_sub_cancel] at hl ⊢
    rw [← hl]
    simp [List.getD, hm]
  have hside : ∀ a b, a ≠ l → S.Side (h - 1) k a b → S.Side h k a b := by
    intro a b hne hsd ha
    rw [hs, List.mem_append, List.mem_singleton] at ha
    rcases ha with ha | ha
    · exact hsd ha
    · exact absurd (by omega) hne
  exact ⟨hf.1, hf.2.1, fun h3 => ⟨(hf.2.2 h3).1, hside _ _ hn1 (hf.2.2 h3).2.1, hside _ _ hn2 (hf.2.2 h3).2.2⟩⟩

/-- what is so within a visit -/
structure Vis (l : Int) (list : List Nat) (B1 B2 : Nat) (rest : List Nat) (S : ES) (keep : List Nat) : Prop where
  l0 : l ≠ 0
  inv : S.Inv l
  clash0 : S.clash = 0
  phys : S.wt.getD (pl l) [] = keep ++ list.drop keep.length
  lt : pl l < S.wt.length
  suf : ∃ pre, list = pre ++ rest ∧ keep.length ≤ pre.length
  rng : ∀ k, k ∈ list → k < S.cs.length
  krng : ∀ k, k ∈ keep → k < S.cs.length
  head1 : 1 ≤ S.head
  last : S.tr.getD (S.head - 1) 0 = -l
  kin : ∀ k, (l = (S.pr.getD k (0, 0)).1 ∨ l = (S.pr.getD k (0, 0)).2) → k ∈ keep ∨ (k ∈ rest ∧ S.stp.getD k 0 ≠ S.turn)
  fine1 : ∀ k, k < S.cs.length → k ∉ S.fr → k ∈ rest → S.stp.getD k 0 ≠ S.turn → S.Fine (S.head - 1) k
  fine2 : ∀ k, k < S.cs.length → k ∉ S.fr → ¬ (k ∈ rest ∧ S.stp.getD k 0 ≠ S.turn) → S.Fine S.head k
  wsz : S.wsz ≤ B1
  mass : S.mass + S.unst l ≤ B2

/-- what is so behind a visit -/
structure VEnd (B1 B2 : Nat) (S : ES) (R : ES × Bool) : Prop where
  inv : R.1.Inv 0
  keeps : Keeps S R.1
  wsz : R.1.wsz ≤ B1
  mass : R.1.mass ≤ B2
  yes : R.2 = true → R.1.clash = 0 ∧ ∀ k, k < S.cs.length → k ∉ S.fr → R.1.Fine S.head k
  no : R.2 = false → R.1.clash ≠ 0 ∧ ∀ k, k < S.cs.length → k ∉ S.fr → R.1.clash ≠ k + 1 → R.1.Fine (S.head - 1) k

theorem wsz_putW (S : ES) (i : Nat) (L : List Nat) (hi : i < S.wt.length) (hL : L.length ≤ (S.wt.getD i []).length) : (S.putW i L).wsz ≤ S.wsz := by
  have := ents_set S.wt i L hi
  show ents (S.wt.set i L) + 2 * sumTo S.stale S.cs.length ≤ _
  unfold ES.wsz
  omega

theorem visitGo_ok {l : Int} {list : List Nat} {B1 B2 : Nat} (hB1 : B1 + 2 ≤ 8796093022208) (hB2 : B2 + 2 ≤ 8796093022208) :
    ∀ (rest : List Nat) (S : ES) (keep : List Nat), Vis l list B1 B2 rest S keep → VOk l list rest S keep ∧ VEnd B1 B2 S (visitGo l list rest S keep) := by
  intro rest
  induction rest with
  | nil =>
    intro S keep h
    obtain ⟨pre, hpre, hkl⟩ := h.suf
    refine ⟨h.phys, ?_⟩
    have hc := h.inv.close h.l0 keep h.krng h.lt (fun k hk => by
      rcases h.kin k hk with h1 | h1
      · exact h1
      · cases h1.1)
    refine ⟨hc, ⟨rfl, rfl, rfl, rfl, rfl, rfl, rfl, ⟨[], by simp [visitGo, ES.putW]⟩, fun _ _ => rfl⟩, ?_, ?_, fun _ => ⟨h.clash0, fun k hk hf => h.fine2 k hk hf (by simp)⟩, fun hh => by simp [visitGo] at hh⟩
    · refine Nat.le_trans (wsz_putW S (pl l) keep h.lt ?_) h.wsz
      rw [h.phys]; simp
    · have := h.mass
      show S.mass ≤ B2
      omega
  | cons k rest ih =>
    intro S keep h
    obtain ⟨pre, hpre, hkl⟩ := h.suf
    have hkl' : keep.length < list.length := by rw [hpre]; simp; omega
    have hk : k < S.cs.length := h.rng k (by rw [hpre]; simp)
    have hsuf : ∃ pre, list = pre ++ rest ∧ keep.length ≤ pre.length := ⟨pre ++ [k], by simp [hpre], by simp; omega⟩
    have hsuf1 : ∃ pre, list = pre ++ rest ∧ (keep ++ [k]).length ≤ pre.length := ⟨pre ++ [k], by simp [hpre], by simp; omega⟩
    have hhl := h.inv.head_le
    by_cases hs : S.skips l k
    · have hV : Vis l list B1 B2 rest S keep := by
        refine ⟨h.l0, h.inv, h.clash0, h.phys, h.lt, hsuf, h.rng, h.krng, h.head1, h.last, ?_, ?_, ?_, h.wsz, h.mass⟩
        · intro j hj
          rcases h.kin j hj with h1 | ⟨h1, h2⟩
          · exact .inl h1
          · rcases List.mem_cons.1 h1 with rfl | h1
            · exfalso
              rcases hs with hs | ⟨h3, h4⟩
              · exact h2 hs
              · rcases hj with hj | hj
                · exact h3 hj.symm
                · exact h4 hj.symm
            · exact .inr ⟨h1, h2⟩
        · intro j hj hf h1 h2
          exact h.fine1 j hj hf (by simp [h1]) h2
        · intro j hj hf hn
          by_cases hjk : j ∈ k :: rest ∧ S.stp.getD j 0 ≠ S.turn
          · have f1 := h.fine1 j hj hf hjk.1 hjk.2
            have hjk1 : j = k := by
              rcases List.mem_cons.1 hjk.1 with h1 | h1
              · exact h1
              · exact absurd ⟨h1, hjk.2⟩ hn
            subst hjk1
            rcases hs with hs | ⟨h3, h4⟩
            · exact absurd hs hjk.2
            · exact f1.more h.head1 hhl h.last h3 h4
          · exact h.fine2 j hj hf hjk
      obtain ⟨a, b⟩ := ih S keep hV
      refine ⟨⟨h.phys, by rw [h.inv.stp_len]; exact hk, by rw [h.inv.pr_len]; exact hk, fun _ => a, fun hn => absurd hs hn⟩, ?_⟩
      have e : visitGo l list (k :: rest) S keep = visitGo l list rest S keep := by
        show (if S.skips l k then _ else _) = _
        rw [if_pos hs]
      rw [e]; exact b
    · have hst : S.stp.getD k 0 ≠ S.turn := fun he => hs (.inl he)
      have hpair : l = (S.pr.getD k (0, 0)).1 ∨ l = (S.pr.getD k (0, 0)).2 := by
        by_cases h1 : (S.pr.getD k (0, 0)).1 = l
        · exact .inl h1.symm
        · by_cases h2 : (S.pr.getD k (0, 0)).2 = l
          · exact .inr h2.symm
          · exact absurd (.inr ⟨h1, h2⟩) hs
      have hlin : l ∈ S.cs.getD k [] := by
        rcases hpair with h1 | h1
        · have := h.inv.pr_fst k (by rw [← h1]; exact h.l0)
          rw [← h1] at this; exact this
        · have := h.inv.pr_snd k (by rw [← h1]; exact h.l0)
          rw [← h1] at this; exact this
      have hM : (S.mark k).Inv l := h.inv.mark k
      have hkM : k < (S.mark k).cs.length := hk
      have hcM : (S.mark k).clash = 0 := h.clash0
      have st := settled hM hkM
      have hI := hM.settle hcM hkM
      have hcs : ((S.mark k).settle k).1.cs = S.cs := st.cs
      have hphys : ((S.mark k).settle k).1.wt.getD (pl l) [] = keep ++ list.drop keep.length := (st.wt_old l h.l0 hpair).trans h.phys
      have hlt : pl l < ((S.mark k).settle k).1.wt.length := Nat.lt_of_lt_of_le h.lt st.wt_len
      have hroom : (S.mark k).Room 2 := by
        constructor
        · intro i
          have h1 := ents_getD S.wt i
          have h2 := h.wsz
          unfold ES.wsz at h2
          show (S.wt.getD i []).length + 2 ≤ _
          omega
        · intro i
          have h1 := ents_getD S.hl i
          have h2 := h.mass
          unfold ES.mass at h2
          show (S.hl.getD i []).length + 2 ≤ _
          omega
      have hstp : ∀ j, ((S.mark k).settle k).1.stp.getD j 0 = if k = j then S.turn else S.stp.getD j 0 := by
        intro j
        rw [st.stp]
        show (S.stp.set k S.turn).getD j 0 = _
        rw [getD_set]
        by_cases hj : k = j
        · simp only [hj, true_and]
          subst hj
          rw [if_pos (by rw [h.inv.stp_len]; exact hk)]
          simp
        · simp [hj]
      have hpr : ∀ j, j ≠ k → ((S.mark k).settle k).1.pr.getD j (0, 0) = S.pr.getD j (0, 0) := by
        intro j hj
        rw [st.pr]
        exact gset_ne _ _ _ (fun he => hj he.symm)
      have hmass : ((S.mark k).settle k).1.mass + ((S.mark k).settle k).1.unst l ≤ B2 := by
        have h1 : ((S.mark k).settle k).1.mass ≤ S.mass + 1 := st.mass
        have h2 : ((S.mark k).settle k).1.unst l + 1 ≤ S.unst l := by
          unfold ES.unst
          rw [hcs, st.turn]
          refine sumTo_lt ?_ hk ?_
          · intro j _
            rw [hstp]
            show (if l ∈ S.cs.getD j [] ∧ (if k = j then S.turn else S.stp.getD j 0) ≠ S.turn then 1 else 0) ≤ _
            by_cases hj : k = j
            · subst hj; simp
            · simp [hj]
          · rw [hstp]
            show (if l ∈ S.cs.getD k [] ∧ (if k = k then S.turn else S.stp.getD k 0) ≠ S.turn then 1 else 0) + 1 ≤ (if l ∈ S.cs.getD k [] ∧ S.stp.getD k 0 ≠ S.turn then 1 else 0)
            rw [if_neg (show ¬ (l ∈ S.cs.getD k [] ∧ (if k = k then S.turn else S.stp.getD k 0) ≠ S.turn) from by simp), if_pos ⟨hlin, hst⟩]
            exact Nat.le_refl _
        have := h.mass
        omega
      have hwsz : ((S.mark k).settle k).1.wsz ≤ B1 := Nat.le_trans st.wsz h.wsz
      have hfineO : ∀ j m, j ≠ k → m ≤ S.tr.length → S.Fine m j → ((S.mark k).settle k).1.Fine m j := fun j m hj hm hf => Fine.other (S := S.mark k) hM hkM hj hm hf
      have hlast : ((S.mark k).settle k).1.tr.getD (S.head - 1) 0 = -l := by
        obtain ⟨t, ht⟩ := st.tr
        rw [ht]
        show (S.tr ++ t).getD (S.head - 1) 0 = -l
        rw [← h.last, List.getD_eq_getElem?_getD, List.getElem?_append_left (by have := h.head1; omega), ← List.getD_eq_getElem?_getD]
      have hkeeps : Keeps S ((S.mark k).settle k).1 := ⟨st.n, st.cs, st.lits, st.mks, st.head, st.fr, st.turn, st.tr, st.lv⟩
      have hdrop : (keep ++ [k] ++ list.drop (keep.length + 1)).length = (keep ++ list.drop keep.length).length := by
        simp only [List.length_append, List.length_drop, List.length_cons, List.length_nil]
        omega
      -- the list is put back with k kept, or not
      have hkept : ∃ S' keep', kept l list k ((S.mark k).settle k).1 keep = (S', keep') ∧ S'.Inv l ∧ Keeps ((S.mark k).settle k).1 S' ∧ S'.clash = ((S.mark k).settle k).1.clash ∧ S'.wt.getD (pl l) [] = keep' ++ list.drop keep'.length ∧ pl l < S'.wt.length ∧
          (∃ pre, list = pre ++ rest ∧ keep'.length ≤ pre.length) ∧ (∀ j, j ∈ keep' → j < S.cs.length) ∧ S'.pr = ((S.mark k).settle k).1.pr ∧ S'.stp = ((S.mark k).settle k).1.stp ∧ S'.hl = ((S.mark k).settle k).1.hl ∧ S'.tr = ((S.mark k).settle k).1.tr ∧ S'.lev = ((S.mark k).settle k).1.lev ∧
          S'.wsz ≤ B1 ∧ S'.mass + S'.unst l ≤ B2 ∧ (∀ j, j ∈ keep → j ∈ keep') ∧ ((l = (S'.pr.getD k (0, 0)).1 ∨ l = (S'.pr.getD k (0, 0)).2) → k ∈ keep') := by
        unfold kept
        by_cases hb : ((S.mark k).settle k).1.holdsB l k
        · rw [if_pos hb]
          refine ⟨_, _, rfl, hI.putW _ ?_, ⟨rfl, rfl, rfl, rfl, rfl, rfl, rfl, ⟨[], by simp [ES.putW]⟩, fun _ _ => rfl⟩, rfl, ?_, ?_, hsuf1, ?_, rfl, rfl, rfl, rfl, rfl, ?_, hmass, fun j hj => by simp [hj], fun _ => by simp⟩
          · intro j hj
            rw [hcs]
            rcases List.mem_append.1 hj with hj | hj
            · rcases List.mem_append.1 hj with hj | hj
              · exact h.krng j hj
              · rw [List.mem_singleton.1 hj]; exact hk
            · exact h.rng j (List.mem_of_mem_drop hj)
          · show (((S.mark k).settle k).1.wt.set (pl l) _).getD (pl l) [] = _
            rw [gset_self _ _ _ hlt]
            simp
          · show pl l < (((S.mark k).settle k).1.wt.set (pl l) _).length
            rw [List.length_set]; exact hlt
          · intro j hj
            rcases List.mem_append.1 hj with hj | hj
            · exact h.krng j hj
            · rw [List.mem_singleton.1 hj]; exact hk
          · refine Nat.le_trans (wsz_putW _ _ _ hlt ?_) hwsz
            rw [hphys, hdrop]
            exact Nat.le_refl _
        · rw [if_neg hb]
          refine ⟨_, _, rfl, hI, Keeps.refl _, rfl, hphys, hlt, hsuf, h.krng, rfl, rfl, rfl, rfl, rfl, hwsz, hmass, fun _ hj => hj, fun hh => absurd ?_ hb⟩
          rcases hh with hh | hh
          · exact .inl hh.symm
          · exact .inr hh.symm
      obtain ⟨S', keep', hke, i1, i2, i3, i4, i5, i6, i7, i8, i9, i10, i11, i12, i13, i14, i15, i16⟩ := hkept
      have hfine' : ∀ j m, ((S.mark k).settle k).1.Fine m j → S'.Fine m j := by
        intro j m hf
        unfold Fine Side lv at hf ⊢
        rw [i8, i2.cs, i10, i11, i12]
        exact hf
      have hkk := hkeeps.trans i2
      have hcs' : S'.cs = S.cs := hkk.cs
      have hstp' : ∀ j, S'.stp.getD j 0 = if k = j then S.turn else S.stp.getD j 0 := fun j => by rw [i9]; exact hstp j
      have hpr' : ∀ j, j ≠ k → S'.pr.getD j (0, 0) = S.pr.getD j (0, 0) := fun j hj => by rw [i8]; exact hpr j hj
      have hkin' : ∀ j, (l = (S'.pr.getD j (0, 0)).1 ∨ l = (S'.pr.getD j (0, 0)).2) → j ∈ keep' ∨ (j ∈ rest ∧ S'.stp.getD j 0 ≠ S.turn) := by
        intro j hj
        by_cases hjk : j = k
        · subst hjk; exact .inl (i16 hj)
        · rw [hpr' j hjk] at hj
          rw [hstp', if_neg (fun he => hjk he.symm)]
          rcases h.kin j hj with h1 | ⟨h1, h2⟩
          · exact .inl (i15 j h1)
          · rcases List.mem_cons.1 h1 with h1 | h1
            · exact absurd h1 hjk
            · exact .inr ⟨h1, h2⟩
      have hvisit : visitGo l list (k :: rest) S keep = if ((S.mark k).settle k).2 then visitGo l list rest S' keep' else (S'.putW (pl l) (keep' ++ rest), false) := by
        show (if S.skips l k then _ else _) = _
        rw [if_neg hs]
        simp only [hke]
      by_cases hgood : ((S.mark k).settle k).2 = true
      · have hV : Vis l list B1 B2 rest S' keep' := by
          refine ⟨h.l0, i1, ?_, i4, i5, i6, fun j hj => by rw [hcs']; exact h.rng j hj, fun j hj => by rw [hcs']; exact i7 j hj, by rw [hkk.head]; exact h.head1, ?_, ?_, ?_, ?_, i13, i14⟩
          · rw [i3, st.clash, if_pos hgood]; exact h.clash0
          · rw [hkk.head, i11]; exact hlast
          · intro j hj
            rw [hkk.turn]
            exact hkin' j hj
          · intro j hj hf h1 h2
            rw [hcs'] at hj
            rw [hkk.fr] at hf
            rw [hkk.turn, hstp'] at h2
            have hjk : j ≠ k := fun he => by subst he; simp at h2
            rw [if_neg (fun he => hjk he.symm)] at h2
            rw [hkk.head]
            exact hfine' j _ (hfineO j _ hjk (by omega) (h.fine1 j hj hf (by simp [h1]) h2))
          · intro j hj hf hn
            rw [hcs'] at hj
            rw [hkk.fr] at hf
            rw [hkk.turn, hstp'] at hn
            rw [hkk.head]
            by_cases hjk : j = k
            · subst hjk
              exact hfine' j _ (hM.settle_fine hcM hkM hhl hgood)
            · rw [if_neg (fun he => hjk he.symm)] at hn
              refine hfine' j _ (hfineO j _ hjk hhl (h.fine2 j hj hf ?_))
              rintro ⟨h1, h2⟩
              rcases List.mem_cons.1 h1 with h1 | h1
              · exact hjk h1
              · exact hn ⟨h1, h2⟩
        obtain ⟨a, b⟩ := ih S' keep' hV
        refine ⟨⟨h.phys, by rw [h.inv.stp_len]; exact hk, by rw [h.inv.pr_len]; exact hk, fun hh => absurd hh hs, fun _ => ⟨hM.ok, hroom, hk, by rw [hI.pr_len, hcs]; exact hk, hphys, fun _ => by rw [hke]; exact a⟩⟩, ?_⟩
        rw [hvisit, if_pos hgood]
        refine ⟨b.inv, hkk.trans b.keeps, b.wsz, b.mass, fun hy => ⟨(b.yes hy).1, fun j hj hf => ?_⟩, fun hy => ⟨(b.no hy).1, fun j hj hf hc => ?_⟩⟩
        · have := (b.yes hy).2 j (by rw [hcs']; exact hj) (by rw [hkk.fr]; exact hf)
          rw [hkk.head] at this; exact this
        · have := (b.no hy).2 j (by rw [hcs']; exact hj) (by rw [hkk.fr]; exact hf) hc
          rw [hkk.head] at this; exact this
      · refine ⟨⟨h.phys, by rw [h.inv.stp_len]; exact hk, by rw [h.inv.pr_len]; exact hk, fun hh => absurd hh hs, fun _ => ⟨hM.ok, hroom, hk, by rw [hI.pr_len, hcs]; exact hk, hphys, fun hg => absurd hg hgood⟩⟩, ?_⟩
        rw [hvisit, if_neg hgood]
        have hrr : ∀ j, j ∈ rest → j < S.cs.length := fun j hj => h.rng j (by rw [hpre]; simp [hj])
        have hcl := i1.close h.l0 (keep' ++ rest) (fun j hj => by
          rw [hcs']
          rcases List.mem_append.1 hj with hj | hj
          · exact i7 j hj
          · exact hrr j hj) i5 (fun j hj => by
          rcases hkin' j hj with h1 | h1
          · simp [h1]
          · simp [h1.1])
        have hclash : S'.clash = k + 1 := by rw [i3, st.clash, if_neg hgood]
        obtain ⟨pre', hp1, hp2⟩ := i6
        refine ⟨hcl, ⟨hkk.n, hkk.cs, hkk.lits, hkk.mks, hkk.head, hkk.fr, hkk.turn, hkk.tr, hkk.lv⟩, ?_, ?_, fun hy => (by cases hy), fun _ => ⟨?_, fun j hj hf hc => ?_⟩⟩
        · refine Nat.le_trans (wsz_putW S' (pl l) _ i5 ?_) i13
          rw [i4]
          have : list.length = pre'.length + rest.length := by rw [hp1]; simp
          simp only [List.length_append, List.length_drop]
          omega
        · show S'.mass ≤ B2
          omega
        · show S'.clash ≠ 0
          omega
        · have hc : S'.clash ≠ j + 1 := hc
          have hjk : j ≠ k := by omega
          show S'.Fine (S.head - 1) j
          refine hfine' j _ (hfineO j _ hjk (by omega) ?_)
          by_cases hc : j ∈ k :: rest ∧ S.stp.getD j 0 ≠ S.turn
          · exact h.fine1 j hj hf hc.1 hc.2
          · exact (h.fine2 j hj hf hc).less (Nat.sub_le _ _)
end ES
end Go.Proofs.Ytaileihnkmjfiaa
