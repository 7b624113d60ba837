/-
  What settle keeps: the invariant, the watches, and the bounds on the lists' sizes. Conditions: those each theorem names.
-/
import Derived.Test.YtaileihnkmjfiaaP3
namespace Go.Proofs.Ytaileihnkmjfiaa
namespace ES

theorem gset_self {α : Type} (L : List α) {i : Nat} (x z : α) (h : i < L.length) : (L.set i x).getD i z = x := by rw [getD_set, if_pos ⟨rfl, h⟩]
theorem gset_ne {α : Type} (L : List α) {i j : Nat} (x z : α) (h : i ≠ j) : (L.set i x).getD j z = L.getD j z := by rw [getD_set, if_neg (fun hc => h hc.1)]

def opens (S : ES) (c : List Int) : Nat := c.countP fun l => decide (S.of l = 0)
def stale (S : ES) (k : Nat) : Nat := (if S.pr.getD k (0, 0) = S.best (S.cs.getD k []) then 0 else 1) + S.opens (S.cs.getD k [])
/-- bounds the watch lists -/
def wsz (S : ES) : Nat := ents S.wt + 2 * sumTo S.stale S.cs.length
/-- bounds the held lists and the fresh clauses -/
def mass (S : ES) : Nat := S.fr.length + ents S.hl

theorem countP_mono {α : Type} {p q : α → Bool} (l : List α) (h : ∀ x, x ∈ l → p x = true → q x = true) : l.countP p ≤ l.countP q := by
  induction l with
  | nil => simp
  | cons x l ih =>
    have := ih fun y hy => h y (by simp [hy])
    have hx := h x (by simp)
    rw [List.countP_cons, List.countP_cons]
    cases hp : p x <;> cases hq : q x <;> simp_all <;> omega
theorem countP_lt {α : Type} {p q : α → Bool} (l : List α) (h : ∀ x, x ∈ l → p x = true → q x = true) {y : α} (hy : y ∈ l) (h1 : p y = false) (h2 : q y = true) : l.countP p + 1 ≤ l.countP q := by
  induction l with
  | nil => cases hy
  | cons x l ih =>
    rw [List.countP_cons, List.countP_cons]
    rcases List.mem_cons.1 hy with rfl | hy
    · have := countP_mono l fun z hz => h z (by simp [hz])
      simp [h1, h2]
      exact this
    · have := ih (fun z hz => h z (by simp [hz])) hy
      have hx := h x (by simp)
      cases hp : p x <;> cases hq : q x <;> simp_all <;> omega

theorem of_set_other {S : ES} {l m : Int} (r : Nat) (h : m.natAbs ≠ l.natAbs) : (S.set l r).of m = S.of m := by
  unfold of set
  simp only
  rw [gset_ne _ _ _ (fun hc => h hc.symm)]
theorem lv_set_other {S : ES} {l m : Int} (r : Nat) (h : m.natAbs ≠ l.natAbs) : (S.set l r).lv m = S.lv m := by
  unfold lv set
  simp only
  rw [getD_set, if_neg (fun hc => h hc.1.symm)]
theorem of_set_self {S : ES} {l m : Int} (r : Nat) (h0 : l ≠ 0) (hv : l.natAbs < S.val.length) (h : m.natAbs = l.natAbs) : (S.set l r).of m ≠ 0 := by
  unfold of set
  simp only
  rw [h, gset_self _ _ _ hv]
  rcases sg_cases h0 with ⟨_, s, _⟩ | ⟨_, s, _⟩ <;> rw [s] <;> split <;> omega

/-- a literal's setting doesn't raise the bound: it only concerns what is read: values, levels, clauses, pairs -/
theorem stale_set {S S' : ES} {l : Int} (hcs : S'.cs = S.cs) (hpr : S'.pr = S.pr) (hz : S.of l = 0)
    (hother : ∀ m : Int, m.natAbs ≠ l.natAbs → S'.of m = S.of m ∧ S'.lv m = S.lv m) (hself : ∀ m : Int, m.natAbs = l.natAbs → S'.of m ≠ 0) (k : Nat) :
    S'.stale k ≤ S.stale k := by
  unfold stale
  rw [hcs, hpr]
  generalize S.cs.getD k [] = c
  have hzz : ∀ m : Int, m.natAbs = l.natAbs → S.of m = 0 := fun m hm => by rw [of_zero, hm]; exact of_zero.1 hz
  have hmono : ∀ m, m ∈ c → decide (S'.of m = 0) = true → decide (S.of m = 0) = true := by
    intro m _ h
    by_cases he : m.natAbs = l.natAbs
    · simp [hzz m he]
    · rw [(hother m he).1] at h; exact h
  by_cases hin : ∃ m, m ∈ c ∧ m.natAbs = l.natAbs
  · obtain ⟨m, hm, he⟩ := hin
    have := countP_lt c hmono hm (by simp [hself m he]) (by simp [hzz m he])
    unfold opens
    split <;> split <;> omega
  · have hb : S'.best c = S.best c := best_congr fun m hm => by
      have := hother m fun he => hin ⟨m, hm, he⟩
      unfold worth
      rw [this.1, this.2]
    rw [hb]
    have := countP_mono c hmono
    unfold opens
    omega

theorem wsz_set {S : ES} {l : Int} {r : Nat} (h0 : l ≠ 0) (hv : l.natAbs < S.val.length) (hz : S.of l = 0) : (S.set l r).wsz ≤ S.wsz := by
  have := sumTo_le (m := S.cs.length) fun k _ => stale_set (S := S) (S' := S.set l r) (l := l) rfl rfl hz (fun m hm => ⟨of_set_other r hm, lv_set_other r hm⟩) (fun m hm => of_set_self r h0 hv hm) k
  show ents S.wt + 2 * sumTo (S.set l r).stale S.cs.length ≤ _
  unfold wsz
  omega

theorem wsz_repair {S : ES} {k : Nat} (hk : k < S.cs.length) (hkp : S.pr.length = S.cs.length) {W : List (List Nat)} {p : Int × Int} (hp : p = S.best (S.cs.getD k [])) (hW : Wtd S.wt W k (S.pr.getD k (0, 0)) p) :
    ({ S with wt := W, pr := S.pr.set k p } : ES).wsz ≤ S.wsz := by
  have hst : ∀ m, ({ S with wt := W, pr := S.pr.set k p } : ES).stale m = (if (S.pr.set k p).getD m (0, 0) = S.best (S.cs.getD m []) then 0 else 1) + S.opens (S.cs.getD m []) := fun m => rfl
  have hle : ∀ m, m < S.cs.length → ({ S with wt := W, pr := S.pr.set k p } : ES).stale m ≤ S.stale m := by
    intro m hm
    rw [hst]
    unfold stale
    by_cases he : k = m
    · subst he
      rw [gset_self _ _ _ (by omega), if_pos hp]
      omega
    · rw [gset_ne _ _ _ he]
      exact Nat.le_refl _
  show ents W + 2 * sumTo _ S.cs.length ≤ ents S.wt + 2 * sumTo S.stale S.cs.length
  by_cases he : p = S.pr.getD k (0, 0)
  · have h1 := sumTo_le hle
    have h2 := hW.same he
    clear hp hW hle hst
    subst h2
    omega
  · have h0 : ({ S with wt := W, pr := S.pr.set k p } : ES).stale k + 1 ≤ S.stale k := by
      rw [hst, gset_self _ _ _ (by omega), if_pos hp]
      unfold stale
      rw [if_neg (fun h => he (hp.trans h.symm))]
      omega
    have := sumTo_lt hle hk h0
    have := hW.ents
    omega

/-- what settle leaves as it is, and what it adds -/
structure Settled (S : ES) (k : Nat) (R : ES × Bool) : Prop where
  n : R.1.n = S.n
  cs : R.1.cs = S.cs
  lits : R.1.lits = S.lits
  mks : R.1.mks = S.mks
  head : R.1.head = S.head
  fr : R.1.fr = S.fr
  stp : R.1.stp = S.stp
  turn : R.1.turn = S.turn
  pr : R.1.pr = S.pr.set k (S.best (S.cs.getD k []))
  tr : ∃ t, R.1.tr = S.tr ++ t
  lv : ∀ l, l ∈ S.tr → R.1.lv l = S.lv l
  hl : ∀ i m, m ∈ S.hl.getD i [] → m ∈ R.1.hl.getD i []
  wt_old : ∀ l, l ≠ 0 → (l = (S.pr.getD k (0, 0)).1 ∨ l = (S.pr.getD k (0, 0)).2) → R.1.wt.getD (pl l) [] = S.wt.getD (pl l) []
  wt_len : S.wt.length ≤ R.1.wt.length
  clash : R.1.clash = if R.2 then S.clash else k + 1
  wsz : R.1.wsz ≤ S.wsz
  mass : R.1.mass ≤ S.mass + 1

theorem settled {S : ES} {x : Int} (h : S.Inv x) {k : Nat} (hk : k < S.cs.length) : Settled S k (S.settle k) := by
  obtain ⟨W, p, hp, hW, hcase⟩ := settle_cases S k
  have hw1 := wsz_repair hk h.pr_len hp hW
  rcases hcase with ⟨_, he⟩ | ⟨_, _, _, _, he⟩ | ⟨h1, h2, h3, S4, h4, he⟩
  · rw [he]
    exact ⟨rfl, rfl, rfl, rfl, rfl, rfl, rfl, rfl, by rw [hp], ⟨[], by simp⟩, fun _ _ => rfl, fun _ _ h => h, hW.old, hW.len2, rfl, hw1, Nat.le_succ _⟩
  · rw [he]
    exact ⟨rfl, rfl, rfl, rfl, rfl, rfl, rfl, rfl, by rw [hp], ⟨[], by simp⟩, fun _ _ => rfl, fun _ _ h => h, hW.old, hW.len2, rfl, hw1, Nat.le_succ _⟩
  · have hpin : p.1 ∈ S.cs.getD k [] := by
      have hch := best_chosen S (S.cs.getD k []) (fun l hl => (h.lits k l hl).1)
      rw [← hp] at hch
      rcases hch with ⟨_, he⟩ | ⟨h2, _⟩
      · exact absurd (by rw [he]) h1
      · exact h2
    have hrng := h.lits k _ hpin
    have hfour : S4.n = S.n ∧ S4.cs = S.cs ∧ S4.lits = S.lits ∧ S4.mks = S.mks ∧ S4.head = S.head ∧ S4.fr = S.fr ∧ S4.stp = S.stp ∧ S4.turn = S.turn ∧ S4.pr = S.pr.set k p ∧ (∃ t, S4.tr = S.tr ++ t) ∧ (∀ l, l ∈ S.tr → S4.lv l = S.lv l) ∧ S4.hl = S.hl ∧ S4.wt = W ∧ S4.clash = S.clash ∧ S4.wsz ≤ S.wsz := by
      by_cases hz : S.of p.1 = 0
      · rw [if_pos hz] at h4
        subst h4
        refine ⟨rfl, rfl, rfl, rfl, rfl, rfl, rfl, rfl, rfl, ⟨[p.1], rfl⟩, ?_, rfl, rfl, rfl, ?_⟩
        · intro l hl
          refine lv_set_other (S := { S with wt := W, pr := S.pr.set k p }) (k + 1) ?_
          intro hne
          have a := (of_one h.core (h.core.tr_rng l hl).1).2 hl
          have b : S.of l = 0 := by rw [of_zero, hne]; exact of_zero.1 hz
          omega
        · refine Nat.le_trans (wsz_set (S := { S with wt := W, pr := S.pr.set k p }) h1 ?_ hz) hw1
          show p.1.natAbs < S.val.length
          rw [h.core.val_len]
          omega
      · rw [if_neg hz] at h4
        subst h4
        exact ⟨rfl, rfl, rfl, rfl, rfl, rfl, rfl, rfl, rfl, ⟨[], by simp⟩, fun _ _ => rfl, rfl, rfl, rfl, hw1⟩
    obtain ⟨a1, a2, a3, a4, a5, a6, a7, a8, a9, a10, a11, a12, a13, a14, a15⟩ := hfour
    rw [he]
    by_cases hh : 0 < S4.lv p.1 ∧ (p.2 = 0 ∨ S4.lv p.2 < S4.lv p.1)
    · rw [if_pos hh]
      refine ⟨a1, a2, a3, a4, a5, a6, a7, a8, by rw [← hp]; exact a9, a10, a11, ?_, ?_, ?_, a14, a15, ?_⟩
      · intro i m hm
        refine lay_mem.2 (.inl ?_)
        rw [a12]; exact hm
      · intro l h0 hl
        show S4.wt.getD (pl l) [] = _
        rw [a13]; exact hW.old l h0 hl
      · show S.wt.length ≤ S4.wt.length
        rw [a13]; exact hW.len2
      · show S4.fr.length + ents (lay S4.hl p.1.natAbs k) ≤ _
        rw [lay_ents, a12, a6]
        unfold mass
        omega
    · rw [if_neg hh]
      refine ⟨a1, a2, a3, a4, a5, a6, a7, a8, by rw [← hp]; exact a9, a10, a11, ?_, ?_, ?_, a14, a15, ?_⟩
      · intro i m hm
        show m ∈ S4.hl.getD i []
        rw [a12]; exact hm
      · intro l h0 hl
        show S4.wt.getD (pl l) [] = _
        rw [a13]; exact hW.old l h0 hl
      · show S.wt.length ≤ S4.wt.length
        rw [a13]; exact hW.len2
      · show S4.fr.length + ents S4.hl ≤ _
        rw [a12, a6]
        unfold mass
        omega

/-- settle keeps the invariant -/
theorem Inv.settle {S : ES} {x : Int} (h : S.Inv x) (hc0 : S.clash = 0) {k : Nat} (hk : k < S.cs.length) : (S.settle k).1.Inv x := by
  obtain ⟨W, p, hp, hW, hcase⟩ := settle_cases S k
  have hi := h.repair hk hp hW
  have hl0 : ∀ l, l ∈ S.cs.getD k [] → l ≠ 0 := fun l hl => (h.lits k l hl).1
  rcases hcase with ⟨hb, he⟩ | ⟨_, _, _, _, he⟩ | ⟨h1, h2, h3, S4, h4, he⟩
  · rw [he]
    refine ⟨hi.core, hi.n_le, hi.rsn_len, hi.lit_rng, hi.cl_len, hi.cs_len, hi.lits_eq, hi.lits_le, hi.pr_len, hi.stp_len, hi.stp_le, hi.pr_fst, hi.pr_snd, hi.wt_rng, hi.hl_rng, hi.fr_rng, hk, hi.head_le, hi.wt_len, hi.hl_len, hi.pw, hi.why, hi.rsn_zero, fun _ l hl => ?_⟩
    have hl : l ∈ S.cs.getD k [] := hl
    rw [hp] at hb
    exact (of_minus h.core (hl0 l hl)).1 (all_false h.core h.n_le hl0 hb l hl)
  · rw [he]
    exact hi
  · have hpin : p.1 ∈ S.cs.getD k [] := by
      have hch := best_chosen S (S.cs.getD k []) hl0
      rw [← hp] at hch
      rcases hch with ⟨_, he⟩ | ⟨h2, _⟩
      · exact absurd (by rw [he]) h1
      · exact h2
    have h4i : S4.Inv x := by
      by_cases hz : S.of p.1 = 0
      · rw [if_pos hz] at h4
        subst h4
        refine hi.setU hc0 hk hpin hz ?_
        intro m hm hne
        rw [hp] at h3 hne
        exact rest_false h.core h.n_le hl0 h3 m hm hne
      · rw [if_neg hz] at h4
        subst h4
        exact hi
    have hrng := h.lits k _ hpin
    have hn4 : S4.n = S.n ∧ S4.cs = S.cs := by
      subst h4
      split <;> exact ⟨rfl, rfl⟩
    rw [he]
    show (if _ then _ else _ : ES).Inv x
    split
    · exact h4i.layH (by rw [hn4.1]; exact hrng.2) (by rw [hn4.2]; exact hk)
    · exact h4i

/-- one side of a pair: if a is false and was looked at, b is true and was so not later, or the clause is held by b -/
def Side (S : ES) (m k : Nat) (a b : Int) : Prop := -a ∈ S.tr.take m → b ∈ S.tr ∧ (S.lv b ≤ S.lv a ∨ k ∈ S.hl.getD b.natAbs [])
/-- a clause is watched rightly, where the trail's first m were looked at -/
def Fine (S : ES) (m k : Nat) : Prop :=
  (S.pr.getD k (0, 0)).1 ≠ 0 ∧
  ((S.pr.getD k (0, 0)).2 = 0 → (∀ l, l ∈ S.cs.getD k [] → l = (S.pr.getD k (0, 0)).1) ∧ (S.pr.getD k (0, 0)).1 ∈ S.tr ∧ (S.lv (S.pr.getD k (0, 0)).1 = 0 ∨ k ∈ S.hl.getD (S.pr.getD k (0, 0)).1.natAbs [])) ∧
  ((S.pr.getD k (0, 0)).2 ≠ 0 → (S.pr.getD k (0, 0)).2 ≠ (S.pr.getD k (0, 0)).1 ∧ S.Side m k (S.pr.getD k (0, 0)).1 (S.pr.getD k (0, 0)).2 ∧ S.Side m k (S.pr.getD k (0, 0)).2 (S.pr.getD k (0, 0)).1)

theorem lv_neg (S : ES) (l : Int) : S.lv (-l) = S.lv l := by unfold lv; rw [Int.natAbs_neg]

/-- what was right stays so while the trail and the held lists grow -/
theorem Fine.mono {S S' : ES} {m k : Nat} (h : S.Fine m k) (hm : m ≤ S.tr.length) (hpr : S'.pr.getD k (0, 0) = S.pr.getD k (0, 0)) (hcs : S'.cs = S.cs)
    (htr : ∃ t, S'.tr = S.tr ++ t) (hlv : ∀ l, l ∈ S.tr → S'.lv l = S.lv l) (hhl : ∀ i j, j ∈ S.hl.getD i [] → j ∈ S'.hl.getD i []) : S'.Fine m k := by
  obtain ⟨t, ht⟩ := htr
  have hin : ∀ l, l ∈ S.tr → l ∈ S'.tr := fun l hl => by rw [ht]; simp [hl]
  have htk : S'.tr.take m = S.tr.take m := by rw [ht, List.take_append, Nat.sub_eq_zero_of_le hm]; simp
  have hside : ∀ a b, S.Side m k a b → S'.Side m k a b := by
    intro a b hs ha
    rw [htk] at ha
    obtain ⟨h1, h2⟩ := hs ha
    refine ⟨hin b h1, ?_⟩
    have ha' : S'.lv a = S.lv a := by have := hlv _ (List.mem_of_mem_take ha); rwa [lv_neg, lv_neg] at this
    rw [hlv b h1, ha']
    exact h2.imp id (hhl _ _)
  obtain ⟨h1, h2, h3⟩ := h
  unfold Fine
  rw [hpr, hcs]
  refine ⟨h1, fun h => ?_, fun h => ?_⟩
  · obtain ⟨a, b, c⟩ := h2 h
    exact ⟨a, hin _ b, by rw [hlv _ b]; exact c.imp id (hhl _ _)⟩
  · obtain ⟨a, b, c⟩ := h3 h
    exact ⟨a, hside _ _ b, hside _ _ c⟩

/-- fewer were looked at: still right -/
theorem Fine.less {S : ES} {m m' k : Nat} (h : S.Fine m k) (hm : m' ≤ m) : S.Fine m' k := by
  have hsub : ∀ l, l ∈ S.tr.take m' → l ∈ S.tr.take m := by
    intro l hl
    have : S.tr.take m' = (S.tr.take m).take m' := by rw [List.take_take, Nat.min_eq_left hm]
    rw [this] at hl
    exact List.mem_of_mem_take hl
  exact ⟨h.1, h.2.1, fun hh => ⟨(h.2.2 hh).1, fun ha => (h.2.2 hh).2.1 (hsub _ ha), fun ha => (h.2.2 hh).2.2 (hsub _ ha)⟩⟩

theorem Fine.other {S : ES} {x : Int} (h : S.Inv x) {k j m : Nat} (hk : k < S.cs.length) (hne : j ≠ k) (hm : m ≤ S.tr.length) (hf : S.Fine m j) : (S.settle k).1.Fine m j := by
  have s := settled h hk
  refine hf.mono hm ?_ s.cs s.tr s.lv s.hl
  rw [s.pr, getD_set, if_neg (fun hc => hne hc.1.symm)]

/-- what is settled is watched rightly -/
theorem Inv.settle_fine {S : ES} {x : Int} (h : S.Inv x) (hc0 : S.clash = 0) {k m : Nat} (hk : k < S.cs.length) (hm : m ≤ S.tr.length) (hgood : (S.settle k).2 = true) : (S.settle k).1.Fine m k := by
  have s := settled h hk
  have hI := h.settle hc0 hk
  obtain ⟨W, p, hp, hW, hcase⟩ := settle_cases S k
  have hkp : k < S.pr.length := by rw [h.pr_len]; exact hk
  have hl0 : ∀ l, l ∈ S.cs.getD k [] → l ≠ 0 := fun l hl => (h.lits k l hl).1
  have hch := best_chosen S (S.cs.getD k []) hl0
  rw [← hp] at hch
  have hprk : (S.settle k).1.pr.getD k (0, 0) = p := by rw [s.pr, getD_set, if_pos ⟨rfl, hkp⟩, hp]
  obtain ⟨t, ht⟩ := s.tr
  have htk : (S.settle k).1.tr.take m = S.tr.take m := by rw [ht, List.take_append, Nat.sub_eq_zero_of_le hm]; simp
  unfold Fine
  rw [hprk, s.cs]
  rcases hcase with ⟨_, he⟩ | ⟨h1, h2, h3, h4, he⟩ | ⟨h1, h2, h3, S4, h4, he⟩
  · rw [he] at hgood
    exact absurd hgood (by simp)
  · rcases hch with ⟨_, hz⟩ | ⟨c1, c2, c3, ⟨c4, _⟩ | ⟨c4, c5, c6, c7⟩⟩
    · exact absurd (by rw [hz]) h1
    · exact absurd c4 h3
    · refine ⟨h1, fun hz => absurd hz h3, fun _ => ⟨c6, fun ha => ?_, fun ha => ?_⟩⟩
      · rw [htk] at ha
        exact absurd ((of_minus h.core (hl0 _ c1)).2 (List.mem_of_mem_take ha)) h2
      · rw [htk] at ha
        exact absurd ((of_minus h.core (hl0 _ c5)).2 (List.mem_of_mem_take ha)) h4
  · rcases hch with ⟨_, hz⟩ | ⟨c1, c2, c3, c4⟩
    · exact absurd (by rw [hz]) h1
    · have hin4 : p.1 ∈ S4.tr := by
        rw [h4]
        by_cases hz : S.of p.1 = 0
        · rw [if_pos hz]
          simp [set]
        · rw [if_neg hz]
          show p.1 ∈ S.tr
          have := of_range h.core p.1
          exact (of_one h.core c2).1 (by omega)
      have hR : (S.settle k).1.tr = S4.tr ∧ (S.settle k).1.lev = S4.lev ∧ (0 < S4.lv p.1 ∧ (p.2 = 0 ∨ S4.lv p.2 < S4.lv p.1) → k ∈ (S.settle k).1.hl.getD p.1.natAbs []) := by
        rw [he]
        by_cases hh : 0 < S4.lv p.1 ∧ (p.2 = 0 ∨ S4.lv p.2 < S4.lv p.1)
        · rw [if_pos hh]
          exact ⟨rfl, rfl, fun _ => lay_mem.2 (.inr ⟨rfl, rfl⟩)⟩
        · rw [if_neg hh]
          exact ⟨rfl, rfl, fun hc => absurd hc hh⟩
      obtain ⟨r1, r2, r3⟩ := hR
      have hlv : ∀ l, (S.settle k).1.lv l = S4.lv l := fun l => by unfold lv; rw [r2]
      have hin : p.1 ∈ (S.settle k).1.tr := by rw [r1]; exact hin4
      refine ⟨c2, fun hz => ⟨?_, hin, ?_⟩, fun hnz => ⟨?_, fun ha => ?_, fun ha => ⟨hin, ?_⟩⟩⟩
      · rcases c4 with ⟨_, c5⟩ | ⟨c5, _⟩
        · exact c5
        · exact absurd hz c5
      · rw [hlv]
        by_cases hp0 : S4.lv p.1 = 0
        · exact .inl hp0
        · exact .inr (r3 ⟨by omega, .inl hz⟩)
      · rcases c4 with ⟨c5, _⟩ | ⟨_, _, c5, _⟩
        · exact absurd c5 hnz
        · exact c5
      · exact absurd (List.mem_of_mem_take ha) (fun hb => not_both hI.core hin hb)
      · rw [hlv, hlv]
        by_cases hp0 : S4.lv p.1 ≤ S4.lv p.2
        · exact .inl hp0
        · exact .inr (r3 ⟨by omega, .inr (by omega)⟩)
end ES
end Go.Proofs.Ytaileihnkmjfiaa
