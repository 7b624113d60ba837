/-
  The document's engine: as data, in memory, its calls, and that it closes as the program's engine does. Conditions: those each theorem names.
-/
import Derived.Test.YtaileihnkmjfiaaP9
import Derived.Test.YtaileihnkmjfiaaO1
import Derived.Test.YtaileihnkmjfiaaR1
import Derived.Test.YtaileihnkmjfiaaC1
import Derived.Test.YtaileihnkmjfiaaD5
namespace Go.Proofs.Ytaileihnkmjfiaa

/-- the document's engine -/
structure RS where
  n : Int
  level : Int
  lits : Int
  all : List (List Int)
  tr : List (Int × Int)
  bad : Bool

namespace RS
def ofGo : List (Int × Int) → Int → Int
  | [], _ => 0
  | p :: t, l => if p.1 = l then 1 else if p.1 = -l then -1 else ofGo t l
def of (R : RS) (l : Int) : Int := ofGo R.tr l
def has (R : RS) (l : Int) : Prop := ∃ p, p ∈ R.tr ∧ p.1 = l

/-- what is always so -/
structure Fit (R : RS) : Prop where
  rng : ∀ p, p ∈ R.tr → p.1 ≠ 0 ∧ -R.n ≤ p.1 ∧ p.1 ≤ R.n
  nd : (R.tr.map fun p => p.1.natAbs).Nodup
  lev : ∀ p, p ∈ R.tr → 0 ≤ p.2 ∧ p.2 ≤ R.level
  n_le : 0 ≤ R.n ∧ R.n ≤ 1048576
  lev0 : 0 ≤ R.level
  lit : ∀ c, c ∈ R.all → ∀ l, l ∈ c → l ≠ 0 ∧ -R.n ≤ l ∧ l ≤ R.n

theorem ofGo_cases (t : List (Int × Int)) (l : Int) : (ofGo t l = 1 ∧ ∃ p, p ∈ t ∧ p.1 = l) ∨ (ofGo t l = -1 ∧ ∃ p, p ∈ t ∧ p.1 = -l) ∨ (ofGo t l = 0 ∧ ∀ p, p ∈ t → p.1 ≠ l ∧ p.1 ≠ -l) := by
  induction t with
  | nil => exact .inr (.inr ⟨rfl, fun p h => by cases h⟩)
  | cons q t ih =>
    unfold ofGo
    by_cases h1 : q.1 = l
    · rw [if_pos h1]; exact .inl ⟨rfl, q, by simp, h1⟩
    · rw [if_neg h1]
      by_cases h2 : q.1 = -l
      · rw [if_pos h2]; exact .inr (.inl ⟨rfl, q, by simp, h2⟩)
      · rw [if_neg h2]
        rcases ih with ⟨a, p, hp, e⟩ | ⟨a, p, hp, e⟩ | ⟨a, b⟩
        · exact .inl ⟨a, p, List.mem_cons_of_mem _ hp, e⟩
        · exact .inr (.inl ⟨a, p, List.mem_cons_of_mem _ hp, e⟩)
        · refine .inr (.inr ⟨a, fun p hp => ?_⟩)
          rcases List.mem_cons.1 hp with e | hp
          · rw [e]; exact ⟨h1, h2⟩
          · exact b p hp

theorem nodup_map_inj {α β : Type} {f : α → β} {L : List α} (h : (L.map f).Nodup) : ∀ a b, a ∈ L → b ∈ L → f a = f b → a = b := by
  induction L with
  | nil => intro a b ha; cases ha
  | cons x L ih =>
    rw [List.map_cons, List.nodup_cons] at h
    intro a b ha hb he
    rcases List.mem_cons.1 ha with e1 | h1
    · rcases List.mem_cons.1 hb with e2 | h2
      · rw [e1, e2]
      · refine absurd (List.mem_map.2 ⟨b, h2, ?_⟩ : f x ∈ L.map f) h.1
        rw [← he, e1]
    · rcases List.mem_cons.1 hb with e2 | h2
      · refine absurd (List.mem_map.2 ⟨a, h1, ?_⟩ : f x ∈ L.map f) h.1
        rw [he, e2]
      · exact ih h.2 a b h1 h2 he

theorem Fit.not_both {R : RS} (h : R.Fit) {l : Int} (h1 : R.has l) (h2 : R.has (-l)) : False := by
  obtain ⟨p, hp, e1⟩ := h1
  obtain ⟨q, hq, e2⟩ := h2
  have hl := (h.rng p hp).1
  have := nodup_map_inj h.nd p q hp hq (by omega)
  subst this
  omega

theorem Fit.of_one {R : RS} (h : R.Fit) {l : Int} : R.of l = 1 ↔ R.has l := by
  unfold of
  rcases ofGo_cases R.tr l with ⟨a, b⟩ | ⟨a, b⟩ | ⟨a, b⟩
  · exact ⟨fun _ => b, fun _ => a⟩
  · exact ⟨fun e => by omega, fun e => absurd (h.not_both e b) (fun h => h)⟩
  · exact ⟨fun e => by omega, fun ⟨p, hp, e⟩ => absurd e (b p hp).1⟩
theorem Fit.of_minus {R : RS} (h : R.Fit) {l : Int} : R.of l = -1 ↔ R.has (-l) := by
  unfold of
  rcases ofGo_cases R.tr l with ⟨a, b⟩ | ⟨a, b⟩ | ⟨a, b⟩
  · exact ⟨fun e => by omega, fun e => absurd (h.not_both b e) (fun h => h)⟩
  · exact ⟨fun _ => b, fun _ => a⟩
  · exact ⟨fun e => by omega, fun ⟨p, hp, e⟩ => absurd e (b p hp).2⟩
theorem of_range (R : RS) (l : Int) : R.of l = 1 ∨ R.of l = -1 ∨ R.of l = 0 := by
  unfold of
  rcases ofGo_cases R.tr l with ⟨a, b⟩ | ⟨a, b⟩ | ⟨a, b⟩
  · exact .inl a
  · exact .inr (.inl a)
  · exact .inr (.inr a)

theorem Fit.new {n : Nat} (hn : n ≤ 1048576) : Fit ⟨n, 0, 0, [], [], false⟩ :=
  ⟨fun p h => (by cases h), List.nodup_nil, fun p h => (by cases h), ⟨Int.natCast_nonneg n, by show (n : Int) ≤ _; omega⟩, Int.le_refl _, fun c h => (by cases h)⟩

theorem Fit.push {R : RS} (h : R.Fit) {l L : Int} (hl : l ≠ 0 ∧ -R.n ≤ l ∧ l ≤ R.n) (hz : R.of l = 0) (hL : R.level ≤ L) : Fit { R with level := L, tr := R.tr ++ [(l, L)] } := by
  have h0 := h.lev0
  have a := h.of_one (l := l)
  have b := h.of_minus (l := l)
  refine ⟨fun p hp => ?_, ?_, fun p hp => ?_, h.n_le, by show 0 ≤ L; omega, h.lit⟩
  · rcases List.mem_append.1 hp with hp | hp
    · exact h.rng p hp
    · rw [List.mem_singleton.1 hp]; exact hl
  · show ((R.tr ++ [(l, L)]).map fun p => p.1.natAbs).Nodup
    rw [List.map_append, List.nodup_append]
    refine ⟨h.nd, by simp, fun x hx y hy => ?_⟩
    obtain ⟨p, hp, rfl⟩ := List.mem_map.1 hx
    have hy : y = l.natAbs := by simpa using hy
    subst hy
    intro he
    have hc : p.1 = l ∨ p.1 = -l := by omega
    rcases hc with hc | hc
    · have := a.2 ⟨p, hp, hc⟩; omega
    · have := b.2 ⟨p, hp, hc⟩; omega
  · show 0 ≤ p.2 ∧ p.2 ≤ L
    rcases List.mem_append.1 hp with hp | hp
    · have := h.lev p hp; omega
    · rw [List.mem_singleton.1 hp]; exact ⟨by show 0 ≤ L; omega, Int.le_refl _⟩

theorem Fit.mark {R : RS} (h : R.Fit) (b : Bool) : Fit { R with bad := b } := ⟨h.rng, h.nd, h.lev, h.n_le, h.lev0, h.lit⟩
theorem Fit.more {R : RS} (h : R.Fit) (c : List Int) (hc : ∀ l, l ∈ c → l ≠ 0 ∧ -R.n ≤ l ∧ l ≤ R.n) (m : Int) : Fit { R with all := R.all ++ [c], lits := m } :=
  ⟨h.rng, h.nd, h.lev, h.n_le, h.lev0, fun d hd l hl => by
    rcases List.mem_append.1 hd with hd | hd
    · exact h.lit d hd l hl
    · rw [List.mem_singleton.1 hd] at hl; exact hc l hl⟩
theorem Fit.rear {R : RS} (h : R.Fit) {level : Int} (h0 : 0 ≤ level) (b : Bool) : Fit { R with tr := R.tr.filter (fun p => decide (p.2 ≤ level)), bad := b, level := level } :=
  ⟨fun p hp => h.rng p (List.mem_filter.1 hp).1, (List.Nodup.sublist (List.Sublist.map _ List.filter_sublist) h.nd), fun p hp => ⟨(h.lev p (List.mem_filter.1 hp).1).1, by simpa using (List.mem_filter.1 hp).2⟩, h.n_le, h0, h.lit⟩

/-- the trail grown by units -/
structure Grows (R R' : RS) : Prop where
  n : R'.n = R.n
  level : R'.level = R.level
  lits : R'.lits = R.lits
  all : R'.all = R.all
  ex : ∃ t : List Int, R'.tr = R.tr ++ t.map (fun l => (l, R.level)) ∧ ∀ i, i < t.length → ∃ c, c ∈ R.all ∧ t.getD i 0 ∈ c ∧ ∀ m, m ∈ c → m ≠ t.getD i 0 → R.has (-m) ∨ -m ∈ t.take i

theorem Grows.refl (R : RS) : Grows R R := ⟨rfl, rfl, rfl, rfl, [], by simp, fun i h => absurd h (Nat.not_lt_zero _)⟩

theorem Grows.push {R R' : RS} (h : Grows R R') {l : Int} {c : List Int} (hc : c ∈ R.all) (hl : l ∈ c) (ho : ∀ m, m ∈ c → m ≠ l → R'.has (-m)) : Grows R { R' with tr := R'.tr ++ [(l, R'.level)] } := by
  obtain ⟨t, h1, h2⟩ := h.ex
  refine ⟨h.n, h.level, h.lits, h.all, t ++ [l], ?_, fun i hi => ?_⟩
  · show R'.tr ++ [(l, R'.level)] = _
    rw [h1, h.level, List.map_append, List.append_assoc]
    rfl
  · rw [List.length_append, List.length_singleton] at hi
    by_cases hlt : i < t.length
    · obtain ⟨d, a1, a2, a3⟩ := h2 i hlt
      have e : (t ++ [l]).getD i 0 = t.getD i 0 := by simp [List.getD, List.getElem?_append_left hlt]
      rw [e]
      refine ⟨d, a1, a2, fun m hm hne => (a3 m hm hne).imp id fun hh => ?_⟩
      rw [List.take_append_of_le_length (by omega)]
      exact hh
    · obtain rfl : i = t.length := by omega
      have e : (t ++ [l]).getD t.length 0 = l := by simp [List.getD]
      rw [e]
      refine ⟨c, hc, hl, fun m hm hne => ?_⟩
      obtain ⟨p, hp, e2⟩ := ho m hm hne
      rw [h1, List.mem_append] at hp
      rcases hp with hp | hp
      · exact .inl ⟨p, hp, e2⟩
      · obtain ⟨x, hx, rfl⟩ := List.mem_map.1 hp
        right
        have e2 : x = -m := e2
        rw [List.take_append_of_le_length (Nat.le_refl _), List.take_length]
        exact e2 ▸ hx

/-- no clause is false or a unit -/
def Closed (R : RS) : Prop := ∀ c, c ∈ R.all → (∃ a, a ∈ c ∧ R.of a = 1) ∨ ∃ a b, a ∈ c ∧ b ∈ c ∧ a ≠ b ∧ R.of a = 0 ∧ R.of b = 0

/-- a Propagate of the document's -/
structure Prop_ (R R' : RS) (good : Bool) : Prop where
  fit : R'.Fit
  bad : R.bad = true → R' = R ∧ good = false
  grows : R.bad = false → Grows R R' ∧ R'.bad = !good
  yes : good = true → R'.Closed
  no : R.bad = false → good = false → ∃ c, c ∈ R'.all ∧ ∀ l, l ∈ c → R'.of l = -1
end RS

/-- the two engines say the same -/
structure Sim (S : ES) (R : RS) : Prop where
  n : R.n = (S.n : Int)
  level : R.level = (S.mks.length : Int)
  lits : R.lits = (S.lits : Int)
  all : R.all = S.cs
  bad : R.bad = true ↔ S.clash ≠ 0
  same : ∀ l lev, (lev < R.level ∨ R.bad = false) → ((l, lev) ∈ R.tr ↔ l ∈ S.tr ∧ (S.lv l : Int) = lev)

namespace Sim
open ES
variable {S : ES} {R : RS}

theorem has (h : Sim S R) (hb : R.bad = false) (l : Int) : R.has l ↔ l ∈ S.tr := by
  constructor
  · rintro ⟨p, hp, e⟩
    have := (h.same l p.2 (.inr hb)).1 (by rw [← e]; exact hp)
    exact this.1
  · intro hl
    exact ⟨(l, (S.lv l : Int)), (h.same l _ (.inr hb)).2 ⟨hl, rfl⟩, rfl⟩

theorem of (h : Sim S R) (hb : R.bad = false) (hg : S.Good) (hf : R.Fit) {l : Int} (hl : l ≠ 0) : R.of l = S.of l := by
  have a := hf.of_one (l := l)
  have b := hf.of_minus (l := l)
  have c := of_one hg.inv.core hl
  have d := of_minus hg.inv.core hl
  rw [h.has hb] at a b
  have e := R.of_range l
  have f := ES.of_range hg.inv.core l
  by_cases h1 : l ∈ S.tr
  · rw [a.2 h1, c.2 h1]
  · by_cases h2 : -l ∈ S.tr
    · rw [b.2 h2, d.2 h2]
    · have e1 : R.of l ≠ 1 := fun e => h1 (a.1 e)
      have e2 : R.of l ≠ -1 := fun e => h2 (b.1 e)
      have e3 : S.of l ≠ 1 := fun e => h1 (c.1 e)
      have e4 : S.of l ≠ -1 := fun e => h2 (d.1 e)
      omega

theorem new {n : Nat} : Sim (ES.new n) ⟨n, 0, 0, [], [], false⟩ :=
  ⟨rfl, rfl, rfl, rfl, by simp [ES.new], fun l lev _ => by simp [ES.new]⟩

theorem add (h : Sim S R) (c : List Int) : Sim (S.addOk c) { R with all := R.all ++ [c], lits := R.lits + c.length } :=
  ⟨h.n, h.level, by show R.lits + _ = ((S.lits + c.length : Nat) : Int); rw [h.lits]; simp, by show R.all ++ [c] = S.cs ++ [c]; rw [h.all], h.bad, h.same⟩
end Sim
end Go.Proofs.Ytaileihnkmjfiaa
namespace Go.Proofs.Ytaileihnkmjfiaa
namespace Sim
open ES
variable {S : ES} {R : RS}

theorem deep (h : Sim S R) (hb : R.bad = false) (hg : S.Good) {l : Int} (hl : S.isLit l) (hz : S.of l = 0) : Sim (S.deep l) { R with level := R.level + 1, tr := R.tr ++ [(l, R.level + 1)] } := by
  have hc := hg.inv.core
  have hv := of_zero.1 hz
  have hno : ∀ x, x ∈ S.tr → x.natAbs ≠ l.natAbs := by
    intro x hx he
    have h1 := hc.val_eq x hx
    rw [he, hv] at h1
    rcases sg_cases (hc.tr_rng x hx).1 with ⟨_, h2, _⟩ | ⟨_, h2, _⟩ <;> omega
  have hll : l.natAbs < S.lev.length := by have := hc.lev_len; have := hl.2; omega
  have hlv : ∀ x, x ∈ S.tr → (S.deep l).lv x = S.lv x := by
    intro x hx
    show (S.lev.set l.natAbs (S.mks ++ [S.tr.length]).length).getD x.natAbs 0 = S.lev.getD x.natAbs 0
    rw [getD_set, if_neg (fun hh => hno x hx hh.1.symm)]
  have hlv2 : (S.deep l).lv l = S.mks.length + 1 := by
    show (S.lev.set l.natAbs (S.mks ++ [S.tr.length]).length).getD l.natAbs 0 = _
    rw [getD_set, if_pos ⟨rfl, hll⟩]
    simp
  refine ⟨h.n, ?_, h.lits, h.all, h.bad, fun x lev _ => ?_⟩
  · show R.level + 1 = (((S.mks ++ [S.tr.length]).length : Nat) : Int)
    rw [h.level]; simp
  · show (x, lev) ∈ R.tr ++ [(l, R.level + 1)] ↔ x ∈ S.tr ++ [l] ∧ _
    rw [List.mem_append, List.mem_singleton, List.mem_append, List.mem_singleton, h.same x lev (.inr hb)]
    constructor
    · rintro (⟨h1, h2⟩ | e)
      · exact ⟨.inl h1, by rw [hlv x h1]; exact h2⟩
      · cases e
        exact ⟨.inr rfl, by rw [hlv2, h.level]; simp⟩
    · rintro ⟨h1 | rfl, h2⟩
      · exact .inl ⟨h1, by rw [hlv x h1] at h2; exact h2⟩
      · rw [hlv2] at h2
        right
        rw [h.level, ← h2]; simp

theorem rear (h : Sim S R) (hg : S.Good) {level : Nat} (hl : level < S.mks.length) : Sim (S.rear level) { R with tr := R.tr.filter (fun p => decide (p.2 ≤ (level : Int))), bad := false, level := level } := by
  obtain ⟨g2, r⟩ := hg.rear hl
  have hle : (level : Int) < R.level := by rw [h.level]; omega
  refine ⟨by rw [r.n]; exact h.n, by rw [r.mks]; simp; omega, by rw [r.lits]; exact h.lits, by rw [r.cs]; exact h.all, by rw [r.clash]; simp, fun x lev _ => ?_⟩
  show (x, lev) ∈ R.tr.filter _ ↔ _
  rw [List.mem_filter, decide_eq_true_eq]
  have hs := lev_side hg.inv.core hl (l := x)
  constructor
  · rintro ⟨h1, h2⟩
    obtain ⟨h3, h4⟩ := (h.same x lev (.inl (by omega))).1 h1
    have hin : x ∈ (S.rear level).tr := by
      rw [r.tr]
      rw [← List.take_append_drop (S.mks.getD level 0) S.tr, List.mem_append] at h3
      rcases h3 with h3 | h3
      · exact h3
      · have := hs.2 h3; omega
    exact ⟨hin, by rw [r.lv x hin]; exact h4⟩
  · rintro ⟨h1, h2⟩
    rw [r.lv x h1] at h2
    rw [r.tr] at h1
    have := hs.1 h1
    exact ⟨(h.same x lev (.inl (by omega))).2 ⟨List.mem_of_mem_take h1, h2⟩, by omega⟩

theorem newlev {S S' : ES} (hg : S.Good) (hg' : S'.Good) (go : Goes S S') {x : Int} (h1 : x ∈ S'.tr) (h2 : x ∉ S.tr) : S'.lv x = S'.mks.length := by
  obtain ⟨i, hi, he⟩ := mem_getD (0 : Int) h1
  obtain ⟨t, ht⟩ := go.tr
  have hge : S.tr.length ≤ i := by
    apply Classical.byContradiction
    intro hlt
    apply h2
    rw [← he, ht]
    have e : (S.tr ++ t).getD i 0 = S.tr.getD i 0 := by
      have hlt : i < S.tr.length := by omega
      simp [List.getD, List.getElem?_append_left hlt]
    rw [e]
    exact getD_mem' 0 (by omega)
  obtain ⟨a, b, c⟩ := hg'.inv.core.lev_tr i hi
  unfold ES.lv
  rw [he] at a b c
  apply Classical.byContradiction
  intro hne
  have := c (S'.lev.getD x.natAbs 0) (Nat.le_refl _) (by omega)
  have h3 := hg.inv.core.mks_lt (S'.lev.getD x.natAbs 0) (by rw [← go.mks]; omega)
  rw [go.mks] at this
  omega

theorem propagate {S' : ES} {R' : RS} {gs gr : Bool} (h : Sim S R) (hb : R.bad = false) (hg : S.Good) (hg' : S'.Good) (go : Goes S S')
    (hy : gs = true → S'.clash = 0 ∧ S'.fr = [] ∧ S'.head = S'.tr.length) (hn : gs = false → S'.clash ≠ 0) (hp : RS.Prop_ R R' gr) : gr = gs ∧ Sim S' R' := by
  obtain ⟨gw, hbad⟩ := hp.grows hb
  obtain ⟨t, ht, hw⟩ := gw.ex
  obtain ⟨u, hu⟩ := go.tr
  have hf' := hp.fit
  have hc' := hg'.inv.core
  have hall : R'.all = S'.cs := by rw [gw.all, h.all, go.cs]
  have hold : ∀ l, R.has l → R'.has l := fun l ⟨p, a, b⟩ => ⟨p, by rw [ht]; exact List.mem_append_left _ a, b⟩
  have hsub : ∀ l, l ∈ S.tr → l ∈ S'.tr := fun l hl => by rw [hu]; exact List.mem_append_left _ hl
  have hnz : ∀ c, c ∈ S'.cs → ∀ l, l ∈ c → l ≠ 0 := fun c hcc l hl => (hg'.inv.lit_rng c hcc l hl).1
  have closedS : gs = true → ∀ c, c ∈ S'.cs → (∃ a, a ∈ c ∧ S'.of a = 1) ∨ ∃ a b, a ∈ c ∧ b ∈ c ∧ a ≠ b ∧ S'.of a = 0 ∧ S'.of b = 0 := by
    intro hgs c hcc
    obtain ⟨k, hk, rfl⟩ := mem_getD ([] : List Int) hcc
    obtain ⟨a1, a2, a3⟩ := hy hgs
    exact hg'.closed a1 a2 a3 hk
  have claimA : gs = true → ∀ l, R'.has l → l ∈ S'.tr := by
    intro hgs
    have key : ∀ n i, i < n → i < t.length → t.getD i 0 ∈ S'.tr := by
      intro n
      induction n with
      | zero => intro i hi; omega
      | succ n ih =>
        intro i hi hlt
        obtain ⟨c, c1, c2, c3⟩ := hw i hlt
        have hcs : c ∈ S'.cs := by rw [go.cs, ← h.all]; exact c1
        have hm : ∀ m, m ∈ c → m ≠ t.getD i 0 → S'.of m = -1 := by
          intro m hm hne
          refine (of_minus hc' (hnz c hcs m hm)).2 ?_
          rcases c3 m hm hne with h1 | h1
          · exact hsub _ ((h.has hb _).1 h1)
          · obtain ⟨j, hj, hje⟩ := mem_getD (0 : Int) h1
            rw [List.length_take] at hj
            rw [getD_take, if_pos (by omega)] at hje
            rw [← hje]
            exact ih j (by omega) (by omega)
        rcases closedS hgs c hcs with ⟨a, a1, a2⟩ | ⟨a, b, a1, a2, a3, a4, a5⟩
        · by_cases he : a = t.getD i 0
          · rw [← he]; exact (of_one hc' (hnz c hcs a a1)).1 a2
          · have := hm a a1 he; omega
        · by_cases he : a = t.getD i 0
          · have := hm b a2 (fun e => a3 (he.trans e.symm)); omega
          · have := hm a a1 he; omega
    rintro l ⟨p, hp1, rfl⟩
    rw [ht, List.mem_append] at hp1
    rcases hp1 with hp1 | hp1
    · exact hsub _ ((h.has hb _).1 ⟨p, hp1, rfl⟩)
    · obtain ⟨x, hx, rfl⟩ := List.mem_map.1 hp1
      obtain ⟨i, hi, he⟩ := mem_getD (0 : Int) hx
      show x ∈ S'.tr
      rw [← he]
      exact key (i + 1) i (by omega) hi
  have claimB : gr = true → ∀ l, l ∈ S'.tr → R'.has l := by
    intro hgr
    have key : ∀ n i, i < n → i < S'.tr.length → R'.has (S'.tr.getD i 0) := by
      intro n
      induction n with
      | zero => intro i hi; omega
      | succ n ih =>
        intro i hi hlt
        by_cases hlo : i < S.tr.length
        · have e : S'.tr.getD i 0 = S.tr.getD i 0 := by rw [hu]; simp [List.getD, List.getElem?_append_left hlo]
          rw [e]
          exact hold _ ((h.has hb _).2 (getD_mem' 0 hlo))
        · rcases hg'.inv.why i hlt with ⟨a, _⟩ | ⟨_, k, b1, _, b3, b4⟩
          · rw [go.mks] at a
            obtain ⟨j, hj, he⟩ := mem_getD (0 : Nat) a
            have := hg.inv.core.mks_lt j hj
            omega
          · have hcs : S'.cs.getD k [] ∈ S'.cs := getD_mem' [] b1
            have hm : ∀ m, m ∈ S'.cs.getD k [] → m ≠ S'.tr.getD i 0 → R'.of m = -1 := by
              intro m hm hne
              refine (hf'.of_minus).2 ?_
              obtain ⟨j, hj, hje⟩ := mem_getD (0 : Int) (b4 m hm hne)
              rw [List.length_take] at hj
              rw [getD_take, if_pos (by omega)] at hje
              rw [← hje]
              exact ih j (by omega) (by omega)
            rcases hp.yes hgr _ (by rw [hall]; exact hcs) with ⟨a, a1, a2⟩ | ⟨a, b, a1, a2, a3, a4, a5⟩
            · by_cases he : a = S'.tr.getD i 0
              · rw [← he]; exact hf'.of_one.1 a2
              · have := hm a a1 he; omega
            · by_cases he : a = S'.tr.getD i 0
              · have := hm b a2 (fun e => a3 (he.trans e.symm)); omega
              · have := hm a a1 he; omega
    intro l hl
    obtain ⟨i, hi, he⟩ := mem_getD (0 : Int) hl
    rw [← he]
    exact key (i + 1) i (by omega) hi
  have hst : gs = true → gr = true := by
    intro hgs
    cases hgr : gr with
    | true => rfl
    | false =>
      obtain ⟨c, c1, c2⟩ := hp.no hb hgr
      rw [hall] at c1
      have hm : ∀ l, l ∈ c → S'.of l = -1 := fun l hl => (of_minus hc' (hnz c c1 l hl)).2 (claimA hgs _ (hf'.of_minus.1 (c2 l hl)))
      rcases closedS hgs c c1 with ⟨a, a1, a2⟩ | ⟨a, b, a1, a2, a3, a4, a5⟩
      · have := hm a a1; omega
      · have := hm a a1; omega
  have hts : gr = true → gs = true := by
    intro hgr
    cases hgs : gs with
    | true => rfl
    | false =>
      have hcl := hn hgs
      have hle := hg'.inv.clash_le
      have hk : S'.clash - 1 < S'.cs.length := by omega
      have hm : ∀ l, l ∈ S'.cs.getD (S'.clash - 1) [] → R'.of l = -1 := fun l hl => hf'.of_minus.2 (claimB hgr _ (hg'.inv.clash_false hcl l hl))
      rcases hp.yes hgr _ (by rw [hall]; exact getD_mem' [] hk) with ⟨a, a1, a2⟩ | ⟨a, b, a1, a2, a3, a4, a5⟩
      · have := hm a a1; omega
      · have := hm a a1; omega
  have hgg : gr = gs := by
    cases hgr : gr with
    | true => exact (hts hgr).symm
    | false =>
      cases hgs : gs with
      | true => have := hst hgs; rw [hgr] at this; cases this
      | false => rfl
  have hlevel : R'.level = (S'.mks.length : Int) := by rw [gw.level, h.level, go.mks]
  have hnew : ∀ x lev, (x, lev) ∈ t.map (fun l => (l, R.level)) → x ∉ S.tr := by
    intro x lev hx hs
    obtain ⟨p, hp1, hp2⟩ := (h.has hb x).2 hs
    have hnd := hf'.nd
    rw [ht, List.map_append] at hnd
    have := (List.nodup_append.1 hnd).2.2 p.1.natAbs (List.mem_map.2 ⟨p, hp1, rfl⟩) x.natAbs (List.mem_map.2 ⟨(x, lev), hx, rfl⟩)
    rw [hp2] at this
    exact this rfl
  refine ⟨hgg, by rw [gw.n, h.n, go.n], hlevel, by rw [gw.lits, h.lits, go.lits], hall, ?_, fun x lev hcase => ?_⟩
  · rw [hbad, hgg]
    cases hgs : gs with
    | true => simp [(hy hgs).1]
    | false => simp [hn hgs]
  · rw [ht, List.mem_append]
    constructor
    · rintro (hx | hx)
      · obtain ⟨h1, h2⟩ := (h.same x lev (.inr hb)).1 hx
        exact ⟨hsub x h1, by rw [go.lv x h1]; exact h2⟩
      · have hxs := hnew x lev hx
        obtain ⟨y, hy1, e⟩ := List.mem_map.1 hx
        cases e
        rcases hcase with hc | hc
        · rw [gw.level] at hc; omega
        · have hgs : gs = true := by rw [hbad, hgg] at hc; simpa using hc
          have hin := claimA hgs x ⟨(x, R.level), by rw [ht]; exact List.mem_append_right _ hx, rfl⟩
          exact ⟨hin, by rw [newlev hg hg' go hin hxs, ← hlevel, gw.level]⟩
    · rintro ⟨h1, h2⟩
      by_cases hxs : x ∈ S.tr
      · left
        rw [go.lv x hxs] at h2
        exact (h.same x lev (.inr hb)).2 ⟨hxs, h2⟩
      · right
        have hnl := newlev hg hg' go h1 hxs
        have e : lev = R.level := by rw [← h2, hnl, ← hlevel, gw.level]
        rcases hcase with hc | hc
        · rw [gw.level] at hc; omega
        · have hgr : gr = true := by rw [hbad] at hc; simpa using hc
          obtain ⟨p, hp1, hp2⟩ := claimB hgr x h1
          rw [ht, List.mem_append] at hp1
          rcases hp1 with hp1 | hp1
          · exact absurd ((h.has hb x).1 ⟨p, hp1, hp2⟩) hxs
          · obtain ⟨y, hy1, rfl⟩ := List.mem_map.1 hp1
            have hp2 : y = x := hp2
            rw [e, ← hp2]
            exact List.mem_map.2 ⟨y, hy1, rfl⟩

theorem clash (h : Sim S R) (hb : R.bad = true) : S.clash ≠ 0 := h.bad.1 hb
end Sim
end Go.Proofs.Ytaileihnkmjfiaa
namespace Go.Proofs.Ytaileihnkmjfiaa
open Go.RowKit

theorem Try.info80 : (Try.prog.info? 80).map (fun i => (i.zero, i.size, i.bytes)) = some (some (.agg #[.int .i64 0, .int .i64 0]), 2, 16) := by kernel_rfl

/-- the struct's fields -/
abbrev rmk (R : RS) : Value → Value → List Value := fun a t => [i64 R.n, i64 R.level, i64 R.lits, a, t, .bool R.bad]
/-- the document's engine at block b -/
abbrev Rf (w : World) (b : Nat) (G : GH) (R : RS) : Prop := Ob 50 6 80 2 w b G (rmk R) R.all R.tr.length (pairs R.tr)

theorem pairs_get2 (tr : List (Int × Int)) (k : Nat) (h : k < tr.length) : (pairs tr)[k * 2]? = some (i64 (tr.getD k (0, 0)).1) ∧ (pairs tr)[k * 2 + 1]? = some (i64 (tr.getD k (0, 0)).2) := by
  rw [Nat.mul_comm]
  exact pairs_get tr k h

section
variable {w : World} {b : Nat} {G : GH} {R : RS}
theorem Ob.r0 (h : Rf w b G R) : w.cell? ⟨b, 0, none⟩ = some (i64 R.n) := h.field (i := 0) rfl
theorem Ob.r1 (h : Rf w b G R) : w.cell? ⟨b, 1, none⟩ = some (i64 R.level) := h.field (i := 1) rfl
theorem Ob.r2 (h : Rf w b G R) : w.cell? ⟨b, 2, none⟩ = some (i64 R.lits) := h.field (i := 2) rfl
theorem Ob.r3 (h : Rf w b G R) : w.cell? ⟨b, 3, none⟩ = some (.slice (Option.map (fun g => { block := g, off := 0 }) (G.g (.inl 1))) R.all.length (G.c (.inl 1))) := h.field (i := 3) rfl
theorem Ob.r4 (h : Rf w b G R) : w.cell? ⟨b, 4, none⟩ = some (.slice (Option.map (fun g => { block := g, off := 0 }) (G.g (.inl 3))) R.tr.length (G.c (.inl 3))) := h.field (i := 4) rfl
theorem Ob.r5 (h : Rf w b G R) : w.cell? ⟨b, 5, none⟩ = some (.bool R.bad) := h.field (i := 5) rfl
theorem Ob.g1 (h : Rf w b G R) {g k : Nat} (hg : G.g (.inl 3) = some g) (hk : k < R.tr.length) : w.cell? ⟨g, k * 2, none⟩ = some (i64 (R.tr.getD k (0, 0)).1) := h.e2 hg (pairs_get2 R.tr k hk).1
theorem Ob.g2 (h : Rf w b G R) {g k : Nat} (hg : G.g (.inl 3) = some g) (hk : k < R.tr.length) : w.cell? ⟨g, k * 2 + 1, none⟩ = some (i64 (R.tr.getD k (0, 0)).2) := h.e2 hg (pairs_get2 R.tr k hk).2
end

theorem RS.Fit.tr_len {R : RS} (h : R.Fit) : (R.tr.length : Int) ≤ R.n := by
  have := nodup_len R.n.toNat ((R.tr.map fun p => p.1.natAbs).map (· - 1)) ?_ ?_
  · have h0 := h.n_le.1
    simp only [List.length_map] at this
    omega
  · refine List.Pairwise.map _ ?_ (List.Pairwise.and_mem.1 h.nd)
    intro a b ⟨ha, hb, hab⟩
    simp only [List.mem_map] at ha hb
    obtain ⟨x, hx, rfl⟩ := ha
    obtain ⟨y, hy, rfl⟩ := hb
    have := (h.rng x hx).1
    have := (h.rng y hy).1
    omega
  · intro x hx
    simp only [List.map_map, List.mem_map, Function.comp] at hx
    obtain ⟨l, hl, rfl⟩ := hx
    have := h.rng l hl
    omega

theorem may_any (b : Nat) (G : GH) (R : RS) (l : Int) (w : World) (h : Rf w b G R) (hn : 0 ≤ R.n ∧ R.n ≤ 1048576) :
    Calls Try.prog 56 #[.pointer (some ⟨b, 0, none⟩), i64 l] w fun e w' => e = .returned (.bool (decide (l ≠ 0 ∧ -R.n ≤ l ∧ l ≤ R.n))) ∧ w = w' := by
  have r0 := h.r0
  obtain ⟨hn1, hn2⟩ := hn
  by_cases h0 : l = 0
  · have HD : Hid (decide (l ≠ 0 ∧ -R.n ≤ l ∧ l ≤ R.n) = false) := by show _ = _; simp [h0]
    have hb : (l != 0) = false := by simpa using h0
    rw [HD.out]
    clear h0
    go_enter Try.func56, Try.ntmps56
    go_wp2
    go_ret
    exact ⟨rfl, rfl⟩
  · have hb : (l != 0) = true := by simpa using h0
    by_cases h1 : -R.n ≤ l
    · by_cases h2 : l ≤ R.n
      · have HD : Hid (decide (l ≠ 0 ∧ -R.n ≤ l ∧ l ≤ R.n) = true) := by show _ = _; simp [h0, h1, h2]
        rw [HD.out]
        clear h0
        go_enter Try.func56, Try.ntmps56
        go_wp2
        go_ret
        exact ⟨rfl, rfl⟩
      · have HD : Hid (decide (l ≠ 0 ∧ -R.n ≤ l ∧ l ≤ R.n) = false) := by show _ = _; simp [h2]
        rw [HD.out]
        clear h0
        go_enter Try.func56, Try.ntmps56
        go_wp2
        go_ret
        exact ⟨rfl, rfl⟩
    · have HD : Hid (decide (l ≠ 0 ∧ -R.n ≤ l ∧ l ≤ R.n) = false) := by show _ = _; simp [h1]
      rw [HD.out]
      clear h0
      go_enter Try.func56, Try.ntmps56
      go_wp2
      go_ret
      exact ⟨rfl, rfl⟩

theorem drop_get {tr : List (Int × Int)} {k : Nat} (hk : k < tr.length) : tr.drop k = tr.getD k (0, 0) :: tr.drop (k + 1) := by
  rw [List.drop_eq_getElem_cons hk]
  simp [List.getD, hk]

set_option maxHeartbeats 1000000 in
theorem of_ref (b : Nat) (G : GH) (R : RS) (l : Int) (w : World) (h : Rf w b G R) (hf : R.Fit) (h1 : -1048576 ≤ l) (h2 : l ≤ 1048576) :
    Calls Try.prog 57 #[.pointer (some ⟨b, 0, none⟩), i64 l] w fun e w' => e = .returned (i64 (R.of l)) ∧ w = w' := by
  have htl := hf.tr_len
  have hnl := hf.n_le
  have r4 := h.r4
  have HR := Lib.hid hf.rng
  go_enter Try.func57, Try.ntmps57
  go_wp2_with fail
  go_loop [5] (fun s5 => ∃ k : Nat, k ≤ R.tr.length ∧ s5 = .int .i64 (k : Nat) ∧ Hid (R.of l = RS.ofGo (R.tr.drop k) l)) (fun s5 => R.tr.length - (intOf s5).toNat)
  case atStart => exact ⟨0, Nat.zero_le _, rfl, by show _ = _; simp [RS.of]⟩
  case round =>
    obtain ⟨k, hk, rfl, Hn⟩ := hrel
    by_cases hlt : k < R.tr.length
    · obtain ⟨g, hg⟩ := h.l2 (by omega)
      have r4' : w.cell? ⟨b, 4, none⟩ = some (.slice (some ⟨g, 0, none⟩) R.tr.length (G.c (.inl 3))) := r4.trans (by rw [hg]; rfl)
      have g1 := h.g1 hg hlt
      have hlt' : (k : Int) < (R.tr.length : Int) := by omega
      have hst : RS.ofGo (R.tr.drop k) l = if (R.tr.getD k (0, 0)).1 = l then 1 else if (R.tr.getD k (0, 0)).1 = -l then -1 else RS.ofGo (R.tr.drop (k + 1)) l := by rw [drop_get hlt]; rfl
      rw [← Hn.out] at hst
      have hx := HR.out _ (getD_mem' (0, 0) hlt)
      generalize (R.tr.getD k (0, 0)).1 = x at *
      obtain ⟨_, hx1, hx2⟩ := hx
      by_cases e1 : x = l
      · rw [if_pos e1] at hst
        have HS := Lib.hid hst
        have hb : (x == l) = true := by simpa using e1
        clear hst e1 r4
        go_wp2_with fail
        go_ret
        exact ⟨by rw [HS.out]; rfl, rfl⟩
      · rw [if_neg e1] at hst
        have hb : (x == l) = false := by simpa using e1
        by_cases e2 : x = -l
        · rw [if_pos e2] at hst
          have HS := Lib.hid hst
          have hb2 : (x == -l) = true := by simpa using e2
          clear hst e1 e2 r4
          go_wp2_with fail
          go_ret
          exact ⟨by rw [HS.out]; rfl, rfl⟩
        · rw [if_neg e2] at hst
          have HS := Lib.hid hst
          have hb2 : (x == -l) = false := by simpa using e2
          clear hst e1 e2 r4
          go_wp2_with fail
          go_round
          case rel => exact ⟨k + 1, by omega, by go_num, HS⟩
          case measure => simp [intOf]; omega
    · obtain rfl : k = R.tr.length := by omega
      have hlt' : ¬ ((R.tr.length : Int) < (R.tr.length : Int)) := by omega
      have HS : Hid (R.of l = 0) := by show _ = _; rw [Hn.out, List.drop_length]; rfl
      go_wp2_with fail
      go_ret
      exact ⟨by rw [HS.out]; rfl, rfl⟩

/-- a variable's value -/
def RS.value (R : RS) (v : Int) : Int := if v < 1 ∨ R.n < v then 0 else R.of v
theorem value_ref (b : Nat) (G : GH) (R : RS) (v : Int) (w : World) (h : Rf w b G R) (hf : R.Fit) :
    Calls Try.prog 45 #[.pointer (some ⟨b, 0, none⟩), i64 v] w fun e w' => e = .returned (i64 (R.value v)) ∧ w = w' := by
  have r0 := h.r0
  have hnl := hf.n_le
  by_cases h1 : v < 1
  · have HV : Hid (R.value v = 0) := by show _ = _; unfold RS.value; rw [if_pos (.inl h1)]
    go_enter Try.func45, Try.ntmps45
    go_wp2
    go_ret
    exact ⟨by rw [HV.out]; rfl, rfl⟩
  · by_cases h2 : R.n < v
    · have HV : Hid (R.value v = 0) := by show _ = _; unfold RS.value; rw [if_pos (.inr h2)]
      go_enter Try.func45, Try.ntmps45
      go_wp2
      go_ret
      exact ⟨by rw [HV.out]; rfl, rfl⟩
    · have HV : Hid (R.value v = R.of v) := by show _ = _; unfold RS.value; rw [if_neg (by omega)]
      have cO := of_ref b G R v w h hf (by omega) (by omega)
      go_enter Try.func45, Try.ntmps45
      go_wp2_with (go_at_call 57; refine cO.mono ?_; rintro e w' ⟨rfl, rfl⟩)
      go_ret
      exact ⟨by rw [HV.out]; rfl, rfl⟩

def RS.levelGo : List (Int × Int) → Int → Int
  | [], _ => -1
  | p :: t, v => if p.1 = v ∨ p.1 = -v then p.2 else RS.levelGo t v
/-- a variable's level -/
def RS.levelOf (R : RS) (v : Int) : Int := if v < 1 then -1 else RS.levelGo R.tr v

set_option maxHeartbeats 2000000 in
theorem levelOf_ref (b : Nat) (G : GH) (R : RS) (v : Int) (w : World) (h : Rf w b G R) (hf : R.Fit) (hv : v ≤ 9223372036854775807) :
    Calls Try.prog 46 #[.pointer (some ⟨b, 0, none⟩), i64 v] w fun e w' => e = .returned (i64 (R.levelOf v)) ∧ w = w' := by
  have htl := hf.tr_len
  have hnl := hf.n_le
  have r4 := h.r4
  have HR := Lib.hid hf.rng
  by_cases h1 : v < 1
  · have HV : Hid (R.levelOf v = -1) := by show _ = _; unfold RS.levelOf; rw [if_pos h1]
    have hd : decide (1 ≤ v) = false := by simpa using h1
    go_enter Try.func46, Try.ntmps46
    go_wp2_with fail
    go_loop [5] (fun s5 => ∃ k : Nat, k ≤ R.tr.length ∧ s5 = .int .i64 (k : Nat)) (fun s5 => R.tr.length - (intOf s5).toNat)
    case atStart => exact ⟨0, Nat.zero_le _, rfl⟩
    case round =>
      obtain ⟨k, hk, rfl⟩ := hrel
      by_cases hlt : k < R.tr.length
      · have hlt' : (k : Int) < (R.tr.length : Int) := by omega
        go_wp2_with fail
        go_round
        case rel => exact ⟨k + 1, by omega, by go_num⟩
        case measure => simp [intOf]; omega
      · obtain rfl : k = R.tr.length := by omega
        have hlt' : ¬ ((R.tr.length : Int) < (R.tr.length : Int)) := by omega
        go_wp2_with fail
        go_ret
        exact ⟨by rw [HV.out]; rfl, rfl⟩
  · have hv1 : 1 ≤ v := by omega
    have HV : Hid (R.levelOf v = RS.levelGo R.tr v) := by show _ = _; unfold RS.levelOf; rw [if_neg h1]
    go_enter Try.func46, Try.ntmps46
    go_wp2_with fail
    go_loop [5] (fun s5 => ∃ k : Nat, k ≤ R.tr.length ∧ s5 = .int .i64 (k : Nat) ∧ Hid (R.levelOf v = RS.levelGo (R.tr.drop k) v)) (fun s5 => R.tr.length - (intOf s5).toNat)
    case atStart => exact ⟨0, Nat.zero_le _, rfl, by show _ = _; rw [HV.out]; simp⟩
    case round =>
      obtain ⟨k, hk, rfl, Hn⟩ := hrel
      by_cases hlt : k < R.tr.length
      · obtain ⟨g, hg⟩ := h.l2 (by omega)
        have r4' : w.cell? ⟨b, 4, none⟩ = some (.slice (some ⟨g, 0, none⟩) R.tr.length (G.c (.inl 3))) := r4.trans (by rw [hg]; rfl)
        have g1 := h.g1 hg hlt
        have g2 := h.g2 hg hlt
        have hlt' : (k : Int) < (R.tr.length : Int) := by omega
        have hst : RS.levelGo (R.tr.drop k) v = if (R.tr.getD k (0, 0)).1 = v ∨ (R.tr.getD k (0, 0)).1 = -v then (R.tr.getD k (0, 0)).2 else RS.levelGo (R.tr.drop (k + 1)) v := by rw [drop_get hlt]; rfl
        rw [← Hn.out] at hst
        have hx := HR.out _ (getD_mem' (0, 0) hlt)
        generalize (R.tr.getD k (0, 0)) = p at *
        obtain ⟨x, lev⟩ := p
        simp only at hst g1 g2 hx
        obtain ⟨_, hx1, hx2⟩ := hx
        by_cases e1 : x = v
        · rw [if_pos (.inl e1)] at hst
          have HS := Lib.hid hst
          have hb : (x == v) = true := by simpa using e1
          clear hst e1 r4
          go_wp2_with fail
          go_ret
          exact ⟨by rw [HS.out]; rfl, rfl⟩
        · have hb : (x == v) = false := by simpa using e1
          by_cases e2 : x = -v
          · rw [if_pos (.inr e2)] at hst
            have HS := Lib.hid hst
            have hb2 : (x == -v) = true := by simpa using e2
            clear hst e1 e2 r4
            go_wp2_with fail
            go_ret
            exact ⟨by rw [HS.out]; rfl, rfl⟩
          · rw [if_neg (by rintro (h | h); exact e1 h; exact e2 h)] at hst
            have HS := Lib.hid hst
            have hb2 : (x == -v) = false := by simpa using e2
            clear hst e1 e2 r4
            go_wp2_with fail
            go_round
            case rel => exact ⟨k + 1, by omega, by go_num, HS⟩
            case measure => simp [intOf]; omega
      · obtain rfl : k = R.tr.length := by omega
        have hlt' : ¬ ((R.tr.length : Int) < (R.tr.length : Int)) := by omega
        have HS : Hid (R.levelOf v = -1) := by show _ = _; rw [Hn.out, List.drop_length]; rfl
        go_wp2_with fail
        go_ret
        exact ⟨by rw [HS.out]; rfl, rfl⟩
end Go.Proofs.Ytaileihnkmjfiaa
namespace Go.Proofs.Ytaileihnkmjfiaa
open Go.RowKit

/-- what Unit tells -/
def UnitSays (R : RS) (c : List Int) (u : Int) (bad : Bool) : Prop :=
  (bad = true → u = 0 ∧ ∀ x, x ∈ c → R.of x = -1) ∧ (bad = false → u ≠ 0 → u ∈ c ∧ R.of u = 0 ∧ ∀ x, x ∈ c → x ≠ u → R.of x = -1) ∧
  (bad = false → u = 0 → (∃ a, a ∈ c ∧ R.of a = 1) ∨ ∃ a b, a ∈ c ∧ b ∈ c ∧ a ≠ b ∧ R.of a = 0 ∧ R.of b = 0)

/-- what is known behind j literals -/
def Units (R : RS) (c : List Int) (j : Nat) (u : Int) : Prop :=
  (u = 0 → ∀ x, x ∈ c.take j → R.of x = -1) ∧ (u ≠ 0 → u ∈ c.take j ∧ R.of u = 0 ∧ ∀ x, x ∈ c.take j → x ≠ u → R.of x = -1)

theorem Units.minus {R : RS} {c : List Int} {j : Nat} {u : Int} (h : Units R c j u) (hj : j < c.length) (hz : R.of (c.getD j 0) = -1) : Units R c (j + 1) u := by
  refine ⟨fun hu x hx => ?_, fun hu => ⟨(mem_take_succ hj _).2 (.inl (h.2 hu).1), (h.2 hu).2.1, fun x hx hne => ?_⟩⟩
  · rcases (mem_take_succ hj x).1 hx with h1 | rfl
    · exact h.1 hu x h1
    · exact hz
  · rcases (mem_take_succ hj x).1 hx with h1 | rfl
    · exact (h.2 hu).2.2 x h1 hne
    · exact hz
theorem Units.open_ {R : RS} {c : List Int} {j : Nat} {u : Int} (h : Units R c j u) (hj : j < c.length) (hx0 : c.getD j 0 ≠ 0) (hz : R.of (c.getD j 0) = 0) (ho : u = 0 ∨ u = c.getD j 0) : Units R c (j + 1) (c.getD j 0) := by
  refine ⟨fun hu => absurd hu hx0, fun _ => ⟨(mem_take_succ hj _).2 (.inr rfl), hz, fun x hx hne => ?_⟩⟩
  rcases (mem_take_succ hj x).1 hx with h1 | rfl
  · rcases ho with ho | ho
    · exact h.1 ho x h1
    · exact (h.2 (by rw [ho]; exact hx0)).2.2 x h1 (by rw [ho]; exact hne)
  · exact absurd rfl hne
theorem Units.two {R : RS} {c : List Int} {j : Nat} {u : Int} (h : Units R c j u) (hj : j < c.length) (hz : R.of (c.getD j 0) = 0) (ho : u ≠ 0) (ho2 : u ≠ c.getD j 0) : UnitSays R c 0 false :=
  ⟨fun h => (by cases h), fun _ h => absurd rfl h, fun _ _ => .inr ⟨u, c.getD j 0, List.mem_of_mem_take (h.2 ho).1, getD_mem' 0 hj, ho2, (h.2 ho).2.1, hz⟩⟩
theorem Units.one {R : RS} {c : List Int} {j : Nat} (hj : j < c.length) (hz : R.of (c.getD j 0) = 1) : UnitSays R c 0 false :=
  ⟨fun h => (by cases h), fun _ h => absurd rfl h, fun _ _ => .inl ⟨c.getD j 0, getD_mem' 0 hj, hz⟩⟩
theorem Units.done {R : RS} {c : List Int} {u : Int} (h : Units R c c.length u) : UnitSays R c u (u == 0) := by
  unfold Units at h
  rw [List.take_length] at h
  refine ⟨fun hb => ?_, fun _ hu => h.2 hu, fun hb hu => ?_⟩
  · have hu : u = 0 := by simpa using hb
    exact ⟨hu, h.1 hu⟩
  · have : u ≠ 0 := by simpa using hb
    exact absurd hu this

def UnitEnd (R : RS) (c : List Int) (w : World) (e : Ending) (w' : World) : Prop := ∃ u bad, e = .returned (.tuple #[i64 u, .bool bad]) ∧ UnitSays R c u bad ∧ w = w'

set_option maxHeartbeats 4000000 in
theorem unit_ref (b : Nat) (G : GH) (R : RS) (v : Value) (c : List Int) (w : World) (h : Rf w b G R) (hf : R.Fit) (hv : IntsAt w v c) (hc : ∀ l, l ∈ c → l ≠ 0 ∧ -R.n ≤ l ∧ l ≤ R.n) :
    Calls Try.prog 58 #[.pointer (some ⟨b, 0, none⟩), v] w (UnitEnd R c w) := by
  obtain ⟨ao, cap, rfl, k2, k3, k4⟩ := hv
  unfold maxLen at k3
  have hnl := hf.n_le
  have K4 := Lib.hid k4
  have HC := Lib.hid hc
  clear k4 hc
  go_enter Try.func58, Try.ntmps58
  go_wp2_with fail
  go_loop [6, 7] (fun s6 s7 => ∃ (j : Nat) (u : Int), j ≤ c.length ∧ s7 = .int .i64 (j : Nat) ∧ s6 = .int .i64 u ∧ Hid (Units R c j u)) (fun _ s7 => c.length - (intOf s7).toNat)
  case atStart => exact ⟨0, 0, Nat.zero_le _, rfl, rfl, ⟨fun _ x hx => (by simp at hx), fun h => absurd rfl h⟩⟩
  case round =>
    obtain ⟨j, u, hj, rfl, rfl, Hu⟩ := hrel
    by_cases hlt : j < c.length
    · obtain ⟨cb, co, rfl, hcc⟩ := K4.out (by omega)
      have e := hcc j hlt
      have hlt' : (j : Int) < (c.length : Int) := by omega
      have hx := HC.out _ (getD_mem' 0 hlt)
      have cO := of_ref b G R (c.getD j 0) w h hf (by omega) (by omega)
      have hr := R.of_range (c.getD j 0)
      have H1 := Lib.hid (fun hz => Units.one (R := R) (c := c) hlt hz)
      have Hm := Lib.hid (fun hz => Hu.out.minus (R := R) hlt hz)
      have H0 := Lib.hid (fun hz ho => Hu.out.open_ (R := R) hlt hx.1 hz ho)
      have H2 := Lib.hid (fun hz ho ho2 => Hu.out.two (R := R) hlt hz ho ho2)
      have Hcc := Lib.hid hcc
      have Hx := Lib.hid hx
      generalize hxe : c.getD j 0 = x at *
      clear hcc hx hxe Hu
      rcases hr with hz | hz | hz
      · have Hn := Lib.hid (H1.out hz)
        rw [hz] at cO
        clear hz
        go_wp2_with (go_at_call 57; refine cO.mono ?_; rintro e w' ⟨rfl, rfl⟩)
        go_ret2
        exact ⟨0, false, rfl, Hn.out, rfl⟩
      · have Hn := Lib.hid (Hm.out hz)
        rw [hz] at cO
        clear hz
        go_wp2_with (go_at_call 57; refine cO.mono ?_; rintro e w' ⟨rfl, rfl⟩)
        go_round
        case rel => exact ⟨j + 1, u, by omega, by go_num, rfl, Hn.out⟩
        case measure => simp [intOf]; omega
      · have Hz := Lib.hid hz
        rw [hz] at cO
        clear hz
        by_cases ho : u = 0
        · subst ho
          have Hn := Lib.hid (H0.out Hz.out (.inl rfl))
          go_wp2_with (go_at_call 57; refine cO.mono ?_; rintro e w' ⟨rfl, rfl⟩)
          go_round
          case rel => exact ⟨j + 1, x, by omega, by go_num, rfl, Hn.out⟩
          case measure => simp [intOf]; omega
        · have ho1 : (u != 0) = true := by simpa using ho
          by_cases ho2 : u = x
          · have Hn := Lib.hid (H0.out Hz.out (.inr ho2))
            have ho3 : (u != x) = false := by simpa using ho2
            clear ho ho2
            go_wp2_with (go_at_call 57; refine cO.mono ?_; rintro e w' ⟨rfl, rfl⟩)
            go_round
            case rel => exact ⟨j + 1, x, by omega, by go_num, rfl, Hn.out⟩
            case measure => simp [intOf]; omega
          · have Hn := Lib.hid (H2.out Hz.out ho ho2)
            have ho3 : (u != x) = true := by simpa using ho2
            clear ho ho2
            go_wp2_with (go_at_call 57; refine cO.mono ?_; rintro e w' ⟨rfl, rfl⟩)
            go_ret2
            exact ⟨0, false, rfl, Hn.out, rfl⟩
    · obtain rfl : j = c.length := by omega
      have hlt' : ¬ ((c.length : Int) < (c.length : Int)) := by omega
      have Hn := Lib.hid Hu.out.done
      clear Hu
      go_wp2_with fail
      go_ret2
      exact ⟨u, _, rfl, Hn.out, rfl⟩
end Go.Proofs.Ytaileihnkmjfiaa
namespace Go.Proofs.Ytaileihnkmjfiaa
open Go.RowKit

theorem new_two' (w : World) (x y : Value) (T : TypeId) : ∀ a, some (⟨w.heap.size, 0, none⟩ : Addr) = some a → ∀ j u, [x, y][j]? = some u → ((w.alloc (.cells #[x, y] T))).cell? (a.add j) = some u := by
  intro a ha j u hj
  obtain rfl := Option.some.inj ha
  match j, hj with
  | 0, hj => simp at hj; subst hj; simp [Addr.add]
  | 1, hj => simp at hj; subst hj; simp [Addr.add]

/-- a literal more on the trail -/
theorem Ob.pushTr {w w1 : World} {b : Nat} {G : GH} {R : RS} {d : RD} (h : Rf w b G R) (l L : Int) (hrw : Rw w1 80 2 d) (hn : d.n = R.tr.length + 1) (hx : d.xs = pairs R.tr ++ [i64 l, i64 L])
    (hg : d.g = G.g (.inl 3) ∨ ∀ k, d.g = some k → w.heap.size ≤ k) (hgr : w.grownBy w1 (G.g (.inl 3))) :
    Rf (w1.setCell ⟨b, 4, none⟩ d.v) b (G.upd (.inl 3) d) { R with tr := R.tr ++ [(l, L)] } ∧ Turned (fo G) w (fo (G.upd (.inl 3) d)) (w1.setCell ⟨b, 4, none⟩ d.v) := by
  obtain ⟨E, T⟩ := h.put2 4 hrw hg hgr rfl
  refine ⟨?_, T⟩
  have e : d.n = (R.tr ++ [(l, L)]).length := by rw [hn, List.length_append]; rfl
  have e2 : d.xs = pairs (R.tr ++ [(l, L)]) := by rw [hx]; simp [pairs]
  rw [e, e2] at E
  exact E

def PropEnd (b : Nat) (G : GH) (R : RS) (w : World) (e : Ending) (w' : World) : Prop :=
  ∃ good R' G', e = .returned (.bool good) ∧ Rf w' b G' R' ∧ RS.Prop_ R R' good ∧ Turned (fo G) w (fo G') w'

/-- a clause is neither false nor a unit -/
def ClosedAt (R : RS) (c : List Int) : Prop := (∃ a, a ∈ c ∧ R.of a = 1) ∨ ∃ a b, a ∈ c ∧ b ∈ c ∧ a ≠ b ∧ R.of a = 0 ∧ R.of b = 0

/-- in the middle of a pass -/
structure Pass (R R1 R2 : RS) (i : Nat) (more : Bool) : Prop where
  fit : R2.Fit
  grows : RS.Grows R R2
  bad : R2.bad = false
  same : more = false → R2 = R1 ∧ ∀ j, j < i → ClosedAt R2 (R.all.getD j [])
  long : more = true → R1.tr.length < R2.tr.length

set_option maxHeartbeats 8000000 in
set_option maxRecDepth 100000 in
theorem propagate_ref (b : Nat) (G : GH) (R : RS) (w : World) (h : Rf w b G R) (hf : R.Fit) (hall : R.all.length ≤ 1048576) (hcl : ∀ c, c ∈ R.all → c.length ≤ 65536) (_hlev : R.level ≤ 1048577) :
    Calls Try.prog 43 #[.pointer (some ⟨b, 0, none⟩)] w (PropEnd b G R w) := by
  obtain ⟨k0, hk0, kz0, kz1, kz2⟩ := info_parts Try.info80
  have r5 := h.r5
  have htl := hf.tr_len
  have hnl := hf.n_le
  cases hbad : R.bad with
  | true =>
    rw [hbad] at r5
    have HB := Lib.hid hbad
    clear hbad
    go_enter Try.func43, Try.ntmps43
    go_wp2_with fail
    go_ret
    exact ⟨false, R, G, rfl, h, ⟨hf, fun _ => ⟨rfl, rfl⟩, fun hb => (by rw [HB.out] at hb; cases hb), fun hg => (by cases hg), fun hb => (by rw [HB.out] at hb; cases hb)⟩, Turned.refl _ _⟩
  | false =>
    rw [hbad] at r5
    have HB := Lib.hid hbad
    clear hbad
    go_enter Try.func43, Try.ntmps43
    go_wp2_with fail
    clear r5
    go_loopg [3] (R.n.toNat - R.tr.length + 1) (fun gm s3 wr => ∃ (more : Bool) (R1 : RS) (G1 : GH), gm = (if more = true then R.n.toNat - R1.tr.length + 1 else 0) ∧ s3 = .bool more ∧ Rf wr b G1 R1 ∧ Turned (fo G) w (fo G1) wr ∧ R1.Fit ∧ RS.Grows R R1 ∧ R1.bad = false ∧ (more = false → R1.Closed))
    case atStart => exact ⟨true, R, G, rfl, rfl, h, Turned.refl _ _, hf, RS.Grows.refl R, HB.out, fun h => (by cases h)⟩
    case round =>
      obtain ⟨more, R1, G1, hgm, rfl, H1, T1, F1, W1, B1, C1⟩ := hrel
      cases more with
      | false =>
        have HC1 := Lib.hid (C1 rfl)
        have HB1 := Lib.hid B1
        clear C1 B1 hgm
        go_wp2_with fail
        go_ret
        exact ⟨true, R1, G1, rfl, H1, ⟨F1, fun hb => (by rw [HB.out] at hb; cases hb), fun _ => ⟨W1, by rw [HB1.out]; rfl⟩, fun _ => HC1.out, fun _ hg => (by cases hg)⟩, T1⟩
      | true =>
        have Hgm := Lib.hid hgm
        have HW1 := Lib.hid W1
        have HF1 := Lib.hid F1
        have HB1 := Lib.hid B1
        have HT1 := Lib.hid T1
        have HH1 := Lib.hid H1
        clear hgm W1 F1 B1 C1 T1 H1
        go_wp2_with fail
        go_loopg [3, 4] R.all.length (fun gm s3 s4 wx => ∃ (i : Nat) (more : Bool) (R2 : RS) (G2 : GH), gm = R.all.length - i ∧ i ≤ R.all.length ∧ s4 = .int .i64 (i : Nat) ∧ s3 = .bool more ∧ Rf wx b G2 R2 ∧ Turned (fo G) w (fo G2) wx ∧ Pass R R1 R2 i more)
        case atStart => exact ⟨0, false, R1, G1, rfl, Nat.zero_le _, rfl, rfl, HH1.out, HT1.out, HF1.out, HW1.out, HB1.out, fun _ => ⟨rfl, fun j hj => absurd hj (Nat.not_lt_zero _)⟩, fun h => (by cases h)⟩
        case round =>
          obtain ⟨i, more, R2, G2, rfl, hi, rfl, rfl, H2, T2, P2⟩ := hrel
          have hra : R2.all = R.all := P2.grows.all
          have hrn : R2.n = R.n := P2.grows.n
          have hrl : R2.level = R.level := P2.grows.level
          have r3 := H2.r3
          rw [hra] at r3
          by_cases hlt : i < R.all.length
          · have hlt' : (i : Int) < (R.all.length : Int) := by omega
            obtain ⟨g1, hg1⟩ := H2.l1 (by rw [hra]; omega)
            rw [hg1] at r3
            have r3 : wr.cell? ⟨b, 3, none⟩ = some (.slice (some ⟨g1, 0, none⟩) R.all.length (G2.c (.inl 1))) := r3
            have e1 := H2.e1 hg1 (k := i) (by rw [hra]; exact hlt)
            unfold sv at e1
            have hI := (H2.rowk i).reads rfl rfl
            unfold RD.v sv at hI
            rw [hra] at e1 hI
            have hmem := getD_mem' ([] : List Int) hlt
            have hclen := hcl _ hmem
            have cU := unit_ref b G2 R2 _ (R.all.getD i []) wr H2 P2.fit hI (fun l hl => P2.fit.lit _ (by rw [hra]; exact hmem) l hl)
            have hcg : Hid (∀ j, j < i + 1 → j < i ∨ R.all.getD j [] = R.all.getD i []) := fun j hj => by
              by_cases h : j < i
              · exact .inl h
              · obtain rfl : j = i := by omega
                exact .inr rfl
            generalize hc : R.all.getD i [] = c at *
            have Hc := Lib.hid hc
            have Hmem := Lib.hid hmem
            have Hlt := Lib.hid hlt
            have HP2 := Lib.hid P2
            have Hra := Lib.hid hra
            have Hrn := Lib.hid hrn
            have Hrl := Lib.hid hrl
            have htl2 := P2.fit.tr_len
            rw [hrn] at htl2
            clear hc hmem hlt hI P2 hra hrn hrl
            go_wp2_with fail
            refine cU.mono ?_
            rintro e w2 ⟨u, bad, rfl, hu, rfl⟩
            clear cU
            cases bad with
            | true =>
              obtain ⟨rfl, hfalse⟩ := hu.1 rfl
              have Hfalse := Lib.hid hfalse
              have r5 := H2.r5
              rw [HP2.out.bad] at r5
              have y5 := H2.ff 5
              have E5 : Rf (wr.setCell ⟨b, 5, none⟩ (.bool true)) b G2 { R2 with bad := true } := H2.setMk 5 (.bool true) rfl
              have T5 := T2.trans (Turned.setCell wr ⟨b, 5, none⟩ (.bool true) H2.foot_b)
              clear hu hfalse
              go_wp2_with fail
              go_ret
              exact ⟨false, { R2 with bad := true }, G2, rfl, E5, ⟨HP2.out.fit.mark true, fun hb => (by rw [HB.out] at hb; cases hb), fun _ => ⟨⟨Hrn.out, Hrl.out, HP2.out.grows.lits, Hra.out, HP2.out.grows.ex⟩, rfl⟩, fun hg => (by cases hg), fun _ _ => ⟨c, by show c ∈ R2.all; rw [Hra.out]; exact Hmem.out, Hfalse.out⟩⟩, T5⟩
            | false =>
              by_cases hu0 : u = 0
              · subst hu0
                have hcat := hu.2.2 rfl rfl
                have HN : Hid (Pass R R1 R2 (i + 1) more) := ⟨HP2.out.fit, HP2.out.grows, HP2.out.bad, fun hm => ⟨(HP2.out.same hm).1, fun j hj => by
                  rcases hcg.out j hj with h1 | h1
                  · exact (HP2.out.same hm).2 j h1
                  · rw [h1]; exact hcat⟩, HP2.out.long⟩
                clear hu hcat
                go_wp2_with fail
                go_roundg (R.all.length - (i + 1))
                case measure => have := Hlt.out; omega
                case rel => exact ⟨i + 1, more, R2, G2, rfl, by have := Hlt.out; omega, by go_num, rfl, H2, T2, HN.out⟩
              · obtain ⟨hin, hz, hoth⟩ := hu.2.1 rfl hu0
                have hub : (u != 0) = true := by simpa using hu0
                have hlitu := HP2.out.fit.lit _ (by rw [Hra.out]; exact Hmem.out) u hin
                have HN : Hid (Pass R R1 { R2 with tr := R2.tr ++ [(u, R2.level)] } (i + 1) true) :=
                  ⟨HP2.out.fit.push (L := R2.level) hlitu hz (Int.le_refl _), HP2.out.grows.push Hmem.out hin (fun m hm hne => HP2.out.fit.of_minus.1 (hoth m hm hne)), HP2.out.bad, fun h => (by cases h), fun _ => by
                    show R1.tr.length < (R2.tr ++ [(u, R2.level)]).length
                    rw [List.length_append, List.length_singleton]
                    cases more with
                    | true => have := HP2.out.long rfl; omega
                    | false => rw [(HP2.out.same rfl).1]; omega⟩
                have r1 := H2.r1
                have r4 := H2.r4
                have H3 := (H2.alloc (.cells #[i64 u, i64 R2.level] 80)).drew
                have T3 := Lib.hid (T2.trans ((Turned.alloc (fo G2) wr (.cells #[i64 u, i64 R2.level] 80)).trans (Turned.drew _ _)))
                have r4a : (wr.alloc (.cells #[i64 u, i64 R2.level] 80)).cell? ⟨b, 4, none⟩ = some (.slice (Option.map (fun g => { block := g, off := 0 }) (G2.g (.inl 3))) R2.tr.length (G2.c (.inl 3))) := (H2.alloc (.cells #[i64 u, i64 R2.level] 80)).r4
                have hb1 : R2.tr.length + 1 ≤ maxLen := by simp only [maxLen]; omega
                have hb2 : (R2.tr.length + 1) * 16 ≤ 140737488355328 := by omega
                clear hu hu0 hin hz hoth hlitu e1 r3
                go_upto_region 14 with (fail)
                go_region_law ((refine step_append_rw rfl (.tmp 43) (.tmp 50) 48 rfl 80 k0 (.agg #[.int .i64 0, .int .i64 0]) 2 16 Try.underlying48 hk0 kz0 kz1 kz2 rfl (by decide) ⟨G2.g (.inl 3), G2.c (.inl 3), R2.tr.length, pairs R2.tr⟩ rfl (H3.row2) (some ⟨wr.heap.size, 0, none⟩) 1 1 [i64 u, i64 R2.level] rfl rfl (fun h => by cases h) (new_two' wr _ _ 80) (by simp [Value.oneCell']) hb1 hb2 ?_; intro d' w5 rw1 en ex eg hgr; obtain ⟨H4, T4⟩ := H3.pushTr u R2.level rw1 en ex (le_of_new' eg rfl (by simp)) hgr; obtain ⟨y1, y2⟩ := H3.mid (r := .inl 3) (by simp) rfl hgr (i := 4) (u := sv (G2.g (.inl 3)) R2.tr.length (G2.c (.inl 3))) rfl; clear en ex eg hgr))
                all_goals
                  have HT4 := Lib.hid (T3.out.trans T4)
                  clear T4 r4a r4 r1 y1 y2
                  go_wp2_with fail
                  go_roundg (R.all.length - (i + 1))
                  case measure => have := Hlt.out; omega
                  case rel => exact ⟨i + 1, true, _, _, rfl, by have := Hlt.out; omega, by go_num, rfl, H4, HT4.out, HN.out⟩
          · obtain rfl : i = R.all.length := by omega
            have hlt' : ¬ ((R.all.length : Int) < (R.all.length : Int)) := by omega
            have HP2 := Lib.hid P2
            have htl2 := P2.fit.tr_len
            rw [hrn] at htl2
            have Hra := Lib.hid hra
            clear P2 hra hrn hrl
            go_wp2_with fail
            go_roundg (if more = true then R.n.toNat - R2.tr.length + 1 else 0)
            case measure =>
              have hg := Hgm.out
              cases more with
              | true =>
                have := HP2.out.long rfl
                rw [hg]
                simp only [if_true]
                omega
              | false =>
                rw [hg]
                simp
            case rel => exact ⟨more, R2, G2, rfl, rfl, H2, T2, HP2.out.fit, HP2.out.grows, HP2.out.bad, fun hm c hc => by
                rw [Hra.out] at hc
                obtain ⟨j, hj, rfl⟩ := mem_getD ([] : List Int) hc
                exact (HP2.out.same hm).2 j hj⟩
end Go.Proofs.Ytaileihnkmjfiaa
namespace Go.Proofs.Ytaileihnkmjfiaa
open Go.RowKit

namespace RS
def isLit (R : RS) (l : Int) : Prop := l ≠ 0 ∧ -R.n ≤ l ∧ l ≤ R.n
instance (R : RS) (l : Int) : Decidable (R.isLit l) := by unfold isLit; infer_instance
def deepR (R : RS) (l : Int) : RS := { R with level := R.level + 1, tr := R.tr ++ [(l, R.level + 1)] }
def decideR (R : RS) (l : Int) : RS × Int := if ¬ R.isLit l then (R, 20) else if R.bad = true then (R, 31) else if R.of l ≠ 0 then (R, 30) else (R.deepR l, 0)
def addOkR (R : RS) (c : List Int) : RS := { R with all := R.all ++ [c], lits := R.lits + c.length }
def addR (R : RS) (c : List Int) : RS × Int :=
  if ¬ ∀ l ∈ c, R.isLit l then (R, 20) else if 65536 < c.length then (R, 22) else if 1048576 ≤ R.all.length ∨ 4194304 < R.lits + c.length then (R, 23) else (R.addOkR c, 0)
def backR (R : RS) (level : Int) : RS × Int :=
  if level < 0 ∨ R.level < level then (R, 32)
  else ({ R with tr := R.tr.filter (fun p => decide (p.2 ≤ level)), bad := if level < R.level then false else R.bad, level := level }, 0)
end RS

/-- a call of the document's engine has been made -/
def RefEnd (b : Nat) (G : GH) (w : World) (R' : RS) (v : Int) (e : Ending) (w' : World) : Prop := e = .returned (i64 v) ∧ ∃ G', Rf w' b G' R' ∧ Turned (fo G) w (fo G') w'

set_option maxHeartbeats 4000000 in
theorem decide_ref (b : Nat) (G : GH) (R : RS) (l : Int) (w : World) (h : Rf w b G R) (hf : R.Fit) (hlev : R.level ≤ 1048577) :
    Calls Try.prog 42 #[.pointer (some ⟨b, 0, none⟩), i64 l] w (RefEnd b G w (R.decideR l).1 (R.decideR l).2) := by
  obtain ⟨k0, hk0, kz0, kz1, kz2⟩ := info_parts Try.info80
  have cM := may_any b G R l w h hf.n_le
  have r5 := h.r5
  have htl := hf.tr_len
  have hnl := hf.n_le
  have hl0 := hf.lev0
  by_cases h1 : R.isLit l
  · have hd : decide (l ≠ 0 ∧ -R.n ≤ l ∧ l ≤ R.n) = true := decide_eq_true h1
    rw [hd] at cM
    clear hd
    cases hbad : R.bad with
    | true =>
      have HE : Hid (R.decideR l = (R, 31)) := by show _ = _; unfold RS.decideR; rw [if_neg (fun hh => hh h1), if_pos hbad]
      rw [hbad] at r5
      clear hbad
      go_enter Try.func42, Try.ntmps42
      go_wp2_with (go_at_call 56; refine cM.mono ?_; rintro e w' ⟨rfl, rfl⟩)
      go_ret
      exact ⟨by rw [HE.out]; rfl, G, by rw [HE.out]; exact h, Turned.refl _ _⟩
    | false =>
      rw [hbad] at r5
      have hlb : -1048576 ≤ l ∧ l ≤ 1048576 := by have := h1.2; omega
      have cO := of_ref b G R l w h hf hlb.1 hlb.2
      by_cases hz : R.of l = 0
      · have HE : Hid (R.decideR l = (R.deepR l, 0)) := by show _ = _; unfold RS.decideR; rw [if_neg (fun hh => hh h1), if_neg (by rw [hbad]; simp), if_neg (by simp [hz])]
        rw [hz] at cO
        have r1 := h.r1
        have y1 := h.ff 1
        have E1 : Rf (w.setCell ⟨b, 1, none⟩ (.int .i64 (R.level + 1))) b G { R with level := R.level + 1 } := h.setMk 1 (.int .i64 (R.level + 1)) rfl
        have T1 := Turned.setCell (F := fo G) w ⟨b, 1, none⟩ (.int .i64 (R.level + 1)) h.foot_b
        clear hbad hz
        go_enter Try.func42, Try.ntmps42
        go_upto_region 8 with (first | (go_at_call 56; refine cM.mono ?_; rintro e w' ⟨rfl, rfl⟩) | (go_at_call 57; refine cO.mono ?_; rintro e w' ⟨rfl, rfl⟩))
        generalize w.setCell ⟨b, 1, none⟩ (.int .i64 (R.level + 1)) = w1 at *
        clear r1 y1 r5 cM cO
        have r1 : w1.cell? ⟨b, 1, none⟩ = some (i64 (R.level + 1)) := E1.r1
        have r4 := E1.r4
        have H3 := (E1.alloc (.cells #[i64 l, i64 (R.level + 1)] 80)).drew
        have T3 := Lib.hid (T1.trans ((Turned.alloc (fo G) w1 (.cells #[i64 l, i64 (R.level + 1)] 80)).trans (Turned.drew _ _)))
        have r4a : (w1.alloc (.cells #[i64 l, i64 (R.level + 1)] 80)).cell? ⟨b, 4, none⟩ = some (.slice (Option.map (fun g => { block := g, off := 0 }) (G.g (.inl 3))) R.tr.length (G.c (.inl 3))) := (E1.alloc (.cells #[i64 l, i64 (R.level + 1)] 80)).r4
        have hb1 : R.tr.length + 1 ≤ maxLen := by simp only [maxLen]; omega
        have hb2 : (R.tr.length + 1) * 16 ≤ 140737488355328 := by omega
        go_region_law ((refine step_append_rw rfl (.tmp 29) (.tmp 36) 48 rfl 80 k0 (.agg #[.int .i64 0, .int .i64 0]) 2 16 Try.underlying48 hk0 kz0 kz1 kz2 rfl (by decide) ⟨G.g (.inl 3), G.c (.inl 3), R.tr.length, pairs R.tr⟩ rfl (H3.row2) (some ⟨w1.heap.size, 0, none⟩) 1 1 [i64 l, i64 (R.level + 1)] rfl rfl (fun h => by cases h) (new_two' w1 _ _ 80) (by simp [Value.oneCell']) hb1 hb2 ?_; intro d' w5 rw1 en ex eg hgr; obtain ⟨H4, T4⟩ := H3.pushTr l (R.level + 1) rw1 en ex (le_of_new' eg rfl (by simp)) hgr; obtain ⟨y1, y2⟩ := H3.mid (r := .inl 3) (by simp) rfl hgr (i := 4) (u := sv (G.g (.inl 3)) R.tr.length (G.c (.inl 3))) rfl; clear en ex eg hgr))
        all_goals
          have HT4 := Lib.hid (T3.out.trans T4)
          clear T4 r4a r4 r1 y1 y2
          go_wp2_with fail
          go_ret
          exact ⟨by rw [HE.out]; rfl, _, by rw [HE.out]; exact H4, HT4.out⟩
      · have HE : Hid (R.decideR l = (R, 30)) := by show _ = _; unfold RS.decideR; rw [if_neg (fun hh => hh h1), if_neg (by rw [hbad]; simp), if_pos hz]
        have hzb : (R.of l != 0) = true := by simpa using hz
        generalize R.of l = z at *
        clear hbad hz
        go_enter Try.func42, Try.ntmps42
        go_wp2_with (first | (go_at_call 56; refine cM.mono ?_; rintro e w' ⟨rfl, rfl⟩) | (go_at_call 57; refine cO.mono ?_; rintro e w' ⟨rfl, rfl⟩))
        go_ret
        exact ⟨by rw [HE.out]; rfl, G, by rw [HE.out]; exact h, Turned.refl _ _⟩
  · have hd : decide (l ≠ 0 ∧ -R.n ≤ l ∧ l ≤ R.n) = false := decide_eq_false h1
    rw [hd] at cM
    have HE : Hid (R.decideR l = (R, 20)) := by show _ = _; unfold RS.decideR; rw [if_pos h1]
    clear hd
    go_enter Try.func42, Try.ntmps42
    go_wp2_with (go_at_call 56; refine cM.mono ?_; rintro e w' ⟨rfl, rfl⟩)
    go_ret
    exact ⟨by rw [HE.out]; rfl, G, by rw [HE.out]; exact h, Turned.refl _ _⟩
end Go.Proofs.Ytaileihnkmjfiaa
namespace Go.Proofs.Ytaileihnkmjfiaa
open Go.RowKit

theorem Ob.pushAll {w w1 : World} {b : Nat} {G : GH} {R : RS} {d dO : RD} (h : Rf w b G R) (c : List Int) (hO : Rw w 3 1 dO) (hOn : dO.n = c.length) (hOx : dO.xs = ints c) (hOg : ∀ g, dO.g = some g → ¬ fo G g)
    (hrw : Rw w1 28 1 d) (hn : d.n = R.all.length + 1) (hx : d.xs = rowsOf G 0 R.all ++ [sv dO.g dO.n dO.cap]) (hg : d.g = G.g (.inl 1) ∨ ∀ k, d.g = some k → w.heap.size ≤ k) (hgr : w.grownBy w1 (G.g (.inl 1))) :
    Rf (w1.setCell ⟨b, 3, none⟩ d.v) b ((G.upd (.inl 1) d).upd (.inr (0, R.all.length)) dO) { R with all := R.all ++ [c] } ∧
    Turned (fo G) w (fun k => fo G k ∨ w.heap.size ≤ k) (w1.setCell ⟨b, 3, none⟩ d.v) ∧ (∀ k, fo ((G.upd (.inl 1) d).upd (.inr (0, R.all.length)) dO) k → fo G k ∨ w.heap.size ≤ k ∨ dO.g = some k) :=
  h.push 3 c hO hOn hOx hOg hrw hn hx hg hgr rfl

set_option maxHeartbeats 8000000 in
set_option maxRecDepth 100000 in
theorem add_ref (b : Nat) (G : GH) (R : RS) (v : Value) (c : List Int) (w : World) (h : Rf w b G R) (hf : R.Fit) (hv : IntsAt w v c) (hc1 : c.length ≤ 1048576) (hall : R.all.length ≤ 1048576) (hl1 : 0 ≤ R.lits) (hl2 : R.lits ≤ 4194304) :
    Calls Try.prog 41 #[.pointer (some ⟨b, 0, none⟩), v] w (RefEnd b G w (R.addR c).1 (R.addR c).2) := by
  obtain ⟨i0, hi0, hz0, hz1, hz2⟩ := info_parts Try.info3
  obtain ⟨j0, hj0, jz0, jz1, jz2⟩ := info_parts Try.info28
  obtain ⟨ao, cap, rfl, k2, k3, k4⟩ := hv
  unfold maxLen at k3
  have hI : IntsAt w (.slice ao c.length cap) c := ⟨ao, cap, rfl, k2, k3, k4⟩
  have HI := Lib.hid hI
  have K4 := Lib.hid k4
  clear k4 hI
  go_enter Try.func41, Try.ntmps41
  go_wp2_with fail
  go_loop [5] (fun s5 => ∃ k : Nat, k ≤ c.length ∧ s5 = .int .i64 (k : Nat) ∧ Hid (∀ j, j < k → R.isLit (c.getD j 0))) (fun s5 => c.length - (intOf s5).toNat)
  case atStart => exact ⟨0, Nat.zero_le _, rfl, fun j hj => absurd hj (Nat.not_lt_zero _)⟩
  case round =>
    obtain ⟨k, hk, rfl, Hg⟩ := hrel
    by_cases hkl : k < c.length
    · obtain ⟨cb, co, rfl, hcc⟩ := K4.out (by omega)
      have e := hcc k hkl
      have hkl' : (k : Int) < (c.length : Int) := by omega
      have cM := may_any b G R (c.getD k 0) w h hf.n_le
      have hmx := getD_mem' (0 : Int) hkl
      have Hcc := Lib.hid hcc
      by_cases hl : R.isLit (c.getD k 0)
      · have hd : decide (c.getD k 0 ≠ 0 ∧ -R.n ≤ c.getD k 0 ∧ c.getD k 0 ≤ R.n) = true := decide_eq_true hl
        rw [hd] at cM
        have HN : Hid (∀ j, j < k + 1 → R.isLit (c.getD j 0)) := fun j hj => by
          by_cases hjk : j < k
          · exact Hg.out j hjk
          · obtain rfl : j = k := by omega
            exact hl
        clear hd hl hcc hmx
        generalize c.getD k 0 = x at *
        go_wp2_with (go_at_call 56; refine cM.mono ?_; rintro e w' ⟨rfl, rfl⟩)
        go_round
        case rel => exact ⟨k + 1, by omega, by go_num, HN⟩
        case measure => simp [intOf]; omega
      · have hd : decide (c.getD k 0 ≠ 0 ∧ -R.n ≤ c.getD k 0 ∧ c.getD k 0 ≤ R.n) = false := decide_eq_false hl
        rw [hd] at cM
        have HE : Hid (R.addR c = (R, 20)) := by
          show _ = _
          unfold RS.addR
          rw [if_pos (fun hall => hl (hall _ hmx))]
        clear hd hl hcc hmx
        generalize c.getD k 0 = x at *
        go_wp2_with (go_at_call 56; refine cM.mono ?_; rintro e w' ⟨rfl, rfl⟩)
        go_ret
        exact ⟨by rw [HE.out]; rfl, G, by rw [HE.out]; exact h, Turned.refl _ _⟩
    · obtain rfl : k = c.length := by omega
      have hkl' : ¬ ((c.length : Int) < (c.length : Int)) := by omega
      have hlit : ∀ l ∈ c, R.isLit l := by
        intro l hl
        obtain ⟨j, hj, rfl⟩ := mem_getD (0 : Int) hl
        exact Hg.out j hj
      have HE0 : Hid (R.addR c = if 65536 < c.length then (R, 22) else if 1048576 ≤ R.all.length ∨ 4194304 < R.lits + c.length then (R, 23) else (R.addOkR c, 0)) := by
        show _ = _
        unfold RS.addR
        rw [if_neg (fun hh => hh hlit)]
      clear hlit Hg
      by_cases h1 : 65536 < c.length
      · have h1' : (65536 : Int) < (c.length : Int) := by omega
        have HE : Hid (R.addR c = (R, 22)) := by show _ = _; rw [HE0.out, if_pos h1]
        go_wp2_with fail
        go_ret
        exact ⟨by rw [HE.out]; rfl, G, by rw [HE.out]; exact h, Turned.refl _ _⟩
      · have h1' : ¬ ((65536 : Int) < (c.length : Int)) := by omega
        have r2 := h.r2
        have r3 := h.r3
        have hall' : (R.all.length : Int) ≤ 1048576 := by omega
        by_cases h2 : 1048576 ≤ R.all.length
        · have h2' : (1048576 : Int) ≤ (R.all.length : Int) := by omega
          have HE : Hid (R.addR c = (R, 23)) := by show _ = _; rw [HE0.out, if_neg h1, if_pos (.inl h2)]
          go_wp2_with fail
          go_ret
          exact ⟨by rw [HE.out]; rfl, G, by rw [HE.out]; exact h, Turned.refl _ _⟩
        · have h2' : ¬ ((1048576 : Int) ≤ (R.all.length : Int)) := by omega
          by_cases h3 : 4194304 < R.lits + c.length
          · have HE : Hid (R.addR c = (R, 23)) := by show _ = _; rw [HE0.out, if_neg h1, if_pos (.inr h3)]
            go_wp2_with fail
            go_ret
            exact ⟨by rw [HE.out]; rfl, G, by rw [HE.out]; exact h, Turned.refl _ _⟩
          · have HE : Hid (R.addR c = (R.addOkR c, 0)) := by show _ = _; rw [HE0.out, if_neg h1, if_neg (by omega)]
            have H1a := h.alloc (.cells #[] 3)
            have r3a : (w.alloc (.cells #[] 3)).cell? ⟨b, 3, none⟩ = some (.slice (Option.map (fun g => { block := g, off := 0 }) (G.g (.inl 1))) R.all.length (G.c (.inl 1))) := H1a.r3
            have RM : Rw (w.alloc (.cells #[] 3)).drew 3 1 ⟨some w.heap.size, 0, 0, []⟩ := (Rw.new (n := 0) (sz := 1) (heap_alloc_new w (.cells #[] 3)) rfl (by simp [maxLen])).drew
            have hb1 : 0 + c.length ≤ maxLen := by simp only [maxLen]; omega
            have hb2 : (0 + c.length) * 8 ≤ 140737488355328 := by omega
            have hb3 : R.all.length + 1 ≤ maxLen := by simp only [maxLen]; omega
            have hb4 : (R.all.length + 1) * 24 ≤ 140737488355328 := by omega
            have hao0 : ao = none → c.length = 0 := by
              intro e
              rcases Nat.eq_zero_or_pos c.length with h0 | h0
              · exact h0
              · obtain ⟨cb, co, e2, _⟩ := K4.out h0
                rw [e2] at e; cases e
            have hnews : ∀ a, ao = some a → ∀ j u, (ints c)[j]? = some u → (w.alloc (.cells #[] 3)).drew.cell? (a.add j) = some u := by
              intro a ha j u hu
              obtain ⟨rfl, hj⟩ := ints_get c j u hu
              obtain ⟨cb, co, e2, h5⟩ := K4.out (by omega)
              rw [ha] at e2
              obtain rfl := Option.some.inj e2
              rw [Addr.add_lit]
              have hcx := h5 j hj
              rw [← hcx]
              exact World.cell?_alloc_lt w _ ⟨cb, co + j, none⟩ (World.block_lt_of_cell? w _ hcx)
            go_upto_region 10 with (fail)
            go_region_law ((first
              | (refine step_append_rw rfl (.tmp 43) (.tmp 44) 28 rfl 3 i0 (.int .i64 0) 1 8 Try.underlying28 hi0 hz0 hz1 hz2 rfl (by decide) ⟨some w.heap.size, 0, 0, []⟩ rfl RM ao c.length cap (ints c) rfl (by simp [ints]) hao0 hnews (ints_one c) hb1 hb2 ?_; intro d1 w1 rw1 en1 ex1 eg1 hgr1; have hbl := ((((Below.refl _ w).alloc (Nat.le_refl _) (.cells #[] 3)).drew).grown hgr1 (by simp) (fun k e => by cases e; exact Nat.le_refl _)); have H3 := h.below hbl; have H3a := H3.alloc (.cells #[.slice (Option.map (fun g => { block := g, off := 0 }) d1.g) d1.n d1.cap] 28); have R3a := rw1.alloc (.cells #[.slice (Option.map (fun g => { block := g, off := 0 }) d1.g) d1.n d1.cap] 28); have r3b : w1.cell? ⟨b, 3, none⟩ = some (.slice (Option.map (fun g => { block := g, off := 0 }) (G.g (.inl 1))) R.all.length (G.c (.inl 1))) := H3.r3; have r3c : (w1.alloc (.cells #[.slice (Option.map (fun g => { block := g, off := 0 }) d1.g) d1.n d1.cap] 28)).cell? ⟨b, 3, none⟩ = some (.slice (Option.map (fun g => { block := g, off := 0 }) (G.g (.inl 1))) R.all.length (G.c (.inl 1))) := H3a.r3; have En1 := Lib.hid en1; have Ex1 := Lib.hid ex1; have Eg1 := Lib.hid eg1; have Hbl := Lib.hid hbl; clear en1 ex1 eg1 hbl)
              | (refine step_append_rw rfl (.tmp 42) (.tmp 46) 27 rfl 28 j0 (.slice none 0 0) 1 24 Try.underlying27 hj0 jz0 jz1 jz2 rfl (by decide) ⟨G.g (.inl 1), G.c (.inl 1), R.all.length, rowsOf G 0 R.all⟩ rfl H3a.row1 (some ⟨w1.heap.size, 0, none⟩) 1 1 [.slice (Option.map (fun g => { block := g, off := 0 }) d1.g) d1.n d1.cap] rfl rfl (fun h => by cases h) (new_one w1 _ 28) (one_slice _ _ _) hb3 hb4 ?_; intro d2 w2 rw2 en2 ex2 eg2 hgr2; have Rw2 := Lib.hid rw2; have En2 := Lib.hid en2; have Ex2 := Lib.hid ex2; have Eg2 := Lib.hid eg2; have Hgr2 := Lib.hid hgr2; obtain ⟨y1, y2⟩ := H3a.mid (r := .inl 1) (by simp) rfl hgr2 (i := 3) (u := sv (G.g (.inl 1)) R.all.length (G.c (.inl 1))) rfl; clear en2 ex2 eg2 hgr2 rw2)))
            all_goals
              have hge : ∀ g, d1.g = some g → w.heap.size ≤ g := by
                intro g hg
                rcases Eg1.out with e | e
                · rw [e] at hg; cases hg; exact Nat.le_refl _
                · rw [e] at hg; cases hg; simp
              obtain ⟨E, T, F⟩ := H3a.pushAll c R3a (by simpa using En1.out) (by simpa using Ex1.out)
                (fun g hg hf => by have := h.flt hf; have := hge g hg; omega)
                Rw2.out En2.out Ex2.out (le_of_new' Eg2.out rfl (Nat.le_refl _)) Hgr2.out
              have hbs := Hbl.out.size
              have T1 := ((Turned.of_below (fo G) Hbl.out).trans (Turned.alloc (fo G) w1 (.cells #[.slice (Option.map (fun g => { block := g, off := 0 }) d1.g) d1.n d1.cap] 28))).trans T
              have T2 := Lib.hid (T1.wider (F'' := fo ((G.upd (.inl 1) d2).upd (.inr (0, R.all.length)) d1)) (fun k hk => by
                rcases F k hk with h1 | h1 | h1
                · exact .inl (.inl h1)
                · exact .inl (.inr h1)
                · exact .inr (hge k h1)))
              have hsz : w1.heap.size ≤ (w1.alloc (.cells #[.slice (Option.map (fun g => { block := g, off := 0 }) d1.g) d1.n d1.cap] 28)).heap.size := by simp
              clear hge T T1 F r2 r3 r3a
              go_upto_region 11 with (fail)
              have E' : Rf (w2.setCell ⟨b, 3, none⟩ (.slice (Option.map (fun g => { block := g, off := 0 }) d2.g) d2.n d2.cap)) b ((G.upd (.inl 1) d2).upd (.inr (0, R.all.length)) d1) { R with all := R.all ++ [c] } := E
              have T2' : Hid (Turned (fo G) w (fo ((G.upd (.inl 1) d2).upd (.inr (0, R.all.length)) d1)) (w2.setCell ⟨b, 3, none⟩ (.slice (Option.map (fun g => { block := g, off := 0 }) d2.g) d2.n d2.cap))) := T2
              generalize w2.setCell ⟨b, 3, none⟩ (.slice (Option.map (fun g => { block := g, off := 0 }) d2.g) d2.n d2.cap) = w3 at *
              have r2 : w3.cell? ⟨b, 2, none⟩ = some (i64 R.lits) := E'.r2
              have y2' := E'.ff 2
              have EF : Rf (w3.setCell ⟨b, 2, none⟩ (.int .i64 (R.lits + (c.length : Int)))) b ((G.upd (.inl 1) d2).upd (.inr (0, R.all.length)) d1) (R.addOkR c) := E'.setMk 2 (.int .i64 (R.lits + (c.length : Int))) rfl
              have TF := Lib.hid (T2'.out.trans (Turned.setCell w3 ⟨b, 2, none⟩ (.int .i64 (R.lits + (c.length : Int))) E'.foot_b))
              have hlb : R.lits + (c.length : Int) ≤ 4194304 := by omega
              clear E E' T2 T2' y1 y2 Rw2 En2 Ex2 Eg2 Hgr2 H3 H3a R3a r3b r3c
              go_wp2_with fail
              go_ret
              exact ⟨by rw [HE.out]; rfl, _, by rw [HE.out]; exact EF, TF.out⟩
end Go.Proofs.Ytaileihnkmjfiaa
namespace Go.Proofs.Ytaileihnkmjfiaa
open Go.RowKit

/-- the trail put anew by a list that was made beside it -/
theorem Ob.newTr {w w1 : World} {b : Nat} {G : GH} {R : RS} {d : RD} {t : List (Int × Int)} (h : Rf w b G R) (hrw : Rw w1 80 2 d) (hn : d.n = t.length) (hx : d.xs = pairs t)
    (hg : ∀ k, d.g = some k → w.heap.size ≤ k) (hb : Below w.heap.size w w1) :
    Rf (w1.setCell ⟨b, 4, none⟩ d.v) b (G.upd (.inl 3) d) { R with tr := t } ∧ Turned (fo G) w (fo (G.upd (.inl 3) d)) (w1.setCell ⟨b, 4, none⟩ d.v) := by
  obtain ⟨E, T⟩ := h.put2 4 hrw (.inr hg) ⟨hb.os, hb.tape, hb.output, hb.size, fun k hk _ => hb.block k hk⟩ rfl
  refine ⟨?_, T⟩
  rw [hn, hx] at E
  exact E

theorem filter_take {p : Int × Int → Bool} (L : List (Int × Int)) (k : Nat) (hk : k < L.length) : (L.take (k + 1)).filter p = (L.take k).filter p ++ (if p (L.getD k (0, 0)) = true then [L.getD k (0, 0)] else []) := by
  rw [List.take_succ_eq_append_getElem hk, List.filter_append]
  congr 1
  simp only [List.getD, List.getElem?_eq_getElem hk, Option.getD_some]
  by_cases h : p L[k] = true
  · simp [h]
  · simp [h]

set_option maxHeartbeats 8000000 in
set_option maxRecDepth 100000 in
theorem back_ref (b : Nat) (G : GH) (R : RS) (level : Int) (w : World) (h : Rf w b G R) (hf : R.Fit) (_hlev : R.level ≤ 1048577) :
    Calls Try.prog 44 #[.pointer (some ⟨b, 0, none⟩), i64 level] w (RefEnd b G w (R.backR level).1 (R.backR level).2) := by
  obtain ⟨k0, hk0, kz0, kz1, kz2⟩ := info_parts Try.info80
  have htl := hf.tr_len
  have hnl := hf.n_le
  have hl0 := hf.lev0
  have r1 := h.r1
  by_cases h1 : level < 0
  · have HE : Hid (R.backR level = (R, 32)) := by show _ = _; unfold RS.backR; rw [if_pos (.inl h1)]
    go_enter Try.func44, Try.ntmps44
    go_wp2_with fail
    go_ret
    exact ⟨by rw [HE.out]; rfl, G, by rw [HE.out]; exact h, Turned.refl _ _⟩
  · by_cases h2 : R.level < level
    · have HE : Hid (R.backR level = (R, 32)) := by show _ = _; unfold RS.backR; rw [if_pos (.inr h2)]
      go_enter Try.func44, Try.ntmps44
      go_wp2_with fail
      go_ret
      exact ⟨by rw [HE.out]; rfl, G, by rw [HE.out]; exact h, Turned.refl _ _⟩
    · have HE : Hid (R.backR level = ({ R with tr := R.tr.filter (fun p => decide (p.2 ≤ level)), bad := if level < R.level then false else R.bad, level := level }, 0)) := by
        show _ = _; unfold RS.backR; rw [if_neg (by omega)]
      have HH := Lib.hid h
      go_enter Try.func44, Try.ntmps44
      go_wp2_with fail
      go_loopg [5, 6] R.tr.length (fun gm s5 s6 wx => ∃ (i : Nat) (d : RD), gm = R.tr.length - i ∧ i ≤ R.tr.length ∧ s6 = .int .i64 (i : Nat) ∧ s5 = .slice (Option.map (fun g => { block := g, off := 0 }) d.g) d.n d.cap ∧
        Rw wx 80 2 d ∧ Hid (d.n = ((R.tr.take i).filter (fun p => decide (p.2 ≤ level))).length ∧ d.xs = pairs ((R.tr.take i).filter (fun p => decide (p.2 ≤ level)))) ∧ (∀ g, d.g = some g → w.heap.size ≤ g) ∧ Below w.heap.size w wx)
      case atStart => exact ⟨0, ⟨none, 0, 0, []⟩, rfl, Nat.zero_le _, rfl, rfl, Rw.empty _ _ _, ⟨by simp, by simp [pairs]⟩, fun g hg => (by cases hg), Below.refl _ _⟩
      case round =>
        obtain ⟨i, d, rfl, hi, rfl, rfl, RD_, HD, hdg, hbx⟩ := hrel
        have H2 := HH.out.below hbx
        have r4 := H2.r4
        by_cases hlt : i < R.tr.length
        · have hlt' : (i : Int) < (R.tr.length : Int) := by omega
          obtain ⟨g, hg⟩ := H2.l2 (by omega)
          have r4' : wr.cell? ⟨b, 4, none⟩ = some (.slice (some ⟨g, 0, none⟩) R.tr.length (G.c (.inl 3))) := r4.trans (by rw [hg]; rfl)
          have g1 := H2.g1 hg hlt
          have g2 := H2.g2 hg hlt
          have hft := filter_take (p := fun p => decide (p.2 ≤ level)) R.tr i hlt
          have hfl : ((R.tr.take i).filter (fun p => decide (p.2 ≤ level))).length ≤ i := Nat.le_trans (List.length_filter_le _ _) (List.length_take_le _ _)
          generalize R.tr.getD i (0, 0) = x at *
          obtain ⟨x1, x2⟩ := x
          simp only at g1 g2 hft
          have Hbx := Lib.hid hbx
          have Hdg := Lib.hid hdg
          have Hlt := Lib.hid hlt
          by_cases hx : x2 ≤ level
          · rw [if_pos (by simpa using hx)] at hft
            have Hft := Lib.hid hft
            have R2 := RD_.alloc (.cells #[i64 x1, i64 x2] 80)
            have hq1 : d.n + 1 ≤ maxLen := by have := HD.out.1; simp only [maxLen]; omega
            have hq2 : (d.n + 1) * 16 ≤ 140737488355328 := by have := HD.out.1; omega
            clear hft r4 hg hdg hbx hfl RD_
            go_wp2_with (at_builtin; (refine wpList_append_rw rfl (.tmp 36) (.tmp 44) 48 rfl 80 k0 (.agg #[.int .i64 0, .int .i64 0]) 2 16 Try.underlying48 hk0 kz0 kz1 kz2 rfl (by decide) d rfl R2 (some ⟨wr.heap.size, 0, none⟩) 1 1 [i64 x1, i64 x2] rfl rfl (fun h => by cases h) (new_two' wr _ _ 80) (by simp [Value.oneCell']) hq1 hq2 ?go))
            case go =>
              intro d' w5 rw5 en ex eg hgr
              have En := Lib.hid en
              have Ex := Lib.hid ex
              have Eg := Lib.hid eg
              have Hgr := Lib.hid hgr
              have R5 := Lib.hid rw5
              clear en ex eg hgr rw5
              go_wp2_with fail
              go_roundg (R.tr.length - (i + 1))
              case measure => have := Hlt.out; omega
              case rel =>
                have hsz := Hbx.out.size
                refine ⟨i + 1, d', rfl, by have := Hlt.out; omega, by go_num, rfl, R5.out, ⟨?_, ?_⟩, fun g' hg' => ?_, ?_⟩
                · rw [Hft.out, List.length_append, En.out, HD.out.1]; rfl
                · rw [Hft.out, Ex.out, HD.out.2]; simp [pairs]
                · rcases Eg.out with e | e
                  · exact Hdg.out g' (e ▸ hg')
                  · rw [e] at hg'; cases hg'; first | omega | (simp; omega)
                · exact (Hbx.out.alloc (by omega) _).grown Hgr.out (by simp; omega) (fun g' e => Hdg.out g' e)
          · rw [if_neg (by simpa using hx)] at hft
            have Hft := Lib.hid hft
            have HRD := Lib.hid RD_
            clear hft r4 hg hdg hbx hfl RD_
            go_wp2_with fail
            go_roundg (R.tr.length - (i + 1))
            case measure => have := Hlt.out; omega
            case rel => exact ⟨i + 1, d, rfl, by have := Hlt.out; omega, by go_num, rfl, HRD.out, ⟨by rw [Hft.out, HD.out.1]; simp, by rw [Hft.out, HD.out.2]; simp⟩, Hdg.out, Hbx.out⟩
        · obtain rfl : i = R.tr.length := by omega
          have hlt' : ¬ ((R.tr.length : Int) < (R.tr.length : Int)) := by omega
          have hd := HD.out
          rw [List.take_length] at hd
          obtain ⟨E, T⟩ := HH.out.newTr RD_ hd.1 hd.2 hdg hbx
          have E' : Rf (wr.setCell ⟨b, 4, none⟩ (.slice (Option.map (fun g => { block := g, off := 0 }) d.g) d.n d.cap)) b (G.upd (.inl 3) d) { R with tr := R.tr.filter (fun p => decide (p.2 ≤ level)) } := E
          have T' : Hid (Turned (fo G) w (fo (G.upd (.inl 3) d)) (wr.setCell ⟨b, 4, none⟩ (.slice (Option.map (fun g => { block := g, off := 0 }) d.g) d.n d.cap))) := T
          have y4 := H2.ff 4
          clear hd E T HD hdg hbx RD_
          go_upto_region 10 with (fail)
          generalize wr.setCell ⟨b, 4, none⟩ (.slice (Option.map (fun g => { block := g, off := 0 }) d.g) d.n d.cap) = w3 at *
          clear r4 y4 H2 r1
          have r1 : w3.cell? ⟨b, 1, none⟩ = some (i64 R.level) := E'.r1
          have y1 := E'.ff 1
          by_cases h3 : level < R.level
          · have r5 : w3.cell? ⟨b, 5, none⟩ = some (.bool R.bad) := E'.r5
            have y5 := E'.ff 5
            have E5 : Rf (w3.setCell ⟨b, 5, none⟩ (.bool false)) b (G.upd (.inl 3) d) { R with tr := R.tr.filter (fun p => decide (p.2 ≤ level)), bad := false } := E'.setMk 5 (.bool false) rfl
            have T5 := Lib.hid (T'.out.trans (Turned.setCell w3 ⟨b, 5, none⟩ (.bool false) E'.foot_b))
            have r1b : (w3.setCell ⟨b, 5, none⟩ (.bool false)).cell? ⟨b, 1, none⟩ = some (i64 R.level) := E5.r1
            have y1b := E5.ff 1
            have E6 : Rf ((w3.setCell ⟨b, 5, none⟩ (.bool false)).setCell ⟨b, 1, none⟩ (.int .i64 level)) b (G.upd (.inl 3) d) { R with tr := R.tr.filter (fun p => decide (p.2 ≤ level)), bad := false, level := level } := E5.setMk 1 (.int .i64 level) rfl
            have T6 := Lib.hid (T5.out.trans (Turned.setCell (w3.setCell ⟨b, 5, none⟩ (.bool false)) ⟨b, 1, none⟩ (.int .i64 level) E5.foot_b))
            clear E' T' T5 E5
            go_wp2_with fail
            go_ret
            exact ⟨by rw [HE.out]; rfl, _, by rw [HE.out, if_pos h3]; exact E6, T6.out⟩
          · have E6 : Rf (w3.setCell ⟨b, 1, none⟩ (.int .i64 level)) b (G.upd (.inl 3) d) { R with tr := R.tr.filter (fun p => decide (p.2 ≤ level)), level := level } := E'.setMk 1 (.int .i64 level) rfl
            have T6 := Lib.hid (T'.out.trans (Turned.setCell w3 ⟨b, 1, none⟩ (.int .i64 level) E'.foot_b))
            clear E' T'
            go_wp2_with fail
            go_ret
            exact ⟨by rw [HE.out]; rfl, _, by rw [HE.out, if_neg (by omega)]; exact E6, T6.out⟩
end Go.Proofs.Ytaileihnkmjfiaa
namespace Go.Proofs.Ytaileihnkmjfiaa
namespace Sim
open ES
variable {S : ES} {R : RS}

theorem isLit (h : Sim S R) (l : Int) : R.isLit l ↔ S.isLit l := by
  unfold RS.isLit ES.isLit
  rw [h.n]
  constructor
  · rintro ⟨a, b, c⟩; exact ⟨a, by omega⟩
  · rintro ⟨a, b⟩; exact ⟨a, by omega, by omega⟩

theorem addS (h : Sim S R) (hf : R.Fit) (c : List Int) : (R.addR c).2 = (S.add c).2 ∧ Sim (S.add c).1 (R.addR c).1 ∧ (R.addR c).1.Fit := by
  by_cases h1 : ∀ l ∈ c, S.isLit l
  · have h1' : ∀ l ∈ c, R.isLit l := fun l hl => (h.isLit l).2 (h1 l hl)
    by_cases h2 : 65536 < c.length
    · have eS : S.add c = (S, 22) := by unfold ES.add; rw [if_neg (fun hh => hh h1), if_pos h2]
      have eR : R.addR c = (R, 22) := by unfold RS.addR; rw [if_neg (fun hh => hh h1'), if_pos h2]
      rw [eS, eR]; exact ⟨rfl, h, hf⟩
    · have e1 : R.all.length = S.cs.length := by rw [h.all]
      have e2 := h.lits
      by_cases h3 : 1048576 ≤ S.cs.length ∨ 4194304 < S.lits + c.length
      · have eS : S.add c = (S, 23) := by unfold ES.add; rw [if_neg (fun hh => hh h1), if_neg h2, if_pos h3]
        have eR : R.addR c = (R, 23) := by unfold RS.addR; rw [if_neg (fun hh => hh h1'), if_neg h2, if_pos (by omega)]
        rw [eS, eR]; exact ⟨rfl, h, hf⟩
      · have eS : S.add c = (S.addOk c, 0) := by unfold ES.add; rw [if_neg (fun hh => hh h1), if_neg h2, if_neg h3]
        have eR : R.addR c = (R.addOkR c, 0) := by unfold RS.addR; rw [if_neg (fun hh => hh h1'), if_neg h2, if_neg (by omega)]
        rw [eS, eR]; exact ⟨rfl, h.add c, hf.more c (fun l hl => h1' l hl) _⟩
  · have h1' : ¬ ∀ l ∈ c, R.isLit l := fun hh => h1 (fun l hl => (h.isLit l).1 (hh l hl))
    have eS : S.add c = (S, 20) := by unfold ES.add; rw [if_pos h1]
    have eR : R.addR c = (R, 20) := by unfold RS.addR; rw [if_pos h1']
    rw [eS, eR]; exact ⟨rfl, h, hf⟩

theorem decideS (h : Sim S R) (hf : R.Fit) (hg : S.Good) (l : Int) : (R.decideR l).2 = (S.decide' l).2 ∧ Sim (S.decide' l).1 (R.decideR l).1 ∧ (R.decideR l).1.Fit := by
  by_cases h1 : S.isLit l
  · have h1' := (h.isLit l).2 h1
    by_cases hc : S.clash ≠ 0
    · have hb := h.bad.2 hc
      have eS : S.decide' l = (S, 31) := by unfold ES.decide'; rw [if_neg (fun hh => hh h1), if_pos hc]
      have eR : R.decideR l = (R, 31) := by unfold RS.decideR; rw [if_neg (fun hh => hh h1'), if_pos hb]
      rw [eS, eR]; exact ⟨rfl, h, hf⟩
    · have hb : R.bad = false := by
        cases hb : R.bad with
        | true => exact absurd (h.bad.1 hb) hc
        | false => rfl
      have hb' : ¬ R.bad = true := by rw [hb]; simp
      have ho := h.of hb hg hf h1.1
      by_cases hz : S.of l ≠ 0
      · have eS : S.decide' l = (S, 30) := by unfold ES.decide'; rw [if_neg (fun hh => hh h1), if_neg hc, if_pos hz]
        have eR : R.decideR l = (R, 30) := by unfold RS.decideR; rw [if_neg (fun hh => hh h1'), if_neg hb', if_pos (by rw [ho]; exact hz)]
        rw [eS, eR]; exact ⟨rfl, h, hf⟩
      · have hz0 : S.of l = 0 := by omega
        have eS : S.decide' l = (S.deep l, 0) := by unfold ES.decide'; rw [if_neg (fun hh => hh h1), if_neg hc, if_neg hz]; rfl
        have eR : R.decideR l = (R.deepR l, 0) := by unfold RS.decideR; rw [if_neg (fun hh => hh h1'), if_neg hb', if_neg (by rw [ho]; exact hz)]
        rw [eS, eR]
        exact ⟨rfl, h.deep hb hg h1 hz0, hf.push h1' (by rw [ho]; exact hz0) (by omega)⟩
  · have h1' : ¬ R.isLit l := fun hh => h1 ((h.isLit l).1 hh)
    have eS : S.decide' l = (S, 20) := by unfold ES.decide'; rw [if_pos h1]
    have eR : R.decideR l = (R, 20) := by unfold RS.decideR; rw [if_pos h1']
    rw [eS, eR]; exact ⟨rfl, h, hf⟩

theorem backS (h : Sim S R) (hf : R.Fit) (hg : S.Good) (level : Int) : (R.backR level).2 = (S.back level).2 ∧ Sim (S.back level).1 (R.backR level).1 ∧ (R.backR level).1.Fit := by
  have hlv := h.level
  unfold RS.backR
  rcases back_cases S level with ⟨e, ⟨e2, e3⟩ | ⟨e2, e3⟩⟩ | ⟨e1, e2, e3, e4⟩
  · rw [if_pos (by omega), e, e2]; exact ⟨rfl, h, hf⟩
  · have hl0 := hf.lev0
    have hft : R.tr.filter (fun p => decide (p.2 ≤ level)) = R.tr := by
      rw [List.filter_eq_self]
      intro p hp
      have := hf.lev p hp
      simp only [decide_eq_true_eq]
      omega
    rw [if_neg (by omega), e, e2, hft, if_neg (by omega), show level = R.level by omega]
    exact ⟨rfl, h, hf⟩
  · obtain ⟨k, rfl⟩ : ∃ k : Nat, level = k := ⟨level.toNat, by omega⟩
    rw [if_neg (by omega), e1, e2, if_pos (by omega)]
    exact ⟨rfl, h.rear hg (by simpa using e4), hf.rear (by omega) false⟩

theorem valueS (h : Sim S R) (hb : R.bad = false) (hf : R.Fit) (hg : S.Good) (v : Int) : S.value v = R.value v := by
  unfold ES.value RS.value
  rw [h.n]
  by_cases h1 : v < 1 ∨ (S.n : Int) < v
  · rw [if_pos h1, if_pos h1]
  · rw [if_neg h1, if_neg h1, h.of hb hg hf (by omega)]
    unfold ES.of
    rw [if_neg (by omega), show v.toNat = v.natAbs by omega]

theorem levelGo_none {t : List (Int × Int)} {v : Int} (h : ∀ p, p ∈ t → p.1 ≠ v ∧ p.1 ≠ -v) : RS.levelGo t v = -1 := by
  induction t with
  | nil => rfl
  | cons p t ih =>
    unfold RS.levelGo
    have := h p (by simp)
    rw [if_neg (by rintro (e | e); exact this.1 e; exact this.2 e)]
    exact ih fun q hq => h q (List.mem_cons_of_mem _ hq)
theorem levelGo_some {t : List (Int × Int)} {v L : Int} (h : ∀ p, p ∈ t → (p.1 = v ∨ p.1 = -v) → p.2 = L) (he : ∃ p, p ∈ t ∧ (p.1 = v ∨ p.1 = -v)) : RS.levelGo t v = L := by
  induction t with
  | nil => obtain ⟨p, hp, _⟩ := he; cases hp
  | cons p t ih =>
    unfold RS.levelGo
    by_cases hp : p.1 = v ∨ p.1 = -v
    · rw [if_pos hp]; exact h p (by simp) hp
    · rw [if_neg hp]
      refine ih (fun q hq => h q (List.mem_cons_of_mem _ hq)) ?_
      obtain ⟨q, hq, e⟩ := he
      rcases List.mem_cons.1 hq with rfl | hq
      · exact absurd e hp
      · exact ⟨q, hq, e⟩

theorem levelS (h : Sim S R) (hb : R.bad = false) (hf : R.Fit) (hg : S.Good) (v : Int) : S.levelOf v = R.levelOf v := by
  have hc := hg.inv.core
  have hv := h.valueS hb hf hg v
  unfold ES.levelOf RS.levelOf
  by_cases h1 : v < 1
  · have hv0 : S.value v = 0 := by unfold ES.value; rw [if_pos (Or.inl h1)]
    rw [if_pos h1, if_pos hv0]
  · rw [if_neg h1]
    by_cases h0 : S.value v = 0
    · rw [if_pos h0]
      refine (levelGo_none fun p hp => ?_).symm
      have hr := hf.rng p hp
      by_cases h2 : (S.n : Int) < v
      · have := h.n; constructor <;> omega
      · have hz : R.of v = 0 := by
          rw [hv] at h0
          unfold RS.value at h0
          rw [if_neg (by rw [h.n]; omega)] at h0
          exact h0
        constructor
        · intro e; have := hf.of_one.2 ⟨p, hp, e⟩; omega
        · intro e; have := hf.of_minus.2 ⟨p, hp, e⟩; omega
    · rw [if_neg h0]
      have h2 : ¬ (v < 1 ∨ (S.n : Int) < v) := fun hh => h0 (by unfold ES.value; rw [if_pos hh])
      have hval : S.val.getD v.toNat 0 ≠ 0 := by
        unfold ES.value at h0
        rwa [if_neg h2] at h0
      obtain ⟨l, hl, he⟩ := hc.val_zero _ hval
      have hlv : S.lv l = S.lev.getD v.toNat 0 := by unfold ES.lv; rw [he]
      have hlc : l = v ∨ l = -v := by omega
      have hin : (l, (S.lv l : Int)) ∈ R.tr := (h.same l _ (.inr hb)).2 ⟨hl, rfl⟩
      refine (levelGo_some (fun p hp hpv => ?_) ⟨_, hin, hlc⟩).symm
      have := RS.nodup_map_inj hf.nd p (l, (S.lv l : Int)) hp hin (by show p.1.natAbs = l.natAbs; omega)
      rw [this, ← hlv]
end Sim

/-- right, within its sizes, and like the document's -/
structure Alike (A t : Nat) (S : ES) (R : RS) : Prop where
  live : S.Live A t
  sim : Sim S R
  fit : R.Fit

theorem Alike.small {A t : Nat} {S : ES} {R : RS} (h : Alike A t S R) : R.all.length ≤ 1048576 ∧ 0 ≤ R.lits ∧ R.lits ≤ 4194304 ∧ 0 ≤ R.level ∧ R.level ≤ 1048576 ∧ ∀ c, c ∈ R.all → c.length ≤ 65536 := by
  have hi := h.live.good.inv
  have h1 := hi.cs_len
  have h2 := hi.lits_le
  have h3 := hi.core.mks_len
  have h4 := hi.core.tr_len
  have h5 := hi.n_le
  have h6 := h.sim.lits
  have h7 := h.sim.level
  refine ⟨by rw [h.sim.all]; exact h1, by omega, by omega, by omega, by omega, fun c hc => hi.cl_len c (by rw [← h.sim.all]; exact hc)⟩
theorem Alike.more {A t t' : Nat} {S : ES} {R : RS} (h : Alike A t S R) (ht : t ≤ t') : Alike A t' S R := ⟨h.live.more ht, h.sim, h.fit⟩
end Go.Proofs.Ytaileihnkmjfiaa
