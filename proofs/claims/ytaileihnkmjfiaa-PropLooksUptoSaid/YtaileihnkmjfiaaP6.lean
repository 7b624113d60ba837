/-
  Propagate keeps the invariant and the watches, and asks nothing that is not so. Conditions: those each theorem names.
-/
import Derived.Test.YtaileihnkmjfiaaT7
import Derived.Test.YtaileihnkmjfiaaP5
namespace Go.Proofs.Ytaileihnkmjfiaa
namespace ES

/-- what a part of Propagate leaves as it is -/
structure Goes (S S' : ES) : Prop where
  n : S'.n = S.n
  cs : S'.cs = S.cs
  lits : S'.lits = S.lits
  mks : S'.mks = S.mks
  tr : ∃ t, S'.tr = S.tr ++ t
  lv : ∀ l, l ∈ S.tr → S'.lv l = S.lv l
theorem Goes.refl (S : ES) : Goes S S := ⟨rfl, rfl, rfl, rfl, ⟨[], by simp⟩, fun _ _ => rfl⟩
theorem Goes.trans {A B C : ES} (h : Goes A B) (g : Goes B C) : Goes A C := by
  obtain ⟨t, ht⟩ := h.tr
  obtain ⟨u, hu⟩ := g.tr
  exact ⟨g.n.trans h.n, g.cs.trans h.cs, g.lits.trans h.lits, g.mks.trans h.mks, ⟨t ++ u, by rw [hu, ht, List.append_assoc]⟩,
    fun l hl => (g.lv l (by rw [ht]; simp [hl])).trans (h.lv l hl)⟩
theorem Keeps.goes {S S' : ES} (h : Keeps S S') : Goes S S' := ⟨h.n, h.cs, h.lits, h.mks, h.tr, h.lv⟩

def occ (S : ES) (l : Int) : Nat := sumTo (fun k => if l ∈ S.cs.getD k [] then 1 else 0) S.cs.length
/-- the literals whose falsity was not looked at -/
def far (S : ES) (m : Nat) : Nat := sumTo (fun k => (S.cs.getD k []).countP fun a => decide (-a ∉ S.tr.take m)) S.cs.length

theorem visit_ok {S : ES} {l : Int} {B1 B2 : Nat} (hB1 : B1 + 2 ≤ 8796093022208) (hB2 : B2 + 2 ≤ 8796093022208) (h : S.Inv 0) (hc0 : S.clash = 0) (l0 : l ≠ 0) (h1 : 1 ≤ S.head) (hl : S.tr.getD (S.head - 1) 0 = -l)
    (hf : ∀ k, k < S.cs.length → k ∉ S.fr → S.Fine (S.head - 1) k) (hw : S.wsz ≤ B1) (hm : S.mass + S.occ l ≤ B2) :
    (pl l < S.wt.length → VOk l (S.wt.getD (pl l) []) (S.wt.getD (pl l) []) { S with turn := S.turn + 1 } []) ∧
    (S.visit l).1.Inv 0 ∧ Goes S (S.visit l).1 ∧ (S.visit l).1.head = S.head ∧ (S.visit l).1.fr = S.fr ∧ (S.visit l).1.turn ≤ S.turn + 1 ∧ (S.visit l).1.wsz ≤ B1 ∧ (S.visit l).1.mass ≤ B2 ∧
    ((S.visit l).2 = true → (S.visit l).1.clash = 0 ∧ ∀ k, k < S.cs.length → k ∉ S.fr → (S.visit l).1.Fine S.head k) ∧
    ((S.visit l).2 = false → (S.visit l).1.clash ≠ 0 ∧ ∀ k, k < S.cs.length → k ∉ S.fr → (S.visit l).1.clash ≠ k + 1 → (S.visit l).1.Fine (S.head - 1) k) := by
  by_cases hlt : pl l < S.wt.length
  · have hS2 : ({ S with turn := S.turn + 1 } : ES).Inv 0 :=
      ⟨h.core, h.n_le, h.rsn_len, h.lit_rng, h.cl_len, h.cs_len, h.lits_eq, h.lits_le, h.pr_len, h.stp_len, fun k => Nat.le_succ_of_le (h.stp_le k), h.pr_fst, h.pr_snd, h.wt_rng, h.hl_rng, h.fr_rng, h.clash_le, h.head_le, h.wt_len, h.hl_len, h.pw, h.why, h.rsn_zero, h.clash_false⟩
    have hne : ∀ k, ({ S with turn := S.turn + 1 } : ES).stp.getD k 0 ≠ ({ S with turn := S.turn + 1 } : ES).turn := fun k => by
      have := h.stp_le k
      show S.stp.getD k 0 ≠ S.turn + 1
      omega
    have hV : Vis l (S.wt.getD (pl l) []) B1 B2 (S.wt.getD (pl l) []) { S with turn := S.turn + 1 } [] := by
      refine ⟨l0, hS2.weak l, hc0, by simp, hlt, ⟨[], by simp⟩, fun k hk => h.wt_rng _ k hk, by simp, h1, hl, ?_, ?_, ?_, hw, ?_⟩
      · intro k hk
        exact .inr ⟨h.pw k l l0 l0 hk, hne k⟩
      · intro k hk hkf _ _
        exact hf k hk hkf
      · intro k hk hkf hn
        have hnw : k ∉ S.wt.getD (pl l) [] := fun hh => hn ⟨hh, hne k⟩
        refine (hf k hk hkf).more h1 h.head_le hl ?_ ?_
        · intro he
          exact hnw (h.pw k l l0 l0 (.inl he.symm))
        · intro he
          exact hnw (h.pw k l l0 l0 (.inr he.symm))
      · refine Nat.le_trans (Nat.add_le_add_left ?_ _) hm
        unfold ES.unst ES.occ
        refine sumTo_le fun k _ => ?_
        show (if l ∈ S.cs.getD k [] ∧ _ then 1 else 0) ≤ if l ∈ S.cs.getD k [] then 1 else 0
        split
        · rename_i hh; rw [if_pos hh.1]; exact Nat.le_refl _
        · exact Nat.zero_le _
    obtain ⟨a, b⟩ := visitGo_ok hB1 hB2 _ _ _ hV
    have e : S.visit l = visitGo l (S.wt.getD (pl l) []) (S.wt.getD (pl l) []) { S with turn := S.turn + 1 } [] := by
      unfold visit
      rw [if_neg (by omega)]
    rw [e]
    refine ⟨fun _ => a, b.inv, ⟨b.keeps.n, b.keeps.cs, b.keeps.lits, b.keeps.mks, b.keeps.tr, b.keeps.lv⟩, b.keeps.head, b.keeps.fr, Nat.le_of_eq b.keeps.turn, b.wsz, b.mass, b.yes, b.no⟩
  · have e : S.visit l = (S, true) := by
      unfold visit
      rw [if_pos (by omega)]
    rw [e]
    refine ⟨fun hh => absurd hh hlt, h, Goes.refl S, rfl, rfl, Nat.le_succ _, hw, by show S.mass ≤ B2; omega, fun _ => ⟨hc0, fun k hk hkf => ?_⟩, fun hh => by cases hh⟩
    have hnw : k ∉ S.wt.getD (pl l) [] := by
      intro hh
      simp [List.getD, List.getElem?_eq_none (Nat.le_of_not_lt hlt)] at hh
    refine (hf k hk hkf).more h1 h.head_le hl ?_ ?_
    · intro he
      exact hnw (h.pw k l l0 l0 (.inl he.symm))
    · intro he
      exact hnw (h.pw k l l0 l0 (.inr he.symm))

/-- what is so of an engine between two calls -/
structure Good (S : ES) : Prop where
  inv : S.Inv 0
  fine : ∀ k, k < S.cs.length → k ∉ S.fr → S.clash ≠ k + 1 → S.Fine S.head k

theorem Inv.pop {S : ES} {x : Int} (h : S.Inv x) : S.pop.Inv x :=
  ⟨h.core, h.n_le, h.rsn_len, h.lit_rng, h.cl_len, h.cs_len, h.lits_eq, h.lits_le, h.pr_len, h.stp_len, h.stp_le, h.pr_fst, h.pr_snd, h.wt_rng, h.hl_rng, fun k hk => h.fr_rng k ((List.dropLast_sublist _).subset hk), h.clash_le, h.head_le, h.wt_len, h.hl_len, h.pw, h.why, h.rsn_zero, h.clash_false⟩
theorem Inv.headTo {S : ES} {x : Int} (h : S.Inv x) {m : Nat} (hm : m ≤ S.tr.length) : ({ S with head := m } : ES).Inv x :=
  ⟨h.core, h.n_le, h.rsn_len, h.lit_rng, h.cl_len, h.cs_len, h.lits_eq, h.lits_le, h.pr_len, h.stp_len, h.stp_le, h.pr_fst, h.pr_snd, h.wt_rng, h.hl_rng, h.fr_rng, h.clash_le, hm, h.wt_len, h.hl_len, h.pw, h.why, h.rsn_zero, h.clash_false⟩

theorem room_of {S : ES} {B1 B2 : Nat} (hB1 : B1 + 2 ≤ 8796093022208) (hB2 : B2 + 2 ≤ 8796093022208) (h1 : S.wsz ≤ B1) (h2 : S.mass ≤ B2) : S.Room 2 := by
  constructor
  · intro i
    have := ents_getD S.wt i
    unfold ES.wsz at h1
    omega
  · intro i
    have := ents_getD S.hl i
    unfold ES.mass at h2
    omega

theorem popGo_ok {B1 B2 : Nat} (hB1 : B1 + 2 ≤ 8796093022208) (hB2 : B2 + 2 ≤ 8796093022208) : ∀ (n : Nat) (S : ES), S.fr.length = n → S.Good → S.clash = 0 → S.wsz ≤ B1 → S.mass ≤ B2 →
    PopOk n S ∧ (popGo n S).1.Good ∧ Goes S (popGo n S).1 ∧ (popGo n S).1.head = S.head ∧ (popGo n S).1.turn = S.turn ∧ (popGo n S).1.wsz ≤ B1 ∧ (popGo n S).1.mass ≤ B2 ∧
    ((popGo n S).2 = true → (popGo n S).1.clash = 0 ∧ (popGo n S).1.fr = []) ∧ ((popGo n S).2 = false → (popGo n S).1.clash ≠ 0) := by
  intro n
  induction n with
  | zero =>
    intro S hn hg hc hw hm
    exact ⟨hn, hg, Goes.refl S, rfl, rfl, hw, hm, fun _ => ⟨hc, List.length_eq_zero_iff.1 hn⟩, fun hh => by cases hh⟩
  | succ n ih =>
    intro S hn hg hc hw hm
    have hne : S.fr ≠ [] := by intro he; rw [he] at hn; simp at hn
    have hlast : S.lastFr = S.fr.getLast hne := by
      unfold lastFr
      rw [List.getLast_eq_getElem]
      simp [List.getD, hn]
    have hsplit : S.fr = S.pop.fr ++ [S.lastFr] := by
      rw [hlast]
      exact (List.dropLast_concat_getLast hne).symm
    have hpI := hg.inv.pop
    have hk : S.lastFr < S.cs.length := hg.inv.fr_rng _ (by rw [hlast]; exact List.getLast_mem hne)
    have hkp : S.lastFr < S.pop.cs.length := hk
    have hmp : S.pop.mass + 1 = S.mass := by
      unfold mass
      rw [hsplit]
      simp only [List.length_append, List.length_cons, List.length_nil]
      show S.pop.fr.length + ents S.hl + 1 = _
      omega
    have st := settled hpI hkp
    have hI := hpI.settle hc hkp
    have hroom : S.pop.Room 2 := room_of hB1 hB2 (S := S.pop) hw (by omega)
    have hfl : S.fr.length ≤ 8796093022208 := by
      unfold mass at hm
      omega
    have hgoes : Goes S (S.pop.settle S.lastFr).1 := ⟨st.n, st.cs, st.lits, st.mks, st.tr, st.lv⟩
    have hO : ∀ j, j ≠ S.lastFr → j < S.cs.length → j ∉ S.pop.fr → (S.pop.settle S.lastFr).1.Fine S.head j := by
      intro j hj hjl hjf
      refine Fine.other (S := S.pop) hpI hkp hj hg.inv.head_le (hg.fine j hjl ?_ (by omega))
      rw [hsplit, List.mem_append, List.mem_singleton]
      rintro (h1 | h1)
      · exact hjf h1
      · exact hj h1
    by_cases hgood : (S.pop.settle S.lastFr).2 = true
    · have hcl : (S.pop.settle S.lastFr).1.clash = 0 := by rw [st.clash, if_pos hgood]; exact hc
      have hG : (S.pop.settle S.lastFr).1.Good := by
        refine ⟨hI, fun j hj hjf _ => ?_⟩
        rw [st.cs] at hj
        rw [st.fr] at hjf
        rw [st.head]
        by_cases hjk : j = S.lastFr
        · subst hjk
          exact hpI.settle_fine hc hkp hg.inv.head_le hgood
        · exact hO j hjk hj hjf
      have hfr : (S.pop.settle S.lastFr).1.fr.length = n := by
        rw [st.fr]
        show S.fr.dropLast.length = n
        simp [hn]
      obtain ⟨a, b, c, d, d2, e, f, g, i⟩ := ih _ hfr hG hcl (Nat.le_trans st.wsz hw) (by have := st.mass; omega)
      have er : popGo (n + 1) S = popGo n (S.pop.settle S.lastFr).1 := by
        show (if _ then _ else _) = _
        rw [if_pos hgood]
      rw [er]
      exact ⟨⟨hn, hfl, hpI.ok, hroom, hk, fun _ => a⟩, b, hgoes.trans c, d.trans st.head, d2.trans st.turn, e, f, g, i⟩
    · have er : popGo (n + 1) S = ((S.pop.settle S.lastFr).1, false) := by
        show (if _ then _ else _) = _
        rw [if_neg hgood]
      have hcl : (S.pop.settle S.lastFr).1.clash = S.lastFr + 1 := by rw [st.clash, if_neg hgood]
      rw [er]
      refine ⟨⟨hn, hfl, hpI.ok, hroom, hk, fun hh => absurd hh hgood⟩, ⟨hI, fun j hj hjf hjc => ?_⟩, hgoes, st.head, st.turn, Nat.le_trans st.wsz hw, by have := st.mass; show (S.pop.settle S.lastFr).1.mass ≤ B2; omega, fun hh => (by cases hh), fun _ => by show (S.pop.settle S.lastFr).1.clash ≠ 0; omega⟩
      have hj : j < (S.pop.settle S.lastFr).1.cs.length := hj
      have hjf : j ∉ (S.pop.settle S.lastFr).1.fr := hjf
      have hjc : (S.pop.settle S.lastFr).1.clash ≠ j + 1 := hjc
      rw [st.cs] at hj
      rw [st.fr] at hjf
      show (S.pop.settle S.lastFr).1.Fine (S.pop.settle S.lastFr).1.head j
      rw [st.head]
      exact hO j (by omega) hj hjf

theorem take_head {tr t : List Int} {m : Nat} (h : m ≤ tr.length) : (tr ++ t).take m = tr.take m := by
  rw [List.take_append, Nat.sub_eq_zero_of_le h]; simp
theorem take_next {tr : List Int} {m : Nat} (h : m < tr.length) : tr.take (m + 1) = tr.take m ++ [tr.getD m 0] := by
  rw [List.take_add_one, List.getElem?_eq_getElem h]
  simp [List.getD, h]

theorem far_goes {S S' : ES} (h : Goes S S') {m : Nat} (hm : m ≤ S.tr.length) : S'.far m = S.far m := by
  obtain ⟨t, ht⟩ := h.tr
  unfold far
  rw [h.cs, ht, take_head hm]

theorem far_next {S : ES} (h : S.Inv 0) {m : Nat} (hm : m < S.tr.length) : S.far (m + 1) + S.occ (-(S.tr.getD m 0)) ≤ S.far m := by
  unfold far occ
  rw [← sumTo_add]
  refine sumTo_le fun k _ => ?_
  rw [take_next hm]
  have hmono : ∀ a, a ∈ S.cs.getD k [] → decide (-a ∉ S.tr.take m ++ [S.tr.getD m 0]) = true → decide (-a ∉ S.tr.take m) = true := by
    intro a _ hh
    simp only [decide_eq_true_eq, List.mem_append, not_or] at hh ⊢
    exact hh.1
  split
  · rename_i hin
    refine countP_lt _ hmono hin (by simp) ?_
    simp only [Int.neg_neg, decide_eq_true_eq]
    intro hmem
    have hnd := h.core.tr_nd
    rw [← List.take_append_drop m S.tr, List.map_append, List.nodup_append] at hnd
    refine hnd.2.2 _ (List.mem_map_of_mem hmem) _ (List.mem_map_of_mem (?_ : S.tr.getD m 0 ∈ S.tr.drop m)) rfl
    rw [List.drop_eq_getElem_cons hm, show S.tr.getD m 0 = S.tr[m] by simp [List.getD, hm]]
    exact List.mem_cons_self
  · exact countP_mono _ hmono

theorem far_le (S : ES) (m : Nat) : S.far m ≤ (S.cs.map List.length).sum := by
  have : ∀ (cs : List (List Int)) (f : List Int → Nat), (∀ c, f c ≤ c.length) → sumTo (fun k => f (cs.getD k [])) cs.length ≤ (cs.map List.length).sum := by
    intro cs f hf
    have key : ∀ j, j ≤ cs.length → sumTo (fun k => f (cs.getD k [])) j ≤ ((cs.take j).map List.length).sum := by
      intro j
      induction j with
      | zero => intro _; simp [sumTo]
      | succ j ih =>
        intro hj
        have h1 := ih (by omega)
        have h2 := hf (cs.getD j [])
        show sumTo _ j + f (cs.getD j []) ≤ _
        rw [List.take_add_one, List.getElem?_eq_getElem (by omega)]
        simp only [Option.toList, List.map_append, List.sum_append, List.map_cons, List.map_nil, List.sum_cons, List.sum_nil]
        have e : cs.getD j [] = cs[j] := by simp [List.getD, show j < cs.length by omega]
        rw [e] at h2
        rw [e]
        omega
    have := key cs.length (Nat.le_refl _)
    rwa [List.take_length] at this
  exact this S.cs (fun c => c.countP fun a => decide (-a ∉ S.tr.take m)) (fun c => List.countP_le_length)

theorem headGo_ok {B1 B2 : Nat} (hB1 : B1 + 2 ≤ 8796093022208) (hB2 : B2 + 2 ≤ 8796093022208) : ∀ (f : Nat) (S : ES), S.n + 1 ≤ f + S.head → S.Good → S.fr = [] → S.clash = 0 → S.wsz ≤ B1 → S.mass + S.far S.head ≤ B2 → S.turn + f ≤ 1152921504606846976 →
    HeadOk f S ∧ (headGo f S).1.Good ∧ Goes S (headGo f S).1 ∧ (headGo f S).1.fr = [] ∧ (headGo f S).1.turn ≤ S.turn + f ∧ (headGo f S).1.wsz ≤ B1 ∧ (headGo f S).1.mass ≤ B2 ∧
    ((headGo f S).2 = true → (headGo f S).1.clash = 0 ∧ (headGo f S).1.head = (headGo f S).1.tr.length ∧ (headGo f S).1.mass + (headGo f S).1.far (headGo f S).1.head ≤ B2) ∧ ((headGo f S).2 = false → (headGo f S).1.clash ≠ 0) := by
  intro f
  induction f with
  | zero =>
    intro S hf hg hfr hc hw hm ht
    have h1 := hg.inv.head_le
    have h2 := hg.inv.core.tr_len
    omega
  | succ f ih =>
    intro S hf hg hfr hc hw hm ht
    have h1 := hg.inv.head_le
    have h2 := hg.inv.core.tr_len
    have h3 := hg.inv.n_le
    by_cases hlt : S.head < S.tr.length
    · have hI1 : S.step1.Inv 0 := hg.inv.headTo (m := S.head + 1) (by omega)
      have hmem : S.tr.getD S.head 0 ∈ S.tr := getD_mem' 0 hlt
      have hl0 : S.nextL ≠ 0 ∧ S.nextL.natAbs ≤ S.n := by
        have := hg.inv.core.tr_rng _ hmem
        unfold nextL
        omega
      have hlast : S.step1.tr.getD (S.step1.head - 1) 0 = -S.nextL := by
        show S.tr.getD (S.head + 1 - 1) 0 = _
        unfold nextL
        rw [Nat.add_sub_cancel]
        omega
      have hfar := far_next hg.inv hlt
      obtain ⟨v1, v2, v3, v4, v5, v6, v7, v8, v9, v10⟩ := visit_ok (S := S.step1) (l := S.nextL) (B1 := B1) (B2 := B2 - S.far (S.head + 1)) hB1 (by omega) hI1 hc hl0.1 (by show 1 ≤ S.head + 1; omega) hlast
        (fun k hk hkf => by
          show S.Fine (S.head + 1 - 1) k
          rw [Nat.add_sub_cancel]
          exact hg.fine k hk hkf (by omega)) hw (by
          show S.mass + S.occ S.nextL ≤ _
          unfold nextL
          omega)
      have v4 : (S.step1.visit S.nextL).1.head = S.head + 1 := v4
      have v5 : (S.step1.visit S.nextL).1.fr = [] := v5.trans hfr
      have v6 : (S.step1.visit S.nextL).1.turn ≤ S.turn + 1 := v6
      have vg : Goes S (S.step1.visit S.nextL).1 := ⟨v3.n, v3.cs, v3.lits, v3.mks, v3.tr, v3.lv⟩
      have hbase : S.step1.Ok ∧ (S.nextL ≠ 0 ∧ S.nextL.natAbs ≤ S.n) ∧ S.turn ≤ 1152921504606846976 ∧ (∀ i, (S.wt.getD i []).length ≤ 8796093022208) ∧
          (pl S.nextL < S.wt.length → VOk S.nextL (S.wt.getD (pl S.nextL) []) (S.wt.getD (pl S.nextL) []) { S.step1 with turn := S.turn + 1 } []) ∧
          (1 ≤ (S.step1.visit S.nextL).1.head ∧ (S.step1.visit S.nextL).1.head ≤ 1048577) := by
        refine ⟨hI1.ok, hl0, by omega, fun i => ?_, v1, by omega, by omega⟩
        have := ents_getD S.wt i
        unfold ES.wsz at hw
        omega
      obtain ⟨q1, q2, q3, q4, q5, q6⟩ := hbase
      by_cases hgood : (S.step1.visit S.nextL).2 = true
      · have y := v9 hgood
        have hG : (S.step1.visit S.nextL).1.Good := by
          refine ⟨v2, fun j hj _ _ => ?_⟩
          rw [vg.cs] at hj
          rw [v4]
          exact y.2 j hj (by show j ∉ S.fr; rw [hfr]; simp)
        have hfar2 : (S.step1.visit S.nextL).1.far (S.head + 1) = S.far (S.head + 1) := far_goes vg (by omega)
        obtain ⟨a, b, c, d, e, g, i, j, m⟩ := ih _ (by rw [v4, vg.n]; omega) hG v5 y.1 v7 (by rw [v4, hfar2]; omega) (by omega)
        have er : headGo (f + 1) S = headGo f (S.step1.visit S.nextL).1 := by
          show (if _ then (if _ then _ else _) else _) = _
          rw [if_pos hlt, if_pos hgood]
        rw [er]
        exact ⟨⟨by omega, by omega, fun _ => ⟨q1, q2, q3, q4, q5, q6, fun _ => a⟩⟩, b, vg.trans c, d, by omega, g, i, j, m⟩
      · have hbad : (S.step1.visit S.nextL).2 = false := by simpa using hgood
        have z := v10 hbad
        have er : headGo (f + 1) S = ({ (S.step1.visit S.nextL).1 with head := (S.step1.visit S.nextL).1.head - 1 }, false) := by
          show (if _ then (if _ then _ else _) else _) = _
          rw [if_pos hlt, if_neg hgood]
        rw [er]
        have hh := v2.head_le
        refine ⟨⟨by omega, by omega, fun _ => ⟨q1, q2, q3, q4, q5, q6, fun hh => absurd hh hgood⟩⟩, ⟨v2.headTo (by omega), fun j hj hjf hjc => ?_⟩, ⟨vg.n, vg.cs, vg.lits, vg.mks, vg.tr, vg.lv⟩, v5, ?_, v7, ?_, fun hh => (by cases hh), fun _ => z.1⟩
        · have hj : j < (S.step1.visit S.nextL).1.cs.length := hj
          rw [vg.cs] at hj
          show (S.step1.visit S.nextL).1.Fine ((S.step1.visit S.nextL).1.head - 1) j
          rw [v4]
          exact z.2 j hj (by show j ∉ S.fr; rw [hfr]; simp) hjc
        · show (S.step1.visit S.nextL).1.turn ≤ _
          omega
        · show (S.step1.visit S.nextL).1.mass ≤ _
          omega
    · have er : headGo (f + 1) S = (S, true) := by
        show (if _ then _ else _) = _
        rw [if_neg hlt]
      rw [er]
      exact ⟨⟨by omega, by omega, fun hh => absurd hh hlt⟩, hg, Goes.refl S, hfr, by show S.turn ≤ _; omega, hw, by show S.mass ≤ _; omega, fun _ => ⟨hc, by show S.head = S.tr.length; omega, hm⟩, fun hh => by cases hh⟩

/-- Propagate -/
theorem Good.propagate {S : ES} (hg : S.Good) {B1 B2 : Nat} (hB1 : B1 + 2 ≤ 8796093022208) (hB2 : B2 + 2 ≤ 8796093022208) (hw : S.wsz ≤ B1) (hm : S.mass + S.far S.head ≤ B2) (ht : S.turn + (S.n + 1) ≤ 1152921504606846976) :
    (S.clash = 0 → PopOk S.fr.length S) ∧ (S.clash = 0 → (popGo S.fr.length S).2 = true → HeadOk (S.n + 1) (popGo S.fr.length S).1) ∧
    S.propagate.1.Good ∧ Goes S S.propagate.1 ∧ S.propagate.1.turn ≤ S.turn + (S.n + 1) ∧ S.propagate.1.wsz ≤ B1 ∧ S.propagate.1.mass + S.propagate.1.far S.propagate.1.head ≤ B2 + S.lits ∧
    (S.propagate.2 = true → S.propagate.1.clash = 0 ∧ S.propagate.1.fr = [] ∧ S.propagate.1.head = S.propagate.1.tr.length) ∧ (S.propagate.2 = false → S.propagate.1.clash ≠ 0) := by
  by_cases hc : S.clash = 0
  · obtain ⟨a1, a2, a3, a4, a4', a5, a6, a7, a8⟩ := popGo_ok hB1 (B2 := B2 - S.far S.head) (by omega) S.fr.length S rfl hg hc hw (by omega)
    have hfar : ∀ R : ES, Goes S R → R.far R.head ≤ S.lits := by
      intro R hR
      have := far_le R R.head
      rw [hR.cs, ← hg.inv.lits_eq] at this
      exact this
    by_cases hgood : (popGo S.fr.length S).2 = true
    · obtain ⟨b1, b2⟩ := a7 hgood
      have hfe : (popGo S.fr.length S).1.far S.head = S.far S.head := far_goes a3 hg.inv.head_le
      obtain ⟨c1, c2, c3, c4, c5, c6, c7, c8, c9⟩ := headGo_ok hB1 (B2 := B2) hB2 (S.n + 1) (popGo S.fr.length S).1 (by rw [a3.n]; omega) a2 b2 b1 a5 (by rw [a4, hfe]; omega) (by rw [a4']; exact ht)
      have er : S.propagate = headGo (S.n + 1) (popGo S.fr.length S).1 := by
        unfold ES.propagate
        rw [if_neg (by simp [hc]), if_pos hgood]
      rw [er]
      refine ⟨fun _ => a1, fun _ _ => c1, c2, a3.trans c3, by omega, c6, ?_, fun hh => ⟨(c8 hh).1, c4, (c8 hh).2.1⟩, c9⟩
      have := hfar _ (a3.trans c3)
      omega
    · have er : S.propagate = ((popGo S.fr.length S).1, false) := by
        unfold ES.propagate
        rw [if_neg (by simp [hc]), if_neg hgood]
      rw [er]
      refine ⟨fun _ => a1, fun _ hh => absurd hh hgood, a2, a3, by show (popGo S.fr.length S).1.turn ≤ _; omega, a5, ?_, fun hh => (by cases hh), fun _ => a8 (by simpa using hgood)⟩
      have := hfar _ a3
      show (popGo S.fr.length S).1.mass + (popGo S.fr.length S).1.far (popGo S.fr.length S).1.head ≤ _
      omega
  · have er : S.propagate = (S, false) := by
      unfold ES.propagate
      rw [if_pos hc]
    rw [er]
    exact ⟨fun hh => absurd hh hc, fun hh => absurd hh hc, hg, Goes.refl S, by show S.turn ≤ _; omega, hw, by show S.mass + S.far S.head ≤ _; omega, fun hh => (by cases hh), fun _ => hc⟩
end ES
end Go.Proofs.Ytaileihnkmjfiaa
