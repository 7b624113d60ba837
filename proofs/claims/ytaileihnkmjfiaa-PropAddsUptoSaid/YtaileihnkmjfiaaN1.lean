/-
  What the trail, the reasons and the conflict tell, in plain words. Conditions: those each theorem names.
-/
import Derived.Test.YtaileihnkmjfiaaD1
import Derived.Test.YtaileihnkmjfiaaR1
namespace Go.Proofs.Ytaileihnkmjfiaa
open ES

theorem eqB_self (c : List Int) : eqB c c = true := by
  unfold eqB
  simp

theorem oneB_of_mem {L : List (List Int)} {c : List Int} (h : c ∈ L) : oneB L c = true := by
  unfold oneB
  rw [List.any_eq_true]
  exact ⟨c, h, eqB_self c⟩

theorem take_index {L : List Int} {i : Nat} {x : Int} (hx : x ∈ L.take i) : ∃ j, j < i ∧ j < L.length ∧ L.getD j 0 = x := by
  obtain ⟨j, hj, he⟩ := mem_getD (0 : Int) hx
  rw [List.length_take] at hj
  rw [getD_take, if_pos (by omega)] at he
  exact ⟨j, by omega, by omega, he⟩

/-- two places of the trail hold unlike variables -/
theorem trail_apart {S : ES} (h : S.core) {i j : Nat} (hi : i < S.tr.length) (hj : j < S.tr.length) (he : (S.tr.getD i 0).natAbs = (S.tr.getD j 0).natAbs) : i = j := by
  have hnd := List.pairwise_iff_getElem.1 h.tr_nd
  have e : ∀ k (hk : k < S.tr.length), (S.tr.map Int.natAbs)[k]'(by simpa using hk) = (S.tr.getD k 0).natAbs := fun k hk => by simp [List.getD, hk]
  rcases Nat.lt_trichotomy i j with hlt | heq | hlt
  · exact absurd ((e i hi).trans (he.trans (e j hj).symm)) (hnd i j (by simpa using hi) (by simpa using hj) hlt)
  · exact heq
  · exact absurd ((e j hj).trans (he.symm.trans (e i hi).symm)) (hnd j i (by simpa using hj) (by simpa using hi) hlt)

structure Told (S : ES) (B : BK) (i : Nat) (l : Int) (v : Nat) (lev : Nat) : Prop where
  nz : l ≠ 0
  abs : v = l.natAbs
  pos : 1 ≤ v
  rng : v ≤ S.n
  new1 : l ∉ S.tr.take i
  new2 : -l ∉ S.tr.take i
  val : S.value (v : Int) = sg l
  lev_eq : S.levelOf (v : Int) = (lev : Int)
  lev_le : lev ≤ S.mks.length
  why : (∃ j, lev = j + 1 ∧ j < B.dc.length ∧ B.dc.getD j 0 = l ∧ S.reason (v : Int) = []) ∨
    ((lev = 0 ∨ ∃ j, lev = j + 1 ∧ j < B.dc.length ∧ B.dc.getD j 0 ≠ l) ∧ l ∈ S.reason (v : Int) ∧ S.reason (v : Int) ∈ B.cl ∧ ∀ m, m ∈ S.reason (v : Int) → m ≠ l → -m ∈ S.tr.take i)

theorem told {S : ES} {B : BK} (hg : S.Good) (ha : Agree S B) {i : Nat} (hi : i < S.tr.length) : ∃ lev, Told S B i (S.tr.getD i 0) (S.tr.getD i 0).natAbs lev := by
  have hc := hg.inv.core
  have hin : S.tr.getD i 0 ∈ S.tr := getD_mem' 0 hi
  obtain ⟨h0, hn⟩ := hc.tr_rng _ hin
  have hval : S.val.getD (S.tr.getD i 0).natAbs 0 = sg (S.tr.getD i 0) := hc.val_eq _ hin
  have hv1 : 1 ≤ (S.tr.getD i 0).natAbs := by omega
  have hvalue : S.value ((S.tr.getD i 0).natAbs : Int) = sg (S.tr.getD i 0) := by
    unfold ES.value
    rw [if_neg (by omega), Int.toNat_natCast]
    exact hval
  have hsg : sg (S.tr.getD i 0) ≠ 0 := by rcases sg_cases h0 with ⟨_, e, _⟩ | ⟨_, e, _⟩ <;> rw [e] <;> decide
  have hat := hc.lev_tr i hi
  have hnew : ∀ x, x.natAbs = (S.tr.getD i 0).natAbs → x ∉ S.tr.take i := by
    intro x hx hm
    obtain ⟨j, hj, hjl, he⟩ := take_index hm
    have := trail_apart hc hjl hi (by rw [he]; exact hx)
    omega
  have hdl : B.dc.length = S.mks.length := by rw [ha.dc, decs_len]
  have hdg : ∀ j, j < S.mks.length → B.dc.getD j 0 = S.tr.getD (S.mks.getD j 0) 0 := by
    intro j hj
    rw [ha.dc]
    unfold decs
    simp [List.getD, hj]
  refine ⟨S.lev.getD (S.tr.getD i 0).natAbs 0, h0, rfl, hv1, hn, hnew _ rfl, hnew _ (by omega), hvalue, ?_, hat.1, ?_⟩
  · unfold ES.levelOf
    rw [hvalue, if_neg hsg, Int.toNat_natCast]
  · obtain ⟨a1, a2, a3⟩ := hat
    generalize hL : S.lev.getD (S.tr.getD i 0).natAbs 0 = L at *
    have hreason : S.reason ((S.tr.getD i 0).natAbs : Int) = if S.rsn.getD (S.tr.getD i 0).natAbs 0 = 0 then [] else S.cs.getD (S.rsn.getD (S.tr.getD i 0).natAbs 0 - 1) [] := by
      unfold ES.reason
      rw [hvalue, Int.toNat_natCast]
      by_cases hr : S.rsn.getD (S.tr.getD i 0).natAbs 0 = 0
      · rw [if_pos (.inr hr), if_pos hr]
      · rw [if_neg (by rintro (h | h); exact hsg h; exact hr h), if_neg hr]
    rcases hg.inv.why i hi with ⟨b1, b2⟩ | ⟨b1, k, c1, c2, c3, c4⟩
    · left
      obtain ⟨j, hj, he⟩ := mem_getD (0 : Nat) b1
      have hjL : j < L := by
        apply Classical.byContradiction
        intro hh
        have := a3 j (by omega) hj
        omega
      have hLj : L = j + 1 := by
        apply Classical.byContradiction
        intro hh
        have h1 := a2 (j + 1) (by omega)
        have h2 := hc.mks_inc j (j + 1) (by omega) (by omega)
        omega
      refine ⟨j, hLj, by omega, by rw [hdg j hj, he], by rw [hreason, if_pos b2]⟩
    · right
      have hr : S.reason ((S.tr.getD i 0).natAbs : Int) = S.cs.getD k [] := by
        rw [hreason, c2, if_neg (by omega)]
        rfl
      refine ⟨?_, by rw [hr]; exact c3, by rw [hr, ha.cl]; exact getD_mem' [] c1, by rw [hr]; exact c4⟩
      by_cases hL0 : L = 0
      · exact .inl hL0
      · right
        refine ⟨L - 1, by omega, by omega, fun he => b1 ?_⟩
        rw [hdg (L - 1) (by omega)] at he
        have := trail_apart hc (hc.mks_lt (L - 1) (by omega)) hi (by rw [he])
        rw [← this]
        exact getD_mem' 0 (by omega)
end Go.Proofs.Ytaileihnkmjfiaa
