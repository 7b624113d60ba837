/-
  What the statements' own book notes: the clauses and the decisions of the engine, call by call. Conditions: those each theorem names.
-/
import Derived.Test.YtaileihnkmjfiaaP9
import Derived.Test.YtaileihnkmjfiaaS1
namespace Go.Proofs.Ytaileihnkmjfiaa

structure BK where
  cl : List (List Int)
  dc : List Int

namespace ES
/-- a call's engine -/
def doS (S : ES) (o : OpD) : ES :=
  if o.kind = 1 then (S.add o.lits).1 else if o.kind = 2 then (S.decide' o.num).1 else if o.kind = 3 then S.propagate.1 else if o.kind = 4 then (S.back o.num).1 else S
/-- a call's book -/
def doB (S : ES) (B : BK) (o : OpD) : BK :=
  if o.kind = 1 then (if (S.add o.lits).2 = 0 then { B with cl := B.cl ++ [o.lits] } else B)
  else if o.kind = 2 then (if (S.decide' o.num).2 = 0 then { B with dc := B.dc ++ [o.num] } else B)
  else if o.kind = 3 then B
  else if o.kind = 4 then (if (S.back o.num).2 = 0 ∧ 0 ≤ o.num ∧ o.num < (B.dc.length : Int) then { B with dc := B.dc.take o.num.toNat } else B)
  else B

structure Agree (S : ES) (B : BK) : Prop where
  cl : B.cl = S.cs
  dc : B.dc = S.decs

theorem Agree.new (n : Nat) : Agree (ES.new n) ⟨[], []⟩ := ⟨rfl, rfl⟩

theorem rear_cs {S : ES} (hg : S.Good) {level : Nat} (hl : level < S.mks.length) : (S.rear level).cs = S.cs := (hg.rear hl).2.cs

/-- the book agrees with the engine behind every call -/
theorem Agree.step {A t : Nat} {S : ES} {B : BK} (h : S.Live A t) (ha : Agree S B) (hA : A ≤ 1048576) (ht : t ≤ 2097152) (o : OpD) : Agree (S.doS o) (S.doB B o) := by
  obtain ⟨a1, a2⟩ := ha
  unfold doS doB
  by_cases k1 : o.kind = 1
  · rw [if_pos k1, if_pos k1]
    rcases add_cases S o.lits with ⟨e1, e2⟩ | ⟨e1, e2, _⟩
    · rw [if_neg e1, e2]; exact ⟨a1, a2⟩
    · rw [if_pos e1, e2]
      exact ⟨by show B.cl ++ [o.lits] = S.cs ++ [o.lits]; rw [a1], a2⟩
  · rw [if_neg k1, if_neg k1]
    by_cases k2 : o.kind = 2
    · rw [if_pos k2, if_pos k2]
      rcases decide_cases S o.num with ⟨e1, e2⟩ | ⟨e1, e2, _⟩
      · rw [if_neg e1, e2]; exact ⟨a1, a2⟩
      · rw [if_pos e1, e2]
        exact ⟨a1, by show B.dc ++ [o.num] = _; rw [decs_deep h.good, a2]⟩
    · rw [if_neg k2, if_neg k2]
      by_cases k3 : o.kind = 3
      · rw [if_pos k3, if_pos k3]
        obtain ⟨_, _, _, g, _⟩ := h.propagate hA ht
        exact ⟨by rw [g.cs]; exact a1, by rw [decs_goes h.good g]; exact a2⟩
      · rw [if_neg k3, if_neg k3]
        by_cases k4 : o.kind = 4
        · rw [if_pos k4, if_pos k4]
          have hl : B.dc.length = S.mks.length := by rw [a2, decs_len]
          rcases back_cases S o.num with ⟨e1, e2⟩ | ⟨e1, e2, e3, e4⟩
          · rw [e1]
            rw [if_neg]
            · exact ⟨a1, a2⟩
            · rintro ⟨x1, x2, x3⟩
              rcases e2 with ⟨e2, _⟩ | ⟨_, e2⟩
              · omega
              · omega
          · rw [if_pos ⟨e1, e3, by omega⟩, e2]
            exact ⟨by rw [rear_cs h.good e4]; exact a1, by show B.dc.take _ = _; rw [decs_rear h.good e4, a2]⟩
        · rw [if_neg k4, if_neg k4]; exact ⟨a1, a2⟩

theorem Live.cost {A t : Nat} {S : ES} (h : S.Live A t) (hA : A ≤ 1048576) (ht : t ≤ 2097152) (o : OpD) : (S.doS o).cs.length + (S.doS o).lits ≤ S.cs.length + S.lits + (o.lits.length + 1) := by
  unfold doS
  by_cases k1 : o.kind = 1
  · rw [if_pos k1]
    rcases add_cases S o.lits with ⟨e1, e2⟩ | ⟨e1, e2, _⟩
    · rw [e2]; omega
    · rw [e2]
      show (S.cs ++ [o.lits]).length + (S.lits + o.lits.length) ≤ _
      simp only [List.length_append, List.length_cons, List.length_nil]
      omega
  · rw [if_neg k1]
    by_cases k2 : o.kind = 2
    · rw [if_pos k2]
      rcases decide_cases S o.num with ⟨e1, e2⟩ | ⟨e1, e2, _⟩
      · rw [e2]; omega
      · rw [e2]; show S.cs.length + S.lits ≤ _; omega
    · rw [if_neg k2]
      by_cases k3 : o.kind = 3
      · rw [if_pos k3]
        obtain ⟨_, _, _, g, _⟩ := h.propagate hA ht
        rw [g.cs, g.lits]; omega
      · rw [if_neg k3]
        by_cases k4 : o.kind = 4
        · rw [if_pos k4]
          rcases back_cases S o.num with ⟨e1, e2⟩ | ⟨e1, e2, e3, e4⟩
          · rw [e1]; omega
          · rw [e2]
            have r := (h.good.rear e4).2
            rw [r.cs, r.lits]; omega
        · rw [if_neg k4]; omega

theorem Live.step {A t : Nat} {S : ES} (h : S.Live A t) (hA : A ≤ 1048576) (ht : t ≤ 2097152) (o : OpD) (hc : S.cs.length + S.lits + (o.lits.length + 1) ≤ A) : (S.doS o).Live A (t + 1) := by
  unfold doS
  by_cases k1 : o.kind = 1
  · rw [if_pos k1]; exact h.add o.lits (by omega)
  · rw [if_neg k1]
    by_cases k2 : o.kind = 2
    · rw [if_pos k2]; exact h.decide o.num
    · rw [if_neg k2]
      by_cases k3 : o.kind = 3
      · rw [if_pos k3]; exact (h.propagate hA ht).2.2.1
      · rw [if_neg k3]
        by_cases k4 : o.kind = 4
        · rw [if_pos k4]; exact h.back o.num
        · rw [if_neg k4]; exact h.up
end ES

/-- the weight of a script's beginning and of one call more -/
theorem weigh_take (ops : List OpD) (i : Nat) (o : OpD) (h : ops[i]? = some o) : weigh (ops.take (i + 1)) = weigh (ops.take i) + (o.lits.length + 4) := by
  have hi : i < ops.length := (List.getElem?_eq_some_iff.1 h).1
  have ho : ops[i] = o := (List.getElem?_eq_some_iff.1 h).2
  rw [List.take_succ_eq_append_getElem hi]
  simp [weigh, ho]
theorem weigh_take_le (ops : List OpD) (i : Nat) : weigh (ops.take i) ≤ weigh ops := by
  unfold weigh
  conv => rhs; rw [← List.take_append_drop i ops]
  rw [List.map_append, List.sum_append]
  omega
theorem weigh_len (ops : List OpD) : 4 * ops.length ≤ weigh ops := by
  unfold weigh
  induction ops with
  | nil => simp
  | cons o l ih => simp only [List.map_cons, List.sum_cons, List.length_cons]; omega
end Go.Proofs.Ytaileihnkmjfiaa
