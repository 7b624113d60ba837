/-
  The scan of a clause: has it a true literal or two open ones; and which one is open. Conditions: those each theorem names.
-/
import Derived.Test.YtaileihnkmjfiaaD5
namespace Go.Proofs.Ytaileihnkmjfiaa

/-- what the scan knows behind j literals -/
structure Scan (S : ES) (c : List Int) (j : Nat) (op : Int) (is : Bool) : Prop where
  yes : is = true → (∃ a, a ∈ c.take j ∧ S.of a = 1) ∨ ∃ a b, a ∈ c.take j ∧ b ∈ c.take j ∧ a ≠ b ∧ S.of a = 0 ∧ S.of b = 0
  no : is = false → ∀ a, a ∈ c.take j → S.of a ≠ 1 ∧ (S.of a = 0 → a = op)
  nul : op = 0 → ∀ a, a ∈ c.take j → S.of a ≠ 0
  got : op ≠ 0 → op ∈ c.take j ∧ S.of op = 0

theorem Scan.start (S : ES) (c : List Int) : Scan S c 0 0 false :=
  ⟨fun h => (by cases h), fun _ a h => (by simp at h), fun _ a h => (by simp at h), fun h => absurd rfl h⟩

theorem mem_take_succ {c : List Int} {j : Nat} (hj : j < c.length) (a : Int) : a ∈ c.take (j + 1) ↔ a ∈ c.take j ∨ a = c.getD j 0 := by
  rw [List.take_succ_eq_append_getElem hj, List.mem_append, List.mem_singleton]
  simp [List.getD, hj]

theorem Scan.skip {S : ES} {c : List Int} {j : Nat} {op : Int} {is : Bool} (h : Scan S c j op is) (hj : j < c.length) (hz : S.of (c.getD j 0) = -1) : Scan S c (j + 1) op is := by
  refine ⟨fun hi => ?_, fun hi a ha => ?_, fun ho a ha => ?_, fun ho => ?_⟩
  · rcases h.yes hi with ⟨a, h1, h2⟩ | ⟨a, b, h1, h2, h3⟩
    · exact .inl ⟨a, (mem_take_succ hj a).2 (.inl h1), h2⟩
    · exact .inr ⟨a, b, (mem_take_succ hj a).2 (.inl h1), (mem_take_succ hj b).2 (.inl h2), h3⟩
  · rcases (mem_take_succ hj a).1 ha with h1 | rfl
    · exact h.no hi a h1
    · exact ⟨by omega, by omega⟩
  · rcases (mem_take_succ hj a).1 ha with h1 | rfl
    · exact h.nul ho a h1
    · omega
  · exact ⟨(mem_take_succ hj _).2 (.inl (h.got ho).1), (h.got ho).2⟩

theorem Scan.is1 {S : ES} {c : List Int} {j : Nat} {op : Int} {is : Bool} (h : Scan S c j op is) (hj : j < c.length) (hz : S.of (c.getD j 0) = 1) : Scan S c (j + 1) op true := by
  refine ⟨fun hi => .inl ⟨_, (mem_take_succ hj _).2 (.inr rfl), hz⟩, fun hi => (by cases hi), fun ho a ha => ?_, fun ho => ?_⟩
  · rcases (mem_take_succ hj a).1 ha with h1 | rfl
    · exact h.nul ho a h1
    · omega
  · exact ⟨(mem_take_succ hj _).2 (.inl (h.got ho).1), (h.got ho).2⟩

theorem Scan.op0 {S : ES} {c : List Int} {j : Nat} {op : Int} {is : Bool} (h : Scan S c j op is) (hj : j < c.length) (hx : c.getD j 0 ≠ 0) (hz : S.of (c.getD j 0) = 0) (ho : op = 0 ∨ op = c.getD j 0) : Scan S c (j + 1) (c.getD j 0) is := by
  refine ⟨fun hi => ?_, fun hi a ha => ?_, fun ho => absurd ho hx, fun _ => ⟨(mem_take_succ hj _).2 (.inr rfl), hz⟩⟩
  · rcases h.yes hi with ⟨a, h1, h2⟩ | ⟨a, b, h1, h2, h3⟩
    · exact .inl ⟨a, (mem_take_succ hj a).2 (.inl h1), h2⟩
    · exact .inr ⟨a, b, (mem_take_succ hj a).2 (.inl h1), (mem_take_succ hj b).2 (.inl h2), h3⟩
  · rcases (mem_take_succ hj a).1 ha with h1 | rfl
    · refine ⟨(h.no hi a h1).1, fun ha0 => ?_⟩
      rcases ho with ho | ho
      · exact absurd ha0 (h.nul ho a h1)
      · rw [(h.no hi a h1).2 ha0, ho]
    · exact ⟨by omega, fun _ => rfl⟩

theorem Scan.two {S : ES} {c : List Int} {j : Nat} {op : Int} {is : Bool} (h : Scan S c j op is) (hj : j < c.length) (hz : S.of (c.getD j 0) = 0) (ho : op ≠ 0) (ho2 : op ≠ c.getD j 0) : Scan S c (j + 1) op true := by
  refine ⟨fun _ => .inr ⟨op, c.getD j 0, (mem_take_succ hj _).2 (.inl (h.got ho).1), (mem_take_succ hj _).2 (.inr rfl), ho2, (h.got ho).2, hz⟩, fun hi => (by cases hi), fun h0 => absurd h0 ho, fun _ => ⟨(mem_take_succ hj _).2 (.inl (h.got ho).1), (h.got ho).2⟩⟩

/-- behind the whole clause: true, or it is false or a unit -/
theorem Scan.closed {S : ES} {c : List Int} {op : Int} {is : Bool} (h : Scan S c c.length op is) (hc : (∃ a, a ∈ c ∧ S.of a = 1) ∨ ∃ a b, a ∈ c ∧ b ∈ c ∧ a ≠ b ∧ S.of a = 0 ∧ S.of b = 0) : is = true := by
  cases is with
  | true => rfl
  | false =>
    have hn := h.no rfl
    rw [List.take_length] at hn
    rcases hc with ⟨a, h1, h2⟩ | ⟨a, b, h1, h2, h3, h4, h5⟩
    · exact absurd h2 (hn a h1).1
    · exact absurd ((hn a h1).2 h4 |>.trans ((hn b h2).2 h5).symm) h3

theorem Scan.clash {S : ES} {c : List Int} {op : Int} {is : Bool} (h : Scan S c c.length op is) (hc : ∀ l, l ∈ c → S.of l = -1) : is = false ∧ op = 0 := by
  have ho : op = 0 := by
    apply Classical.byContradiction
    intro ho
    have := h.got ho
    rw [List.take_length] at this
    have := hc op this.1
    omega
  refine ⟨?_, ho⟩
  cases is with
  | false => rfl
  | true =>
    rcases h.yes rfl with ⟨a, h1, h2⟩ | ⟨a, b, h1, h2, h3, h4, h5⟩
    · rw [List.take_length] at h1
      have := hc a h1
      omega
    · rw [List.take_length] at h1
      have := hc a h1
      omega
end Go.Proofs.Ytaileihnkmjfiaa
