/-
  Each call of an engine that is Live (right, and within its sizes) does what the data say and leaves it Live. Conditions: the bounds that each theorem names.
-/
import Derived.Test.YtaileihnkmjfiaaP7
namespace Go.Proofs.Ytaileihnkmjfiaa
namespace ES

/-- right, behind at most t calls, of clauses and literals that number at most A -/
structure Live (A t : Nat) (S : ES) : Prop where
  good : S.Good
  wsz : S.wsz ≤ t * (2 * A)
  mass : S.mass + S.far S.head ≤ t * (A + 1)
  turn : S.turn ≤ t * 1048577
  all : S.cs.length + S.lits ≤ A

theorem big1 {A t : Nat} (hA : A ≤ 1048576) (ht : t ≤ 2097152) : t * (2 * A) + 2 ≤ 8796093022208 ∧ t * (A + 1) + 2 ≤ 8796093022208 ∧ t * 1048577 ≤ 2199025352704 := by
  have h1 : t * (2 * A) ≤ 2097152 * (2 * 1048576) := Nat.mul_le_mul ht (by omega)
  have h2 : t * (A + 1) ≤ 2097152 * (1048576 + 1) := Nat.mul_le_mul ht (by omega)
  have h3 : t * 1048577 ≤ 2097152 * 1048577 := Nat.mul_le_mul ht (Nat.le_refl _)
  omega

theorem Live.up {A t : Nat} {S : ES} (h : S.Live A t) : S.Live A (t + 1) := by
  refine ⟨h.good, Nat.le_trans h.wsz (Nat.mul_le_mul_right _ (Nat.le_succ _)), Nat.le_trans h.mass (Nat.mul_le_mul_right _ (Nat.le_succ _)), Nat.le_trans h.turn (Nat.mul_le_mul_right _ (Nat.le_succ _)), h.all⟩
theorem Live.more {A t t' : Nat} {S : ES} (h : S.Live A t) (ht : t ≤ t') : S.Live A t' :=
  ⟨h.good, Nat.le_trans h.wsz (Nat.mul_le_mul_right _ ht), Nat.le_trans h.mass (Nat.mul_le_mul_right _ ht), Nat.le_trans h.turn (Nat.mul_le_mul_right _ ht), h.all⟩

theorem Live.new {n A : Nat} (hn : n ≤ 1048576) : (ES.new n).Live A 0 :=
  ⟨Good.new hn, by rw [(new_sizes n).1]; exact Nat.zero_le _, by rw [(new_sizes n).2.1, (new_sizes n).2.2]; exact Nat.zero_le _, Nat.zero_le _, Nat.zero_le _⟩

theorem add_cases (S : ES) (c : List Int) : ((S.add c).2 ≠ 0 ∧ (S.add c).1 = S) ∨
    ((S.add c).2 = 0 ∧ (S.add c).1 = S.addOk c ∧ (∀ l, l ∈ c → S.isLit l) ∧ c.length ≤ 65536 ∧ S.cs.length < 1048576 ∧ S.lits + c.length ≤ 4194304) := by
  unfold ES.add
  by_cases h1 : ∀ l ∈ c, S.isLit l
  · rw [if_neg (fun h => h h1)]
    by_cases h2 : 65536 < c.length
    · rw [if_pos h2]; exact .inl ⟨by simp, rfl⟩
    · rw [if_neg h2]
      by_cases h3 : 1048576 ≤ S.cs.length ∨ 4194304 < S.lits + c.length
      · rw [if_pos h3]; exact .inl ⟨by simp, rfl⟩
      · rw [if_neg h3]; exact .inr ⟨rfl, rfl, h1, by omega, by omega, by omega⟩
  · rw [if_pos h1]; exact .inl ⟨by simp, rfl⟩

theorem Live.add {A t : Nat} {S : ES} (h : S.Live A t) (c : List Int) (hA : S.cs.length + S.lits + c.length + 1 ≤ A) : (S.add c).1.Live A (t + 1) := by
  rcases add_cases S c with ⟨_, e⟩ | ⟨_, e, h1, h2, h3, h4⟩
  · rw [e]; exact h.up
  · rw [e]
    obtain ⟨s1, s2, s3⟩ := addOk_sizes h.good c
    have a := h.wsz
    have b := h.mass
    have d := h.turn
    refine ⟨h.good.addOk h1 h2 h3 h4, ?_, ?_, ?_, ?_⟩
    · rw [Nat.succ_mul]; omega
    · rw [Nat.succ_mul]
      show (S.addOk c).mass + (S.addOk c).far S.head ≤ _
      omega
    · have e3 : (S.addOk c).turn = S.turn := rfl
      rw [e3]
      exact Nat.le_trans d (Nat.mul_le_mul_right _ (Nat.le_succ _))
    · show (S.cs ++ [c]).length + (S.lits + c.length) ≤ A
      rw [List.length_append]
      simp only [List.length_cons, List.length_nil]
      omega

theorem decide_cases (S : ES) (l : Int) : ((S.decide' l).2 ≠ 0 ∧ (S.decide' l).1 = S) ∨ ((S.decide' l).2 = 0 ∧ (S.decide' l).1 = S.deep l ∧ S.isLit l ∧ S.clash = 0 ∧ S.of l = 0) := by
  unfold decide'
  by_cases h1 : S.isLit l
  · rw [if_neg (fun h => h h1)]
    by_cases h2 : S.clash ≠ 0
    · rw [if_pos h2]; exact .inl ⟨by simp, rfl⟩
    · rw [if_neg h2]
      by_cases h3 : S.of l ≠ 0
      · rw [if_pos h3]; exact .inl ⟨by simp, rfl⟩
      · rw [if_neg h3]; exact .inr ⟨rfl, rfl, h1, by omega, by omega⟩
  · rw [if_pos h1]; exact .inl ⟨by simp, rfl⟩

theorem Live.decide {A t : Nat} {S : ES} (h : S.Live A t) (l : Int) : (S.decide' l).1.Live A (t + 1) := by
  rcases decide_cases S l with ⟨_, e⟩ | ⟨_, e, h1, h2, h3⟩
  · rw [e]; exact h.up
  · rw [e]
    obtain ⟨s1, s2, s3⟩ := deep_sizes h.good h1 h3
    refine Live.up ⟨h.good.deep h1 h2 h3, Nat.le_trans s1 h.wsz, ?_, h.turn, h.all⟩
    show (S.deep l).mass + (S.deep l).far S.head ≤ _
    rw [s2, s3]
    exact h.mass

theorem Live.propagate {A t : Nat} {S : ES} (h : S.Live A t) (hA : A ≤ 1048576) (ht : t ≤ 2097152) :
    (S.clash = 0 → PopOk S.fr.length S) ∧ (S.clash = 0 → (popGo S.fr.length S).2 = true → HeadOk (S.n + 1) (popGo S.fr.length S).1) ∧ S.propagate.1.Live A (t + 1) ∧ Goes S S.propagate.1 ∧
    (S.propagate.2 = true → S.propagate.1.clash = 0 ∧ S.propagate.1.fr = [] ∧ S.propagate.1.head = S.propagate.1.tr.length) ∧ (S.propagate.2 = false → S.propagate.1.clash ≠ 0) := by
  obtain ⟨b1, b2, b3⟩ := big1 hA ht
  have hn := h.good.inv.n_le
  have ht2 := h.turn
  have hall := h.all
  obtain ⟨a1, a2, a3, a4, a5, a6, a7, a8, a9⟩ := h.good.propagate b1 b2 h.wsz h.mass (by omega)
  refine ⟨a1, a2, ⟨a3, ?_, ?_, ?_, by rw [a4.cs, a4.lits]; exact h.all⟩, a4, a8, a9⟩
  · rw [Nat.succ_mul]; omega
  · rw [Nat.succ_mul]; omega
  · rw [Nat.succ_mul]; omega

theorem back_cases (S : ES) (level : Int) : ((S.back level).1 = S ∧ ((S.back level).2 = 32 ∧ (level < 0 ∨ (S.mks.length : Int) < level) ∨ (S.back level).2 = 0 ∧ level = S.mks.length)) ∨
    ((S.back level).2 = 0 ∧ (S.back level).1 = S.rear level.toNat ∧ 0 ≤ level ∧ level.toNat < S.mks.length) := by
  unfold ES.back
  by_cases h1 : level < 0 ∨ (S.mks.length : Int) < level
  · rw [if_pos h1]; exact .inl ⟨rfl, .inl ⟨rfl, h1⟩⟩
  · rw [if_neg h1]
    by_cases h2 : level = S.mks.length
    · rw [if_pos h2]; exact .inl ⟨rfl, .inr ⟨rfl, h2⟩⟩
    · rw [if_neg h2]; exact .inr ⟨rfl, rfl, by omega, by omega⟩

theorem Live.back {A t : Nat} {S : ES} (h : S.Live A t) (level : Int) : (S.back level).1.Live A (t + 1) := by
  rcases back_cases S level with ⟨e, _⟩ | ⟨_, e, h1, h2⟩
  · rw [e]; exact h.up
  · rw [e]
    obtain ⟨g, r⟩ := h.good.rear h2
    have a := h.wsz
    have b := h.mass
    have d := h.turn
    have hall := h.all
    have w1 := wsz_any (S.rear level.toNat)
    have w2 := far_le (S.rear level.toNat) (S.rear level.toNat).head
    have hl := h.good.inv.lits_eq
    rw [r.wt, r.cs, ← hl] at w1
    rw [r.cs, ← hl] at w2
    have e2 : ents S.wt ≤ S.wsz := by unfold ES.wsz; omega
    have m1 := r.mass
    refine ⟨g, ?_, ?_, ?_, by rw [r.cs, r.lits]; exact h.all⟩
    · rw [Nat.succ_mul]; omega
    · rw [Nat.succ_mul]; omega
    · rw [r.turn]; exact Nat.le_trans d (Nat.mul_le_mul_right _ (Nat.le_succ _))
end ES

theorem add_live {A t : Nat} (b : Nat) (G : GH) (S : ES) (c : List Int) (ao : Option Addr) (cb co cap : Nat) (w : World) (h : Eng w b G S) (hS : S.Live A t) (hA : A ≤ 1048576) (ht : t ≤ 2097152) (hc : S.cs.length + S.lits + c.length + 1 ≤ A)
    (hao : 0 < c.length → ao = some ⟨cb, co, none⟩) (hcells : ∀ k, k < c.length → w.cell? ⟨cb, co + k, none⟩ = some (i64 (c.getD k 0))) :
    Calls Try.prog 34 #[.pointer (some ⟨b, 0, none⟩), .slice ao c.length cap] w fun e w' => e = .returned (i64 (S.add c).2) ∧ ∃ G', Eng w' b G' (S.add c).1 ∧ Turned (ft G) w (ft G') w' := by
  have hm := hS.mass
  obtain ⟨_, b2, _⟩ := ES.big1 hA ht
  exact add_any b G S c ao cb co cap w h hS.good.inv.ok (by unfold ES.mass at hm; omega) hao (by omega) hcells

theorem decide_live {A t : Nat} (b : Nat) (G : GH) (S : ES) (l : Int) (w : World) (h : Eng w b G S) (hS : S.Live A t) :
    Calls Try.prog 35 #[.pointer (some ⟨b, 0, none⟩), i64 l] w fun e w' => e = .returned (i64 (S.decide' l).2) ∧ ∃ G', Eng w' b G' (S.decide' l).1 ∧ Turned (ft G) w (ft G') w' := by
  have hi := hS.good.inv
  have h1 := hi.clash_le
  have h2 := hi.cs_len
  have h3 := hi.core.mks_len
  have h4 := hi.core.tr_len
  have h5 := hi.n_le
  exact decide_any b G S l w h hi.ok.dim (by omega) (by omega)

theorem propagate_live {A t : Nat} (b : Nat) (G : GH) (S : ES) (w : World) (h : Eng w b G S) (hS : S.Live A t) (hA : A ≤ 1048576) (ht : t ≤ 2097152) :
    Calls Try.prog 15 #[.pointer (some ⟨b, 0, none⟩)] w fun e w' => e = .returned (.bool S.propagate.2) ∧ ∃ G', Eng w' b G' S.propagate.1 ∧ Turned (ft G) w (ft G') w' := by
  have hi := hS.good.inv
  have h1 := hi.clash_le
  have h2 := hi.cs_len
  obtain ⟨a1, a2, _⟩ := hS.propagate hA ht
  exact propagate_any b G S w h (by omega) a1 a2

theorem back_live {A t : Nat} (b : Nat) (G : GH) (S : ES) (level : Int) (w : World) (h : Eng w b G S) (hS : S.Live A t) (hA : A ≤ 1048576) (ht : t ≤ 2097152) :
    Calls Try.prog 37 #[.pointer (some ⟨b, 0, none⟩), i64 level] w fun e w' => e = .returned (i64 (S.back level).2) ∧ ∃ G', Eng w' b G' (S.back level).1 ∧ Turned (ft G) w (ft G') w' := by
  have hm := hS.mass
  obtain ⟨_, b2, _⟩ := ES.big1 hA ht
  refine back_any b G S level w h hS.good.inv.ok fun m j => ?_
  have := (ES.undone ((S.tr.drop m).take j) S).frl
  omega
end Go.Proofs.Ytaileihnkmjfiaa
