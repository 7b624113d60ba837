/-
  The engine of package prop in memory: which rows it owns and what they hold. Conditions: none; definitions and plain lemmas.
-/
import Derived.Test.YtaileihnkmjfiaaMem
namespace Go.Proofs.Ytaileihnkmjfiaa
open Go.RowKit

theorem Try.info3 : (Try.prog.info? 3).map (fun i => (i.zero, i.size, i.bytes)) = some (some (.int .i64 0), 1, 8) := by kernel_rfl
theorem Try.info28 : (Try.prog.info? 28).map (fun i => (i.zero, i.size, i.bytes)) = some (some (.slice none 0 0), 1, 24) := by kernel_rfl
theorem Try.info72 : (Try.prog.info? 72).map (fun i => (i.zero, i.size, i.bytes)) = some (some (.agg #[.int .i64 0, .int .i64 0]), 2, 16) := by kernel_rfl
theorem Try.info73 : (Try.prog.info? 73).map (fun i => (i.zero, i.size, i.bytes)) = some (some (.int .i8 0), 1, 1) := by kernel_rfl

abbrev Ro := Nat ⊕ (Nat × Nat)
abbrev i64 (z : Int) : Value := .int .i64 z

/-- The engine as data. -/
structure ES where
  n : Nat
  cs : List (List Int)
  lits : Nat
  pr : List (Int × Int)
  wt : List (List Nat)
  hl : List (List Nat)
  val : List Int
  lev : List Nat
  rsn : List Nat
  tr : List Int
  mks : List Nat
  head : Nat
  clash : Nat
  fr : List Nat
  stp : List Nat
  turn : Nat

/-- Where its rows lie. -/
structure GH where
  g : Ro → Option Nat
  c : Ro → Nat

def nats (l : List Nat) : List Value := l.map fun (z : Nat) => i64 (z : Int)
def ints (l : List Int) : List Value := l.map fun z => i64 z
def bytes8 (l : List Int) : List Value := l.map fun z => .int .i8 z
def pairs (l : List (Int × Int)) : List Value := l.flatMap fun p => [i64 p.1, i64 p.2]
def rowsOf {α : Type} (G : GH) (t : Nat) (l : List (List α)) : List Value := (List.range l.length).map fun k => sv (G.g (.inr (t, k))) (l.getD k []).length (G.c (.inr (t, k)))

def stc (G : GH) (S : ES) : List Value :=
  [i64 S.n, sv (G.g (.inl 1)) S.cs.length (G.c (.inl 1)), i64 S.lits, sv (G.g (.inl 3)) S.pr.length (G.c (.inl 3)), sv (G.g (.inl 4)) S.wt.length (G.c (.inl 4)), sv (G.g (.inl 5)) S.hl.length (G.c (.inl 5)),
   sv (G.g (.inl 6)) S.val.length (G.c (.inl 6)), sv (G.g (.inl 7)) S.lev.length (G.c (.inl 7)), sv (G.g (.inl 8)) S.rsn.length (G.c (.inl 8)), sv (G.g (.inl 9)) S.tr.length (G.c (.inl 9)),
   sv (G.g (.inl 10)) S.mks.length (G.c (.inl 10)), i64 S.head, i64 S.clash, sv (G.g (.inl 13)) S.fr.length (G.c (.inl 13)), sv (G.g (.inl 14)) S.stp.length (G.c (.inl 14)), i64 S.turn]

def engD (G : GH) (S : ES) : Ro → RD
  | .inl 1 => ⟨G.g (.inl 1), G.c (.inl 1), S.cs.length, rowsOf G 0 S.cs⟩
  | .inl 3 => ⟨G.g (.inl 3), G.c (.inl 3), S.pr.length, pairs S.pr⟩
  | .inl 4 => ⟨G.g (.inl 4), G.c (.inl 4), S.wt.length, rowsOf G 1 S.wt⟩
  | .inl 5 => ⟨G.g (.inl 5), G.c (.inl 5), S.hl.length, rowsOf G 2 S.hl⟩
  | .inl 6 => ⟨G.g (.inl 6), G.c (.inl 6), S.val.length, bytes8 S.val⟩
  | .inl 7 => ⟨G.g (.inl 7), G.c (.inl 7), S.lev.length, nats S.lev⟩
  | .inl 8 => ⟨G.g (.inl 8), G.c (.inl 8), S.rsn.length, nats S.rsn⟩
  | .inl 9 => ⟨G.g (.inl 9), G.c (.inl 9), S.tr.length, ints S.tr⟩
  | .inl 10 => ⟨G.g (.inl 10), G.c (.inl 10), S.mks.length, nats S.mks⟩
  | .inl 13 => ⟨G.g (.inl 13), G.c (.inl 13), S.fr.length, nats S.fr⟩
  | .inl 14 => ⟨G.g (.inl 14), G.c (.inl 14), S.stp.length, nats S.stp⟩
  | .inl 16 => ⟨G.g (.inl 16), 1, 1, stc G S⟩
  | .inr (0, k) => ⟨G.g (.inr (0, k)), G.c (.inr (0, k)), (S.cs.getD k []).length, ints (S.cs.getD k [])⟩
  | .inr (1, k) => ⟨G.g (.inr (1, k)), G.c (.inr (1, k)), (S.wt.getD k []).length, nats (S.wt.getD k [])⟩
  | .inr (2, k) => ⟨G.g (.inr (2, k)), G.c (.inr (2, k)), (S.hl.getD k []).length, nats (S.hl.getD k [])⟩
  | _ => ⟨none, 0, 0, []⟩

def engT : Ro → Nat × Nat
  | .inl 1 => (28, 1)
  | .inl 3 => (72, 2)
  | .inl 4 => (28, 1)
  | .inl 5 => (28, 1)
  | .inl 6 => (73, 1)
  | .inl 16 => (66, 16)
  | _ => (3, 1)

/-- The engine at block b. -/
structure Eng (w : World) (b : Nat) (G : GH) (S : ES) : Prop where
  own : Own engT w (engD G S)
  at_ : G.g (.inl 16) = some b
  out0 : ∀ k, S.cs.length ≤ k → G.g (.inr (0, k)) = none
  out1 : ∀ k, S.wt.length ≤ k → G.g (.inr (1, k)) = none
  out2 : ∀ k, S.hl.length ≤ k → G.g (.inr (2, k)) = none

theorem Eng.field {w : World} {b : Nat} {G : GH} {S : ES} (h : Eng w b G S) {i : Nat} {u : Value} (hi : (stc G S)[i]? = some u) : w.cell? ⟨b, i, none⟩ = some u :=
  h.own.cell (.inl 16) (D := engD G S) h.at_ hi
theorem Eng.ff {w : World} {b : Nat} {G : GH} {S : ES} (h : Eng w b G S) (i : Nat) : w.frozen? ⟨b, i, none⟩ = false := h.own.frozen (.inl 16) (D := engD G S) i h.at_

section
variable {w : World} {b : Nat} {G : GH} {S : ES}
theorem Eng.f0 (h : Eng w b G S) : w.cell? ⟨b, 0, none⟩ = some (i64 S.n) := h.field rfl
theorem Eng.f1 (h : Eng w b G S) : w.cell? ⟨b, 1, none⟩ = some (sv (G.g (.inl 1)) S.cs.length (G.c (.inl 1))) := h.field rfl
theorem Eng.f2 (h : Eng w b G S) : w.cell? ⟨b, 2, none⟩ = some (i64 S.lits) := h.field rfl
theorem Eng.f3 (h : Eng w b G S) : w.cell? ⟨b, 3, none⟩ = some (sv (G.g (.inl 3)) S.pr.length (G.c (.inl 3))) := h.field rfl
theorem Eng.f4 (h : Eng w b G S) : w.cell? ⟨b, 4, none⟩ = some (sv (G.g (.inl 4)) S.wt.length (G.c (.inl 4))) := h.field rfl
theorem Eng.f5 (h : Eng w b G S) : w.cell? ⟨b, 5, none⟩ = some (sv (G.g (.inl 5)) S.hl.length (G.c (.inl 5))) := h.field rfl
theorem Eng.f6 (h : Eng w b G S) : w.cell? ⟨b, 6, none⟩ = some (sv (G.g (.inl 6)) S.val.length (G.c (.inl 6))) := h.field rfl
theorem Eng.f7 (h : Eng w b G S) : w.cell? ⟨b, 7, none⟩ = some (sv (G.g (.inl 7)) S.lev.length (G.c (.inl 7))) := h.field rfl
theorem Eng.f8 (h : Eng w b G S) : w.cell? ⟨b, 8, none⟩ = some (sv (G.g (.inl 8)) S.rsn.length (G.c (.inl 8))) := h.field rfl
theorem Eng.f9 (h : Eng w b G S) : w.cell? ⟨b, 9, none⟩ = some (sv (G.g (.inl 9)) S.tr.length (G.c (.inl 9))) := h.field rfl
theorem Eng.f10 (h : Eng w b G S) : w.cell? ⟨b, 10, none⟩ = some (sv (G.g (.inl 10)) S.mks.length (G.c (.inl 10))) := h.field rfl
theorem Eng.f11 (h : Eng w b G S) : w.cell? ⟨b, 11, none⟩ = some (i64 S.head) := h.field rfl
theorem Eng.f12 (h : Eng w b G S) : w.cell? ⟨b, 12, none⟩ = some (i64 S.clash) := h.field rfl
theorem Eng.f13 (h : Eng w b G S) : w.cell? ⟨b, 13, none⟩ = some (sv (G.g (.inl 13)) S.fr.length (G.c (.inl 13))) := h.field rfl
theorem Eng.f14 (h : Eng w b G S) : w.cell? ⟨b, 14, none⟩ = some (sv (G.g (.inl 14)) S.stp.length (G.c (.inl 14))) := h.field rfl
theorem Eng.f15 (h : Eng w b G S) : w.cell? ⟨b, 15, none⟩ = some (i64 S.turn) := h.field rfl

/-- A row that is not empty lies somewhere. -/
theorem Eng.lies (h : Eng w b G S) (r : Ro) (hn : 0 < (engD G S r).n) : ∃ g, (engD G S r).g = some g := (h.own.row r).isome hn
theorem Eng.at6 (h : Eng w b G S) {va v : Nat} (hg : G.g (.inl 6) = some va) (hv : v < S.val.length) : w.cell? ⟨va, v, none⟩ = some (.int .i8 (S.val.getD v 0)) :=
  h.own.cell (.inl 6) (D := engD G S) hg (by simp [engD, bytes8, List.getD, hv])
theorem Eng.at7 (h : Eng w b G S) {va v : Nat} (hg : G.g (.inl 7) = some va) (hv : v < S.lev.length) : w.cell? ⟨va, v, none⟩ = some (i64 (S.lev.getD v 0)) :=
  h.own.cell (.inl 7) (D := engD G S) hg (by simp [engD, nats, List.getD, hv])
end


def GH.upd (G : GH) (r : Ro) (d : RD) : GH := ⟨fun r' => if r' = r then d.g else G.g r', fun r' => if r' = r then d.cap else G.c r'⟩

theorem upd_inl {D : Ro → RD} {f f' : Nat} {d : RD} : upd D (.inl f) d (.inl f') = if f' = f then d else D (.inl f') := by
  by_cases h : f' = f <;> simp [upd, h]
theorem upd_inl_inr {D : Ro → RD} {f : Nat} {p : Nat × Nat} {d : RD} : upd D (.inl f) d (.inr p) = D (.inr p) := by simp [upd]
theorem upd_inr_inl {D : Ro → RD} {f : Nat} {p : Nat × Nat} {d : RD} : upd D (.inr p) d (.inl f) = D (.inl f) := by simp [upd]
theorem upd_inr {D : Ro → RD} {t k t' k' : Nat} {d : RD} : upd D (.inr (t, k)) d (.inr (t', k')) = if t' = t ∧ k' = k then d else D (.inr (t', k')) := by
  by_cases h : t' = t ∧ k' = k
  · simp [upd, h]
  · rw [if_neg h]; simp only [upd]; rw [if_neg]; simpa using h

def otherB (f : Nat) : Bool := f == 0 || f == 2 || f == 11 || f == 12 || f == 15 || decide (17 ≤ f)

theorem engD_other (G : GH) (S : ES) (f : Nat) (h : otherB f = true) : engD G S (.inl f) = ⟨none, 0, 0, []⟩ := by
  match f, h with
  | 0, _ => rfl
  | 1, h => cases h
  | 2, _ => rfl
  | 3, h => cases h
  | 4, h => cases h
  | 5, h => cases h
  | 6, h => cases h
  | 7, h => cases h
  | 8, h => cases h
  | 9, h => cases h
  | 10, h => cases h
  | 11, _ => rfl
  | 12, _ => rfl
  | 13, h => cases h
  | 14, h => cases h
  | 15, _ => rfl
  | 16, h => cases h
  | n + 17, _ => rfl

theorem ro_cases {P : Ro → Prop} (h0 : ∀ f, otherB f = true → P (.inl f)) (h1 : P (.inl 1)) (h3 : P (.inl 3)) (h4 : P (.inl 4)) (h5 : P (.inl 5)) (h6 : P (.inl 6)) (h7 : P (.inl 7)) (h8 : P (.inl 8)) (h9 : P (.inl 9))
    (h10 : P (.inl 10)) (h13 : P (.inl 13)) (h14 : P (.inl 14)) (h16 : P (.inl 16)) (i0 : ∀ k, P (.inr (0, k))) (i1 : ∀ k, P (.inr (1, k))) (i2 : ∀ k, P (.inr (2, k))) (i3 : ∀ t k, P (.inr (t + 3, k))) : ∀ r, P r
  | .inl 0 => h0 0 rfl
  | .inl 1 => h1
  | .inl 2 => h0 2 rfl
  | .inl 3 => h3
  | .inl 4 => h4
  | .inl 5 => h5
  | .inl 6 => h6
  | .inl 7 => h7
  | .inl 8 => h8
  | .inl 9 => h9
  | .inl 10 => h10
  | .inl 11 => h0 11 rfl
  | .inl 12 => h0 12 rfl
  | .inl 13 => h13
  | .inl 14 => h14
  | .inl 15 => h0 15 rfl
  | .inl 16 => h16
  | .inl (n + 17) => h0 (n + 17) (by simp [otherB])
  | .inr (0, k) => i0 k
  | .inr (1, k) => i1 k
  | .inr (2, k) => i2 k
  | .inr (t + 3, k) => i3 t k

theorem other_ne {f f' : Nat} (h : otherB f = true) (h' : otherB f' = false) : f ≠ f' := fun e => by rw [e, h'] at h; cases h

/-- Rows put anew are the rows of an engine: role by role. -/
theorem engD_ext {D : Ro → RD} {G : GH} {S : ES} (h0 : ∀ f, otherB f = true → D (.inl f) = ⟨none, 0, 0, []⟩) (h1 : D (.inl 1) = engD G S (.inl 1)) (h3 : D (.inl 3) = engD G S (.inl 3)) (h4 : D (.inl 4) = engD G S (.inl 4))
    (h5 : D (.inl 5) = engD G S (.inl 5)) (h6 : D (.inl 6) = engD G S (.inl 6)) (h7 : D (.inl 7) = engD G S (.inl 7)) (h8 : D (.inl 8) = engD G S (.inl 8)) (h9 : D (.inl 9) = engD G S (.inl 9))
    (h10 : D (.inl 10) = engD G S (.inl 10)) (h13 : D (.inl 13) = engD G S (.inl 13)) (h14 : D (.inl 14) = engD G S (.inl 14)) (h16 : D (.inl 16) = engD G S (.inl 16)) (i0 : ∀ k, D (.inr (0, k)) = engD G S (.inr (0, k)))
    (i1 : ∀ k, D (.inr (1, k)) = engD G S (.inr (1, k))) (i2 : ∀ k, D (.inr (2, k)) = engD G S (.inr (2, k))) (i3 : ∀ t k, D (.inr (t + 3, k)) = ⟨none, 0, 0, []⟩) : D = engD G S := by
  funext r
  exact ro_cases (P := fun r => D r = engD G S r) (fun f hf => by rw [h0 f hf, engD_other G S f hf]) h1 h3 h4 h5 h6 h7 h8 h9 h10 h13 h14 h16 i0 i1 i2 (fun t k => by rw [i3 t k]; rfl) r

theorem engD_tail (G : GH) (S : ES) (t k : Nat) : engD G S (.inr (t + 3, k)) = ⟨none, 0, 0, []⟩ := rfl

def knownB : Ro → Bool
  | .inl f => !otherB f
  | .inr (t, _) => decide (t < 3)

/-- The engine's blocks: they hang on where its rows lie alone. -/
def ft (G : GH) (x : Nat) : Prop := ∃ r, knownB r = true ∧ G.g r = some x

theorem engD_g (G : GH) (S : ES) (r : Ro) : (engD G S r).g = if knownB r = true then G.g r else none :=
  ro_cases (P := fun r => (engD G S r).g = if knownB r = true then G.g r else none) (fun f hf => by rw [engD_other G S f hf]; simp [knownB, hf]) rfl rfl rfl rfl rfl rfl rfl rfl rfl rfl rfl rfl (fun _ => rfl) (fun _ => rfl) (fun _ => rfl)
    (fun t k => by rw [engD_tail, if_neg (by simp [knownB])]) r

theorem feet_eq (G : GH) (S : ES) : feet (engD G S) = ft G := by
  funext x
  refine propext ⟨fun ⟨r, hr⟩ => ?_, fun ⟨r, hk, hr⟩ => ⟨r, by rw [engD_g, if_pos hk, hr]⟩⟩
  rw [engD_g] at hr
  by_cases hk : knownB r = true
  · exact ⟨r, hk, by rwa [if_pos hk] at hr⟩
  · rw [if_neg hk] at hr; cases hr

theorem sv_some (g n c : Nat) : sv (some g) n c = .slice (some ⟨g, 0, none⟩) n c := rfl

end Go.Proofs.Ytaileihnkmjfiaa
