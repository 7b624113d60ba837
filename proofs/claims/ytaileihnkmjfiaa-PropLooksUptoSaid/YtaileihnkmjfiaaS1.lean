/-
  A script that comes in is a list of calls, which lies in the memory as its reading says; its bulk bounds its length and its literals. Conditions: it was read.
-/
import Derived.Test.YtaileihnkmjfiaaT14
import Derived.Deep.Slices
import Derived.Deep.Strs
import Derived.ChangeSlices
import Derived.ProofKit
namespace Go.Proofs.Ytaileihnkmjfiaa
open Go.ChangeShapes Go.WideShapes Go.ChangeAt Go.RowKit Go.Deep

/-- a call of a script -/
structure OpD where
  kind : Int
  num : Int
  lits : List Int

/-- a list of integers lies where a slice value names it -/
def IntsAt (w : World) (v : Value) (c : List Int) : Prop :=
  ∃ ao cap, v = .slice ao c.length cap ∧ c.length ≤ cap ∧ cap ≤ maxLen ∧ (0 < c.length → ∃ cb co, ao = some ⟨cb, co, none⟩ ∧ ∀ j, j < c.length → w.cell? ⟨cb, co + j, none⟩ = some (i64 (c.getD j 0)))

/-- a script lies where a slice value names it -/
def ScrAt (w : World) (v : Value) (ops : List OpD) : Prop :=
  ∃ ao cap, v = .slice ao ops.length cap ∧ ops.length ≤ cap ∧ cap ≤ maxLen ∧ (0 < ops.length → ∃ sb so, ao = some ⟨sb, so, none⟩ ∧ ∀ i, i < ops.length → ∀ o, ops[i]? = some o →
    w.cell? ⟨sb, so + 3 * i, none⟩ = some (i64 o.kind) ∧ w.cell? ⟨sb, so + 3 * i + 1, none⟩ = some (i64 o.num) ∧ ∃ v, w.cell? ⟨sb, so + 3 * i + 2, none⟩ = some v ∧ IntsAt w v o.lits)

theorem Try.cells3 : Try.prog.cellsOf 3 = 1 := by kernel_rfl
theorem Try.cells28' : Try.prog.cellsOf 28 = 1 := by kernel_rfl
theorem Try.cells33 : Try.prog.cellsOf 33 = 3 := by kernel_rfl

section
variable {H : Type} {enc : TypeId × Value → H} {w : World} {base : Nat} {spare : Nat → Bool} {held : Bool}

theorem bulk_lits (k : IntKind) (l : List Int) : Rows.uptoBulkAll (H := H) (lits k l) = l.length := by
  induction l with
  | nil => rfl
  | cons a l ih =>
    show Rows.uptoBulk _ + Rows.uptoBulkAll (lits k l) = _
    rw [ih]
    simp [Rows.uptoBulk]
    omega

theorem intsAt_of {fuel : Nat} {c0 : Value} {x : DataW H × List MemPlace} (h : DataW.trod enc Try.prog w base spare held fuel 28 [c0] = some x) :
    ∃ c, IntsAt w c0 c ∧ c.length + 1 ≤ Rows.uptoBulk x.1 := by
  rcases open_ints Try.underlying28 Try.underlying3 Try.cells3 h with ⟨hc, rfl⟩ | ⟨a, len, cap, zs, hc, _, hl, hm, hz, rfl, hcell, _⟩
  · simp only [List.cons.injEq, and_true] at hc
    exact ⟨[], ⟨none, 0, hc, Nat.le_refl _, Nat.zero_le _, fun h => absurd h (Nat.lt_irrefl 0)⟩, by simp [Rows.uptoBulk]⟩
  · simp only [List.cons.injEq, and_true] at hc
    have hlz : len ≤ zs.length := by rw [hz]; split <;> omega
    have hlen : (zs.take len).length = len := by rw [List.length_take]; omega
    refine ⟨zs.take len, ⟨some a, cap, by rw [hlen]; exact hc, by rw [hlen]; exact hl, hm, fun h0 => ?_⟩, ?_⟩
    · rw [hlen] at h0
      obtain ⟨cb, co, spot⟩ := a
      have hspot : spot = none := by simpa [Addr.add] using World.cell?_spot (hcell 0 (by omega))
      subst hspot
      refine ⟨cb, co, rfl, fun j hj => ?_⟩
      rw [hlen] at hj
      have := hcell j (by omega)
      rw [show (zs.take len).getD j 0 = zs.getD j 0 by rw [getD_take, if_pos hj]]
      rw [← this]
      congr 1
      unfold Addr.add
      split <;> simp_all
    · simp only [Rows.uptoBulk, bulk_lits]
      omega

theorem op_of {fuel : Nat} {cs : List Value} {x : DataW H × List MemPlace} (h : DataW.trod enc Try.prog w base spare held fuel 33 cs = some x) :
    ∃ (o : OpD) (v : Value), cs = [i64 o.kind, i64 o.num, v] ∧ IntsAt w v o.lits ∧ o.lits.length + 4 ≤ Rows.uptoBulk x.1 := by
  obtain ⟨y0, y1, y2, n, rfl, hl, h0, h1, h2⟩ := trod_struct3 Try.underlying33 h
  rw [Try.cells33] at hl
  match cs, hl with
  | [c0, c1, c2], _ =>
    simp only [Try.cells3, Try.cells28'] at h0 h1 h2
    obtain ⟨k, e0, rfl, _⟩ := DataW.trod_int Try.underlying3 h0
    obtain ⟨m, e1, rfl, _⟩ := DataW.trod_int Try.underlying3 h1
    simp at e0 e1
    subst e0
    subst e1
    obtain ⟨c, hc, hb⟩ := intsAt_of (c0 := c2) (by simpa using h2)
    refine ⟨⟨k, m, c⟩, c2, rfl, hc, ?_⟩
    simp only [Rows.uptoBulk, Rows.uptoBulkAll]
    show c.length + 4 ≤ _
    omega

theorem bulkAll_append (a b : List (DataW H)) : Rows.uptoBulkAll (a ++ b) = Rows.uptoBulkAll a + Rows.uptoBulkAll b := by
  induction a with
  | nil => simp [Rows.uptoBulkAll]
  | cons x a ih => simp only [List.cons_append, Rows.uptoBulkAll, ih]; omega

/-- what a script weighs -/
def weigh (ops : List OpD) : Nat := (ops.map fun o => o.lits.length + 4).sum

theorem scrAt_of {fuel : Nat} {c0 : Value} {x : DataW H × List MemPlace} (h : DataW.trod enc Try.prog w base spare held fuel 22 [c0] = some x) :
    ∃ ops, ScrAt w c0 ops ∧ weigh ops + 1 ≤ Rows.uptoBulk x.1 := by
  rcases open_slice Try.underlying22 h with ⟨hc, rfl⟩ | ⟨a, len, cap, m, n, D, Pl, hc, _, hl, hm, hmm, rfl, hall⟩
  · simp only [List.cons.injEq, and_true] at hc
    exact ⟨[], ⟨none, 0, hc, Nat.le_refl _, Nat.zero_le _, fun h => absurd h (Nat.lt_irrefl 0)⟩, by simp [Rows.uptoBulk, weigh]⟩
  · simp only [List.cons.injEq, and_true] at hc
    have hlm : len ≤ m := by rw [hmm]; split <;> omega
    rw [Try.cells33] at hall
    have hop : ∀ i, ∃ (o : OpD), i < len → ∃ (v : Value), w.cells? base (a.add (i * 3)) 3 = some [i64 o.kind, i64 o.num, v] ∧ IntsAt w v o.lits ∧ o.lits.length + 4 ≤ Rows.uptoBulk (D i) := by
      intro i
      by_cases hi : i < len
      · obtain ⟨cs', h1, h2⟩ := hall i (by omega)
        obtain ⟨o, v, rfl, h3, h4⟩ := op_of h2
        exact ⟨o, fun _ => ⟨v, h1, h3, h4⟩⟩
      · exact ⟨⟨0, 0, []⟩, fun hh => absurd hh hi⟩
    obtain ⟨f, hf⟩ := Classical.axiomOfChoice hop
    have hlen : ((List.range len).map f).length = len := by simp
    refine ⟨(List.range len).map f, ⟨some a, cap, by rw [hlen]; exact hc, by rw [hlen]; exact hl, hm, fun h0 => ?_⟩, ?_⟩
    · rw [hlen] at h0
      obtain ⟨sb, so, spot⟩ := a
      have hspot : spot = none := by
        obtain ⟨v, h1, _⟩ := hf 0 h0
        have := (World.cells?_some h1).2.2 0 (by omega)
        simpa [Addr.add] using World.cell?_spot this
      subst hspot
      refine ⟨sb, so, rfl, fun i hi o ho => ?_⟩
      rw [hlen] at hi
      have hoi : o = f i := by
        rw [List.getElem?_map, List.getElem?_range hi] at ho
        exact (Option.some.inj ho).symm
      subst hoi
      obtain ⟨v, h1, h2, _⟩ := hf i hi
      have hcell := (World.cells?_some h1).2.2
      have hadd : ∀ j, ((({ block := sb, off := so } : Addr).add (i * 3)).add j) = ⟨sb, so + 3 * i + j, none⟩ := by
        intro j
        simp only [Addr.add_lit]
        congr 1
        omega
      have c0 := hcell 0 (by omega)
      have c1 := hcell 1 (by omega)
      have c2 := hcell 2 (by omega)
      rw [hadd] at c0 c1 c2
      exact ⟨by simpa using c0, by simpa using c1, v, by simpa using c2, h2⟩
    · have key : ∀ l : List Nat, (∀ i, i ∈ l → i < len) → weigh (l.map f) ≤ Rows.uptoBulkAll (l.map D) := by
        intro l
        induction l with
        | nil => intro _; exact Nat.zero_le _
        | cons i l ih =>
          intro hl
          have h1 := ih fun j hj => hl j (by simp [hj])
          obtain ⟨_, _, _, h2⟩ := hf i (hl i (by simp))
          simp only [weigh, List.map_cons, List.sum_cons, Rows.uptoBulkAll] at h1 ⊢
          omega
      have h1 := key (List.range len) fun i hi => List.mem_range.1 hi
      simp only [Rows.uptoBulk]
      omega
end
end Go.Proofs.Ytaileihnkmjfiaa
