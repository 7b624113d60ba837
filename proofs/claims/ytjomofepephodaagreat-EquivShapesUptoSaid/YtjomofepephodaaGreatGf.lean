/-
  The walk over expressions. Conditions: what each theorem names.
-/
import Derived.Test.YtjomofepephodaaGreatGe
import Derived.WalkLawsBesides
set_option linter.unusedVariables false
set_option linter.unusedSimpArgs false
namespace Go.Proofs.YtjomofepephodaaGreat.PEquivShapes
open Go.RowKit
open Go.Proofs.YtjomofepephodaaGreatW.PrintWords Go.Proofs.YtjomofepephodaaGreatW.PrintLast Go.Proofs.YtjomofepephodaaGreatW.PrintMore
/-- a thing and the loops around it -/
abbrev TL := TH × List ByteArray
/-- a closure that answers of each thing, in each world above a world -/
def Asks (F : Nat) (B : Nat) (w0 : World) (p : PR) (A3 : Option Addr) (c3 : Nat) (A4 : Option Addr) (c4 : Nat) (pre bad : TL → Bool) : Prop :=
  ∀ (W : World) (t : TH) (ls : List ByteArray) (n : Int) (pd ps pe : Option Addr) (d : Int) (pl : Option Addr), Below B w0 W → pre (t, ls) = true → ThAt W t ps pe d → ScAt W pl ls →
    Calls Tryz.prog F #[p.cells A3 c3 A4 c4, thV n pd ps pe d pl] W fun e w' => e = .returned (.bool (bad (t, ls))) ∧ Below W.heap.size W w'
/-- the closure around it answers so, too -/
def Asked (B : Nat) (w0 : World) (gw gp : Nat) (pre bad : TL → Bool) : Prop :=
  ∀ (W : World) (t : TH) (ls : List ByteArray) (n : Int) (pd ps pe : Option Addr) (d : Int) (pl : Option Addr), Below B w0 W → pre (t, ls) = true → ThAt W t ps pe d → ScAt W pl ls →
    Calls Tryz.prog 85 #[thV n pd ps pe d pl, .pointer (some ⟨gw, 0, none⟩), .pointer (some ⟨gp, 0, none⟩)] W fun e w' => e = .returned (.bool (bad (t, ls))) ∧ Below W.heap.size W w'
/-- what the walk is handed: it ends the walk at a bad thing -/
def Sees (B : Nat) (w0 : World) (cap : Nat) (pre bad : TL → Bool) : Prop :=
  ∀ (W : World) (t : TH) (ls : List ByteArray) (n : Int) (pd ps pe : Option Addr) (d : Int) (pl : Option Addr), Below B w0 W → pre (t, ls) = true → ThAt W t ps pe d → ScAt W pl ls →
    Calls Tryz.prog 98 #[thV n pd ps pe d pl, .pointer (some ⟨cap, 0, none⟩)] W fun e w' => Below W.heap.size W w' ∧ ((bad (t, ls) = false ∧ e = .returned (.tuple #[])) ∨ (bad (t, ls) = true ∧ ∃ v : Int, e = .panicked [{ v := .iface 119 (.agg #[.int .i64 v]), recovered := false }]))
/-- a program's cells in a block -/
def PIn (w : World) (gp : Nat) (p : PR) (A3 : Option Addr) (c3 : Nat) (A4 : Option Addr) (c4 : Nat) : Prop :=
  w.cell? ⟨gp, 0, none⟩ = some (.string p.name) ∧ w.cell? ⟨gp, 1, none⟩ = some (.int .i64 p.width) ∧ w.cell? ⟨gp, 2, none⟩ = some (.int .i64 p.line) ∧ w.cell? ⟨gp, 3, none⟩ = some (.slice A3 p.decls.length c3) ∧ w.cell? ⟨gp, 4, none⟩ = some (.slice A4 p.body.length c4)
/-- a cell below a bound stays -/
theorem keptB {B : Nat} {w W : World} (h : Below B w W) {a : Addr} {v : Value} (hc : w.cell? a = some v) (hB : a.block < B) : W.cell? a = some v := (h.cell hB).trans hc
theorem PIn.kept {B : Nat} {w W : World} {gp : Nat} {p : PR} {A3 : Option Addr} {c3 : Nat} {A4 : Option Addr} {c4 : Nat} (h : PIn w gp p A3 c3 A4 c4) (hb : Below B w W) (hg : gp < B) : PIn W gp p A3 c3 A4 c4 :=
  ⟨keptB hb h.1 hg, keptB hb h.2.1 hg, keptB hb h.2.2.1 hg, keptB hb h.2.2.2.1 hg, keptB hb h.2.2.2.2 hg⟩
set_option maxHeartbeats 1000000 in
theorem c85_54 (B : Nat) (w0 : World) (hB : B ≤ w0.heap.size) (p : PR) (A3 : Option Addr) (c3 : Nat) (A4 : Option Addr) (c4 : Nat) (pre bad : TL → Bool) (gw gp : Nat) (hA : Asks 54 B w0 p A3 c3 A4 c4 pre bad)
    (hgw : gw < B) (hgp : gp < B) (hw : w0.cell? ⟨gw, 0, none⟩ = some (.func (.func 54) #[] #[])) (hpi : PIn w0 gp p A3 c3 A4 c4) : Asked B w0 gw gp pre bad := by
  intro W t ls n pd ps pe d pl hb hp ht hl
  have B1 := below_alloc (Below.refl W.heap.size W) (thR n pd ps pe d pl)
  have hb1 : Below B w0 (W.alloc (thR n pd ps pe d pl)) := hb.alloc (Nat.le_trans hB hb.size) _
  have HC := Aside0.mk (hA _ t ls n pd ps pe d pl hb1 hp (ThAt_below ht B1) (ScAt_below hl B1))
  replace hw := keptB hb1 hw hgw
  obtain ⟨y0, y1, y2, y3, y4⟩ := hpi.kept hb1 hgp
  clear hA hb ht hl hp hpi
  unfold thR at *
  unfold thV PR.cells at *
  have BB := Aside0.mk B1
  clear B1 hb1 hB hgw hgp
  generalize bad (t, ls) = b at *
  go_enter Tryz.func85, Tryz.ntmps85
  go_wp2_with (go_at_call 54; refine HC.out.mono ?_; rintro e w' ⟨rfl, hb⟩)
  go_ret
  exact ⟨rfl, below_step BB.out hb⟩
set_option maxHeartbeats 1000000 in
theorem c85_56 (B : Nat) (w0 : World) (hB : B ≤ w0.heap.size) (p : PR) (A3 : Option Addr) (c3 : Nat) (A4 : Option Addr) (c4 : Nat) (pre bad : TL → Bool) (gw gp : Nat) (hA : Asks 56 B w0 p A3 c3 A4 c4 pre bad)
    (hgw : gw < B) (hgp : gp < B) (hw : w0.cell? ⟨gw, 0, none⟩ = some (.func (.func 56) #[] #[])) (hpi : PIn w0 gp p A3 c3 A4 c4) : Asked B w0 gw gp pre bad := by
  intro W t ls n pd ps pe d pl hb hp ht hl
  have B1 := below_alloc (Below.refl W.heap.size W) (thR n pd ps pe d pl)
  have hb1 : Below B w0 (W.alloc (thR n pd ps pe d pl)) := hb.alloc (Nat.le_trans hB hb.size) _
  have HC := Aside0.mk (hA _ t ls n pd ps pe d pl hb1 hp (ThAt_below ht B1) (ScAt_below hl B1))
  replace hw := keptB hb1 hw hgw
  obtain ⟨y0, y1, y2, y3, y4⟩ := hpi.kept hb1 hgp
  clear hA hb ht hl hp hpi
  unfold thR at *
  unfold thV PR.cells at *
  have BB := Aside0.mk B1
  clear B1 hb1 hB hgw hgp
  generalize bad (t, ls) = b at *
  go_enter Tryz.func85, Tryz.ntmps85
  go_wp2_with (go_at_call 56; refine HC.out.mono ?_; rintro e w' ⟨rfl, hb⟩)
  go_ret
  exact ⟨rfl, below_step BB.out hb⟩
set_option maxHeartbeats 1000000 in
theorem c85_59 (B : Nat) (w0 : World) (hB : B ≤ w0.heap.size) (p : PR) (A3 : Option Addr) (c3 : Nat) (A4 : Option Addr) (c4 : Nat) (pre bad : TL → Bool) (gw gp : Nat) (hA : Asks 59 B w0 p A3 c3 A4 c4 pre bad)
    (hgw : gw < B) (hgp : gp < B) (hw : w0.cell? ⟨gw, 0, none⟩ = some (.func (.func 59) #[] #[])) (hpi : PIn w0 gp p A3 c3 A4 c4) : Asked B w0 gw gp pre bad := by
  intro W t ls n pd ps pe d pl hb hp ht hl
  have B1 := below_alloc (Below.refl W.heap.size W) (thR n pd ps pe d pl)
  have hb1 : Below B w0 (W.alloc (thR n pd ps pe d pl)) := hb.alloc (Nat.le_trans hB hb.size) _
  have HC := Aside0.mk (hA _ t ls n pd ps pe d pl hb1 hp (ThAt_below ht B1) (ScAt_below hl B1))
  replace hw := keptB hb1 hw hgw
  obtain ⟨y0, y1, y2, y3, y4⟩ := hpi.kept hb1 hgp
  clear hA hb ht hl hp hpi
  unfold thR at *
  unfold thV PR.cells at *
  have BB := Aside0.mk B1
  clear B1 hb1 hB hgw hgp
  generalize bad (t, ls) = b at *
  go_enter Tryz.func85, Tryz.ntmps85
  go_wp2_with (go_at_call 59; refine HC.out.mono ?_; rintro e w' ⟨rfl, hb⟩)
  go_ret
  exact ⟨rfl, below_step BB.out hb⟩
set_option maxHeartbeats 1000000 in
theorem c85_61 (B : Nat) (w0 : World) (hB : B ≤ w0.heap.size) (p : PR) (A3 : Option Addr) (c3 : Nat) (A4 : Option Addr) (c4 : Nat) (pre bad : TL → Bool) (gw gp : Nat) (hA : Asks 61 B w0 p A3 c3 A4 c4 pre bad)
    (hgw : gw < B) (hgp : gp < B) (hw : w0.cell? ⟨gw, 0, none⟩ = some (.func (.func 61) #[] #[])) (hpi : PIn w0 gp p A3 c3 A4 c4) : Asked B w0 gw gp pre bad := by
  intro W t ls n pd ps pe d pl hb hp ht hl
  have B1 := below_alloc (Below.refl W.heap.size W) (thR n pd ps pe d pl)
  have hb1 : Below B w0 (W.alloc (thR n pd ps pe d pl)) := hb.alloc (Nat.le_trans hB hb.size) _
  have HC := Aside0.mk (hA _ t ls n pd ps pe d pl hb1 hp (ThAt_below ht B1) (ScAt_below hl B1))
  replace hw := keptB hb1 hw hgw
  obtain ⟨y0, y1, y2, y3, y4⟩ := hpi.kept hb1 hgp
  clear hA hb ht hl hp hpi
  unfold thR at *
  unfold thV PR.cells at *
  have BB := Aside0.mk B1
  clear B1 hb1 hB hgw hgp
  generalize bad (t, ls) = b at *
  go_enter Tryz.func85, Tryz.ntmps85
  go_wp2_with (go_at_call 61; refine HC.out.mono ?_; rintro e w' ⟨rfl, hb⟩)
  go_ret
  exact ⟨rfl, below_step BB.out hb⟩
set_option maxHeartbeats 1000000 in
theorem c85_62 (B : Nat) (w0 : World) (hB : B ≤ w0.heap.size) (p : PR) (A3 : Option Addr) (c3 : Nat) (A4 : Option Addr) (c4 : Nat) (pre bad : TL → Bool) (gw gp : Nat) (hA : Asks 62 B w0 p A3 c3 A4 c4 pre bad)
    (hgw : gw < B) (hgp : gp < B) (hw : w0.cell? ⟨gw, 0, none⟩ = some (.func (.func 62) #[] #[])) (hpi : PIn w0 gp p A3 c3 A4 c4) : Asked B w0 gw gp pre bad := by
  intro W t ls n pd ps pe d pl hb hp ht hl
  have B1 := below_alloc (Below.refl W.heap.size W) (thR n pd ps pe d pl)
  have hb1 : Below B w0 (W.alloc (thR n pd ps pe d pl)) := hb.alloc (Nat.le_trans hB hb.size) _
  have HC := Aside0.mk (hA _ t ls n pd ps pe d pl hb1 hp (ThAt_below ht B1) (ScAt_below hl B1))
  replace hw := keptB hb1 hw hgw
  obtain ⟨y0, y1, y2, y3, y4⟩ := hpi.kept hb1 hgp
  clear hA hb ht hl hp hpi
  unfold thR at *
  unfold thV PR.cells at *
  have BB := Aside0.mk B1
  clear B1 hb1 hB hgw hgp
  generalize bad (t, ls) = b at *
  go_enter Tryz.func85, Tryz.ntmps85
  go_wp2_with (go_at_call 62; refine HC.out.mono ?_; rintro e w' ⟨rfl, hb⟩)
  go_ret
  exact ⟨rfl, below_step BB.out hb⟩
set_option maxHeartbeats 1000000 in
theorem c85_63 (B : Nat) (w0 : World) (hB : B ≤ w0.heap.size) (p : PR) (A3 : Option Addr) (c3 : Nat) (A4 : Option Addr) (c4 : Nat) (pre bad : TL → Bool) (gw gp : Nat) (hA : Asks 63 B w0 p A3 c3 A4 c4 pre bad)
    (hgw : gw < B) (hgp : gp < B) (hw : w0.cell? ⟨gw, 0, none⟩ = some (.func (.func 63) #[] #[])) (hpi : PIn w0 gp p A3 c3 A4 c4) : Asked B w0 gw gp pre bad := by
  intro W t ls n pd ps pe d pl hb hp ht hl
  have B1 := below_alloc (Below.refl W.heap.size W) (thR n pd ps pe d pl)
  have hb1 : Below B w0 (W.alloc (thR n pd ps pe d pl)) := hb.alloc (Nat.le_trans hB hb.size) _
  have HC := Aside0.mk (hA _ t ls n pd ps pe d pl hb1 hp (ThAt_below ht B1) (ScAt_below hl B1))
  replace hw := keptB hb1 hw hgw
  obtain ⟨y0, y1, y2, y3, y4⟩ := hpi.kept hb1 hgp
  clear hA hb ht hl hp hpi
  unfold thR at *
  unfold thV PR.cells at *
  have BB := Aside0.mk B1
  clear B1 hb1 hB hgw hgp
  generalize bad (t, ls) = b at *
  go_enter Tryz.func85, Tryz.ntmps85
  go_wp2_with (go_at_call 63; refine HC.out.mono ?_; rintro e w' ⟨rfl, hb⟩)
  go_ret
  exact ⟨rfl, below_step BB.out hb⟩
set_option maxHeartbeats 1000000 in
theorem c98_any (B : Nat) (w0 : World) (hB : B ≤ w0.heap.size) (pre bad : TL → Bool) (cap gw gp : Nat) (hA : Asked B w0 gw gp pre bad) (hc : cap < B)
    (hw : w0.cell? ⟨cap, 0, none⟩ = some (.func (.func 85) #[] #[.pointer (some ⟨gw, 0, none⟩), .pointer (some ⟨gp, 0, none⟩)])) : Sees B w0 cap pre bad := by
  intro W t ls n pd ps pe d pl hb hp ht hl
  have B1 := below_alloc (Below.refl W.heap.size W) (thR n pd ps pe d pl)
  have hb1 : Below B w0 (W.alloc (thR n pd ps pe d pl)) := hb.alloc (Nat.le_trans hB hb.size) _
  have HC := Aside0.mk (hA _ t ls n pd ps pe d pl hb1 hp (ThAt_below ht B1) (ScAt_below hl B1))
  replace hw := keptB hb1 hw hc
  clear hA hb ht hl hp
  unfold thR at *
  unfold thV at *
  have BB := Aside0.mk B1
  clear B1 hb1 hB hc
  cases hv : bad (t, ls) with
  | false =>
    rw [hv] at HC
    clear hv
    go_enter Tryz.func98, Tryz.ntmps98
    go_wp2_with (go_at_call 85; refine HC.out.mono ?_; rintro e w' ⟨rfl, hb⟩)
    refine bodyPost_end (results_none rfl _ _ _) rfl ?_
    exact ⟨below_step BB.out hb, .inl ⟨by trivial, rfl⟩⟩
  | true =>
    rw [hv] at HC
    clear hv
    obtain ⟨W1, hW1⟩ : ∃ W1, W.alloc (.cells #[.int .i64 n, .pointer pd, .pointer ps, .pointer pe, .int .i64 d, .pointer pl] 95) = W1 := ⟨_, rfl⟩
    obtain ⟨z0, z1, z2, z3, z4, z5⟩ : W1.cell? ⟨W.heap.size, 0, none⟩ = some (.int .i64 n) ∧ W1.cell? ⟨W.heap.size, 1, none⟩ = some (.pointer pd) ∧ W1.cell? ⟨W.heap.size, 2, none⟩ = some (.pointer ps) ∧ W1.cell? ⟨W.heap.size, 3, none⟩ = some (.pointer pe) ∧ W1.cell? ⟨W.heap.size, 4, none⟩ = some (.int .i64 d) ∧ W1.cell? ⟨W.heap.size, 5, none⟩ = some (.pointer pl) := by rw [← hW1]; simp [go_sem]
    go_enter Tryz.func98, Tryz.ntmps98
    go_upto_region 1 with (fail)
    rw [hW1] at BB HC hw
    try rw [hW1]
    clear hW1
    go_wp2_with (go_at_call 85; refine HC.out.mono ?_; rintro e w' ⟨rfl, hb⟩; replace z0 := kept_cell hb z0)
    exact ⟨rfl, below_step BB.out hb, .inr ⟨by trivial, n, rfl⟩⟩
end Go.Proofs.YtjomofepephodaaGreat.PEquivShapes
namespace Go.Proofs.YtjomofepephodaaGreat.PEquivShapes
open Go.RowKit
open Go.Proofs.YtjomofepephodaaGreatW.PrintWords Go.Proofs.YtjomofepephodaaGreatW.PrintLast Go.Proofs.YtjomofepephodaaGreatW.PrintMore
/-- the walk's block: its place, what it is handed -/
def WkAt (g cap : Nat) (v : Int) (w : World) : Prop := w.heap[g]? = some (.cells #[.int .i64 v, .func (.func 98) #[] #[.pointer (some ⟨cap, 0, none⟩)]] 127 (0, 0))
/-- all cells stay, but a block's -/
def Keeps (g : Nat) (w w' : World) : Prop := ∀ (a : Addr) (x : Value), a.block ≠ g → w.cell? a = some x → w'.cell? a = some x
/-- how a step of the walk ends: at a bad thing it panics -/
def Went (g cap : Nat) (w0 W : World) (b : Bool) (e : Ending) (w' : World) : Prop :=
  Below g w0 w' ∧ match b with
    | false => e = .returned (.tuple #[]) ∧ (∃ v, WkAt g cap v w') ∧ Keeps g W w'
    | true => ∃ v : Int, e = .panicked [{ v := .iface 119 (.agg #[.int .i64 v]), recovered := false }]
theorem WkAt.cell0 {g cap : Nat} {v : Int} {w : World} (h : WkAt g cap v w) : w.cell? ⟨g, 0, none⟩ = some (.int .i64 v) := by simp [World.cell?, show w.heap[g]? = _ from h]
theorem WkAt.cell1 {g cap : Nat} {v : Int} {w : World} (h : WkAt g cap v w) : w.cell? ⟨g, 1, none⟩ = some (.func (.func 98) #[] #[.pointer (some ⟨cap, 0, none⟩)]) := by simp [World.cell?, show w.heap[g]? = _ from h]
theorem WkAt.frozen {g cap : Nat} {v : Int} {w : World} (h : WkAt g cap v w) (i : Nat) : w.frozen? ⟨g, i, none⟩ = false := by simp [World.frozen?, show w.heap[g]? = _ from h]
theorem WkAt.lt {g cap : Nat} {v : Int} {w : World} (h : WkAt g cap v w) : g < w.heap.size := (Array.getElem?_eq_some_iff.1 h).1
theorem WkAt.set {g cap : Nat} {v : Int} {w : World} (h : WkAt g cap v w) (u : Int) : WkAt g cap u (w.setCell ⟨g, 0, none⟩ (.int .i64 u)) := by
  unfold WkAt at *
  simp [World.setCell, Array.getElem?_modify, h]
theorem WkAt.below {g cap : Nat} {v : Int} {w W : World} (h : WkAt g cap v w) (hb : Below w.heap.size w W) : WkAt g cap v W := (hb.block g h.lt).trans h
theorem WkAt.far {g cap : Nat} {v : Int} {w : World} (h : WkAt g cap v w) {a : Addr} (ha : a.block ≠ g) (x : Value) : WkAt g cap v (w.setCell a x) := by
  unfold WkAt at *
  rw [Below.heap_setCell _ _ _ _ ha.symm]
  exact h
theorem Keeps.refl (g : Nat) (w : World) : Keeps g w w := fun _ _ _ h => h
theorem Keeps.trans {g : Nat} {a b c : World} (h : Keeps g a b) (k : Keeps g b c) : Keeps g a c := fun x v hx hv => k x v hx (h x v hx hv)
theorem Keeps.below {g : Nat} {w W : World} (hb : Below w.heap.size w W) : Keeps g w W := fun _ _ _ h => kept_cell hb h
theorem Keeps.set {g : Nat} (w : World) (i : Nat) (x : Value) : Keeps g w (w.setCell ⟨g, i, none⟩ x) := fun a v ha hv => by
  have := Below.heap_setCell w ⟨g, i, none⟩ x a.block ha
  simpa [World.cell?, this] using hv
theorem ScAt.keeps {g cap : Nat} {v : Int} {w w' : World} (hw : WkAt g cap v w) (hk : Keeps g w w') : ∀ {l : List ByteArray} {q : Option Addr}, ScAt w q l → ScAt w' q l
  | [], _, h => h
  | _ :: _, _, ⟨i, u, e, h1, h2, h3⟩ => by
    have hi : i ≠ g := by
      rintro rfl
      rw [hw.cell0] at h1
      cases h1
    exact ⟨i, u, e, hk _ _ hi h1, hk _ _ hi h2, ScAt.keeps hw hk h3⟩
theorem Went.ok {g cap : Nat} {w0 W w w' : World} (hg : g = w0.heap.size) {v : Int} (hk : WkAt g cap v w) (hK : Keeps g W w) (hb : Below g w0 w) (h : Below w.heap.size w w') : Went g cap w0 W false (.returned (.tuple #[])) w' :=
  ⟨hb.trans ⟨h.os, h.tape, h.output, h.size, fun i hi => h.block i (by have := hk.lt; omega)⟩, rfl, ⟨v, hk.below h⟩, hK.trans (Keeps.below h)⟩
theorem Went.bad {g cap : Nat} {w0 W w w' : World} {v u : Int} (hk : WkAt g cap v w) (hb : Below g w0 w) (h : Below w.heap.size w w') : Went g cap w0 W true (.panicked [{ v := .iface 119 (.agg #[.int .i64 u]), recovered := false }]) w' :=
  ⟨hb.trans ⟨h.os, h.tape, h.output, h.size, fun i hi => h.block i (by have := hk.lt; omega)⟩, u, rfl⟩
set_option maxHeartbeats 2000000 in
theorem tell_any (g cap : Nat) (w0 : World) (pre bad : TL → Bool) (hS : Sees g w0 cap pre bad) (hg : g = w0.heap.size) (v : Int) (W : World) (hb : Below g w0 W) (hk : WkAt g cap v W)
    (t : TH) (ls : List ByteArray) (n : Int) (pd ps pe : Option Addr) (d : Int) (pl : Option Addr) (hp : pre (t, ls) = true) (ht : ThAt w0 t ps pe d) (hl : ScAt W pl ls) :
    Calls Tryz.prog 105 #[.pointer (some ⟨g, 0, none⟩), thV n pd ps pe d pl] W fun e w' => Went g cap w0 W (bad (t, ls)) e w' := by
  have hgl := hk.lt
  have BA := below_alloc (Below.refl W.heap.size W) (thR n pd ps pe d pl)
  have k1 := hk.below BA
  have b1 : Below g w0 (W.alloc (thR n pd ps pe d pl)) := hb.alloc (by omega) _
  have box1 : (W.alloc (thR n pd ps pe d pl)).heap[W.heap.size]? = some (.cells #[.int .i64 n, .pointer pd, .pointer ps, .pointer pe, .int .i64 d, .pointer pl] 95 (0, 0)) := by show (W.heap.push _)[W.heap.size]? = _; simp [thR]
  obtain ⟨W1, hW1⟩ : ∃ W1, W.alloc (thR n pd ps pe d pl) = W1 := ⟨_, rfl⟩
  rw [hW1] at BA k1 b1 box1
  have c0 := k1.cell0
  have x0 : W1.cell? ⟨W.heap.size, 0, none⟩ = some (.int .i64 n) := by simp [World.cell?, box1]
  have f0 : W1.frozen? ⟨W.heap.size, 0, none⟩ = false := by simp [World.frozen?, box1]
  have hne : W.heap.size ≠ g := by omega
  have BA2 : Below W.heap.size W (W1.setCell ⟨W.heap.size, 0, none⟩ (.int .i64 v)) := BA.setCell (Nat.le_refl _) _
  have k2 := k1.far (a := ⟨W.heap.size, 0, none⟩) hne (.int .i64 v)
  have b2 : Below g w0 (W1.setCell ⟨W.heap.size, 0, none⟩ (.int .i64 v)) := b1.setCell (by show g ≤ W.heap.size; omega) _
  have box2 : (W1.setCell ⟨W.heap.size, 0, none⟩ (.int .i64 v)).heap[W.heap.size]? = some (.cells #[.int .i64 v, .pointer pd, .pointer ps, .pointer pe, .int .i64 d, .pointer pl] 95 (0, 0)) := by simp [World.setCell, Array.getElem?_modify, box1]
  obtain ⟨W2, hW2⟩ : ∃ W2, W1.setCell ⟨W.heap.size, 0, none⟩ (.int .i64 v) = W2 := ⟨_, rfl⟩
  rw [hW2] at BA2 k2 b2 box2
  have d0 := k2.cell0
  have e0 := k2.frozen 0
  have k3 := k2.set (wrap64 (v + 1))
  have b3 : Below g w0 (W2.setCell ⟨g, 0, none⟩ (.int .i64 (wrap64 (v + 1)))) := b2.setCell (Nat.le_refl _) _
  have K3 : Keeps g W (W2.setCell ⟨g, 0, none⟩ (.int .i64 (wrap64 (v + 1)))) := (Keeps.below BA2).trans (Keeps.set _ _ _)
  have box3 : (W2.setCell ⟨g, 0, none⟩ (.int .i64 (wrap64 (v + 1)))).heap[W.heap.size]? = some (.cells #[.int .i64 v, .pointer pd, .pointer ps, .pointer pe, .int .i64 d, .pointer pl] 95 (0, 0)) := by
    rw [Below.heap_setCell _ _ _ _ hne]; exact box2
  obtain ⟨W3, hW3⟩ : ∃ W3, W2.setCell ⟨g, 0, none⟩ (.int .i64 (wrap64 (v + 1))) = W3 := ⟨_, rfl⟩
  rw [hW3] at k3 b3 K3 box3
  have HS : Aside0 (∀ W', Below W3.heap.size W3 W' → Calls Tryz.prog 98 #[.agg #[.int .i64 v, .pointer pd, .pointer ps, .pointer pe, .int .i64 d, .pointer pl], .pointer (some ⟨cap, 0, none⟩)] W' fun e w' => Went g cap w0 W (bad (t, ls)) e w') := by
    refine ⟨fun W' h' => ?_⟩
    have b4 : Below g w0 W' := b3.trans ⟨h'.os, h'.tape, h'.output, h'.size, fun i hi => h'.block i (by have := k3.lt; omega)⟩
    refine (hS W' t ls v pd ps pe d pl b4 hp (ThAt_below ht (hg ▸ b4)) (ScAt_below (ScAt.keeps hk K3 hl) h')).mono ?_
    rintro e w' ⟨hq, ⟨hf, rfl⟩ | ⟨hf, u, rfl⟩⟩
    · rw [hf]
      exact Went.ok hg k3 K3 b3 (below_step h' hq)
    · rw [hf]
      exact Went.bad k3 b3 (below_step h' hq)
  have c1 := k3.cell1
  obtain ⟨z0, z1, z2, z3, z4, z5⟩ : W3.cell? ⟨W.heap.size, 0, none⟩ = some (.int .i64 v) ∧ W3.cell? ⟨W.heap.size, 1, none⟩ = some (.pointer pd) ∧ W3.cell? ⟨W.heap.size, 2, none⟩ = some (.pointer ps) ∧ W3.cell? ⟨W.heap.size, 3, none⟩ = some (.pointer pe) ∧ W3.cell? ⟨W.heap.size, 4, none⟩ = some (.int .i64 d) ∧ W3.cell? ⟨W.heap.size, 5, none⟩ = some (.pointer pl) := by simp [World.cell?, box3]
  clear hS hg hb hk hp ht hl k1 b1 box1 k2 b2 box2 k3 b3 K3 box3 BA BA2 hne hgl
  unfold thV
  unfold thR at hW1
  cases hv : bad (t, ls) with
  | false =>
    rw [hv] at HS
    clear hv
    go_enter Tryz.func105, Tryz.ntmps105
    go_upto_region 1 with (fail)
    try rw [hW1]
    clear hW1
    go_upto_region 2 with (fail)
    try rw [hW2]
    clear hW2 c0 f0 x0
    go_upto_region 3 with (fail)
    try rw [hW3]
    clear hW3 d0 e0
    go_region_with (go_at_call 98; refine (HS.out _ (by first | exact Below.refl _ _ | exact below_drew1 (Below.refl _ _) | (repeat (first | exact Below.refl _ _ | apply pw_below_drewN | apply below_drew1)))).mono ?_; rintro e w' ⟨hb5, rfl, hwk, hK5⟩)
    all_goals (refine bodyPost_end (results_none rfl _ _ _) rfl ?_; exact ⟨hb5, rfl, hwk, hK5⟩)
  | true =>
    rw [hv] at HS
    clear hv
    go_enter Tryz.func105, Tryz.ntmps105
    go_upto_region 1 with (fail)
    try rw [hW1]
    clear hW1
    go_upto_region 2 with (fail)
    try rw [hW2]
    clear hW2 c0 f0 x0
    go_upto_region 3 with (fail)
    try rw [hW3]
    clear hW3 d0 e0
    go_region_with (go_at_call 98; refine (HS.out _ (by first | exact Below.refl _ _ | exact below_drew1 (Below.refl _ _) | (repeat (first | exact Below.refl _ _ | apply pw_below_drewN | apply below_drew1)))).mono ?_; rintro e w' ⟨hb5, u, rfl⟩; refine (fun (_ : wpAny Tryz.prog Region.Mode.any #[] (fun _ _ _ => True) 0 #[] { tmps := #[], defers := [] } w') => ⟨rfl, hb5, u, rfl⟩) ?_)
    all_goals trivial
end Go.Proofs.YtjomofepephodaaGreat.PEquivShapes
namespace Go.Proofs.YtjomofepephodaaGreat.PEquivShapes
open Go.RowKit
open Go.Proofs.YtjomofepephodaaGreatW.PrintWords Go.Proofs.YtjomofepephodaaGreatW.PrintLast Go.Proofs.YtjomofepephodaaGreatW.PrintMore
mutual
/-- the things of an expression -/
def S50.ths (ls : List ByteArray) : S50 → List TL
  | ⟨k, n, s, l⟩ => (.expr ⟨k, n, s, l⟩, ls) :: S50.thss ls l
def S50.thss (ls : List ByteArray) : List S50 → List TL
  | [] => []
  | x :: r => S50.ths ls x ++ S50.thss ls r
end
theorem S50.ths_eq (ls : List ByteArray) (e : S50) : S50.ths ls e = (.expr e, ls) :: S50.thss ls e.f3 := by
  obtain ⟨k, n, s, l⟩ := e
  rw [S50.ths]
theorem S50.thss_eq (ls : List ByteArray) (l : List S50) : S50.thss ls l = l.flatMap (S50.ths ls) := by
  induction l with
  | nil => rfl
  | cons x l ih => rw [S50.thss, ih, List.flatMap_cons]
theorem S50.any_succ (ls : List ByteArray) (bad : TL → Bool) (l : List S50) (i : Nat) (h : i < l.length) : (S50.thss ls (l.take (i + 1))).any bad = ((S50.thss ls (l.take i)).any bad || (S50.ths ls (rd_T50 l i)).any bad) := by
  have hd : rd_T50 l i = l[i] := by simp [rd_T50, h]
  rw [List.take_succ_eq_append_getElem h, S50.thss_eq, List.flatMap_append, List.any_append, ← S50.thss_eq, hd]
  simp
theorem S50.any_more (ls : List ByteArray) (bad : TL → Bool) (l : List S50) (i : Nat) (h : i < l.length) (hb : (S50.ths ls (rd_T50 l i)).any bad = true) : (S50.thss ls l).any bad = true := by
  have hd : rd_T50 l i = l[i] := by simp [rd_T50, h]
  rw [hd] at hb
  rw [S50.thss_eq, List.any_flatMap, List.any_eq_true]
  exact ⟨l[i], List.getElem_mem h, hb⟩
theorem S50.pre_kid {ls : List ByteArray} {l : List S50} {i : Nat} (h : i < l.length) {x : TL} (hx : x ∈ S50.ths ls (rd_T50 l i)) : x ∈ S50.thss ls l := by
  have hd : rd_T50 l i = l[i] := by simp [rd_T50, h]
  rw [hd] at hx
  rw [S50.thss_eq, List.mem_flatMap]
  exact ⟨l[i], List.getElem_mem h, hx⟩
theorem addr_plain {w : World} {a : Addr} {v : Value} (h : w.cell? a = some v) : a = ⟨a.block, a.off, none⟩ := by
  obtain ⟨b, o, s⟩ := a
  unfold World.cell? at h
  split at h
  · cases s with
    | none => rfl
    | some x => simp at h
  · cases h
theorem kept0 {g : Nat} {w0 W : World} (hg : g = w0.heap.size) (hb : Below g w0 W) {a : Addr} {v : Value} (hc : w0.cell? a = some v) : W.cell? a = some v := kept_cell (hg ▸ hb) hc
set_option maxHeartbeats 2000000 in
theorem expr_any (g cap : Nat) (w0 : World) (pre bad : TL → Bool) (hS : Sees g w0 cap pre bad) (hg : g = w0.heap.size) (N : Nat) : ∀ (e : S50) (b o : Nat) (ls : List ByteArray) (pl : Option Addr) (W : World) (v : Int), e.bulk ≤ N → ExAt w0 b o e →
    (∀ x, x ∈ S50.ths ls e → pre x = true) → Below g w0 W → WkAt g cap v W → ScAt W pl ls →
    Calls Tryz.prog 111 #[.pointer (some ⟨g, 0, none⟩), .pointer (some ⟨b, o, none⟩), .pointer pl] W fun x w' => Went g cap w0 W ((S50.ths ls e).any bad) x w' := by
  induction N with
  | zero =>
    intro e b o ls pl W v hN
    obtain ⟨k, n, s, l⟩ := e
    simp [S50.bulk] at hN
  | succ N ih =>
    intro e b o ls pl W v hN hE hp hb hk hl
    have HG := Aside0.mk hg
    have hu := Tryz.underlying48
    rw [S50.ths_eq] at hp ⊢
    rw [List.any_cons]
    have HT := tell_any g cap w0 pre bad hS hg v W hb hk (.expr e) ls 0 none none (some ⟨b, o, none⟩) 0 pl (hp _ (by simp)) ⟨rfl, ⟨b, o, rfl, hE⟩, rfl⟩ hl
    unfold thV at HT
    cases hv : bad (TH.expr e, ls) with
    | true =>
      rw [hv] at HT
      have H1 := Aside0.mk HT
      clear hp hS ih hE hN hb hk hl HT hv hg
      rw [Bool.true_or]
      go_enter Tryz.func111, Tryz.ntmps111
      go_wp2_with (go_at_call 105; refine H1.out.mono ?_; rintro x w1 ⟨hb1, u, rfl⟩)
      exact ⟨rfl, hb1, u, rfl⟩
    | false =>
      rw [hv] at HT
      rw [Bool.false_or]
      obtain ⟨A, c, h0, h1, h2, h3, hc3, hK⟩ := hE
      have hll : (e.f3.length : Int) ≤ 9223372036854775807 := by have := hK.2.1; omega
      have H1 := Aside0.mk HT
      have HL := Aside0.mk hl
      have HP : Aside0 (∀ x, x ∈ S50.thss ls e.f3 → pre x = true) := ⟨fun x hx => hp x (by simp [hx])⟩
      have IH := Aside0.mk ih
      have HW := Aside0.mk hk
      clear HT hl hp hS ih hv hb hk h0 h1 h2 hg
      go_enter Tryz.func111, Tryz.ntmps111
      go_wp2_with (go_at_call 105; refine H1.out.mono ?_; rintro x w1 ⟨hb1, rfl, hk1, hK1⟩; have h31 := kept0 HG.out hb1 h3)
      go_loopg [17] (e.f3.length) (fun m v17 wr => ∃ i : Nat, v17 = .int .i64 i ∧ m = e.f3.length - i ∧ i ≤ e.f3.length ∧ (S50.thss ls (e.f3.take i)).any bad = false ∧ Below g w0 wr ∧ (∃ u, WkAt g cap u wr) ∧ Keeps g W wr)
      case atStart => exact ⟨0, rfl, by omega, by omega, by simp [S50.thss], hb1, hk1, hK1⟩
      case round =>
        obtain ⟨i, rfl, rfl, hi, hs0, hb2, ⟨u, hk2⟩, hK2⟩ := hrel
        clear h31 hb1 hk1 hK1
        have h31 := kept0 HG.out hb2 h3
        by_cases hlt : i < e.f3.length
        · obtain ⟨ad, A1, c1, rfl, x0, x1, x2, x3, hc1, hkk⟩ := at_T50 hK (i : Int) (by omega) (by omega)
          have hbk := S50.bulk_kid hlt
          simp only [Int.toNat_natCast] at x0 x1 x2 x3
          have hq := addr_plain x0
          have hE1 : ExAt w0 (ad.add (i * 4)).block (ad.add (i * 4)).off (rd_T50 e.f3 i) := ⟨A1, c1, by rw [← hq]; exact x0, x1, x2, x3, hc1, hkk⟩
          have IH1 := IH.out (rd_T50 e.f3 i) _ _ ls pl wr u (by omega) hE1 (fun x hx => HP.out x (S50.pre_kid hlt hx)) hb2 hk2 (ScAt.keeps HW.out hK2 HL.out)
          rw [← hq] at IH1
          have hlt' : (i : Int) < (e.f3.length : Int) := by omega
          have hsu := S50.any_succ ls bad e.f3 i hlt
          have HM := Aside0.mk (S50.any_more ls bad e.f3 i hlt)
          have HK2 := Aside0.mk hK2
          rw [hs0, Bool.false_or] at hsu
          clear x0 x1 x2 x3 hq hE1 hbk hkk hb2 hk2 hK2 hs0 hN
          cases hv : (S50.ths ls (rd_T50 e.f3 i)).any bad with
          | true =>
            rw [hv] at IH1
            have H2 := Aside0.mk IH1
            have HV := Aside0.mk hv
            clear IH1 hv hsu
            go_wp2_with (go_at_call 111; refine H2.out.mono ?_; rintro x w2 ⟨hb3, q, rfl⟩)
            rw [HM.out HV.out]
            exact ⟨rfl, hb3, q, rfl⟩
          | false =>
            rw [hv] at IH1 hsu
            have H2 := Aside0.mk IH1
            have HU := Aside0.mk hsu
            clear IH1 hv hsu
            go_wp2_with (go_at_call 111; refine H2.out.mono ?_; rintro x w2 ⟨hb3, rfl, hk3, hK3⟩)
            go_roundg (e.f3.length - (i + 1))
            case measure => omega
            case rel => exact ⟨i + 1, by simp, rfl, by omega, HU.out, hb3, hk3, HK2.out.trans hK3⟩
        · have hlt' : ¬ ((i : Int) < (e.f3.length : Int)) := by omega
          have hie : i = e.f3.length := by omega
          subst hie
          rw [List.take_length] at hs0
          have H2 := Aside0.mk hs0
          have H3 := Aside0.mk hK2
          clear hs0 hK2
          go_wp2_with fail
          refine bodyPost_end (results_none rfl _ _ _) rfl ?_
          rw [H2.out]
          exact ⟨hb2, rfl, ⟨u, hk2⟩, H3.out⟩
end Go.Proofs.YtjomofepephodaaGreat.PEquivShapes
