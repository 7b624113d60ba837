/-
  The clauses over declarations, and of depth, unknown names and range. Conditions: what each theorem names.
-/
import Derived.Test.YtjomofepephodaaGreatGb
set_option linter.unusedVariables false
set_option linter.unusedSimpArgs false
namespace Go.Proofs.YtjomofepephodaaGreat.PEquivShapes
open Go.RowKit
open Go.Proofs.YtjomofepephodaaGreatW.PrintWords Go.Proofs.YtjomofepephodaaGreatW.PrintLast Go.Proofs.YtjomofepephodaaGreatW.PrintMore
/-- is one of the first n bad? -/
def anyB (bad : Nat → Bool) (n : Nat) : Bool := (List.range n).any bad
theorem anyB_succ (bad : Nat → Bool) (n : Nat) : anyB bad (n + 1) = (anyB bad n || bad n) := by simp [anyB, List.range_succ]
theorem anyB_more {bad : Nat → Bool} {i n : Nat} (h : i < n) (hb : bad i = true) : anyB bad n = true := by
  unfold anyB
  rw [List.any_eq_true]
  exact ⟨i, by simpa using h, hb⟩
set_option maxHeartbeats 1000000 in
theorem decl5_any (p : PR) (A3 : Option Addr) (c3 : Nat) (A4 : Option Addr) (c4 : Nat) (g : Nat) (w : World) (hl : (p.decls.length : Int) ≤ 9223372036854775807) (bad : Nat → Bool)
    (hbad : ∀ W i, Below w.heap.size w W → i < p.decls.length → Calls Tryz.prog 45 #[p.cells A3 c3 A4 c4, .int .i64 i] W fun e w' => e = .returned (.bool (bad i)) ∧ Below W.heap.size W w')
    (hg : w.cell? ⟨g, 0, none⟩ = some (.func (.func 45) #[] #[])) :
    Calls Tryz.prog 81 #[p.cells A3 c3 A4 c4, .pointer (some ⟨g, 0, none⟩)] w fun e w' => (∃ r : Int, e = .returned (.tuple #[.int .i64 r, .bool (anyB bad p.decls.length)])) ∧ Below w.heap.size w w' := by
  have B := below_alloc (Below.refl w.heap.size w) (.cells #[.string p.name, .int .i64 p.width, .int .i64 p.line, .slice A3 p.decls.length c3, .slice A4 p.body.length c4] 25)
  obtain ⟨W1, hW1⟩ : ∃ W1, w.alloc (.cells #[.string p.name, .int .i64 p.width, .int .i64 p.line, .slice A3 p.decls.length c3, .slice A4 p.body.length c4] 25) = W1 := ⟨_, rfl⟩
  have y0 : W1.cell? ⟨w.heap.size, 0, none⟩ = some (.string p.name) := by rw [← hW1]; simp [go_sem]
  have y1 : W1.cell? ⟨w.heap.size, 1, none⟩ = some (.int .i64 p.width) := by rw [← hW1]; simp [go_sem]
  have y2 : W1.cell? ⟨w.heap.size, 2, none⟩ = some (.int .i64 p.line) := by rw [← hW1]; simp [go_sem]
  have y3 : W1.cell? ⟨w.heap.size, 3, none⟩ = some (.slice A3 p.decls.length c3) := by rw [← hW1]; simp [go_sem]
  have y4 : W1.cell? ⟨w.heap.size, 4, none⟩ = some (.slice A4 p.body.length c4) := by rw [← hW1]; simp [go_sem]
  have yg := kept_cell B hg
  rw [hW1] at B yg
  have BB := Aside0.mk B
  have HBad := Aside0.mk hbad
  clear B hbad hg
  unfold PR.cells at HBad ⊢
  go_enter Tryz.func81, Tryz.ntmps81
  go_wp2_with fail
  try rw [hW1]
  go_loopg [9] (p.decls.length) (fun m v wr => ∃ i : Nat, v = .int .i64 i ∧ m = p.decls.length - i ∧ i ≤ p.decls.length ∧ anyB bad i = false ∧ Below W1.heap.size W1 wr)
  case atStart => exact ⟨0, rfl, by omega, by omega, rfl, by first | exact Below.refl _ _ | (rw [hW1]; exact Below.refl _ _)⟩
  case round =>
    obtain ⟨i, rfl, rfl, hi, hu0, R⟩ := hrel
    by_cases hlt : i < p.decls.length
    · replace y0 := kept_cell R y0
      replace y1 := kept_cell R y1
      replace y2 := kept_cell R y2
      replace y3 := kept_cell R y3
      replace y4 := kept_cell R y4
      replace yg := kept_cell R yg
      have cD := HBad.out wr i (below_step BB.out R) hlt
      have hs := anyB_succ bad i
      have hlt' : (i : Int) < (p.decls.length : Int) := by omega
      have RR := Aside0.mk R
      rw [hu0, Bool.false_or] at hs
      have HA := Aside0.mk (fun h => anyB_more (bad := bad) hlt h)
      cases hb : bad i with
      | true =>
        rw [hb] at cD
        have HS := Aside0.mk (HA.out hb)
        clear hs hu0 hb R HA hW1
        go_wp2_with (go_at_call 45; refine cD.mono ?_; rintro e w' ⟨rfl, hq⟩)
        go_ret2
        exact ⟨⟨i, by rw [HS.out]; rfl⟩, below_step (below_step BB.out RR.out) hq⟩
      | false =>
        rw [hb] at cD hs
        have HS := Aside0.mk hs
        clear hs hu0 hb R HA hW1
        go_wp2_with (go_at_call 45; refine cD.mono ?_; rintro e w' ⟨rfl, hq⟩)
        go_roundg (p.decls.length - (i + 1))
        case measure => omega
        case rel => exact ⟨i + 1, by simp, rfl, by omega, HS.out, below_step RR.out hq⟩
    · have hlt' : ¬ ((i : Int) < (p.decls.length : Int)) := by omega
      have hie : i = p.decls.length := by omega
      subst hie
      have HU := Aside0.mk hu0
      have RR := Aside0.mk R
      clear hu0 R hW1
      go_wp2_with fail
      go_ret2
      exact ⟨⟨0, by rw [HU.out]; rfl⟩, below_step BB.out RR.out⟩
set_option maxHeartbeats 1000000 in
theorem decl4_any (p : PR) (A3 : Option Addr) (c3 : Nat) (A4 : Option Addr) (c4 : Nat) (g : Nat) (w : World) (hl : (p.decls.length : Int) ≤ 9223372036854775807) (bad : Nat → Bool)
    (hbad : ∀ W i, Below w.heap.size w W → i < p.decls.length → Calls Tryz.prog 43 #[p.cells A3 c3 A4 c4, .int .i64 i] W fun e w' => e = .returned (.bool (bad i)) ∧ Below W.heap.size W w')
    (hg : w.cell? ⟨g, 0, none⟩ = some (.func (.func 43) #[] #[])) :
    Calls Tryz.prog 81 #[p.cells A3 c3 A4 c4, .pointer (some ⟨g, 0, none⟩)] w fun e w' => (∃ r : Int, e = .returned (.tuple #[.int .i64 r, .bool (anyB bad p.decls.length)])) ∧ Below w.heap.size w w' := by
  have B := below_alloc (Below.refl w.heap.size w) (.cells #[.string p.name, .int .i64 p.width, .int .i64 p.line, .slice A3 p.decls.length c3, .slice A4 p.body.length c4] 25)
  obtain ⟨W1, hW1⟩ : ∃ W1, w.alloc (.cells #[.string p.name, .int .i64 p.width, .int .i64 p.line, .slice A3 p.decls.length c3, .slice A4 p.body.length c4] 25) = W1 := ⟨_, rfl⟩
  have y0 : W1.cell? ⟨w.heap.size, 0, none⟩ = some (.string p.name) := by rw [← hW1]; simp [go_sem]
  have y1 : W1.cell? ⟨w.heap.size, 1, none⟩ = some (.int .i64 p.width) := by rw [← hW1]; simp [go_sem]
  have y2 : W1.cell? ⟨w.heap.size, 2, none⟩ = some (.int .i64 p.line) := by rw [← hW1]; simp [go_sem]
  have y3 : W1.cell? ⟨w.heap.size, 3, none⟩ = some (.slice A3 p.decls.length c3) := by rw [← hW1]; simp [go_sem]
  have y4 : W1.cell? ⟨w.heap.size, 4, none⟩ = some (.slice A4 p.body.length c4) := by rw [← hW1]; simp [go_sem]
  have yg := kept_cell B hg
  rw [hW1] at B yg
  have BB := Aside0.mk B
  have HBad := Aside0.mk hbad
  clear B hbad hg
  unfold PR.cells at HBad ⊢
  go_enter Tryz.func81, Tryz.ntmps81
  go_wp2_with fail
  try rw [hW1]
  go_loopg [9] (p.decls.length) (fun m v wr => ∃ i : Nat, v = .int .i64 i ∧ m = p.decls.length - i ∧ i ≤ p.decls.length ∧ anyB bad i = false ∧ Below W1.heap.size W1 wr)
  case atStart => exact ⟨0, rfl, by omega, by omega, rfl, by first | exact Below.refl _ _ | (rw [hW1]; exact Below.refl _ _)⟩
  case round =>
    obtain ⟨i, rfl, rfl, hi, hu0, R⟩ := hrel
    by_cases hlt : i < p.decls.length
    · replace y0 := kept_cell R y0
      replace y1 := kept_cell R y1
      replace y2 := kept_cell R y2
      replace y3 := kept_cell R y3
      replace y4 := kept_cell R y4
      replace yg := kept_cell R yg
      have cD := HBad.out wr i (below_step BB.out R) hlt
      have hs := anyB_succ bad i
      have hlt' : (i : Int) < (p.decls.length : Int) := by omega
      have RR := Aside0.mk R
      rw [hu0, Bool.false_or] at hs
      have HA := Aside0.mk (fun h => anyB_more (bad := bad) hlt h)
      cases hb : bad i with
      | true =>
        rw [hb] at cD
        have HS := Aside0.mk (HA.out hb)
        clear hs hu0 hb R HA hW1
        go_wp2_with (go_at_call 43; refine cD.mono ?_; rintro e w' ⟨rfl, hq⟩)
        go_ret2
        exact ⟨⟨i, by rw [HS.out]; rfl⟩, below_step (below_step BB.out RR.out) hq⟩
      | false =>
        rw [hb] at cD hs
        have HS := Aside0.mk hs
        clear hs hu0 hb R HA hW1
        go_wp2_with (go_at_call 43; refine cD.mono ?_; rintro e w' ⟨rfl, hq⟩)
        go_roundg (p.decls.length - (i + 1))
        case measure => omega
        case rel => exact ⟨i + 1, by simp, rfl, by omega, HS.out, below_step RR.out hq⟩
    · have hlt' : ¬ ((i : Int) < (p.decls.length : Int)) := by omega
      have hie : i = p.decls.length := by omega
      subst hie
      have HU := Aside0.mk hu0
      have RR := Aside0.mk R
      clear hu0 R hW1
      go_wp2_with fail
      go_ret2
      exact ⟨⟨0, by rw [HU.out]; rfl⟩, below_step BB.out RR.out⟩
set_option maxHeartbeats 1000000 in
theorem decl6_any (p : PR) (A3 : Option Addr) (c3 : Nat) (A4 : Option Addr) (c4 : Nat) (g : Nat) (w : World) (hl : (p.decls.length : Int) ≤ 9223372036854775807) (bad : Nat → Bool)
    (hbad : ∀ W i, Below w.heap.size w W → i < p.decls.length → Calls Tryz.prog 46 #[p.cells A3 c3 A4 c4, .int .i64 i] W fun e w' => e = .returned (.bool (bad i)) ∧ Below W.heap.size W w')
    (hg : w.cell? ⟨g, 0, none⟩ = some (.func (.func 46) #[] #[])) :
    Calls Tryz.prog 81 #[p.cells A3 c3 A4 c4, .pointer (some ⟨g, 0, none⟩)] w fun e w' => (∃ r : Int, e = .returned (.tuple #[.int .i64 r, .bool (anyB bad p.decls.length)])) ∧ Below w.heap.size w w' := by
  have B := below_alloc (Below.refl w.heap.size w) (.cells #[.string p.name, .int .i64 p.width, .int .i64 p.line, .slice A3 p.decls.length c3, .slice A4 p.body.length c4] 25)
  obtain ⟨W1, hW1⟩ : ∃ W1, w.alloc (.cells #[.string p.name, .int .i64 p.width, .int .i64 p.line, .slice A3 p.decls.length c3, .slice A4 p.body.length c4] 25) = W1 := ⟨_, rfl⟩
  have y0 : W1.cell? ⟨w.heap.size, 0, none⟩ = some (.string p.name) := by rw [← hW1]; simp [go_sem]
  have y1 : W1.cell? ⟨w.heap.size, 1, none⟩ = some (.int .i64 p.width) := by rw [← hW1]; simp [go_sem]
  have y2 : W1.cell? ⟨w.heap.size, 2, none⟩ = some (.int .i64 p.line) := by rw [← hW1]; simp [go_sem]
  have y3 : W1.cell? ⟨w.heap.size, 3, none⟩ = some (.slice A3 p.decls.length c3) := by rw [← hW1]; simp [go_sem]
  have y4 : W1.cell? ⟨w.heap.size, 4, none⟩ = some (.slice A4 p.body.length c4) := by rw [← hW1]; simp [go_sem]
  have yg := kept_cell B hg
  rw [hW1] at B yg
  have BB := Aside0.mk B
  have HBad := Aside0.mk hbad
  clear B hbad hg
  unfold PR.cells at HBad ⊢
  go_enter Tryz.func81, Tryz.ntmps81
  go_wp2_with fail
  try rw [hW1]
  go_loopg [9] (p.decls.length) (fun m v wr => ∃ i : Nat, v = .int .i64 i ∧ m = p.decls.length - i ∧ i ≤ p.decls.length ∧ anyB bad i = false ∧ Below W1.heap.size W1 wr)
  case atStart => exact ⟨0, rfl, by omega, by omega, rfl, by first | exact Below.refl _ _ | (rw [hW1]; exact Below.refl _ _)⟩
  case round =>
    obtain ⟨i, rfl, rfl, hi, hu0, R⟩ := hrel
    by_cases hlt : i < p.decls.length
    · replace y0 := kept_cell R y0
      replace y1 := kept_cell R y1
      replace y2 := kept_cell R y2
      replace y3 := kept_cell R y3
      replace y4 := kept_cell R y4
      replace yg := kept_cell R yg
      have cD := HBad.out wr i (below_step BB.out R) hlt
      have hs := anyB_succ bad i
      have hlt' : (i : Int) < (p.decls.length : Int) := by omega
      have RR := Aside0.mk R
      rw [hu0, Bool.false_or] at hs
      have HA := Aside0.mk (fun h => anyB_more (bad := bad) hlt h)
      cases hb : bad i with
      | true =>
        rw [hb] at cD
        have HS := Aside0.mk (HA.out hb)
        clear hs hu0 hb R HA hW1
        go_wp2_with (go_at_call 46; refine cD.mono ?_; rintro e w' ⟨rfl, hq⟩)
        go_ret2
        exact ⟨⟨i, by rw [HS.out]; rfl⟩, below_step (below_step BB.out RR.out) hq⟩
      | false =>
        rw [hb] at cD hs
        have HS := Aside0.mk hs
        clear hs hu0 hb R HA hW1
        go_wp2_with (go_at_call 46; refine cD.mono ?_; rintro e w' ⟨rfl, hq⟩)
        go_roundg (p.decls.length - (i + 1))
        case measure => omega
        case rel => exact ⟨i + 1, by simp, rfl, by omega, HS.out, below_step RR.out hq⟩
    · have hlt' : ¬ ((i : Int) < (p.decls.length : Int)) := by omega
      have hie : i = p.decls.length := by omega
      subst hie
      have HU := Aside0.mk hu0
      have RR := Aside0.mk R
      clear hu0 R hW1
      go_wp2_with fail
      go_ret2
      exact ⟨⟨0, by rw [HU.out]; rfl⟩, below_step BB.out RR.out⟩
set_option maxHeartbeats 1000000 in
theorem decl7_any (p : PR) (A3 : Option Addr) (c3 : Nat) (A4 : Option Addr) (c4 : Nat) (g : Nat) (w : World) (hl : (p.decls.length : Int) ≤ 9223372036854775807) (bad : Nat → Bool)
    (hbad : ∀ W i, Below w.heap.size w W → i < p.decls.length → Calls Tryz.prog 47 #[p.cells A3 c3 A4 c4, .int .i64 i] W fun e w' => e = .returned (.bool (bad i)) ∧ Below W.heap.size W w')
    (hg : w.cell? ⟨g, 0, none⟩ = some (.func (.func 47) #[] #[])) :
    Calls Tryz.prog 81 #[p.cells A3 c3 A4 c4, .pointer (some ⟨g, 0, none⟩)] w fun e w' => (∃ r : Int, e = .returned (.tuple #[.int .i64 r, .bool (anyB bad p.decls.length)])) ∧ Below w.heap.size w w' := by
  have B := below_alloc (Below.refl w.heap.size w) (.cells #[.string p.name, .int .i64 p.width, .int .i64 p.line, .slice A3 p.decls.length c3, .slice A4 p.body.length c4] 25)
  obtain ⟨W1, hW1⟩ : ∃ W1, w.alloc (.cells #[.string p.name, .int .i64 p.width, .int .i64 p.line, .slice A3 p.decls.length c3, .slice A4 p.body.length c4] 25) = W1 := ⟨_, rfl⟩
  have y0 : W1.cell? ⟨w.heap.size, 0, none⟩ = some (.string p.name) := by rw [← hW1]; simp [go_sem]
  have y1 : W1.cell? ⟨w.heap.size, 1, none⟩ = some (.int .i64 p.width) := by rw [← hW1]; simp [go_sem]
  have y2 : W1.cell? ⟨w.heap.size, 2, none⟩ = some (.int .i64 p.line) := by rw [← hW1]; simp [go_sem]
  have y3 : W1.cell? ⟨w.heap.size, 3, none⟩ = some (.slice A3 p.decls.length c3) := by rw [← hW1]; simp [go_sem]
  have y4 : W1.cell? ⟨w.heap.size, 4, none⟩ = some (.slice A4 p.body.length c4) := by rw [← hW1]; simp [go_sem]
  have yg := kept_cell B hg
  rw [hW1] at B yg
  have BB := Aside0.mk B
  have HBad := Aside0.mk hbad
  clear B hbad hg
  unfold PR.cells at HBad ⊢
  go_enter Tryz.func81, Tryz.ntmps81
  go_wp2_with fail
  try rw [hW1]
  go_loopg [9] (p.decls.length) (fun m v wr => ∃ i : Nat, v = .int .i64 i ∧ m = p.decls.length - i ∧ i ≤ p.decls.length ∧ anyB bad i = false ∧ Below W1.heap.size W1 wr)
  case atStart => exact ⟨0, rfl, by omega, by omega, rfl, by first | exact Below.refl _ _ | (rw [hW1]; exact Below.refl _ _)⟩
  case round =>
    obtain ⟨i, rfl, rfl, hi, hu0, R⟩ := hrel
    by_cases hlt : i < p.decls.length
    · replace y0 := kept_cell R y0
      replace y1 := kept_cell R y1
      replace y2 := kept_cell R y2
      replace y3 := kept_cell R y3
      replace y4 := kept_cell R y4
      replace yg := kept_cell R yg
      have cD := HBad.out wr i (below_step BB.out R) hlt
      have hs := anyB_succ bad i
      have hlt' : (i : Int) < (p.decls.length : Int) := by omega
      have RR := Aside0.mk R
      rw [hu0, Bool.false_or] at hs
      have HA := Aside0.mk (fun h => anyB_more (bad := bad) hlt h)
      cases hb : bad i with
      | true =>
        rw [hb] at cD
        have HS := Aside0.mk (HA.out hb)
        clear hs hu0 hb R HA hW1
        go_wp2_with (go_at_call 47; refine cD.mono ?_; rintro e w' ⟨rfl, hq⟩)
        go_ret2
        exact ⟨⟨i, by rw [HS.out]; rfl⟩, below_step (below_step BB.out RR.out) hq⟩
      | false =>
        rw [hb] at cD hs
        have HS := Aside0.mk hs
        clear hs hu0 hb R HA hW1
        go_wp2_with (go_at_call 47; refine cD.mono ?_; rintro e w' ⟨rfl, hq⟩)
        go_roundg (p.decls.length - (i + 1))
        case measure => omega
        case rel => exact ⟨i + 1, by simp, rfl, by omega, HS.out, below_step RR.out hq⟩
    · have hlt' : ¬ ((i : Int) < (p.decls.length : Int)) := by omega
      have hie : i = p.decls.length := by omega
      subst hie
      have HU := Aside0.mk hu0
      have RR := Aside0.mk R
      clear hu0 R hW1
      go_wp2_with fail
      go_ret2
      exact ⟨⟨0, by rw [HU.out]; rfl⟩, below_step BB.out RR.out⟩
end Go.Proofs.YtjomofepephodaaGreat.PEquivShapes
namespace Go.Proofs.YtjomofepephodaaGreat.PEquivShapes
open Go.RowKit
open Go.Proofs.YtjomofepephodaaGreatW.PrintWords Go.Proofs.YtjomofepephodaaGreatW.PrintLast Go.Proofs.YtjomofepephodaaGreatW.PrintMore
/-- clause 10 -/
def badDeep : TH → Bool
  | .decl => false
  | .stmt _ d => decide (64 < d)
  | .expr e => decide (64 < e.dep)
/-- clause 11 -/
def badUnknown (p : PR) (t : TH) (ls : List ByteArray) : Bool := t.use.2 && !hasB ls t.use.1 && (findI p.decls t.use.1).isNone
/-- clause 13 -/
def badRange (p : PR) : TH → Bool
  | .expr e => decide (e.f0 = 1) && !fitB p.width e.f1
  | _ => false
/-- a program as a row of cells -/
def PR.row (p : PR) (A3 : Option Addr) (c3 : Nat) (A4 : Option Addr) (c4 : Nat) : Obj := .cells #[.string p.name, .int .i64 p.width, .int .i64 p.line, .slice A3 p.decls.length c3, .slice A4 p.body.length c4] 25
/-- a thing as a row of cells -/
def thR (n : Int) (pd ps pe : Option Addr) (d : Int) (pl : Option Addr) : Obj := .cells #[.int .i64 n, .pointer pd, .pointer ps, .pointer pe, .int .i64 d, .pointer pl] 95
theorem below_row (p : PR) (A3 : Option Addr) (c3 : Nat) (A4 : Option Addr) (c4 : Nat) (n : Int) (pd ps pe : Option Addr) (d : Int) (pl : Option Addr) (w : World) : Below w.heap.size w ((w.alloc (p.row A3 c3 A4 c4)).alloc (thR n pd ps pe d pl)) := below_alloc (below_alloc (Below.refl _ _) _) _
set_option maxHeartbeats 1000000 in
theorem c9_any (p : PR) (A3 : Option Addr) (c3 : Nat) (A4 : Option Addr) (c4 : Nat) (t : TH) (n : Int) (pd ps pe : Option Addr) (d : Int) (pl : Option Addr) (w : World) (h : ThAt w t ps pe d) :
    Calls Tryz.prog 54 #[p.cells A3 c3 A4 c4, thV n pd ps pe d pl] w fun e w' => e = .returned (.bool (badDeep t)) ∧ Below w.heap.size w w' := by
  have B := below_row p A3 c3 A4 c4 n pd ps pe d pl w
  unfold PR.row thR at B
  unfold PR.cells thV
  cases t with
  | decl =>
    obtain ⟨rfl, rfl, rfl⟩ := h
    have BB := Aside0.mk B
    clear B
    go_enter Tryz.func54, Tryz.ntmps54
    go_wp2_with fail
    go_ret
    exact ⟨rfl, BB.out⟩
  | stmt s deep =>
    obtain ⟨⟨b, o, rfl, h0, h1, _, _⟩, rfl, rfl⟩ := h
    have BB := Aside0.mk B
    clear B h0 h1
    by_cases hd : 64 < d
    · go_enter Tryz.func54, Tryz.ntmps54
      go_wp2_with fail
      go_ret
      exact ⟨by simp [badDeep, hd], BB.out⟩
    · go_enter Tryz.func54, Tryz.ntmps54
      go_wp2_with fail
      go_ret
      exact ⟨by simp [badDeep, hd], BB.out⟩
  | expr e =>
    obtain ⟨rfl, ⟨b, o, rfl, A, c, h0, h1, h2, h3, _, h4⟩, rfl⟩ := h
    have h4' := Kd.C_below h4 B
    replace h0 := kept_cell B h0
    replace h1 := kept_cell B h1
    replace h2 := kept_cell B h2
    replace h3 := kept_cell B h3
    have hD := depth_any e.bulk e A c _ (Nat.le_refl _) h4'
    unfold S50.val at hD
    have HD := Aside0.mk hD
    have BB := Aside0.mk B
    clear B h4 h4' hD
    unfold badDeep
    dsimp only
    generalize e.dep = k at *
    go_enter Tryz.func54, Tryz.ntmps54
    go_wp2_with (go_at_call 55; refine HD.out.mono ?_; rintro e w' ⟨rfl, hb⟩)
    go_ret
    exact ⟨rfl, below_step BB.out hb⟩
theorem findI_lt {ds : List S38} {s : ByteArray} {i : Nat} (h : findI ds s = some i) : i < ds.length := by
  unfold findI at h
  exact (List.findIdx?_eq_some_iff_getElem.1 h).1
theorem At_ptr {p : PR} {w : World} {A3 : Option Addr} {c3 : Nat} {A4 : Option Addr} {c4 : Nat} (h : p.At w A3 c3 A4 c4) {i : Nat} (hi : i < p.decls.length) : ∃ ad, A3 = some ad := by
  obtain ⟨a, ha, _⟩ := h.2.1.2.2 (by omega)
  exact ⟨a, ha⟩
theorem At_below {p : PR} {w W : World} {A3 : Option Addr} {c3 : Nat} {A4 : Option Addr} {c4 : Nat} (h : p.At w A3 c3 A4 c4) (B : Below w.heap.size w W) : p.At W A3 c3 A4 c4 := ⟨h.1, Kd.C_below h.2.1 B, h.2.2.1, Kd.C_below h.2.2.2 B⟩
theorem ExAt_below {w W : World} {b o : Nat} {e : S50} (h : ExAt w b o e) (B : Below w.heap.size w W) : ExAt W b o e := by
  obtain ⟨A, c, h0, h1, h2, h3, h4, h5⟩ := h
  exact ⟨A, c, kept_cell B h0, kept_cell B h1, kept_cell B h2, kept_cell B h3, h4, Kd.C_below h5 B⟩
theorem StAt_below {w W : World} {b o : Nat} {s : S52} (h : StAt w b o s) (B : Below w.heap.size w W) : StAt W b o s := ⟨kept_cell B h.1, kept_cell B h.2.1, kept_cell B h.2.2.1, kept_cell B h.2.2.2⟩
theorem ThAt_below {w W : World} {t : TH} {ps pe : Option Addr} {d : Int} (h : ThAt w t ps pe d) (B : Below w.heap.size w W) : ThAt W t ps pe d := by
  cases t with
  | decl => exact h
  | stmt s deep =>
    obtain ⟨⟨b, o, h1, h2⟩, h3⟩ := h
    exact ⟨⟨b, o, h1, StAt_below h2 B⟩, h3⟩
  | expr e =>
    obtain ⟨h0, ⟨b, o, h1, h2⟩, h3⟩ := h
    exact ⟨h0, ⟨b, o, h1, ExAt_below h2 B⟩, h3⟩
theorem ScAt_below {w W : World} {l : List ByteArray} {q : Option Addr} (h : ScAt w q l) (B : Below w.heap.size w W) : ScAt W q l := h.imp fun _ _ hc => kept_cell B hc
set_option maxHeartbeats 1000000 in
theorem c10_any (p : PR) (A3 : Option Addr) (c3 : Nat) (A4 : Option Addr) (c4 : Nat) (t : TH) (ls : List ByteArray) (n : Int) (pd ps pe : Option Addr) (d : Int) (pl : Option Addr) (w : World) (hp : p.At w A3 c3 A4 c4) (h : ThAt w t ps pe d) (hl : ScAt w pl ls) :
    Calls Tryz.prog 56 #[p.cells A3 c3 A4 c4, thV n pd ps pe d pl] w fun e w' => e = .returned (.bool (badUnknown p t ls)) ∧ Below w.heap.size w w' := by
  have B := below_row p A3 c3 A4 c4 n pd ps pe d pl w
  unfold PR.row thR at B
  have HU : Aside0 (∀ W, Below w.heap.size w W → Calls Tryz.prog 57 #[.agg #[.int .i64 n, .pointer pd, .pointer ps, .pointer pe, .int .i64 d, .pointer pl]] W fun x w' => x = .returned (.tuple #[.string t.use.1, .bool t.use.2]) ∧ Below W.heap.size W w') := ⟨fun W hW => use_any t n pd ps pe d pl W (ThAt_below h hW)⟩
  have HH : Aside0 (∀ W, Below w.heap.size w W → Calls Tryz.prog 58 #[.pointer pl, .string t.use.1] W fun e w' => e = .returned (.bool (hasB ls t.use.1)) ∧ w' = W) := ⟨fun W hW => has_any pl ls t.use.1 W (ScAt_below hl hW)⟩
  have HF : Aside0 (∀ W, Below w.heap.size w W → Calls Tryz.prog 44 #[.agg #[.string p.name, .int .i64 p.width, .int .i64 p.line, .slice A3 p.decls.length c3, .slice A4 p.body.length c4], .string t.use.1] W fun e w' => e = .returned (.pointer ((findI p.decls t.use.1).bind fun i => A3.map fun a => a.add (i * 4))) ∧ Below W.heap.size W w') := ⟨fun W hW => find_any p A3 c3 A4 c4 t.use.1 W (At_below hp hW)⟩
  have HP : Aside0 (∀ i, findI p.decls t.use.1 = some i → ∃ ad, A3 = some ad) := ⟨fun i hi => At_ptr hp (findI_lt hi)⟩
  have BB := Aside0.mk B
  clear B hp h hl
  unfold PR.cells thV badUnknown
  generalize t.use.1 = s at *
  generalize t.use.2 = u at *
  generalize hasB ls s = hb0 at *
  generalize findI p.decls s = f at *
  cases u with
  | false =>
    go_enter Tryz.func56, Tryz.ntmps56
    go_wp2_with (go_at_call 57; refine (HU.out _ BB.out).mono ?_; rintro e w' ⟨rfl, hb⟩)
    go_ret
    exact ⟨rfl, below_step BB.out hb⟩
  | true =>
    cases hb0 with
    | true =>
      go_enter Tryz.func56, Tryz.ntmps56
      obtain ⟨W2, hW2⟩ : ∃ W2, (w.alloc (.cells #[.string p.name, .int .i64 p.width, .int .i64 p.line, .slice A3 p.decls.length c3, .slice A4 p.body.length c4] 25)).alloc (.cells #[.int .i64 n, .pointer pd, .pointer ps, .pointer pe, .int .i64 d, .pointer pl] 95) = W2 := ⟨_, rfl⟩
      obtain ⟨z0, z1, z2, z3, z4, z5, y0, y1, y2, y3, y4⟩ : W2.cell? ⟨w.heap.size + 1, 0, none⟩ = some (.int .i64 n) ∧ W2.cell? ⟨w.heap.size + 1, 1, none⟩ = some (.pointer pd) ∧ W2.cell? ⟨w.heap.size + 1, 2, none⟩ = some (.pointer ps) ∧ W2.cell? ⟨w.heap.size + 1, 3, none⟩ = some (.pointer pe) ∧ W2.cell? ⟨w.heap.size + 1, 4, none⟩ = some (.int .i64 d) ∧ W2.cell? ⟨w.heap.size + 1, 5, none⟩ = some (.pointer pl) ∧ W2.cell? ⟨w.heap.size, 0, none⟩ = some (.string p.name) ∧ W2.cell? ⟨w.heap.size, 1, none⟩ = some (.int .i64 p.width) ∧ W2.cell? ⟨w.heap.size, 2, none⟩ = some (.int .i64 p.line) ∧ W2.cell? ⟨w.heap.size, 3, none⟩ = some (.slice A3 p.decls.length c3) ∧ W2.cell? ⟨w.heap.size, 4, none⟩ = some (.slice A4 p.body.length c4) := by rw [← hW2]; simp [go_sem]
      go_upto_region 1 with (fail)
      rw [hW2] at BB
      try rw [hW2]
      clear hW2
      go_wp2_with (first
        | (go_at_call 57; refine (HU.out _ BB.out).mono ?_; rintro e w1 ⟨rfl, hb⟩; replace z5 := kept_cell hb z5; replace y0 := kept_cell hb y0; replace y1 := kept_cell hb y1; replace y2 := kept_cell hb y2; replace y3 := kept_cell hb y3; replace y4 := kept_cell hb y4; have B1 := Aside0.mk (below_step BB.out hb); clear hb)
        | (go_at_call 58; refine (HH.out _ B1.out).mono ?_; rintro e w2 ⟨rfl, rfl⟩)
        | (go_at_call 44; refine (HF.out _ B1.out).mono ?_; rintro e w3 ⟨rfl, hb⟩))
      go_ret
      exact ⟨rfl, B1.out⟩
    | false =>
      cases f with
      | none =>
        go_enter Tryz.func56, Tryz.ntmps56
        obtain ⟨W2, hW2⟩ : ∃ W2, (w.alloc (.cells #[.string p.name, .int .i64 p.width, .int .i64 p.line, .slice A3 p.decls.length c3, .slice A4 p.body.length c4] 25)).alloc (.cells #[.int .i64 n, .pointer pd, .pointer ps, .pointer pe, .int .i64 d, .pointer pl] 95) = W2 := ⟨_, rfl⟩
        obtain ⟨z0, z1, z2, z3, z4, z5, y0, y1, y2, y3, y4⟩ : W2.cell? ⟨w.heap.size + 1, 0, none⟩ = some (.int .i64 n) ∧ W2.cell? ⟨w.heap.size + 1, 1, none⟩ = some (.pointer pd) ∧ W2.cell? ⟨w.heap.size + 1, 2, none⟩ = some (.pointer ps) ∧ W2.cell? ⟨w.heap.size + 1, 3, none⟩ = some (.pointer pe) ∧ W2.cell? ⟨w.heap.size + 1, 4, none⟩ = some (.int .i64 d) ∧ W2.cell? ⟨w.heap.size + 1, 5, none⟩ = some (.pointer pl) ∧ W2.cell? ⟨w.heap.size, 0, none⟩ = some (.string p.name) ∧ W2.cell? ⟨w.heap.size, 1, none⟩ = some (.int .i64 p.width) ∧ W2.cell? ⟨w.heap.size, 2, none⟩ = some (.int .i64 p.line) ∧ W2.cell? ⟨w.heap.size, 3, none⟩ = some (.slice A3 p.decls.length c3) ∧ W2.cell? ⟨w.heap.size, 4, none⟩ = some (.slice A4 p.body.length c4) := by rw [← hW2]; simp [go_sem]
        go_upto_region 1 with (fail)
        rw [hW2] at BB
        try rw [hW2]
        clear hW2
        go_wp2_with (first
          | (go_at_call 57; refine (HU.out _ BB.out).mono ?_; rintro e w1 ⟨rfl, hb⟩; replace z5 := kept_cell hb z5; replace y0 := kept_cell hb y0; replace y1 := kept_cell hb y1; replace y2 := kept_cell hb y2; replace y3 := kept_cell hb y3; replace y4 := kept_cell hb y4; have B1 := Aside0.mk (below_step BB.out hb); clear hb)
          | (go_at_call 58; refine (HH.out _ B1.out).mono ?_; rintro e w2 ⟨rfl, rfl⟩)
          | (go_at_call 44; refine (HF.out _ B1.out).mono ?_; rintro e w3 ⟨rfl, hb⟩))
        go_ret
        exact ⟨rfl, below_step B1.out hb⟩
      | some i =>
        obtain ⟨ad, rfl⟩ := HP.out i rfl
        go_enter Tryz.func56, Tryz.ntmps56
        obtain ⟨W2, hW2⟩ : ∃ W2, (w.alloc (.cells #[.string p.name, .int .i64 p.width, .int .i64 p.line, .slice (some ad) p.decls.length c3, .slice A4 p.body.length c4] 25)).alloc (.cells #[.int .i64 n, .pointer pd, .pointer ps, .pointer pe, .int .i64 d, .pointer pl] 95) = W2 := ⟨_, rfl⟩
        obtain ⟨z0, z1, z2, z3, z4, z5, y0, y1, y2, y3, y4⟩ : W2.cell? ⟨w.heap.size + 1, 0, none⟩ = some (.int .i64 n) ∧ W2.cell? ⟨w.heap.size + 1, 1, none⟩ = some (.pointer pd) ∧ W2.cell? ⟨w.heap.size + 1, 2, none⟩ = some (.pointer ps) ∧ W2.cell? ⟨w.heap.size + 1, 3, none⟩ = some (.pointer pe) ∧ W2.cell? ⟨w.heap.size + 1, 4, none⟩ = some (.int .i64 d) ∧ W2.cell? ⟨w.heap.size + 1, 5, none⟩ = some (.pointer pl) ∧ W2.cell? ⟨w.heap.size, 0, none⟩ = some (.string p.name) ∧ W2.cell? ⟨w.heap.size, 1, none⟩ = some (.int .i64 p.width) ∧ W2.cell? ⟨w.heap.size, 2, none⟩ = some (.int .i64 p.line) ∧ W2.cell? ⟨w.heap.size, 3, none⟩ = some (.slice (some ad) p.decls.length c3) ∧ W2.cell? ⟨w.heap.size, 4, none⟩ = some (.slice A4 p.body.length c4) := by rw [← hW2]; simp [go_sem]
        go_upto_region 1 with (fail)
        rw [hW2] at BB
        try rw [hW2]
        clear hW2
        go_wp2_with (first
          | (go_at_call 57; refine (HU.out _ BB.out).mono ?_; rintro e w1 ⟨rfl, hb⟩; replace z5 := kept_cell hb z5; replace y0 := kept_cell hb y0; replace y1 := kept_cell hb y1; replace y2 := kept_cell hb y2; replace y3 := kept_cell hb y3; replace y4 := kept_cell hb y4; have B1 := Aside0.mk (below_step BB.out hb); clear hb)
          | (go_at_call 58; refine (HH.out _ B1.out).mono ?_; rintro e w2 ⟨rfl, rfl⟩)
          | (go_at_call 44; refine (HF.out _ B1.out).mono ?_; rintro e w3 ⟨rfl, hb⟩))
        go_ret
        exact ⟨rfl, below_step B1.out hb⟩
end Go.Proofs.YtjomofepephodaaGreat.PEquivShapes
