/-
  Bounds, range and names of loops. Conditions: what each theorem names.
-/
import Derived.BigQuiet
import Derived.Deep.QuietTactic
import Derived.Test.YtjomofepephodaaGreatGd
set_option linter.unusedVariables false
set_option linter.unusedSimpArgs false
namespace Go.Proofs.YtjomofepephodaaGreat.PEquivShapes
open Go.RowKit
open Go.Proofs.YtjomofepephodaaGreatW.PrintWords Go.Proofs.YtjomofepephodaaGreatW.PrintLast Go.Proofs.YtjomofepephodaaGreatW.PrintMore
set_option maxHeartbeats 1000000 in
theorem c12_any (p : PR) (A3 : Option Addr) (c3 : Nat) (A4 : Option Addr) (c4 : Nat) (t : TH) (n : Int) (pd ps pe : Option Addr) (d : Int) (pl : Option Addr) (w : World) (h : ThAt w t ps pe d) (h0w : 0 ≤ p.width) (hIw : I64 p.width) :
    Calls Tryz.prog 61 #[p.cells A3 c3 A4 c4, thV n pd ps pe d pl] w fun e w' => e = .returned (.bool (badRange p t)) ∧ Below w.heap.size w w' := by
  unfold PR.cells thV badRange
  cases t with
  | decl =>
    obtain ⟨rfl, rfl, rfl⟩ := h
    dsimp only
    obtain ⟨W2, hW2⟩ : ∃ W2, (w.alloc (.cells #[.string p.name, .int .i64 p.width, .int .i64 p.line, .slice A3 p.decls.length c3, .slice A4 p.body.length c4] 25)).alloc (.cells #[.int .i64 n, .pointer pd, .pointer none, .pointer none, .int .i64 0, .pointer pl] 95) = W2 := ⟨_, rfl⟩
    obtain ⟨z0, z1, z2, z3, z4, z5, y0, y1, y2, y3, y4⟩ : W2.cell? ⟨w.heap.size + 1, 0, none⟩ = some (.int .i64 n) ∧ W2.cell? ⟨w.heap.size + 1, 1, none⟩ = some (.pointer pd) ∧ W2.cell? ⟨w.heap.size + 1, 2, none⟩ = some (.pointer none) ∧ W2.cell? ⟨w.heap.size + 1, 3, none⟩ = some (.pointer none) ∧ W2.cell? ⟨w.heap.size + 1, 4, none⟩ = some (.int .i64 0) ∧ W2.cell? ⟨w.heap.size + 1, 5, none⟩ = some (.pointer pl) ∧ W2.cell? ⟨w.heap.size, 0, none⟩ = some (.string p.name) ∧ W2.cell? ⟨w.heap.size, 1, none⟩ = some (.int .i64 p.width) ∧ W2.cell? ⟨w.heap.size, 2, none⟩ = some (.int .i64 p.line) ∧ W2.cell? ⟨w.heap.size, 3, none⟩ = some (.slice A3 p.decls.length c3) ∧ W2.cell? ⟨w.heap.size, 4, none⟩ = some (.slice A4 p.body.length c4) := by rw [← hW2]; simp [go_sem]
    have B : Below w.heap.size w W2 := by rw [← hW2]; exact below_alloc (below_alloc (Below.refl _ _) _) _
    have BB := Aside0.mk B
    go_enter Tryz.func61, Tryz.ntmps61
    go_upto_region 1 with (fail)
    try rw [hW2]
    clear hW2 B
    go_quiet (fail)
    go_wp2_with fail
    go_ret
    exact ⟨rfl, pw_below_drewN BB.out _⟩
  | stmt st deep =>
    obtain ⟨⟨b, o, rfl, h0, h1, _, _⟩, rfl, rfl⟩ := h
    clear h0 h1
    dsimp only
    obtain ⟨W2, hW2⟩ : ∃ W2, (w.alloc (.cells #[.string p.name, .int .i64 p.width, .int .i64 p.line, .slice A3 p.decls.length c3, .slice A4 p.body.length c4] 25)).alloc (.cells #[.int .i64 n, .pointer pd, .pointer (some ⟨b, o, none⟩), .pointer none, .int .i64 d, .pointer pl] 95) = W2 := ⟨_, rfl⟩
    obtain ⟨z0, z1, z2, z3, z4, z5, y0, y1, y2, y3, y4⟩ : W2.cell? ⟨w.heap.size + 1, 0, none⟩ = some (.int .i64 n) ∧ W2.cell? ⟨w.heap.size + 1, 1, none⟩ = some (.pointer pd) ∧ W2.cell? ⟨w.heap.size + 1, 2, none⟩ = some (.pointer (some ⟨b, o, none⟩)) ∧ W2.cell? ⟨w.heap.size + 1, 3, none⟩ = some (.pointer none) ∧ W2.cell? ⟨w.heap.size + 1, 4, none⟩ = some (.int .i64 d) ∧ W2.cell? ⟨w.heap.size + 1, 5, none⟩ = some (.pointer pl) ∧ W2.cell? ⟨w.heap.size, 0, none⟩ = some (.string p.name) ∧ W2.cell? ⟨w.heap.size, 1, none⟩ = some (.int .i64 p.width) ∧ W2.cell? ⟨w.heap.size, 2, none⟩ = some (.int .i64 p.line) ∧ W2.cell? ⟨w.heap.size, 3, none⟩ = some (.slice A3 p.decls.length c3) ∧ W2.cell? ⟨w.heap.size, 4, none⟩ = some (.slice A4 p.body.length c4) := by rw [← hW2]; simp [go_sem]
    have B : Below w.heap.size w W2 := by rw [← hW2]; exact below_alloc (below_alloc (Below.refl _ _) _) _
    have BB := Aside0.mk B
    go_enter Tryz.func61, Tryz.ntmps61
    go_upto_region 1 with (fail)
    try rw [hW2]
    clear hW2 B
    go_quiet (fail)
    go_wp2_with fail
    go_ret
    exact ⟨rfl, pw_below_drewN BB.out _⟩
  | expr e =>
    obtain ⟨rfl, ⟨b, o, rfl, A, c, h0, h1, h2, h3, _, _⟩, rfl⟩ := h
    clear h2 h3
    dsimp only
    have HFf := Aside0.mk (fun W => fits_any p.width e.f1 h0w hIw W)
    clear h0w hIw
    generalize fitB p.width e.f1 = fb at *
    generalize e.f0 = k at *
    by_cases hk2 : k = 1
    · subst hk2
      obtain ⟨W2, hW2⟩ : ∃ W2, (w.alloc (.cells #[.string p.name, .int .i64 p.width, .int .i64 p.line, .slice A3 p.decls.length c3, .slice A4 p.body.length c4] 25)).alloc (.cells #[.int .i64 n, .pointer pd, .pointer none, .pointer (some ⟨b, o, none⟩), .int .i64 0, .pointer pl] 95) = W2 := ⟨_, rfl⟩
      obtain ⟨z0, z1, z2, z3, z4, z5, y0, y1, y2, y3, y4⟩ : W2.cell? ⟨w.heap.size + 1, 0, none⟩ = some (.int .i64 n) ∧ W2.cell? ⟨w.heap.size + 1, 1, none⟩ = some (.pointer pd) ∧ W2.cell? ⟨w.heap.size + 1, 2, none⟩ = some (.pointer none) ∧ W2.cell? ⟨w.heap.size + 1, 3, none⟩ = some (.pointer (some ⟨b, o, none⟩)) ∧ W2.cell? ⟨w.heap.size + 1, 4, none⟩ = some (.int .i64 0) ∧ W2.cell? ⟨w.heap.size + 1, 5, none⟩ = some (.pointer pl) ∧ W2.cell? ⟨w.heap.size, 0, none⟩ = some (.string p.name) ∧ W2.cell? ⟨w.heap.size, 1, none⟩ = some (.int .i64 p.width) ∧ W2.cell? ⟨w.heap.size, 2, none⟩ = some (.int .i64 p.line) ∧ W2.cell? ⟨w.heap.size, 3, none⟩ = some (.slice A3 p.decls.length c3) ∧ W2.cell? ⟨w.heap.size, 4, none⟩ = some (.slice A4 p.body.length c4) := by rw [← hW2]; simp [go_sem]
      have B : Below w.heap.size w W2 := by rw [← hW2]; exact below_alloc (below_alloc (Below.refl _ _) _) _
      have BB := Aside0.mk B
      replace h0 := kept_cell B h0
      replace h1 := kept_cell B h1
      go_enter Tryz.func61, Tryz.ntmps61
      go_upto_region 1 with (fail)
      try rw [hW2]
      clear hW2 B
      go_quiet ((go_at_call 50; refine Calls.quiet_of_same (HFf.out _)))
      go_wp2_with fail
      go_ret
      exact ⟨by simp, pw_below_drewN BB.out _⟩
    · have e2 : (k == 1) = false := by simpa using hk2
      have e3 : decide (k = 1) = false := decide_eq_false hk2
      rw [e3]
      clear hk2
      obtain ⟨W2, hW2⟩ : ∃ W2, (w.alloc (.cells #[.string p.name, .int .i64 p.width, .int .i64 p.line, .slice A3 p.decls.length c3, .slice A4 p.body.length c4] 25)).alloc (.cells #[.int .i64 n, .pointer pd, .pointer none, .pointer (some ⟨b, o, none⟩), .int .i64 0, .pointer pl] 95) = W2 := ⟨_, rfl⟩
      obtain ⟨z0, z1, z2, z3, z4, z5, y0, y1, y2, y3, y4⟩ : W2.cell? ⟨w.heap.size + 1, 0, none⟩ = some (.int .i64 n) ∧ W2.cell? ⟨w.heap.size + 1, 1, none⟩ = some (.pointer pd) ∧ W2.cell? ⟨w.heap.size + 1, 2, none⟩ = some (.pointer none) ∧ W2.cell? ⟨w.heap.size + 1, 3, none⟩ = some (.pointer (some ⟨b, o, none⟩)) ∧ W2.cell? ⟨w.heap.size + 1, 4, none⟩ = some (.int .i64 0) ∧ W2.cell? ⟨w.heap.size + 1, 5, none⟩ = some (.pointer pl) ∧ W2.cell? ⟨w.heap.size, 0, none⟩ = some (.string p.name) ∧ W2.cell? ⟨w.heap.size, 1, none⟩ = some (.int .i64 p.width) ∧ W2.cell? ⟨w.heap.size, 2, none⟩ = some (.int .i64 p.line) ∧ W2.cell? ⟨w.heap.size, 3, none⟩ = some (.slice A3 p.decls.length c3) ∧ W2.cell? ⟨w.heap.size, 4, none⟩ = some (.slice A4 p.body.length c4) := by rw [← hW2]; simp [go_sem]
      have B : Below w.heap.size w W2 := by rw [← hW2]; exact below_alloc (below_alloc (Below.refl _ _) _) _
      have BB := Aside0.mk B
      replace h0 := kept_cell B h0
      replace h1 := kept_cell B h1
      go_enter Tryz.func61, Tryz.ntmps61
      go_upto_region 1 with (fail)
      try rw [hW2]
      clear hW2 B
      go_quiet (fail)
      go_wp2_with fail
      go_ret
      exact ⟨rfl, pw_below_drewN BB.out _⟩
/-- clause 14 -/
def badBounds (p : PR) : TH → Bool
  | .stmt s _ => decide (s.f0 = 4) && (decide (s.f5 < s.f4) || decide (p.width < 64) && decide (shl .u64 1 p.width < s.f5))
  | _ => false
set_option maxHeartbeats 1000000 in
theorem c13_any (p : PR) (A3 : Option Addr) (c3 : Nat) (A4 : Option Addr) (c4 : Nat) (t : TH) (n : Int) (pd ps pe : Option Addr) (d : Int) (pl : Option Addr) (w : World) (h : ThAt w t ps pe d) (h0w : 0 ≤ p.width) (hIw : I64 p.width) :
    Calls Tryz.prog 62 #[p.cells A3 c3 A4 c4, thV n pd ps pe d pl] w fun e w' => e = .returned (.bool (badBounds p t)) ∧ Below w.heap.size w w' := by
  unfold PR.cells thV badBounds
  generalize p.width = wd at *
  cases t with
  | decl =>
    obtain ⟨rfl, rfl, rfl⟩ := h
    dsimp only
    obtain ⟨W2, hW2⟩ : ∃ W2, (w.alloc (.cells #[.string p.name, .int .i64 wd, .int .i64 p.line, .slice A3 p.decls.length c3, .slice A4 p.body.length c4] 25)).alloc (.cells #[.int .i64 n, .pointer pd, .pointer none, .pointer none, .int .i64 0, .pointer pl] 95) = W2 := ⟨_, rfl⟩
    obtain ⟨z0, z1, z2, z3, z4, z5, y0, y1, y2, y3, y4⟩ : W2.cell? ⟨w.heap.size + 1, 0, none⟩ = some (.int .i64 n) ∧ W2.cell? ⟨w.heap.size + 1, 1, none⟩ = some (.pointer pd) ∧ W2.cell? ⟨w.heap.size + 1, 2, none⟩ = some (.pointer none) ∧ W2.cell? ⟨w.heap.size + 1, 3, none⟩ = some (.pointer none) ∧ W2.cell? ⟨w.heap.size + 1, 4, none⟩ = some (.int .i64 0) ∧ W2.cell? ⟨w.heap.size + 1, 5, none⟩ = some (.pointer pl) ∧ W2.cell? ⟨w.heap.size, 0, none⟩ = some (.string p.name) ∧ W2.cell? ⟨w.heap.size, 1, none⟩ = some (.int .i64 wd) ∧ W2.cell? ⟨w.heap.size, 2, none⟩ = some (.int .i64 p.line) ∧ W2.cell? ⟨w.heap.size, 3, none⟩ = some (.slice A3 p.decls.length c3) ∧ W2.cell? ⟨w.heap.size, 4, none⟩ = some (.slice A4 p.body.length c4) := by rw [← hW2]; simp [go_sem]
    have B : Below w.heap.size w W2 := by rw [← hW2]; exact below_alloc (below_alloc (Below.refl _ _) _) _
    have BB := Aside0.mk B
    go_enter Tryz.func62, Tryz.ntmps62
    go_upto_region 1 with (fail)
    try rw [hW2]
    clear hW2 B
    go_quiet (fail)
    go_wp2_with fail
    go_ret
    exact ⟨rfl, pw_below_drewN BB.out _⟩
  | expr e =>
    obtain ⟨rfl, ⟨b, o, rfl, A, c, h0, h1, h2, h3, _, _⟩, rfl⟩ := h
    clear h0 h1 h2 h3
    dsimp only
    obtain ⟨W2, hW2⟩ : ∃ W2, (w.alloc (.cells #[.string p.name, .int .i64 wd, .int .i64 p.line, .slice A3 p.decls.length c3, .slice A4 p.body.length c4] 25)).alloc (.cells #[.int .i64 n, .pointer pd, .pointer none, .pointer (some ⟨b, o, none⟩), .int .i64 0, .pointer pl] 95) = W2 := ⟨_, rfl⟩
    obtain ⟨z0, z1, z2, z3, z4, z5, y0, y1, y2, y3, y4⟩ : W2.cell? ⟨w.heap.size + 1, 0, none⟩ = some (.int .i64 n) ∧ W2.cell? ⟨w.heap.size + 1, 1, none⟩ = some (.pointer pd) ∧ W2.cell? ⟨w.heap.size + 1, 2, none⟩ = some (.pointer none) ∧ W2.cell? ⟨w.heap.size + 1, 3, none⟩ = some (.pointer (some ⟨b, o, none⟩)) ∧ W2.cell? ⟨w.heap.size + 1, 4, none⟩ = some (.int .i64 0) ∧ W2.cell? ⟨w.heap.size + 1, 5, none⟩ = some (.pointer pl) ∧ W2.cell? ⟨w.heap.size, 0, none⟩ = some (.string p.name) ∧ W2.cell? ⟨w.heap.size, 1, none⟩ = some (.int .i64 wd) ∧ W2.cell? ⟨w.heap.size, 2, none⟩ = some (.int .i64 p.line) ∧ W2.cell? ⟨w.heap.size, 3, none⟩ = some (.slice A3 p.decls.length c3) ∧ W2.cell? ⟨w.heap.size, 4, none⟩ = some (.slice A4 p.body.length c4) := by rw [← hW2]; simp [go_sem]
    have B : Below w.heap.size w W2 := by rw [← hW2]; exact below_alloc (below_alloc (Below.refl _ _) _) _
    have BB := Aside0.mk B
    go_enter Tryz.func62, Tryz.ntmps62
    go_upto_region 1 with (fail)
    try rw [hW2]
    clear hW2 B
    go_quiet (fail)
    go_wp2_with fail
    go_ret
    exact ⟨rfl, pw_below_drewN BB.out _⟩
  | stmt st deep =>
    obtain ⟨⟨b, o, rfl, h0, h1, h4, h5⟩, rfl, rfl⟩ := h
    clear h1
    dsimp only
    generalize st.f0 = k at *
    generalize st.f4 = lo at *
    generalize st.f5 = hi at *
    by_cases hk2 : k = 4
    · subst hk2
      by_cases hlo : hi < lo
      · rw [decide_eq_true hlo]
        obtain ⟨W2, hW2⟩ : ∃ W2, (w.alloc (.cells #[.string p.name, .int .i64 wd, .int .i64 p.line, .slice A3 p.decls.length c3, .slice A4 p.body.length c4] 25)).alloc (.cells #[.int .i64 n, .pointer pd, .pointer (some ⟨b, o, none⟩), .pointer none, .int .i64 d, .pointer pl] 95) = W2 := ⟨_, rfl⟩
        obtain ⟨z0, z1, z2, z3, z4, z5, y0, y1, y2, y3, y4⟩ : W2.cell? ⟨w.heap.size + 1, 0, none⟩ = some (.int .i64 n) ∧ W2.cell? ⟨w.heap.size + 1, 1, none⟩ = some (.pointer pd) ∧ W2.cell? ⟨w.heap.size + 1, 2, none⟩ = some (.pointer (some ⟨b, o, none⟩)) ∧ W2.cell? ⟨w.heap.size + 1, 3, none⟩ = some (.pointer none) ∧ W2.cell? ⟨w.heap.size + 1, 4, none⟩ = some (.int .i64 d) ∧ W2.cell? ⟨w.heap.size + 1, 5, none⟩ = some (.pointer pl) ∧ W2.cell? ⟨w.heap.size, 0, none⟩ = some (.string p.name) ∧ W2.cell? ⟨w.heap.size, 1, none⟩ = some (.int .i64 wd) ∧ W2.cell? ⟨w.heap.size, 2, none⟩ = some (.int .i64 p.line) ∧ W2.cell? ⟨w.heap.size, 3, none⟩ = some (.slice A3 p.decls.length c3) ∧ W2.cell? ⟨w.heap.size, 4, none⟩ = some (.slice A4 p.body.length c4) := by rw [← hW2]; simp [go_sem]
        have B : Below w.heap.size w W2 := by rw [← hW2]; exact below_alloc (below_alloc (Below.refl _ _) _) _
        have BB := Aside0.mk B
        replace h0 := kept_cell B h0
        replace h4 := kept_cell B h4
        replace h5 := kept_cell B h5
        go_enter Tryz.func62, Tryz.ntmps62
        go_upto_region 1 with (fail)
        try rw [hW2]
        clear hW2 B
        go_quiet (fail)
        go_wp2_with fail
        go_ret
        exact ⟨rfl, pw_below_drewN BB.out _⟩
      · rw [decide_eq_false hlo]
        have hlo' : decide (lo > hi) = false := decide_eq_false hlo
        clear hlo
        by_cases hw : wd < 64
        · rw [decide_eq_true hw]
          have hsh : IntKind.u64.wrap wd = wd := by
            have e1 : IntKind.u64.wrap wd = wd % 18446744073709551616 := rfl
            rw [e1]; omega
          obtain ⟨j, hj⟩ : ∃ j : Int, shl .u64 1 wd = j := ⟨_, rfl⟩
          rw [hj]
          have hj_ : IntKind.u64.wrap (1 * 2 ^ min wd.toNat 64) = j := hj
          have hjz : IntKind.u64.wrap (1 * 2 ^ wd.toNat) = j := shl_small hj (by show wd ≤ 64; omega)
          have hju : IntKind.u64.wrap (2 ^ min wd.toNat 64) = j := by have h_ := hj_; rw [Int.one_mul] at h_; exact h_
          have hjv : IntKind.u64.wrap (2 ^ wd.toNat) = j := by have h_ := hjz; rw [Int.one_mul] at h_; exact h_
          clear hIw hj
          obtain ⟨W2, hW2⟩ : ∃ W2, (w.alloc (.cells #[.string p.name, .int .i64 wd, .int .i64 p.line, .slice A3 p.decls.length c3, .slice A4 p.body.length c4] 25)).alloc (.cells #[.int .i64 n, .pointer pd, .pointer (some ⟨b, o, none⟩), .pointer none, .int .i64 d, .pointer pl] 95) = W2 := ⟨_, rfl⟩
          obtain ⟨z0, z1, z2, z3, z4, z5, y0, y1, y2, y3, y4⟩ : W2.cell? ⟨w.heap.size + 1, 0, none⟩ = some (.int .i64 n) ∧ W2.cell? ⟨w.heap.size + 1, 1, none⟩ = some (.pointer pd) ∧ W2.cell? ⟨w.heap.size + 1, 2, none⟩ = some (.pointer (some ⟨b, o, none⟩)) ∧ W2.cell? ⟨w.heap.size + 1, 3, none⟩ = some (.pointer none) ∧ W2.cell? ⟨w.heap.size + 1, 4, none⟩ = some (.int .i64 d) ∧ W2.cell? ⟨w.heap.size + 1, 5, none⟩ = some (.pointer pl) ∧ W2.cell? ⟨w.heap.size, 0, none⟩ = some (.string p.name) ∧ W2.cell? ⟨w.heap.size, 1, none⟩ = some (.int .i64 wd) ∧ W2.cell? ⟨w.heap.size, 2, none⟩ = some (.int .i64 p.line) ∧ W2.cell? ⟨w.heap.size, 3, none⟩ = some (.slice A3 p.decls.length c3) ∧ W2.cell? ⟨w.heap.size, 4, none⟩ = some (.slice A4 p.body.length c4) := by rw [← hW2]; simp [go_sem]
          have B : Below w.heap.size w W2 := by rw [← hW2]; exact below_alloc (below_alloc (Below.refl _ _) _) _
          have BB := Aside0.mk B
          replace h0 := kept_cell B h0
          replace h4 := kept_cell B h4
          replace h5 := kept_cell B h5
          go_enter Tryz.func62, Tryz.ntmps62
          go_upto_region 1 with (fail)
          try rw [hW2]
          clear hW2 B
          go_quiet (fail)
          go_wp2_with fail
          go_ret
          exact ⟨rfl, pw_below_drewN BB.out _⟩
        · rw [decide_eq_false hw]
          have hw' : decide (wd < 64) = false := decide_eq_false hw
          clear hw
          obtain ⟨W2, hW2⟩ : ∃ W2, (w.alloc (.cells #[.string p.name, .int .i64 wd, .int .i64 p.line, .slice A3 p.decls.length c3, .slice A4 p.body.length c4] 25)).alloc (.cells #[.int .i64 n, .pointer pd, .pointer (some ⟨b, o, none⟩), .pointer none, .int .i64 d, .pointer pl] 95) = W2 := ⟨_, rfl⟩
          obtain ⟨z0, z1, z2, z3, z4, z5, y0, y1, y2, y3, y4⟩ : W2.cell? ⟨w.heap.size + 1, 0, none⟩ = some (.int .i64 n) ∧ W2.cell? ⟨w.heap.size + 1, 1, none⟩ = some (.pointer pd) ∧ W2.cell? ⟨w.heap.size + 1, 2, none⟩ = some (.pointer (some ⟨b, o, none⟩)) ∧ W2.cell? ⟨w.heap.size + 1, 3, none⟩ = some (.pointer none) ∧ W2.cell? ⟨w.heap.size + 1, 4, none⟩ = some (.int .i64 d) ∧ W2.cell? ⟨w.heap.size + 1, 5, none⟩ = some (.pointer pl) ∧ W2.cell? ⟨w.heap.size, 0, none⟩ = some (.string p.name) ∧ W2.cell? ⟨w.heap.size, 1, none⟩ = some (.int .i64 wd) ∧ W2.cell? ⟨w.heap.size, 2, none⟩ = some (.int .i64 p.line) ∧ W2.cell? ⟨w.heap.size, 3, none⟩ = some (.slice A3 p.decls.length c3) ∧ W2.cell? ⟨w.heap.size, 4, none⟩ = some (.slice A4 p.body.length c4) := by rw [← hW2]; simp [go_sem]
          have B : Below w.heap.size w W2 := by rw [← hW2]; exact below_alloc (below_alloc (Below.refl _ _) _) _
          have BB := Aside0.mk B
          replace h0 := kept_cell B h0
          replace h4 := kept_cell B h4
          replace h5 := kept_cell B h5
          go_enter Tryz.func62, Tryz.ntmps62
          go_upto_region 1 with (fail)
          try rw [hW2]
          clear hW2 B
          go_quiet (fail)
          go_wp2_with fail
          go_ret
          exact ⟨rfl, pw_below_drewN BB.out _⟩
    · have e2 : (k == 4) = false := by simpa using hk2
      have e3 : decide (k = 4) = false := decide_eq_false hk2
      rw [e3]
      clear hk2
      obtain ⟨W2, hW2⟩ : ∃ W2, (w.alloc (.cells #[.string p.name, .int .i64 wd, .int .i64 p.line, .slice A3 p.decls.length c3, .slice A4 p.body.length c4] 25)).alloc (.cells #[.int .i64 n, .pointer pd, .pointer (some ⟨b, o, none⟩), .pointer none, .int .i64 d, .pointer pl] 95) = W2 := ⟨_, rfl⟩
      obtain ⟨z0, z1, z2, z3, z4, z5, y0, y1, y2, y3, y4⟩ : W2.cell? ⟨w.heap.size + 1, 0, none⟩ = some (.int .i64 n) ∧ W2.cell? ⟨w.heap.size + 1, 1, none⟩ = some (.pointer pd) ∧ W2.cell? ⟨w.heap.size + 1, 2, none⟩ = some (.pointer (some ⟨b, o, none⟩)) ∧ W2.cell? ⟨w.heap.size + 1, 3, none⟩ = some (.pointer none) ∧ W2.cell? ⟨w.heap.size + 1, 4, none⟩ = some (.int .i64 d) ∧ W2.cell? ⟨w.heap.size + 1, 5, none⟩ = some (.pointer pl) ∧ W2.cell? ⟨w.heap.size, 0, none⟩ = some (.string p.name) ∧ W2.cell? ⟨w.heap.size, 1, none⟩ = some (.int .i64 wd) ∧ W2.cell? ⟨w.heap.size, 2, none⟩ = some (.int .i64 p.line) ∧ W2.cell? ⟨w.heap.size, 3, none⟩ = some (.slice A3 p.decls.length c3) ∧ W2.cell? ⟨w.heap.size, 4, none⟩ = some (.slice A4 p.body.length c4) := by rw [← hW2]; simp [go_sem]
      have B : Below w.heap.size w W2 := by rw [← hW2]; exact below_alloc (below_alloc (Below.refl _ _) _) _
      have BB := Aside0.mk B
      replace h0 := kept_cell B h0
      replace h4 := kept_cell B h4
      replace h5 := kept_cell B h5
      go_enter Tryz.func62, Tryz.ntmps62
      go_upto_region 1 with (fail)
      try rw [hW2]
      clear hW2 B
      go_quiet (fail)
      go_wp2_with fail
      go_ret
      exact ⟨rfl, pw_below_drewN BB.out _⟩
end Go.Proofs.YtjomofepephodaaGreat.PEquivShapes
namespace Go.Proofs.YtjomofepephodaaGreat.PEquivShapes
open Go.RowKit
open Go.Proofs.YtjomofepephodaaGreatW.PrintWords Go.Proofs.YtjomofepephodaaGreatW.PrintLast Go.Proofs.YtjomofepephodaaGreatW.PrintMore
/-- clause 15 -/
def badLoop (p : PR) (t : TH) (ls : List ByteArray) : Bool :=
  match t with
  | .stmt s _ => decide (s.f0 = 4) && (hasB ls s.f1 || (findI p.decls s.f1).isSome)
  | _ => false
set_option maxHeartbeats 2000000 in
theorem c14_any (p : PR) (A3 : Option Addr) (c3 : Nat) (A4 : Option Addr) (c4 : Nat) (t : TH) (ls : List ByteArray) (n : Int) (pd ps pe : Option Addr) (d : Int) (pl : Option Addr) (w : World) (hp : p.At w A3 c3 A4 c4) (h : ThAt w t ps pe d) (hl : ScAt w pl ls) :
    Calls Tryz.prog 63 #[p.cells A3 c3 A4 c4, thV n pd ps pe d pl] w fun e w' => e = .returned (.bool (badLoop p t ls)) ∧ Below w.heap.size w w' := by
  unfold PR.cells thV badLoop
  cases t with
  | decl =>
    obtain ⟨rfl, rfl, rfl⟩ := h
    dsimp only
    obtain ⟨W2, hW2⟩ : ∃ W2, (w.alloc (.cells #[.string p.name, .int .i64 p.width, .int .i64 p.line, .slice A3 p.decls.length c3, .slice A4 p.body.length c4] 25)).alloc (.cells #[.int .i64 n, .pointer pd, .pointer none, .pointer none, .int .i64 0, .pointer pl] 95) = W2 := ⟨_, rfl⟩
    obtain ⟨z0, z1, z2, z3, z4, z5, y0, y1, y2, y3, y4⟩ : W2.cell? ⟨w.heap.size + 1, 0, none⟩ = some (.int .i64 n) ∧ W2.cell? ⟨w.heap.size + 1, 1, none⟩ = some (.pointer pd) ∧ W2.cell? ⟨w.heap.size + 1, 2, none⟩ = some (.pointer none) ∧ W2.cell? ⟨w.heap.size + 1, 3, none⟩ = some (.pointer none) ∧ W2.cell? ⟨w.heap.size + 1, 4, none⟩ = some (.int .i64 0) ∧ W2.cell? ⟨w.heap.size + 1, 5, none⟩ = some (.pointer pl) ∧ W2.cell? ⟨w.heap.size, 0, none⟩ = some (.string p.name) ∧ W2.cell? ⟨w.heap.size, 1, none⟩ = some (.int .i64 p.width) ∧ W2.cell? ⟨w.heap.size, 2, none⟩ = some (.int .i64 p.line) ∧ W2.cell? ⟨w.heap.size, 3, none⟩ = some (.slice A3 p.decls.length c3) ∧ W2.cell? ⟨w.heap.size, 4, none⟩ = some (.slice A4 p.body.length c4) := by rw [← hW2]; simp [go_sem]
    have B : Below w.heap.size w W2 := by rw [← hW2]; exact below_alloc (below_alloc (Below.refl _ _) _) _
    have BB := Aside0.mk B
    go_enter Tryz.func63, Tryz.ntmps63
    go_upto_region 1 with (fail)
    try rw [hW2]
    clear hW2 B
    go_quiet (fail)
    go_wp2_with fail
    go_ret
    exact ⟨rfl, pw_below_drewN BB.out _⟩
  | expr e =>
    obtain ⟨rfl, ⟨b, o, rfl, A, c, h0, h1, h2, h3, _, _⟩, rfl⟩ := h
    clear h0 h1 h2 h3
    dsimp only
    obtain ⟨W2, hW2⟩ : ∃ W2, (w.alloc (.cells #[.string p.name, .int .i64 p.width, .int .i64 p.line, .slice A3 p.decls.length c3, .slice A4 p.body.length c4] 25)).alloc (.cells #[.int .i64 n, .pointer pd, .pointer none, .pointer (some ⟨b, o, none⟩), .int .i64 0, .pointer pl] 95) = W2 := ⟨_, rfl⟩
    obtain ⟨z0, z1, z2, z3, z4, z5, y0, y1, y2, y3, y4⟩ : W2.cell? ⟨w.heap.size + 1, 0, none⟩ = some (.int .i64 n) ∧ W2.cell? ⟨w.heap.size + 1, 1, none⟩ = some (.pointer pd) ∧ W2.cell? ⟨w.heap.size + 1, 2, none⟩ = some (.pointer none) ∧ W2.cell? ⟨w.heap.size + 1, 3, none⟩ = some (.pointer (some ⟨b, o, none⟩)) ∧ W2.cell? ⟨w.heap.size + 1, 4, none⟩ = some (.int .i64 0) ∧ W2.cell? ⟨w.heap.size + 1, 5, none⟩ = some (.pointer pl) ∧ W2.cell? ⟨w.heap.size, 0, none⟩ = some (.string p.name) ∧ W2.cell? ⟨w.heap.size, 1, none⟩ = some (.int .i64 p.width) ∧ W2.cell? ⟨w.heap.size, 2, none⟩ = some (.int .i64 p.line) ∧ W2.cell? ⟨w.heap.size, 3, none⟩ = some (.slice A3 p.decls.length c3) ∧ W2.cell? ⟨w.heap.size, 4, none⟩ = some (.slice A4 p.body.length c4) := by rw [← hW2]; simp [go_sem]
    have B : Below w.heap.size w W2 := by rw [← hW2]; exact below_alloc (below_alloc (Below.refl _ _) _) _
    have BB := Aside0.mk B
    go_enter Tryz.func63, Tryz.ntmps63
    go_upto_region 1 with (fail)
    try rw [hW2]
    clear hW2 B
    go_quiet (fail)
    go_wp2_with fail
    go_ret
    exact ⟨rfl, pw_below_drewN BB.out _⟩
  | stmt st deep =>
    obtain ⟨⟨b, o, rfl, h0, h1, _, _⟩, rfl, rfl⟩ := h
    dsimp only
    have HH : Aside0 (∀ W, Below w.heap.size w W → Calls Tryz.prog 58 #[.pointer pl, .string st.f1] W fun e w' => e = .returned (.bool (hasB ls st.f1)) ∧ w' = W) := ⟨fun W hW => has_any pl ls st.f1 W (ScAt_below hl hW)⟩
    have HF : Aside0 (∀ W, Below w.heap.size w W → Calls Tryz.prog 44 #[.agg #[.string p.name, .int .i64 p.width, .int .i64 p.line, .slice A3 p.decls.length c3, .slice A4 p.body.length c4], .string st.f1] W fun e w' => e = .returned (.pointer ((findI p.decls st.f1).bind fun i => A3.map fun a => a.add (i * 4))) ∧ Below W.heap.size W w') := ⟨fun W hW => find_any p A3 c3 A4 c4 st.f1 W (At_below hp hW)⟩
    have HP : Aside0 (∀ i, findI p.decls st.f1 = some i → ∃ ad, A3 = some ad) := ⟨fun i hi => At_ptr hp (findI_lt hi)⟩
    clear hp hl
    generalize st.f0 = k at *
    generalize st.f1 = s at *
    generalize hasB ls s = hv at *
    generalize findI p.decls s = f at *
    by_cases hk2 : k = 4
    · subst hk2
      cases hv with
      | true =>
        obtain ⟨W2, hW2⟩ : ∃ W2, (w.alloc (.cells #[.string p.name, .int .i64 p.width, .int .i64 p.line, .slice A3 p.decls.length c3, .slice A4 p.body.length c4] 25)).alloc (.cells #[.int .i64 n, .pointer pd, .pointer (some ⟨b, o, none⟩), .pointer none, .int .i64 d, .pointer pl] 95) = W2 := ⟨_, rfl⟩
        obtain ⟨z0, z1, z2, z3, z4, z5, y0, y1, y2, y3, y4⟩ : W2.cell? ⟨w.heap.size + 1, 0, none⟩ = some (.int .i64 n) ∧ W2.cell? ⟨w.heap.size + 1, 1, none⟩ = some (.pointer pd) ∧ W2.cell? ⟨w.heap.size + 1, 2, none⟩ = some (.pointer (some ⟨b, o, none⟩)) ∧ W2.cell? ⟨w.heap.size + 1, 3, none⟩ = some (.pointer none) ∧ W2.cell? ⟨w.heap.size + 1, 4, none⟩ = some (.int .i64 d) ∧ W2.cell? ⟨w.heap.size + 1, 5, none⟩ = some (.pointer pl) ∧ W2.cell? ⟨w.heap.size, 0, none⟩ = some (.string p.name) ∧ W2.cell? ⟨w.heap.size, 1, none⟩ = some (.int .i64 p.width) ∧ W2.cell? ⟨w.heap.size, 2, none⟩ = some (.int .i64 p.line) ∧ W2.cell? ⟨w.heap.size, 3, none⟩ = some (.slice A3 p.decls.length c3) ∧ W2.cell? ⟨w.heap.size, 4, none⟩ = some (.slice A4 p.body.length c4) := by rw [← hW2]; simp [go_sem]
        have B : Below w.heap.size w W2 := by rw [← hW2]; exact below_alloc (below_alloc (Below.refl _ _) _) _
        have BB := Aside0.mk B
        replace h0 := kept_cell B h0
        replace h1 := kept_cell B h1
        go_enter Tryz.func63, Tryz.ntmps63
        go_upto_region 1 with (fail)
        try rw [hW2]
        clear hW2 B
        go_quiet ((go_at_call 58; refine Calls.quiet_of_same (HH.out _ (pw_below_drewN BB.out _))))
        go_wp2_with fail
        go_ret
        exact ⟨by simp, pw_below_drewN BB.out _⟩
      | false =>
        cases f with
        | none =>
          obtain ⟨W2, hW2⟩ : ∃ W2, (w.alloc (.cells #[.string p.name, .int .i64 p.width, .int .i64 p.line, .slice A3 p.decls.length c3, .slice A4 p.body.length c4] 25)).alloc (.cells #[.int .i64 n, .pointer pd, .pointer (some ⟨b, o, none⟩), .pointer none, .int .i64 d, .pointer pl] 95) = W2 := ⟨_, rfl⟩
          obtain ⟨z0, z1, z2, z3, z4, z5, y0, y1, y2, y3, y4⟩ : W2.cell? ⟨w.heap.size + 1, 0, none⟩ = some (.int .i64 n) ∧ W2.cell? ⟨w.heap.size + 1, 1, none⟩ = some (.pointer pd) ∧ W2.cell? ⟨w.heap.size + 1, 2, none⟩ = some (.pointer (some ⟨b, o, none⟩)) ∧ W2.cell? ⟨w.heap.size + 1, 3, none⟩ = some (.pointer none) ∧ W2.cell? ⟨w.heap.size + 1, 4, none⟩ = some (.int .i64 d) ∧ W2.cell? ⟨w.heap.size + 1, 5, none⟩ = some (.pointer pl) ∧ W2.cell? ⟨w.heap.size, 0, none⟩ = some (.string p.name) ∧ W2.cell? ⟨w.heap.size, 1, none⟩ = some (.int .i64 p.width) ∧ W2.cell? ⟨w.heap.size, 2, none⟩ = some (.int .i64 p.line) ∧ W2.cell? ⟨w.heap.size, 3, none⟩ = some (.slice A3 p.decls.length c3) ∧ W2.cell? ⟨w.heap.size, 4, none⟩ = some (.slice A4 p.body.length c4) := by rw [← hW2]; simp [go_sem]
          have B : Below w.heap.size w W2 := by rw [← hW2]; exact below_alloc (below_alloc (Below.refl _ _) _) _
          have BB := Aside0.mk B
          replace h0 := kept_cell B h0
          replace h1 := kept_cell B h1
          go_enter Tryz.func63, Tryz.ntmps63
          go_upto_region 1 with (fail)
          try rw [hW2]
          clear hW2 B
          have HK := Aside0.mk (show ∀ w', Below W2.heap.size W2 w' → w'.cell? ⟨w.heap.size + 1, 2, none⟩ = some (.pointer (some ⟨b, o, none⟩)) ∧ w'.cell? ⟨w.heap.size + 1, 5, none⟩ = some (.pointer pl) ∧ w'.cell? ⟨w.heap.size, 0, none⟩ = some (.string p.name) ∧ w'.cell? ⟨w.heap.size, 1, none⟩ = some (.int .i64 p.width) ∧ w'.cell? ⟨w.heap.size, 2, none⟩ = some (.int .i64 p.line) ∧ w'.cell? ⟨w.heap.size, 3, none⟩ = some (.slice A3 p.decls.length c3) ∧ w'.cell? ⟨w.heap.size, 4, none⟩ = some (.slice A4 p.body.length c4) ∧ w'.cell? ⟨b, o, none⟩ = some (.int .i64 4) ∧ w'.cell? ⟨b, o + 1, none⟩ = some (.string s) from fun w' hb => ⟨kept_cell hb z2, kept_cell hb z5, kept_cell hb y0, kept_cell hb y1, kept_cell hb y2, kept_cell hb y3, kept_cell hb y4, kept_cell hb h0, kept_cell hb h1⟩)
          have C2 := Aside0.mk (Below.refl W2.heap.size W2)
          have T5 := Aside0.mk trivial
          have hS0 := HK.out W2 C2.out
          clear z0 z1 z2 z3 z4 z5 y0 y1 y2 y3 y4 h0 h1
          go_region_held3 (fun w' => w'.cell? ⟨w.heap.size + 1, 2, none⟩ = some (.pointer (some ⟨b, o, none⟩)) ∧ w'.cell? ⟨w.heap.size + 1, 5, none⟩ = some (.pointer pl) ∧ w'.cell? ⟨w.heap.size, 0, none⟩ = some (.string p.name) ∧ w'.cell? ⟨w.heap.size, 1, none⟩ = some (.int .i64 p.width) ∧ w'.cell? ⟨w.heap.size, 2, none⟩ = some (.int .i64 p.line) ∧ w'.cell? ⟨w.heap.size, 3, none⟩ = some (.slice A3 p.decls.length c3) ∧ w'.cell? ⟨w.heap.size, 4, none⟩ = some (.slice A4 p.body.length c4) ∧ w'.cell? ⟨b, o, none⟩ = some (.int .i64 4) ∧ w'.cell? ⟨b, o + 1, none⟩ = some (.string s))
            (first | exact hS0 | (refine HK.out _ ?_; (repeat (first | (with_reducible first | exact C5.out | apply below_alloc | apply pw_below_drewN | apply below_drew1) | exact C5.out)); done) | (refine HK.out _ ?_; (repeat (first | (with_reducible first | exact C2.out | apply below_alloc | apply pw_below_drewN | apply below_drew1) | exact C2.out)); done))
            (first
              | (go_at_call 58; refine (HH.out _ (by first | exact B5.out | ((repeat (first | (with_reducible first | exact B5.out | apply below_alloc | apply pw_below_drewN | apply below_drew1) | exact B5.out)); done) | ((repeat (first | (with_reducible first | exact BB.out | apply below_alloc | apply pw_below_drewN | apply below_drew1) | exact BB.out)); done))).mono ?_; rintro x' w4 ⟨rfl, rfl⟩)
              | (clear T5; go_at_call 44; refine (HF.out _ (by (repeat (first | (with_reducible first | exact BB.out | apply below_alloc | apply pw_below_drewN | apply below_drew1) | exact BB.out)))).mono ?_; rintro x' w5 ⟨rfl, hb⟩; have B5 := Aside0.mk (below_step (by (repeat (first | (with_reducible first | exact BB.out | apply below_alloc | apply pw_below_drewN | apply below_drew1) | exact BB.out))) hb); have C5 := Aside0.mk (below_step (by (repeat (first | (with_reducible first | exact C2.out | apply below_alloc | apply pw_below_drewN | apply below_drew1) | exact C2.out))) hb); clear hb))
          go_wp2_with fail
          go_ret
          exact ⟨rfl, B5.out⟩
        | some i =>
          obtain ⟨ad, rfl⟩ := HP.out i rfl
          obtain ⟨W2, hW2⟩ : ∃ W2, (w.alloc (.cells #[.string p.name, .int .i64 p.width, .int .i64 p.line, .slice (some ad) p.decls.length c3, .slice A4 p.body.length c4] 25)).alloc (.cells #[.int .i64 n, .pointer pd, .pointer (some ⟨b, o, none⟩), .pointer none, .int .i64 d, .pointer pl] 95) = W2 := ⟨_, rfl⟩
          obtain ⟨z0, z1, z2, z3, z4, z5, y0, y1, y2, y3, y4⟩ : W2.cell? ⟨w.heap.size + 1, 0, none⟩ = some (.int .i64 n) ∧ W2.cell? ⟨w.heap.size + 1, 1, none⟩ = some (.pointer pd) ∧ W2.cell? ⟨w.heap.size + 1, 2, none⟩ = some (.pointer (some ⟨b, o, none⟩)) ∧ W2.cell? ⟨w.heap.size + 1, 3, none⟩ = some (.pointer none) ∧ W2.cell? ⟨w.heap.size + 1, 4, none⟩ = some (.int .i64 d) ∧ W2.cell? ⟨w.heap.size + 1, 5, none⟩ = some (.pointer pl) ∧ W2.cell? ⟨w.heap.size, 0, none⟩ = some (.string p.name) ∧ W2.cell? ⟨w.heap.size, 1, none⟩ = some (.int .i64 p.width) ∧ W2.cell? ⟨w.heap.size, 2, none⟩ = some (.int .i64 p.line) ∧ W2.cell? ⟨w.heap.size, 3, none⟩ = some (.slice (some ad) p.decls.length c3) ∧ W2.cell? ⟨w.heap.size, 4, none⟩ = some (.slice A4 p.body.length c4) := by rw [← hW2]; simp [go_sem]
          have B : Below w.heap.size w W2 := by rw [← hW2]; exact below_alloc (below_alloc (Below.refl _ _) _) _
          have BB := Aside0.mk B
          replace h0 := kept_cell B h0
          replace h1 := kept_cell B h1
          go_enter Tryz.func63, Tryz.ntmps63
          go_upto_region 1 with (fail)
          try rw [hW2]
          clear hW2 B
          have HK := Aside0.mk (show ∀ w', Below W2.heap.size W2 w' → w'.cell? ⟨w.heap.size + 1, 2, none⟩ = some (.pointer (some ⟨b, o, none⟩)) ∧ w'.cell? ⟨w.heap.size + 1, 5, none⟩ = some (.pointer pl) ∧ w'.cell? ⟨w.heap.size, 0, none⟩ = some (.string p.name) ∧ w'.cell? ⟨w.heap.size, 1, none⟩ = some (.int .i64 p.width) ∧ w'.cell? ⟨w.heap.size, 2, none⟩ = some (.int .i64 p.line) ∧ w'.cell? ⟨w.heap.size, 3, none⟩ = some (.slice (some ad) p.decls.length c3) ∧ w'.cell? ⟨w.heap.size, 4, none⟩ = some (.slice A4 p.body.length c4) ∧ w'.cell? ⟨b, o, none⟩ = some (.int .i64 4) ∧ w'.cell? ⟨b, o + 1, none⟩ = some (.string s) from fun w' hb => ⟨kept_cell hb z2, kept_cell hb z5, kept_cell hb y0, kept_cell hb y1, kept_cell hb y2, kept_cell hb y3, kept_cell hb y4, kept_cell hb h0, kept_cell hb h1⟩)
          have C2 := Aside0.mk (Below.refl W2.heap.size W2)
          have T5 := Aside0.mk trivial
          have hS0 := HK.out W2 C2.out
          clear z0 z1 z2 z3 z4 z5 y0 y1 y2 y3 y4 h0 h1
          go_region_held3 (fun w' => w'.cell? ⟨w.heap.size + 1, 2, none⟩ = some (.pointer (some ⟨b, o, none⟩)) ∧ w'.cell? ⟨w.heap.size + 1, 5, none⟩ = some (.pointer pl) ∧ w'.cell? ⟨w.heap.size, 0, none⟩ = some (.string p.name) ∧ w'.cell? ⟨w.heap.size, 1, none⟩ = some (.int .i64 p.width) ∧ w'.cell? ⟨w.heap.size, 2, none⟩ = some (.int .i64 p.line) ∧ w'.cell? ⟨w.heap.size, 3, none⟩ = some (.slice (some ad) p.decls.length c3) ∧ w'.cell? ⟨w.heap.size, 4, none⟩ = some (.slice A4 p.body.length c4) ∧ w'.cell? ⟨b, o, none⟩ = some (.int .i64 4) ∧ w'.cell? ⟨b, o + 1, none⟩ = some (.string s))
            (first | exact hS0 | (refine HK.out _ ?_; (repeat (first | (with_reducible first | exact C5.out | apply below_alloc | apply pw_below_drewN | apply below_drew1) | exact C5.out)); done) | (refine HK.out _ ?_; (repeat (first | (with_reducible first | exact C2.out | apply below_alloc | apply pw_below_drewN | apply below_drew1) | exact C2.out)); done))
            (first
              | (go_at_call 58; refine (HH.out _ (by first | exact B5.out | ((repeat (first | (with_reducible first | exact B5.out | apply below_alloc | apply pw_below_drewN | apply below_drew1) | exact B5.out)); done) | ((repeat (first | (with_reducible first | exact BB.out | apply below_alloc | apply pw_below_drewN | apply below_drew1) | exact BB.out)); done))).mono ?_; rintro x' w4 ⟨rfl, rfl⟩)
              | (clear T5; go_at_call 44; refine (HF.out _ (by (repeat (first | (with_reducible first | exact BB.out | apply below_alloc | apply pw_below_drewN | apply below_drew1) | exact BB.out)))).mono ?_; rintro x' w5 ⟨rfl, hb⟩; have B5 := Aside0.mk (below_step (by (repeat (first | (with_reducible first | exact BB.out | apply below_alloc | apply pw_below_drewN | apply below_drew1) | exact BB.out))) hb); have C5 := Aside0.mk (below_step (by (repeat (first | (with_reducible first | exact C2.out | apply below_alloc | apply pw_below_drewN | apply below_drew1) | exact C2.out))) hb); clear hb))
          go_wp2_with fail
          go_ret
          exact ⟨rfl, B5.out⟩
    · have e2 : (k == 4) = false := by simpa using hk2
      have e3 : decide (k = 4) = false := decide_eq_false hk2
      rw [e3]
      clear hk2
      obtain ⟨W2, hW2⟩ : ∃ W2, (w.alloc (.cells #[.string p.name, .int .i64 p.width, .int .i64 p.line, .slice A3 p.decls.length c3, .slice A4 p.body.length c4] 25)).alloc (.cells #[.int .i64 n, .pointer pd, .pointer (some ⟨b, o, none⟩), .pointer none, .int .i64 d, .pointer pl] 95) = W2 := ⟨_, rfl⟩
      obtain ⟨z0, z1, z2, z3, z4, z5, y0, y1, y2, y3, y4⟩ : W2.cell? ⟨w.heap.size + 1, 0, none⟩ = some (.int .i64 n) ∧ W2.cell? ⟨w.heap.size + 1, 1, none⟩ = some (.pointer pd) ∧ W2.cell? ⟨w.heap.size + 1, 2, none⟩ = some (.pointer (some ⟨b, o, none⟩)) ∧ W2.cell? ⟨w.heap.size + 1, 3, none⟩ = some (.pointer none) ∧ W2.cell? ⟨w.heap.size + 1, 4, none⟩ = some (.int .i64 d) ∧ W2.cell? ⟨w.heap.size + 1, 5, none⟩ = some (.pointer pl) ∧ W2.cell? ⟨w.heap.size, 0, none⟩ = some (.string p.name) ∧ W2.cell? ⟨w.heap.size, 1, none⟩ = some (.int .i64 p.width) ∧ W2.cell? ⟨w.heap.size, 2, none⟩ = some (.int .i64 p.line) ∧ W2.cell? ⟨w.heap.size, 3, none⟩ = some (.slice A3 p.decls.length c3) ∧ W2.cell? ⟨w.heap.size, 4, none⟩ = some (.slice A4 p.body.length c4) := by rw [← hW2]; simp [go_sem]
      have B : Below w.heap.size w W2 := by rw [← hW2]; exact below_alloc (below_alloc (Below.refl _ _) _) _
      have BB := Aside0.mk B
      replace h0 := kept_cell B h0
      replace h1 := kept_cell B h1
      go_enter Tryz.func63, Tryz.ntmps63
      go_upto_region 1 with (fail)
      try rw [hW2]
      clear hW2 B
      go_quiet (fail)
      go_wp2_with fail
      go_ret
      exact ⟨rfl, pw_below_drewN BB.out _⟩
end Go.Proofs.YtjomofepephodaaGreat.PEquivShapes
