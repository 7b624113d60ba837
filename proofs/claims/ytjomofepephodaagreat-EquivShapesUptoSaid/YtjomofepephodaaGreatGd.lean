/-
  The kind of a name. Conditions: what each theorem names.
-/
import Derived.Test.YtjomofepephodaaGreatGc
set_option linter.unusedVariables false
set_option linter.unusedSimpArgs false
namespace Go.Proofs.YtjomofepephodaaGreat.PEquivShapes
open Go.RowKit
open Go.Proofs.YtjomofepephodaaGreatW.PrintWords Go.Proofs.YtjomofepephodaaGreatW.PrintLast Go.Proofs.YtjomofepephodaaGreatW.PrintMore
/-- is what a name means right for a thing? -/
def kindD (dk sz : Int) : TH → Bool
  | .decl => decide (sz = 0)
  | .stmt s _ => if s.f0 = 2 then decide (0 < sz) && !decide (dk = 3) else decide (sz = 0)
  | .expr e => if e.f0 = 3 then decide (0 < sz) else decide (sz = 0)
def TH.plain : TH → Bool
  | .expr e => decide (e.f0 = 2)
  | _ => false
def kindB (p : PR) (t : TH) (ls : List ByteArray) (s : ByteArray) : Bool :=
  if hasB ls s then t.plain else
    match findI p.decls s with
    | some i => kindD (rd_T38 p.decls i).f0 (rd_T38 p.decls i).f2 t
    | none => false
set_option maxHeartbeats 2000000 in
theorem kind_any (p : PR) (A3 : Option Addr) (c3 : Nat) (A4 : Option Addr) (c4 : Nat) (t : TH) (ls : List ByteArray) (s : ByteArray) (n : Int) (pd ps pe : Option Addr) (d : Int) (pl : Option Addr) (w : World) (hp : p.At w A3 c3 A4 c4) (h : ThAt w t ps pe d) (hl : ScAt w pl ls)
    (hk : hasB ls s = true ∨ (findI p.decls s).isSome = true) :
    Calls Tryz.prog 60 #[p.cells A3 c3 A4 c4, thV n pd ps pe d pl, .string s] w fun e w' => e = .returned (.bool (kindB p t ls s)) ∧ Below w.heap.size w w' := by
  have HH : Aside0 (∀ W, Below w.heap.size w W → Calls Tryz.prog 58 #[.pointer pl, .string s] W fun e w' => e = .returned (.bool (hasB ls s)) ∧ w' = W) := ⟨fun W hW => has_any pl ls s W (ScAt_below hl hW)⟩
  have HF : Aside0 (∀ W, Below w.heap.size w W → Calls Tryz.prog 44 #[.agg #[.string p.name, .int .i64 p.width, .int .i64 p.line, .slice A3 p.decls.length c3, .slice A4 p.body.length c4], .string s] W fun e w' => e = .returned (.pointer ((findI p.decls s).bind fun i => A3.map fun a => a.add (i * 4))) ∧ Below W.heap.size W w') := ⟨fun W hW => find_any p A3 c3 A4 c4 s W (At_below hp hW)⟩
  unfold PR.cells thV kindB
  cases hh : hasB ls s with
  | true =>
    rw [hh] at HH
    clear hk hp hl hh
    rw [if_pos rfl]
    unfold TH.plain
    cases t with
    | decl =>
      obtain ⟨rfl, rfl, rfl⟩ := h
      obtain ⟨W2, hW2⟩ : ∃ W2, (w.alloc (.cells #[.string p.name, .int .i64 p.width, .int .i64 p.line, .slice A3 p.decls.length c3, .slice A4 p.body.length c4] 25)).alloc (.cells #[.int .i64 n, .pointer pd, .pointer none, .pointer none, .int .i64 0, .pointer pl] 95) = W2 := ⟨_, rfl⟩
      obtain ⟨z0, z1, z2, z3, z4, z5, y0, y1, y2, y3, y4⟩ : W2.cell? ⟨w.heap.size + 1, 0, none⟩ = some (.int .i64 n) ∧ W2.cell? ⟨w.heap.size + 1, 1, none⟩ = some (.pointer pd) ∧ W2.cell? ⟨w.heap.size + 1, 2, none⟩ = some (.pointer none) ∧ W2.cell? ⟨w.heap.size + 1, 3, none⟩ = some (.pointer none) ∧ W2.cell? ⟨w.heap.size + 1, 4, none⟩ = some (.int .i64 0) ∧ W2.cell? ⟨w.heap.size + 1, 5, none⟩ = some (.pointer pl) ∧ W2.cell? ⟨w.heap.size, 0, none⟩ = some (.string p.name) ∧ W2.cell? ⟨w.heap.size, 1, none⟩ = some (.int .i64 p.width) ∧ W2.cell? ⟨w.heap.size, 2, none⟩ = some (.int .i64 p.line) ∧ W2.cell? ⟨w.heap.size, 3, none⟩ = some (.slice A3 p.decls.length c3) ∧ W2.cell? ⟨w.heap.size, 4, none⟩ = some (.slice A4 p.body.length c4) := by rw [← hW2]; simp [go_sem]
      have B : Below w.heap.size w W2 := by rw [← hW2]; exact below_alloc (below_alloc (Below.refl _ _) _) _
      have BB := Aside0.mk B
      go_enter Tryz.func60, Tryz.ntmps60
      go_upto_region 1 with (fail)
      try rw [hW2]
      clear hW2 B
      go_wp2_with (first | (go_at_call 58; refine (HH.out _ BB.out).mono ?_; rintro e w2 ⟨rfl, rfl⟩) | (go_at_call 44; refine (HF.out _ BB.out).mono ?_; rintro e w1 ⟨rfl, hb⟩; replace z2 := kept_cell hb z2; replace z3 := kept_cell hb z3; have B1 := Aside0.mk (below_step BB.out hb); clear hb))
      go_ret
      exact ⟨rfl, BB.out⟩
    | stmt st deep =>
      obtain ⟨⟨b, o, rfl, h0, h1, _, _⟩, rfl, rfl⟩ := h
      clear h0 h1
      obtain ⟨W2, hW2⟩ : ∃ W2, (w.alloc (.cells #[.string p.name, .int .i64 p.width, .int .i64 p.line, .slice A3 p.decls.length c3, .slice A4 p.body.length c4] 25)).alloc (.cells #[.int .i64 n, .pointer pd, .pointer (some ⟨b, o, none⟩), .pointer none, .int .i64 d, .pointer pl] 95) = W2 := ⟨_, rfl⟩
      obtain ⟨z0, z1, z2, z3, z4, z5, y0, y1, y2, y3, y4⟩ : W2.cell? ⟨w.heap.size + 1, 0, none⟩ = some (.int .i64 n) ∧ W2.cell? ⟨w.heap.size + 1, 1, none⟩ = some (.pointer pd) ∧ W2.cell? ⟨w.heap.size + 1, 2, none⟩ = some (.pointer (some ⟨b, o, none⟩)) ∧ W2.cell? ⟨w.heap.size + 1, 3, none⟩ = some (.pointer none) ∧ W2.cell? ⟨w.heap.size + 1, 4, none⟩ = some (.int .i64 d) ∧ W2.cell? ⟨w.heap.size + 1, 5, none⟩ = some (.pointer pl) ∧ W2.cell? ⟨w.heap.size, 0, none⟩ = some (.string p.name) ∧ W2.cell? ⟨w.heap.size, 1, none⟩ = some (.int .i64 p.width) ∧ W2.cell? ⟨w.heap.size, 2, none⟩ = some (.int .i64 p.line) ∧ W2.cell? ⟨w.heap.size, 3, none⟩ = some (.slice A3 p.decls.length c3) ∧ W2.cell? ⟨w.heap.size, 4, none⟩ = some (.slice A4 p.body.length c4) := by rw [← hW2]; simp [go_sem]
      have B : Below w.heap.size w W2 := by rw [← hW2]; exact below_alloc (below_alloc (Below.refl _ _) _) _
      have BB := Aside0.mk B
      go_enter Tryz.func60, Tryz.ntmps60
      go_upto_region 1 with (fail)
      try rw [hW2]
      clear hW2 B
      go_wp2_with (first | (go_at_call 58; refine (HH.out _ BB.out).mono ?_; rintro e w2 ⟨rfl, rfl⟩) | (go_at_call 44; refine (HF.out _ BB.out).mono ?_; rintro e w1 ⟨rfl, hb⟩; replace z2 := kept_cell hb z2; replace z3 := kept_cell hb z3; have B1 := Aside0.mk (below_step BB.out hb); clear hb))
      go_ret
      exact ⟨rfl, BB.out⟩
    | expr e =>
      obtain ⟨rfl, ⟨b, o, rfl, A, c, h0, h1, h2, h3, _, _⟩, rfl⟩ := h
      clear h1 h2 h3
      dsimp only
      generalize e.f0 = k at *
      obtain ⟨W2, hW2⟩ : ∃ W2, (w.alloc (.cells #[.string p.name, .int .i64 p.width, .int .i64 p.line, .slice A3 p.decls.length c3, .slice A4 p.body.length c4] 25)).alloc (.cells #[.int .i64 n, .pointer pd, .pointer none, .pointer (some ⟨b, o, none⟩), .int .i64 0, .pointer pl] 95) = W2 := ⟨_, rfl⟩
      obtain ⟨z0, z1, z2, z3, z4, z5, y0, y1, y2, y3, y4⟩ : W2.cell? ⟨w.heap.size + 1, 0, none⟩ = some (.int .i64 n) ∧ W2.cell? ⟨w.heap.size + 1, 1, none⟩ = some (.pointer pd) ∧ W2.cell? ⟨w.heap.size + 1, 2, none⟩ = some (.pointer none) ∧ W2.cell? ⟨w.heap.size + 1, 3, none⟩ = some (.pointer (some ⟨b, o, none⟩)) ∧ W2.cell? ⟨w.heap.size + 1, 4, none⟩ = some (.int .i64 0) ∧ W2.cell? ⟨w.heap.size + 1, 5, none⟩ = some (.pointer pl) ∧ W2.cell? ⟨w.heap.size, 0, none⟩ = some (.string p.name) ∧ W2.cell? ⟨w.heap.size, 1, none⟩ = some (.int .i64 p.width) ∧ W2.cell? ⟨w.heap.size, 2, none⟩ = some (.int .i64 p.line) ∧ W2.cell? ⟨w.heap.size, 3, none⟩ = some (.slice A3 p.decls.length c3) ∧ W2.cell? ⟨w.heap.size, 4, none⟩ = some (.slice A4 p.body.length c4) := by rw [← hW2]; simp [go_sem]
      have B : Below w.heap.size w W2 := by rw [← hW2]; exact below_alloc (below_alloc (Below.refl _ _) _) _
      have BB := Aside0.mk B
      replace h0 := kept_cell B h0
      go_enter Tryz.func60, Tryz.ntmps60
      go_upto_region 1 with (fail)
      try rw [hW2]
      clear hW2 B
      go_wp2_with (first | (go_at_call 58; refine (HH.out _ BB.out).mono ?_; rintro e w2 ⟨rfl, rfl⟩) | (go_at_call 44; refine (HF.out _ BB.out).mono ?_; rintro e w1 ⟨rfl, hb⟩; replace z2 := kept_cell hb z2; replace z3 := kept_cell hb z3; replace h0 := kept_cell hb h0; have B1 := Aside0.mk (below_step BB.out hb); clear hb))
      go_ret
      exact ⟨by first | rfl | (simp; done) | (congr 2; simp), BB.out⟩
  | false =>
    rw [hh] at HH hk
    rw [if_neg (by simp)]
    obtain ⟨i, hi⟩ : ∃ i, findI p.decls s = some i := by simpa [Option.isSome_iff_exists] using hk
    rw [hi] at HF ⊢
    have hil := findI_lt hi
    obtain ⟨hl3, h3p, _, _⟩ := hp
    obtain ⟨ad, A, c, rfl, x0, x1, x2, x3, _, _⟩ := at_T38 h3p (i : Int) (by omega) (by omega)
    simp only [Int.toNat_natCast] at x0 x2
    clear hk hl hh hi x1 x3 h3p hil hl3
    unfold kindD
    dsimp only
    generalize (rd_T38 p.decls i).f0 = dk at *
    generalize (rd_T38 p.decls i).f2 = sz at *
    cases t with
    | decl =>
      obtain ⟨rfl, rfl, rfl⟩ := h
      obtain ⟨W2, hW2⟩ : ∃ W2, (w.alloc (.cells #[.string p.name, .int .i64 p.width, .int .i64 p.line, .slice (some ad) p.decls.length c3, .slice A4 p.body.length c4] 25)).alloc (.cells #[.int .i64 n, .pointer pd, .pointer none, .pointer none, .int .i64 0, .pointer pl] 95) = W2 := ⟨_, rfl⟩
      obtain ⟨z0, z1, z2, z3, z4, z5, y0, y1, y2, y3, y4⟩ : W2.cell? ⟨w.heap.size + 1, 0, none⟩ = some (.int .i64 n) ∧ W2.cell? ⟨w.heap.size + 1, 1, none⟩ = some (.pointer pd) ∧ W2.cell? ⟨w.heap.size + 1, 2, none⟩ = some (.pointer none) ∧ W2.cell? ⟨w.heap.size + 1, 3, none⟩ = some (.pointer none) ∧ W2.cell? ⟨w.heap.size + 1, 4, none⟩ = some (.int .i64 0) ∧ W2.cell? ⟨w.heap.size + 1, 5, none⟩ = some (.pointer pl) ∧ W2.cell? ⟨w.heap.size, 0, none⟩ = some (.string p.name) ∧ W2.cell? ⟨w.heap.size, 1, none⟩ = some (.int .i64 p.width) ∧ W2.cell? ⟨w.heap.size, 2, none⟩ = some (.int .i64 p.line) ∧ W2.cell? ⟨w.heap.size, 3, none⟩ = some (.slice (some ad) p.decls.length c3) ∧ W2.cell? ⟨w.heap.size, 4, none⟩ = some (.slice A4 p.body.length c4) := by rw [← hW2]; simp [go_sem]
      have B : Below w.heap.size w W2 := by rw [← hW2]; exact below_alloc (below_alloc (Below.refl _ _) _) _
      have BB := Aside0.mk B
      replace x2 := kept_cell B x2
      go_enter Tryz.func60, Tryz.ntmps60
      go_upto_region 1 with (fail)
      try rw [hW2]
      clear hW2 B
      go_wp2_with (first | (go_at_call 58; refine (HH.out _ BB.out).mono ?_; rintro e w2 ⟨rfl, rfl⟩) | (go_at_call 44; refine (HF.out _ BB.out).mono ?_; rintro e w1 ⟨rfl, hb⟩; replace z2 := kept_cell hb z2; replace z3 := kept_cell hb z3; replace x2 := kept_cell hb x2; have B1 := Aside0.mk (below_step BB.out hb); clear hb))
      go_ret
      exact ⟨rfl, B1.out⟩
    | stmt st deep =>
      obtain ⟨⟨b, o, rfl, h0, h1, _, _⟩, rfl, rfl⟩ := h
      clear h1
      dsimp only
      generalize st.f0 = k at *
      by_cases hk2 : k = 2
      · subst hk2
        rw [if_pos rfl]
        by_cases hz : 0 < sz
        · rw [decide_eq_true hz]
          obtain ⟨W2, hW2⟩ : ∃ W2, (w.alloc (.cells #[.string p.name, .int .i64 p.width, .int .i64 p.line, .slice (some ad) p.decls.length c3, .slice A4 p.body.length c4] 25)).alloc (.cells #[.int .i64 n, .pointer pd, .pointer (some ⟨b, o, none⟩), .pointer none, .int .i64 d, .pointer pl] 95) = W2 := ⟨_, rfl⟩
          obtain ⟨z0, z1, z2, z3, z4, z5, y0, y1, y2, y3, y4⟩ : W2.cell? ⟨w.heap.size + 1, 0, none⟩ = some (.int .i64 n) ∧ W2.cell? ⟨w.heap.size + 1, 1, none⟩ = some (.pointer pd) ∧ W2.cell? ⟨w.heap.size + 1, 2, none⟩ = some (.pointer (some ⟨b, o, none⟩)) ∧ W2.cell? ⟨w.heap.size + 1, 3, none⟩ = some (.pointer none) ∧ W2.cell? ⟨w.heap.size + 1, 4, none⟩ = some (.int .i64 d) ∧ W2.cell? ⟨w.heap.size + 1, 5, none⟩ = some (.pointer pl) ∧ W2.cell? ⟨w.heap.size, 0, none⟩ = some (.string p.name) ∧ W2.cell? ⟨w.heap.size, 1, none⟩ = some (.int .i64 p.width) ∧ W2.cell? ⟨w.heap.size, 2, none⟩ = some (.int .i64 p.line) ∧ W2.cell? ⟨w.heap.size, 3, none⟩ = some (.slice (some ad) p.decls.length c3) ∧ W2.cell? ⟨w.heap.size, 4, none⟩ = some (.slice A4 p.body.length c4) := by rw [← hW2]; simp [go_sem]
          have B : Below w.heap.size w W2 := by rw [← hW2]; exact below_alloc (below_alloc (Below.refl _ _) _) _
          have BB := Aside0.mk B
          replace x0 := kept_cell B x0
          replace x2 := kept_cell B x2
          replace h0 := kept_cell B h0
          go_enter Tryz.func60, Tryz.ntmps60
          go_upto_region 1 with (fail)
          try rw [hW2]
          clear hW2 B
          go_wp2_with (first | (go_at_call 58; refine (HH.out _ BB.out).mono ?_; rintro e w2 ⟨rfl, rfl⟩) | (go_at_call 44; refine (HF.out _ BB.out).mono ?_; rintro e w1 ⟨rfl, hb⟩; replace z2 := kept_cell hb z2; replace z3 := kept_cell hb z3; replace x0 := kept_cell hb x0; replace x2 := kept_cell hb x2; replace h0 := kept_cell hb h0; have B1 := Aside0.mk (below_step BB.out hb); clear hb))
          go_ret
          exact ⟨rfl, B1.out⟩
        · rw [decide_eq_false hz]
          obtain ⟨W2, hW2⟩ : ∃ W2, (w.alloc (.cells #[.string p.name, .int .i64 p.width, .int .i64 p.line, .slice (some ad) p.decls.length c3, .slice A4 p.body.length c4] 25)).alloc (.cells #[.int .i64 n, .pointer pd, .pointer (some ⟨b, o, none⟩), .pointer none, .int .i64 d, .pointer pl] 95) = W2 := ⟨_, rfl⟩
          obtain ⟨z0, z1, z2, z3, z4, z5, y0, y1, y2, y3, y4⟩ : W2.cell? ⟨w.heap.size + 1, 0, none⟩ = some (.int .i64 n) ∧ W2.cell? ⟨w.heap.size + 1, 1, none⟩ = some (.pointer pd) ∧ W2.cell? ⟨w.heap.size + 1, 2, none⟩ = some (.pointer (some ⟨b, o, none⟩)) ∧ W2.cell? ⟨w.heap.size + 1, 3, none⟩ = some (.pointer none) ∧ W2.cell? ⟨w.heap.size + 1, 4, none⟩ = some (.int .i64 d) ∧ W2.cell? ⟨w.heap.size + 1, 5, none⟩ = some (.pointer pl) ∧ W2.cell? ⟨w.heap.size, 0, none⟩ = some (.string p.name) ∧ W2.cell? ⟨w.heap.size, 1, none⟩ = some (.int .i64 p.width) ∧ W2.cell? ⟨w.heap.size, 2, none⟩ = some (.int .i64 p.line) ∧ W2.cell? ⟨w.heap.size, 3, none⟩ = some (.slice (some ad) p.decls.length c3) ∧ W2.cell? ⟨w.heap.size, 4, none⟩ = some (.slice A4 p.body.length c4) := by rw [← hW2]; simp [go_sem]
          have B : Below w.heap.size w W2 := by rw [← hW2]; exact below_alloc (below_alloc (Below.refl _ _) _) _
          have BB := Aside0.mk B
          replace x0 := kept_cell B x0
          replace x2 := kept_cell B x2
          replace h0 := kept_cell B h0
          go_enter Tryz.func60, Tryz.ntmps60
          go_upto_region 1 with (fail)
          try rw [hW2]
          clear hW2 B
          go_wp2_with (first | (go_at_call 58; refine (HH.out _ BB.out).mono ?_; rintro e w2 ⟨rfl, rfl⟩) | (go_at_call 44; refine (HF.out _ BB.out).mono ?_; rintro e w1 ⟨rfl, hb⟩; replace z2 := kept_cell hb z2; replace z3 := kept_cell hb z3; replace x0 := kept_cell hb x0; replace x2 := kept_cell hb x2; replace h0 := kept_cell hb h0; have B1 := Aside0.mk (below_step BB.out hb); clear hb))
          go_ret
          exact ⟨rfl, B1.out⟩
      · have e2 : (k == 2) = false := by simpa using hk2
        rw [if_neg hk2]
        clear hk2
        obtain ⟨W2, hW2⟩ : ∃ W2, (w.alloc (.cells #[.string p.name, .int .i64 p.width, .int .i64 p.line, .slice (some ad) p.decls.length c3, .slice A4 p.body.length c4] 25)).alloc (.cells #[.int .i64 n, .pointer pd, .pointer (some ⟨b, o, none⟩), .pointer none, .int .i64 d, .pointer pl] 95) = W2 := ⟨_, rfl⟩
        obtain ⟨z0, z1, z2, z3, z4, z5, y0, y1, y2, y3, y4⟩ : W2.cell? ⟨w.heap.size + 1, 0, none⟩ = some (.int .i64 n) ∧ W2.cell? ⟨w.heap.size + 1, 1, none⟩ = some (.pointer pd) ∧ W2.cell? ⟨w.heap.size + 1, 2, none⟩ = some (.pointer (some ⟨b, o, none⟩)) ∧ W2.cell? ⟨w.heap.size + 1, 3, none⟩ = some (.pointer none) ∧ W2.cell? ⟨w.heap.size + 1, 4, none⟩ = some (.int .i64 d) ∧ W2.cell? ⟨w.heap.size + 1, 5, none⟩ = some (.pointer pl) ∧ W2.cell? ⟨w.heap.size, 0, none⟩ = some (.string p.name) ∧ W2.cell? ⟨w.heap.size, 1, none⟩ = some (.int .i64 p.width) ∧ W2.cell? ⟨w.heap.size, 2, none⟩ = some (.int .i64 p.line) ∧ W2.cell? ⟨w.heap.size, 3, none⟩ = some (.slice (some ad) p.decls.length c3) ∧ W2.cell? ⟨w.heap.size, 4, none⟩ = some (.slice A4 p.body.length c4) := by rw [← hW2]; simp [go_sem]
        have B : Below w.heap.size w W2 := by rw [← hW2]; exact below_alloc (below_alloc (Below.refl _ _) _) _
        have BB := Aside0.mk B
        replace x2 := kept_cell B x2
        replace h0 := kept_cell B h0
        go_enter Tryz.func60, Tryz.ntmps60
        go_upto_region 1 with (fail)
        try rw [hW2]
        clear hW2 B
        go_wp2_with (first | (go_at_call 58; refine (HH.out _ BB.out).mono ?_; rintro e w2 ⟨rfl, rfl⟩) | (go_at_call 44; refine (HF.out _ BB.out).mono ?_; rintro e w1 ⟨rfl, hb⟩; replace z2 := kept_cell hb z2; replace z3 := kept_cell hb z3; replace x2 := kept_cell hb x2; replace h0 := kept_cell hb h0; have B1 := Aside0.mk (below_step BB.out hb); clear hb))
        go_ret
        exact ⟨rfl, B1.out⟩
    | expr e =>
      obtain ⟨rfl, ⟨b, o, rfl, A, c, h0, h1, h2, h3, _, _⟩, rfl⟩ := h
      clear h1 h2 h3
      dsimp only
      generalize e.f0 = k at *
      by_cases hk2 : k = 3
      · subst hk2
        rw [if_pos rfl]
        obtain ⟨W2, hW2⟩ : ∃ W2, (w.alloc (.cells #[.string p.name, .int .i64 p.width, .int .i64 p.line, .slice (some ad) p.decls.length c3, .slice A4 p.body.length c4] 25)).alloc (.cells #[.int .i64 n, .pointer pd, .pointer none, .pointer (some ⟨b, o, none⟩), .int .i64 0, .pointer pl] 95) = W2 := ⟨_, rfl⟩
        obtain ⟨z0, z1, z2, z3, z4, z5, y0, y1, y2, y3, y4⟩ : W2.cell? ⟨w.heap.size + 1, 0, none⟩ = some (.int .i64 n) ∧ W2.cell? ⟨w.heap.size + 1, 1, none⟩ = some (.pointer pd) ∧ W2.cell? ⟨w.heap.size + 1, 2, none⟩ = some (.pointer none) ∧ W2.cell? ⟨w.heap.size + 1, 3, none⟩ = some (.pointer (some ⟨b, o, none⟩)) ∧ W2.cell? ⟨w.heap.size + 1, 4, none⟩ = some (.int .i64 0) ∧ W2.cell? ⟨w.heap.size + 1, 5, none⟩ = some (.pointer pl) ∧ W2.cell? ⟨w.heap.size, 0, none⟩ = some (.string p.name) ∧ W2.cell? ⟨w.heap.size, 1, none⟩ = some (.int .i64 p.width) ∧ W2.cell? ⟨w.heap.size, 2, none⟩ = some (.int .i64 p.line) ∧ W2.cell? ⟨w.heap.size, 3, none⟩ = some (.slice (some ad) p.decls.length c3) ∧ W2.cell? ⟨w.heap.size, 4, none⟩ = some (.slice A4 p.body.length c4) := by rw [← hW2]; simp [go_sem]
        have B : Below w.heap.size w W2 := by rw [← hW2]; exact below_alloc (below_alloc (Below.refl _ _) _) _
        have BB := Aside0.mk B
        replace x2 := kept_cell B x2
        replace h0 := kept_cell B h0
        go_enter Tryz.func60, Tryz.ntmps60
        go_upto_region 1 with (fail)
        try rw [hW2]
        clear hW2 B
        go_wp2_with (first | (go_at_call 58; refine (HH.out _ BB.out).mono ?_; rintro e w2 ⟨rfl, rfl⟩) | (go_at_call 44; refine (HF.out _ BB.out).mono ?_; rintro e w1 ⟨rfl, hb⟩; replace z2 := kept_cell hb z2; replace z3 := kept_cell hb z3; replace x2 := kept_cell hb x2; replace h0 := kept_cell hb h0; have B1 := Aside0.mk (below_step BB.out hb); clear hb))
        go_ret
        exact ⟨rfl, B1.out⟩
      · have e2 : (k == 3) = false := by simpa using hk2
        rw [if_neg hk2]
        clear hk2
        obtain ⟨W2, hW2⟩ : ∃ W2, (w.alloc (.cells #[.string p.name, .int .i64 p.width, .int .i64 p.line, .slice (some ad) p.decls.length c3, .slice A4 p.body.length c4] 25)).alloc (.cells #[.int .i64 n, .pointer pd, .pointer none, .pointer (some ⟨b, o, none⟩), .int .i64 0, .pointer pl] 95) = W2 := ⟨_, rfl⟩
        obtain ⟨z0, z1, z2, z3, z4, z5, y0, y1, y2, y3, y4⟩ : W2.cell? ⟨w.heap.size + 1, 0, none⟩ = some (.int .i64 n) ∧ W2.cell? ⟨w.heap.size + 1, 1, none⟩ = some (.pointer pd) ∧ W2.cell? ⟨w.heap.size + 1, 2, none⟩ = some (.pointer none) ∧ W2.cell? ⟨w.heap.size + 1, 3, none⟩ = some (.pointer (some ⟨b, o, none⟩)) ∧ W2.cell? ⟨w.heap.size + 1, 4, none⟩ = some (.int .i64 0) ∧ W2.cell? ⟨w.heap.size + 1, 5, none⟩ = some (.pointer pl) ∧ W2.cell? ⟨w.heap.size, 0, none⟩ = some (.string p.name) ∧ W2.cell? ⟨w.heap.size, 1, none⟩ = some (.int .i64 p.width) ∧ W2.cell? ⟨w.heap.size, 2, none⟩ = some (.int .i64 p.line) ∧ W2.cell? ⟨w.heap.size, 3, none⟩ = some (.slice (some ad) p.decls.length c3) ∧ W2.cell? ⟨w.heap.size, 4, none⟩ = some (.slice A4 p.body.length c4) := by rw [← hW2]; simp [go_sem]
        have B : Below w.heap.size w W2 := by rw [← hW2]; exact below_alloc (below_alloc (Below.refl _ _) _) _
        have BB := Aside0.mk B
        replace x2 := kept_cell B x2
        replace h0 := kept_cell B h0
        go_enter Tryz.func60, Tryz.ntmps60
        go_upto_region 1 with (fail)
        try rw [hW2]
        clear hW2 B
        go_wp2_with (first | (go_at_call 58; refine (HH.out _ BB.out).mono ?_; rintro e w2 ⟨rfl, rfl⟩) | (go_at_call 44; refine (HF.out _ BB.out).mono ?_; rintro e w1 ⟨rfl, hb⟩; replace z2 := kept_cell hb z2; replace z3 := kept_cell hb z3; replace x2 := kept_cell hb x2; replace h0 := kept_cell hb h0; have B1 := Aside0.mk (below_step BB.out hb); clear hb))
        go_ret
        exact ⟨rfl, B1.out⟩
/-- clause 12 -/
def badKind (p : PR) (t : TH) (ls : List ByteArray) : Bool := t.use.2 && !kindB p t ls t.use.1
set_option maxHeartbeats 1000000 in
theorem c11_any (p : PR) (A3 : Option Addr) (c3 : Nat) (A4 : Option Addr) (c4 : Nat) (t : TH) (ls : List ByteArray) (n : Int) (pd ps pe : Option Addr) (d : Int) (pl : Option Addr) (w : World) (hp : p.At w A3 c3 A4 c4) (h : ThAt w t ps pe d) (hl : ScAt w pl ls)
    (hu : badUnknown p t ls = false) :
    Calls Tryz.prog 59 #[p.cells A3 c3 A4 c4, thV n pd ps pe d pl] w fun e w' => e = .returned (.bool (badKind p t ls)) ∧ Below w.heap.size w w' := by
  have B := below_row p A3 c3 A4 c4 n pd ps pe d pl w
  unfold PR.row thR at B
  have HU : Aside0 (∀ W, Below w.heap.size w W → Calls Tryz.prog 57 #[.agg #[.int .i64 n, .pointer pd, .pointer ps, .pointer pe, .int .i64 d, .pointer pl]] W fun x w' => x = .returned (.tuple #[.string t.use.1, .bool t.use.2]) ∧ Below W.heap.size W w') := ⟨fun W hW => use_any t n pd ps pe d pl W (ThAt_below h hW)⟩
  have HKK : Aside0 (t.use.2 = true → ∀ W, Below w.heap.size w W → Calls Tryz.prog 60 #[.agg #[.string p.name, .int .i64 p.width, .int .i64 p.line, .slice A3 p.decls.length c3, .slice A4 p.body.length c4], .agg #[.int .i64 n, .pointer pd, .pointer ps, .pointer pe, .int .i64 d, .pointer pl], .string t.use.1] W fun x w' => x = .returned (.bool (kindB p t ls t.use.1)) ∧ Below W.heap.size W w') := ⟨fun hu2 W hW => kind_any p A3 c3 A4 c4 t ls t.use.1 n pd ps pe d pl W (At_below hp hW) (ThAt_below h hW) (ScAt_below hl hW) (by
    unfold badUnknown at hu
    rw [hu2] at hu
    cases hq : hasB ls t.use.1 with
    | true => exact .inl rfl
    | false =>
      rw [hq] at hu
      exact .inr (by simpa [Option.isSome_iff_ne_none] using hu))⟩
  have BB := Aside0.mk B
  clear B hp h hl hu
  unfold PR.cells thV badKind
  generalize kindB p t ls t.use.1 = kb at *
  generalize t.use.1 = s at *
  generalize t.use.2 = u at *
  cases u with
  | false =>
    go_enter Tryz.func59, Tryz.ntmps59
    go_wp2_with (go_at_call 57; refine (HU.out _ BB.out).mono ?_; rintro e w' ⟨rfl, hb⟩)
    go_ret
    exact ⟨rfl, below_step BB.out hb⟩
  | true =>
    go_enter Tryz.func59, Tryz.ntmps59
    obtain ⟨W2, hW2⟩ : ∃ W2, (w.alloc (.cells #[.string p.name, .int .i64 p.width, .int .i64 p.line, .slice A3 p.decls.length c3, .slice A4 p.body.length c4] 25)).alloc (.cells #[.int .i64 n, .pointer pd, .pointer ps, .pointer pe, .int .i64 d, .pointer pl] 95) = W2 := ⟨_, rfl⟩
    obtain ⟨z0, z1, z2, z3, z4, z5, y0, y1, y2, y3, y4⟩ : W2.cell? ⟨w.heap.size + 1, 0, none⟩ = some (.int .i64 n) ∧ W2.cell? ⟨w.heap.size + 1, 1, none⟩ = some (.pointer pd) ∧ W2.cell? ⟨w.heap.size + 1, 2, none⟩ = some (.pointer ps) ∧ W2.cell? ⟨w.heap.size + 1, 3, none⟩ = some (.pointer pe) ∧ W2.cell? ⟨w.heap.size + 1, 4, none⟩ = some (.int .i64 d) ∧ W2.cell? ⟨w.heap.size + 1, 5, none⟩ = some (.pointer pl) ∧ W2.cell? ⟨w.heap.size, 0, none⟩ = some (.string p.name) ∧ W2.cell? ⟨w.heap.size, 1, none⟩ = some (.int .i64 p.width) ∧ W2.cell? ⟨w.heap.size, 2, none⟩ = some (.int .i64 p.line) ∧ W2.cell? ⟨w.heap.size, 3, none⟩ = some (.slice A3 p.decls.length c3) ∧ W2.cell? ⟨w.heap.size, 4, none⟩ = some (.slice A4 p.body.length c4) := by rw [← hW2]; simp [go_sem]
    go_upto_region 1 with (fail)
    rw [hW2] at BB
    try rw [hW2]
    clear hW2
    go_wp2_with (first
      | (go_at_call 57; refine (HU.out _ BB.out).mono ?_; rintro e w1 ⟨rfl, hb⟩; replace z0 := kept_cell hb z0; replace z1 := kept_cell hb z1; replace z2 := kept_cell hb z2; replace z3 := kept_cell hb z3; replace z4 := kept_cell hb z4; replace z5 := kept_cell hb z5; replace y0 := kept_cell hb y0; replace y1 := kept_cell hb y1; replace y2 := kept_cell hb y2; replace y3 := kept_cell hb y3; replace y4 := kept_cell hb y4; have B1 := Aside0.mk (below_step BB.out hb); clear hb)
      | (go_at_call 60; refine (HKK.out (by trivial) _ B1.out).mono ?_; rintro e w3 ⟨rfl, hb⟩))
    go_ret
    exact ⟨by simp, below_step B1.out hb⟩
end Go.Proofs.YtjomofepephodaaGreat.PEquivShapes
