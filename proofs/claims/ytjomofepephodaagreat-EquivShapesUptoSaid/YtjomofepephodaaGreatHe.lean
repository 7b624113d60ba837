/-
  The statement's function returns true. Conditions: the programs lie in the world, their numbers fit, and they are not too great.
-/
import Derived.Test.YtjomofepephodaaGreatHd
set_option linter.unusedVariables false
set_option linter.unusedSimpArgs false
namespace Go.Proofs.YtjomofepephodaaGreat.PEquivShapes
open Go.RowKit
open Go.Proofs.YtjomofepephodaaGreatW.PrintWords Go.Proofs.YtjomofepephodaaGreatW.PrintLast Go.Proofs.YtjomofepephodaaGreatW.PrintMore
set_option maxHeartbeats 8000000 in
set_option maxRecDepth 100000 in
theorem shapes_any (p : PR) (A3 : Option Addr) (c3 : Nat) (A4 : Option Addr) (c4 : Nat) (q : PR) (D3 : Option Addr) (e3 : Nat) (D4 : Option Addr) (e4 : Nat) (w : World) (hp : p.At w A3 c3 A4 c4) (hq : q.At w D3 e3 D4 e4) (hfp : p.fits) (hfq : q.fits) (hsp : Fair p) (hsq : Fair q) :
    Calls Tryz.prog 3 #[p.cells A3 c3 A4 c4, q.cells D3 e3 D4 e4] w fun e w' => e = .returned (.bool true) ∧ Below w.heap.size w w' := by
  obtain ⟨W2, hW2⟩ : ∃ W2, (w.alloc (.cells #[.string p.name, .int .i64 p.width, .int .i64 p.line, .slice A3 p.decls.length c3, .slice A4 p.body.length c4] 25)).alloc (.cells #[.string q.name, .int .i64 q.width, .int .i64 q.line, .slice D3 q.decls.length e3, .slice D4 q.body.length e4] 25) = W2 := ⟨_, rfl⟩
  have HK0 : Aside0 (W2.cell? ⟨w.heap.size, 0, none⟩ = some (.string p.name) ∧ W2.cell? ⟨w.heap.size, 1, none⟩ = some (.int .i64 p.width) ∧ W2.cell? ⟨w.heap.size, 2, none⟩ = some (.int .i64 p.line) ∧ W2.cell? ⟨w.heap.size, 3, none⟩ = some (.slice A3 p.decls.length c3) ∧ W2.cell? ⟨w.heap.size, 4, none⟩ = some (.slice A4 p.body.length c4) ∧ W2.cell? ⟨w.heap.size + 1, 0, none⟩ = some (.string q.name) ∧ W2.cell? ⟨w.heap.size + 1, 1, none⟩ = some (.int .i64 q.width) ∧ W2.cell? ⟨w.heap.size + 1, 2, none⟩ = some (.int .i64 q.line) ∧ W2.cell? ⟨w.heap.size + 1, 3, none⟩ = some (.slice D3 q.decls.length e3) ∧ W2.cell? ⟨w.heap.size + 1, 4, none⟩ = some (.slice D4 q.body.length e4)) := ⟨by rw [← hW2]; simp [go_sem]⟩
  have B : Below w.heap.size w W2 := by rw [← hW2]; exact below_alloc (below_alloc (Below.refl _ _) _) _
  have HKe : Aside0 (∀ wx : World, Below W2.heap.size W2 wx → wx.cell? ⟨w.heap.size, 0, none⟩ = some (.string p.name) ∧ wx.cell? ⟨w.heap.size, 1, none⟩ = some (.int .i64 p.width) ∧ wx.cell? ⟨w.heap.size, 2, none⟩ = some (.int .i64 p.line) ∧ wx.cell? ⟨w.heap.size, 3, none⟩ = some (.slice A3 p.decls.length c3) ∧ wx.cell? ⟨w.heap.size, 4, none⟩ = some (.slice A4 p.body.length c4) ∧ wx.cell? ⟨w.heap.size + 1, 0, none⟩ = some (.string q.name) ∧ wx.cell? ⟨w.heap.size + 1, 1, none⟩ = some (.int .i64 q.width) ∧ wx.cell? ⟨w.heap.size + 1, 2, none⟩ = some (.int .i64 q.line) ∧ wx.cell? ⟨w.heap.size + 1, 3, none⟩ = some (.slice D3 q.decls.length e3) ∧ wx.cell? ⟨w.heap.size + 1, 4, none⟩ = some (.slice D4 q.body.length e4)) := ⟨fun wx h => by
    obtain ⟨a0, a1, a2, a3, a4, b0, b1, b2, b3, b4⟩ := HK0.out
    exact ⟨kept_cell h a0, kept_cell h a1, kept_cell h a2, kept_cell h a3, kept_cell h a4, kept_cell h b0, kept_cell h b1, kept_cell h b2, kept_cell h b3, kept_cell h b4⟩⟩
  have BB := Aside0.mk B
  have HW := Aside0.mk hW2
  have C5p : Aside0 (∀ W, Below W2.heap.size W2 W → Calls Tryz.prog 5 #[.agg #[.string p.name, .int .i64 p.width, .int .i64 p.line, .slice A3 p.decls.length c3, .slice A4 p.body.length c4]] W fun e w' => OwnPost p W e w') := ⟨fun W hW => lown_any p A3 c3 A4 c4 W (At_below hp (below_step B hW)) hsp⟩
  have C5q : Aside0 (∀ W, Below W2.heap.size W2 W → Calls Tryz.prog 5 #[.agg #[.string q.name, .int .i64 q.width, .int .i64 q.line, .slice D3 q.decls.length e3, .slice D4 q.body.length e4]] W fun e w' => OwnPost q W e w') := ⟨fun W hW => lown_any q D3 e3 D4 e4 W (At_below hq (below_step B hW)) hsq⟩
  have C6 : Aside0 (∀ W, Below W2.heap.size W2 W → Calls Tryz.prog 6 #[.agg #[.string p.name, .int .i64 p.width, .int .i64 p.line, .slice A3 p.decls.length c3, .slice A4 p.body.length c4], .agg #[.string q.name, .int .i64 q.width, .int .i64 q.line, .slice D3 q.decls.length e3, .slice D4 q.body.length e4]] W fun e w' => ShPost p q W e w') := ⟨fun W hW => rshape_any p A3 c3 A4 c4 q D3 e3 D4 e4 W (At_below hp (below_step B hW)) (At_below hq (below_step B hW)) hfp hfq hsp hsq⟩
  have C4 : Aside0 (∀ W B3 b3 B4 b4 E3 g3 E4 g4, p.At W B3 b3 B4 b4 → q.At W E3 g3 E4 g4 → Calls Tryz.prog 4 #[p.cells B3 b3 B4 b4, q.cells E3 g3 E4 g4] W fun e w' => ShPost p q W e w') := ⟨fun W B3 b3 B4 b4 E3 g3 E4 g4 h1 h2 => lshape_any p B3 b3 B4 b4 q E3 g3 E4 g4 W h1 h2 hfp hfq hsp hsq⟩
  obtain ⟨z0, z1, z2, z3, z4, y0, y1, y2, y3, y4⟩ := HK0.out
  rw [show p.cells A3 c3 A4 c4 = .agg #[.string p.name, .int .i64 p.width, .int .i64 p.line, .slice A3 p.decls.length c3, .slice A4 p.body.length c4] from rfl, show q.cells D3 e3 D4 e4 = .agg #[.string q.name, .int .i64 q.width, .int .i64 q.line, .slice D3 q.decls.length e3, .slice D4 q.body.length e4] from rfl]
  clear hp hq hfp hfq hsp hsq hW2 B
  go_enter Tryz.func3, Tryz.ntmps3
  go_upto_region 1 with (fail)
  try rw [HW.out]
  have hS0 := HKe.out _ (Below.refl _ _)
  clear z0 z1 z2 z3 z4 y0 y1 y2 y3 y4 HW HK0
  go_region_held3 (fun wx => wx.cell? ⟨w.heap.size, 0, none⟩ = some (.string p.name) ∧ wx.cell? ⟨w.heap.size, 1, none⟩ = some (.int .i64 p.width) ∧ wx.cell? ⟨w.heap.size, 2, none⟩ = some (.int .i64 p.line) ∧ wx.cell? ⟨w.heap.size, 3, none⟩ = some (.slice A3 p.decls.length c3) ∧ wx.cell? ⟨w.heap.size, 4, none⟩ = some (.slice A4 p.body.length c4) ∧ wx.cell? ⟨w.heap.size + 1, 0, none⟩ = some (.string q.name) ∧ wx.cell? ⟨w.heap.size + 1, 1, none⟩ = some (.int .i64 q.width) ∧ wx.cell? ⟨w.heap.size + 1, 2, none⟩ = some (.int .i64 q.line) ∧ wx.cell? ⟨w.heap.size + 1, 3, none⟩ = some (.slice D3 q.decls.length e3) ∧ wx.cell? ⟨w.heap.size + 1, 4, none⟩ = some (.slice D4 q.body.length e4)) (first | exact hS0 | exact HKe.out _ (by repeat (first | exact Below.refl _ _ | refine below_step ?_ L5.out | refine below_step ?_ L6.out | refine below_step ?_ L7.out | refine below_step ?_ L8.out | refine below_drew1 ?_))) (first
    | (go_at_call 5; (with_reducible refine (C5p.out _ (by repeat (first | exact Below.refl _ _ | refine below_step ?_ L5.out | refine below_step ?_ L6.out | refine below_step ?_ L7.out | refine below_step ?_ L8.out | refine below_drew1 ?_))).mono ?_); rintro x' w5 ⟨⟨B3, b3, B4, b4, rfl, hat⟩, hb⟩; have HAp := Aside0.mk hat; have L5 := Aside0.mk hb; clear hat hb)
    | (go_at_call 5; (with_reducible refine (C5q.out _ (by repeat (first | exact Below.refl _ _ | refine below_step ?_ L5.out | refine below_step ?_ L6.out | refine below_step ?_ L7.out | refine below_step ?_ L8.out | refine below_drew1 ?_))).mono ?_); rintro x' w6 ⟨⟨E3, g3, E4, g4, rfl, hat⟩, hb⟩; have HAq := Aside0.mk hat; have L6 := Aside0.mk hb; clear hat hb)
    | (go_at_call 4; refine (C4.out _ _ _ _ _ _ _ _ _ (At_below HAp.out (by repeat (first | exact Below.refl _ _ | refine below_step ?_ L5.out | refine below_step ?_ L6.out | refine below_step ?_ L7.out | refine below_step ?_ L8.out | refine below_drew1 ?_))) (At_below HAq.out (by repeat (first | exact Below.refl _ _ | refine below_step ?_ L5.out | refine below_step ?_ L6.out | refine below_step ?_ L7.out | refine below_step ?_ L8.out | refine below_drew1 ?_)))).mono ?_; rintro x' w7 ⟨⟨r1, rfl, h1⟩, hb⟩; have H1 := Aside0.mk h1; have L7 := Aside0.mk hb; clear h1 hb)
    | (go_at_call 6; refine (C6.out _ (by repeat (first | exact Below.refl _ _ | refine below_step ?_ L5.out | refine below_step ?_ L6.out | refine below_step ?_ L7.out | refine below_step ?_ L8.out | refine below_drew1 ?_))).mono ?_; rintro x' w8 ⟨⟨r2, rfl, h2⟩, hb⟩; have H2 := Aside0.mk h2; have L8 := Aside0.mk hb; clear h2 hb))
  all_goals
    have he : (r1 == r2) = true := by
      have : r1 = r2 := Bool.eq_iff_iff.2 (H1.out.trans H2.out.symm)
      simp [this]
    go_wp2_with fail
    go_ret
    exact ⟨by first | rfl | (rw [he]; rfl), below_step BB.out (by repeat (first | exact Below.refl _ _ | refine below_step ?_ L5.out | refine below_step ?_ L6.out | refine below_step ?_ L7.out | refine below_step ?_ L8.out | refine below_drew1 ?_))⟩
end Go.Proofs.YtjomofepephodaaGreat.PEquivShapes
