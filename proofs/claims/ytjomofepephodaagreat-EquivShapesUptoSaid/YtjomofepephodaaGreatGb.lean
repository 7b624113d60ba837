/-
  The size of package wf, its things, and what its clauses ask of one. Conditions: what each theorem names.
-/
import Derived.Test.YtjomofepephodaaGreatGa
set_option linter.unusedVariables false
set_option linter.unusedSimpArgs false
namespace Go.Proofs.YtjomofepephodaaGreat.PEquivShapes
open Go.RowKit
open Go.Proofs.YtjomofepephodaaGreatW.PrintWords Go.Proofs.YtjomofepephodaaGreatW.PrintLast Go.Proofs.YtjomofepephodaaGreatW.PrintMore
theorem kept_cell {w w' : World} (h : Below w.heap.size w w') {a : Addr} {v : Value} (hc : w.cell? a = some v) : w'.cell? a = some v := (h.cell (World.block_lt_of_cell? w a hc)).trans hc
theorem ints_newC (w : World) (l : List Int) (h : l.length ≤ 9223372036854775807) : (Kd.int .i64).C (w.alloc (.cells (l.map (Value.int .i64)).toArray 3)) (some ⟨w.heap.size, 0, none⟩) l.length l := by
 rcases ints_new w l with h1 | h1
 ·exact h1
 ·omega
theorem ints_at (w : World) (l : List Int) {m : Nat} (hm : m = w.heap.size) (h : l.length ≤ 9223372036854775807) : (Kd.int .i64).C (w.alloc (.cells (l.map (Value.int .i64)).toArray 3)) (some ⟨m, 0, none⟩) l.length l := hm ▸ ints_newC w l h
theorem u64_in {x : Int} (h0 : 0 ≤ x) (h1 : x ≤ 18446744073709551615) : IntKind.u64.wrap x = x := Int.emod_eq_of_lt h0 (by show x < 18446744073709551616; omega)
set_option maxRecDepth 4000 in
set_option maxHeartbeats 2000000 in
theorem size_any (N : Nat) : ∀ (l : List S52) (A : Option Addr) (c : Nat) (w : World), S52.bulks l ≤ N → S52.allFit l → k52.C w A l.length l → l.length ≤ c →
  Calls Tryz.prog 65 #[.slice A l.length c] w fun x w' => x = .returned (.int .i64 (S52.sizs 0 l)) ∧ Below w.heap.size w w' := by
 induction N using Nat.strongRecOn with
 | _ N ih =>
  intro l A c w hN hF h3 hc
  have hu := Tryz.underlying23
  have hll : (l.length : Int) ≤ 9223372036854775807 := by have := h3.2.1; omega
  go_enter Tryz.func65, Tryz.ntmps65
  go_wp2_with fail
  go_loopg [3, 8] (l.length) (fun m v3 v wr => ∃ i : Nat, v3 = .int .i64 ((l.take i).foldl S52.siz 0) ∧ v = .int .i64 i ∧ m = l.length - i ∧ i ≤ l.length ∧ Below w.heap.size w wr)
  case atStart => exact ⟨0, rfl, rfl, by omega, by omega, Below.refl _ _⟩
  case round =>
   obtain ⟨i, rfl, rfl, rfl, hi, B⟩ := hrel
   by_cases hlt : i < l.length
   ·obtain ⟨ad, A5, c5, A9, c9, A12, c12, A13, c13, rfl, x0, x1, x2, x3, x4, x5, x6, x7, x8, x9, x10, x11, x12, x13, l5, g5, l9, g9, l12, g12, l13, g13⟩ := at_T52 h3 (i : Int) (by omega) (by omega)
    have hbk := S52.bulk_in hlt
    have hft := S52.fit_in hF hlt
    have hs := foldl_take S52.siz 0 z52 l i hlt
    have hd : rd_T52 l i = l.getD i z52 := by simp [rd_T52]
    rw [← hd] at hs
    clear hd
    simp only [Int.toNat_natCast] at x0 x1 x2 x3 x4 x5 x6 x7 x8 x9 x10 x11 x12 x13
    replace x0 := kept_cell B x0
    replace x1 := kept_cell B x1
    replace x2 := kept_cell B x2
    replace x3 := kept_cell B x3
    replace x4 := kept_cell B x4
    replace x5 := kept_cell B x5
    replace x6 := kept_cell B x6
    replace x7 := kept_cell B x7
    replace x8 := kept_cell B x8
    replace x9 := kept_cell B x9
    replace x10 := kept_cell B x10
    replace x11 := kept_cell B x11
    replace x12 := kept_cell B x12
    replace x13 := kept_cell B x13
    have hlt' : (i : Int) < (l.length : Int) := by omega
    generalize rd_T52 l i = d at *
    obtain ⟨k, s, a, e, lo, hi', t, u⟩ := d
    simp only at x0 x1 x2 x3 x4 x5 x6 x7 x8 x9 x10 x11 x12 x13 l5 g5 l9 g9 l12 g12 l13 g13
    obtain ⟨hfk, hfa, hfe, hflo, hfhi, hft', hfu⟩ := hft
    simp only [S52.bulk] at hbk
    generalize (l.take i).foldl S52.siz 0 = n at *
    have HS := Aside0.mk hs
    have BB := Aside0.mk B
    have L5 := Aside0.mk l5
    have L9 := Aside0.mk l9
    have L12 := Aside0.mk l12
    have L13 := Aside0.mk l13
    have G5 := Aside0.mk g5
    have G9 := Aside0.mk g9
    have G12 := Aside0.mk g12
    have G13 := Aside0.mk g13
    have FT := Aside0.mk hft'
    have FU := Aside0.mk hfu
    have FLO := Aside0.mk hflo
    have FHI := Aside0.mk hfhi
    have BK := Aside0.mk hbk
    have H3 := Aside0.mk h3
    have HN := Aside0.mk hN
    have IH := Aside0.mk ih
    clear hs B l5 l9 l12 l13 g5 g9 g12 g13 hft' hfu hflo hfhi hbk h3 hN hfk hfa hfe hF ih
    go_upto_region 6 with (go_at_call 86; refine (plus_any [n, 1] (some ⟨wr.heap.size + 1, 0, none⟩) 2 _ (ints_at _ [n, 1] (by simp) (by simp)) (by simp)).mono ?_; rintro x' w' ⟨rfl, rfl⟩)
    obtain ⟨W2, hW2⟩ : ∃ W2, (wr.alloc (.cells #[.int .i64 k, .string s, .int .i64 a.f0, .int .u64 a.f1, .string a.f2, .slice A5 a.f3.length c5, .int .i64 e.f0, .int .u64 e.f1, .string e.f2, .slice A9 e.f3.length c9, .int .u64 lo, .int .u64 hi', .slice A12 t.length c12, .slice A13 u.length c13] 52)).alloc (.cells #[.int .i64 n, .int .i64 1] 3) = W2 := ⟨_, rfl⟩
    have y0 : W2.cell? ⟨wr.heap.size, 0, none⟩ = some (.int .i64 k) := by rw [← hW2]; simp [go_sem]
    have y1 : W2.cell? ⟨wr.heap.size, 1, none⟩ = some (.string s) := by rw [← hW2]; simp [go_sem]
    have y2 : W2.cell? ⟨wr.heap.size, 2, none⟩ = some (.int .i64 a.f0) := by rw [← hW2]; simp [go_sem]
    have y3 : W2.cell? ⟨wr.heap.size, 3, none⟩ = some (.int .u64 a.f1) := by rw [← hW2]; simp [go_sem]
    have y4 : W2.cell? ⟨wr.heap.size, 4, none⟩ = some (.string a.f2) := by rw [← hW2]; simp [go_sem]
    have y5 : W2.cell? ⟨wr.heap.size, 5, none⟩ = some (.slice A5 a.f3.length c5) := by rw [← hW2]; simp [go_sem]
    have y6 : W2.cell? ⟨wr.heap.size, 6, none⟩ = some (.int .i64 e.f0) := by rw [← hW2]; simp [go_sem]
    have y7 : W2.cell? ⟨wr.heap.size, 7, none⟩ = some (.int .u64 e.f1) := by rw [← hW2]; simp [go_sem]
    have y8 : W2.cell? ⟨wr.heap.size, 8, none⟩ = some (.string e.f2) := by rw [← hW2]; simp [go_sem]
    have y9 : W2.cell? ⟨wr.heap.size, 9, none⟩ = some (.slice A9 e.f3.length c9) := by rw [← hW2]; simp [go_sem]
    have y10 : W2.cell? ⟨wr.heap.size, 10, none⟩ = some (.int .u64 lo) := by rw [← hW2]; simp [go_sem]
    have y11 : W2.cell? ⟨wr.heap.size, 11, none⟩ = some (.int .u64 hi') := by rw [← hW2]; simp [go_sem]
    have y12 : W2.cell? ⟨wr.heap.size, 12, none⟩ = some (.slice A12 t.length c12) := by rw [← hW2]; simp [go_sem]
    have y13 : W2.cell? ⟨wr.heap.size, 13, none⟩ = some (.slice A13 u.length c13) := by rw [← hW2]; simp [go_sem]
    have B2 : Aside0 (Below w.heap.size w W2) := ⟨by rw [← hW2]; exact below_alloc (below_alloc BB.out _) _⟩
    rw [hW2]
    clear hW2 BB x0 x1 x2 x3 x4 x5 x6 x7 x8 x9 x10 x11 x12 x13
    generalize hn1 : plusF [n, 1] = n1 at *
    have N1 := Aside0.mk hn1
    clear hn1
    by_cases hk1 : k = 1
    ·subst hk1
     go_wp2_with (first | (go_at_call 87; refine (weigh_any _ e A9 c9 _ (Nat.le_refl _) (Kd.C_below G9.out (by repeat (first | (with_reducible first | exact B2.out | apply below_alloc | apply pw_below_drewN | apply below_drew1) | exact B2.out)))).mono ?_; rintro x' w5 ⟨rfl, hb⟩; have B5 := Aside0.mk (below_step (by repeat (first | (with_reducible first | exact B2.out | apply below_alloc | apply pw_below_drewN | apply below_drew1) | exact B2.out)) hb); clear hb) | (go_at_call 86; refine (plus_any [n1, e.wei] (some ⟨w5.heap.size, 0, none⟩) 2 _ (ints_at _ [n1, e.wei] (by simp) (by simp)) (by simp)).mono ?_; rintro x' w' ⟨rfl, rfl⟩))
     go_roundg (l.length - (i + 1))
     case measure => omega
     case rel => exact ⟨i + 1, by rw [HS.out]; simp [S52.siz, N1.out], by simp, rfl, by omega, (by repeat (first | (with_reducible first | exact B5.out | apply below_alloc | apply pw_below_drewN | apply below_drew1) | exact B5.out))⟩
    ·by_cases hk2 : k = 2
     ·subst hk2
      clear hk1
      go_upto_region 10 with (fail)
      have HK := Aside0.mk (show ∀ w', Below W2.heap.size W2 w' → w'.cell? ⟨wr.heap.size, 2, none⟩ = some (.int .i64 a.f0) ∧ w'.cell? ⟨wr.heap.size, 3, none⟩ = some (.int .u64 a.f1) ∧ w'.cell? ⟨wr.heap.size, 4, none⟩ = some (.string a.f2) ∧ w'.cell? ⟨wr.heap.size, 5, none⟩ = some (.slice A5 a.f3.length c5) ∧ w'.cell? ⟨wr.heap.size, 6, none⟩ = some (.int .i64 e.f0) ∧ w'.cell? ⟨wr.heap.size, 7, none⟩ = some (.int .u64 e.f1) ∧ w'.cell? ⟨wr.heap.size, 8, none⟩ = some (.string e.f2) ∧ w'.cell? ⟨wr.heap.size, 9, none⟩ = some (.slice A9 e.f3.length c9) from fun w' hb => ⟨kept_cell hb y2, kept_cell hb y3, kept_cell hb y4, kept_cell hb y5, kept_cell hb y6, kept_cell hb y7, kept_cell hb y8, kept_cell hb y9⟩)
      have C2 := Aside0.mk (Below.refl W2.heap.size W2)
      have HLL := Aside0.mk hll
      clear y0 y1 y2 y3 y4 y5 y6 y7 y8 y9 y10 y11 y12 y13 hu hll hlt' hc
      have T5 := Aside0.mk trivial
      have T6 := Aside0.mk trivial
      have hS0 := HK.out W2 C2.out
      go_region_held3 (fun w' => w'.cell? ⟨wr.heap.size, 2, none⟩ = some (.int .i64 a.f0) ∧ w'.cell? ⟨wr.heap.size, 3, none⟩ = some (.int .u64 a.f1) ∧ w'.cell? ⟨wr.heap.size, 4, none⟩ = some (.string a.f2) ∧ w'.cell? ⟨wr.heap.size, 5, none⟩ = some (.slice A5 a.f3.length c5) ∧ w'.cell? ⟨wr.heap.size, 6, none⟩ = some (.int .i64 e.f0) ∧ w'.cell? ⟨wr.heap.size, 7, none⟩ = some (.int .u64 e.f1) ∧ w'.cell? ⟨wr.heap.size, 8, none⟩ = some (.string e.f2) ∧ w'.cell? ⟨wr.heap.size, 9, none⟩ = some (.slice A9 e.f3.length c9))
       (first | exact hS0 | (refine HK.out _ ?_; (repeat (first | (with_reducible first | exact C6.out | apply below_alloc | apply pw_below_drewN | apply below_drew1) | exact C6.out)); done) | (refine HK.out _ ?_; (repeat (first | (with_reducible first | exact C5.out | apply below_alloc | apply pw_below_drewN | apply below_drew1) | exact C5.out)); done) | (refine HK.out _ ?_; (repeat (first | (with_reducible first | exact C2.out | apply below_alloc | apply pw_below_drewN | apply below_drew1) | exact C2.out)); done))
       (first
        | (go_at_call 87; clear T5; refine (weigh_any _ a A5 c5 _ (Nat.le_refl _) (Kd.C_below G5.out (by repeat (first | (with_reducible first | exact B2.out | apply below_alloc | apply pw_below_drewN | apply below_drew1) | exact B2.out)))).mono ?_; rintro x' w5 ⟨rfl, hb⟩; have B5 := Aside0.mk (below_step (by repeat (first | (with_reducible first | exact B2.out | apply below_alloc | apply pw_below_drewN | apply below_drew1) | exact B2.out)) hb); have C5 := Aside0.mk (below_step (by repeat (first | (with_reducible first | exact C2.out | apply below_alloc | apply pw_below_drewN | apply below_drew1) | exact C2.out)) hb); clear hb)
        | (go_at_call 87; clear T6; refine (weigh_any _ e A9 c9 _ (Nat.le_refl _) (Kd.C_below G9.out (by repeat (first | (with_reducible first | exact B5.out | apply below_alloc | apply pw_below_drewN | apply below_drew1) | exact B5.out)))).mono ?_; rintro x' w6 ⟨rfl, hb⟩; have B6 := Aside0.mk (below_step (by repeat (first | (with_reducible first | exact B5.out | apply below_alloc | apply pw_below_drewN | apply below_drew1) | exact B5.out)) hb); have C6 := Aside0.mk (below_step (by repeat (first | (with_reducible first | exact C5.out | apply below_alloc | apply pw_below_drewN | apply below_drew1) | exact C5.out)) hb); clear hb)
        | (go_at_call 86; refine (plus_any [n1, a.wei, e.wei] (some ⟨w6.heap.size, 0, none⟩) 3 _ (ints_at _ [n1, a.wei, e.wei] (by simp) (by simp)) (by simp)).mono ?_; rintro x' w' ⟨rfl, rfl⟩))
      go_wp2_with fail
      go_roundg (l.length - (i + 1))
      case measure => omega
      case rel => exact ⟨i + 1, by rw [HS.out]; simp [S52.siz, N1.out], (by first | (simp; done) | (simp; unfold wrap64; have := HLL.out; omega)), rfl, by omega, (by repeat (first | (with_reducible first | exact B6.out | apply below_alloc | apply pw_below_drewN | apply below_drew1) | exact B6.out))⟩
     ·by_cases hk3 : k = 3
      ·subst hk3
       clear hk1 hk2
       go_upto_region 12 with (fail)
       have HK := Aside0.mk (show ∀ w', Below W2.heap.size W2 w' → w'.cell? ⟨wr.heap.size, 6, none⟩ = some (.int .i64 e.f0) ∧ w'.cell? ⟨wr.heap.size, 7, none⟩ = some (.int .u64 e.f1) ∧ w'.cell? ⟨wr.heap.size, 8, none⟩ = some (.string e.f2) ∧ w'.cell? ⟨wr.heap.size, 9, none⟩ = some (.slice A9 e.f3.length c9) ∧ w'.cell? ⟨wr.heap.size, 12, none⟩ = some (.slice A12 t.length c12) ∧ w'.cell? ⟨wr.heap.size, 13, none⟩ = some (.slice A13 u.length c13) from fun w' hb => ⟨kept_cell hb y6, kept_cell hb y7, kept_cell hb y8, kept_cell hb y9, kept_cell hb y12, kept_cell hb y13⟩)
       have C2 := Aside0.mk (Below.refl W2.heap.size W2)
       have HLL := Aside0.mk hll
       clear y0 y1 y2 y3 y4 y5 y6 y7 y8 y9 y10 y11 y12 y13 hu hll hlt' hc
       have T5 := Aside0.mk trivial
       have T6 := Aside0.mk trivial
       have T7 := Aside0.mk trivial
       have hS0 := HK.out W2 C2.out
       go_region_held3 (fun w' => w'.cell? ⟨wr.heap.size, 6, none⟩ = some (.int .i64 e.f0) ∧ w'.cell? ⟨wr.heap.size, 7, none⟩ = some (.int .u64 e.f1) ∧ w'.cell? ⟨wr.heap.size, 8, none⟩ = some (.string e.f2) ∧ w'.cell? ⟨wr.heap.size, 9, none⟩ = some (.slice A9 e.f3.length c9) ∧ w'.cell? ⟨wr.heap.size, 12, none⟩ = some (.slice A12 t.length c12) ∧ w'.cell? ⟨wr.heap.size, 13, none⟩ = some (.slice A13 u.length c13))
        (first | exact hS0 | (refine HK.out _ ?_; (repeat (first | (with_reducible first | exact C7.out | apply below_alloc | apply pw_below_drewN | apply below_drew1) | exact C7.out)); done) | (refine HK.out _ ?_; (repeat (first | (with_reducible first | exact C6.out | apply below_alloc | apply pw_below_drewN | apply below_drew1) | exact C6.out)); done) | (refine HK.out _ ?_; (repeat (first | (with_reducible first | exact C5.out | apply below_alloc | apply pw_below_drewN | apply below_drew1) | exact C5.out)); done) | (refine HK.out _ ?_; (repeat (first | (with_reducible first | exact C2.out | apply below_alloc | apply pw_below_drewN | apply below_drew1) | exact C2.out)); done))
        (first
         | (go_at_call 87; clear T5; refine (weigh_any _ e A9 c9 _ (Nat.le_refl _) (Kd.C_below G9.out (by repeat (first | (with_reducible first | exact B2.out | apply below_alloc | apply pw_below_drewN | apply below_drew1) | exact B2.out)))).mono ?_; rintro x' w5 ⟨rfl, hb⟩; have B5 := Aside0.mk (below_step (by repeat (first | (with_reducible first | exact B2.out | apply below_alloc | apply pw_below_drewN | apply below_drew1) | exact B2.out)) hb); have C5 := Aside0.mk (below_step (by repeat (first | (with_reducible first | exact C2.out | apply below_alloc | apply pw_below_drewN | apply below_drew1) | exact C2.out)) hb); clear hb)
         | (go_at_call 65; clear T6; refine (IH.out (S52.bulks t) (by have := BK.out; have := HN.out; omega) t A12 c12 _ (Nat.le_refl _) FT.out (Kd.C_below G12.out (by repeat (first | (with_reducible first | exact B5.out | apply below_alloc | apply pw_below_drewN | apply below_drew1) | exact B5.out))) L12.out).mono ?_; rintro x' w6 ⟨rfl, hb⟩; have B6 := Aside0.mk (below_step (by repeat (first | (with_reducible first | exact B5.out | apply below_alloc | apply pw_below_drewN | apply below_drew1) | exact B5.out)) hb); have C6 := Aside0.mk (below_step (by repeat (first | (with_reducible first | exact C5.out | apply below_alloc | apply pw_below_drewN | apply below_drew1) | exact C5.out)) hb); clear hb)
         | (go_at_call 65; clear T7; refine (IH.out (S52.bulks u) (by have := BK.out; have := HN.out; omega) u A13 c13 _ (Nat.le_refl _) FU.out (Kd.C_below G13.out (by repeat (first | (with_reducible first | exact B6.out | apply below_alloc | apply pw_below_drewN | apply below_drew1) | exact B6.out))) L13.out).mono ?_; rintro x' w7 ⟨rfl, hb⟩; have B7 := Aside0.mk (below_step (by repeat (first | (with_reducible first | exact B6.out | apply below_alloc | apply pw_below_drewN | apply below_drew1) | exact B6.out)) hb); have C7 := Aside0.mk (below_step (by repeat (first | (with_reducible first | exact C6.out | apply below_alloc | apply pw_below_drewN | apply below_drew1) | exact C6.out)) hb); clear hb)
         | (go_at_call 86; refine (plus_any [n1, e.wei, S52.sizs 0 t, S52.sizs 0 u] (some ⟨w7.heap.size, 0, none⟩) 4 _ (ints_at _ [n1, e.wei, S52.sizs 0 t, S52.sizs 0 u] (by simp) (by simp)) (by simp)).mono ?_; rintro x' w' ⟨rfl, rfl⟩))
       go_wp2_with fail
       go_roundg (l.length - (i + 1))
       case measure => omega
       case rel => exact ⟨i + 1, by rw [HS.out]; simp [S52.siz, N1.out], (by first | (simp; done) | (simp; unfold wrap64; have := HLL.out; omega)), rfl, by omega, (by repeat (first | (with_reducible first | exact B7.out | apply below_alloc | apply pw_below_drewN | apply below_drew1) | exact B7.out))⟩
      ·by_cases hk4 : k = 4
       ·subst hk4
        clear hk1 hk2 hk3
        by_cases hlo : lo < hi'
        ·have hw : IntKind.u64.wrap (hi' - lo) = hi' - lo := u64_in (by omega) (by have h1 := FLO.out; have h2 := FHI.out; unfold U64 at h1 h2; omega)
         have HW := Aside0.mk hw
         have hsz := Aside0.mk (S52.top_sizs t 0 top_zero)
         generalize hst : S52.sizs 0 t = st at *
         have HST := Aside0.mk hst
         clear hst
         obtain ⟨p1, hp1⟩ : ∃ p1, plusF [1, st] = p1 := ⟨_, rfl⟩
         obtain ⟨tf, htf⟩ : ∃ tf, timesF (hi' - lo) p1 = tf := ⟨_, rfl⟩
         obtain ⟨r1, hr1⟩ : ∃ r1, plusF [n1, tf] = r1 := ⟨_, rfl⟩
         have HP1 := Aside0.mk hp1
         have HTF := Aside0.mk htf
         have HR1 := Aside0.mk hr1
         have TP1 := Aside0.mk (hp1 ▸ top2 top_one hsz.out)
         clear hp1 htf hr1
         go_upto_region 15 with (fail)
         have HK := Aside0.mk (show ∀ w', Below W2.heap.size W2 w' → w'.cell? ⟨wr.heap.size, 10, none⟩ = some (.int .u64 lo) ∧ w'.cell? ⟨wr.heap.size, 11, none⟩ = some (.int .u64 hi') ∧ w'.cell? ⟨wr.heap.size, 12, none⟩ = some (.slice A12 t.length c12) from fun w' hb => ⟨kept_cell hb y10, kept_cell hb y11, kept_cell hb y12⟩)
         have C2 := Aside0.mk (Below.refl W2.heap.size W2)
         have HLL := Aside0.mk hll
         clear y0 y1 y2 y3 y4 y5 y6 y7 y8 y9 y10 y11 y12 y13 hu hll hlt' hc
         have T5 := Aside0.mk trivial
         have T6 := Aside0.mk trivial
         have T7 := Aside0.mk trivial
         have T8 := Aside0.mk trivial
         have hS0 := HK.out W2 C2.out
         go_region_held3 (fun w' => w'.cell? ⟨wr.heap.size, 10, none⟩ = some (.int .u64 lo) ∧ w'.cell? ⟨wr.heap.size, 11, none⟩ = some (.int .u64 hi') ∧ w'.cell? ⟨wr.heap.size, 12, none⟩ = some (.slice A12 t.length c12))
          (first | exact hS0 | (refine HK.out _ ?_; (repeat (first | (with_reducible first | exact C8.out | apply below_alloc | apply pw_below_drewN | apply below_drew1) | exact C8.out)); done) | (refine HK.out _ ?_; (repeat (first | (with_reducible first | exact C7.out | apply below_alloc | apply pw_below_drewN | apply below_drew1) | exact C7.out)); done) | (refine HK.out _ ?_; (repeat (first | (with_reducible first | exact C6.out | apply below_alloc | apply pw_below_drewN | apply below_drew1) | exact C6.out)); done) | (refine HK.out _ ?_; (repeat (first | (with_reducible first | exact C5.out | apply below_alloc | apply pw_below_drewN | apply below_drew1) | exact C5.out)); done) | (refine HK.out _ ?_; (repeat (first | (with_reducible first | exact C2.out | apply below_alloc | apply pw_below_drewN | apply below_drew1) | exact C2.out)); done))
          (first
           | (go_at_call 65; clear T5; refine (IH.out (S52.bulks t) (by have := BK.out; have := HN.out; omega) t A12 c12 _ (Nat.le_refl _) FT.out (Kd.C_below G12.out (by repeat (first | (with_reducible first | exact B2.out | apply below_alloc | apply pw_below_drewN | apply below_drew1) | exact B2.out))) L12.out).mono ?_; rw [HST.out]; rintro x' w5 ⟨rfl, hb⟩; have B5 := Aside0.mk (below_step (by repeat (first | (with_reducible first | exact B2.out | apply below_alloc | apply pw_below_drewN | apply below_drew1) | exact B2.out)) hb); have C5 := Aside0.mk (below_step (by repeat (first | (with_reducible first | exact C2.out | apply below_alloc | apply pw_below_drewN | apply below_drew1) | exact C2.out)) hb); clear hb)
           | (go_at_call 86; clear T6; refine (plus_any [1, st] (some ⟨w5.heap.size, 0, none⟩) 2 _ (ints_at _ [1, st] (by simp) (by simp)) (by simp)).mono ?_; rw [HP1.out]; rintro x' w' ⟨rfl, rfl⟩)
           | (go_at_call 88; clear T7; refine calls_of_args (args' := #[.int .u64 (hi' - lo), .int .i64 p1]) (by first | rfl | simp [HW.out]) ?_; refine (times_any (hi' - lo) p1 ⟨by omega, by have h1 := FLO.out; have h2 := FHI.out; unfold U64 at h1 h2; omega⟩ TP1.out.1 TP1.out.2 _).mono ?_; rw [HTF.out]; rintro x' w' ⟨rfl, rfl⟩)
           | (go_at_call 86; clear T8; refine (plus_any [n1, tf] (some ⟨w5.heap.size + 1, 0, none⟩) 2 _ (ints_at _ [n1, tf] (by simp) (by simp)) (by simp)).mono ?_; rw [HR1.out]; rintro x' w' ⟨rfl, rfl⟩))
         go_wp2_with fail
         go_roundg (l.length - (i + 1))
         case measure => omega
         case rel => exact ⟨i + 1, by rw [HS.out]; simp [S52.siz, N1.out, hlo, HST.out, HP1.out, HTF.out, HR1.out], (by first | (simp; done) | (simp; unfold wrap64; have := HLL.out; omega)), rfl, by omega, (by repeat (first | (with_reducible first | exact B5.out | apply below_alloc | apply pw_below_drewN | apply below_drew1) | exact B5.out))⟩
        ·go_wp2_with fail
         go_roundg (l.length - (i + 1))
         case measure => omega
         case rel => exact ⟨i + 1, by rw [HS.out]; simp [S52.siz, N1.out, (show ¬ lo < hi' by omega)], (by first | (simp; done) | (simp; unfold wrap64; have := HLL.out; omega)), rfl, by omega, (by repeat (first | (with_reducible first | exact B2.out | apply below_alloc | apply pw_below_drewN | apply below_drew1) | exact B2.out))⟩
       ·have e1 : (k == 1) = false := by simpa using hk1
        have e2 : (k == 2) = false := by simpa using hk2
        have e3 : (k == 3) = false := by simpa using hk3
        have e4 : (k == 4) = false := by simpa using hk4
        have K1 := Aside0.mk hk1
        have K2 := Aside0.mk hk2
        have K3 := Aside0.mk hk3
        have K4 := Aside0.mk hk4
        clear hk1 hk2 hk3 hk4
        go_wp2_with fail
        go_roundg (l.length - (i + 1))
        case measure => omega
        case rel => exact ⟨i + 1, by rw [HS.out]; simp [S52.siz, N1.out, K1.out, K2.out, K3.out, K4.out], (by first | (simp; done) | (simp; unfold wrap64; have := HLL.out; omega)), rfl, by omega, (by repeat (first | (with_reducible first | exact B2.out | apply below_alloc | apply pw_below_drewN | apply below_drew1) | exact B2.out))⟩
   ·have hlt' : ¬ ((i : Int) < (l.length : Int)) := by omega
    have hie : i = l.length := by omega
    subst hie
    have he : S52.sizs 0 l = (l.take l.length).foldl S52.siz 0 := by rw [List.take_length, S52.sizs_eq]
    generalize (l.take l.length).foldl S52.siz 0 = n at *
    have HE := Aside0.mk he
    clear he
    go_wp2_with fail
    go_ret
    exact ⟨by rw [HE.out]; rfl, B⟩
end Go.Proofs.YtjomofepephodaaGreat.PEquivShapes
namespace Go.Proofs.YtjomofepephodaaGreat.PEquivShapes
open Go.RowKit
open Go.Proofs.YtjomofepephodaaGreatW.PrintWords Go.Proofs.YtjomofepephodaaGreatW.PrintLast Go.Proofs.YtjomofepephodaaGreatW.PrintMore
/-- an expression's cells lie at a place -/
def ExAt (w : World) (b o : Nat) (e : S50) : Prop :=
 ∃ A c, w.cell? ⟨b, o, none⟩ = some (.int .i64 e.f0) ∧ w.cell? ⟨b, o + 1, none⟩ = some (.int .u64 e.f1) ∧ w.cell? ⟨b, o + 2, none⟩ = some (.string e.f2) ∧ w.cell? ⟨b, o + 3, none⟩ = some (.slice A e.f3.length c) ∧ e.f3.length ≤ c ∧ k50.C w A e.f3.length e.f3
/-- what a thing is -/
inductive TH where
 | decl
 | stmt (s : S52) (deep : Int)
 | expr (e : S50)
/-- a statement's cells lie at a place: those that the clauses read -/
def StAt (w : World) (b o : Nat) (s : S52) : Prop :=
 w.cell? ⟨b, o, none⟩ = some (.int .i64 s.f0) ∧ w.cell? ⟨b, o + 1, none⟩ = some (.string s.f1) ∧ w.cell? ⟨b, o + 10, none⟩ = some (.int .u64 s.f4) ∧ w.cell? ⟨b, o + 11, none⟩ = some (.int .u64 s.f5)
/-- the pointers of a thing: to its statement, to its expression; its depth -/
def ThAt (w : World) : TH → Option Addr → Option Addr → Int → Prop
 | .decl, ps, pe, d => ps = none ∧ pe = none ∧ d = 0
 | .stmt s deep, ps, pe, d => (∃ b o, ps = some ⟨b, o, none⟩ ∧ StAt w b o s) ∧ pe = none ∧ d = deep
 | .expr e, ps, pe, d => ps = none ∧ (∃ b o, pe = some ⟨b, o, none⟩ ∧ ExAt w b o e) ∧ d = 0
/-- a thing as a value -/
def thV (n : Int) (pd ps pe : Option Addr) (d : Int) (pl : Option Addr) : Value := .agg #[.int .i64 n, .pointer pd, .pointer ps, .pointer pe, .int .i64 d, .pointer pl]
/-- the name that a thing uses -/
def TH.use : TH → ByteArray × Bool
 | .decl => (⟨#[]⟩, false)
 | .stmt s _ => if s.f0 = 3 ∨ s.f0 = 4 then (⟨#[]⟩, false) else (s.f1, true)
 | .expr e => if e.f0 = 2 ∨ e.f0 = 3 then (e.f2, true) else (⟨#[]⟩, false)
set_option maxHeartbeats 1000000 in
theorem use_any (t : TH) (n : Int) (pd ps pe : Option Addr) (d : Int) (pl : Option Addr) (w : World) (h : ThAt w t ps pe d) :
  Calls Tryz.prog 57 #[thV n pd ps pe d pl] w fun x w' => x = .returned (.tuple #[.string t.use.1, .bool t.use.2]) ∧ Below w.heap.size w w' := by
 unfold thV
 have B := below_alloc (Below.refl w.heap.size w) (.cells #[.int .i64 n, .pointer pd, .pointer ps, .pointer pe, .int .i64 d, .pointer pl] 95)
 cases t with
 | decl =>
  obtain ⟨rfl, rfl, rfl⟩ := h
  go_enter Tryz.func57, Tryz.ntmps57
  go_wp2_with fail
  go_ret2
  exact ⟨rfl, B⟩
 | stmt s deep =>
  obtain ⟨⟨b, o, rfl, h0, h1, _, _⟩, rfl, rfl⟩ := h
  replace h0 := kept_cell B h0
  replace h1 := kept_cell B h1
  obtain ⟨k, nm, a, e, lo, hi, t, u⟩ := s
  simp only at h0 h1
  by_cases k3 : k = 3
  ·subst k3
   go_enter Tryz.func57, Tryz.ntmps57
   go_wp2_with fail
   go_ret2
   exact ⟨by simp [TH.use], B⟩
  ·by_cases k4 : k = 4
   ·subst k4
    clear k3
    go_enter Tryz.func57, Tryz.ntmps57
    go_wp2_with fail
    go_ret2
    exact ⟨by simp [TH.use], B⟩
   ·have e3 : (k == 3) = false := by simpa using k3
    have e4 : (k == 4) = false := by simpa using k4
    have e3' : (k != 3) = true := by simpa using k3
    have e4' : (k != 4) = true := by simpa using k4
    have K3 := Aside0.mk k3
    have K4 := Aside0.mk k4
    clear k3 k4
    go_enter Tryz.func57, Tryz.ntmps57
    go_wp2_with fail
    go_ret2
    exact ⟨by simp [TH.use, K3.out, K4.out], B⟩
 | expr e =>
  obtain ⟨rfl, ⟨b, o, rfl, A, c, h0, h1, h2, h3, _, _⟩, rfl⟩ := h
  replace h0 := kept_cell B h0
  replace h2 := kept_cell B h2
  clear h1 h3
  obtain ⟨k, nu, nm, l⟩ := e
  simp only at h0 h2
  by_cases k3 : k = 2
  ·subst k3
   go_enter Tryz.func57, Tryz.ntmps57
   go_wp2_with fail
   go_ret2
   exact ⟨by simp [TH.use], B⟩
  ·by_cases k4 : k = 3
   ·subst k4
    clear k3
    go_enter Tryz.func57, Tryz.ntmps57
    go_wp2_with fail
    go_ret2
    exact ⟨by simp [TH.use], B⟩
   ·have e3 : (k == 2) = false := by simpa using k3
    have e4 : (k == 3) = false := by simpa using k4
    have K3 := Aside0.mk k3
    have K4 := Aside0.mk k4
    clear k3 k4
    go_enter Tryz.func57, Tryz.ntmps57
    go_wp2_with fail
    go_ret2
    exact ⟨by simp [TH.use, K3.out, K4.out], B⟩
end Go.Proofs.YtjomofepephodaaGreat.PEquivShapes
namespace Go.Proofs.YtjomofepephodaaGreat.PEquivShapes
open Go.RowKit
open Go.Proofs.YtjomofepephodaaGreatW.PrintWords Go.Proofs.YtjomofepephodaaGreatW.PrintLast Go.Proofs.YtjomofepephodaaGreatW.PrintMore
set_option maxHeartbeats 400000 in
theorem c8_any (p : PR) (A3 : Option Addr) (c3 : Nat) (A4 : Option Addr) (c4 : Nat) (w : World) (h : p.At w A3 c3 A4 c4) :
  Calls Tryz.prog 51 #[p.cells A3 c3 A4 c4] w fun e w' => e = .returned (.bool (decide (inW p.decls ≤ 4096))) ∧ Below w.heap.size w w' := by
 have B := below_alloc (Below.refl w.heap.size w) (.cells #[.string p.name, .int .i64 p.width, .int .i64 p.line, .slice A3 p.decls.length c3, .slice A4 p.body.length c4] 25)
 have h2 : p.At (w.alloc (.cells #[.string p.name, .int .i64 p.width, .int .i64 p.line, .slice A3 p.decls.length c3, .slice A4 p.body.length c4] 25)) A3 c3 A4 c4 := ⟨h.1, Kd.C_below h.2.1 B, h.2.2.1, Kd.C_below h.2.2.2 B⟩
 have H2 := Aside0.mk h2
 have BB := Aside0.mk B
 clear h2 h B
 unfold PR.cells
 generalize hi : inW p.decls = n
 have HI := Aside0.mk hi
 clear hi
 go_enter Tryz.func51, Tryz.ntmps51
 go_wp2_with (go_at_call 52; refine (inputs_any p A3 c3 A4 c4 _ H2.out).mono ?_; rw [HI.out]; rintro e w' ⟨rfl, hb⟩)
 go_ret
 exact ⟨rfl, below_step BB.out hb⟩
set_option maxHeartbeats 1000000 in
theorem c5_any (p : PR) (A3 : Option Addr) (c3 : Nat) (A4 : Option Addr) (c4 : Nat) (i : Nat) (w : World) (h : p.At w A3 c3 A4 c4) (hlt : i < p.decls.length) :
  Calls Tryz.prog 45 #[p.cells A3 c3 A4 c4, .int .i64 i] w fun e w' => e = .returned (.bool (!decide ((rd_T38 p.decls i).f2 = 0) && !powB (rd_T38 p.decls i).f2 256)) ∧ Below w.heap.size w w' := by
 obtain ⟨hl3, h3, hl4, h4⟩ := h
 unfold PR.cells
 have B := below_alloc (Below.refl w.heap.size w) (.cells #[.string p.name, .int .i64 p.width, .int .i64 p.line, .slice A3 p.decls.length c3, .slice A4 p.body.length c4] 25)
 have hu22 := Tryz.underlying22
 have hll : (p.decls.length : Int) ≤ 9223372036854775807 := by have := h3.2.1; omega
 obtain ⟨ad, A, c, rfl, x0, x1, x2, x3, _, _⟩ := at_T38 h3 (i : Int) (by omega) (by omega)
 simp only [Int.toNat_natCast] at x2
 replace x2 := kept_cell B x2
 clear x0 x1 x3
 have hlt' : (i : Int) < (p.decls.length : Int) := by omega
 generalize (rd_T38 p.decls i).f2 = m at *
 have BB := Aside0.mk B
 clear B
 generalize hp : powB m 256 = b
 have HP := Aside0.mk hp
 clear hp
 by_cases hm : m = 0
 ·subst hm
  go_enter Tryz.func45, Tryz.ntmps45
  go_wp2_with fail
  go_ret
  exact ⟨by simp, BB.out⟩
 ·have e1 : (m == 0) = false := by simpa using hm
  have e2 : (m != 0) = true := by simpa using hm
  have HM := Aside0.mk hm
  clear hm
  go_enter Tryz.func45, Tryz.ntmps45
  go_wp2_with (go_at_call 39; refine (power_any _ _ _).mono ?_; rw [HP.out]; rintro e w' ⟨rfl, rfl⟩)
  go_ret
  exact ⟨by simp [HM.out], BB.out⟩
end Go.Proofs.YtjomofepephodaaGreat.PEquivShapes
namespace Go.Proofs.YtjomofepephodaaGreat.PEquivShapes
open Go.RowKit
open Go.Proofs.YtjomofepephodaaGreatW.PrintWords Go.Proofs.YtjomofepephodaaGreatW.PrintLast Go.Proofs.YtjomofepephodaaGreatW.PrintMore
set_option maxHeartbeats 1000000 in
theorem c6_any (p : PR) (A3 : Option Addr) (c3 : Nat) (A4 : Option Addr) (c4 : Nat) (i : Nat) (w : World) (h : p.At w A3 c3 A4 c4) (hlt : i < p.decls.length) :
  Calls Tryz.prog 46 #[p.cells A3 c3 A4 c4, .int .i64 i] w fun e w' => e = .returned (.bool (decide ((rd_T38 p.decls i).f0 = 3) && !decide (((rd_T38 p.decls i).f3.length : Int) = (rd_T38 p.decls i).f2))) ∧ Below w.heap.size w w' := by
 obtain ⟨hl3, h3, hl4, h4⟩ := h
 unfold PR.cells
 have B := below_alloc (Below.refl w.heap.size w) (.cells #[.string p.name, .int .i64 p.width, .int .i64 p.line, .slice A3 p.decls.length c3, .slice A4 p.body.length c4] 25)
 have hu22 := Tryz.underlying22
 have hll : (p.decls.length : Int) ≤ 9223372036854775807 := by have := h3.2.1; omega
 obtain ⟨ad, A, c, rfl, x0, x1, x2, x3, hlc, _⟩ := at_T38 h3 (i : Int) (by omega) (by omega)
 simp only [Int.toNat_natCast] at x0 x2 x3
 replace x0 := kept_cell B x0
 replace x2 := kept_cell B x2
 replace x3 := kept_cell B x3
 clear x1
 have hlt' : (i : Int) < (p.decls.length : Int) := by omega
 generalize rd_T38 p.decls i = d at *
 obtain ⟨k, s, m, vs⟩ := d
 simp only at x0 x2 x3 hlc ⊢
 have BB := Aside0.mk B
 clear B
 by_cases hk : k = 3
 ·subst hk
  by_cases hm : (vs.length : Int) = m
  ·subst hm
   go_enter Tryz.func46, Tryz.ntmps46
   go_upto_region 1 with (fail)
   go_quiet (fail)
   go_wp2_with fail
   go_ret
   exact ⟨by simp, by first | exact BB.out | exact below_drew1 BB.out | exact pw_below_drewN BB.out _⟩
  ·have e1 : ((vs.length : Int) == m) = false := by simpa using hm
   have e2 : ((vs.length : Int) != m) = true := by simpa using hm
   have HM := Aside0.mk hm
   clear hm
   go_enter Tryz.func46, Tryz.ntmps46
   go_upto_region 1 with (fail)
   go_quiet (fail)
   go_wp2_with fail
   go_ret
   exact ⟨by simp [HM.out], by first | exact BB.out | exact below_drew1 BB.out | exact pw_below_drewN BB.out _⟩
 ·have e1 : (k == 3) = false := by simpa using hk
  have HK := Aside0.mk hk
  clear hk
  go_enter Tryz.func46, Tryz.ntmps46
  go_upto_region 1 with (fail)
  go_quiet (fail)
  go_wp2_with fail
  go_ret
  exact ⟨by simp [HK.out], by first | exact BB.out | exact below_drew1 BB.out | exact pw_below_drewN BB.out _⟩
end Go.Proofs.YtjomofepephodaaGreat.PEquivShapes
namespace Go.Proofs.YtjomofepephodaaGreat.PEquivShapes
open Go.RowKit
open Go.Proofs.YtjomofepephodaaGreatW.PrintWords Go.Proofs.YtjomofepephodaaGreatW.PrintLast Go.Proofs.YtjomofepephodaaGreatW.PrintMore
set_option maxHeartbeats 1000000 in
theorem c4_any (p : PR) (A3 : Option Addr) (c3 : Nat) (A4 : Option Addr) (c4 : Nat) (i : Nat) (w : World) (h : p.At w A3 c3 A4 c4) (hlt : i < p.decls.length) :
  Calls Tryz.prog 43 #[p.cells A3 c3 A4 c4, .int .i64 i] w fun e w' => e = .returned (.bool (findI (p.decls.take i) (rd_T38 p.decls i).f1).isSome) ∧ Below w.heap.size w w' := by
 obtain ⟨hl3, h3, hl4, h4⟩ := h
 unfold PR.cells
 have B := below_alloc (Below.refl w.heap.size w) (.cells #[.string p.name, .int .i64 p.width, .int .i64 p.line, .slice A3 p.decls.length c3, .slice A4 p.body.length c4] 25)
 have hu22 := Tryz.underlying22
 have hll : (p.decls.length : Int) ≤ 9223372036854775807 := by have := h3.2.1; omega
 have h3t := Kd.C_take h3 (m := i) (by omega)
 obtain ⟨ad, A, c, rfl, x0, x1, x2, x3, hlc, _⟩ := at_T38 h3 (i : Int) (by omega) (by omega)
 simp only [Int.toNat_natCast] at x1
 replace x1 := kept_cell B x1
 clear x0 x2 x3
 have hlt' : (i : Int) < (p.decls.length : Int) := by omega
 have hic : (i : Int) ≤ (c3 : Int) := by omega
 have htl : (p.decls.take i).length = i := by simp; omega
 generalize (rd_T38 p.decls i).f1 = s at *
 obtain ⟨W2, hW2⟩ : ∃ W2, w.alloc (.cells #[.string p.name, .int .i64 p.width, .int .i64 p.line, .slice (some ad) p.decls.length c3, .slice A4 p.body.length c4] 25) = W2 := ⟨_, rfl⟩
 have hfa : ∀ W, Below w.heap.size w W → Calls Tryz.prog 44 #[.agg #[.string ⟨#[]⟩, .int .i64 0, .int .i64 0, .slice (some ad) i c3, .slice none 0 0], .string s] W fun e w' => e = .returned (.pointer ((findI (p.decls.take i) s).bind fun j => some (ad.add (j * 4)))) ∧ Below W.heap.size W w' := by
  intro W hW
  have := find_any ⟨⟨#[]⟩, 0, 0, p.decls.take i, []⟩ (some ad) c3 none 0 s W ⟨by simp only [htl]; omega, Kd.C_below h3t hW, Nat.le_refl _, ⟨rfl, by simp, fun h => absurd h (Nat.lt_irrefl 0)⟩⟩
  unfold PR.cells at this
  simp only [htl] at this
  exact this
 have HF := Aside0.mk hfa
 have BB := Aside0.mk B
 clear hfa B h3 h4 h3t
 cases hf : findI (p.decls.take i) s with
 | none =>
  rw [hf] at HF
  go_enter Tryz.func43, Tryz.ntmps43
  go_upto_region 1 with (fail)
  rw [hW2] at x1 BB
  try rw [hW2]
  have y3 : W2.cell? ⟨w.heap.size, 3, none⟩ = some (.slice (some ad) p.decls.length c3) := by rw [← hW2]; simp [go_sem]
  have HK := Aside0.mk (show ∀ w', Below W2.heap.size W2 w' → w'.cell? ⟨w.heap.size, 3, none⟩ = some (.slice (some ad) p.decls.length c3) ∧ w'.cell? ⟨(ad.add (i * 4)).block, (ad.add (i * 4)).off + 1, none⟩ = some (.string s) from fun w' hb => ⟨kept_cell hb y3, kept_cell hb x1⟩)
  have C2 := Aside0.mk (Below.refl W2.heap.size W2)
  have hS0 := HK.out W2 C2.out
  clear hW2 y3 x1 hf
  go_region_held3 (fun w' => w'.cell? ⟨w.heap.size, 3, none⟩ = some (.slice (some ad) p.decls.length c3) ∧ w'.cell? ⟨(ad.add (i * 4)).block, (ad.add (i * 4)).off + 1, none⟩ = some (.string s))
   (first | exact hS0 | (refine HK.out _ ?_; (repeat (first | (with_reducible first | exact C5.out | apply below_alloc | apply pw_below_drewN | apply below_drew1) | exact C5.out)); done) | (refine HK.out _ ?_; (repeat (first | (with_reducible first | exact C2.out | apply below_alloc | apply pw_below_drewN | apply below_drew1) | exact C2.out)); done))
   (first
    | (go_at_call 44; refine (HF.out _ (by repeat (first | (with_reducible first | exact BB.out | apply below_alloc | apply pw_below_drewN | apply below_drew1) | exact BB.out))).mono ?_; rintro x' w5 ⟨rfl, hb⟩; have B5 := Aside0.mk (below_step (by repeat (first | (with_reducible first | exact BB.out | apply below_alloc | apply pw_below_drewN | apply below_drew1) | exact BB.out)) hb); have C5 := Aside0.mk (below_step (by repeat (first | (with_reducible first | exact C2.out | apply below_alloc | apply pw_below_drewN | apply below_drew1) | exact C2.out)) hb); clear hb))
  go_wp2_with fail
  go_ret
  exact ⟨rfl, B5.out⟩
 | some j =>
  rw [hf] at HF
  go_enter Tryz.func43, Tryz.ntmps43
  go_upto_region 1 with (fail)
  rw [hW2] at x1 BB
  try rw [hW2]
  have y3 : W2.cell? ⟨w.heap.size, 3, none⟩ = some (.slice (some ad) p.decls.length c3) := by rw [← hW2]; simp [go_sem]
  have HK := Aside0.mk (show ∀ w', Below W2.heap.size W2 w' → w'.cell? ⟨w.heap.size, 3, none⟩ = some (.slice (some ad) p.decls.length c3) ∧ w'.cell? ⟨(ad.add (i * 4)).block, (ad.add (i * 4)).off + 1, none⟩ = some (.string s) from fun w' hb => ⟨kept_cell hb y3, kept_cell hb x1⟩)
  have C2 := Aside0.mk (Below.refl W2.heap.size W2)
  have hS0 := HK.out W2 C2.out
  clear hW2 y3 x1 hf
  go_region_held3 (fun w' => w'.cell? ⟨w.heap.size, 3, none⟩ = some (.slice (some ad) p.decls.length c3) ∧ w'.cell? ⟨(ad.add (i * 4)).block, (ad.add (i * 4)).off + 1, none⟩ = some (.string s))
   (first | exact hS0 | (refine HK.out _ ?_; (repeat (first | (with_reducible first | exact C5.out | apply below_alloc | apply pw_below_drewN | apply below_drew1) | exact C5.out)); done) | (refine HK.out _ ?_; (repeat (first | (with_reducible first | exact C2.out | apply below_alloc | apply pw_below_drewN | apply below_drew1) | exact C2.out)); done))
   (first
    | (go_at_call 44; refine (HF.out _ (by repeat (first | (with_reducible first | exact BB.out | apply below_alloc | apply pw_below_drewN | apply below_drew1) | exact BB.out))).mono ?_; rintro x' w5 ⟨rfl, hb⟩; have B5 := Aside0.mk (below_step (by repeat (first | (with_reducible first | exact BB.out | apply below_alloc | apply pw_below_drewN | apply below_drew1) | exact BB.out)) hb); have C5 := Aside0.mk (below_step (by repeat (first | (with_reducible first | exact C2.out | apply below_alloc | apply pw_below_drewN | apply below_drew1) | exact C2.out)) hb); clear hb))
  go_wp2_with fail
  go_ret
  exact ⟨rfl, B5.out⟩
end Go.Proofs.YtjomofepephodaaGreat.PEquivShapes
namespace Go.Proofs.YtjomofepephodaaGreat.PEquivShapes
open Go.RowKit
open Go.Proofs.YtjomofepephodaaGreatW.PrintWords Go.Proofs.YtjomofepephodaaGreatW.PrintLast Go.Proofs.YtjomofepephodaaGreatW.PrintMore
set_option maxHeartbeats 400000 in
theorem unfit_any (x k : Int) (g : Nat) (h0 : 0 ≤ k) (hk : I64 k) (w : World) (hc : w.cell? ⟨g, 1, none⟩ = some (.int .i64 k)) :
  Calls Tryz.prog 49 #[.int .u64 x, .pointer (some ⟨g, 0, none⟩)] w fun e w' => e = .returned (.bool (!fitB k x)) ∧ w' = w := by
 have cF := fits_any k x h0 hk w
 generalize fitB k x = b at *
 have hnot : ∀ (x : Bool) (w : World), (Op.unary .not (.bool x)).run Tryz.prog w = .ok (.bool (!x)) w := fun _ _ => rfl
 go_enter Tryz.func49, Tryz.ntmps49
 go_wp2_with (go_at_call 50; refine cF.mono ?_; rintro e w' ⟨rfl, rfl⟩)
 go_ret
 exact ⟨rfl, rfl⟩
/-- is there a word that does not fit? -/
def unfitB (k : Int) (l : List Int) : Bool := l.any fun x => !fitB k x
theorem unfit_take {k : Int} {l : List Int} {i : Nat} (h : i < l.length) : unfitB k (l.take (i + 1)) = (unfitB k (l.take i) || !fitB k (l.getD i 0)) := by
 unfold unfitB
 rw [List.take_add_one, List.any_append, List.getElem?_eq_getElem h, List.getD_eq_getElem?_getD, List.getElem?_eq_getElem h]
 simp
set_option maxHeartbeats 1000000 in
theorem index_any (l : List Int) (A : Option Addr) (c : Nat) (k : Int) (g : Nat) (h0 : 0 ≤ k) (hk : I64 k) (w : World) (h : (Kd.int .u64).C w A l.length l) (hc : w.cell? ⟨g, 1, none⟩ = some (.int .i64 k)) :
  Calls Tryz.prog 82 #[.slice A l.length c, .func (.func 49) #[] #[.pointer (some ⟨g, 0, none⟩)]] w fun e w' => (∃ r : Int, e = .returned (.int .i64 r) ∧ decide (0 ≤ r) = unfitB k l) ∧ w' = w := by
 have hu := Tryz.underlying36
 have hll : (l.length : Int) ≤ 9223372036854775807 := by have := h.2.1; omega
 have cF := fun x => unfit_any x k g h0 hk w hc
 have CF := Aside0.mk cF
 clear cF
 go_enter Tryz.func82, Tryz.ntmps82
 go_wp2_with fail
 go_loopg [8] (l.length) (fun m v wr => ∃ i : Nat, v = .int .i64 i ∧ m = l.length - i ∧ i ≤ l.length ∧ unfitB k (l.take i) = false ∧ wr = w)
 case atStart => exact ⟨0, rfl, by omega, by omega, rfl, rfl⟩
 case round =>
  obtain ⟨i, rfl, rfl, hi, hu0, rfl⟩ := hrel
  by_cases hlt : i < l.length
  ·obtain ⟨ad, cs, rfl, hlen, hK, hcell⟩ := Kd.C_get h 0 (i : Int) (by omega) (by omega)
   obtain rfl : cs = [.int .u64 (l.getD (i : Int).toNat 0)] := hK
   have x0 := hcell 0 _ rfl
   simp only [Int.toNat_natCast] at x0
   have x0 : wr.cell? (ad.add i) = some (.int .u64 (l.getD i 0)) := by simpa [Kd.int, Kd.scalar] using x0
   clear hcell hlen
   have hs := unfit_take (k := k) hlt
   have hlt' : (i : Int) < (l.length : Int) := by omega
   have hal : unfitB k (l.take (i + 1)) = true → unfitB k l = true := by
    intro h1
    unfold unfitB at h1 ⊢
    rw [List.any_eq_true] at h1 ⊢
    obtain ⟨x, hx, hy⟩ := h1
    exact ⟨x, List.mem_of_mem_take hx, hy⟩
   generalize l.getD i 0 = d at *
   have cD := CF.out d
   rw [hu0, Bool.false_or] at hs
   cases hb : fitB k d with
   | true =>
    rw [hb] at hs cD
    have HS := Aside0.mk hs
    clear hs hu0 hb hal
    go_wp2_with (go_at_call 49; refine cD.mono ?_; rintro e w' ⟨rfl, rfl⟩)
    go_roundg (l.length - (i + 1))
    case measure => omega
    case rel => exact ⟨i + 1, by simp, rfl, by omega, HS.out, rfl⟩
   | false =>
    rw [hb] at hs cD
    have HS := Aside0.mk (hal hs)
    clear hs hu0 hb hal
    go_wp2_with (go_at_call 49; refine cD.mono ?_; rintro e w' ⟨rfl, rfl⟩)
    go_ret
    exact ⟨⟨i, rfl, by rw [HS.out]; simp⟩, rfl⟩
  ·have hlt' : ¬ ((i : Int) < (l.length : Int)) := by omega
   have hie : i = l.length := by omega
   subst hie
   rw [List.take_length] at hu0
   have HU := Aside0.mk hu0
   clear hu0
   go_wp2_with fail
   go_ret
   exact ⟨⟨-1, rfl, by rw [HU.out]; rfl⟩, rfl⟩
end Go.Proofs.YtjomofepephodaaGreat.PEquivShapes
namespace Go.Proofs.YtjomofepephodaaGreat.PEquivShapes
open Go.RowKit
open Go.Proofs.YtjomofepephodaaGreatW.PrintWords Go.Proofs.YtjomofepephodaaGreatW.PrintLast Go.Proofs.YtjomofepephodaaGreatW.PrintMore
set_option maxHeartbeats 400000 in
theorem contains_any (l : List Int) (A : Option Addr) (c : Nat) (k : Int) (g : Nat) (h0 : 0 ≤ k) (hk : I64 k) (w : World) (h : (Kd.int .u64).C w A l.length l) (hc : w.cell? ⟨g, 1, none⟩ = some (.int .i64 k)) :
  Calls Tryz.prog 48 #[.slice A l.length c, .func (.func 49) #[] #[.pointer (some ⟨g, 0, none⟩)]] w fun e w' => e = .returned (.bool (unfitB k l)) ∧ w' = w := by
 have cF := index_any l A c k g h0 hk w h hc
 generalize unfitB k l = b at *
 go_enter Tryz.func48, Tryz.ntmps48
 go_wp2_with (go_at_call 82; refine cF.mono ?_; rintro e w' ⟨⟨r, rfl, hr⟩, rfl⟩; have HR := Aside0.mk hr; clear hr)
 go_ret
 exact ⟨by rw [← HR.out]; rfl, rfl⟩
set_option maxHeartbeats 1000000 in
theorem c7_any (p : PR) (A3 : Option Addr) (c3 : Nat) (A4 : Option Addr) (c4 : Nat) (i : Nat) (w : World) (h : p.At w A3 c3 A4 c4) (hlt : i < p.decls.length) (h0 : 0 ≤ p.width) (hk : I64 p.width) :
  Calls Tryz.prog 47 #[p.cells A3 c3 A4 c4, .int .i64 i] w fun e w' => e = .returned (.bool (unfitB p.width (rd_T38 p.decls i).f3)) ∧ Below w.heap.size w w' := by
 obtain ⟨hl3, h3, hl4, h4⟩ := h
 unfold PR.cells
 have B := below_alloc (Below.refl w.heap.size w) (.cells #[.string p.name, .int .i64 p.width, .int .i64 p.line, .slice A3 p.decls.length c3, .slice A4 p.body.length c4] 25)
 have hu22 := Tryz.underlying22
 have hll : (p.decls.length : Int) ≤ 9223372036854775807 := by have := h3.2.1; omega
 obtain ⟨ad, A, c, rfl, x0, x1, x2, x3, hlc, hvs⟩ := at_T38 h3 (i : Int) (by omega) (by omega)
 simp only [Int.toNat_natCast] at x3
 replace x3 := kept_cell B x3
 clear x0 x1 x2
 have hlt' : (i : Int) < (p.decls.length : Int) := by omega
 generalize (rd_T38 p.decls i).f3 = vs at *
 have hy : (w.alloc (.cells #[.string p.name, .int .i64 p.width, .int .i64 p.line, .slice (some ad) p.decls.length c3, .slice A4 p.body.length c4] 25)).cell? ⟨w.heap.size, 1, none⟩ = some (.int .i64 p.width) := by simp [go_sem]
 have cC := contains_any vs A c p.width w.heap.size h0 hk _ (Kd.C_below hvs B) hy
 generalize unfitB p.width vs = b at *
 have BB := Aside0.mk B
 clear B
 have hmf : ∀ (fn : Fn) (first cap : Array Value) (w : World), (Instr.makeFunc fn first cap).run Tryz.prog w = .ok (.func fn first cap) w := fun _ _ _ _ => rfl
 go_enter Tryz.func47, Tryz.ntmps47
 go_wp2_with (go_at_call 48; refine cC.mono ?_; rintro e w' ⟨rfl, rfl⟩)
 go_ret
 exact ⟨rfl, BB.out⟩
end Go.Proofs.YtjomofepephodaaGreat.PEquivShapes
namespace Go.Proofs.YtjomofepephodaaGreat.PEquivShapes
open Go.RowKit
open Go.Proofs.YtjomofepephodaaGreatW.PrintWords Go.Proofs.YtjomofepephodaaGreatW.PrintLast Go.Proofs.YtjomofepephodaaGreatW.PrintMore
set_option maxHeartbeats 400000 in
theorem c15_any (p : PR) (A3 : Option Addr) (c3 : Nat) (A4 : Option Addr) (c4 : Nat) (w : World) (h : p.At w A3 c3 A4 c4) (hf : S52.allFit p.body) :
  Calls Tryz.prog 64 #[p.cells A3 c3 A4 c4] w fun e w' => e = .returned (.bool (decide (S52.sizs 0 p.body ≤ 65536))) ∧ Below w.heap.size w w' := by
 have B := below_alloc (Below.refl w.heap.size w) (.cells #[.string p.name, .int .i64 p.width, .int .i64 p.line, .slice A3 p.decls.length c3, .slice A4 p.body.length c4] 25)
 have cS := size_any _ p.body A4 c4 _ (Nat.le_refl _) hf (Kd.C_below h.2.2.2 B) h.2.2.1
 have BB := Aside0.mk B
 clear h B
 unfold PR.cells
 generalize S52.sizs 0 p.body = n at *
 go_enter Tryz.func64, Tryz.ntmps64
 go_wp2_with (go_at_call 65; refine cS.mono ?_; rintro e w' ⟨rfl, hb⟩)
 go_ret
 exact ⟨rfl, below_step BB.out hb⟩
set_option maxHeartbeats 400000 in
theorem whole2_any (p : PR) (A3 : Option Addr) (c3 : Nat) (A4 : Option Addr) (c4 : Nat) (g : Nat) (w : World) (hg : w.cell? ⟨g, 0, none⟩ = some (.func (.func 40) #[] #[])) :
  Calls Tryz.prog 77 #[p.cells A3 c3 A4 c4, .pointer (some ⟨g, 0, none⟩)] w fun e w' => e = .returned (.tuple #[.int .i64 (-1), .bool (!powB p.line 256)]) ∧ Below w.heap.size w w' := by
 have B := below_alloc (Below.refl w.heap.size w) (.cells #[.string p.name, .int .i64 p.width, .int .i64 p.line, .slice A3 p.decls.length c3, .slice A4 p.body.length c4] 25)
 replace hg := kept_cell B hg
 have cS := c2_any p A3 c3 A4 c4 (w.alloc (.cells #[.string p.name, .int .i64 p.width, .int .i64 p.line, .slice A3 p.decls.length c3, .slice A4 p.body.length c4] 25))
 have BB := Aside0.mk B
 clear B
 unfold PR.cells at cS ⊢
 generalize powB p.line 256 = n at *
 go_enter Tryz.func77, Tryz.ntmps77
 go_wp2_with (go_at_call 40; refine cS.mono ?_; rintro e w' ⟨rfl, hb⟩)
 go_ret2
 exact ⟨rfl, below_step BB.out hb⟩
end Go.Proofs.YtjomofepephodaaGreat.PEquivShapes
namespace Go.Proofs.YtjomofepephodaaGreat.PEquivShapes
open Go.RowKit
open Go.Proofs.YtjomofepephodaaGreatW.PrintWords Go.Proofs.YtjomofepephodaaGreatW.PrintLast Go.Proofs.YtjomofepephodaaGreatW.PrintMore
set_option maxHeartbeats 400000 in
theorem whole1_any (p : PR) (A3 : Option Addr) (c3 : Nat) (A4 : Option Addr) (c4 : Nat) (g : Nat) (w : World) (hg : w.cell? ⟨g, 0, none⟩ = some (.func (.func 38) #[] #[])) :
  Calls Tryz.prog 77 #[p.cells A3 c3 A4 c4, .pointer (some ⟨g, 0, none⟩)] w fun e w' => e = .returned (.tuple #[.int .i64 (-1), .bool (!(decide (4 ≤ p.width) && powB p.width 64))]) ∧ Below w.heap.size w w' := by
 have B := below_alloc (Below.refl w.heap.size w) (.cells #[.string p.name, .int .i64 p.width, .int .i64 p.line, .slice A3 p.decls.length c3, .slice A4 p.body.length c4] 25)
 replace hg := kept_cell B hg
 have cS := c1_any p A3 c3 A4 c4 (w.alloc (.cells #[.string p.name, .int .i64 p.width, .int .i64 p.line, .slice A3 p.decls.length c3, .slice A4 p.body.length c4] 25))
 have BB := Aside0.mk B
 clear B
 unfold PR.cells at cS ⊢
 generalize (decide (4 ≤ p.width) && powB p.width 64) = n at *
 go_enter Tryz.func77, Tryz.ntmps77
 go_wp2_with (go_at_call 38; refine cS.mono ?_; rintro e w' ⟨rfl, hb⟩)
 go_ret2
 exact ⟨rfl, below_step BB.out hb⟩
set_option maxHeartbeats 400000 in
theorem whole3_any (p : PR) (A3 : Option Addr) (c3 : Nat) (A4 : Option Addr) (c4 : Nat) (g : Nat) (w : World) (hg : w.cell? ⟨g, 0, none⟩ = some (.func (.func 41) #[] #[])) :
  Calls Tryz.prog 77 #[p.cells A3 c3 A4 c4, .pointer (some ⟨g, 0, none⟩)] w fun e w' => e = .returned (.tuple #[.int .i64 (-1), .bool (!(decide ((p.decls.length : Int) ≤ 256)))]) ∧ Below w.heap.size w w' := by
 have B := below_alloc (Below.refl w.heap.size w) (.cells #[.string p.name, .int .i64 p.width, .int .i64 p.line, .slice A3 p.decls.length c3, .slice A4 p.body.length c4] 25)
 replace hg := kept_cell B hg
 have cS := c3_any p A3 c3 A4 c4 (w.alloc (.cells #[.string p.name, .int .i64 p.width, .int .i64 p.line, .slice A3 p.decls.length c3, .slice A4 p.body.length c4] 25))
 have BB := Aside0.mk B
 clear B
 unfold PR.cells at cS ⊢
 generalize (decide ((p.decls.length : Int) ≤ 256)) = n at *
 go_enter Tryz.func77, Tryz.ntmps77
 go_wp2_with (go_at_call 41; refine cS.mono ?_; rintro e w' ⟨rfl, hb⟩)
 go_ret2
 exact ⟨rfl, below_step BB.out hb⟩
set_option maxHeartbeats 400000 in
theorem whole8_any (p : PR) (A3 : Option Addr) (c3 : Nat) (A4 : Option Addr) (c4 : Nat) (g : Nat) (w : World) (h : p.At w A3 c3 A4 c4) (hg : w.cell? ⟨g, 0, none⟩ = some (.func (.func 51) #[] #[])) :
  Calls Tryz.prog 77 #[p.cells A3 c3 A4 c4, .pointer (some ⟨g, 0, none⟩)] w fun e w' => e = .returned (.tuple #[.int .i64 (-1), .bool (!(decide (inW p.decls ≤ 4096)))]) ∧ Below w.heap.size w w' := by
 have B := below_alloc (Below.refl w.heap.size w) (.cells #[.string p.name, .int .i64 p.width, .int .i64 p.line, .slice A3 p.decls.length c3, .slice A4 p.body.length c4] 25)
 replace hg := kept_cell B hg
 have cS := c8_any p A3 c3 A4 c4 (w.alloc (.cells #[.string p.name, .int .i64 p.width, .int .i64 p.line, .slice A3 p.decls.length c3, .slice A4 p.body.length c4] 25)) ⟨h.1, Kd.C_below h.2.1 B, h.2.2.1, Kd.C_below h.2.2.2 B⟩
 have BB := Aside0.mk B
 clear B h
 unfold PR.cells at cS ⊢
 generalize (decide (inW p.decls ≤ 4096)) = n at *
 go_enter Tryz.func77, Tryz.ntmps77
 go_wp2_with (go_at_call 51; refine cS.mono ?_; rintro e w' ⟨rfl, hb⟩)
 go_ret2
 exact ⟨rfl, below_step BB.out hb⟩
set_option maxHeartbeats 400000 in
theorem whole15_any (p : PR) (A3 : Option Addr) (c3 : Nat) (A4 : Option Addr) (c4 : Nat) (g : Nat) (w : World) (h : p.At w A3 c3 A4 c4) (hf : S52.allFit p.body) (hg : w.cell? ⟨g, 0, none⟩ = some (.func (.func 64) #[] #[])) :
  Calls Tryz.prog 77 #[p.cells A3 c3 A4 c4, .pointer (some ⟨g, 0, none⟩)] w fun e w' => e = .returned (.tuple #[.int .i64 (-1), .bool (!(decide (S52.sizs 0 p.body ≤ 65536)))]) ∧ Below w.heap.size w w' := by
 have B := below_alloc (Below.refl w.heap.size w) (.cells #[.string p.name, .int .i64 p.width, .int .i64 p.line, .slice A3 p.decls.length c3, .slice A4 p.body.length c4] 25)
 replace hg := kept_cell B hg
 have cS := c15_any p A3 c3 A4 c4 (w.alloc (.cells #[.string p.name, .int .i64 p.width, .int .i64 p.line, .slice A3 p.decls.length c3, .slice A4 p.body.length c4] 25)) ⟨h.1, Kd.C_below h.2.1 B, h.2.2.1, Kd.C_below h.2.2.2 B⟩ hf
 have BB := Aside0.mk B
 clear B h hf
 unfold PR.cells at cS ⊢
 generalize (decide (S52.sizs 0 p.body ≤ 65536)) = n at *
 go_enter Tryz.func77, Tryz.ntmps77
 go_wp2_with (go_at_call 64; refine cS.mono ?_; rintro e w' ⟨rfl, hb⟩)
 go_ret2
 exact ⟨rfl, below_step BB.out hb⟩
end Go.Proofs.YtjomofepephodaaGreat.PEquivShapes
