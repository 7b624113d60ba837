/-
  The document's size. Conditions: what each theorem names.
-/
import Derived.Test.YtjomofepephodaaGreatGr
import Derived.Test.YtjomofepephodaaGreatGt
import Derived.Test.YtjomofepephodaaGreatKd
set_option linter.unusedVariables false
set_option linter.unusedSimpArgs false
namespace Go.Proofs.YtjomofepephodaaGreat.PEquivShapes
open Go.RowKit
open Go.Proofs.YtjomofepephodaaGreatW.PrintWords Go.Proofs.YtjomofepephodaaGreatW.PrintLast Go.Proofs.YtjomofepephodaaGreatW.PrintMore
/-- what the code reckons of a statement is the bound's part of its size -/
structure SizCode (q0 q1 wa we q6 q7 k lo hi r : Int) : Prop where
  one : ct (wrap64 (q0 + 1)) = q1
  k1 : k = 1 → ct (wrap64 (q1 + we)) = r
  k2 : k = 2 → ct (wrap64 (wrap64 (q1 + wa) + we)) = r
  k3 : k = 3 → ct (wrap64 (wrap64 (wrap64 (q1 + we) + q6) + q7)) = r
  k4 : k = 4 → lo < hi → IntKind.u64.wrap (hi - lo) = hi - lo ∧ ct (wrap64 (q1 + wrap64 ((if 65536 < hi - lo then 65537 else hi - lo) * wrap64 (1 + q6)))) = r
  k0 : k ≠ 1 → k ≠ 2 → k ≠ 3 → (k = 4 → ¬ lo < hi) → q1 = r
theorem siz_code {n : Int} (hn : Top n) (s : S52) (u4 : U64 s.f4) (u5 : U64 s.f5) (wa2 : 0 ≤ s.f2.wei) (hA : s.f2.wei ≤ 1048576) (we2 : 0 ≤ s.f3.wei) (hE : s.f3.wei ≤ 1048576) : Top (S52.siz n s) ∧ SizCode (ct n) (ct (plusF [n, 1])) s.f2.wei s.f3.wei (ct (S52.sizs 0 s.f6)) (ct (S52.sizs 0 s.f7)) s.f0 s.f4 s.f5 (ct (S52.siz n s)) := by
  have hsiz := S52.siz_eq n s
  have cr := ct_range hn.1
  have hone : ct (wrap64 (ct n + 1)) = ct (plusF [n, 1]) := by rw [wrap_small (x := ct n + 1) (by omega) (by omega), ← ct_one hn]
  have hn1 : Top (plusF [n, 1]) := top2 hn top_one
  generalize plusF [n, 1] = n1 at *
  have cr1 := ct_range hn1.1
  have Ta : Top s.f2.wei := ⟨wa2, by omega⟩
  have Te : Top s.f3.wei := ⟨we2, by omega⟩
  have tt : Top (S52.sizs 0 s.f6) := S52.top_sizs _ 0 top_zero
  have tu : Top (S52.sizs 0 s.f7) := S52.top_sizs _ 0 top_zero
  have c6 := ct_range tt.1
  have c7 := ct_range tu.1
  refine ⟨?_, hone, fun k1 => ?_, fun k2 => ?_, fun k3 => ?_, fun k4 hlh => ?_, fun k1 k2 k3 k4 => ?_⟩
  · rw [hsiz]
    split
    · exact top2 hn1 Te
    · split
      · exact top3 hn1 Ta Te
      · split
        · exact top4 hn1 Te tt tu
        · split
          · rename_i h
            exact top2 hn1 (top_times (by omega) (top2 top_one tt))
          · exact hn1
  · rw [hsiz, if_pos k1, wrap_small (by omega) (by omega), ← ct_two hn1 Te hE]
  · rw [hsiz, if_neg (by omega), if_pos k2, wrap_small (x := ct n1 + s.f2.wei) (by omega) (by omega), wrap_small (by omega) (by omega), ← ct_three hn1 Ta Te]
  · rw [hsiz, if_neg (by omega), if_neg (by omega), if_pos k3, wrap_small (x := ct n1 + s.f3.wei) (by omega) (by omega), wrap_small (x := ct n1 + s.f3.wei + ct (S52.sizs 0 s.f6)) (by omega) (by omega), wrap_small (by omega) (by omega), ← ct_four hn1 Te tt tu]
  · rw [if_neg (by omega), if_neg (by omega), if_neg (by omega), if_pos ⟨k4, hlh⟩] at hsiz
    rw [hsiz]
    obtain ⟨l0, l1⟩ := u4
    obtain ⟨m0, m1⟩ := u5
    refine ⟨IntWalk.u64_in _ (by omega), ?_⟩
    have hT := times_ct (d := s.f5 - s.f4) (by omega) tt hn1
    have hp1 : plusF [1, S52.sizs 0 s.f6] = mn (1 + S52.sizs 0 s.f6) 1099511627776 := plus2 top_one tt
    have hTT : Top (timesF (s.f5 - s.f4) (plusF [1, S52.sizs 0 s.f6])) := top_times (by omega) (top2 top_one tt)
    have hd : 0 ≤ (if 65536 < s.f5 - s.f4 then 65537 else s.f5 - s.f4) ∧ (if 65536 < s.f5 - s.f4 then 65537 else s.f5 - s.f4) ≤ 65537 := by split <;> omega
    generalize (if 65536 < s.f5 - s.f4 then 65537 else s.f5 - s.f4) = q at *
    have hm0 : 0 ≤ q * (1 + ct (S52.sizs 0 s.f6)) := Int.mul_nonneg (by omega) (by omega)
    have hm1 : q * (1 + ct (S52.sizs 0 s.f6)) ≤ 65537 * (1 + ct (S52.sizs 0 s.f6)) := Int.mul_le_mul_of_nonneg_right (by omega) (by omega)
    rw [wrap_small (x := 1 + ct (S52.sizs 0 s.f6)) (by omega) (by omega), wrap_small (x := q * (1 + ct (S52.sizs 0 s.f6))) hm0 (by omega), wrap_small (by omega) (by omega), ← hT, ← hp1, ← plus2 hn1 hTT]
  · rw [hsiz, if_neg k1, if_neg k2, if_neg k3, if_neg (fun h => k4 h.1 h.2)]
set_option maxHeartbeats 8000000 in
set_option maxRecDepth 100000 in
theorem rsize_any (w0 : World) (base : Nat) (hbase : base = w0.heap.size) (N : Nat) : ∀ (l : List S52) (A : Option Addr) (c : Nat) (W : World), S52.bulks l ≤ N → S52.bulks l ≤ 1048576 → S52.allFit l → k52.C w0 A l.length l → l.length ≤ c → Below base w0 W →
    Calls Tryz.prog 35 #[.slice A l.length c] W fun x W' => x = .returned (.int .i64 (ct (S52.sizs 0 l))) ∧ Below W.heap.size W W' := by
  induction N using Nat.strongRecOn with
  | _ N ih =>
  intro l A c W hN hN1 hfit hK hc hbw
  have hu := Tryz.underlying23
  have hll : (l.length : Int) ≤ 9223372036854775807 := by have := hK.2.1; omega
  have HBA := Aside0.mk hbase
  have HK := Aside0.mk hK
  have IH := Aside0.mk ih
  have HNN : Aside0 (S52.bulks l ≤ N ∧ S52.bulks l ≤ 1048576 ∧ S52.allFit l) := ⟨⟨hN, hN1, hfit⟩⟩
  have HBW := Aside0.mk hbw
  have HB0 : Aside0 (∀ W', Below W.heap.size W W' → Below base w0 W') := ⟨fun W' h => below_weaken' hbw (by have := hbw.size; omega) h⟩
  have HCut : Aside0 (∀ x W, Calls Tryz.prog 75 #[.int .i64 x] W fun e w' => e = .returned (.int .i64 (ct x)) ∧ Below W.heap.size W w') := ⟨fun x W => (cadenceref16_cut.calls x _ W (cut_eq x)).mono fun _ _ h => ⟨h.1, h.2.below⟩⟩
  clear hbase ih hN hN1 hc hK hfit hbw
  go_enter Tryz.func35, Tryz.ntmps35
  go_wp2_with fail
  go_loopg [3, 4] (l.length) (fun m v3 v4 wr => ∃ (i : Nat) (n : Int), v4 = .int .i64 (i : Int) ∧ v3 = .int .i64 (ct n) ∧ m = l.length - i ∧ i ≤ l.length ∧ Top n ∧ S52.sizs n (l.drop i) = S52.sizs 0 l ∧ Below W.heap.size W wr)
  case atStart => exact ⟨0, 0, rfl, rfl, rfl, Nat.zero_le _, top_zero, rfl, Below.refl _ _⟩
  case round =>
    obtain ⟨i, n, rfl, rfl, rfl, hi, htop, hsz, hbr⟩ := hrel
    have HBr := Aside0.mk hbr
    by_cases hlt : i < l.length
    · obtain ⟨ad, A5, c5, A9, c9, A12, c12, A13, c13, rfl, x0, x1, x2, x3, x4, x5, x6, x7, x8, x9, x10, x11, x12, x13, l5, g5, l9, g9, l12, g12, l13, g13⟩ := at_T52 HK.out (i : Int) (by omega) (by omega)
      simp only [Int.toNat_natCast] at x0 x1 x2 x3 x4 x5 x6 x7 x8 x9 x10 x11 x12 x13
      obtain ⟨hn1, hn2, hn3⟩ := HNN.out
      have hbk := S52.bulk_in hlt
      have hbe := S52.bulk_eq (rd_T52 l i)
      have hfi := S52.fit_in hn3 hlt
      obtain ⟨u4, u5, ft, fu⟩ := S52.fits_parts hfi
      have wa := wei_ref 1048576 (Nat.le_refl _) (rd_T52 l i).f2 (2 * (rd_T52 l i).f2.bulk) (by omega) (Nat.le_refl _)
      have we := wei_ref 1048576 (Nat.le_refl _) (rd_T52 l i).f3 (2 * (rd_T52 l i).f3.bulk) (by omega) (Nat.le_refl _)
      have hsc := (siz_code htop (rd_T52 l i) u4 u5 wa.2.1 (by have := wa.2.2; omega) we.2.1 (by have := we.2.2; omega))
      have HTop := Aside0.mk hsc.1
      have HSC := Aside0.mk hsc.2
      clear hsc
      have HSz : Aside0 (S52.sizs (S52.siz n (rd_T52 l i)) (l.drop (i + 1)) = S52.sizs 0 l) := ⟨by rw [← sizs_drop hlt, hsz]⟩
      have HIx : Aside0 (wrap64 ((i : Int) + 1) = ((i + 1 : Nat) : Int) ∧ i + 1 ≤ l.length ∧ l.length - (i + 1) < l.length - i) := ⟨by have := len_bulks l; exact ⟨wrap_next (by omega), by omega, by omega⟩⟩
      have hlt' : (i : Int) < (l.length : Int) := by omega
      have HU : Aside0 (U64 (rd_T52 l i).f4 ∧ U64 (rd_T52 l i).f5) := ⟨⟨u4, u5⟩⟩
      generalize rd_T52 l i = s at *
      have HWa : Aside0 (∀ W', Below W.heap.size W W' → Calls Tryz.prog 76 #[.agg #[.int .i64 s.f2.f0, .int .u64 s.f2.f1, .string s.f2.f2, .slice A5 s.f2.f3.length c5]] W' fun e w' => e = .returned (.int .i64 s.f2.wei) ∧ Below W'.heap.size W' w') := ⟨fun W' h => cadenceref16_weight.calls _ s.f2.f0 s.f2.f1 s.f2.f2 A5 c5 s.f2.f3 _ W' (Kd.C_below g5 (HBA.out ▸ HB0.out W' h)) l5 wa.1⟩
      have HWe : Aside0 (∀ W', Below W.heap.size W W' → Calls Tryz.prog 76 #[.agg #[.int .i64 s.f3.f0, .int .u64 s.f3.f1, .string s.f3.f2, .slice A9 s.f3.f3.length c9]] W' fun e w' => e = .returned (.int .i64 s.f3.wei) ∧ Below W'.heap.size W' w') := ⟨fun W' h => cadenceref16_weight.calls _ s.f3.f0 s.f3.f1 s.f3.f2 A9 c9 s.f3.f3 _ W' (Kd.C_below g9 (HBA.out ▸ HB0.out W' h)) l9 we.1⟩
      have HT : Aside0 (∀ W', Below W.heap.size W W' → Calls Tryz.prog 35 #[.slice A12 s.f6.length c12] W' fun e w' => e = .returned (.int .i64 (ct (S52.sizs 0 s.f6))) ∧ Below W'.heap.size W' w') := ⟨fun W' h => IH.out (S52.bulks s.f6) (by omega) s.f6 A12 c12 W' (Nat.le_refl _) (by omega) ft g12 l12 (HB0.out W' h)⟩
      have HU7 : Aside0 (∀ W', Below W.heap.size W W' → Calls Tryz.prog 35 #[.slice A13 s.f7.length c13] W' fun e w' => e = .returned (.int .i64 (ct (S52.sizs 0 s.f7))) ∧ Below W'.heap.size W' w') := ⟨fun W' h => IH.out (S52.bulks s.f7) (by omega) s.f7 A13 c13 W' (Nat.le_refl _) (by omega) fu g13 l13 (HB0.out W' h)⟩
      replace x0 := kept0 HBA.out (HB0.out _ HBr.out) x0
      replace x1 := kept0 HBA.out (HB0.out _ HBr.out) x1
      replace x2 := kept0 HBA.out (HB0.out _ HBr.out) x2
      replace x3 := kept0 HBA.out (HB0.out _ HBr.out) x3
      replace x4 := kept0 HBA.out (HB0.out _ HBr.out) x4
      replace x5 := kept0 HBA.out (HB0.out _ HBr.out) x5
      replace x6 := kept0 HBA.out (HB0.out _ HBr.out) x6
      replace x7 := kept0 HBA.out (HB0.out _ HBr.out) x7
      replace x8 := kept0 HBA.out (HB0.out _ HBr.out) x8
      replace x9 := kept0 HBA.out (HB0.out _ HBr.out) x9
      replace x10 := kept0 HBA.out (HB0.out _ HBr.out) x10
      replace x11 := kept0 HBA.out (HB0.out _ HBr.out) x11
      replace x12 := kept0 HBA.out (HB0.out _ HBr.out) x12
      replace x13 := kept0 HBA.out (HB0.out _ HBr.out) x13
      have HBox : Aside0 (∀ W' : World, W'.heap[wr.heap.size]? = some (.cells (s.row A5 c5 A9 c9 A12 c12 A13 c13) 52 (0, 0)) → W'.cell? ⟨wr.heap.size, 0, none⟩ = some (.int .i64 s.f0) ∧ W'.cell? ⟨wr.heap.size, 1, none⟩ = some (.string s.f1) ∧ W'.cell? ⟨wr.heap.size, 2, none⟩ = some (.int .i64 s.f2.f0) ∧ W'.cell? ⟨wr.heap.size, 3, none⟩ = some (.int .u64 s.f2.f1) ∧ W'.cell? ⟨wr.heap.size, 4, none⟩ = some (.string s.f2.f2) ∧ W'.cell? ⟨wr.heap.size, 5, none⟩ = some (.slice A5 s.f2.f3.length c5) ∧ W'.cell? ⟨wr.heap.size, 6, none⟩ = some (.int .i64 s.f3.f0) ∧ W'.cell? ⟨wr.heap.size, 7, none⟩ = some (.int .u64 s.f3.f1) ∧ W'.cell? ⟨wr.heap.size, 8, none⟩ = some (.string s.f3.f2) ∧ W'.cell? ⟨wr.heap.size, 9, none⟩ = some (.slice A9 s.f3.f3.length c9) ∧ W'.cell? ⟨wr.heap.size, 10, none⟩ = some (.int .u64 s.f4) ∧ W'.cell? ⟨wr.heap.size, 11, none⟩ = some (.int .u64 s.f5) ∧ W'.cell? ⟨wr.heap.size, 12, none⟩ = some (.slice A12 s.f6.length c12) ∧ W'.cell? ⟨wr.heap.size, 13, none⟩ = some (.slice A13 s.f7.length c13)) := ⟨fun W' h => box_of h⟩
      clear hn1 hn2 hn3 hbk hbe hfi u4 u5 ft fu wa we htop hsz l5 g5 l9 g9 l12 g12 l13 g13 hbr
      go_upto_region 6 with (fail)
      obtain ⟨W3, hW3⟩ : ∃ W3, wr.alloc (.cells (s.row A5 c5 A9 c9 A12 c12 A13 c13) 52) = W3 := ⟨_, rfl⟩
      have HS3 : Aside0 (Below W.heap.size W W3 ∧ W3.heap[wr.heap.size]? = some (.cells (s.row A5 c5 A9 c9 A12 c12 A13 c13) 52 (0, 0))) := ⟨by rw [← hW3]; exact ⟨below_weaken' HBr.out HBr.out.size (below_alloc (Below.refl _ _) _), one_a wr _⟩⟩
      unfold S52.row at hW3
      rw [hW3]
      clear x0 x1 x2 x3 x4 x5 x6 x7 x8 x9 x10 x11 x12 x13 hW3 HBr
      have HBox2 : Aside0 (∀ W' : World, Below W3.heap.size W3 W' → W'.cell? ⟨wr.heap.size, 0, none⟩ = some (.int .i64 s.f0) ∧ W'.cell? ⟨wr.heap.size, 1, none⟩ = some (.string s.f1) ∧ W'.cell? ⟨wr.heap.size, 2, none⟩ = some (.int .i64 s.f2.f0) ∧ W'.cell? ⟨wr.heap.size, 3, none⟩ = some (.int .u64 s.f2.f1) ∧ W'.cell? ⟨wr.heap.size, 4, none⟩ = some (.string s.f2.f2) ∧ W'.cell? ⟨wr.heap.size, 5, none⟩ = some (.slice A5 s.f2.f3.length c5) ∧ W'.cell? ⟨wr.heap.size, 6, none⟩ = some (.int .i64 s.f3.f0) ∧ W'.cell? ⟨wr.heap.size, 7, none⟩ = some (.int .u64 s.f3.f1) ∧ W'.cell? ⟨wr.heap.size, 8, none⟩ = some (.string s.f3.f2) ∧ W'.cell? ⟨wr.heap.size, 9, none⟩ = some (.slice A9 s.f3.f3.length c9) ∧ W'.cell? ⟨wr.heap.size, 10, none⟩ = some (.int .u64 s.f4) ∧ W'.cell? ⟨wr.heap.size, 11, none⟩ = some (.int .u64 s.f5) ∧ W'.cell? ⟨wr.heap.size, 12, none⟩ = some (.slice A12 s.f6.length c12) ∧ W'.cell? ⟨wr.heap.size, 13, none⟩ = some (.slice A13 s.f7.length c13)) := ⟨fun W' h => HBox.out W' ((h.block _ (Array.getElem?_eq_some_iff.1 HS3.out.2).1).trans HS3.out.2)⟩
      generalize wr.heap.size = gd at *
      generalize ct (plusF [n, 1]) = q1 at *
      generalize ct n = q0 at *
      generalize S52.siz n s = n2 at *
      generalize ct (S52.sizs 0 s.f6) = q6 at *
      generalize ct (S52.sizs 0 s.f7) = q7 at *
      clear HBox
      go_upto_region 7 with (go_at_call 75; refine (HCut.out _ _).mono ?_; rintro x' w4 ⟨rfl, hb⟩; have B4 := Aside0.mk hb; clear hb)
      rw [HSC.out.one]
      obtain ⟨z0, z1, z2, z3, z4, z5, z6, z7, z8, z9, z10, z11, z12, z13⟩ := HBox2.out _ B4.out
      have HWc : Aside0 (∀ wx, Below w4.heap.size w4 wx → Below W.heap.size W wx) := ⟨fun wx h => below_weaken' HS3.out.1 HS3.out.1.size (below_step B4.out h)⟩
      have HBx : Aside0 (∀ wx : World, Below w4.heap.size w4 wx → wx.cell? ⟨gd, 0, none⟩ = some (.int .i64 s.f0) ∧ wx.cell? ⟨gd, 1, none⟩ = some (.string s.f1) ∧ wx.cell? ⟨gd, 2, none⟩ = some (.int .i64 s.f2.f0) ∧ wx.cell? ⟨gd, 3, none⟩ = some (.int .u64 s.f2.f1) ∧ wx.cell? ⟨gd, 4, none⟩ = some (.string s.f2.f2) ∧ wx.cell? ⟨gd, 5, none⟩ = some (.slice A5 s.f2.f3.length c5) ∧ wx.cell? ⟨gd, 6, none⟩ = some (.int .i64 s.f3.f0) ∧ wx.cell? ⟨gd, 7, none⟩ = some (.int .u64 s.f3.f1) ∧ wx.cell? ⟨gd, 8, none⟩ = some (.string s.f3.f2) ∧ wx.cell? ⟨gd, 9, none⟩ = some (.slice A9 s.f3.f3.length c9) ∧ wx.cell? ⟨gd, 10, none⟩ = some (.int .u64 s.f4) ∧ wx.cell? ⟨gd, 11, none⟩ = some (.int .u64 s.f5) ∧ wx.cell? ⟨gd, 12, none⟩ = some (.slice A12 s.f6.length c12) ∧ wx.cell? ⟨gd, 13, none⟩ = some (.slice A13 s.f7.length c13)) := ⟨fun wx h => HBox2.out _ (below_step B4.out h)⟩
      clear HBox2
      by_cases k1 : s.f0 = 1
      · have e1 : (s.f0 == 1) = true := by simp [k1]
        have HE := Aside0.mk (HSC.out.k1 k1)
        clear k1 HSC
        go_wp2_with (first | (go_at_call 76; (with_reducible refine (HWe.out _ (HWc.out _ (by repeat (first | exact Below.refl _ _ | exact B9.out | exact B8.out | exact B7.out | exact B6.out | refine below_drew1 ?_)))).mono ?_); rintro x' w7 ⟨rfl, hb⟩; have B7 := Aside0.mk (show Below w4.heap.size w4 w7 from below_step (by repeat (first | exact Below.refl _ _ | exact B9.out | exact B8.out | exact B7.out | exact B6.out | refine below_drew1 ?_)) hb); clear hb) | (go_at_call 75; refine (HCut.out _ _).mono ?_; rintro x' w9 ⟨rfl, hb⟩; have B9 := Aside0.mk (show Below w4.heap.size w4 w9 from below_step (by repeat (first | exact Below.refl _ _ | exact B9.out | exact B8.out | exact B7.out | exact B6.out | refine below_drew1 ?_)) hb); clear hb))
        go_roundg (l.length - (i + 1))
        case measure => exact HIx.out.2.2
        case rel => exact ⟨i + 1, n2, by first | rfl | rw [HIx.out.1], by rw [HE.out], rfl, HIx.out.2.1, HTop.out, HSz.out, HWc.out _ (by first | exact B9.out | exact B8.out | exact B7.out | exact B6.out)⟩
      · have e1 : (s.f0 == 1) = false := by simpa using k1
        by_cases k2 : s.f0 = 2
        · have e2 : (s.f0 == 2) = true := by simp [k2]
          have HE := Aside0.mk (HSC.out.k2 k2)
          clear k1 k2 HSC
          go_upto_region 11 with (fail)
          have hS0 := HBx.out _ (Below.refl _ _)
          clear z0 z1 z2 z3 z4 z5 z6 z7 z8 z9 z10 z11 z12 z13
          go_region_held3 (fun wx => wx.cell? ⟨gd, 0, none⟩ = some (.int .i64 s.f0) ∧ wx.cell? ⟨gd, 1, none⟩ = some (.string s.f1) ∧ wx.cell? ⟨gd, 2, none⟩ = some (.int .i64 s.f2.f0) ∧ wx.cell? ⟨gd, 3, none⟩ = some (.int .u64 s.f2.f1) ∧ wx.cell? ⟨gd, 4, none⟩ = some (.string s.f2.f2) ∧ wx.cell? ⟨gd, 5, none⟩ = some (.slice A5 s.f2.f3.length c5) ∧ wx.cell? ⟨gd, 6, none⟩ = some (.int .i64 s.f3.f0) ∧ wx.cell? ⟨gd, 7, none⟩ = some (.int .u64 s.f3.f1) ∧ wx.cell? ⟨gd, 8, none⟩ = some (.string s.f3.f2) ∧ wx.cell? ⟨gd, 9, none⟩ = some (.slice A9 s.f3.f3.length c9) ∧ wx.cell? ⟨gd, 10, none⟩ = some (.int .u64 s.f4) ∧ wx.cell? ⟨gd, 11, none⟩ = some (.int .u64 s.f5) ∧ wx.cell? ⟨gd, 12, none⟩ = some (.slice A12 s.f6.length c12) ∧ wx.cell? ⟨gd, 13, none⟩ = some (.slice A13 s.f7.length c13)) (first | exact hS0 | exact HBx.out _ (by repeat (first | exact Below.refl _ _ | exact B9.out | exact B8.out | exact B7.out | exact B6.out | refine below_drew1 ?_))) (first | (go_at_call 76; (with_reducible refine (HWa.out _ (HWc.out _ (by repeat (first | exact Below.refl _ _ | exact B9.out | exact B8.out | exact B7.out | exact B6.out | refine below_drew1 ?_)))).mono ?_); rintro x' w6 ⟨rfl, hb⟩; have B6 := Aside0.mk (show Below w4.heap.size w4 w6 from below_step (by repeat (first | exact Below.refl _ _ | exact B9.out | exact B8.out | exact B7.out | exact B6.out | refine below_drew1 ?_)) hb); clear hb) | (go_at_call 76; (with_reducible refine (HWe.out _ (HWc.out _ (by repeat (first | exact Below.refl _ _ | exact B9.out | exact B8.out | exact B7.out | exact B6.out | refine below_drew1 ?_)))).mono ?_); rintro x' w7 ⟨rfl, hb⟩; have B7 := Aside0.mk (show Below w4.heap.size w4 w7 from below_step (by repeat (first | exact Below.refl _ _ | exact B9.out | exact B8.out | exact B7.out | exact B6.out | refine below_drew1 ?_)) hb); clear hb) | (go_at_call 75; refine (HCut.out _ _).mono ?_; rintro x' w9 ⟨rfl, hb⟩; have B9 := Aside0.mk (show Below w4.heap.size w4 w9 from below_step (by repeat (first | exact Below.refl _ _ | exact B9.out | exact B8.out | exact B7.out | exact B6.out | refine below_drew1 ?_)) hb); clear hb))
          all_goals
            go_wp2_with fail
            go_roundg (l.length - (i + 1))
            case measure => exact HIx.out.2.2
            case rel => exact ⟨i + 1, n2, by first | rfl | rw [HIx.out.1], by simp only [IntWalk.i64_left]; rw [HE.out], rfl, HIx.out.2.1, HTop.out, HSz.out, HWc.out _ (by first | exact B9.out | exact B8.out | exact B7.out | exact B6.out)⟩
        · have e2 : (s.f0 == 2) = false := by simpa using k2
          by_cases k3 : s.f0 = 3
          · have e3 : (s.f0 == 3) = true := by simp [k3]
            have HE := Aside0.mk (HSC.out.k3 k3)
            clear k1 k2 k3 HSC
            go_upto_region 13 with (fail)
            have hS0 := HBx.out _ (Below.refl _ _)
            clear z0 z1 z2 z3 z4 z5 z6 z7 z8 z9 z10 z11 z12 z13
            go_region_held3 (fun wx => wx.cell? ⟨gd, 0, none⟩ = some (.int .i64 s.f0) ∧ wx.cell? ⟨gd, 1, none⟩ = some (.string s.f1) ∧ wx.cell? ⟨gd, 2, none⟩ = some (.int .i64 s.f2.f0) ∧ wx.cell? ⟨gd, 3, none⟩ = some (.int .u64 s.f2.f1) ∧ wx.cell? ⟨gd, 4, none⟩ = some (.string s.f2.f2) ∧ wx.cell? ⟨gd, 5, none⟩ = some (.slice A5 s.f2.f3.length c5) ∧ wx.cell? ⟨gd, 6, none⟩ = some (.int .i64 s.f3.f0) ∧ wx.cell? ⟨gd, 7, none⟩ = some (.int .u64 s.f3.f1) ∧ wx.cell? ⟨gd, 8, none⟩ = some (.string s.f3.f2) ∧ wx.cell? ⟨gd, 9, none⟩ = some (.slice A9 s.f3.f3.length c9) ∧ wx.cell? ⟨gd, 10, none⟩ = some (.int .u64 s.f4) ∧ wx.cell? ⟨gd, 11, none⟩ = some (.int .u64 s.f5) ∧ wx.cell? ⟨gd, 12, none⟩ = some (.slice A12 s.f6.length c12) ∧ wx.cell? ⟨gd, 13, none⟩ = some (.slice A13 s.f7.length c13)) (first | exact hS0 | exact HBx.out _ (by repeat (first | exact Below.refl _ _ | exact B9.out | exact B8.out | exact B7.out | exact B6.out | refine below_drew1 ?_))) (first | (go_at_call 76; (with_reducible refine (HWe.out _ (HWc.out _ (by repeat (first | exact Below.refl _ _ | exact B9.out | exact B8.out | exact B7.out | exact B6.out | refine below_drew1 ?_)))).mono ?_); rintro x' w7 ⟨rfl, hb⟩; have B7 := Aside0.mk (show Below w4.heap.size w4 w7 from below_step (by repeat (first | exact Below.refl _ _ | exact B9.out | exact B8.out | exact B7.out | exact B6.out | refine below_drew1 ?_)) hb); clear hb) | (go_at_call 35; (with_reducible refine (HT.out _ (HWc.out _ (by repeat (first | exact Below.refl _ _ | exact B9.out | exact B8.out | exact B7.out | exact B6.out | refine below_drew1 ?_)))).mono ?_); rintro x' w6 ⟨rfl, hb⟩; have B6 := Aside0.mk (show Below w4.heap.size w4 w6 from below_step (by repeat (first | exact Below.refl _ _ | exact B9.out | exact B8.out | exact B7.out | exact B6.out | refine below_drew1 ?_)) hb); clear hb) | (go_at_call 35; (with_reducible refine (HU7.out _ (HWc.out _ (by repeat (first | exact Below.refl _ _ | exact B9.out | exact B8.out | exact B7.out | exact B6.out | refine below_drew1 ?_)))).mono ?_); rintro x' w8 ⟨rfl, hb⟩; have B8 := Aside0.mk (show Below w4.heap.size w4 w8 from below_step (by repeat (first | exact Below.refl _ _ | exact B9.out | exact B8.out | exact B7.out | exact B6.out | refine below_drew1 ?_)) hb); clear hb) | (go_at_call 75; refine (HCut.out _ _).mono ?_; rintro x' w9 ⟨rfl, hb⟩; have B9 := Aside0.mk (show Below w4.heap.size w4 w9 from below_step (by repeat (first | exact Below.refl _ _ | exact B9.out | exact B8.out | exact B7.out | exact B6.out | refine below_drew1 ?_)) hb); clear hb))
            all_goals
              go_wp2_with fail
              go_roundg (l.length - (i + 1))
              case measure => exact HIx.out.2.2
              case rel => exact ⟨i + 1, n2, by first | rfl | rw [HIx.out.1], by simp only [IntWalk.i64_left]; rw [HE.out], rfl, HIx.out.2.1, HTop.out, HSz.out, HWc.out _ (by first | exact B9.out | exact B8.out | exact B7.out | exact B6.out)⟩
          · have e3 : (s.f0 == 3) = false := by simpa using k3
            by_cases k4 : s.f0 = 4
            · have e4 : (s.f0 == 4) = true := by simp [k4]
              by_cases hlh : s.f4 < s.f5
              · have g1 : decide (s.f5 > s.f4) = true := by simp [hlh]
                have g2 : decide (s.f4 < s.f5) = true := g1
                obtain ⟨eu, HE0⟩ := HSC.out.k4 k4 hlh
                by_cases h65 : 65536 < s.f5 - s.f4
                · have g3 : decide (s.f5 - s.f4 > 65536) = true := by simpa using h65
                  have g4 : decide (65536 < s.f5 - s.f4) = true := g3
                  rw [if_pos h65] at HE0
                  have HE := Aside0.mk HE0
                  clear k1 k2 k3 k4 HSC HE0 h65 hlh
                  go_wp2_with (first | (go_at_call 35; (with_reducible refine (HT.out _ (HWc.out _ (by repeat (first | exact Below.refl _ _ | exact B9.out | exact B8.out | exact B7.out | exact B6.out | refine below_drew1 ?_)))).mono ?_); rintro x' w6 ⟨rfl, hb⟩; have B6 := Aside0.mk (show Below w4.heap.size w4 w6 from below_step (by repeat (first | exact Below.refl _ _ | exact B9.out | exact B8.out | exact B7.out | exact B6.out | refine below_drew1 ?_)) hb); clear hb) | (go_at_call 75; refine (HCut.out _ _).mono ?_; rintro x' w9 ⟨rfl, hb⟩; have B9 := Aside0.mk (show Below w4.heap.size w4 w9 from below_step (by repeat (first | exact Below.refl _ _ | exact B9.out | exact B8.out | exact B7.out | exact B6.out | refine below_drew1 ?_)) hb); clear hb))
                  go_roundg (l.length - (i + 1))
                  case measure => exact HIx.out.2.2
                  case rel => exact ⟨i + 1, n2, by first | rfl | rw [HIx.out.1], by first | rw [HE.out] | (rw [← HE.out]; rfl), rfl, HIx.out.2.1, HTop.out, HSz.out, HWc.out _ (by first | exact B9.out | exact B8.out | exact B7.out | exact B6.out)⟩
                · have g3 : decide (s.f5 - s.f4 > 65536) = false := by simpa using h65
                  have g4 : decide (65536 < s.f5 - s.f4) = false := g3
                  have g5 : IntKind.i64.wrap (s.f5 - s.f4) = s.f5 - s.f4 := IntWalk.i64_in _ (by omega)
                  have g6 : wrap64 (s.f5 - s.f4) = s.f5 - s.f4 := wrap_small (by omega) (by omega)
                  rw [if_neg h65] at HE0
                  have HE := Aside0.mk HE0
                  clear k1 k2 k3 k4 HSC HE0 h65 hlh
                  go_wp2_with (first | (go_at_call 35; (with_reducible refine (HT.out _ (HWc.out _ (by repeat (first | exact Below.refl _ _ | exact B9.out | exact B8.out | exact B7.out | exact B6.out | refine below_drew1 ?_)))).mono ?_); rintro x' w6 ⟨rfl, hb⟩; have B6 := Aside0.mk (show Below w4.heap.size w4 w6 from below_step (by repeat (first | exact Below.refl _ _ | exact B9.out | exact B8.out | exact B7.out | exact B6.out | refine below_drew1 ?_)) hb); clear hb) | (go_at_call 75; refine (HCut.out _ _).mono ?_; rintro x' w9 ⟨rfl, hb⟩; have B9 := Aside0.mk (show Below w4.heap.size w4 w9 from below_step (by repeat (first | exact Below.refl _ _ | exact B9.out | exact B8.out | exact B7.out | exact B6.out | refine below_drew1 ?_)) hb); clear hb))
                  go_roundg (l.length - (i + 1))
                  case measure => exact HIx.out.2.2
                  case rel => exact ⟨i + 1, n2, by first | rfl | rw [HIx.out.1], by first | rw [HE.out] | (rw [← HE.out]; rfl), rfl, HIx.out.2.1, HTop.out, HSz.out, HWc.out _ (by first | exact B9.out | exact B8.out | exact B7.out | exact B6.out)⟩
              · have g1 : decide (s.f5 > s.f4) = false := by simpa using hlh
                have g2 : decide (s.f4 < s.f5) = false := g1
                have HE := Aside0.mk (HSC.out.k0 k1 k2 k3 (fun _ => hlh))
                clear k1 k2 k3 k4 HSC hlh
                go_wp2_with fail
                go_roundg (l.length - (i + 1))
                case measure => exact HIx.out.2.2
                case rel => exact ⟨i + 1, n2, by first | rfl | rw [HIx.out.1], by rw [HE.out], rfl, HIx.out.2.1, HTop.out, HSz.out, HWc.out _ (by exact Below.refl _ _)⟩
            · have e4 : (s.f0 == 4) = false := by simpa using k4
              have HE := Aside0.mk (HSC.out.k0 k1 k2 k3 (fun h => absurd h k4))
              clear k1 k2 k3 k4 HSC
              go_wp2_with fail
              go_roundg (l.length - (i + 1))
              case measure => exact HIx.out.2.2
              case rel => exact ⟨i + 1, n2, by first | rfl | rw [HIx.out.1], by rw [HE.out], rfl, HIx.out.2.1, HTop.out, HSz.out, HWc.out _ (by exact Below.refl _ _)⟩
    · have hlt' : ¬ ((i : Int) < (l.length : Int)) := by omega
      have hie : i = l.length := by omega
      subst hie
      rw [List.drop_length] at hsz
      have HE : Aside0 (ct n = ct (S52.sizs 0 l)) := ⟨by rw [← hsz]; rfl⟩
      clear hsz htop
      go_wp2_with fail
      go_ret
      exact ⟨by rw [← HE.out]; rfl, HBr.out⟩
end Go.Proofs.YtjomofepephodaaGreat.PEquivShapes
