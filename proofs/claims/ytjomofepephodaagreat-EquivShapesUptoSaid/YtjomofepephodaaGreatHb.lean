/-
  Public and Length of package run; both Shapes. Conditions: what each theorem names.
-/
import Derived.Test.YtjomofepephodaaGreatGi
import Derived.Test.YtjomofepephodaaGreatHa
import Derived.BigQuiet
import Derived.Deep.QuietTactic
set_option linter.unusedVariables false
set_option linter.unusedSimpArgs false
namespace Go.Proofs.YtjomofepephodaaGreat.PEquivShapes
open Go.RowKit
open Go.Proofs.YtjomofepephodaaGreatW.PrintWords Go.Proofs.YtjomofepephodaaGreatW.PrintLast Go.Proofs.YtjomofepephodaaGreatW.PrintMore
theorem own_cells {w : World} {base g n : Nat} {xs : List Value} (h : w.ownsRow base 4 1 (.slice (some ⟨g, 0, none⟩) n n) n xs) : xs.length = n * 1 ∧ ∀ (j : Nat) (u : Value), xs[j]? = some u → w.cell? (({ block := g, off := 0 } : Addr).add j) = some u := by
  refine ⟨h.1, fun j u hu => ?_⟩
  rcases h.2 with ⟨h1, _⟩ | ⟨g', cap, cur, h1, _, hg, _, _, hs, ht⟩
  · cases h1
  · cases h1
    have hj : j < xs.length := (List.getElem?_eq_some_iff.1 hu).1
    have hl := h.1
    rw [← ht, List.getElem?_take_of_lt (by omega)] at hu
    rw [Addr.add_lit, Nat.zero_add, cell_of_row w g j cur 4 (0, 0) hg]
    simpa using hu
set_option maxHeartbeats 4000000 in
set_option maxRecDepth 100000 in
theorem lpublic_any (p : PR) (A3 : Option Addr) (c3 : Nat) (A4 : Option Addr) (c4 : Nat) (w : World) (hp : p.At w A3 c3 A4 c4) (hf : p.fits) :
    Calls Tryz.prog 13 #[p.cells A3 c3 A4 c4] w fun e w' => PubPost p w e w' := by
  have hu := Tryz.underlying22
  obtain ⟨i0, hi0, hz0, hz1, hz2⟩ := info_parts Tryz.info4
  obtain ⟨W2, hW2⟩ : ∃ W2, w.alloc (.cells #[.string p.name, .int .i64 p.width, .int .i64 p.line, .slice A3 p.decls.length c3, .slice A4 p.body.length c4] 25) = W2 := ⟨_, rfl⟩
  have hbox : W2.heap[w.heap.size]? = some (.cells #[.string p.name, .int .i64 p.width, .int .i64 p.line, .slice A3 p.decls.length c3, .slice A4 p.body.length c4] 25 (0, 0)) := by rw [← hW2]; exact one_a w _
  have HKB : Aside0 (∀ W : World, W.heap[w.heap.size]? = some (.cells #[.string p.name, .int .i64 p.width, .int .i64 p.line, .slice A3 p.decls.length c3, .slice A4 p.body.length c4] 25 (0, 0)) → PBox W w.heap.size p A3 c3 A4 c4) := ⟨fun W h => by unfold PBox; simp [World.cell?, h]⟩
  have B : Below w.heap.size w W2 := by rw [← hW2]; exact below_alloc (Below.refl _ _) _
  have BB := Aside0.mk B
  have HBox := Aside0.mk hbox
  have HW := Aside0.mk hW2
  have HP := Aside0.mk hp
  have HC := Aside0.mk (check_any p.formB p A3 c3 A4 c4 W2 (At_below hp B) hf (fun W hW => l_form p A3 c3 A4 c4 W hW))
  have HI0 := Aside0.mk (⟨hi0, hz0, hz1, hz2⟩ : _ ∧ _ ∧ _ ∧ _)
  obtain ⟨z0, z1, z2, z3, z4⟩ := HKB.out _ hbox
  unfold PR.cells at *
  clear hp hf hW2 B hbox hi0 hz0 hz1 hz2
  go_enter Tryz.func13, Tryz.ntmps13
  go_upto_region 1 with (fail)
  try rw [HW.out]
  go_upto_region 2 with (go_at_call 17; refine HC.out.mono ?_; rintro x' w3 ⟨⟨c1, rfl, hc1⟩, hb1⟩; have HBox3 := Aside0.mk ((Kept4.below hb1) _ _ _ _ (by decide) HBox.out); have B3 := Aside0.mk (below_step BB.out hb1); have HC1 := Aside0.mk hc1; clear hb1 hc1)
  clear z0 z1 z2 z3 z4
  obtain ⟨z0, z1, z2, z3, z4⟩ := HKB.out _ HBox3.out
  by_cases h0 : c1 = 0
  · subst h0
    have HSm : Aside0 (Small p) := ⟨wf_small (HC1.out.1 rfl)⟩
    have HC0 : Aside0 (wfB p.formB p) := ⟨HC1.out.1 rfl⟩
    have hll : (p.decls.length : Int) ≤ 9223372036854775807 := by have := HSm.out.1; omega
    go_wp2_with fail
    go_loopg [5, 16] (p.decls.length) (fun m v5 v16 wr => ∃ (i : Nat) (lv : Value), lv = v5 ∧ v16 = .int .i64 (i : Int) ∧ m = p.decls.length - i ∧ i ≤ p.decls.length ∧ Dst w.heap.size w p A3 c3 A4 c4 lv (pubs (p.decls.take i)) wr)
    case atStart => exact ⟨0, _, rfl, rfl, rfl, Nat.zero_le _, ⟨[], World.ownsRow_nil _ _ _ _⟩, B3.out, HBox3.out⟩
    case round =>
      obtain ⟨i, lv, rfl, rfl, rfl, hi, hst⟩ := hrel
      have HSt := Aside0.mk hst
      clear hst z0 z1 z2 z3 z4
      by_cases hlt : i < p.decls.length
      · have hlt' : (i : Int) < (p.decls.length : Int) := by omega
        obtain ⟨ad, DA, dc, rfl, x0, x1, x2, x3, hc1, hk1⟩ := at_T38 HP.out.2.1 (i : Int) (by omega) (by omega)
        simp only [Int.toNat_natCast] at x0 x1 x2 x3
        replace x0 := kept0 rfl HSt.out.2.1 x0
        replace x1 := kept0 rfl HSt.out.2.1 x1
        replace x2 := kept0 rfl HSt.out.2.1 x2
        replace x3 := kept0 rfl HSt.out.2.1 x3
        have HPt := Aside0.mk (pubs_take hlt)
        have HDs := Aside0.mk (HSm.out.2 i hlt)
        have HPl := Aside0.mk (pubs_le HSm.out i (by omega))
        have HDk : Aside0 ((rd_T38 p.decls i).f3.length ≤ dc ∧ Kd.C (Kd.int .u64) w DA (rd_T38 p.decls i).f3.length (rd_T38 p.decls i).f3) := ⟨⟨hc1, hk1⟩⟩
        have HIx : Aside0 (IntKind.i64.wrap ((i : Int) + 1) = ((i + 1 : Nat) : Int) ∧ wrap64 ((i : Int) + 1) = ((i + 1 : Nat) : Int) ∧ i + 1 ≤ p.decls.length ∧ i + 1 ≤ 256) := ⟨by have := HSm.out.1; refine ⟨IntWalk.i64_in _ (by omega), wrap_next (by omega), by omega, by omega⟩⟩
        clear hc1 hk1
        generalize rd_T38 p.decls i = d at *
        obtain ⟨nw, hnw⟩ : ∃ nw : Nat, mx d.f2 1 = (nw : Int) ∧ 1 ≤ nw ∧ nw ≤ 256 := ⟨(mx d.f2 1).toNat, by have := HDs.out; unfold mx; split <;> omega⟩
        have HWd : Aside0 (∀ W, Below w.heap.size w W → Calls Tryz.prog 20 #[.agg #[.int .i64 d.f0, .string d.f1, .int .i64 d.f2, .slice DA d.f3.length dc]] W fun e w' => e = .returned (.int .i64 (nw : Int)) ∧ Below W.heap.size W w') := ⟨fun W hW => run_words.calls d.f0 d.f1 d.f2 DA dc d.f3 _ W (Kd.C_below HDk.out.2 hW) HDk.out.1 (by unfold run_words.f; rw [hnw.1])⟩
        have HIn : Aside0 (∀ W, Below w.heap.size w W → Calls Tryz.prog 18 #[.agg #[.int .i64 d.f0, .string d.f1, .int .i64 d.f2, .slice DA d.f3.length dc]] W fun e w' => e = .returned (.bool (decide (d.f0 ≤ 2))) ∧ Below W.heap.size W w') := ⟨fun W hW => run_input.calls d.f0 d.f1 d.f2 DA dc d.f3 _ W (Kd.C_below HDk.out.2 hW) HDk.out.1 (by
          unfold run_input.f
          have h1 := HDs.out.2.2.1
          by_cases e1 : d.f0 = 1
          · rw [if_pos e1, e1]; rfl
          · rw [if_neg e1]
            by_cases e2 : d.f0 = 2
            · rw [e2]; rfl
            · rw [show (d.f0 == 2) = false by simpa using e2, show decide (d.f0 ≤ 2) = false by simp; omega])⟩
        have HNw : Aside0 (1 ≤ nw ∧ nw ≤ 256 ∧ pub1 d = if d.f0 ≤ 2 then nw else 0) := ⟨⟨hnw.2.1, hnw.2.2, by unfold pub1; rw [hnw.1, Int.toNat_natCast]⟩⟩
        have HDbox : Aside0 (∀ W : World, W.heap[wr.heap.size]? = some (.cells #[.int .i64 d.f0, .string d.f1, .int .i64 d.f2, .slice DA d.f3.length dc] 38 (0, 0)) → W.cell? ⟨wr.heap.size, 0, none⟩ = some (.int .i64 d.f0) ∧ W.cell? ⟨wr.heap.size, 1, none⟩ = some (.string d.f1) ∧ W.cell? ⟨wr.heap.size, 2, none⟩ = some (.int .i64 d.f2) ∧ W.cell? ⟨wr.heap.size, 3, none⟩ = some (.slice DA d.f3.length dc)) := ⟨fun W h => by simp [World.cell?, h]⟩
        have HBs : Aside0 (w.heap.size ≤ wr.heap.size) := ⟨HSt.out.2.1.size⟩
        go_upto_region 8 with (fail)
        obtain ⟨W3, hW3⟩ : ∃ W3, wr.alloc (.cells #[.int .i64 d.f0, .string d.f1, .int .i64 d.f2, .slice DA d.f3.length dc] 38) = W3 := ⟨_, rfl⟩
        have HSt3 : Aside0 (Dst w.heap.size w p (some ad) c3 A4 c4 lv (pubs (p.decls.take i)) W3 ∧ W3.heap[wr.heap.size]? = some (.cells #[.int .i64 d.f0, .string d.f1, .int .i64 d.f2, .slice DA d.f3.length dc] 38 (0, 0)) ∧ w.heap.size ≤ W3.heap.size) := ⟨by
          rw [← hW3]
          exact ⟨HSt.out.below HBs.out (below_alloc (Below.refl _ _) _), one_a wr _, Nat.le_trans HBs.out (below_alloc (Below.refl wr.heap.size wr) _).size⟩⟩
        rw [hW3]
        clear x0 x1 x2 x3 hW3 HSt hnw
        obtain ⟨q0, q1, q2, q3⟩ := HDbox.out _ HSt3.out.2.1
        generalize wr.heap.size = gd at *
        generalize pubs (p.decls.take i) = nn at *
        by_cases hk2 : d.f0 ≤ 2
        · have HPu : Aside0 (pub1 d = nw) := ⟨by rw [HNw.out.2.2, if_pos hk2]⟩
          have e2 : decide (d.f0 ≤ 2) = true := by simp [hk2]
          rw [e2] at HIn
          clear hk2 e2
          go_upto_region 9 with (go_at_call 18; refine (HIn.out _ HSt3.out.1.2.1).mono ?_; rintro x' w6 ⟨rfl, hb6⟩; have HS6 := Aside0.mk (HSt3.out.1.below HSt3.out.2.2 hb6); have HD6 := Aside0.mk ((Kept4.below hb6) _ _ _ _ (by decide) HSt3.out.2.1); have HB6 : Aside0 (w.heap.size ≤ w6.heap.size) := ⟨Nat.le_trans HSt3.out.2.2 hb6.size⟩; clear hb6)
          obtain ⟨xs, ho⟩ := HS6.out.1
          have HO := Aside0.mk ho
          have HKd : Aside0 (∀ w' : World, Below w6.heap.size w6 w' → w'.cell? ⟨gd, 0, none⟩ = some (.int .i64 d.f0) ∧ w'.cell? ⟨gd, 1, none⟩ = some (.string d.f1) ∧ w'.cell? ⟨gd, 2, none⟩ = some (.int .i64 d.f2) ∧ w'.cell? ⟨gd, 3, none⟩ = some (.slice DA d.f3.length dc)) := ⟨fun w' h => HDbox.out _ ((Kept4.below h) _ _ _ _ (by decide) HD6.out)⟩
          have HW6 : Aside0 (∀ w' : World, Below w6.heap.size w6 w' → Below w.heap.size w w') := ⟨fun w' h => below_weaken' HS6.out.2.1 HB6.out h⟩
          have HLen : Aside0 (nn + nw ≤ maxLen ∧ (nn + nw) * 1 ≤ 140737488355328 ∧ 0 < nw) := ⟨by
            have h1 := HPl.out
            have h2 := HSm.out.1
            have h3 := HNw.out.2.1
            have h4 := HNw.out.1
            have h5 := HIx.out.2.2.2
            unfold maxLen
            refine ⟨?_, ?_, by omega⟩ <;> omega⟩
          have hS0 := HKd.out _ (Below.refl _ _)
          clear ho q0 q1 q2 q3
          go_region_held3 (fun w' => w'.cell? ⟨gd, 0, none⟩ = some (.int .i64 d.f0) ∧ w'.cell? ⟨gd, 1, none⟩ = some (.string d.f1) ∧ w'.cell? ⟨gd, 2, none⟩ = some (.int .i64 d.f2) ∧ w'.cell? ⟨gd, 3, none⟩ = some (.slice DA d.f3.length dc)) (first | exact hS0 | exact HDbox.out _ HD9.out | exact HKd.out _ (by repeat (first | exact Below.refl _ _ | exact B8.out | exact B7.out | refine below_drew1 ?_ | refine below_alloc ?_ _))) (first
            | (go_at_call 20; refine (HWd.out _ (HW6.out _ (by repeat (first | exact Below.refl _ _ | exact B8.out | exact B7.out | refine below_drew1 ?_ | refine below_alloc ?_ _)))).mono ?_; rintro x' w7 ⟨rfl, hb7⟩; have B7 := Aside0.mk (show Below w6.heap.size w6 w7 from below_step (by repeat (first | exact Below.refl _ _ | exact B8.out | exact B7.out | refine below_drew1 ?_ | refine below_alloc ?_ _)) hb7); (first | (have hZ := newBlk (Z := .cells #[.bool (d.f0 == 1)] 4) hb7; have HZ7 := Aside0.mk ((cellsOf hZ 0).trans rfl : w7.cell? ⟨w6.heap.size, 0, none⟩ = some (.bool (d.f0 == 1))); clear hZ) | skip); clear hb7)
            | (go_at_call 19; refine (repeat_any _ 1 nw (d.f0 == 1) _ (by first | exact HZ7.out | exact (cellsOf (one_a w7 _) 0).trans rfl) HNw.out.1 HNw.out.2.1).mono ?_; rintro x' w8 ⟨g8, ys, rfl, ho8, h18, hb8⟩; have B8 := Aside0.mk (show Below w6.heap.size w6 w8 from below_step (by repeat (first | exact Below.refl _ _ | exact B8.out | exact B7.out | refine below_drew1 ?_ | refine below_alloc ?_ _)) hb8); have HR8 := Aside0.mk (own_cells ho8); have H18 := Aside0.mk h18; have HO8 := Aside0.mk (HO.out.kept (grown_of_below B8.out none) (by cases lv.ownBlock <;> simp)); have HB8 : Aside0 (w.heap.size ≤ w8.heap.size) := ⟨(HW6.out _ B8.out).size⟩; clear ho8 h18 hb8)
            | (refine step_append_lies _ rfl (.tmp 22) (.tmp 29) 33 rfl w.heap.size 4 i0 _ 1 1 Tryz.underlying33 HI0.out.1 HI0.out.2.1 HI0.out.2.2.1 HI0.out.2.2.2 rfl (by decide) lv nn xs rfl HO8.out ⟨g8, 0, none⟩ nw nw ys rfl HR8.out.1 HR8.out.2 H18.out HLen.out.2.2 HLen.out.1 HLen.out.2.1 HB8.out _ rfl ?_; intro g9 cap9 w9 ho9 hg9 _ _; have HS9 := Aside0.mk (Dst.add (HW6.out _ B8.out) ((Kept4.below B8.out) _ _ _ _ (by decide) HS6.out.2.2) HB8.out HO8.out hg9 ho9); have HD9 := Aside0.mk ((Kept4.grown HO8.out hg9) _ _ _ _ (by decide) ((Kept4.below B8.out) _ _ _ _ (by decide) HD6.out)); clear ho9 hg9))
          all_goals
            go_wp2_with fail
            go_roundg (p.decls.length - (i + 1))
            case measure => omega
            case rel => exact ⟨i + 1, _, rfl, by first | rfl | rw [HIx.out.1] | rw [HIx.out.2.1], rfl, HIx.out.2.2.1, by rw [HPt.out, HPu.out]; exact HS9.out⟩
        · have HPu : Aside0 (pub1 d = 0) := ⟨by rw [HNw.out.2.2, if_neg hk2]⟩
          have e2 : decide (d.f0 ≤ 2) = false := by simpa using hk2
          rw [e2] at HIn
          clear hk2 e2
          go_wp2_with (go_at_call 18; refine (HIn.out _ HSt3.out.1.2.1).mono ?_; rintro x' w6 ⟨rfl, hb6⟩; have HS6 := Aside0.mk (HSt3.out.1.below HSt3.out.2.2 hb6); clear hb6)
          go_roundg (p.decls.length - (i + 1))
          case measure => omega
          case rel => exact ⟨i + 1, _, rfl, by first | rfl | rw [HIx.out.1] | rw [HIx.out.2.1], rfl, HIx.out.2.2.1, by rw [HPt.out, HPu.out]; exact HS6.out⟩
      · have hlt' : ¬ ((i : Int) < (p.decls.length : Int)) := by omega
        have HE : Aside0 (pubs (p.decls.take i) = pubs p.decls) := ⟨by rw [List.take_of_length_le (by omega)]⟩
        go_wp2_with fail
        go_ret2
        obtain ⟨A, k, rfl⟩ := HSt.out.1.opens
        exact ⟨⟨_, _, rfl, ⟨fun _ => HC0.out, fun _ => rfl⟩, A, k, _, rfl, fun _ => HE.out⟩, HSt.out.2.1⟩
  · have h1 : (c1 != 0) = true := by simpa using h0
    go_wp2_with fail
    go_ret2
    exact ⟨⟨_, _, rfl, HC1.out, none, 0, 0, rfl, fun h => absurd h h0⟩, B3.out⟩
set_option maxHeartbeats 1000000 in
theorem llength_any (p : PR) (A3 : Option Addr) (c3 : Nat) (A4 : Option Addr) (c4 : Nat) (w : World) (hp : p.At w A3 c3 A4 c4) (hf : p.fits) :
    Calls Tryz.prog 7 #[p.cells A3 c3 A4 c4] w fun e w' => LenPost p w e w' := by
  have B := below_alloc (Below.refl w.heap.size w) (p.row A3 c3 A4 c4)
  have HC := Aside0.mk (lpublic_any p A3 c3 A4 c4 _ (At_below hp B) hf)
  have BB := Aside0.mk B
  clear B hp hf
  unfold PR.row at HC BB
  unfold PR.cells at *
  go_enter Tryz.func7, Tryz.ntmps7
  go_wp2_with (go_at_call 13; refine HC.out.mono ?_; rintro x' w2 ⟨⟨v, c, rfl, h1, A, k, n, rfl, h2⟩, hb⟩; have H1 := Aside0.mk h1; have H2 := Aside0.mk h2; have B2 := Aside0.mk (below_step BB.out hb); clear h1 h2 hb)
  go_ret2
  exact ⟨⟨_, _, rfl, H1.out, fun h => by rw [H2.out h]⟩, B2.out⟩
end Go.Proofs.YtjomofepephodaaGreat.PEquivShapes
namespace Go.Proofs.YtjomofepephodaaGreat.PEquivShapes
open Go.RowKit
open Go.Proofs.YtjomofepephodaaGreatW.PrintWords Go.Proofs.YtjomofepephodaaGreatW.PrintLast Go.Proofs.YtjomofepephodaaGreatW.PrintMore
/-- the shapes are alike -/
def Alike (p q : PR) : Prop := wfB p.formB p ∧ wfB q.formB q ∧ p.width = q.width ∧ pubs p.decls = pubs q.decls ∧ outR p.decls 0 = outR q.decls 0
def ShPost (p q : PR) (w : World) (e : Ending) (w' : World) : Prop := (∃ b : Bool, e = .returned (.bool b) ∧ (b = true ↔ Alike p q)) ∧ Below w.heap.size w w'
/-- not too great -/
def Fair (p : PR) : Prop := p.decls.length ≤ 1048576 ∧ (∀ d, d ∈ p.decls → d.f3.length ≤ 1048576) ∧ S52.bulks p.body ≤ 1048576
set_option maxHeartbeats 4000000 in
set_option maxRecDepth 100000 in
theorem lshape_any (p : PR) (A3 : Option Addr) (c3 : Nat) (A4 : Option Addr) (c4 : Nat) (q : PR) (D3 : Option Addr) (e3 : Nat) (D4 : Option Addr) (e4 : Nat) (w : World) (hp : p.At w A3 c3 A4 c4) (hq : q.At w D3 e3 D4 e4) (hfp : p.fits) (hfq : q.fits) (hsp : Fair p) (hsq : Fair q) :
    Calls Tryz.prog 4 #[p.cells A3 c3 A4 c4, q.cells D3 e3 D4 e4] w fun e w' => ShPost p q w e w' := by
  obtain ⟨W2, hW2⟩ : ∃ W2, (w.alloc (.cells #[.string p.name, .int .i64 p.width, .int .i64 p.line, .slice A3 p.decls.length c3, .slice A4 p.body.length c4] 25)).alloc (.cells #[.string q.name, .int .i64 q.width, .int .i64 q.line, .slice D3 q.decls.length e3, .slice D4 q.body.length e4] 25) = W2 := ⟨_, rfl⟩
  have HK0 : Aside0 (W2.cell? ⟨w.heap.size, 0, none⟩ = some (.string p.name) ∧ W2.cell? ⟨w.heap.size, 1, none⟩ = some (.int .i64 p.width) ∧ W2.cell? ⟨w.heap.size, 2, none⟩ = some (.int .i64 p.line) ∧ W2.cell? ⟨w.heap.size, 3, none⟩ = some (.slice A3 p.decls.length c3) ∧ W2.cell? ⟨w.heap.size, 4, none⟩ = some (.slice A4 p.body.length c4) ∧ W2.cell? ⟨w.heap.size + 1, 0, none⟩ = some (.string q.name) ∧ W2.cell? ⟨w.heap.size + 1, 1, none⟩ = some (.int .i64 q.width) ∧ W2.cell? ⟨w.heap.size + 1, 2, none⟩ = some (.int .i64 q.line) ∧ W2.cell? ⟨w.heap.size + 1, 3, none⟩ = some (.slice D3 q.decls.length e3) ∧ W2.cell? ⟨w.heap.size + 1, 4, none⟩ = some (.slice D4 q.body.length e4)) := ⟨by rw [← hW2]; simp [go_sem]⟩
  have B : Below w.heap.size w W2 := by rw [← hW2]; exact below_alloc (below_alloc (Below.refl _ _) _) _
  have HKe : Aside0 (∀ wx : World, Below W2.heap.size W2 wx → wx.cell? ⟨w.heap.size, 0, none⟩ = some (.string p.name) ∧ wx.cell? ⟨w.heap.size, 1, none⟩ = some (.int .i64 p.width) ∧ wx.cell? ⟨w.heap.size, 2, none⟩ = some (.int .i64 p.line) ∧ wx.cell? ⟨w.heap.size, 3, none⟩ = some (.slice A3 p.decls.length c3) ∧ wx.cell? ⟨w.heap.size, 4, none⟩ = some (.slice A4 p.body.length c4) ∧ wx.cell? ⟨w.heap.size + 1, 0, none⟩ = some (.string q.name) ∧ wx.cell? ⟨w.heap.size + 1, 1, none⟩ = some (.int .i64 q.width) ∧ wx.cell? ⟨w.heap.size + 1, 2, none⟩ = some (.int .i64 q.line) ∧ wx.cell? ⟨w.heap.size + 1, 3, none⟩ = some (.slice D3 q.decls.length e3) ∧ wx.cell? ⟨w.heap.size + 1, 4, none⟩ = some (.slice D4 q.body.length e4)) := ⟨fun wx h => by
    obtain ⟨a0, a1, a2, a3, a4, b0, b1, b2, b3, b4⟩ := HK0.out
    exact ⟨kept_cell h a0, kept_cell h a1, kept_cell h a2, kept_cell h a3, kept_cell h a4, kept_cell h b0, kept_cell h b1, kept_cell h b2, kept_cell h b3, kept_cell h b4⟩⟩
  have BB := Aside0.mk B
  have HW := Aside0.mk hW2
  have HLp : Aside0 (∀ W, Below w.heap.size w W → Calls Tryz.prog 7 #[.agg #[.string p.name, .int .i64 p.width, .int .i64 p.line, .slice A3 p.decls.length c3, .slice A4 p.body.length c4]] W fun e w' => LenPost p W e w') := ⟨fun W hW => llength_any p A3 c3 A4 c4 W (At_below hp hW) hfp⟩
  have HLq : Aside0 (∀ W, Below w.heap.size w W → Calls Tryz.prog 7 #[.agg #[.string q.name, .int .i64 q.width, .int .i64 q.line, .slice D3 q.decls.length e3, .slice D4 q.body.length e4]] W fun e w' => LenPost q W e w') := ⟨fun W hW => llength_any q D3 e3 D4 e4 W (At_below hq hW) hfq⟩
  have HOp : Aside0 (∀ W, Below w.heap.size w W → Calls Tryz.prog 8 #[.agg #[.string p.name, .int .i64 p.width, .int .i64 p.line, .slice A3 p.decls.length c3, .slice A4 p.body.length c4]] W fun e w' => e = .returned (.int .i64 (outR p.decls 0)) ∧ Below W.heap.size W w') := ⟨fun W hW => outs_l p A3 c3 A4 c4 W (At_below hp hW) hsp.1⟩
  have HOq : Aside0 (∀ W, Below w.heap.size w W → Calls Tryz.prog 8 #[.agg #[.string q.name, .int .i64 q.width, .int .i64 q.line, .slice D3 q.decls.length e3, .slice D4 q.body.length e4]] W fun e w' => e = .returned (.int .i64 (outR q.decls 0)) ∧ Below W.heap.size W w') := ⟨fun W hW => outs_l q D3 e3 D4 e4 W (At_below hq hW) hsq.1⟩
  obtain ⟨z0, z1, z2, z3, z4, y0, y1, y2, y3, y4⟩ := HK0.out
  unfold PR.cells
  clear hp hq hfp hfq hsp hsq hW2 B
  go_enter Tryz.func4, Tryz.ntmps4
  go_upto_region 1 with (fail)
  try rw [HW.out]
  go_upto_region 2 with (go_at_call 7; refine (HLp.out _ BB.out).mono ?_; rintro x' w3 ⟨⟨n1, c1, rfl, h1, h2⟩, hb1⟩; have H1 := Aside0.mk h1; have H2 := Aside0.mk h2; have B3 := Aside0.mk hb1; clear h1 h2 hb1)
  clear z0 z1 z2 z3 z4 y0 y1 y2 y3 y4
  obtain ⟨z0, z1, z2, z3, z4, y0, y1, y2, y3, y4⟩ := HKe.out _ B3.out
  go_upto_region 3 with (go_at_call 7; refine (HLq.out _ (below_step BB.out B3.out)).mono ?_; rintro x' w4 ⟨⟨n2, k2, rfl, h1, h2⟩, hb1⟩; have K1 := Aside0.mk h1; have K2 := Aside0.mk h2; have B4 := Aside0.mk (show Below W2.heap.size W2 w4 from below_step B3.out hb1); clear h1 h2 hb1)
  clear z0 z1 z2 z3 z4 y0 y1 y2 y3 y4
  obtain ⟨z0, z1, z2, z3, z4, y0, y1, y2, y3, y4⟩ := HKe.out _ B4.out
  have B5 := Aside0.mk (below_step BB.out B4.out)
  by_cases h1 : c1 = 0
  · subst h1
    have X1 : Aside0 (wfB p.formB p ∧ n1 = pubs p.decls) := ⟨H1.out.1 (by trivial), H2.out (by trivial)⟩
    by_cases h2 : k2 = 0
    · subst h2
      have X2 : Aside0 (wfB q.formB q ∧ n2 = pubs q.decls) := ⟨K1.out.1 (by trivial), K2.out (by trivial)⟩
      clear H1 H2 K1 K2
      by_cases h3 : p.width = q.width
      · have HX3 := Aside0.mk h3
        have g3 : (p.width == q.width) = true := by simp [h3]
        clear h3
        by_cases h4 : n1 = n2
        · have HX4 : Aside0 (pubs p.decls = pubs q.decls) := ⟨by have := X1.out.2; have := X2.out.2; omega⟩
          have g4 : (n1 == n2) = true := by simp [h4]
          clear h4
          have hS0 := HKe.out _ B4.out
          have HKf : Aside0 (∀ wx : World, Below w4.heap.size w4 wx → wx.cell? ⟨w.heap.size, 0, none⟩ = some (.string p.name) ∧ wx.cell? ⟨w.heap.size, 1, none⟩ = some (.int .i64 p.width) ∧ wx.cell? ⟨w.heap.size, 2, none⟩ = some (.int .i64 p.line) ∧ wx.cell? ⟨w.heap.size, 3, none⟩ = some (.slice A3 p.decls.length c3) ∧ wx.cell? ⟨w.heap.size, 4, none⟩ = some (.slice A4 p.body.length c4) ∧ wx.cell? ⟨w.heap.size + 1, 0, none⟩ = some (.string q.name) ∧ wx.cell? ⟨w.heap.size + 1, 1, none⟩ = some (.int .i64 q.width) ∧ wx.cell? ⟨w.heap.size + 1, 2, none⟩ = some (.int .i64 q.line) ∧ wx.cell? ⟨w.heap.size + 1, 3, none⟩ = some (.slice D3 q.decls.length e3) ∧ wx.cell? ⟨w.heap.size + 1, 4, none⟩ = some (.slice D4 q.body.length e4)) := ⟨fun wx h => HKe.out _ (below_step B4.out h)⟩
          clear z0 z1 z2 z3 z4 y0 y1 y2 y3 y4 HKe
          have HAl : Aside0 ((outR p.decls 0 == outR q.decls 0) = true ↔ Alike p q) := ⟨⟨fun h => ⟨X1.out.1, X2.out.1, HX3.out, HX4.out, by simpa using h⟩, fun h => by simpa using h.2.2.2.2⟩⟩
          generalize outR p.decls 0 = rp at *
          generalize outR q.decls 0 = rq at *
          go_region_held3 (fun wx => wx.cell? ⟨w.heap.size, 0, none⟩ = some (.string p.name) ∧ wx.cell? ⟨w.heap.size, 1, none⟩ = some (.int .i64 p.width) ∧ wx.cell? ⟨w.heap.size, 2, none⟩ = some (.int .i64 p.line) ∧ wx.cell? ⟨w.heap.size, 3, none⟩ = some (.slice A3 p.decls.length c3) ∧ wx.cell? ⟨w.heap.size, 4, none⟩ = some (.slice A4 p.body.length c4) ∧ wx.cell? ⟨w.heap.size + 1, 0, none⟩ = some (.string q.name) ∧ wx.cell? ⟨w.heap.size + 1, 1, none⟩ = some (.int .i64 q.width) ∧ wx.cell? ⟨w.heap.size + 1, 2, none⟩ = some (.int .i64 q.line) ∧ wx.cell? ⟨w.heap.size + 1, 3, none⟩ = some (.slice D3 q.decls.length e3) ∧ wx.cell? ⟨w.heap.size + 1, 4, none⟩ = some (.slice D4 q.body.length e4)) (first | exact hS0 | exact HKf.out _ (by repeat (first | exact Below.refl _ _ | exact B8.out | exact B7.out | refine below_drew1 ?_ | refine below_alloc ?_ _))) (first
            | (go_at_call 8; (with_reducible refine (HOp.out _ (below_step B5.out (by repeat (first | exact Below.refl _ _ | exact B8.out | exact B7.out | refine below_drew1 ?_ | refine below_alloc ?_ _)))).mono ?_); rintro x' w7 ⟨rfl, hb7⟩; have B7 := Aside0.mk (show Below w4.heap.size w4 w7 from below_step (by repeat (first | exact Below.refl _ _ | exact B8.out | exact B7.out | refine below_drew1 ?_ | refine below_alloc ?_ _)) hb7); clear hb7)
            | (go_at_call 8; (with_reducible refine (HOq.out _ (below_step B5.out (by repeat (first | exact Below.refl _ _ | exact B8.out | exact B7.out | refine below_drew1 ?_ | refine below_alloc ?_ _)))).mono ?_); rintro x' w8 ⟨rfl, hb8⟩; have B8 := Aside0.mk (show Below w4.heap.size w4 w8 from below_step (by repeat (first | exact Below.refl _ _ | exact B8.out | exact B7.out | refine below_drew1 ?_ | refine below_alloc ?_ _)) hb8); clear hb8))
          all_goals
            go_wp2_with fail
            go_ret
            exact ⟨⟨_, rfl, HAl.out⟩, below_step B5.out (by first | exact B8.out | exact B7.out)⟩
        · have g4 : (n1 == n2) = false := by simpa using h4
          have HN : Aside0 (¬ Alike p q) := ⟨fun h => h4 (by rw [X1.out.2, X2.out.2, h.2.2.2.1])⟩
          clear HOp HOq HKe
          go_quiet (fail)
          go_wp2_with fail
          go_ret
          exact ⟨⟨false, rfl, ⟨fun h => Bool.noConfusion h, fun h => absurd h HN.out⟩⟩, below_step B5.out (Drawn0.mk ⟨_, rfl⟩).below⟩
      · have g3 : (p.width == q.width) = false := by simpa using h3
        have HN : Aside0 (¬ Alike p q) := ⟨fun h => h3 h.2.2.1⟩
        clear HOp HOq HKe
        go_quiet (fail)
        go_wp2_with fail
        go_ret
        exact ⟨⟨false, rfl, ⟨fun h => Bool.noConfusion h, fun h => absurd h HN.out⟩⟩, below_step B5.out (Drawn0.mk ⟨_, rfl⟩).below⟩
    · have g2 : (k2 == 0) = false := by simpa using h2
      have HN : Aside0 (¬ Alike p q) := ⟨fun h => h2 (K1.out.2 h.2.1)⟩
      clear HOp HOq HKe
      go_quiet (fail)
      go_wp2_with fail
      go_ret
      exact ⟨⟨false, rfl, ⟨fun h => Bool.noConfusion h, fun h => absurd h HN.out⟩⟩, below_step B5.out (Drawn0.mk ⟨_, rfl⟩).below⟩
  · have g1 : (c1 == 0) = false := by simpa using h1
    have HN : Aside0 (¬ Alike p q) := ⟨fun h => h1 (H1.out.2 h.1)⟩
    clear HOp HOq HKe
    go_quiet (fail)
    go_wp2_with fail
    go_ret
    exact ⟨⟨false, rfl, ⟨fun h => Bool.noConfusion h, fun h => absurd h HN.out⟩⟩, below_step B5.out (Drawn0.mk ⟨_, rfl⟩).below⟩
set_option maxHeartbeats 4000000 in
set_option maxRecDepth 100000 in
theorem rshape_any (p : PR) (A3 : Option Addr) (c3 : Nat) (A4 : Option Addr) (c4 : Nat) (q : PR) (D3 : Option Addr) (e3 : Nat) (D4 : Option Addr) (e4 : Nat) (w : World) (hp : p.At w A3 c3 A4 c4) (hq : q.At w D3 e3 D4 e4) (hfp : p.fits) (hfq : q.fits) (hsp : Fair p) (hsq : Fair q) :
    Calls Tryz.prog 6 #[p.cells A3 c3 A4 c4, q.cells D3 e3 D4 e4] w fun e w' => ShPost p q w e w' := by
  obtain ⟨W2, hW2⟩ : ∃ W2, (w.alloc (.cells #[.string p.name, .int .i64 p.width, .int .i64 p.line, .slice A3 p.decls.length c3, .slice A4 p.body.length c4] 25)).alloc (.cells #[.string q.name, .int .i64 q.width, .int .i64 q.line, .slice D3 q.decls.length e3, .slice D4 q.body.length e4] 25) = W2 := ⟨_, rfl⟩
  have HK0 : Aside0 (W2.cell? ⟨w.heap.size, 0, none⟩ = some (.string p.name) ∧ W2.cell? ⟨w.heap.size, 1, none⟩ = some (.int .i64 p.width) ∧ W2.cell? ⟨w.heap.size, 2, none⟩ = some (.int .i64 p.line) ∧ W2.cell? ⟨w.heap.size, 3, none⟩ = some (.slice A3 p.decls.length c3) ∧ W2.cell? ⟨w.heap.size, 4, none⟩ = some (.slice A4 p.body.length c4) ∧ W2.cell? ⟨w.heap.size + 1, 0, none⟩ = some (.string q.name) ∧ W2.cell? ⟨w.heap.size + 1, 1, none⟩ = some (.int .i64 q.width) ∧ W2.cell? ⟨w.heap.size + 1, 2, none⟩ = some (.int .i64 q.line) ∧ W2.cell? ⟨w.heap.size + 1, 3, none⟩ = some (.slice D3 q.decls.length e3) ∧ W2.cell? ⟨w.heap.size + 1, 4, none⟩ = some (.slice D4 q.body.length e4)) := ⟨by rw [← hW2]; simp [go_sem]⟩
  have B : Below w.heap.size w W2 := by rw [← hW2]; exact below_alloc (below_alloc (Below.refl _ _) _) _
  have HKe : Aside0 (∀ wx : World, Below W2.heap.size W2 wx → wx.cell? ⟨w.heap.size, 0, none⟩ = some (.string p.name) ∧ wx.cell? ⟨w.heap.size, 1, none⟩ = some (.int .i64 p.width) ∧ wx.cell? ⟨w.heap.size, 2, none⟩ = some (.int .i64 p.line) ∧ wx.cell? ⟨w.heap.size, 3, none⟩ = some (.slice A3 p.decls.length c3) ∧ wx.cell? ⟨w.heap.size, 4, none⟩ = some (.slice A4 p.body.length c4) ∧ wx.cell? ⟨w.heap.size + 1, 0, none⟩ = some (.string q.name) ∧ wx.cell? ⟨w.heap.size + 1, 1, none⟩ = some (.int .i64 q.width) ∧ wx.cell? ⟨w.heap.size + 1, 2, none⟩ = some (.int .i64 q.line) ∧ wx.cell? ⟨w.heap.size + 1, 3, none⟩ = some (.slice D3 q.decls.length e3) ∧ wx.cell? ⟨w.heap.size + 1, 4, none⟩ = some (.slice D4 q.body.length e4)) := ⟨fun wx h => by
    obtain ⟨a0, a1, a2, a3, a4, b0, b1, b2, b3, b4⟩ := HK0.out
    exact ⟨kept_cell h a0, kept_cell h a1, kept_cell h a2, kept_cell h a3, kept_cell h a4, kept_cell h b0, kept_cell h b1, kept_cell h b2, kept_cell h b3, kept_cell h b4⟩⟩
  have BB := Aside0.mk B
  have HW := Aside0.mk hW2
  have HLp : Aside0 (∀ W, Below w.heap.size w W → Calls Tryz.prog 11 #[.agg #[.string p.name, .int .i64 p.width, .int .i64 p.line, .slice A3 p.decls.length c3, .slice A4 p.body.length c4]] W fun e w' => LenPost p W e w') := ⟨fun W hW => rlength_any p A3 c3 A4 c4 W (At_below hp hW) hfp hsp.1 hsp.2.1 hsp.2.2⟩
  have HLq : Aside0 (∀ W, Below w.heap.size w W → Calls Tryz.prog 11 #[.agg #[.string q.name, .int .i64 q.width, .int .i64 q.line, .slice D3 q.decls.length e3, .slice D4 q.body.length e4]] W fun e w' => LenPost q W e w') := ⟨fun W hW => rlength_any q D3 e3 D4 e4 W (At_below hq hW) hfq hsq.1 hsq.2.1 hsq.2.2⟩
  have HOp : Aside0 (∀ W, Below w.heap.size w W → Calls Tryz.prog 12 #[.agg #[.string p.name, .int .i64 p.width, .int .i64 p.line, .slice A3 p.decls.length c3, .slice A4 p.body.length c4]] W fun e w' => e = .returned (.int .i64 (outR p.decls 0)) ∧ Below W.heap.size W w') := ⟨fun W hW => outs_r p A3 c3 A4 c4 W (At_below hp hW) hsp.1⟩
  have HOq : Aside0 (∀ W, Below w.heap.size w W → Calls Tryz.prog 12 #[.agg #[.string q.name, .int .i64 q.width, .int .i64 q.line, .slice D3 q.decls.length e3, .slice D4 q.body.length e4]] W fun e w' => e = .returned (.int .i64 (outR q.decls 0)) ∧ Below W.heap.size W w') := ⟨fun W hW => outs_r q D3 e3 D4 e4 W (At_below hq hW) hsq.1⟩
  obtain ⟨z0, z1, z2, z3, z4, y0, y1, y2, y3, y4⟩ := HK0.out
  unfold PR.cells
  clear hp hq hfp hfq hsp hsq hW2 B
  go_enter Tryz.func6, Tryz.ntmps6
  go_upto_region 1 with (fail)
  try rw [HW.out]
  go_upto_region 2 with (go_at_call 11; refine (HLp.out _ BB.out).mono ?_; rintro x' w3 ⟨⟨n1, c1, rfl, h1, h2⟩, hb1⟩; have H1 := Aside0.mk h1; have H2 := Aside0.mk h2; have B3 := Aside0.mk hb1; clear h1 h2 hb1)
  clear z0 z1 z2 z3 z4 y0 y1 y2 y3 y4
  obtain ⟨z0, z1, z2, z3, z4, y0, y1, y2, y3, y4⟩ := HKe.out _ B3.out
  go_upto_region 3 with (go_at_call 11; refine (HLq.out _ (below_step BB.out B3.out)).mono ?_; rintro x' w4 ⟨⟨n2, k2, rfl, h1, h2⟩, hb1⟩; have K1 := Aside0.mk h1; have K2 := Aside0.mk h2; have B4 := Aside0.mk (show Below W2.heap.size W2 w4 from below_step B3.out hb1); clear h1 h2 hb1)
  clear z0 z1 z2 z3 z4 y0 y1 y2 y3 y4
  obtain ⟨z0, z1, z2, z3, z4, y0, y1, y2, y3, y4⟩ := HKe.out _ B4.out
  have B5 := Aside0.mk (below_step BB.out B4.out)
  by_cases h1 : c1 = 0
  · subst h1
    have X1 : Aside0 (wfB p.formB p ∧ n1 = pubs p.decls) := ⟨H1.out.1 (by trivial), H2.out (by trivial)⟩
    by_cases h2 : k2 = 0
    · subst h2
      have X2 : Aside0 (wfB q.formB q ∧ n2 = pubs q.decls) := ⟨K1.out.1 (by trivial), K2.out (by trivial)⟩
      clear H1 H2 K1 K2
      by_cases h4 : n1 = n2
      · have HX4 : Aside0 (pubs p.decls = pubs q.decls) := ⟨by have := X1.out.2; have := X2.out.2; omega⟩
        have g4 : (n1 == n2) = true := by simp [h4]
        clear h4
        by_cases h3 : p.width = q.width
        · have HX3 := Aside0.mk h3
          have g3 : (p.width == q.width) = true := by simp [h3]
          clear h3
          have hS0 := HKe.out _ B4.out
          have HKf : Aside0 (∀ wx : World, Below w4.heap.size w4 wx → wx.cell? ⟨w.heap.size, 0, none⟩ = some (.string p.name) ∧ wx.cell? ⟨w.heap.size, 1, none⟩ = some (.int .i64 p.width) ∧ wx.cell? ⟨w.heap.size, 2, none⟩ = some (.int .i64 p.line) ∧ wx.cell? ⟨w.heap.size, 3, none⟩ = some (.slice A3 p.decls.length c3) ∧ wx.cell? ⟨w.heap.size, 4, none⟩ = some (.slice A4 p.body.length c4) ∧ wx.cell? ⟨w.heap.size + 1, 0, none⟩ = some (.string q.name) ∧ wx.cell? ⟨w.heap.size + 1, 1, none⟩ = some (.int .i64 q.width) ∧ wx.cell? ⟨w.heap.size + 1, 2, none⟩ = some (.int .i64 q.line) ∧ wx.cell? ⟨w.heap.size + 1, 3, none⟩ = some (.slice D3 q.decls.length e3) ∧ wx.cell? ⟨w.heap.size + 1, 4, none⟩ = some (.slice D4 q.body.length e4)) := ⟨fun wx h => HKe.out _ (below_step B4.out h)⟩
          clear z0 z1 z2 z3 z4 y0 y1 y2 y3 y4 HKe
          have HAl : Aside0 ((outR p.decls 0 == outR q.decls 0) = true ↔ Alike p q) := ⟨⟨fun h => ⟨X1.out.1, X2.out.1, HX3.out, HX4.out, by simpa using h⟩, fun h => by simpa using h.2.2.2.2⟩⟩
          generalize outR p.decls 0 = rp at *
          generalize outR q.decls 0 = rq at *
          go_region_held3 (fun wx => wx.cell? ⟨w.heap.size, 0, none⟩ = some (.string p.name) ∧ wx.cell? ⟨w.heap.size, 1, none⟩ = some (.int .i64 p.width) ∧ wx.cell? ⟨w.heap.size, 2, none⟩ = some (.int .i64 p.line) ∧ wx.cell? ⟨w.heap.size, 3, none⟩ = some (.slice A3 p.decls.length c3) ∧ wx.cell? ⟨w.heap.size, 4, none⟩ = some (.slice A4 p.body.length c4) ∧ wx.cell? ⟨w.heap.size + 1, 0, none⟩ = some (.string q.name) ∧ wx.cell? ⟨w.heap.size + 1, 1, none⟩ = some (.int .i64 q.width) ∧ wx.cell? ⟨w.heap.size + 1, 2, none⟩ = some (.int .i64 q.line) ∧ wx.cell? ⟨w.heap.size + 1, 3, none⟩ = some (.slice D3 q.decls.length e3) ∧ wx.cell? ⟨w.heap.size + 1, 4, none⟩ = some (.slice D4 q.body.length e4)) (first | exact hS0 | exact HKf.out _ (by repeat (first | exact Below.refl _ _ | exact B8.out | exact B7.out | refine below_drew1 ?_ | refine below_alloc ?_ _))) (first
            | (go_at_call 12; (with_reducible refine (HOp.out _ (below_step B5.out (by repeat (first | exact Below.refl _ _ | exact B8.out | exact B7.out | refine below_drew1 ?_ | refine below_alloc ?_ _)))).mono ?_); rintro x' w7 ⟨rfl, hb7⟩; have B7 := Aside0.mk (show Below w4.heap.size w4 w7 from below_step (by repeat (first | exact Below.refl _ _ | exact B8.out | exact B7.out | refine below_drew1 ?_ | refine below_alloc ?_ _)) hb7); clear hb7)
            | (go_at_call 12; (with_reducible refine (HOq.out _ (below_step B5.out (by repeat (first | exact Below.refl _ _ | exact B8.out | exact B7.out | refine below_drew1 ?_ | refine below_alloc ?_ _)))).mono ?_); rintro x' w8 ⟨rfl, hb8⟩; have B8 := Aside0.mk (show Below w4.heap.size w4 w8 from below_step (by repeat (first | exact Below.refl _ _ | exact B8.out | exact B7.out | refine below_drew1 ?_ | refine below_alloc ?_ _)) hb8); clear hb8))
          all_goals
            go_wp2_with fail
            go_ret
            exact ⟨⟨_, rfl, HAl.out⟩, below_step B5.out (by first | exact B8.out | exact B7.out)⟩
        · have g3 : (p.width == q.width) = false := by simpa using h3
          have HN : Aside0 (¬ Alike p q) := ⟨fun h => h3 h.2.2.1⟩
          clear HOp HOq HKe
          go_quiet (fail)
          go_wp2_with fail
          go_ret
          exact ⟨⟨false, rfl, ⟨fun h => Bool.noConfusion h, fun h => absurd h HN.out⟩⟩, below_step B5.out (Drawn0.mk ⟨_, rfl⟩).below⟩
      · have g4 : (n1 == n2) = false := by simpa using h4
        have HN : Aside0 (¬ Alike p q) := ⟨fun h => h4 (by rw [X1.out.2, X2.out.2, h.2.2.2.1])⟩
        clear HOp HOq HKe
        go_quiet (fail)
        go_wp2_with fail
        go_ret
        exact ⟨⟨false, rfl, ⟨fun h => Bool.noConfusion h, fun h => absurd h HN.out⟩⟩, below_step B5.out (Drawn0.mk ⟨_, rfl⟩).below⟩
    · have g2 : (k2 == 0) = false := by simpa using h2
      have HN : Aside0 (¬ Alike p q) := ⟨fun h => h2 (K1.out.2 h.2.1)⟩
      clear HOp HOq HKe
      go_quiet (fail)
      go_wp2_with fail
      go_ret
      exact ⟨⟨false, rfl, ⟨fun h => Bool.noConfusion h, fun h => absurd h HN.out⟩⟩, below_step B5.out (Drawn0.mk ⟨_, rfl⟩).below⟩
  · have g1 : (c1 == 0) = false := by simpa using h1
    have HN : Aside0 (¬ Alike p q) := ⟨fun h => h1 (H1.out.2 h.1)⟩
    clear HOp HOq HKe
    go_quiet (fail)
    go_wp2_with fail
    go_ret
    exact ⟨⟨false, rfl, ⟨fun h => Bool.noConfusion h, fun h => absurd h HN.out⟩⟩, below_step B5.out (Drawn0.mk ⟨_, rfl⟩).below⟩
end Go.Proofs.YtjomofepephodaaGreat.PEquivShapes
