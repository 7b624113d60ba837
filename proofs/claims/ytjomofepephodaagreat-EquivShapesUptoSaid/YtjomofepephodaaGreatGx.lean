/-
  The document's decls: clauses 5 to 9. Conditions: what each theorem names.
-/
import Derived.BigQuiet
import Derived.Deep.QuietTactic
import Derived.Test.YtjomofepephodaaGreatGq
import Derived.Test.YtjomofepephodaaGreatGu
import Derived.Test.YtjomofepephodaaGreatGv
set_option linter.unusedVariables false
set_option linter.unusedSimpArgs false
namespace Go.Proofs.YtjomofepephodaaGreat.PEquivShapes
open Go.RowKit
open Go.Proofs.YtjomofepephodaaGreatW.PrintWords Go.Proofs.YtjomofepephodaaGreatW.PrintLast Go.Proofs.YtjomofepephodaaGreatW.PrintMore
theorem decl_at {ds : List S38} {i : Nat} (h : i < ds.length) : ∃ q, findI ds (rd_T38 ds i).f1 = some q ∧ ((q < i) ↔ (findI (ds.take i) (rd_T38 ds i).f1).isSome = true) := by
 obtain ⟨q, hq⟩ : ∃ q, findI ds (rd_T38 ds i).f1 = some q := by
  cases hf : findI ds (rd_T38 ds i).f1 with
  | some q => exact ⟨q, rfl⟩
  | none =>
   have := (findI_take ds (rd_T38 ds i).f1 ds.length (Nat.le_refl _)).2 ⟨i, h, rfl⟩
   rw [List.take_length, hf] at this
   cases this
 obtain ⟨q1, q2, q3⟩ := findI_some' hq
 refine ⟨q, hq, fun hqi => (findI_take _ _ _ (by omega)).2 ⟨q, hqi, q2⟩, fun hs => ?_⟩
 obtain ⟨j, h1, h2⟩ := (findI_take _ _ _ (by omega)).1 hs
 exact Classical.byContradiction fun hn => q3 j (by omega) h2
theorem inW_take {ds : List S38} {i : Nat} (h : i < ds.length) : inW (ds.take (i + 1)) = inStep (inW (ds.take i)) (rd_T38 ds i) := by
 have hd : rd_T38 ds i = ds[i] := by simp [rd_T38, h]
 rw [List.take_succ_eq_append_getElem h, hd]
 unfold inW
 rw [List.foldl_append]
 rfl
theorem rd38_mem {ds : List S38} {i : Nat} (h : i < ds.length) : rd_T38 ds i ∈ ds := by
 have hd : rd_T38 ds i = ds[i] := by simp [rd_T38, h]
 rw [hd]
 exact List.getElem_mem h
/-- the clauses so far -/
def Cl (fb : Bool) (p : PR) (c : Int) : Prop := c = 0 ↔ ∀ i, 4 ≤ i → i < 9 → clB fb p i = false
theorem Cl.bad {fb : Bool} {p : PR} {c : Int} {i : Nat} (h0 : c ≠ 0) (h1 : 4 ≤ i) (h2 : i < 9) (h : clB fb p i = true) : Cl fb p c := ⟨fun e => absurd e h0, fun k => by rw [k i h1 h2] at h; cases h⟩
theorem Cl.good {fb : Bool} {p : PR} (h4 : clB fb p 4 = false) (h5 : clB fb p 5 = false) (h6 : clB fb p 6 = false) (h7 : clB fb p 7 = false) (h8 : clB fb p 8 = false) : Cl fb p 0 := ⟨fun _ i h1 h2 => by
 obtain rfl | rfl | rfl | rfl | rfl : i = 4 ∨ i = 5 ∨ i = 6 ∨ i = 7 ∨ i = 8 := by omega
 all_goals assumption, fun _ => rfl⟩
def DPost (fb : Bool) (p : PR) (w : World) (e : Ending) (w' : World) : Prop := (∃ a b c : Int, e = .returned (.tuple #[.int .i64 a, .int .i64 b, .int .i64 c]) ∧ Cl fb p c) ∧ Below w.heap.size w w'
set_option maxHeartbeats 8000000 in
set_option maxRecDepth 100000 in
theorem rdecls_any (fb : Bool) (p : PR) (A3 : Option Addr) (c3 : Nat) (A4 : Option Addr) (c4 : Nat) (w : World) (hp : p.At w A3 c3 A4 c4) (hfit : p.fits) (hform : p.formB = true) (hl : p.decls.length ≤ 1048576) (hv : ∀ d, d ∈ p.decls → d.f3.length ≤ 1048576) :
  Calls Tryz.prog 32 #[p.cells A3 c3 A4 c4] w fun e w' => DPost fb p w e w' := by
 have hu := Tryz.underlying22
 have hu36 := Tryz.underlying36
 obtain ⟨W2, hW2⟩ : ∃ W2, w.alloc (.cells #[.string p.name, .int .i64 p.width, .int .i64 p.line, .slice A3 p.decls.length c3, .slice A4 p.body.length c4] 25) = W2 := ⟨_, rfl⟩
 have HBox : Aside0 (W2.heap[w.heap.size]? = some (.cells #[.string p.name, .int .i64 p.width, .int .i64 p.line, .slice A3 p.decls.length c3, .slice A4 p.body.length c4] 25 (0, 0)) ∧ Below w.heap.size w W2) := ⟨by rw [← hW2]; exact ⟨one_a w _, below_alloc (Below.refl _ _) _⟩⟩
 have HKB : Aside0 (∀ W : World, W.heap[w.heap.size]? = some (.cells #[.string p.name, .int .i64 p.width, .int .i64 p.line, .slice A3 p.decls.length c3, .slice A4 p.body.length c4] 25 (0, 0)) → W.cell? ⟨w.heap.size, 0, none⟩ = some (.string p.name) ∧ W.cell? ⟨w.heap.size, 1, none⟩ = some (.int .i64 p.width) ∧ W.cell? ⟨w.heap.size, 2, none⟩ = some (.int .i64 p.line) ∧ W.cell? ⟨w.heap.size, 3, none⟩ = some (.slice A3 p.decls.length c3) ∧ W.cell? ⟨w.heap.size, 4, none⟩ = some (.slice A4 p.body.length c4)) := ⟨fun W h => by simp [World.cell?, h]⟩
 have HW := Aside0.mk hW2
 have HP := Aside0.mk hp
 have hll : (p.decls.length : Int) ≤ 9223372036854775807 := by omega
 obtain ⟨hw0, _, hz0⟩ := form_decl hform
 have HL := Aside0.mk hl
 have HD1 : Aside0 (∀ i : Nat, i < p.decls.length → (rd_T38 p.decls i).fits ∧ 0 ≤ (rd_T38 p.decls i).f2 ∧ (rd_T38 p.decls i).f3.length ≤ 1048576) := ⟨fun i hi => ⟨hfit.2.2.1 _ (rd38_mem hi), hz0 _ (rd38_mem hi), hv _ (rd38_mem hi)⟩⟩
 have HW0 := Aside0.mk hw0
 have HDe : Aside0 (∀ s W, Below w.heap.size w W → Calls Tryz.prog 68 #[.agg #[.string p.name, .int .i64 p.width, .int .i64 p.line, .slice A3 p.decls.length c3, .slice A4 p.body.length c4], .string s] W fun e w' => e = .returned (.int .i64 (match findI p.decls s with | some j => (j : Int) | none => -1)) ∧ Below W.heap.size W w') := ⟨fun s W hW => rdecl_any p A3 c3 A4 c4 s W (At_below hp hW) hl⟩
 obtain ⟨z0, z1, z2, z3, z4⟩ := HKB.out _ HBox.out.1
 unfold PR.cells
 clear hp hfit hform hl hv hW2 hw0 hz0
 go_enter Tryz.func32, Tryz.ntmps32
 go_upto_region 1 with (fail)
 try rw [HW.out]
 clear HW
 go_wp2_with fail
 go_loopg [5] (p.decls.length) (fun m v5 wr => ∃ i : Nat, v5 = .int .i64 (i : Int) ∧ m = p.decls.length - i ∧ i ≤ p.decls.length ∧ (Below w.heap.size w wr ∧ wr.heap[w.heap.size]? = some (.cells #[.string p.name, .int .i64 p.width, .int .i64 p.line, .slice A3 p.decls.length c3, .slice A4 p.body.length c4] 25 (0, 0))) ∧ ∀ j, j < i → (findI (p.decls.take j) (rd_T38 p.decls j).f1).isSome = false)
 case atStart => exact ⟨0, rfl, rfl, Nat.zero_le _, ⟨HBox.out.2, HBox.out.1⟩, fun j hj => absurd hj (by omega)⟩
 case round =>
  obtain ⟨i, rfl, rfl, hi, hst, hse⟩ := hrel
  have HSt := Aside0.mk hst
  have HSe := Aside0.mk hse
  obtain ⟨z0, z1, z2, z3, z4⟩ := HKB.out _ hst.2
  clear hst hse HBox
  by_cases hlt : i < p.decls.length
  ·have hlt' : (i : Int) < (p.decls.length : Int) := by omega
   obtain ⟨ad, DA, dc, rfl, x0, x1, x2, x3, hd1, hk1⟩ := at_T38 HP.out.2.1 (i : Int) (by omega) (by omega)
   simp only [Int.toNat_natCast] at x0 x1 x2 x3
   replace x0 := kept0 rfl HSt.out.1 x0
   replace x1 := kept0 rfl HSt.out.1 x1
   replace x2 := kept0 rfl HSt.out.1 x2
   replace x3 := kept0 rfl HSt.out.1 x3
   have HDi := Aside0.mk (HD1.out i hlt)
   have HIx : Aside0 (wrap64 ((i : Int) + 1) = ((i + 1 : Nat) : Int) ∧ i + 1 ≤ p.decls.length ∧ p.decls.length - (i + 1) < p.decls.length - i) := ⟨by have := HL.out; exact ⟨wrap_next (by omega), by omega, by omega⟩⟩
   obtain ⟨q, hq1, hq2⟩ := decl_at hlt
   have HQ := Aside0.mk hq2
   have HBad : Aside0 ((findI (p.decls.take i) (rd_T38 p.decls i).f1).isSome = true → clB fb p 4 = true) := ⟨fun h => anyB_more hlt h⟩
   have HC : Aside0 (∀ W, Below w.heap.size w W → Calls Tryz.prog 68 #[.agg #[.string p.name, .int .i64 p.width, .int .i64 p.line, .slice (some ad) p.decls.length c3, .slice A4 p.body.length c4], .string (rd_T38 p.decls i).f1] W fun e w' => e = .returned (.int .i64 (q : Int)) ∧ Below W.heap.size W w') := ⟨fun W hW => by have h := HDe.out (rd_T38 p.decls i).f1 W hW; rw [hq1] at h; exact h⟩
   clear hq1 hq2 HDe hd1 hk1 HDi
   have HSN : Aside0 ((findI (p.decls.take i) (rd_T38 p.decls i).f1).isSome = false → ∀ j, j < i + 1 → (findI (p.decls.take j) (rd_T38 p.decls j).f1).isSome = false) := ⟨fun h j hj => by
    by_cases e : j = i
    ·rw [e]; exact h
    ·exact HSe.out j (by omega)⟩
   generalize (findI (p.decls.take i) (rd_T38 p.decls i).f1).isSome = bs at *
   generalize rd_T38 p.decls i = d at *
   have HK : Aside0 (∀ w' : World, Below wr.heap.size wr w' → w'.cell? ⟨w.heap.size, 0, none⟩ = some (.string p.name) ∧ w'.cell? ⟨w.heap.size, 1, none⟩ = some (.int .i64 p.width) ∧ w'.cell? ⟨w.heap.size, 2, none⟩ = some (.int .i64 p.line) ∧ w'.cell? ⟨w.heap.size, 3, none⟩ = some (.slice (some ad) p.decls.length c3) ∧ w'.cell? ⟨w.heap.size, 4, none⟩ = some (.slice A4 p.body.length c4) ∧ w'.cell? ⟨(ad.add (i * 4)).block, (ad.add (i * 4)).off + 1, none⟩ = some (.string d.f1)) := ⟨fun w' h => ⟨kept_cell h z0, kept_cell h z1, kept_cell h z2, kept_cell h z3, kept_cell h z4, kept_cell h x1⟩⟩
   have hS0 := HK.out _ (Below.refl _ _)
   clear z0 z1 z2 z4 x0 x1 x2 x3
   go_upto_region 4 with (fail)
   go_region_held3 (fun w' => w'.cell? ⟨w.heap.size, 0, none⟩ = some (.string p.name) ∧ w'.cell? ⟨w.heap.size, 1, none⟩ = some (.int .i64 p.width) ∧ w'.cell? ⟨w.heap.size, 2, none⟩ = some (.int .i64 p.line) ∧ w'.cell? ⟨w.heap.size, 3, none⟩ = some (.slice (some ad) p.decls.length c3) ∧ w'.cell? ⟨w.heap.size, 4, none⟩ = some (.slice A4 p.body.length c4) ∧ w'.cell? ⟨(ad.add (i * 4)).block, (ad.add (i * 4)).off + 1, none⟩ = some (.string d.f1)) (first | exact hS0 | exact HK.out _ (by repeat (first | exact Below.refl _ _ | exact B6.out | refine below_drew1 ?_))) (first | (go_at_call 68; refine (HC.out _ (by repeat (first | exact HSt.out.1 | refine below_drew1 ?_))).mono ?_; rintro x' w6 ⟨rfl, hb6⟩; have B6 := Aside0.mk (show Below wr.heap.size wr w6 from below_step (by repeat (first | exact Below.refl _ _ | refine below_drew1 ?_)) hb6); clear hb6))
   have H6 : Aside0 (Below w.heap.size w w6 ∧ w6.heap[w.heap.size]? = some (.cells #[.string p.name, .int .i64 p.width, .int .i64 p.line, .slice (some ad) p.decls.length c3, .slice A4 p.body.length c4] 25 (0, 0))) := ⟨below_weaken' HSt.out.1 HSt.out.1.size B6.out, (B6.out.block _ (Array.getElem?_eq_some_iff.1 HSt.out.2).1).trans HSt.out.2⟩
   clear HK
   by_cases hqi : q < i
   ·have e1 : (q : Int) < (i : Int) := by omega
    have e2 : decide ((q : Int) < (i : Int)) = true := by simp [hqi]
    have HB := Aside0.mk (HBad.out (HQ.out.1 hqi))
    clear hqi
    go_wp2_with fail
    go_ret3
    exact ⟨⟨_, _, _, rfl, Cl.bad (by decide) (by decide) (by decide) HB.out⟩, H6.out.1⟩
   ·have e1 : ¬ ((q : Int) < (i : Int)) := by omega
    have e2 : decide ((q : Int) < (i : Int)) = false := by simpa using hqi
    have HN := Aside0.mk (HSN.out (by cases bs with | false => rfl | true => exact absurd (HQ.out.2 rfl) hqi))
    clear hqi
    go_wp2_with fail
    go_roundg (p.decls.length - (i + 1))
    case measure => exact HIx.out.2.2
    case rel => exact ⟨i + 1, by first | rfl | rw [HIx.out.1], rfl, HIx.out.2.1, H6.out, HN.out⟩
  ·have hlt' : ¬ ((i : Int) < (p.decls.length : Int)) := by omega
   have HC4 : Aside0 (clB fb p 4 = false) := ⟨anyB_false.2 fun j hj => HSe.out j (by omega)⟩
   clear HSe
   go_wp2_with fail
   go_loopg [6] (p.decls.length) (fun m v6 wr => ∃ i : Nat, v6 = .int .i64 (i : Int) ∧ m = p.decls.length - i ∧ i ≤ p.decls.length ∧ (Below w.heap.size w wr ∧ wr.heap[w.heap.size]? = some (.cells #[.string p.name, .int .i64 p.width, .int .i64 p.line, .slice A3 p.decls.length c3, .slice A4 p.body.length c4] 25 (0, 0))) ∧ ∀ j, j < i → (!decide ((rd_T38 p.decls j).f2 = 0) && !powB (rd_T38 p.decls j).f2 256) = false)
   case atStart => exact ⟨0, rfl, rfl, Nat.zero_le _, HSt.out, fun j hj => absurd hj (by omega)⟩
   case round =>
    clear hi hlt hlt' HSt
    obtain ⟨i, rfl, rfl, hi, hst, hse⟩ := hrel
    have HSt := Aside0.mk hst
    have HSe := Aside0.mk hse
    clear z0 z1 z2 z3 z4
    obtain ⟨z0, z1, z2, z3, z4⟩ := HKB.out _ hst.2
    clear hst hse
    by_cases hlt : i < p.decls.length
    ·have hlt' : (i : Int) < (p.decls.length : Int) := by omega
     obtain ⟨ad, DA, dc, rfl, x0, x1, x2, x3, hd1, hk1⟩ := at_T38 HP.out.2.1 (i : Int) (by omega) (by omega)
     simp only [Int.toNat_natCast] at x0 x1 x2 x3
     replace x0 := kept0 rfl HSt.out.1 x0
     replace x1 := kept0 rfl HSt.out.1 x1
     replace x2 := kept0 rfl HSt.out.1 x2
     replace x3 := kept0 rfl HSt.out.1 x3
     have HDi := Aside0.mk (HD1.out i hlt)
     have HIx : Aside0 (wrap64 ((i : Int) + 1) = ((i + 1 : Nat) : Int) ∧ i + 1 ≤ p.decls.length ∧ p.decls.length - (i + 1) < p.decls.length - i) := ⟨by have := HL.out; exact ⟨wrap_next (by omega), by omega, by omega⟩⟩
     have HBad : Aside0 ((!decide ((rd_T38 p.decls i).f2 = 0) && !powB (rd_T38 p.decls i).f2 256) = true → clB fb p 5 = true) := ⟨fun h => anyB_more (bad := fun j => !decide ((rd_T38 p.decls j).f2 = 0) && !powB (rd_T38 p.decls j).f2 256) hlt h⟩
     have HSN : Aside0 ((!decide ((rd_T38 p.decls i).f2 = 0) && !powB (rd_T38 p.decls i).f2 256) = false → ∀ j, j < i + 1 → (!decide ((rd_T38 p.decls j).f2 = 0) && !powB (rd_T38 p.decls j).f2 256) = false) := ⟨fun h j hj => by
      by_cases e : j = i
      ·rw [e]; exact h
      ·exact HSe.out j (by omega)⟩
     clear hd1 hk1
     generalize rd_T38 p.decls i = d at *
     have HC : Aside0 (∀ W, Calls Tryz.prog 67 #[.int .u64 (IntKind.u64.wrap d.f2)] W fun x w' => x = .returned (.bool (powB d.f2 256)) ∧ Below W.heap.size W w') := ⟨fun W => by
      have e : IntKind.u64.wrap d.f2 = d.f2 := IntWalk.u64_in _ ⟨HDi.out.2.1, by have := HDi.out.1.2.1.2; omega⟩
      rw [e, pow256]
      exact (cadenceref16_power.calls 20 d.f2 _ W (ref_power _)).mono fun _ _ h => ⟨h.1, by first | exact h.2 | exact h.2.below⟩⟩
     by_cases hz : d.f2 = 0
     ·have e1 : (d.f2 != 0) = false := by simp [hz]
      have HN := Aside0.mk (HSN.out (by rw [hz]; rfl))
      clear hz HBad
      go_wp2_with fail
      go_roundg (p.decls.length - (i + 1))
      case measure => exact HIx.out.2.2
      case rel => exact ⟨i + 1, by first | rfl | rw [HIx.out.1], rfl, HIx.out.2.1, HSt.out, HN.out⟩
     ·have e1 : (d.f2 != 0) = true := by simpa using hz
      rw [decide_eq_false hz] at HBad HSN
      clear hz
      generalize powB d.f2 256 = pw at *
      cases pw with
      | true =>
       have HN := Aside0.mk (HSN.out rfl)
       go_wp2_with (go_at_call 67; refine (HC.out _).mono ?_; rintro x' w6 ⟨rfl, hb6⟩; have H6 := Aside0.mk (show Below w.heap.size w w6 ∧ w6.heap[w.heap.size]? = some (.cells #[.string p.name, .int .i64 p.width, .int .i64 p.line, .slice (some ad) p.decls.length c3, .slice A4 p.body.length c4] 25 (0, 0)) from ⟨below_weaken' HSt.out.1 HSt.out.1.size hb6, (hb6.block _ (Array.getElem?_eq_some_iff.1 HSt.out.2).1).trans HSt.out.2⟩); clear hb6)
       go_roundg (p.decls.length - (i + 1))
       case measure => exact HIx.out.2.2
       case rel => exact ⟨i + 1, by first | rfl | rw [HIx.out.1], rfl, HIx.out.2.1, H6.out, HN.out⟩
      | false =>
       have HB := Aside0.mk (HBad.out rfl)
       go_wp2_with (go_at_call 67; refine (HC.out _).mono ?_; rintro x' w6 ⟨rfl, hb6⟩; have H6 := Aside0.mk (below_weaken' HSt.out.1 HSt.out.1.size hb6); clear hb6)
       go_ret3
       exact ⟨⟨_, _, _, rfl, Cl.bad (by decide) (by decide) (by decide) HB.out⟩, H6.out⟩
    ·have hlt' : ¬ ((i : Int) < (p.decls.length : Int)) := by omega
     have HC5 : Aside0 (clB fb p 5 = false) := ⟨anyB_false.2 fun j hj => HSe.out j (by omega)⟩
     clear HSe
     go_wp2_with fail
     go_loopg [7] (p.decls.length) (fun m v7 wr => ∃ i : Nat, v7 = .int .i64 (i : Int) ∧ m = p.decls.length - i ∧ i ≤ p.decls.length ∧ (Below w.heap.size w wr ∧ wr.heap[w.heap.size]? = some (.cells #[.string p.name, .int .i64 p.width, .int .i64 p.line, .slice A3 p.decls.length c3, .slice A4 p.body.length c4] 25 (0, 0))) ∧ ∀ j, j < i → (decide ((rd_T38 p.decls j).f0 = 3) && !decide (((rd_T38 p.decls j).f3.length : Int) = (rd_T38 p.decls j).f2)) = false)
     case atStart => exact ⟨0, rfl, rfl, Nat.zero_le _, HSt.out, fun j hj => absurd hj (by omega)⟩
     case round =>
      clear hi hlt hlt' HSt
      obtain ⟨i, rfl, rfl, hi, hst, hse⟩ := hrel
      have HSt := Aside0.mk hst
      have HSe := Aside0.mk hse
      clear z0 z1 z2 z3 z4
      obtain ⟨z0, z1, z2, z3, z4⟩ := HKB.out _ hst.2
      clear hst hse
      by_cases hlt : i < p.decls.length
      ·have hlt' : (i : Int) < (p.decls.length : Int) := by omega
       obtain ⟨ad, DA, dc, rfl, x0, x1, x2, x3, hd1, hk1⟩ := at_T38 HP.out.2.1 (i : Int) (by omega) (by omega)
       simp only [Int.toNat_natCast] at x0 x1 x2 x3
       replace x0 := kept0 rfl HSt.out.1 x0
       replace x1 := kept0 rfl HSt.out.1 x1
       replace x2 := kept0 rfl HSt.out.1 x2
       replace x3 := kept0 rfl HSt.out.1 x3
       have HDi := Aside0.mk (HD1.out i hlt)
       have HIx : Aside0 (wrap64 ((i : Int) + 1) = ((i + 1 : Nat) : Int) ∧ i + 1 ≤ p.decls.length ∧ p.decls.length - (i + 1) < p.decls.length - i) := ⟨by have := HL.out; exact ⟨wrap_next (by omega), by omega, by omega⟩⟩
       have HBad : Aside0 ((decide ((rd_T38 p.decls i).f0 = 3) && !decide (((rd_T38 p.decls i).f3.length : Int) = (rd_T38 p.decls i).f2)) = true → clB fb p 6 = true) := ⟨fun h => anyB_more (bad := fun j => decide ((rd_T38 p.decls j).f0 = 3) && !decide (((rd_T38 p.decls j).f3.length : Int) = (rd_T38 p.decls j).f2)) hlt h⟩
       have HSN : Aside0 ((decide ((rd_T38 p.decls i).f0 = 3) && !decide (((rd_T38 p.decls i).f3.length : Int) = (rd_T38 p.decls i).f2)) = false → ∀ j, j < i + 1 → (decide ((rd_T38 p.decls j).f0 = 3) && !decide (((rd_T38 p.decls j).f3.length : Int) = (rd_T38 p.decls j).f2)) = false) := ⟨fun h j hj => by
        by_cases e : j = i
        ·rw [e]; exact h
        ·exact HSe.out j (by omega)⟩
       clear hd1 hk1
       generalize rd_T38 p.decls i = d at *
       have HDr : Aside0 (∀ n, Below w.heap.size w (wr.drewN n) ∧ (wr.drewN n).heap[w.heap.size]? = some (.cells #[.string p.name, .int .i64 p.width, .int .i64 p.line, .slice (some ad) p.decls.length c3, .slice A4 p.body.length c4] 25 (0, 0))) := ⟨fun n => by
        have hb := (Drawn0.mk ⟨n, rfl⟩ : Drawn0 wr (wr.drewN n)).below
        exact ⟨below_weaken' HSt.out.1 HSt.out.1.size hb, (hb.block _ (Array.getElem?_eq_some_iff.1 HSt.out.2).1).trans HSt.out.2⟩⟩
       by_cases hz : d.f0 = 3
       ·have e1 : (d.f0 == 3) = true := by simp [hz]
        rw [decide_eq_true hz] at HBad HSN
        clear hz
        by_cases hy : (d.f3.length : Int) = d.f2
        ·have e2 : ((d.f3.length : Int) != d.f2) = false := by simp [hy]
         have HN := Aside0.mk (HSN.out (by rw [decide_eq_true hy]; rfl))
         clear hy
         go_upto_region 14 with (fail)
         go_quiet (fail)
         go_wp2_with fail
         go_roundg (p.decls.length - (i + 1))
         case measure => exact HIx.out.2.2
         case rel => exact ⟨i + 1, by first | rfl | rw [HIx.out.1], rfl, HIx.out.2.1, HDr.out _, HN.out⟩
        ·have e2 : ((d.f3.length : Int) != d.f2) = true := by simpa using hy
         have HB := Aside0.mk (HBad.out (by rw [decide_eq_false hy]; rfl))
         clear hy
         go_upto_region 14 with (fail)
         go_quiet (fail)
         go_wp2_with fail
         go_ret3
         exact ⟨⟨_, _, _, rfl, Cl.bad (by decide) (by decide) (by decide) HB.out⟩, (HDr.out _).1⟩
       ·have e1 : (d.f0 == 3) = false := by simpa using hz
        have HN := Aside0.mk (HSN.out (by rw [decide_eq_false hz]; rfl))
        clear hz
        go_upto_region 14 with (fail)
        go_quiet (fail)
        go_wp2_with fail
        go_roundg (p.decls.length - (i + 1))
        case measure => exact HIx.out.2.2
        case rel => exact ⟨i + 1, by first | rfl | rw [HIx.out.1], rfl, HIx.out.2.1, HDr.out _, HN.out⟩
      ·have hlt' : ¬ ((i : Int) < (p.decls.length : Int)) := by omega
       have HC6 : Aside0 (clB fb p 6 = false) := ⟨anyB_false.2 fun j hj => HSe.out j (by omega)⟩
       clear HSe
       go_wp2_with fail
       go_loopg [8, 9] (p.decls.length) (fun m v8 v9 wr => ∃ i : Nat, v9 = .int .i64 (i : Int) ∧ v8 = .int .i64 (inW (p.decls.take i)) ∧ m = p.decls.length - i ∧ i ≤ p.decls.length ∧ (Below w.heap.size w wr ∧ wr.heap[w.heap.size]? = some (.cells #[.string p.name, .int .i64 p.width, .int .i64 p.line, .slice A3 p.decls.length c3, .slice A4 p.body.length c4] 25 (0, 0))) ∧ ∀ j, j < i → unfitB p.width (rd_T38 p.decls j).f3 = false)
       case atStart => exact ⟨0, rfl, rfl, rfl, Nat.zero_le _, HSt.out, fun j hj => absurd hj (by omega)⟩
       case round =>
        clear hi hlt hlt' HSt
        obtain ⟨i, rfl, rfl, rfl, hi, hst, hse⟩ := hrel
        have HSt := Aside0.mk hst
        have HSe := Aside0.mk hse
        clear z0 z1 z2 z3 z4
        obtain ⟨z0, z1, z2, z3, z4⟩ := HKB.out _ hst.2
        clear hst hse
        by_cases hlt : i < p.decls.length
        ·have hlt' : (i : Int) < (p.decls.length : Int) := by omega
         obtain ⟨ad, DA, dc, rfl, x0, x1, x2, x3, hd1, hk1⟩ := at_T38 HP.out.2.1 (i : Int) (by omega) (by omega)
         simp only [Int.toNat_natCast] at x0 x1 x2 x3
         replace x0 := kept0 rfl HSt.out.1 x0
         replace x1 := kept0 rfl HSt.out.1 x1
         replace x2 := kept0 rfl HSt.out.1 x2
         replace x3 := kept0 rfl HSt.out.1 x3
         have HDi := Aside0.mk (HD1.out i hlt)
         have HIx : Aside0 (wrap64 ((i : Int) + 1) = ((i + 1 : Nat) : Int) ∧ i + 1 ≤ p.decls.length ∧ p.decls.length - (i + 1) < p.decls.length - i) := ⟨by have := HL.out; exact ⟨wrap_next (by omega), by omega, by omega⟩⟩
         have HBad : Aside0 (unfitB p.width (rd_T38 p.decls i).f3 = true → clB fb p 7 = true) := ⟨fun h => anyB_more (bad := fun j => unfitB p.width (rd_T38 p.decls j).f3) hlt h⟩
         have HSN : Aside0 (unfitB p.width (rd_T38 p.decls i).f3 = false → ∀ j, j < i + 1 → unfitB p.width (rd_T38 p.decls j).f3 = false) := ⟨fun h j hj => by
          by_cases e : j = i
          ·rw [e]; exact h
          ·exact HSe.out j (by omega)⟩
         have HIn := Aside0.mk (inW_take hlt)
         generalize rd_T38 p.decls i = d at *
         generalize inW (p.decls.take i) = sm at *
         have HDk : Aside0 (d.f3.length ≤ dc ∧ Kd.C (Kd.int .u64) w DA d.f3.length d.f3) := ⟨⟨hd1, hk1⟩⟩
         have hdl : (d.f3.length : Int) ≤ 9223372036854775807 := by have := HDi.out.2.2; omega
         have HWd : Aside0 (∀ W, Below w.heap.size w W → Calls Tryz.prog 70 #[.agg #[.int .i64 d.f0, .string d.f1, .int .i64 d.f2, .slice DA d.f3.length dc]] W fun e w' => e = .returned (.int .i64 (mx d.f2 1)) ∧ Below W.heap.size W w') := ⟨fun W hW => cadenceref16_Words.calls d.f0 d.f1 d.f2 DA dc d.f3 _ W (Kd.C_below HDk.out.2 hW) HDk.out.1 (by
          have hz := HDi.out.2.1
          unfold cadenceref16_Words.f mx
          by_cases e : d.f2 = 0
          ·rw [if_pos e, e]; rfl
          ·rw [if_neg e, if_neg (by omega)])⟩
         have HDbox : Aside0 (∀ W : World, W.heap[wr.heap.size]? = some (.cells #[.int .i64 d.f0, .string d.f1, .int .i64 d.f2, .slice DA d.f3.length dc] 38 (0, 0)) → W.cell? ⟨wr.heap.size, 0, none⟩ = some (.int .i64 d.f0) ∧ W.cell? ⟨wr.heap.size, 1, none⟩ = some (.string d.f1) ∧ W.cell? ⟨wr.heap.size, 2, none⟩ = some (.int .i64 d.f2) ∧ W.cell? ⟨wr.heap.size, 3, none⟩ = some (.slice DA d.f3.length dc)) := ⟨fun W h => by simp [World.cell?, h]⟩
         clear hd1 hk1
         go_upto_region 21 with (fail)
         obtain ⟨W3, hW3⟩ : ∃ W3, wr.alloc (.cells #[.int .i64 d.f0, .string d.f1, .int .i64 d.f2, .slice DA d.f3.length dc] 38) = W3 := ⟨_, rfl⟩
         have HS3 : Aside0 ((Below w.heap.size w W3 ∧ W3.heap[w.heap.size]? = some (.cells #[.string p.name, .int .i64 p.width, .int .i64 p.line, .slice (some ad) p.decls.length c3, .slice A4 p.body.length c4] 25 (0, 0))) ∧ W3.heap[wr.heap.size]? = some (.cells #[.int .i64 d.f0, .string d.f1, .int .i64 d.f2, .slice DA d.f3.length dc] 38 (0, 0))) := ⟨by
          rw [← hW3]
          have hb := below_alloc (Below.refl wr.heap.size wr) (.cells #[.int .i64 d.f0, .string d.f1, .int .i64 d.f2, .slice DA d.f3.length dc] 38)
          exact ⟨⟨below_weaken' HSt.out.1 HSt.out.1.size hb, (hb.block _ (Array.getElem?_eq_some_iff.1 HSt.out.2).1).trans HSt.out.2⟩, one_a wr _⟩⟩
         rw [hW3]
         clear z0 z1 z2 z3 z4 x0 x1 x2 x3 hW3 HSt
         generalize wr.heap.size = gd at *
         go_wp2_with fail
         go_loopg [11] (d.f3.length) (fun m v11 wq => ∃ k : Nat, v11 = .int .i64 (k : Int) ∧ m = d.f3.length - k ∧ k ≤ d.f3.length ∧ (Below w.heap.size w wq ∧ wq.heap[w.heap.size]? = some (.cells #[.string p.name, .int .i64 p.width, .int .i64 p.line, .slice (some ad) p.decls.length c3, .slice A4 p.body.length c4] 25 (0, 0))) ∧ wq.heap[gd]? = some (.cells #[.int .i64 d.f0, .string d.f1, .int .i64 d.f2, .slice DA d.f3.length dc] 38 (0, 0)) ∧ unfitB p.width (d.f3.take k) = false)
         case atStart => exact ⟨0, rfl, rfl, Nat.zero_le _, HS3.out.1, HS3.out.2, rfl⟩
         case round =>
          clear HS3
          obtain ⟨k, rfl, rfl, hk, hst, hdb, hun⟩ := hrel
          have HSt := Aside0.mk hst
          have HDb := Aside0.mk hdb
          have HUn := Aside0.mk hun
          obtain ⟨z0, z1, z2, z3, z4⟩ := HKB.out _ hst.2
          obtain ⟨y0, y1, y2, y3⟩ := HDbox.out _ hdb
          have HDr : Aside0 (∀ n, (Below w.heap.size w (wr.drewN n) ∧ (wr.drewN n).heap[w.heap.size]? = some (.cells #[.string p.name, .int .i64 p.width, .int .i64 p.line, .slice (some ad) p.decls.length c3, .slice A4 p.body.length c4] 25 (0, 0))) ∧ (wr.drewN n).heap[gd]? = some (.cells #[.int .i64 d.f0, .string d.f1, .int .i64 d.f2, .slice DA d.f3.length dc] 38 (0, 0))) := ⟨fun n => by
           have hb := (Drawn0.mk ⟨n, rfl⟩ : Drawn0 wr (wr.drewN n)).below
           have hkp : ∀ g X, wr.heap[g]? = some X → (wr.drewN n).heap[g]? = some X := fun g X h => (hb.block _ (Array.getElem?_eq_some_iff.1 h).1).trans h
           exact ⟨⟨below_weaken' hst.1 hst.1.size hb, hkp _ _ hst.2⟩, hkp _ _ hdb⟩⟩
          clear hst hdb hun
          by_cases hlk : k < d.f3.length
          ·have hlk' : (k : Int) < (d.f3.length : Int) := by omega
           obtain ⟨av, cs, rfl, hlen, hK, hcell⟩ := Kd.C_get HDk.out.2 0 (k : Int) (by omega) (by omega)
           obtain rfl : cs = [.int .u64 (d.f3.getD (k : Int).toNat 0)] := hK
           have x0 := hcell 0 _ rfl
           simp only [Int.toNat_natCast] at x0
           have x0 : w.cell? (av.add k) = some (.int .u64 (d.f3.getD k 0)) := by simpa [Kd.int, Kd.scalar] using x0
           replace x0 := kept0 rfl HSt.out.1 x0
           have hu6 : U64 (d.f3.getD k 0) := by
            have := HDi.out.1.2.2 (d.f3.getD k 0) (by rw [List.getD_eq_getElem?_getD, List.getElem?_eq_getElem hlk]; exact List.getElem_mem hlk)
            exact this
           have HTk := Aside0.mk (unfit_take (k := p.width) hlk)
           have HIk : Aside0 (wrap64 ((k : Int) + 1) = ((k + 1 : Nat) : Int) ∧ k + 1 ≤ d.f3.length ∧ d.f3.length - (k + 1) < d.f3.length - k) := ⟨by have := HDi.out.2.2; exact ⟨wrap_next (by omega), by omega, by omega⟩⟩
           have HAl : Aside0 (unfitB p.width (d.f3.take (k + 1)) = true → unfitB p.width d.f3 = true) := ⟨fun h1 => by
            unfold unfitB at h1 ⊢
            rw [List.any_eq_true] at h1 ⊢
            obtain ⟨x, hx, hy⟩ := h1
            exact ⟨x, List.mem_of_mem_take hx, hy⟩⟩
           clear hcell hlen
           generalize d.f3.getD k 0 = vv at *
           have HF : Aside0 (∀ W, Calls Tryz.prog 69 #[.int .i64 p.width, .int .u64 vv] W fun x w' => x = .returned (.bool (fitB p.width vv)) ∧ ∃ m, w' = W.drewN m) := ⟨fun W => (rfits_any p.width vv HW0.out hu6 W).mono fun _ _ h => ⟨h.1, h.2.out⟩⟩
           clear hu6
           generalize fitB p.width vv = fv at *
           go_upto_region 24 with (fail)
           go_quiet ((go_at_call 69; refine Calls.quiet_of (HF.out _)))
           cases fv with
           | true =>
            have HN : Aside0 (unfitB p.width (d.f3.take (k + 1)) = false) := ⟨by rw [HTk.out, HUn.out]; rfl⟩
            go_wp2_with fail
            go_roundg (d.f3.length - (k + 1))
            case measure => exact HIk.out.2.2
            case rel => exact ⟨k + 1, by first | rfl | rw [HIk.out.1], rfl, HIk.out.2.1, (HDr.out _).1, (HDr.out _).2, HN.out⟩
           | false =>
            have HB : Aside0 (clB fb p 7 = true) := ⟨HBad.out (HAl.out (by rw [HTk.out, HUn.out]; rfl))⟩
            go_wp2_with fail
            go_ret3
            exact ⟨⟨_, _, _, rfl, Cl.bad (by decide) (by decide) (by decide) HB.out⟩, (HDr.out _).1.1⟩
          ·have hlk' : ¬ ((k : Int) < (d.f3.length : Int)) := by omega
           have HN : Aside0 (∀ j, j < i + 1 → unfitB p.width (rd_T38 p.decls j).f3 = false) := ⟨HSN.out (by have h := HUn.out; rwa [List.take_of_length_le (by omega)] at h)⟩
           clear HUn
           have hcases : d.f0 = 1 ∨ (¬ d.f0 = 1 ∧ d.f0 = 2) ∨ (¬ d.f0 = 1 ∧ ¬ d.f0 = 2) := by omega
           rcases hcases with e | ⟨e, e'⟩ | ⟨e, e'⟩
           ·have e1 : (d.f0 == 1) = true := by simp [e]
            have HSm : Aside0 (inW (p.decls.take (i + 1)) = wrap64 (sm + mx d.f2 1)) := ⟨by rw [HIn.out]; exact if_pos (.inl e)⟩
            clear e
            go_wp2_with (go_at_call 70; refine (HWd.out _ HSt.out.1).mono ?_; rintro x' w6 ⟨rfl, hb6⟩; have H6 := Aside0.mk (show Below w.heap.size w w6 ∧ w6.heap[w.heap.size]? = some (.cells #[.string p.name, .int .i64 p.width, .int .i64 p.line, .slice (some ad) p.decls.length c3, .slice A4 p.body.length c4] 25 (0, 0)) from ⟨below_weaken' HSt.out.1 HSt.out.1.size hb6, (hb6.block _ (Array.getElem?_eq_some_iff.1 HSt.out.2).1).trans HSt.out.2⟩); clear hb6)
            go_roundg (p.decls.length - (i + 1))
            case measure => exact HIx.out.2.2
            case rel => exact ⟨i + 1, by first | rfl | rw [HIx.out.1], by rw [HSm.out], rfl, HIx.out.2.1, H6.out, HN.out⟩
           ·have e1 : (d.f0 == 1) = false := by simpa using e
            have e2 : (d.f0 == 2) = true := by simp [e']
            have HSm : Aside0 (inW (p.decls.take (i + 1)) = wrap64 (sm + mx d.f2 1)) := ⟨by rw [HIn.out]; exact if_pos (.inr e')⟩
            clear e e'
            go_wp2_with (go_at_call 70; refine (HWd.out _ HSt.out.1).mono ?_; rintro x' w6 ⟨rfl, hb6⟩; have H6 := Aside0.mk (show Below w.heap.size w w6 ∧ w6.heap[w.heap.size]? = some (.cells #[.string p.name, .int .i64 p.width, .int .i64 p.line, .slice (some ad) p.decls.length c3, .slice A4 p.body.length c4] 25 (0, 0)) from ⟨below_weaken' HSt.out.1 HSt.out.1.size hb6, (hb6.block _ (Array.getElem?_eq_some_iff.1 HSt.out.2).1).trans HSt.out.2⟩); clear hb6)
            go_roundg (p.decls.length - (i + 1))
            case measure => exact HIx.out.2.2
            case rel => exact ⟨i + 1, by first | rfl | rw [HIx.out.1], by rw [HSm.out], rfl, HIx.out.2.1, H6.out, HN.out⟩
           ·have e1 : (d.f0 == 1) = false := by simpa using e
            have e2 : (d.f0 == 2) = false := by simpa using e'
            have HSm : Aside0 (inW (p.decls.take (i + 1)) = sm) := ⟨by rw [HIn.out]; exact if_neg (fun h => h.elim e e')⟩
            clear e e'
            go_wp2_with fail
            go_roundg (p.decls.length - (i + 1))
            case measure => exact HIx.out.2.2
            case rel => exact ⟨i + 1, by first | rfl | rw [HIx.out.1], by rw [HSm.out], rfl, HIx.out.2.1, HSt.out, HN.out⟩
        ·have hlt' : ¬ ((i : Int) < (p.decls.length : Int)) := by omega
         have HC7 : Aside0 (clB fb p 7 = false) := ⟨anyB_false.2 fun j hj => HSe.out j (by omega)⟩
         have HTk : Aside0 (p.decls.take i = p.decls) := ⟨List.take_of_length_le (by omega)⟩
         rw [HTk.out]
         clear HSe
         by_cases hs : inW p.decls ≤ 4096
         ·have e1 : decide (inW p.decls > 4096) = false := by simpa using hs
          have e2 : decide (4096 < inW p.decls) = false := e1
          have HC8 : Aside0 (clB fb p 8 = false) := ⟨by simp [clB, hs]⟩
          clear hs
          go_wp2_with fail
          go_ret3
          exact ⟨⟨_, _, _, rfl, Cl.good HC4.out HC5.out HC6.out HC7.out HC8.out⟩, HSt.out.1⟩
         ·have e1 : decide (inW p.decls > 4096) = true := by simpa using hs
          have e2 : decide (4096 < inW p.decls) = true := e1
          have HC8 : Aside0 (clB fb p 8 = true) := ⟨by simp only [clB, decide_eq_false hs]; rfl⟩
          clear hs
          go_wp2_with fail
          go_ret3
          exact ⟨⟨_, _, _, rfl, Cl.bad (by decide) (by decide) (by decide) HC8.out⟩, HSt.out.1⟩
end Go.Proofs.YtjomofepephodaaGreat.PEquivShapes
