/-
  The document's Fault and Check. Conditions: what each theorem names.
-/
import Derived.Deep.MidRow
import Derived.Test.YtjomofepephodaaGreatGi
import Derived.Test.YtjomofepephodaaGreatGq
import Derived.Test.YtjomofepephodaaGreatGu
import Derived.Test.YtjomofepephodaaGreatGw
import Derived.Test.YtjomofepephodaaGreatGx
import Derived.Test.YtjomofepephodaaGreatGy
set_option linter.unusedVariables false
set_option linter.unusedSimpArgs false
namespace Go.Proofs.YtjomofepephodaaGreat.PEquivShapes
open Go.RowKit
open Go.Proofs.YtjomofepephodaaGreatW.PrintWords Go.Proofs.YtjomofepephodaaGreatW.PrintLast Go.Proofs.YtjomofepephodaaGreatW.PrintMore
theorem flat_at {α : Type} {n : Nat} : ∀ {xss : List (List α)}, (∀ x, x ∈ xss → x.length = n) → ∀ {i : Nat} {cs : List α}, xss[i]? = some cs → ∀ {j : Nat}, j < n → xss.flatten[i * n + j]? = cs[j]?
 | [], _, i, cs, h, _, _ => by simp at h
 | y :: r, hl, 0, cs, h, j, hj => by
  obtain rfl : y = cs := by simpa using h
  rw [List.flatten_cons, Nat.zero_mul, Nat.zero_add, List.getElem?_append_left (by rw [hl y (by simp)]; exact hj)]
 | y :: r, hl, i + 1, cs, h, j, hj => by
  have hy := hl y (by simp)
  rw [List.flatten_cons, List.getElem?_append_right (by rw [hy, Nat.succ_mul]; omega), hy, show (i + 1) * n + j - n = i * n + j by rw [Nat.succ_mul]; omega]
  exact flat_at (fun x hx => hl x (by simp [hx])) (by simpa using h) hj
theorem Pairs.lens {α : Type} {R : TL → List α → Prop} {n : Nat} (hR : ∀ a b, R a b → b.length = n) : ∀ {l : List TL} {m : List (List α)}, Pairs R l m → ∀ x, x ∈ m → x.length = n
 | _, _, .nil, x, hx => by simp at hx
 | _, _, .cons h1 h2, x, hx => by
  rcases List.mem_cons.1 hx with rfl | hx
  ·exact hR _ _ h1
  ·exact h2.lens hR x hx
/-- the list of things is a slice, and each thing's cells lie in it -/
theorem ThL.opens {base : Nat} {w0 w : World} {v : Value} {L : List TL} (h : ThL base w0 w v L) : ∃ A cap, v = .slice A L.length cap ∧ ∀ i (hi : i < L.length), ∃ g cs, A = some ⟨g, 0, none⟩ ∧ ThIn w0 w L[i] cs ∧ w.rangeAt g (i * 22) cs ∧ cs.length = 22 := by
 obtain ⟨xss, ho, hx⟩ := h
 have hlen := hx.lens (n := 22) (fun _ _ h => h.len)
 rcases ho.2 with ⟨rfl, h0⟩ | ⟨g, cap, cur, rfl, _, hg, _, _, _, htake⟩
 ·exact ⟨none, 0, by rw [h0], fun i hi => by omega⟩
 ·refine ⟨_, cap, rfl, fun i hi => ?_⟩
  obtain ⟨cs, h1, h2⟩ := hx.get i hi
  have hc := h2.len
  refine ⟨g, cs, rfl, h2, fun j v hj => ?_, hc⟩
  have hj22 : j < 22 := by rw [← hc]; exact (List.getElem?_eq_some_iff.1 hj).1
  have h3 := flat_at hlen h1 hj22
  rw [hj, ← htake, List.getElem?_take_of_lt (by omega)] at h3
  rw [cell_of_row w g (i * 22 + j) cur 79 (0, 0) hg]
  simpa using h3
theorem wf_split (fb : Bool) (p : PR) : wfB fb p ↔ (∀ i, i < 4 → clB fb p i = false) ∧ (∀ i, 4 ≤ i → i < 9 → clB fb p i = false) ∧ (∀ c, 10 ≤ c → c < 16 → ∀ x, x ∈ p.ths → badC p c x = false) ∧ S52.sizs 0 p.body ≤ 65536 := by
 have e : ∀ f : TL → Bool, p.ths.any f = false ↔ ∀ x, x ∈ p.ths → f x = false := fun f => by rw [List.any_eq_false]; simp
 constructor
 ·intro h
  refine ⟨fun i hi => h i (by omega), fun i h1 h2 => h i (by omega), fun c h1 h2 => ?_, ?_⟩
  ·obtain rfl | rfl | rfl | rfl | rfl | rfl : c = 10 ∨ c = 11 ∨ c = 12 ∨ c = 13 ∨ c = 14 ∨ c = 15 := by omega
   ·exact (e _).1 (h 9 (by decide))
   ·exact (e _).1 (h 10 (by decide))
   ·exact (e _).1 (h 11 (by decide))
   ·exact (e _).1 (h 12 (by decide))
   ·exact (e _).1 (h 13 (by decide))
   ·exact (e _).1 (h 14 (by decide))
  ·have := h 15 (by decide)
   simpa [clB] using this
 ·rintro ⟨h1, h2, h3, h4⟩ i hi
  by_cases a : i < 4
  ·exact h1 i a
  by_cases b : i < 9
  ·exact h2 i (by omega) b
  obtain rfl | rfl | rfl | rfl | rfl | rfl | rfl : i = 9 ∨ i = 10 ∨ i = 11 ∨ i = 12 ∨ i = 13 ∨ i = 14 ∨ i = 15 := by omega
  ·exact (e _).2 (h3 10 (by decide) (by decide))
  ·exact (e _).2 (h3 11 (by decide) (by decide))
  ·exact (e _).2 (h3 12 (by decide) (by decide))
  ·exact (e _).2 (h3 13 (by decide) (by decide))
  ·exact (e _).2 (h3 14 (by decide) (by decide))
  ·exact (e _).2 (h3 15 (by decide) (by decide))
  ·simpa [clB] using h4
theorem wf_bad {fb : Bool} {p : PR} {c : Nat} {x : TL} (h1 : 10 ≤ c) (h2 : c < 16) (hx : x ∈ p.ths) (h : badC p c x ≠ false) : ¬ wfB fb p := fun k => h (((wf_split fb p).1 k).2.2.1 c h1 h2 x hx)
theorem wf_head {fb : Bool} {p : PR} (h : ¬ ∀ i, i < 4 → clB fb p i = false) : ¬ wfB fb p := fun k => h ((wf_split fb p).1 k).1
theorem wf_decl {fb : Bool} {p : PR} (h : ¬ ∀ i, 4 ≤ i → i < 9 → clB fb p i = false) : ¬ wfB fb p := fun k => h ((wf_split fb p).1 k).2.1
theorem ct_le {x : Int} : 65536 < ct x ↔ ¬ x ≤ 65536 := by unfold ct; split <;> omega
theorem Tryz.size79 : (Tryz.prog.info? 79).map (·.size) = some 22 := by kernel_rfl
theorem PR.ths_len (p : PR) : p.ths.length ≤ p.decls.length + S52.bulks p.body := by
 unfold PR.ths
 rw [List.length_append, List.length_map]
 have := S52.thss_len 1 [] p.body
 omega
/-- a program's cells lie in a block -/
def PBox (w : World) (g : Nat) (p : PR) (A3 : Option Addr) (c3 : Nat) (A4 : Option Addr) (c4 : Nat) : Prop :=
 w.cell? ⟨g, 0, none⟩ = some (.string p.name) ∧ w.cell? ⟨g, 1, none⟩ = some (.int .i64 p.width) ∧ w.cell? ⟨g, 2, none⟩ = some (.int .i64 p.line) ∧ w.cell? ⟨g, 3, none⟩ = some (.slice A3 p.decls.length c3) ∧ w.cell? ⟨g, 4, none⟩ = some (.slice A4 p.body.length c4)
theorem PBox.keep {w w' : World} {g : Nat} {p : PR} {A3 : Option Addr} {c3 : Nat} {A4 : Option Addr} {c4 : Nat} (h : PBox w g p A3 c3 A4 c4) (hb : Below w.heap.size w w') : PBox w' g p A3 c3 A4 c4 :=
 ⟨kept_cell hb h.1, kept_cell hb h.2.1, kept_cell hb h.2.2.1, kept_cell hb h.2.2.2.1, kept_cell hb h.2.2.2.2⟩
set_option maxHeartbeats 4000000 in
set_option maxRecDepth 100000 in
theorem rfault_any (p : PR) (A3 : Option Addr) (c3 : Nat) (A4 : Option Addr) (c4 : Nat) (w : World) (hp : p.At w A3 c3 A4 c4) (hf : p.fits) (hl : p.decls.length ≤ 1048576) (hv : ∀ d, d ∈ p.decls → d.f3.length ≤ 1048576) (hb : S52.bulks p.body ≤ 1048576) :
  Calls Tryz.prog 27 #[p.cells A3 c3 A4 c4] w fun e w' => (∃ a b c : Int, e = .returned (.tuple #[.int .i64 a, .int .i64 b, .int .i64 c]) ∧ (c = 0 ↔ wfB p.formB p)) ∧ Below w.heap.size w w' := by
 have hu := Tryz.underlying74
 obtain ⟨W2, hW2⟩ : ∃ W2, w.alloc (.cells #[.string p.name, .int .i64 p.width, .int .i64 p.line, .slice A3 p.decls.length c3, .slice A4 p.body.length c4] 25) = W2 := ⟨_, rfl⟩
 have HBox : Aside0 (PBox W2 w.heap.size p A3 c3 A4 c4) := ⟨by rw [← hW2]; unfold PBox; simp [go_sem]⟩
 have B : Below w.heap.size w W2 := by rw [← hW2]; exact below_alloc (Below.refl _ _) _
 have BB := Aside0.mk B
 have HW := Aside0.mk hW2
 have HP := Aside0.mk hp
 have HH : Aside0 (∀ W, Below w.heap.size w W → Calls Tryz.prog 31 #[.agg #[.string p.name, .int .i64 p.width, .int .i64 p.line, .slice A3 p.decls.length c3, .slice A4 p.body.length c4]] W fun x w' => (∃ a c : Int, x = .returned (.tuple #[.int .i64 a, .int .i64 c]) ∧ (c = 0 ↔ ∀ i, i < 4 → clB p.formB p i = false)) ∧ Below W.heap.size W w') := ⟨fun W hW => head_any p A3 c3 A4 c4 W (At_below hp hW) hf⟩
 have HDs : Aside0 (p.formB = true → ∀ W, Below w.heap.size w W → Calls Tryz.prog 32 #[.agg #[.string p.name, .int .i64 p.width, .int .i64 p.line, .slice A3 p.decls.length c3, .slice A4 p.body.length c4]] W fun x w' => DPost p.formB p W x w') := ⟨fun hform W hW => rdecls_any p.formB p A3 c3 A4 c4 W (At_below hp hW) hf hform hl hv⟩
 have HLs : Aside0 (p.formB = true → ∀ W, Below w.heap.size w W → Calls Tryz.prog 33 #[.agg #[.string p.name, .int .i64 p.width, .int .i64 p.line, .slice A3 p.decls.length c3, .slice A4 p.body.length c4]] W fun e w' => ∃ v, e = .returned v ∧ ThL W.heap.size W w' v p.ths ∧ Below W.heap.size W w') := ⟨fun hform W hW => rlist_any p A3 c3 A4 c4 W (At_below hp hW) (by unfold PR.formB at hform; simp only [Bool.and_eq_true] at hform; exact hform.2.2.2.2) hl hb⟩
 have HSz : Aside0 (∀ W, Below w.heap.size w W → Calls Tryz.prog 35 #[.slice A4 p.body.length c4] W fun e w' => e = .returned (.int .i64 (ct (S52.sizs 0 p.body))) ∧ Below W.heap.size W w') := ⟨fun W hW => rsize_any w w.heap.size rfl (S52.bulks p.body) p.body A4 c4 W (Nat.le_refl _) hb hf.2.2.2 hp.2.2.2 hp.2.2.1 hW⟩
 have HGd : Aside0 (p.formB = true → ∀ x, x ∈ p.ths → Good 1048576 x) := ⟨fun hform => PR.good hf (by unfold PR.formB at hform; simp only [Bool.and_eq_true] at hform; exact hform.2.2.2.2) hb⟩
 have HF := Aside0.mk hf
 have HL := Aside0.mk hl
 have HBk := Aside0.mk hb
 obtain ⟨z0, z1, z2, z3, z4⟩ := HBox.out
 unfold PR.cells
 clear hp hf hl hv hb hW2 B
 go_enter Tryz.func27, Tryz.ntmps27
 go_upto_region 1 with (fail)
 try rw [HW.out]
 go_upto_region 2 with (go_at_call 31; refine (HH.out _ BB.out).mono ?_; rintro x' w3 ⟨⟨a1, e1, rfl, hc1⟩, hb1⟩; have HBox3 := Aside0.mk (HBox.out.keep hb1); have B3 := Aside0.mk (below_step BB.out hb1); have HC1 := Aside0.mk hc1; clear hb1 hc1)
 clear z0 z1 z2 z3 z4
 obtain ⟨z0, z1, z2, z3, z4⟩ := HBox3.out
 by_cases h0 : e1 = 0
 ·subst h0
  have hform : p.formB = true := by simpa [clB] using HC1.out.1 rfl 0 (by decide)
  have HDc := Aside0.mk (HDs.out hform)
  have HLc := Aside0.mk (HLs.out hform)
  have HG := Aside0.mk (HGd.out hform)
  have HFm := Aside0.mk hform
  clear HDs HLs HGd HH hform
  go_upto_region 5 with (go_at_call 32; refine (HDc.out _ B3.out).mono ?_; rintro x' w4 ⟨⟨a2, b2, e2, rfl, hc2⟩, hb1⟩; have HC2 := Aside0.mk hc2; have HBox4 := Aside0.mk (HBox3.out.keep hb1); have B4 := Aside0.mk (below_step B3.out hb1); clear hb1 hc2)
  clear z0 z1 z2 z3 z4
  obtain ⟨z0, z1, z2, z3, z4⟩ := HBox4.out
  by_cases h0 : e2 = 0
  ·subst h0
   go_upto_region 8 with (go_at_call 33; refine (HLc.out _ B4.out).mono ?_; rintro x' w5 ⟨lv, rfl, hth, hb1⟩; have HBox5 := Aside0.mk (HBox4.out.keep hb1); have B5 := Aside0.mk (below_step B4.out hb1); have HTh := Aside0.mk hth; clear hb1 hth)
   clear z0 z1 z2 z3 z4
   obtain ⟨LA, lcap, rfl, hel0⟩ := HTh.out.opens
   clear hel0
   have hn21 := PR.ths_len p
   have hll : (p.ths.length : Int) ≤ 9223372036854775807 := by have := HL.out; have := HBk.out; omega
   clear hn21
   go_wp2_with fail
   go_loopg [9] (6) (fun m v9 wr => ∃ c : Nat, v9 = .int .i64 (c : Int) ∧ m = 16 - c ∧ 10 ≤ c ∧ c ≤ 16 ∧ (∀ k, 10 ≤ k → k < c → ∀ x, x ∈ p.ths → badC p k x = false) ∧ Below w5.heap.size w5 wr)
   case atStart => exact ⟨10, rfl, rfl, by decide, by decide, fun k h1 h2 => absurd h1 (by omega), Below.refl _ _⟩
   case round =>
    obtain ⟨c, rfl, rfl, hc10, hc16, hpast, hbr⟩ := hrel
    have HPa := Aside0.mk hpast
    have HBr := Aside0.mk hbr
    clear hpast hbr
    by_cases hlt : c < 16
    ·have e1 : (c : Int) ≤ 15 := by omega
     have HCC : Aside0 (10 ≤ c ∧ c < 16 ∧ IntKind.i64.wrap ((c : Int) + 1) = ((c + 1 : Nat) : Int)) := ⟨⟨hc10, hlt, IntWalk.i64_in _ (by omega)⟩⟩
     clear hc10 hc16 hlt
     go_wp2_with fail
     go_loopg [10] (p.ths.length) (fun m v10 wr => ∃ i : Nat, v10 = .int .i64 (i : Int) ∧ m = p.ths.length - i ∧ i ≤ p.ths.length ∧ (∀ j, j < i → ∀ x, p.ths[j]? = some x → badC p c x = false) ∧ Below w5.heap.size w5 wr)
     case atStart => exact ⟨0, rfl, by omega, by omega, fun j hj => absurd hj (by omega), HBr.out⟩
     case round =>
      obtain ⟨i, rfl, rfl, hi, hseen, hbi⟩ := hrel
      have HSe := Aside0.mk hseen
      have HBi := Aside0.mk hbi
      clear hseen hbi
      by_cases hlt : i < p.ths.length
      ·have hlt' : (i : Int) < (p.ths.length : Int) := by omega
       obtain ⟨LA', lcap', he, hel⟩ := (HTh.out.below HBi.out).opens
       obtain ⟨rfl, rfl⟩ : LA = LA' ∧ lcap = lcap' := by simpa using he
       obtain ⟨g, cs, rfl, hth, hrg, hcs⟩ := hel i hlt
       have HMem : Aside0 (p.ths[i] ∈ p.ths ∧ p.ths[i]? = some p.ths[i] ∧ IntKind.i64.wrap ((i : Int) + 1) = ((i + 1 : Nat) : Int) ∧ p.ths.length - (i + 1) < p.ths.length - i ∧ i + 1 ≤ p.ths.length) := ⟨⟨List.getElem_mem hlt, List.getElem?_eq_getElem hlt, IntWalk.i64_in _ (by omega), by omega, hlt⟩⟩
       generalize p.ths[i] = x at *
       have HV : Aside0 (∀ W, Below wr.heap.size wr W → Calls Tryz.prog 34 #[.agg #[.string p.name, .int .i64 p.width, .int .i64 p.line, .slice A3 p.decls.length c3, .slice A4 p.body.length c4], .agg cs.toArray, .int .i64 (c : Int)] W fun e w' => (∃ u : Int, e = .returned (.int .i64 u) ∧ (u = 0 ↔ badC p c x = false)) ∧ Below W.heap.size W w') := ⟨fun W hW => by
        obtain ⟨t, ls⟩ := x
        have hgo : Good 1048576 (t, ls) := HG.out _ HMem.out.1
        obtain ⟨hw0, _, hd0⟩ := form_decl HFm.out
        refine rviol_any p A3 c3 A4 c4 w4 W t ls cs (hth.grows (base := 0) (Grows.below hW)) hgo (At_below HP.out (below_step (below_step B5.out HBi.out) hW)) HL.out hw0 (fun j hj => ?_) c HCC.out.1 (by have := HCC.out.2.1; omega) (fun e => ?_)
        ·have hd : rd_T38 p.decls j = p.decls[j] := by simp [rd_T38, hj]
         rw [hd]
         exact hd0 _ (List.getElem_mem hj)
        ·subst e
         exact HPa.out 11 (by decide) (by decide) _ HMem.out.1⟩
       have HK : Aside0 (∀ w' : World, Below wr.heap.size wr w' → w'.cell? ⟨w.heap.size, 0, none⟩ = some (.string p.name) ∧ w'.cell? ⟨w.heap.size, 1, none⟩ = some (.int .i64 p.width) ∧ w'.cell? ⟨w.heap.size, 2, none⟩ = some (.int .i64 p.line) ∧ w'.cell? ⟨w.heap.size, 3, none⟩ = some (.slice A3 p.decls.length c3) ∧ w'.cell? ⟨w.heap.size, 4, none⟩ = some (.slice A4 p.body.length c4) ∧ w'.rangeAt g (i * 22) cs) := ⟨fun w' h => by
        obtain ⟨q0, q1, q2, q3, q4⟩ := HBox5.out.keep (below_step HBi.out h)
        exact ⟨q0, q1, q2, q3, q4, fun j v hj => kept_cell h (hrg j v hj)⟩⟩
       have HS79 : Aside0 ((Tryz.prog.info? 79).map (·.size) = some cs.length) := ⟨by rw [hcs]; exact Tryz.size79⟩
       clear hel he hth hrg
       go_upto_region 14 with (fail)
       refine wp_region_held_drew (S := fun w' => w'.cell? ⟨w.heap.size, 0, none⟩ = some (.string p.name) ∧ w'.cell? ⟨w.heap.size, 1, none⟩ = some (.int .i64 p.width) ∧ w'.cell? ⟨w.heap.size, 2, none⟩ = some (.int .i64 p.line) ∧ w'.cell? ⟨w.heap.size, 3, none⟩ = some (.slice A3 p.decls.length c3) ∧ w'.cell? ⟨w.heap.size, 4, none⟩ = some (.slice A4 p.body.length c4) ∧ w'.rangeAt g (i * 22) cs) (by kernel_rfl) (HK.out _ (below_drew1 (Below.refl _ _))) (fun hHeld => ?_)
       refine wpAnyH_take (i := 0) (v := ?_) rfl (by kernel_rfl) (by kernel_rfl) (by kernel_rfl) (fun _ _ _ h => h) (Or.inl ⟨by rfl, ?_⟩) (by assumption) ?_
       rotate_left
       ·intro w' hSw
        (try dsimp only at hSw)
        go_simp
        try with_reducible rfl
       simp only [Act.put, List.setIfInBounds_toArray, List.set_cons_zero, List.set_cons_succ]
       refine wpAnyH_take (i := 1) (v := ?_) rfl (by kernel_rfl) (by kernel_rfl) (by kernel_rfl) (fun _ _ _ h => h) (Or.inl ⟨by rfl, ?_⟩) (by assumption) ?_
       rotate_left
       ·intro w' hSw
        (try dsimp only at hSw)
        go_simp
        try with_reducible rfl
       simp only [Act.put, List.setIfInBounds_toArray, List.set_cons_zero, List.set_cons_succ]
       refine wpAnyH_take (i := 2) (v := ?_) rfl (by kernel_rfl) (by kernel_rfl) (by kernel_rfl) (fun _ _ _ h => h) (Or.inl ⟨by rfl, ?_⟩) (by assumption) ?_
       rotate_left
       ·intro w' hSw
        (try dsimp only at hSw)
        go_simp
        try with_reducible rfl
       simp only [Act.put, List.setIfInBounds_toArray, List.set_cons_zero, List.set_cons_succ]
       refine wpAnyH_take (i := 3) (v := ?_) rfl (by kernel_rfl) (by kernel_rfl) (by kernel_rfl) (fun _ _ _ h => h) (Or.inl ⟨by rfl, ?_⟩) (by assumption) ?_
       rotate_left
       ·intro w' hSw
        (try dsimp only at hSw)
        go_simp
        try with_reducible rfl
       simp only [Act.put, List.setIfInBounds_toArray, List.set_cons_zero, List.set_cons_succ]
       refine' wpAnyH_take (i := 4) (v := _) rfl (by kernel_rfl) (by kernel_rfl) (by kernel_rfl) (fun _ _ _ h => h) (yieldsIf_load_mid (by rfl) _ _ rfl g (i * 22) rfl cs _ (fun w' h => h.2.2.2.2.2) Tryz.underlying79 rfl HS79.out) (by assumption) ?_
       simp only [Act.put, List.setIfInBounds_toArray, List.set_cons_zero, List.set_cons_succ]
       refine wpAnyH_take (i := 5) (v := ?_) rfl (by kernel_rfl) (by kernel_rfl) (by kernel_rfl) (fun _ _ _ h => h) (Or.inl ⟨by rfl, ?_⟩) (by assumption) ?_
       rotate_left
       ·intro w' hSw
        (try dsimp only at hSw)
        go_simp
        try with_reducible rfl
       simp only [Act.put, List.setIfInBounds_toArray, List.set_cons_zero, List.set_cons_succ]
       refine wpAnyH_ready (rs := [6]) (by kernel_rfl) (by simp) ?_
       refine AllReadyH.cons rfl (fun K hK => ?_) AllReadyH.nil
       go_simp
       refine (HV.out _ (below_drew1 (Below.refl _ _))).mono ?_
       rintro x' w6 ⟨⟨u, rfl, hu1⟩, hb1⟩
       have Bq := Aside0.mk (show Below wr.heap.size wr w6 from below_step (below_drew1 (Below.refl _ _)) hb1)
       have HU := Aside0.mk hu1
       clear hb1 hu1
       try dsimp only
       refine hK.out _ _ (HK.out _ Bq.out) (fun hHeld2 => ?_)
       clear hK K
       try simp only [Act.put, List.setIfInBounds_toArray, List.set_cons_zero, List.set_cons_succ]
       refine wpAnyH_take (i := 7) (v := ?_) rfl (by kernel_rfl) (by kernel_rfl) (by kernel_rfl) (fun _ _ _ h => h) (Or.inl ⟨by rfl, ?_⟩) (by assumption) ?_
       rotate_left
       ·intro w' hSw
        (try dsimp only at hSw)
        go_simp
        try with_reducible rfl
       simp only [Act.put, List.setIfInBounds_toArray, List.set_cons_zero, List.set_cons_succ]
       refine wpAnyH_done (by kernel_rfl) ?_ _
       have B6 := Aside0.mk (show Below w5.heap.size w5 w6 from below_step HBi.out Bq.out)
       clear hHeld hHeld2 HK HS79 HV
       by_cases h0 : u = 0
       ·have HOk : Aside0 (∀ j, j < i + 1 → ∀ y, p.ths[j]? = some y → badC p c y = false) := ⟨fun j hj y hy => by
         by_cases e : j = i
         ·subst e
          rw [HMem.out.2.1] at hy
          obtain rfl : x = y := by simpa using hy
          exact HU.out.1 h0
         ·exact HSe.out j (by omega) y hy⟩
        subst h0
        go_wp2_with fail
        go_roundg (p.ths.length - (i + 1))
        case measure => exact HMem.out.2.2.2.1
        case rel => exact ⟨i + 1, rfl, rfl, HMem.out.2.2.2.2, HOk.out, B6.out⟩
       ·have HN : Aside0 (¬ wfB p.formB p) := ⟨wf_bad HCC.out.1 HCC.out.2.1 HMem.out.1 (fun h => h0 (HU.out.2 h))⟩
        have h1 : (u != 0) = true := by simpa using h0
        go_wp2_with fail
        go_ret3
        exact ⟨⟨_, _, _, rfl, ⟨fun h => absurd h h0, fun h => absurd h HN.out⟩⟩, below_step B5.out B6.out⟩
      ·have hlt' : ¬ ((i : Int) < (p.ths.length : Int)) := by omega
       have HOk : Aside0 (∀ k, 10 ≤ k → k < c + 1 → ∀ y, y ∈ p.ths → badC p k y = false) := ⟨fun k h1 h2 y hy => by
        by_cases e : k = c
        ·subst e
         obtain ⟨j, hj, rfl⟩ := List.getElem_of_mem hy
         exact HSe.out j (by omega) _ (List.getElem?_eq_getElem hj)
        ·exact HPa.out k h1 (by omega) y hy⟩
       go_wp2_with fail
       go_roundg (16 - (c + 1))
       case measure => have := HCC.out.2.1; omega
       case rel => exact ⟨c + 1, rfl, rfl, by have := HCC.out.1; omega, HCC.out.2.1, HOk.out, HBi.out⟩
    ·have e1 : ¬ ((c : Int) ≤ 15) := by omega
     have HAll : Aside0 (∀ k, 10 ≤ k → k < 16 → ∀ y, y ∈ p.ths → badC p k y = false) := ⟨fun k h1 h2 => HPa.out k h1 (by omega)⟩
     have HSzc := Aside0.mk (HSz.out wr (below_step B5.out HBr.out))
     obtain ⟨z0, z1, z2, z3, z4⟩ := HBox5.out.keep HBr.out
     clear hlt hc10 hc16 HSz
     have HCt := Aside0.mk (@ct_le (S52.sizs 0 p.body))
     generalize ct (S52.sizs 0 p.body) = sz at *
     by_cases hsz : S52.sizs 0 p.body ≤ 65536
     ·have l1 : decide (65536 < sz) = false := decide_eq_false (fun h => HCt.out.1 h hsz)
      have l2 : decide (sz > 65536) = false := l1
      have HY : Aside0 (wfB p.formB p) := ⟨(wf_split p.formB p).2 ⟨HC1.out.1 (by trivial), HC2.out.1 (by trivial), HAll.out, hsz⟩⟩
      clear hsz
      go_wp2_with (go_at_call 35; refine HSzc.out.mono ?_; rintro x' w6 ⟨rfl, hb1⟩; have B6 := Aside0.mk (below_step (below_step B5.out HBr.out) hb1); clear hb1)
      go_ret3
      exact ⟨⟨_, _, _, rfl, ⟨fun _ => HY.out, fun _ => rfl⟩⟩, B6.out⟩
     ·have l1 : decide (65536 < sz) = true := decide_eq_true (HCt.out.2 hsz)
      have l2 : decide (sz > 65536) = true := l1
      have HN : Aside0 (¬ wfB p.formB p) := ⟨fun h => hsz ((wf_split p.formB p).1 h).2.2.2⟩
      clear hsz
      go_wp2_with (go_at_call 35; refine HSzc.out.mono ?_; rintro x' w6 ⟨rfl, hb1⟩; have B6 := Aside0.mk (below_step (below_step B5.out HBr.out) hb1); clear hb1)
      go_ret3
      exact ⟨⟨_, _, _, rfl, ⟨fun h => absurd h (by decide), fun h => absurd h HN.out⟩⟩, B6.out⟩
  ·have HN : Aside0 (¬ wfB p.formB p) := ⟨wf_decl fun h => h0 (HC2.out.2 h)⟩
   have h1 : (e2 != 0) = true := by simpa using h0
   go_wp2_with fail
   go_ret3
   exact ⟨⟨_, _, _, rfl, ⟨fun h => absurd h h0, fun h => absurd h HN.out⟩⟩, B4.out⟩
 ·have HN : Aside0 (¬ wfB p.formB p) := ⟨wf_head fun h => h0 (HC1.out.2 h)⟩
  have h1 : (e1 != 0) = true := by simpa using h0
  go_wp2_with fail
  go_ret3
  exact ⟨⟨_, _, _, rfl, ⟨fun h => absurd h h0, fun h => absurd h HN.out⟩⟩, B3.out⟩
set_option maxHeartbeats 1000000 in
theorem rcheck_any (p : PR) (A3 : Option Addr) (c3 : Nat) (A4 : Option Addr) (c4 : Nat) (w : World) (hp : p.At w A3 c3 A4 c4) (hf : p.fits) (hl : p.decls.length ≤ 1048576) (hv : ∀ d, d ∈ p.decls → d.f3.length ≤ 1048576) (hb : S52.bulks p.body ≤ 1048576) :
  Calls Tryz.prog 23 #[p.cells A3 c3 A4 c4] w fun e w' => (∃ c : Int, e = .returned (.int .i64 c) ∧ (c = 0 ↔ wfB p.formB p)) ∧ Below w.heap.size w w' := by
 have B := below_alloc (Below.refl w.heap.size w) (p.row A3 c3 A4 c4)
 have HC := Aside0.mk (rfault_any p A3 c3 A4 c4 _ (At_below hp B) hf hl hv hb)
 have BB := Aside0.mk B
 clear B hp hf hl hv hb
 unfold PR.row at HC BB
 unfold PR.cells at *
 go_enter Tryz.func23, Tryz.ntmps23
 go_wp2_with (go_at_call 27; refine HC.out.mono ?_; rintro x' w2 ⟨⟨a1, b1, e1, rfl, hc⟩, hb⟩; have HCc := Aside0.mk hc; have B2 := Aside0.mk (below_step BB.out hb); clear hc hb)
 go_ret
 exact ⟨⟨_, rfl, HCc.out⟩, B2.out⟩
end Go.Proofs.YtjomofepephodaaGreat.PEquivShapes
