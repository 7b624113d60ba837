/-
  The form of a program, in package lang. Conditions: what each theorem names.
-/
import Derived.Test.YtjomofepephodaaGreatGm
set_option linter.unusedVariables false
set_option linter.unusedSimpArgs false
namespace Go.Proofs.YtjomofepephodaaGreat.PEquivShapes
open Go.RowKit
open Go.Proofs.YtjomofepephodaaGreatW.PrintWords Go.Proofs.YtjomofepephodaaGreatW.PrintLast Go.Proofs.YtjomofepephodaaGreatW.PrintMore
/-- a declaration as a value -/
def S38.val (d : S38) (A : Option Addr) (c : Nat) : Value := .agg #[.int .i64 d.f0, .string d.f1, .int .i64 d.f2, .slice A d.f3.length c]
/-- is a declaration of the form? -/
def S38.formB (d : S38) : Bool := decide (1 ≤ d.f0) && (decide (d.f0 ≤ 5) && (nameB d.f1 && (decide (0 ≤ d.f2) && (if d.f0 = 3 then (decide (0 < d.f3.length) && decide (0 < d.f2)) else decide (d.f3.length = 0)))))
/-- is a program of the form? -/
def PR.formB (p : PR) : Bool := nameB p.name && (decide (0 ≤ p.width) && (decide (0 ≤ p.line) && (p.decls.all S38.formB && S52.formsB p.body)))
theorem declsB_false {l : List S38} {i : Nat} (h : i < l.length) (hb : (rd_T38 l i).formB = false) : l.all S38.formB = false := by
  have hd : rd_T38 l i = l[i] := by simp [rd_T38, h]
  rw [hd] at hb
  rw [List.all_eq_false]
  exact ⟨l[i], List.getElem_mem h, by simp [hb]⟩
theorem declsB_true {l : List S38} (h : ∀ j, j < l.length → (rd_T38 l j).formB = true) : l.all S38.formB = true := by
  rw [List.all_eq_true]
  intro x hx
  obtain ⟨j, hj, rfl⟩ := List.getElem_of_mem hx
  have := h j hj
  simpa [rd_T38, hj] using this
theorem dform_step {l : List S38} {i : Nat} (h : ∀ j, j < i → (rd_T38 l j).formB = true) (h1 : (rd_T38 l i).formB = true) : ∀ j, j < i + 1 → (rd_T38 l j).formB = true := fun j hj => by
  by_cases hj2 : j < i
  · exact h j hj2
  · obtain rfl : j = i := by omega
    exact h1
set_option maxHeartbeats 4000000 in
theorem l_decl (d : S38) (A : Option Addr) (c : Nat) (w : World) : Calls Tryz.prog 79 #[d.val A c] w fun x w' => x = .returned (.bool d.formB) ∧ Below w.heap.size w w' := by
  have HN : Aside0 (∀ W, Calls Tryz.prog 78 #[.string d.f1] W fun x w' => x = .returned (.bool (nameB d.f1)) ∧ Below W.heap.size W w') := ⟨named_any d.f1⟩
  obtain ⟨k, nm, m, l⟩ := d
  unfold S38.val S38.formB
  simp only at HN ⊢
  generalize nameB nm = nb at *
  by_cases k1 : k < 1
  · have a1 : decide (k < 1) = true := decide_eq_true k1
    rw [decide_eq_false (show ¬ 1 ≤ k by omega), Bool.false_and]
    clear k1
    obtain ⟨W2, hW2⟩ : ∃ W2, w.alloc (.cells #[.int .i64 k, .string nm, .int .i64 m, .slice A l.length c] 38) = W2 := ⟨_, rfl⟩
    have BB : Aside0 (Below w.heap.size w W2) := ⟨by rw [← hW2]; exact below_alloc (Below.refl _ _) _⟩
    obtain ⟨z0, z1, z2, z3⟩ : W2.cell? ⟨w.heap.size, 0, none⟩ = some (.int .i64 k) ∧ W2.cell? ⟨w.heap.size, 1, none⟩ = some (.string nm) ∧ W2.cell? ⟨w.heap.size, 2, none⟩ = some (.int .i64 m) ∧ W2.cell? ⟨w.heap.size, 3, none⟩ = some (.slice A l.length c) := by rw [← hW2]; simp [go_sem]
    go_enter Tryz.func79, Tryz.ntmps79
    go_upto_region 1 with (fail)
    try rw [hW2]
    clear hW2
    go_wp2_with fail
    go_ret
    exact ⟨rfl, BB.out⟩
  · have a1 : decide (k < 1) = false := decide_eq_false k1
    rw [decide_eq_true (show 1 ≤ k by omega), Bool.true_and]
    by_cases k6 : 5 < k
    · have a6 : decide (5 < k) = true := decide_eq_true k6
      rw [decide_eq_false (show ¬ k ≤ 5 by omega), Bool.false_and]
      clear k1 k6
      obtain ⟨W2, hW2⟩ : ∃ W2, w.alloc (.cells #[.int .i64 k, .string nm, .int .i64 m, .slice A l.length c] 38) = W2 := ⟨_, rfl⟩
      have BB : Aside0 (Below w.heap.size w W2) := ⟨by rw [← hW2]; exact below_alloc (Below.refl _ _) _⟩
      obtain ⟨z0, z1, z2, z3⟩ : W2.cell? ⟨w.heap.size, 0, none⟩ = some (.int .i64 k) ∧ W2.cell? ⟨w.heap.size, 1, none⟩ = some (.string nm) ∧ W2.cell? ⟨w.heap.size, 2, none⟩ = some (.int .i64 m) ∧ W2.cell? ⟨w.heap.size, 3, none⟩ = some (.slice A l.length c) := by rw [← hW2]; simp [go_sem]
      go_enter Tryz.func79, Tryz.ntmps79
      go_upto_region 1 with (fail)
      try rw [hW2]
      clear hW2
      go_wp2_with fail
      go_ret
      exact ⟨rfl, BB.out⟩
    · have a6 : decide (5 < k) = false := decide_eq_false k6
      rw [decide_eq_true (show k ≤ 5 by omega), Bool.true_and]
      clear k1 k6
      cases nb with
      | false =>
        rw [Bool.false_and]
        obtain ⟨W2, hW2⟩ : ∃ W2, w.alloc (.cells #[.int .i64 k, .string nm, .int .i64 m, .slice A l.length c] 38) = W2 := ⟨_, rfl⟩
        have BB : Aside0 (Below w.heap.size w W2) := ⟨by rw [← hW2]; exact below_alloc (Below.refl _ _) _⟩
        obtain ⟨z0, z1, z2, z3⟩ : W2.cell? ⟨w.heap.size, 0, none⟩ = some (.int .i64 k) ∧ W2.cell? ⟨w.heap.size, 1, none⟩ = some (.string nm) ∧ W2.cell? ⟨w.heap.size, 2, none⟩ = some (.int .i64 m) ∧ W2.cell? ⟨w.heap.size, 3, none⟩ = some (.slice A l.length c) := by rw [← hW2]; simp [go_sem]
        go_enter Tryz.func79, Tryz.ntmps79
        go_upto_region 1 with (fail)
        try rw [hW2]
        clear hW2
        go_wp2_with (go_at_call 78; refine (HN.out _).mono ?_; rintro x' w3 ⟨rfl, hb⟩; replace z0 := kept_cell hb z0; replace z1 := kept_cell hb z1; replace z2 := kept_cell hb z2; replace z3 := kept_cell hb z3; have B1 := Aside0.mk (below_step BB.out hb); clear hb)
        go_ret
        exact ⟨rfl, B1.out⟩
      | true =>
        rw [Bool.true_and]
        by_cases hm : m < 0
        · have b1 : decide (m < 0) = true := decide_eq_true hm
          rw [decide_eq_false (show ¬ 0 ≤ m by omega), Bool.false_and]
          clear hm
          obtain ⟨W2, hW2⟩ : ∃ W2, w.alloc (.cells #[.int .i64 k, .string nm, .int .i64 m, .slice A l.length c] 38) = W2 := ⟨_, rfl⟩
          have BB : Aside0 (Below w.heap.size w W2) := ⟨by rw [← hW2]; exact below_alloc (Below.refl _ _) _⟩
          obtain ⟨z0, z1, z2, z3⟩ : W2.cell? ⟨w.heap.size, 0, none⟩ = some (.int .i64 k) ∧ W2.cell? ⟨w.heap.size, 1, none⟩ = some (.string nm) ∧ W2.cell? ⟨w.heap.size, 2, none⟩ = some (.int .i64 m) ∧ W2.cell? ⟨w.heap.size, 3, none⟩ = some (.slice A l.length c) := by rw [← hW2]; simp [go_sem]
          go_enter Tryz.func79, Tryz.ntmps79
          go_upto_region 1 with (fail)
          try rw [hW2]
          clear hW2
          go_wp2_with (go_at_call 78; refine (HN.out _).mono ?_; rintro x' w3 ⟨rfl, hb⟩; replace z0 := kept_cell hb z0; replace z1 := kept_cell hb z1; replace z2 := kept_cell hb z2; replace z3 := kept_cell hb z3; have B1 := Aside0.mk (below_step BB.out hb); clear hb)
          go_ret
          exact ⟨rfl, B1.out⟩
        · have b1 : decide (m < 0) = false := decide_eq_false hm
          rw [decide_eq_true (show 0 ≤ m by omega), Bool.true_and]
          clear hm
          by_cases hl : l.length = 0
          · have l0 : decide ((0 : Int) < (l.length : Int)) = false := decide_eq_false (by omega)
            have l2 : decide (0 < l.length) = false := decide_eq_false (by omega)
            have l1 : ((l.length : Int) == 0) = true := beq_iff_eq.mpr (by omega)
            rw [decide_eq_true hl, decide_eq_false (show ¬ 0 < l.length by omega), Bool.false_and]
            clear hl
            by_cases k3 : k = 3
            · subst k3
              rw [if_pos rfl]
              obtain ⟨W2, hW2⟩ : ∃ W2, w.alloc (.cells #[.int .i64 3, .string nm, .int .i64 m, .slice A l.length c] 38) = W2 := ⟨_, rfl⟩
              have BB : Aside0 (Below w.heap.size w W2) := ⟨by rw [← hW2]; exact below_alloc (Below.refl _ _) _⟩
              obtain ⟨z0, z1, z2, z3⟩ : W2.cell? ⟨w.heap.size, 0, none⟩ = some (.int .i64 3) ∧ W2.cell? ⟨w.heap.size, 1, none⟩ = some (.string nm) ∧ W2.cell? ⟨w.heap.size, 2, none⟩ = some (.int .i64 m) ∧ W2.cell? ⟨w.heap.size, 3, none⟩ = some (.slice A l.length c) := by rw [← hW2]; simp [go_sem]
              go_enter Tryz.func79, Tryz.ntmps79
              go_upto_region 1 with (fail)
              try rw [hW2]
              clear hW2
              go_wp2_with (go_at_call 78; refine (HN.out _).mono ?_; rintro x' w3 ⟨rfl, hb⟩; replace z0 := kept_cell hb z0; replace z1 := kept_cell hb z1; replace z2 := kept_cell hb z2; replace z3 := kept_cell hb z3; have B1 := Aside0.mk (below_step BB.out hb); clear hb)
              go_ret
              exact ⟨rfl, B1.out⟩
            · have e3 : (k == 3) = false := beq_eq_false_iff_ne.mpr k3
              have e4 : (k != 3) = true := bne_iff_ne.mpr k3
              rw [if_neg k3]
              clear k3
              obtain ⟨W2, hW2⟩ : ∃ W2, w.alloc (.cells #[.int .i64 k, .string nm, .int .i64 m, .slice A l.length c] 38) = W2 := ⟨_, rfl⟩
              have BB : Aside0 (Below w.heap.size w W2) := ⟨by rw [← hW2]; exact below_alloc (Below.refl _ _) _⟩
              obtain ⟨z0, z1, z2, z3⟩ : W2.cell? ⟨w.heap.size, 0, none⟩ = some (.int .i64 k) ∧ W2.cell? ⟨w.heap.size, 1, none⟩ = some (.string nm) ∧ W2.cell? ⟨w.heap.size, 2, none⟩ = some (.int .i64 m) ∧ W2.cell? ⟨w.heap.size, 3, none⟩ = some (.slice A l.length c) := by rw [← hW2]; simp [go_sem]
              go_enter Tryz.func79, Tryz.ntmps79
              go_upto_region 1 with (fail)
              try rw [hW2]
              clear hW2
              go_wp2_with (go_at_call 78; refine (HN.out _).mono ?_; rintro x' w3 ⟨rfl, hb⟩; replace z0 := kept_cell hb z0; replace z1 := kept_cell hb z1; replace z2 := kept_cell hb z2; replace z3 := kept_cell hb z3; have B1 := Aside0.mk (below_step BB.out hb); clear hb)
              go_ret
              exact ⟨rfl, B1.out⟩
          · have l0 : decide ((0 : Int) < (l.length : Int)) = true := decide_eq_true (by omega)
            have l2 : decide (0 < l.length) = true := decide_eq_true (by omega)
            have l1 : ((l.length : Int) == 0) = false := beq_eq_false_iff_ne.mpr (by omega)
            rw [decide_eq_false hl, decide_eq_true (show 0 < l.length by omega), Bool.true_and]
            clear hl
            by_cases k3 : k = 3
            · subst k3
              rw [if_pos rfl]
              obtain ⟨W2, hW2⟩ : ∃ W2, w.alloc (.cells #[.int .i64 3, .string nm, .int .i64 m, .slice A l.length c] 38) = W2 := ⟨_, rfl⟩
              have BB : Aside0 (Below w.heap.size w W2) := ⟨by rw [← hW2]; exact below_alloc (Below.refl _ _) _⟩
              obtain ⟨z0, z1, z2, z3⟩ : W2.cell? ⟨w.heap.size, 0, none⟩ = some (.int .i64 3) ∧ W2.cell? ⟨w.heap.size, 1, none⟩ = some (.string nm) ∧ W2.cell? ⟨w.heap.size, 2, none⟩ = some (.int .i64 m) ∧ W2.cell? ⟨w.heap.size, 3, none⟩ = some (.slice A l.length c) := by rw [← hW2]; simp [go_sem]
              go_enter Tryz.func79, Tryz.ntmps79
              go_upto_region 1 with (fail)
              try rw [hW2]
              clear hW2
              go_wp2_with (go_at_call 78; refine (HN.out _).mono ?_; rintro x' w3 ⟨rfl, hb⟩; replace z0 := kept_cell hb z0; replace z1 := kept_cell hb z1; replace z2 := kept_cell hb z2; replace z3 := kept_cell hb z3; have B1 := Aside0.mk (below_step BB.out hb); clear hb)
              go_ret
              exact ⟨rfl, B1.out⟩
            · have e3 : (k == 3) = false := beq_eq_false_iff_ne.mpr k3
              have e4 : (k != 3) = true := bne_iff_ne.mpr k3
              rw [if_neg k3]
              clear k3
              obtain ⟨W2, hW2⟩ : ∃ W2, w.alloc (.cells #[.int .i64 k, .string nm, .int .i64 m, .slice A l.length c] 38) = W2 := ⟨_, rfl⟩
              have BB : Aside0 (Below w.heap.size w W2) := ⟨by rw [← hW2]; exact below_alloc (Below.refl _ _) _⟩
              obtain ⟨z0, z1, z2, z3⟩ : W2.cell? ⟨w.heap.size, 0, none⟩ = some (.int .i64 k) ∧ W2.cell? ⟨w.heap.size, 1, none⟩ = some (.string nm) ∧ W2.cell? ⟨w.heap.size, 2, none⟩ = some (.int .i64 m) ∧ W2.cell? ⟨w.heap.size, 3, none⟩ = some (.slice A l.length c) := by rw [← hW2]; simp [go_sem]
              go_enter Tryz.func79, Tryz.ntmps79
              go_upto_region 1 with (fail)
              try rw [hW2]
              clear hW2
              go_wp2_with (go_at_call 78; refine (HN.out _).mono ?_; rintro x' w3 ⟨rfl, hb⟩; replace z0 := kept_cell hb z0; replace z1 := kept_cell hb z1; replace z2 := kept_cell hb z2; replace z3 := kept_cell hb z3; have B1 := Aside0.mk (below_step BB.out hb); clear hb)
              go_ret
              exact ⟨rfl, B1.out⟩
set_option maxHeartbeats 8000000 in
set_option maxRecDepth 100000 in
theorem l_form (p : PR) (A3 : Option Addr) (c3 : Nat) (A4 : Option Addr) (c4 : Nat) (w : World) (hp : p.At w A3 c3 A4 c4) :
    Calls Tryz.prog 37 #[p.cells A3 c3 A4 c4] w fun x w' => x = .returned (.bool p.formB) ∧ Below w.heap.size w w' := by
  have hu := Tryz.underlying22
  obtain ⟨hl3, h3, hl4, h4⟩ := hp
  have hll : (p.decls.length : Int) ≤ 9223372036854775807 := by have := h3.2.1; omega
  have HN : Aside0 (∀ W, Calls Tryz.prog 78 #[.string p.name] W fun x w' => x = .returned (.bool (nameB p.name)) ∧ Below W.heap.size W w') := ⟨named_any p.name⟩
  have HKid : Aside0 (∀ i, i < p.decls.length → ∀ W, Below w.heap.size w W → ∃ ad A1 c1, A3 = some ad ∧ W.cell? (ad.add (i * 4)) = some (.int .i64 (rd_T38 p.decls i).f0) ∧ W.cell? ⟨(ad.add (i * 4)).block, (ad.add (i * 4)).off + 1, none⟩ = some (.string (rd_T38 p.decls i).f1) ∧ W.cell? ⟨(ad.add (i * 4)).block, (ad.add (i * 4)).off + 2, none⟩ = some (.int .i64 (rd_T38 p.decls i).f2) ∧ W.cell? ⟨(ad.add (i * 4)).block, (ad.add (i * 4)).off + 3, none⟩ = some (.slice A1 (rd_T38 p.decls i).f3.length c1)) := ⟨fun i hi W hb => by
    obtain ⟨ad, A1, c1, rfl, x0, x1, x2, x3, _, _⟩ := at_T38 h3 (i : Int) (by omega) (by omega)
    simp only [Int.toNat_natCast] at x0 x1 x2 x3
    exact ⟨ad, A1, c1, rfl, kept_cell hb x0, kept_cell hb x1, kept_cell hb x2, kept_cell hb x3⟩⟩
  have HBd : Aside0 (∀ W, Below w.heap.size w W → Calls Tryz.prog 80 #[.slice A4 p.body.length c4] W fun x w' => x = .returned (.bool (S52.formsB p.body)) ∧ Below W.heap.size W w') := ⟨fun W hW => l_body _ p.body A4 c4 W (Nat.le_refl _) (Kd.C_below h4 hW) hl4⟩
  clear h3 h4
  unfold PR.cells
  have hform : p.formB = (nameB p.name && (decide (0 ≤ p.width) && (decide (0 ≤ p.line) && (p.decls.all S38.formB && S52.formsB p.body)))) := rfl
  generalize p.formB = fm at *
  generalize nameB p.name = nb at *
  have HG : Aside0 (p.decls.all S38.formB = false → fm = false) := ⟨fun h => by rw [hform, h]; simp⟩
  have HG2 : Aside0 (p.decls.all S38.formB = true → nb = true → 0 ≤ p.width → 0 ≤ p.line → fm = S52.formsB p.body) := ⟨fun h h1 h2 h3 => by rw [hform, h, h1, decide_eq_true h2, decide_eq_true h3]; simp⟩
  generalize S52.formsB p.body = bd at *
  cases nb with
  | false =>
    obtain rfl : fm = false := hform
    clear HG HG2
    obtain ⟨W2, hW2⟩ : ∃ W2, w.alloc (.cells #[.string p.name, .int .i64 p.width, .int .i64 p.line, .slice A3 p.decls.length c3, .slice A4 p.body.length c4] 25) = W2 := ⟨_, rfl⟩
    have BB : Aside0 (Below w.heap.size w W2) := ⟨by rw [← hW2]; exact below_alloc (Below.refl _ _) _⟩
    obtain ⟨z0, z1, z2, z3, z4⟩ : W2.cell? ⟨w.heap.size, 0, none⟩ = some (.string p.name) ∧ W2.cell? ⟨w.heap.size, 1, none⟩ = some (.int .i64 p.width) ∧ W2.cell? ⟨w.heap.size, 2, none⟩ = some (.int .i64 p.line) ∧ W2.cell? ⟨w.heap.size, 3, none⟩ = some (.slice A3 p.decls.length c3) ∧ W2.cell? ⟨w.heap.size, 4, none⟩ = some (.slice A4 p.body.length c4) := by rw [← hW2]; simp [go_sem]
    go_enter Tryz.func37, Tryz.ntmps37
    go_upto_region 1 with (fail)
    try rw [hW2]
    clear hW2
    go_wp2_with (go_at_call 78; refine (HN.out _).mono ?_; rintro x' w3 ⟨rfl, hb⟩; replace z0 := kept_cell hb z0; replace z1 := kept_cell hb z1; replace z2 := kept_cell hb z2; replace z3 := kept_cell hb z3; replace z4 := kept_cell hb z4; have B1 := Aside0.mk (below_step BB.out hb); clear hb)
    go_ret
    exact ⟨rfl, B1.out⟩
  | true =>
    by_cases hw : p.width < 0
    · have b1 : decide (p.width < 0) = true := decide_eq_true hw
      obtain rfl : fm = false := by rw [hform, decide_eq_false (show ¬ 0 ≤ p.width by omega)]; simp
      clear hform hw HG HG2
      obtain ⟨W2, hW2⟩ : ∃ W2, w.alloc (.cells #[.string p.name, .int .i64 p.width, .int .i64 p.line, .slice A3 p.decls.length c3, .slice A4 p.body.length c4] 25) = W2 := ⟨_, rfl⟩
      have BB : Aside0 (Below w.heap.size w W2) := ⟨by rw [← hW2]; exact below_alloc (Below.refl _ _) _⟩
      obtain ⟨z0, z1, z2, z3, z4⟩ : W2.cell? ⟨w.heap.size, 0, none⟩ = some (.string p.name) ∧ W2.cell? ⟨w.heap.size, 1, none⟩ = some (.int .i64 p.width) ∧ W2.cell? ⟨w.heap.size, 2, none⟩ = some (.int .i64 p.line) ∧ W2.cell? ⟨w.heap.size, 3, none⟩ = some (.slice A3 p.decls.length c3) ∧ W2.cell? ⟨w.heap.size, 4, none⟩ = some (.slice A4 p.body.length c4) := by rw [← hW2]; simp [go_sem]
      go_enter Tryz.func37, Tryz.ntmps37
      go_upto_region 1 with (fail)
      try rw [hW2]
      clear hW2
      go_wp2_with (go_at_call 78; refine (HN.out _).mono ?_; rintro x' w3 ⟨rfl, hb⟩; replace z0 := kept_cell hb z0; replace z1 := kept_cell hb z1; replace z2 := kept_cell hb z2; replace z3 := kept_cell hb z3; replace z4 := kept_cell hb z4; have B1 := Aside0.mk (below_step BB.out hb); clear hb)
      go_ret
      exact ⟨rfl, B1.out⟩
    · have b1 : decide (p.width < 0) = false := decide_eq_false hw
      by_cases hl : p.line < 0
      · have b2 : decide (p.line < 0) = true := decide_eq_true hl
        obtain rfl : fm = false := by rw [hform, decide_eq_false (show ¬ 0 ≤ p.line by omega)]; simp
        clear hform hw hl HG HG2
        obtain ⟨W2, hW2⟩ : ∃ W2, w.alloc (.cells #[.string p.name, .int .i64 p.width, .int .i64 p.line, .slice A3 p.decls.length c3, .slice A4 p.body.length c4] 25) = W2 := ⟨_, rfl⟩
        have BB : Aside0 (Below w.heap.size w W2) := ⟨by rw [← hW2]; exact below_alloc (Below.refl _ _) _⟩
        obtain ⟨z0, z1, z2, z3, z4⟩ : W2.cell? ⟨w.heap.size, 0, none⟩ = some (.string p.name) ∧ W2.cell? ⟨w.heap.size, 1, none⟩ = some (.int .i64 p.width) ∧ W2.cell? ⟨w.heap.size, 2, none⟩ = some (.int .i64 p.line) ∧ W2.cell? ⟨w.heap.size, 3, none⟩ = some (.slice A3 p.decls.length c3) ∧ W2.cell? ⟨w.heap.size, 4, none⟩ = some (.slice A4 p.body.length c4) := by rw [← hW2]; simp [go_sem]
        go_enter Tryz.func37, Tryz.ntmps37
        go_upto_region 1 with (fail)
        try rw [hW2]
        clear hW2
        go_wp2_with (go_at_call 78; refine (HN.out _).mono ?_; rintro x' w3 ⟨rfl, hb⟩; replace z0 := kept_cell hb z0; replace z1 := kept_cell hb z1; replace z2 := kept_cell hb z2; replace z3 := kept_cell hb z3; replace z4 := kept_cell hb z4; have B1 := Aside0.mk (below_step BB.out hb); clear hb)
        go_ret
        exact ⟨rfl, B1.out⟩
      · have b2 : decide (p.line < 0) = false := decide_eq_false hl
        replace HG2 : Aside0 (p.decls.all S38.formB = true → fm = bd) := ⟨fun h => HG2.out h rfl (by omega) (by omega)⟩
        clear hform hw hl
        obtain ⟨W2, hW2⟩ : ∃ W2, w.alloc (.cells #[.string p.name, .int .i64 p.width, .int .i64 p.line, .slice A3 p.decls.length c3, .slice A4 p.body.length c4] 25) = W2 := ⟨_, rfl⟩
        have BB : Aside0 (Below w.heap.size w W2) := ⟨by rw [← hW2]; exact below_alloc (Below.refl _ _) _⟩
        obtain ⟨z0, z1, z2, z3, z4⟩ : W2.cell? ⟨w.heap.size, 0, none⟩ = some (.string p.name) ∧ W2.cell? ⟨w.heap.size, 1, none⟩ = some (.int .i64 p.width) ∧ W2.cell? ⟨w.heap.size, 2, none⟩ = some (.int .i64 p.line) ∧ W2.cell? ⟨w.heap.size, 3, none⟩ = some (.slice A3 p.decls.length c3) ∧ W2.cell? ⟨w.heap.size, 4, none⟩ = some (.slice A4 p.body.length c4) := by rw [← hW2]; simp [go_sem]
        go_enter Tryz.func37, Tryz.ntmps37
        go_upto_region 1 with (fail)
        try rw [hW2]
        clear hW2
        go_wp2_with (go_at_call 78; refine (HN.out _).mono ?_; rintro x' w3 ⟨rfl, hb⟩; replace z0 := kept_cell hb z0; replace z1 := kept_cell hb z1; replace z2 := kept_cell hb z2; replace z3 := kept_cell hb z3; replace z4 := kept_cell hb z4; have B1 := Aside0.mk (below_step BB.out hb); clear hb)
        go_loopg [22] (p.decls.length) (fun m v wr => ∃ i : Nat, v = .int .i64 i ∧ m = p.decls.length - i ∧ i ≤ p.decls.length ∧ (∀ j, j < i → (rd_T38 p.decls j).formB = true) ∧ Below w3.heap.size w3 wr)
        case atStart => exact ⟨0, rfl, by omega, by omega, fun j h => absurd h (by omega), Below.refl _ _⟩
        case round =>
          obtain ⟨i, rfl, rfl, hi, hok, R⟩ := hrel
          have HOK := Aside0.mk hok
          replace z0 := kept_cell R z0
          replace z1 := kept_cell R z1
          replace z2 := kept_cell R z2
          replace z3 := kept_cell R z3
          replace z4 := kept_cell R z4
          clear hok
          by_cases hlt : i < p.decls.length
          · obtain ⟨ad, A1, c1, rfl, x0, x1, x2, x3⟩ := HKid.out i hlt wr (below_step B1.out R)
            have hlt' : (i : Int) < (p.decls.length : Int) := by omega
            have HF := Aside0.mk (declsB_false hlt)
            obtain ⟨d, hd⟩ : ∃ d, rd_T38 p.decls i = d := ⟨_, rfl⟩
            rw [hd] at x0 x1 x2 x3 HF
            have HDD := Aside0.mk hd
            have RR := Aside0.mk R
            have HCr := Aside0.mk (l_decl d A1 c1 (wr.alloc (.cells #[.int .i64 d.f0, .string d.f1, .int .i64 d.f2, .slice A1 d.f3.length c1] 38)))
            unfold S38.val at HCr
            clear R hd
            cases hv : d.formB with
            | false =>
              rw [hv] at HCr
              have HV := Aside0.mk (HG.out (HF.out hv))
              clear hv HF
              go_wp2_with (go_at_call 79; refine HCr.out.mono ?_; rintro x' w6 ⟨rfl, hb⟩)
              go_ret
              exact ⟨by rw [HV.out]; rfl, below_step B1.out (below_step (below_alloc RR.out _) hb)⟩
            | true =>
              rw [hv] at HCr
              have HD : Aside0 ((rd_T38 p.decls i).formB = true) := ⟨by rw [HDD.out]; exact hv⟩
              clear hv
              go_wp2_with (go_at_call 79; refine HCr.out.mono ?_; rintro x' w6 ⟨rfl, hb⟩)
              go_roundg (p.decls.length - (i + 1))
              case measure => omega
              case rel => exact ⟨i + 1, by simp, rfl, by omega, dform_step HOK.out HD.out, below_step (below_alloc RR.out _) hb⟩
          · have hlt' : ¬ ((i : Int) < (p.decls.length : Int)) := by omega
            have hie : i = p.decls.length := by omega
            subst hie
            have RR := Aside0.mk R
            have HV := Aside0.mk (HG2.out (declsB_true HOK.out))
            clear R
            go_wp2_with (go_at_call 80; refine (HBd.out _ (below_step B1.out RR.out)).mono ?_; rintro x' w6 ⟨rfl, hb⟩)
            go_ret
            exact ⟨by rw [HV.out]; rfl, below_step B1.out (below_step RR.out hb)⟩
end Go.Proofs.YtjomofepephodaaGreat.PEquivShapes
