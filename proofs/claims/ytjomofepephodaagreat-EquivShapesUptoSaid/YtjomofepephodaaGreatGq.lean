/-
  Powers, words that fit, and clauses 1 to 4 of the document. Conditions: what each theorem names.
-/
import Derived.Test.YtjomofepephodaaGreatGi
import Derived.Test.YtjomofepephodaaGreatGj
import Derived.Test.YtjomofepephodaaGreatKd
import Derived.Test.YtjomofepephodaaGreatGo
import Derived.Test.YtjomofepephodaaGreatKb
import Derived.Test.YtjomofepephodaaGreatGp
set_option linter.unusedVariables false
set_option linter.unusedSimpArgs false
namespace Go.Proofs.YtjomofepephodaaGreat.PEquivShapes
open Go.RowKit
open Go.Proofs.YtjomofepephodaaGreatW.PrintWords Go.Proofs.YtjomofepephodaaGreatW.PrintLast Go.Proofs.YtjomofepephodaaGreatW.PrintMore
/-- a power of two from 1 to 256? -/
def p8 (n : Int) : Bool := decide (n = 1) || (decide (n = 2) || (decide (n = 4) || (decide (n = 8) || (decide (n = 16) || (decide (n = 32) || (decide (n = 64) || (decide (n = 128) || (decide (n = 256) || false))))))))
theorem u64_dbl {n : Int} (h0 : 0 ≤ n) (h1 : n ≤ 1000) : IntKind.u64.wrap (2 * n) = 2 * n := by
  have e : IntKind.u64.wrap (2 * n) = (2 * n) % 18446744073709551616 := rfl
  rw [e]; omega
theorem ref_power (n : Int) : cadenceref16_power.f 20 n = some (p8 n) := by
  unfold p8 cadenceref16_power.f
  have s : ∀ (k : Nat) (x : Int), x ≤ 256 → 0 ≤ x → cadenceref16_power.l0 (k + 1) n x = if n = x then some true else cadenceref16_power.l0 k n (2 * x) := fun k x h h0 => by
    rw [cadenceref16_power.l0, if_pos h, u64_dbl h0 (by omega)]
  rw [s 19 1 (by omega) (by omega), s 18 _ (by omega) (by omega), s 17 _ (by omega) (by omega), s 16 _ (by omega) (by omega), s 15 _ (by omega) (by omega), s 14 _ (by omega) (by omega), s 13 _ (by omega) (by omega), s 12 _ (by omega) (by omega), s 11 _ (by omega) (by omega)]
  have e : cadenceref16_power.l0 11 n (2 * (2 * (2 * (2 * (2 * (2 * (2 * (2 * (2 * 1))))))))) = some false := by
    rw [cadenceref16_power.l0, if_neg (by omega)]
  rw [e]
  simp only [ite_any]
  rfl
theorem pow_table : ((List.range 257).all fun n => powB n 256 == p8 n) = true := by kernel_rfl
theorem pow_table64 : ((List.range 65).all fun n => (decide (4 ≤ (n : Int)) && powB n 64) == (decide ((n : Int) = 4) || decide ((n : Int) = 8) || decide ((n : Int) = 16) || decide ((n : Int) = 32) || decide ((n : Int) = 64))) = true := by kernel_rfl
theorem pow256 (n : Int) : powB n 256 = p8 n := by
  by_cases h1 : 1 ≤ n
  · by_cases h2 : n ≤ 256
    · have h := List.all_eq_true.1 pow_table n.toNat (by rw [List.mem_range]; omega)
      have e : ((n.toNat : Nat) : Int) = n := by omega
      rw [e] at h
      exact beq_iff_eq.1 h
    · unfold powB p8
      rw [decide_eq_false h2]
      have : ∀ k : Int, k ≤ 256 → decide (n = k) = false := fun k hk => decide_eq_false (by omega)
      simp [this]
  · unfold powB p8
    rw [decide_eq_false h1]
    have : ∀ k : Int, 1 ≤ k → decide (n = k) = false := fun k hk => decide_eq_false (by omega)
    simp [this]
theorem pow64 (n : Int) : (decide (4 ≤ n) && powB n 64) = (decide (n = 4) || decide (n = 8) || decide (n = 16) || decide (n = 32) || decide (n = 64)) := by
  by_cases h1 : 4 ≤ n
  · by_cases h2 : n ≤ 64
    · have h := List.all_eq_true.1 pow_table64 n.toNat (by rw [List.mem_range]; omega)
      have e : ((n.toNat : Nat) : Int) = n := by omega
      rw [e] at h
      exact beq_iff_eq.1 h
    · unfold powB
      rw [decide_eq_false h2]
      have : ∀ k : Int, k ≤ 64 → decide (n = k) = false := fun k hk => decide_eq_false (by omega)
      simp [this]
  · rw [decide_eq_false h1]
    have : ∀ k : Int, 4 ≤ k → decide (n = k) = false := fun k hk => decide_eq_false (by omega)
    simp [this]
theorem ref_Decl (p : PR) (s : ByteArray) (hb : p.decls.length ≤ 1048576) : ∀ (K i : Nat), i ≤ p.decls.length → p.decls.length - i < K → (∀ j, j < i → ¬ (rd_T38 p.decls j).f1.toList = s.toList) →
    cadenceref16_Decl.l0 K s i p.name p.width p.line p.decls p.body = some (match findI p.decls s with | some j => (j : Int) | none => -1)
  | 0, _, _, h, _ => absurd h (by omega)
  | K + 1, i, hi, h, hj => by
    rw [cadenceref16_Decl.l0]
    by_cases hlt : i < p.decls.length
    · rw [if_pos (show (i : Int) < (p.decls.length : Int) by omega), if_pos (show (0 : Int) ≤ (i : Int) by omega)]
      by_cases he : (rd_T38 p.decls i).f1.toList = s.toList
      · rw [if_pos he, findI_some hlt hj he]
      · rw [if_neg he]
        have hw : wrap64 ((i : Int) + 1) = ((i + 1 : Nat) : Int) := by unfold wrap64; omega
        rw [hw]
        exact ref_Decl p s hb K (i + 1) (by omega) (by omega) (fun j hj2 => by
          by_cases h3 : j < i
          · exact hj j h3
          · obtain rfl : j = i := by omega
            exact he)
    · rw [if_neg (show ¬ (i : Int) < (p.decls.length : Int) by omega)]
      obtain rfl : i = p.decls.length := by omega
      rw [findI_none hj]
theorem ref_fits (k x : Int) (h0 : 0 ≤ k) (hx : U64 x) : cadenceref16_fits.f k x = some (fitB k x) := by
  unfold cadenceref16_fits.f fitB
  by_cases h : 64 ≤ k
  · rw [if_pos h, decide_eq_true h]; rfl
  · rw [if_neg h, decide_eq_false h]
    have e : IntKind.u64.wrap k = k := by
      have e1 : IntKind.u64.wrap k = k % 18446744073709551616 := rfl
      rw [e1]; omega
    rw [e, if_pos h0]
    have hs : shl .u64 1 k = 2 ^ k.toNat := by
      unfold shl
      have : min k.toNat IntKind.u64.bits = k.toNat := by
        have : IntKind.u64.bits = 64 := rfl
        omega
      rw [this, Int.one_mul]
      have e2 : IntKind.u64.wrap (2 ^ k.toNat) = (2 ^ k.toNat) % 18446744073709551616 := rfl
      rw [e2]
      have hlt : (2 : Int) ^ k.toNat < 18446744073709551616 := by
        have : (2 : Int) ^ k.toNat ≤ 2 ^ 63 := by
          exact_mod_cast Nat.pow_le_pow_right (by omega) (show k.toNat ≤ 63 by omega)
        have e3 : (2 : Int) ^ 63 = 9223372036854775808 := by decide
        omega
      have hpos : (0 : Int) < 2 ^ k.toNat := Int.pow_pos (by omega)
      omega
    rw [hs]
    congr 1
    have hpos : (0 : Int) < 2 ^ k.toNat := Int.pow_pos (by omega)
    obtain ⟨x0, x1⟩ := hx
    simp only [Bool.false_or]
    rw [Bool.eq_iff_iff, decide_eq_true_eq, beq_iff_eq]
    exact ⟨fun hlt => Int.ediv_eq_zero_of_lt x0 hlt, fun hz => by
      refine Classical.byContradiction fun hge => ?_
      have := Int.ediv_le_ediv hpos (show (2 : Int) ^ k.toNat ≤ x by omega)
      rw [Int.ediv_self (by omega), hz] at this
      omega⟩
end Go.Proofs.YtjomofepephodaaGreat.PEquivShapes
namespace Go.Proofs.YtjomofepephodaaGreat.PEquivShapes
open Go.RowKit
open Go.Proofs.YtjomofepephodaaGreatW.PrintWords Go.Proofs.YtjomofepephodaaGreatW.PrintLast Go.Proofs.YtjomofepephodaaGreatW.PrintMore
theorem findI_some' {ds : List S38} {s : ByteArray} {q : Nat} (h : findI ds s = some q) : q < ds.length ∧ (rd_T38 ds q).f1.toList = s.toList ∧ ∀ j, j < q → ¬ (rd_T38 ds j).f1.toList = s.toList := by
  unfold findI at h
  obtain ⟨h1, h2, h3⟩ := List.findIdx?_eq_some_iff_getElem.1 h
  have e : ∀ j (hj : j < ds.length), rd_T38 ds j = ds[j] := fun j hj => by simp [rd_T38, hj]
  refine ⟨h1, by rw [e q h1]; exact of_decide_eq_true h2, fun j hj => ?_⟩
  rw [e j (by omega)]
  have := h3 j hj
  simpa using this
theorem findI_take (ds : List S38) (s : ByteArray) (i : Nat) (hi : i ≤ ds.length) : (findI (ds.take i) s).isSome = true ↔ ∃ j, j < i ∧ (rd_T38 ds j).f1.toList = s.toList := by
  unfold findI
  rw [List.findIdx?_isSome, List.any_eq_true]
  constructor
  · rintro ⟨x, hx, hp⟩
    obtain ⟨j, hj, rfl⟩ := List.getElem_of_mem hx
    rw [List.length_take] at hj
    refine ⟨j, by omega, ?_⟩
    have := of_decide_eq_true hp
    rw [List.getElem_take] at this
    simpa [rd_T38, show j < ds.length by omega] using this
  · rintro ⟨j, hj, hp⟩
    refine ⟨ds[j], ?_, ?_⟩
    · rw [List.mem_take_iff_getElem]
      exact ⟨j, by omega, rfl⟩
    · simpa [rd_T38, show j < ds.length by omega] using hp
theorem anyB_false {bad : Nat → Bool} {n : Nat} : anyB bad n = false ↔ ∀ j, j < n → bad j = false := by
  unfold anyB
  rw [List.any_eq_false]
  constructor
  · intro h j hj
    simpa using h j (by simpa using hj)
  · intro h j hj
    rw [h j (by simpa using hj)]
    simp
theorem form_decl {p : PR} (h : p.formB = true) : 0 ≤ p.width ∧ 0 ≤ p.line ∧ ∀ d, d ∈ p.decls → 0 ≤ d.f2 := by
  unfold PR.formB at h
  simp only [Bool.and_eq_true, decide_eq_true_eq, List.all_eq_true] at h
  refine ⟨h.2.1, h.2.2.1, fun d hd => ?_⟩
  have := h.2.2.2.1 d hd
  unfold S38.formB at this
  simp only [Bool.and_eq_true, decide_eq_true_eq] at this
  exact this.2.2.2.1
end Go.Proofs.YtjomofepephodaaGreat.PEquivShapes
namespace Go.Proofs.YtjomofepephodaaGreat.PEquivShapes
open Go.RowKit
open Go.Proofs.YtjomofepephodaaGreatW.PrintWords Go.Proofs.YtjomofepephodaaGreatW.PrintLast Go.Proofs.YtjomofepephodaaGreatW.PrintMore
theorem clB_head {fb : Bool} {p : PR} : (∀ i, i < 4 → clB fb p i = false) ↔ (fb = true ∧ (decide (p.width = 4) || decide (p.width = 8) || decide (p.width = 16) || decide (p.width = 32) || decide (p.width = 64)) = true ∧ p8 p.line = true ∧ (p.decls.length : Int) ≤ 256) := by
  have e : (∀ i, i < 4 → clB fb p i = false) ↔ (clB fb p 0 = false ∧ clB fb p 1 = false ∧ clB fb p 2 = false ∧ clB fb p 3 = false) := by
    constructor
    · intro h
      exact ⟨h 0 (by omega), h 1 (by omega), h 2 (by omega), h 3 (by omega)⟩
    · rintro ⟨h0, h1, h2, h3⟩ i hi
      have : i = 0 ∨ i = 1 ∨ i = 2 ∨ i = 3 := by omega
      rcases this with rfl | rfl | rfl | rfl <;> assumption
  rw [e]
  simp only [clB]
  rw [pow64, pow256]
  generalize (decide (p.width = 4) || decide (p.width = 8) || decide (p.width = 16) || decide (p.width = 32) || decide (p.width = 64)) = q
  simp
set_option maxHeartbeats 4000000 in
set_option maxRecDepth 100000 in
theorem head_any (p : PR) (A3 : Option Addr) (c3 : Nat) (A4 : Option Addr) (c4 : Nat) (w : World) (hp : p.At w A3 c3 A4 c4) (hfit : p.fits) :
    Calls Tryz.prog 31 #[p.cells A3 c3 A4 c4] w fun x w' => (∃ a c : Int, x = .returned (.tuple #[.int .i64 a, .int .i64 c]) ∧ (c = 0 ↔ ∀ i, i < 4 → clB p.formB p i = false)) ∧ Below w.heap.size w w' := by
  have B := below_alloc (Below.refl w.heap.size w) (.cells #[.string p.name, .int .i64 p.width, .int .i64 p.line, .slice A3 p.decls.length c3, .slice A4 p.body.length c4] 25)
  obtain ⟨W2, hW2⟩ : ∃ W2, w.alloc (.cells #[.string p.name, .int .i64 p.width, .int .i64 p.line, .slice A3 p.decls.length c3, .slice A4 p.body.length c4] 25) = W2 := ⟨_, rfl⟩
  obtain ⟨z0, z1, z2, z3, z4⟩ : W2.cell? ⟨w.heap.size, 0, none⟩ = some (.string p.name) ∧ W2.cell? ⟨w.heap.size, 1, none⟩ = some (.int .i64 p.width) ∧ W2.cell? ⟨w.heap.size, 2, none⟩ = some (.int .i64 p.line) ∧ W2.cell? ⟨w.heap.size, 3, none⟩ = some (.slice A3 p.decls.length c3) ∧ W2.cell? ⟨w.heap.size, 4, none⟩ = some (.slice A4 p.body.length c4) := by rw [← hW2]; simp [go_sem]
  rw [hW2] at B
  have HFo := Aside0.mk (r_form p A3 c3 A4 c4 W2 (At_below hp B))
  have HPo : Aside0 (0 ≤ p.line → ∀ W, Calls Tryz.prog 67 #[.int .u64 (IntKind.u64.wrap p.line)] W fun x w' => x = .returned (.bool (p8 p.line)) ∧ Below W.heap.size W w') := ⟨fun h W => by
    have e : IntKind.u64.wrap p.line = p.line := by
      have e1 : IntKind.u64.wrap p.line = p.line % 18446744073709551616 := rfl
      have := hfit.2.1.2
      rw [e1]; omega
    rw [e]
    exact (cadenceref16_power.calls 20 p.line _ W (ref_power _)).mono fun _ _ h => ⟨h.1, by first | exact h.2 | exact h.2.below⟩⟩
  have hcl := @clB_head p.formB p
  have hln : p.formB = true → 0 ≤ p.line := fun h => (form_decl h).2.1
  have BB := Aside0.mk B
  have HW := Aside0.mk hW2
  clear B hp hfit hW2
  unfold PR.cells at *
  generalize p.formB = fb at *
  generalize (∀ i, i < 4 → clB fb p i = false) = C at *
  generalize p8 p.line = pl at *
  cases fb with
  | false =>
    have HC : Aside0 (¬ C) := ⟨fun h => by cases (hcl.1 h).1⟩
    clear hcl hln HPo
    go_enter Tryz.func31, Tryz.ntmps31
    go_upto_region 1 with (fail)
    try rw [HW.out]
    go_wp2_with (first | (go_at_call 66; refine HFo.out.mono ?_; rintro x' w3 ⟨rfl, hb⟩; replace z0 := kept_cell hb z0; replace z1 := kept_cell hb z1; replace z2 := kept_cell hb z2; replace z3 := kept_cell hb z3; replace z4 := kept_cell hb z4; have B1 := Aside0.mk (below_step BB.out hb); clear hb))
    go_ret2
    exact ⟨⟨_, _, rfl, ⟨fun h => absurd h (by omega), fun h => absurd h HC.out⟩⟩, B1.out⟩
  | true =>
    have HPq := Aside0.mk (HPo.out (hln rfl))
    clear HPo hln
    generalize hwd : p.width = wd at *
    have hw : wd = 4 ∨ wd = 8 ∨ wd = 16 ∨ wd = 32 ∨ wd = 64 ∨ (wd ≠ 4 ∧ wd ≠ 8 ∧ wd ≠ 16 ∧ wd ≠ 32 ∧ wd ≠ 64) := by omega
    rcases hw with rfl | rfl | rfl | rfl | rfl | ⟨n4, n8, n16, n32, n64⟩
    · clear hwd
      cases pl with
      | false =>
        have HC : Aside0 (¬ C) := ⟨fun h => by cases (hcl.1 h).2.2.1⟩
        clear hcl
        go_enter Tryz.func31, Tryz.ntmps31
        go_upto_region 1 with (fail)
        try rw [HW.out]
        go_wp2_with (first | (go_at_call 66; refine HFo.out.mono ?_; rintro x' w3 ⟨rfl, hb⟩; replace z0 := kept_cell hb z0; replace z1 := kept_cell hb z1; replace z2 := kept_cell hb z2; replace z3 := kept_cell hb z3; replace z4 := kept_cell hb z4; have B1 := Aside0.mk (below_step BB.out hb); clear hb) | (go_at_call 67; refine (HPq.out _).mono ?_; rintro x' w4 ⟨rfl, hb⟩; replace z0 := kept_cell hb z0; replace z1 := kept_cell hb z1; replace z2 := kept_cell hb z2; replace z3 := kept_cell hb z3; replace z4 := kept_cell hb z4; have B2 := Aside0.mk (below_step B1.out hb); clear hb))
        go_ret2
        exact ⟨⟨_, _, rfl, ⟨fun h => absurd h (by omega), fun h => absurd h HC.out⟩⟩, B2.out⟩
      | true =>
        by_cases hl : (p.decls.length : Int) ≤ 256
        · have HC : Aside0 C := ⟨hcl.2 ⟨rfl, by simp, rfl, hl⟩⟩
          have l1 : decide ((256 : Int) < (p.decls.length : Int)) = false := decide_eq_false (by omega)
          clear hcl hl
          go_enter Tryz.func31, Tryz.ntmps31
          go_upto_region 1 with (fail)
          try rw [HW.out]
          go_wp2_with (first | (go_at_call 66; refine HFo.out.mono ?_; rintro x' w3 ⟨rfl, hb⟩; replace z0 := kept_cell hb z0; replace z1 := kept_cell hb z1; replace z2 := kept_cell hb z2; replace z3 := kept_cell hb z3; replace z4 := kept_cell hb z4; have B1 := Aside0.mk (below_step BB.out hb); clear hb) | (go_at_call 67; refine (HPq.out _).mono ?_; rintro x' w4 ⟨rfl, hb⟩; replace z0 := kept_cell hb z0; replace z1 := kept_cell hb z1; replace z2 := kept_cell hb z2; replace z3 := kept_cell hb z3; replace z4 := kept_cell hb z4; have B2 := Aside0.mk (below_step B1.out hb); clear hb))
          go_ret2
          exact ⟨⟨_, _, rfl, ⟨fun _ => HC.out, fun _ => rfl⟩⟩, B2.out⟩
        · have HC : Aside0 (¬ C) := ⟨fun h => hl (hcl.1 h).2.2.2⟩
          have l1 : decide ((256 : Int) < (p.decls.length : Int)) = true := decide_eq_true (by omega)
          clear hcl hl
          go_enter Tryz.func31, Tryz.ntmps31
          go_upto_region 1 with (fail)
          try rw [HW.out]
          go_wp2_with (first | (go_at_call 66; refine HFo.out.mono ?_; rintro x' w3 ⟨rfl, hb⟩; replace z0 := kept_cell hb z0; replace z1 := kept_cell hb z1; replace z2 := kept_cell hb z2; replace z3 := kept_cell hb z3; replace z4 := kept_cell hb z4; have B1 := Aside0.mk (below_step BB.out hb); clear hb) | (go_at_call 67; refine (HPq.out _).mono ?_; rintro x' w4 ⟨rfl, hb⟩; replace z0 := kept_cell hb z0; replace z1 := kept_cell hb z1; replace z2 := kept_cell hb z2; replace z3 := kept_cell hb z3; replace z4 := kept_cell hb z4; have B2 := Aside0.mk (below_step B1.out hb); clear hb))
          go_ret2
          exact ⟨⟨_, _, rfl, ⟨fun h => absurd h (by omega), fun h => absurd h HC.out⟩⟩, B2.out⟩
    · clear hwd
      cases pl with
      | false =>
        have HC : Aside0 (¬ C) := ⟨fun h => by cases (hcl.1 h).2.2.1⟩
        clear hcl
        go_enter Tryz.func31, Tryz.ntmps31
        go_upto_region 1 with (fail)
        try rw [HW.out]
        go_wp2_with (first | (go_at_call 66; refine HFo.out.mono ?_; rintro x' w3 ⟨rfl, hb⟩; replace z0 := kept_cell hb z0; replace z1 := kept_cell hb z1; replace z2 := kept_cell hb z2; replace z3 := kept_cell hb z3; replace z4 := kept_cell hb z4; have B1 := Aside0.mk (below_step BB.out hb); clear hb) | (go_at_call 67; refine (HPq.out _).mono ?_; rintro x' w4 ⟨rfl, hb⟩; replace z0 := kept_cell hb z0; replace z1 := kept_cell hb z1; replace z2 := kept_cell hb z2; replace z3 := kept_cell hb z3; replace z4 := kept_cell hb z4; have B2 := Aside0.mk (below_step B1.out hb); clear hb))
        go_ret2
        exact ⟨⟨_, _, rfl, ⟨fun h => absurd h (by omega), fun h => absurd h HC.out⟩⟩, B2.out⟩
      | true =>
        by_cases hl : (p.decls.length : Int) ≤ 256
        · have HC : Aside0 C := ⟨hcl.2 ⟨rfl, by simp, rfl, hl⟩⟩
          have l1 : decide ((256 : Int) < (p.decls.length : Int)) = false := decide_eq_false (by omega)
          clear hcl hl
          go_enter Tryz.func31, Tryz.ntmps31
          go_upto_region 1 with (fail)
          try rw [HW.out]
          go_wp2_with (first | (go_at_call 66; refine HFo.out.mono ?_; rintro x' w3 ⟨rfl, hb⟩; replace z0 := kept_cell hb z0; replace z1 := kept_cell hb z1; replace z2 := kept_cell hb z2; replace z3 := kept_cell hb z3; replace z4 := kept_cell hb z4; have B1 := Aside0.mk (below_step BB.out hb); clear hb) | (go_at_call 67; refine (HPq.out _).mono ?_; rintro x' w4 ⟨rfl, hb⟩; replace z0 := kept_cell hb z0; replace z1 := kept_cell hb z1; replace z2 := kept_cell hb z2; replace z3 := kept_cell hb z3; replace z4 := kept_cell hb z4; have B2 := Aside0.mk (below_step B1.out hb); clear hb))
          go_ret2
          exact ⟨⟨_, _, rfl, ⟨fun _ => HC.out, fun _ => rfl⟩⟩, B2.out⟩
        · have HC : Aside0 (¬ C) := ⟨fun h => hl (hcl.1 h).2.2.2⟩
          have l1 : decide ((256 : Int) < (p.decls.length : Int)) = true := decide_eq_true (by omega)
          clear hcl hl
          go_enter Tryz.func31, Tryz.ntmps31
          go_upto_region 1 with (fail)
          try rw [HW.out]
          go_wp2_with (first | (go_at_call 66; refine HFo.out.mono ?_; rintro x' w3 ⟨rfl, hb⟩; replace z0 := kept_cell hb z0; replace z1 := kept_cell hb z1; replace z2 := kept_cell hb z2; replace z3 := kept_cell hb z3; replace z4 := kept_cell hb z4; have B1 := Aside0.mk (below_step BB.out hb); clear hb) | (go_at_call 67; refine (HPq.out _).mono ?_; rintro x' w4 ⟨rfl, hb⟩; replace z0 := kept_cell hb z0; replace z1 := kept_cell hb z1; replace z2 := kept_cell hb z2; replace z3 := kept_cell hb z3; replace z4 := kept_cell hb z4; have B2 := Aside0.mk (below_step B1.out hb); clear hb))
          go_ret2
          exact ⟨⟨_, _, rfl, ⟨fun h => absurd h (by omega), fun h => absurd h HC.out⟩⟩, B2.out⟩
    · clear hwd
      cases pl with
      | false =>
        have HC : Aside0 (¬ C) := ⟨fun h => by cases (hcl.1 h).2.2.1⟩
        clear hcl
        go_enter Tryz.func31, Tryz.ntmps31
        go_upto_region 1 with (fail)
        try rw [HW.out]
        go_wp2_with (first | (go_at_call 66; refine HFo.out.mono ?_; rintro x' w3 ⟨rfl, hb⟩; replace z0 := kept_cell hb z0; replace z1 := kept_cell hb z1; replace z2 := kept_cell hb z2; replace z3 := kept_cell hb z3; replace z4 := kept_cell hb z4; have B1 := Aside0.mk (below_step BB.out hb); clear hb) | (go_at_call 67; refine (HPq.out _).mono ?_; rintro x' w4 ⟨rfl, hb⟩; replace z0 := kept_cell hb z0; replace z1 := kept_cell hb z1; replace z2 := kept_cell hb z2; replace z3 := kept_cell hb z3; replace z4 := kept_cell hb z4; have B2 := Aside0.mk (below_step B1.out hb); clear hb))
        go_ret2
        exact ⟨⟨_, _, rfl, ⟨fun h => absurd h (by omega), fun h => absurd h HC.out⟩⟩, B2.out⟩
      | true =>
        by_cases hl : (p.decls.length : Int) ≤ 256
        · have HC : Aside0 C := ⟨hcl.2 ⟨rfl, by simp, rfl, hl⟩⟩
          have l1 : decide ((256 : Int) < (p.decls.length : Int)) = false := decide_eq_false (by omega)
          clear hcl hl
          go_enter Tryz.func31, Tryz.ntmps31
          go_upto_region 1 with (fail)
          try rw [HW.out]
          go_wp2_with (first | (go_at_call 66; refine HFo.out.mono ?_; rintro x' w3 ⟨rfl, hb⟩; replace z0 := kept_cell hb z0; replace z1 := kept_cell hb z1; replace z2 := kept_cell hb z2; replace z3 := kept_cell hb z3; replace z4 := kept_cell hb z4; have B1 := Aside0.mk (below_step BB.out hb); clear hb) | (go_at_call 67; refine (HPq.out _).mono ?_; rintro x' w4 ⟨rfl, hb⟩; replace z0 := kept_cell hb z0; replace z1 := kept_cell hb z1; replace z2 := kept_cell hb z2; replace z3 := kept_cell hb z3; replace z4 := kept_cell hb z4; have B2 := Aside0.mk (below_step B1.out hb); clear hb))
          go_ret2
          exact ⟨⟨_, _, rfl, ⟨fun _ => HC.out, fun _ => rfl⟩⟩, B2.out⟩
        · have HC : Aside0 (¬ C) := ⟨fun h => hl (hcl.1 h).2.2.2⟩
          have l1 : decide ((256 : Int) < (p.decls.length : Int)) = true := decide_eq_true (by omega)
          clear hcl hl
          go_enter Tryz.func31, Tryz.ntmps31
          go_upto_region 1 with (fail)
          try rw [HW.out]
          go_wp2_with (first | (go_at_call 66; refine HFo.out.mono ?_; rintro x' w3 ⟨rfl, hb⟩; replace z0 := kept_cell hb z0; replace z1 := kept_cell hb z1; replace z2 := kept_cell hb z2; replace z3 := kept_cell hb z3; replace z4 := kept_cell hb z4; have B1 := Aside0.mk (below_step BB.out hb); clear hb) | (go_at_call 67; refine (HPq.out _).mono ?_; rintro x' w4 ⟨rfl, hb⟩; replace z0 := kept_cell hb z0; replace z1 := kept_cell hb z1; replace z2 := kept_cell hb z2; replace z3 := kept_cell hb z3; replace z4 := kept_cell hb z4; have B2 := Aside0.mk (below_step B1.out hb); clear hb))
          go_ret2
          exact ⟨⟨_, _, rfl, ⟨fun h => absurd h (by omega), fun h => absurd h HC.out⟩⟩, B2.out⟩
    · clear hwd
      cases pl with
      | false =>
        have HC : Aside0 (¬ C) := ⟨fun h => by cases (hcl.1 h).2.2.1⟩
        clear hcl
        go_enter Tryz.func31, Tryz.ntmps31
        go_upto_region 1 with (fail)
        try rw [HW.out]
        go_wp2_with (first | (go_at_call 66; refine HFo.out.mono ?_; rintro x' w3 ⟨rfl, hb⟩; replace z0 := kept_cell hb z0; replace z1 := kept_cell hb z1; replace z2 := kept_cell hb z2; replace z3 := kept_cell hb z3; replace z4 := kept_cell hb z4; have B1 := Aside0.mk (below_step BB.out hb); clear hb) | (go_at_call 67; refine (HPq.out _).mono ?_; rintro x' w4 ⟨rfl, hb⟩; replace z0 := kept_cell hb z0; replace z1 := kept_cell hb z1; replace z2 := kept_cell hb z2; replace z3 := kept_cell hb z3; replace z4 := kept_cell hb z4; have B2 := Aside0.mk (below_step B1.out hb); clear hb))
        go_ret2
        exact ⟨⟨_, _, rfl, ⟨fun h => absurd h (by omega), fun h => absurd h HC.out⟩⟩, B2.out⟩
      | true =>
        by_cases hl : (p.decls.length : Int) ≤ 256
        · have HC : Aside0 C := ⟨hcl.2 ⟨rfl, by simp, rfl, hl⟩⟩
          have l1 : decide ((256 : Int) < (p.decls.length : Int)) = false := decide_eq_false (by omega)
          clear hcl hl
          go_enter Tryz.func31, Tryz.ntmps31
          go_upto_region 1 with (fail)
          try rw [HW.out]
          go_wp2_with (first | (go_at_call 66; refine HFo.out.mono ?_; rintro x' w3 ⟨rfl, hb⟩; replace z0 := kept_cell hb z0; replace z1 := kept_cell hb z1; replace z2 := kept_cell hb z2; replace z3 := kept_cell hb z3; replace z4 := kept_cell hb z4; have B1 := Aside0.mk (below_step BB.out hb); clear hb) | (go_at_call 67; refine (HPq.out _).mono ?_; rintro x' w4 ⟨rfl, hb⟩; replace z0 := kept_cell hb z0; replace z1 := kept_cell hb z1; replace z2 := kept_cell hb z2; replace z3 := kept_cell hb z3; replace z4 := kept_cell hb z4; have B2 := Aside0.mk (below_step B1.out hb); clear hb))
          go_ret2
          exact ⟨⟨_, _, rfl, ⟨fun _ => HC.out, fun _ => rfl⟩⟩, B2.out⟩
        · have HC : Aside0 (¬ C) := ⟨fun h => hl (hcl.1 h).2.2.2⟩
          have l1 : decide ((256 : Int) < (p.decls.length : Int)) = true := decide_eq_true (by omega)
          clear hcl hl
          go_enter Tryz.func31, Tryz.ntmps31
          go_upto_region 1 with (fail)
          try rw [HW.out]
          go_wp2_with (first | (go_at_call 66; refine HFo.out.mono ?_; rintro x' w3 ⟨rfl, hb⟩; replace z0 := kept_cell hb z0; replace z1 := kept_cell hb z1; replace z2 := kept_cell hb z2; replace z3 := kept_cell hb z3; replace z4 := kept_cell hb z4; have B1 := Aside0.mk (below_step BB.out hb); clear hb) | (go_at_call 67; refine (HPq.out _).mono ?_; rintro x' w4 ⟨rfl, hb⟩; replace z0 := kept_cell hb z0; replace z1 := kept_cell hb z1; replace z2 := kept_cell hb z2; replace z3 := kept_cell hb z3; replace z4 := kept_cell hb z4; have B2 := Aside0.mk (below_step B1.out hb); clear hb))
          go_ret2
          exact ⟨⟨_, _, rfl, ⟨fun h => absurd h (by omega), fun h => absurd h HC.out⟩⟩, B2.out⟩
    · clear hwd
      cases pl with
      | false =>
        have HC : Aside0 (¬ C) := ⟨fun h => by cases (hcl.1 h).2.2.1⟩
        clear hcl
        go_enter Tryz.func31, Tryz.ntmps31
        go_upto_region 1 with (fail)
        try rw [HW.out]
        go_wp2_with (first | (go_at_call 66; refine HFo.out.mono ?_; rintro x' w3 ⟨rfl, hb⟩; replace z0 := kept_cell hb z0; replace z1 := kept_cell hb z1; replace z2 := kept_cell hb z2; replace z3 := kept_cell hb z3; replace z4 := kept_cell hb z4; have B1 := Aside0.mk (below_step BB.out hb); clear hb) | (go_at_call 67; refine (HPq.out _).mono ?_; rintro x' w4 ⟨rfl, hb⟩; replace z0 := kept_cell hb z0; replace z1 := kept_cell hb z1; replace z2 := kept_cell hb z2; replace z3 := kept_cell hb z3; replace z4 := kept_cell hb z4; have B2 := Aside0.mk (below_step B1.out hb); clear hb))
        go_ret2
        exact ⟨⟨_, _, rfl, ⟨fun h => absurd h (by omega), fun h => absurd h HC.out⟩⟩, B2.out⟩
      | true =>
        by_cases hl : (p.decls.length : Int) ≤ 256
        · have HC : Aside0 C := ⟨hcl.2 ⟨rfl, by simp, rfl, hl⟩⟩
          have l1 : decide ((256 : Int) < (p.decls.length : Int)) = false := decide_eq_false (by omega)
          clear hcl hl
          go_enter Tryz.func31, Tryz.ntmps31
          go_upto_region 1 with (fail)
          try rw [HW.out]
          go_wp2_with (first | (go_at_call 66; refine HFo.out.mono ?_; rintro x' w3 ⟨rfl, hb⟩; replace z0 := kept_cell hb z0; replace z1 := kept_cell hb z1; replace z2 := kept_cell hb z2; replace z3 := kept_cell hb z3; replace z4 := kept_cell hb z4; have B1 := Aside0.mk (below_step BB.out hb); clear hb) | (go_at_call 67; refine (HPq.out _).mono ?_; rintro x' w4 ⟨rfl, hb⟩; replace z0 := kept_cell hb z0; replace z1 := kept_cell hb z1; replace z2 := kept_cell hb z2; replace z3 := kept_cell hb z3; replace z4 := kept_cell hb z4; have B2 := Aside0.mk (below_step B1.out hb); clear hb))
          go_ret2
          exact ⟨⟨_, _, rfl, ⟨fun _ => HC.out, fun _ => rfl⟩⟩, B2.out⟩
        · have HC : Aside0 (¬ C) := ⟨fun h => hl (hcl.1 h).2.2.2⟩
          have l1 : decide ((256 : Int) < (p.decls.length : Int)) = true := decide_eq_true (by omega)
          clear hcl hl
          go_enter Tryz.func31, Tryz.ntmps31
          go_upto_region 1 with (fail)
          try rw [HW.out]
          go_wp2_with (first | (go_at_call 66; refine HFo.out.mono ?_; rintro x' w3 ⟨rfl, hb⟩; replace z0 := kept_cell hb z0; replace z1 := kept_cell hb z1; replace z2 := kept_cell hb z2; replace z3 := kept_cell hb z3; replace z4 := kept_cell hb z4; have B1 := Aside0.mk (below_step BB.out hb); clear hb) | (go_at_call 67; refine (HPq.out _).mono ?_; rintro x' w4 ⟨rfl, hb⟩; replace z0 := kept_cell hb z0; replace z1 := kept_cell hb z1; replace z2 := kept_cell hb z2; replace z3 := kept_cell hb z3; replace z4 := kept_cell hb z4; have B2 := Aside0.mk (below_step B1.out hb); clear hb))
          go_ret2
          exact ⟨⟨_, _, rfl, ⟨fun h => absurd h (by omega), fun h => absurd h HC.out⟩⟩, B2.out⟩
    · have HC : Aside0 (¬ C) := ⟨fun h => by
        have := (hcl.1 h).2.1
        simp [n4, n8, n16, n32, n64] at this⟩
      have e4 : (wd != 4) = true := bne_iff_ne.mpr n4
      have e8 : (wd != 8) = true := bne_iff_ne.mpr n8
      have e16 : (wd != 16) = true := bne_iff_ne.mpr n16
      have e32 : (wd != 32) = true := bne_iff_ne.mpr n32
      have e64 : (wd != 64) = true := bne_iff_ne.mpr n64
      have f4 : (wd == 4) = false := beq_eq_false_iff_ne.mpr n4
      have f8 : (wd == 8) = false := beq_eq_false_iff_ne.mpr n8
      have f16 : (wd == 16) = false := beq_eq_false_iff_ne.mpr n16
      have f32 : (wd == 32) = false := beq_eq_false_iff_ne.mpr n32
      have f64 : (wd == 64) = false := beq_eq_false_iff_ne.mpr n64
      clear hcl hwd n4 n8 n16 n32 n64
      go_enter Tryz.func31, Tryz.ntmps31
      go_upto_region 1 with (fail)
      try rw [HW.out]
      go_wp2_with (first | (go_at_call 66; refine HFo.out.mono ?_; rintro x' w3 ⟨rfl, hb⟩; replace z0 := kept_cell hb z0; replace z1 := kept_cell hb z1; replace z2 := kept_cell hb z2; replace z3 := kept_cell hb z3; replace z4 := kept_cell hb z4; have B1 := Aside0.mk (below_step BB.out hb); clear hb))
      go_ret2
      exact ⟨⟨_, _, rfl, ⟨fun h => absurd h (by omega), fun h => absurd h HC.out⟩⟩, B1.out⟩
end Go.Proofs.YtjomofepephodaaGreat.PEquivShapes
