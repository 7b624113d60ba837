/-
  The form of expressions, in package lang. Conditions: what each theorem names.
-/
import Derived.BigQuiet
import Derived.Deep.QuietTactic
import Derived.Test.YtjomofepephodaaGreatGb
import Derived.Test.YtjomofepephodaaGreatGj
set_option linter.unusedVariables false
set_option linter.unusedSimpArgs false
namespace Go.Proofs.YtjomofepephodaaGreat.PEquivShapes
open Go.RowKit
open Go.Proofs.YtjomofepephodaaGreatW.PrintWords Go.Proofs.YtjomofepephodaaGreatW.PrintLast Go.Proofs.YtjomofepephodaaGreatW.PrintMore
theorem parts_quiet (k : Int) (w : World) : Calls Tryz.prog 110 #[.int .i64 k] w fun e w' => e = .returned (.int .i64 (partsF k)) ∧ ∃ m, w' = w.drewN m :=
 (lang_parts.calls 9 k _ w (lang_parts_eq k)).mono fun _ _ h => ⟨h.1, h.2.out⟩
/-- a temporary that was not laid yields no Bool -/
theorem yielded_undef : yielded.match_1 (fun _ => Option Bool) (some undef) (fun b => some b) (fun _ => none) = none := rfl
/-- does a kind take a name? -/
def hasN (k : Int) : Bool := decide (k = 2) || decide (k = 3)
mutual
/-- is an expression of the form? -/
def S50.formB : S50 → Bool
 | ⟨k, n, s, l⟩ => decide (partsF k = (l.length : Int)) && ((hasN k == !decide (s.toList = [])) && ((!hasN k || nameB s) && ((decide (k = 1) || decide (n = 0)) && S50.formsB l)))
def S50.formsB : List S50 → Bool
 | [] => true
 | x :: r => x.formB && S50.formsB r
end
theorem S50.formB_eq (e : S50) : e.formB = (decide (partsF e.f0 = (e.f3.length : Int)) && ((hasN e.f0 == !decide (e.f2.toList = [])) && ((!hasN e.f0 || nameB e.f2) && ((decide (e.f0 = 1) || decide (e.f1 = 0)) && S50.formsB e.f3)))) := by
 obtain ⟨k, n, s, l⟩ := e
 rw [S50.formB]
theorem S50.formsB_eq (l : List S50) : S50.formsB l = l.all S50.formB := by
 induction l with
 | nil => rfl
 | cons x l ih => rw [S50.formsB, ih]; rfl
theorem S50.formsB_false {l : List S50} {i : Nat} (h : i < l.length) (hb : (rd_T50 l i).formB = false) : S50.formsB l = false := by
 have hd : rd_T50 l i = l[i] := by simp [rd_T50, h]
 rw [hd] at hb
 rw [S50.formsB_eq, List.all_eq_false]
 exact ⟨l[i], List.getElem_mem h, by simp [hb]⟩
theorem S50.formsB_true {l : List S50} (h : ∀ j, j < l.length → (rd_T50 l j).formB = true) : S50.formsB l = true := by
 rw [S50.formsB_eq, List.all_eq_true]
 intro x hx
 obtain ⟨j, hj, rfl⟩ := List.getElem_of_mem hx
 have := h j hj
 simpa [rd_T50, hj] using this
theorem form_step {l : List S50} {i : Nat} (h : ∀ j, j < i → (rd_T50 l j).formB = true) (h1 : (rd_T50 l i).formB = true) : ∀ j, j < i + 1 → (rd_T50 l j).formB = true := fun j hj => by
 by_cases hj2 : j < i
 ·exact h j hj2
 ·obtain rfl : j = i := by omega
  exact h1
attribute [local go_sem] yielded_undef
set_option maxHeartbeats 8000000 in
set_option maxRecDepth 100000 in
theorem lexpr_any (M : Nat) : ∀ (e : S50) (A : Option Addr) (c : Nat) (w : World), e.bulk ≤ M → k50.C w A e.f3.length e.f3 → e.f3.length ≤ c →
  Calls Tryz.prog 103 #[e.val A c] w fun x w' => x = .returned (.bool e.formB) ∧ Below w.heap.size w w' := by
 induction M with
 | zero =>
  intro e A c w hN
  obtain ⟨k, n, s, l⟩ := e
  simp [S50.bulk] at hN
 | succ M ih =>
  intro e A c w hN h3 hc
  have hu := Tryz.underlying48
  have HLL : Aside0 ((e.f3.length : Int) ≤ 9223372036854775807) := ⟨by have := h3.2.1; omega⟩
  have HKid : Aside0 (∀ i, i < e.f3.length → ∀ wr, Below w.heap.size w wr → ∃ q A1 c1, wr.cell? (q.add (i * 4)) = some (.int .i64 (rd_T50 e.f3 i).f0) ∧ wr.cell? ⟨(q.add (i * 4)).block, (q.add (i * 4)).off + 1, none⟩ = some (.int .u64 (rd_T50 e.f3 i).f1) ∧ wr.cell? ⟨(q.add (i * 4)).block, (q.add (i * 4)).off + 2, none⟩ = some (.string (rd_T50 e.f3 i).f2) ∧ wr.cell? ⟨(q.add (i * 4)).block, (q.add (i * 4)).off + 3, none⟩ = some (.slice A1 (rd_T50 e.f3 i).f3.length c1) ∧ A = some q ∧ ∀ W, Below wr.heap.size wr W → Calls Tryz.prog 103 #[.agg #[.int .i64 (rd_T50 e.f3 i).f0, .int .u64 (rd_T50 e.f3 i).f1, .string (rd_T50 e.f3 i).f2, .slice A1 (rd_T50 e.f3 i).f3.length c1]] W fun x w' => x = .returned (.bool (rd_T50 e.f3 i).formB) ∧ Below W.heap.size W w') := ⟨fun i hi wr hb => by
   obtain ⟨ad, A1, c1, rfl, x0, x1, x2, x3, hc1, hkk⟩ := at_T50 h3 (i : Int) (by omega) (by omega)
   have hbk := S50.bulk_kid hi
   simp only [Int.toNat_natCast] at x0 x1 x2 x3
   exact ⟨ad, A1, c1, kept_cell hb x0, kept_cell hb x1, kept_cell hb x2, kept_cell hb x3, rfl, fun W hW => ih _ A1 c1 W (by omega) (Kd.C_below hkk (below_step hb hW)) hc1⟩⟩
  have HPa : Aside0 (∀ W, Calls Tryz.prog 110 #[.int .i64 e.f0] W fun x w' => x = .returned (.int .i64 (partsF e.f0)) ∧ Below W.heap.size W w') := ⟨parts_any e.f0⟩
  have HPq : Aside0 (∀ W, Calls Tryz.prog 110 #[.int .i64 e.f0] W fun x w' => x = .returned (.int .i64 (partsF e.f0)) ∧ ∃ m, w' = W.drewN m) := ⟨parts_quiet e.f0⟩
  have HNa : Aside0 (∀ W, Calls Tryz.prog 78 #[.string e.f2] W fun x w' => x = .returned (.bool (nameB e.f2)) ∧ Below W.heap.size W w') := ⟨named_any e.f2⟩
  unfold S50.val
  have hform := S50.formB_eq e
  clear ih hN h3
  generalize e.formB = fm at *
  generalize partsF e.f0 = pk at *
  generalize nameB e.f2 = nb at *
  generalize hfs : S50.formsB e.f3 = fs at *
  by_cases hp : pk = (e.f3.length : Int)
  ·have p1 : (pk == (e.f3.length : Int)) = true := beq_iff_eq.mpr hp
   have p2 : (pk != (e.f3.length : Int)) = false := bne_eq_false_iff_eq.mpr hp
   have p3 : ((e.f3.length : Int) == pk) = true := beq_iff_eq.mpr hp.symm
   have p4 : ((e.f3.length : Int) != pk) = false := bne_eq_false_iff_eq.mpr hp.symm
   rw [decide_eq_true hp] at hform
   clear hp
   by_cases hs : e.f2.toList = []
   ·have s1 : (e.f2.toList == []) = true := beq_iff_eq.mpr hs
    have s2 : (e.f2.toList != []) = false := bne_eq_false_iff_eq.mpr hs
    rw [decide_eq_true hs] at hform
    clear hs
    generalize e.f0 = k at *
    by_cases k2 : k = 2
    ·subst k2
     obtain rfl : fm = false := by rw [hform]; simp [hasN]
     clear hfs
     clear hform
     obtain ⟨W2, hW2⟩ : ∃ W2, w.alloc (.cells #[.int .i64 2, .int .u64 e.f1, .string e.f2, .slice A e.f3.length c] 50) = W2 := ⟨_, rfl⟩
     have BB : Aside0 (Below w.heap.size w W2) := ⟨by rw [← hW2]; exact below_alloc (Below.refl _ _) _⟩
     obtain ⟨z0, z1, z2, z3⟩ : W2.cell? ⟨w.heap.size, 0, none⟩ = some (.int .i64 2) ∧ W2.cell? ⟨w.heap.size, 1, none⟩ = some (.int .u64 e.f1) ∧ W2.cell? ⟨w.heap.size, 2, none⟩ = some (.string e.f2) ∧ W2.cell? ⟨w.heap.size, 3, none⟩ = some (.slice A e.f3.length c) := by rw [← hW2]; simp [go_sem]
     go_enter Tryz.func103, Tryz.ntmps103
     go_upto_region 1 with (fail)
     try rw [hW2]
     clear hW2
     go_upto_region 2 with (fail)
     go_quiet ((go_at_call 110; refine Calls.quiet_of (HPq.out _)))
     have B5 := BB
     go_wp2_with fail
     go_ret
     exact ⟨rfl, by first | exact B5.out | exact pw_below_drewN B5.out _ | ((repeat (first | (with_reducible first | exact B5.out | apply below_alloc | apply pw_below_drewN | apply below_drew1) | exact B5.out)); done)⟩
    ·have a2 : (k == 2) = false := beq_eq_false_iff_ne.mpr k2
     by_cases k3 : k = 3
     ·subst k3
      clear k2
      obtain rfl : fm = false := by rw [hform]; simp [hasN]
      clear hfs
      clear hform
      obtain ⟨W2, hW2⟩ : ∃ W2, w.alloc (.cells #[.int .i64 3, .int .u64 e.f1, .string e.f2, .slice A e.f3.length c] 50) = W2 := ⟨_, rfl⟩
      have BB : Aside0 (Below w.heap.size w W2) := ⟨by rw [← hW2]; exact below_alloc (Below.refl _ _) _⟩
      obtain ⟨z0, z1, z2, z3⟩ : W2.cell? ⟨w.heap.size, 0, none⟩ = some (.int .i64 3) ∧ W2.cell? ⟨w.heap.size, 1, none⟩ = some (.int .u64 e.f1) ∧ W2.cell? ⟨w.heap.size, 2, none⟩ = some (.string e.f2) ∧ W2.cell? ⟨w.heap.size, 3, none⟩ = some (.slice A e.f3.length c) := by rw [← hW2]; simp [go_sem]
      go_enter Tryz.func103, Tryz.ntmps103
      go_upto_region 1 with (fail)
      try rw [hW2]
      clear hW2
      go_upto_region 2 with (fail)
      go_quiet ((go_at_call 110; refine Calls.quiet_of (HPq.out _)))
      have B5 := BB
      go_wp2_with fail
      go_ret
      exact ⟨rfl, by first | exact B5.out | exact pw_below_drewN B5.out _ | ((repeat (first | (with_reducible first | exact B5.out | apply below_alloc | apply pw_below_drewN | apply below_drew1) | exact B5.out)); done)⟩
     ·have a3 : (k == 3) = false := beq_eq_false_iff_ne.mpr k3
      by_cases k1 : k = 1
      ·subst k1
       clear k2 k3
       obtain rfl : fm = fs := by rw [hform]; simp [hasN]
       subst hfs
       clear hform
       obtain ⟨W2, hW2⟩ : ∃ W2, w.alloc (.cells #[.int .i64 1, .int .u64 e.f1, .string e.f2, .slice A e.f3.length c] 50) = W2 := ⟨_, rfl⟩
       have BB : Aside0 (Below w.heap.size w W2) := ⟨by rw [← hW2]; exact below_alloc (Below.refl _ _) _⟩
       obtain ⟨z0, z1, z2, z3⟩ : W2.cell? ⟨w.heap.size, 0, none⟩ = some (.int .i64 1) ∧ W2.cell? ⟨w.heap.size, 1, none⟩ = some (.int .u64 e.f1) ∧ W2.cell? ⟨w.heap.size, 2, none⟩ = some (.string e.f2) ∧ W2.cell? ⟨w.heap.size, 3, none⟩ = some (.slice A e.f3.length c) := by rw [← hW2]; simp [go_sem]
       go_enter Tryz.func103, Tryz.ntmps103
       go_upto_region 1 with (fail)
       try rw [hW2]
       clear hW2
       go_upto_region 2 with (fail)
       go_quiet ((go_at_call 110; refine Calls.quiet_of (HPq.out _)))
       have B5 := BB
       have y0 := z0
       have y1 := z1
       have y2 := z2
       have y3 := z3
       clear z0 z1 z2 z3
       have hll : (e.f3.length : Int) ≤ 9223372036854775807 := HLL.out
       go_wp2_with fail
       go_loopg [50] (e.f3.length) (fun m v wr => ∃ i : Nat, v = .int .i64 i ∧ m = e.f3.length - i ∧ i ≤ e.f3.length ∧ (∀ j, j < i → (rd_T50 e.f3 j).formB = true) ∧ Below W2.heap.size W2 wr)
       case atStart => exact ⟨0, rfl, by omega, by omega, fun j h => absurd h (by omega), by first | exact Below.refl _ _ | exact pw_below_drewN (Below.refl _ _) _⟩
       case round =>
        obtain ⟨i, rfl, rfl, hi, hok, R⟩ := hrel
        have HOK := Aside0.mk hok
        replace y0 := kept_cell R y0
        replace y1 := kept_cell R y1
        replace y2 := kept_cell R y2
        replace y3 := kept_cell R y3
        clear hok
        by_cases hlt : i < e.f3.length
        ·obtain ⟨q, A1, c1, x0, x1, x2, x3, hq, HC⟩ := HKid.out i hlt wr (below_step B5.out R)
         subst hq
         have hlt' : (i : Int) < (e.f3.length : Int) := by omega
         have HF := Aside0.mk (S50.formsB_false hlt)
         obtain ⟨d, hd⟩ : ∃ d, rd_T50 e.f3 i = d := ⟨_, rfl⟩
         rw [hd] at x0 x1 x2 x3 HC HF
         have HDD := Aside0.mk hd
         clear hd
         have RR := Aside0.mk R
         have HCr := Aside0.mk (HC (wr.alloc (.cells #[.int .i64 d.f0, .int .u64 d.f1, .string d.f2, .slice A1 d.f3.length c1] 50)) (below_alloc (Below.refl _ _) _))
         clear R HC
         cases hv : d.formB with
         | false =>
          rw [hv] at HCr
          have HV := Aside0.mk (HF.out hv)
          clear hv HF
          go_wp2_with (go_at_call 103; refine HCr.out.mono ?_; rintro x' w6 ⟨rfl, hb⟩)
          go_ret
          exact ⟨by rw [HV.out]; rfl, below_step (below_alloc (below_step B5.out RR.out) _) hb⟩
         | true =>
          rw [hv] at HCr
          have HD : Aside0 ((rd_T50 e.f3 i).formB = true) := ⟨by rw [HDD.out]; exact hv⟩
          clear hv
          go_wp2_with (go_at_call 103; refine HCr.out.mono ?_; rintro x' w6 ⟨rfl, hb⟩)
          go_roundg (e.f3.length - (i + 1))
          case measure => omega
          case rel => exact ⟨i + 1, by simp, rfl, by omega, form_step HOK.out HD.out, below_step (below_alloc RR.out _) hb⟩
        ·have hlt' : ¬ ((i : Int) < (e.f3.length : Int)) := by omega
         have hie : i = e.f3.length := by omega
         subst hie
         have RR := Aside0.mk R
         clear R
         go_wp2_with fail
         go_ret
         exact ⟨by rw [S50.formsB_true HOK.out]; rfl, below_step B5.out RR.out⟩
      ·have a1 : (k == 1) = false := beq_eq_false_iff_ne.mpr k1
       have a1' : (k != 1) = true := bne_iff_ne.mpr k1
       rw [show hasN k = false from by unfold hasN; simp [k2, k3]] at hform
       have hk1 : decide (k = 1) = false := decide_eq_false k1
       clear k1 k2 k3
       generalize e.f1 = n at *
       by_cases n0 : n = 0
       ·subst n0
        obtain rfl : fm = fs := by rw [hform]; simp [hk1]
        subst hfs
        clear hform
        obtain ⟨W2, hW2⟩ : ∃ W2, w.alloc (.cells #[.int .i64 k, .int .u64 0, .string e.f2, .slice A e.f3.length c] 50) = W2 := ⟨_, rfl⟩
        have BB : Aside0 (Below w.heap.size w W2) := ⟨by rw [← hW2]; exact below_alloc (Below.refl _ _) _⟩
        obtain ⟨z0, z1, z2, z3⟩ : W2.cell? ⟨w.heap.size, 0, none⟩ = some (.int .i64 k) ∧ W2.cell? ⟨w.heap.size, 1, none⟩ = some (.int .u64 0) ∧ W2.cell? ⟨w.heap.size, 2, none⟩ = some (.string e.f2) ∧ W2.cell? ⟨w.heap.size, 3, none⟩ = some (.slice A e.f3.length c) := by rw [← hW2]; simp [go_sem]
        go_enter Tryz.func103, Tryz.ntmps103
        go_upto_region 1 with (fail)
        try rw [hW2]
        clear hW2
        go_upto_region 2 with (fail)
        go_quiet ((go_at_call 110; refine Calls.quiet_of (HPq.out _)))
        have B5 := BB
        have y0 := z0
        have y1 := z1
        have y2 := z2
        have y3 := z3
        clear z0 z1 z2 z3
        have hll : (e.f3.length : Int) ≤ 9223372036854775807 := HLL.out
        go_wp2_with fail
        go_loopg [50] (e.f3.length) (fun m v wr => ∃ i : Nat, v = .int .i64 i ∧ m = e.f3.length - i ∧ i ≤ e.f3.length ∧ (∀ j, j < i → (rd_T50 e.f3 j).formB = true) ∧ Below W2.heap.size W2 wr)
        case atStart => exact ⟨0, rfl, by omega, by omega, fun j h => absurd h (by omega), by first | exact Below.refl _ _ | exact pw_below_drewN (Below.refl _ _) _⟩
        case round =>
         obtain ⟨i, rfl, rfl, hi, hok, R⟩ := hrel
         have HOK := Aside0.mk hok
         replace y0 := kept_cell R y0
         replace y1 := kept_cell R y1
         replace y2 := kept_cell R y2
         replace y3 := kept_cell R y3
         clear hok
         by_cases hlt : i < e.f3.length
         ·obtain ⟨q, A1, c1, x0, x1, x2, x3, hq, HC⟩ := HKid.out i hlt wr (below_step B5.out R)
          subst hq
          have hlt' : (i : Int) < (e.f3.length : Int) := by omega
          have HF := Aside0.mk (S50.formsB_false hlt)
          obtain ⟨d, hd⟩ : ∃ d, rd_T50 e.f3 i = d := ⟨_, rfl⟩
          rw [hd] at x0 x1 x2 x3 HC HF
          have HDD := Aside0.mk hd
          clear hd
          have RR := Aside0.mk R
          have HCr := Aside0.mk (HC (wr.alloc (.cells #[.int .i64 d.f0, .int .u64 d.f1, .string d.f2, .slice A1 d.f3.length c1] 50)) (below_alloc (Below.refl _ _) _))
          clear R HC
          cases hv : d.formB with
          | false =>
           rw [hv] at HCr
           have HV := Aside0.mk (HF.out hv)
           clear hv HF
           go_wp2_with (go_at_call 103; refine HCr.out.mono ?_; rintro x' w6 ⟨rfl, hb⟩)
           go_ret
           exact ⟨by rw [HV.out]; rfl, below_step (below_alloc (below_step B5.out RR.out) _) hb⟩
          | true =>
           rw [hv] at HCr
           have HD : Aside0 ((rd_T50 e.f3 i).formB = true) := ⟨by rw [HDD.out]; exact hv⟩
           clear hv
           go_wp2_with (go_at_call 103; refine HCr.out.mono ?_; rintro x' w6 ⟨rfl, hb⟩)
           go_roundg (e.f3.length - (i + 1))
           case measure => omega
           case rel => exact ⟨i + 1, by simp, rfl, by omega, form_step HOK.out HD.out, below_step (below_alloc RR.out _) hb⟩
         ·have hlt' : ¬ ((i : Int) < (e.f3.length : Int)) := by omega
          have hie : i = e.f3.length := by omega
          subst hie
          have RR := Aside0.mk R
          clear R
          go_wp2_with fail
          go_ret
          exact ⟨by rw [S50.formsB_true HOK.out]; rfl, below_step B5.out RR.out⟩
       ·have b1 : (n == 0) = false := beq_eq_false_iff_ne.mpr n0
        have b2 : (n != 0) = true := bne_iff_ne.mpr n0
        obtain rfl : fm = false := by rw [hform]; simp [n0, hk1]
        clear n0 hfs
        clear hform
        obtain ⟨W2, hW2⟩ : ∃ W2, w.alloc (.cells #[.int .i64 k, .int .u64 n, .string e.f2, .slice A e.f3.length c] 50) = W2 := ⟨_, rfl⟩
        have BB : Aside0 (Below w.heap.size w W2) := ⟨by rw [← hW2]; exact below_alloc (Below.refl _ _) _⟩
        obtain ⟨z0, z1, z2, z3⟩ : W2.cell? ⟨w.heap.size, 0, none⟩ = some (.int .i64 k) ∧ W2.cell? ⟨w.heap.size, 1, none⟩ = some (.int .u64 n) ∧ W2.cell? ⟨w.heap.size, 2, none⟩ = some (.string e.f2) ∧ W2.cell? ⟨w.heap.size, 3, none⟩ = some (.slice A e.f3.length c) := by rw [← hW2]; simp [go_sem]
        go_enter Tryz.func103, Tryz.ntmps103
        go_upto_region 1 with (fail)
        try rw [hW2]
        clear hW2
        go_upto_region 2 with (fail)
        go_quiet ((go_at_call 110; refine Calls.quiet_of (HPq.out _)))
        have B5 := BB
        go_wp2_with fail
        go_ret
        exact ⟨rfl, by first | exact B5.out | exact pw_below_drewN B5.out _ | ((repeat (first | (with_reducible first | exact B5.out | apply below_alloc | apply pw_below_drewN | apply below_drew1) | exact B5.out)); done)⟩
   ·have s1 : (e.f2.toList == []) = false := beq_eq_false_iff_ne.mpr hs
    have s2 : (e.f2.toList != []) = true := bne_iff_ne.mpr hs
    rw [decide_eq_false hs] at hform
    clear hs
    generalize e.f0 = k at *
    by_cases k2 : k = 2
    ·subst k2
     cases nb with
     | false =>
      obtain rfl : fm = false := by rw [hform]; simp [hasN]
      clear hfs
      clear hform
      obtain ⟨W2, hW2⟩ : ∃ W2, w.alloc (.cells #[.int .i64 2, .int .u64 e.f1, .string e.f2, .slice A e.f3.length c] 50) = W2 := ⟨_, rfl⟩
      have BB : Aside0 (Below w.heap.size w W2) := ⟨by rw [← hW2]; exact below_alloc (Below.refl _ _) _⟩
      obtain ⟨z0, z1, z2, z3⟩ : W2.cell? ⟨w.heap.size, 0, none⟩ = some (.int .i64 2) ∧ W2.cell? ⟨w.heap.size, 1, none⟩ = some (.int .u64 e.f1) ∧ W2.cell? ⟨w.heap.size, 2, none⟩ = some (.string e.f2) ∧ W2.cell? ⟨w.heap.size, 3, none⟩ = some (.slice A e.f3.length c) := by rw [← hW2]; simp [go_sem]
      go_enter Tryz.func103, Tryz.ntmps103
      go_upto_region 1 with (fail)
      try rw [hW2]
      clear hW2
      go_upto_region 2 with (fail)
      have HK := Aside0.mk (show ∀ w', Below W2.heap.size W2 w' → w'.cell? ⟨w.heap.size, 0, none⟩ = some (.int .i64 2) ∧ w'.cell? ⟨w.heap.size, 1, none⟩ = some (.int .u64 e.f1) ∧ w'.cell? ⟨w.heap.size, 2, none⟩ = some (.string e.f2) ∧ w'.cell? ⟨w.heap.size, 3, none⟩ = some (.slice A e.f3.length c) from fun w' hb => ⟨kept_cell hb z0, kept_cell hb z1, kept_cell hb z2, kept_cell hb z3⟩)
      have C2 := Aside0.mk (Below.refl W2.heap.size W2)
      have hS0 := HK.out W2 C2.out
      clear z0 z1 z2 z3
      refine wp_region_held_drew (S := fun w' => w'.cell? ⟨w.heap.size, 0, none⟩ = some (.int .i64 2) ∧ w'.cell? ⟨w.heap.size, 1, none⟩ = some (.int .u64 e.f1) ∧ w'.cell? ⟨w.heap.size, 2, none⟩ = some (.string e.f2) ∧ w'.cell? ⟨w.heap.size, 3, none⟩ = some (.slice A e.f3.length c)) (by kernel_rfl) (HK.out _ (below_drew1 (Below.refl _ _))) (fun hHeld => ?_)
      refine wpAnyH_take (i := 0) (v := ?_) rfl (by kernel_rfl) (by kernel_rfl) (by kernel_rfl) (fun _ _ _ h => h) (Or.inl ⟨by rfl, ?_⟩) (by assumption) ?_
      rotate_left
      ·(intro w' hSw; (try dsimp only at hSw); go_simp; try with_reducible rfl)
      simp only [List.getElem_toArray, List.getElem_cons_succ, List.getElem_cons_zero, Act.put, List.setIfInBounds_toArray, List.set_cons_zero, List.set_cons_succ]
      refine wpAnyH_take (i := 1) (v := ?_) rfl (by kernel_rfl) (by kernel_rfl) (by kernel_rfl) (fun _ _ _ h => h) (Or.inl ⟨by rfl, ?_⟩) (by assumption) ?_
      rotate_left
      ·(intro w' hSw; (try dsimp only at hSw); go_simp; try with_reducible rfl)
      simp only [List.getElem_toArray, List.getElem_cons_succ, List.getElem_cons_zero, Act.put, List.setIfInBounds_toArray, List.set_cons_zero, List.set_cons_succ]
      refine wpAnyH_take (i := 3) (v := ?_) rfl (by kernel_rfl) (by kernel_rfl) (by kernel_rfl) (fun _ _ _ h => h) (Or.inl ⟨by rfl, ?_⟩) (by assumption) ?_
      rotate_left
      ·(intro w' hSw; (try dsimp only at hSw); go_simp; try with_reducible rfl)
      simp only [List.getElem_toArray, List.getElem_cons_succ, List.getElem_cons_zero, Act.put, List.setIfInBounds_toArray, List.set_cons_zero, List.set_cons_succ]
      refine wpAnyH_take (i := 4) (v := ?_) rfl (by kernel_rfl) (by kernel_rfl) (by kernel_rfl) (fun _ _ _ h => h) (Or.inl ⟨by rfl, ?_⟩) (by assumption) ?_
      rotate_left
      ·(intro w' hSw; (try dsimp only at hSw); go_simp; try with_reducible rfl)
      simp only [List.getElem_toArray, List.getElem_cons_succ, List.getElem_cons_zero, Act.put, List.setIfInBounds_toArray, List.set_cons_zero, List.set_cons_succ]
      refine wpAnyH_take (i := 5) (v := ?_) rfl (by kernel_rfl) (by kernel_rfl) (by kernel_rfl) (fun _ _ _ h => h) (Or.inl ⟨by rfl, ?_⟩) (by assumption) ?_
      rotate_left
      ·(intro w' hSw; (try dsimp only at hSw); go_simp; try with_reducible rfl)
      simp only [List.getElem_toArray, List.getElem_cons_succ, List.getElem_cons_zero, Act.put, List.setIfInBounds_toArray, List.set_cons_zero, List.set_cons_succ]
      refine wpAnyH_ready (rs := [2]) (by kernel_rfl) (by simp) ?_
      refine AllReadyH.cons rfl (fun K hK => ?_) AllReadyH.nil
      go_simp
      refine (HPa.out _).mono ?_
      rintro x' w4 ⟨rfl, hb⟩
      have C4 := Aside0.mk (below_step (by (repeat (first | (with_reducible first | exact C2.out | apply below_alloc | apply pw_below_drewN | apply below_drew1) | exact C2.out))) hb)
      have B4 := Aside0.mk (below_step (by (repeat (first | (with_reducible first | exact BB.out | apply below_alloc | apply pw_below_drewN | apply below_drew1) | exact BB.out))) hb)
      clear hb
      try dsimp only
      refine hK.out _ _ (HK.out _ C4.out) (fun hH4 => ?_)
      clear hK K
      try simp only [List.getElem_toArray, List.getElem_cons_succ, List.getElem_cons_zero, Act.put, List.setIfInBounds_toArray, List.set_cons_zero, List.set_cons_succ]
      clear hHeld
      refine wpAnyH_take (i := 6) (v := ?_) rfl (by kernel_rfl) (by kernel_rfl) (by kernel_rfl) (fun _ _ _ h => h) (Or.inl ⟨by rfl, ?_⟩) (by assumption) ?_
      rotate_left
      ·(intro w' hSw; (try dsimp only at hSw); go_simp; try with_reducible rfl)
      simp only [List.getElem_toArray, List.getElem_cons_succ, List.getElem_cons_zero, Act.put, List.setIfInBounds_toArray, List.set_cons_zero, List.set_cons_succ]
      refine wpAnyH_take (i := 7) (v := ?_) rfl (by kernel_rfl) (by kernel_rfl) (by kernel_rfl) (fun _ _ _ h => h) (Or.inl ⟨by rfl, ?_⟩) (by assumption) ?_
      rotate_left
      ·(intro w' hSw; (try dsimp only at hSw); go_simp; try with_reducible rfl)
      simp only [List.getElem_toArray, List.getElem_cons_succ, List.getElem_cons_zero, Act.put, List.setIfInBounds_toArray, List.set_cons_zero, List.set_cons_succ]
      refine wpAnyH_take (i := 8) (v := ?_) rfl (by kernel_rfl) (by kernel_rfl) (by kernel_rfl) (fun _ _ _ h => h) (Or.inl ⟨by rfl, ?_⟩) (by assumption) ?_
      rotate_left
      ·(intro w' hSw; (try dsimp only at hSw); go_simp; try with_reducible rfl)
      simp only [List.getElem_toArray, List.getElem_cons_succ, List.getElem_cons_zero, Act.put, List.setIfInBounds_toArray, List.set_cons_zero, List.set_cons_succ]
      refine wpAnyH_take (i := 9) (v := ?_) rfl (by kernel_rfl) (by kernel_rfl) (by kernel_rfl) (fun _ _ _ h => h) (Or.inl ⟨by rfl, ?_⟩) (by assumption) ?_
      rotate_left
      ·(intro w' hSw; (try dsimp only at hSw); go_simp; try with_reducible rfl)
      simp only [List.getElem_toArray, List.getElem_cons_succ, List.getElem_cons_zero, Act.put, List.setIfInBounds_toArray, List.set_cons_zero, List.set_cons_succ]
      refine wpAnyH_take (i := 10) (v := ?_) rfl (by kernel_rfl) (by kernel_rfl) (by kernel_rfl) (fun _ _ _ h => h) (Or.inl ⟨by rfl, ?_⟩) (by assumption) ?_
      rotate_left
      ·(intro w' hSw; (try dsimp only at hSw); go_simp; try with_reducible rfl)
      simp only [List.getElem_toArray, List.getElem_cons_succ, List.getElem_cons_zero, Act.put, List.setIfInBounds_toArray, List.set_cons_zero, List.set_cons_succ]
      refine wpAnyH_take (i := 11) (v := ?_) rfl (by kernel_rfl) (by kernel_rfl) (by kernel_rfl) (fun _ _ _ h => h) (Or.inl ⟨by rfl, ?_⟩) (by assumption) ?_
      rotate_left
      ·(intro w' hSw; (try dsimp only at hSw); go_simp; try with_reducible rfl)
      simp only [List.getElem_toArray, List.getElem_cons_succ, List.getElem_cons_zero, Act.put, List.setIfInBounds_toArray, List.set_cons_zero, List.set_cons_succ]
      refine wpAnyH_take (i := 12) (v := ?_) rfl (by kernel_rfl) (by kernel_rfl) (by kernel_rfl) (fun _ _ _ h => h) (Or.inl ⟨by rfl, ?_⟩) (by assumption) ?_
      rotate_left
      ·(intro w' hSw; (try dsimp only at hSw); go_simp; try with_reducible rfl)
      simp only [List.getElem_toArray, List.getElem_cons_succ, List.getElem_cons_zero, Act.put, List.setIfInBounds_toArray, List.set_cons_zero, List.set_cons_succ]
      refine wpAnyH_take (i := 13) (v := ?_) rfl (by kernel_rfl) (by kernel_rfl) (by kernel_rfl) (fun _ _ _ h => h) (Or.inl ⟨by rfl, ?_⟩) (by assumption) ?_
      rotate_left
      ·(intro w' hSw; (try dsimp only at hSw); go_simp; try with_reducible rfl)
      simp only [List.getElem_toArray, List.getElem_cons_succ, List.getElem_cons_zero, Act.put, List.setIfInBounds_toArray, List.set_cons_zero, List.set_cons_succ]
      refine wpAnyH_take (i := 14) (v := ?_) rfl (by kernel_rfl) (by kernel_rfl) (by kernel_rfl) (fun _ _ _ h => h) (Or.inl ⟨by rfl, ?_⟩) (by assumption) ?_
      rotate_left
      ·(intro w' hSw; (try dsimp only at hSw); go_simp; try with_reducible rfl)
      simp only [List.getElem_toArray, List.getElem_cons_succ, List.getElem_cons_zero, Act.put, List.setIfInBounds_toArray, List.set_cons_zero, List.set_cons_succ]
      refine wpAnyH_take (i := 15) (v := ?_) rfl (by kernel_rfl) (by kernel_rfl) (by kernel_rfl) (fun _ _ _ h => h) (Or.inl ⟨by rfl, ?_⟩) (by assumption) ?_
      rotate_left
      ·(intro w' hSw; (try dsimp only at hSw); go_simp; try with_reducible rfl)
      simp only [List.getElem_toArray, List.getElem_cons_succ, List.getElem_cons_zero, Act.put, List.setIfInBounds_toArray, List.set_cons_zero, List.set_cons_succ]
      refine wpAnyH_take (i := 16) (v := ?_) rfl (by kernel_rfl) (by kernel_rfl) (by kernel_rfl) (fun _ _ _ h => h) (Or.inl ⟨by rfl, ?_⟩) (by assumption) ?_
      rotate_left
      ·(intro w' hSw; (try dsimp only at hSw); go_simp; try with_reducible rfl)
      simp only [List.getElem_toArray, List.getElem_cons_succ, List.getElem_cons_zero, Act.put, List.setIfInBounds_toArray, List.set_cons_zero, List.set_cons_succ]
      refine wpAnyH_take (i := 17) (v := ?_) rfl (by kernel_rfl) (by kernel_rfl) (by kernel_rfl) (fun _ _ _ h => h) (Or.inl ⟨by rfl, ?_⟩) (by assumption) ?_
      rotate_left
      ·(intro w' hSw; (try dsimp only at hSw); go_simp; try with_reducible rfl)
      simp only [List.getElem_toArray, List.getElem_cons_succ, List.getElem_cons_zero, Act.put, List.setIfInBounds_toArray, List.set_cons_zero, List.set_cons_succ]
      refine wpAnyH_take (i := 18) (v := ?_) rfl (by kernel_rfl) (by kernel_rfl) (by kernel_rfl) (fun _ _ _ h => h) (Or.inl ⟨by rfl, ?_⟩) (by assumption) ?_
      rotate_left
      ·(intro w' hSw; (try dsimp only at hSw); go_simp; try with_reducible rfl)
      simp only [List.getElem_toArray, List.getElem_cons_succ, List.getElem_cons_zero, Act.put, List.setIfInBounds_toArray, List.set_cons_zero, List.set_cons_succ]
      refine wpAnyH_ready (rs := [19]) (by kernel_rfl) (by simp) ?_
      refine AllReadyH.cons rfl (fun K hK => ?_) AllReadyH.nil
      go_simp
      refine (HNa.out _).mono ?_
      rintro x' w5 ⟨rfl, hb⟩
      have C5 := Aside0.mk (below_step (by (repeat (first | (with_reducible first | exact C4.out | apply below_alloc | apply pw_below_drewN | apply below_drew1) | exact C4.out))) hb)
      have B5 := Aside0.mk (below_step (by (repeat (first | (with_reducible first | exact B4.out | apply below_alloc | apply pw_below_drewN | apply below_drew1) | exact B4.out))) hb)
      clear hb
      try dsimp only
      refine hK.out _ _ (HK.out _ C5.out) (fun hH5 => ?_)
      clear hK K
      try simp only [List.getElem_toArray, List.getElem_cons_succ, List.getElem_cons_zero, Act.put, List.setIfInBounds_toArray, List.set_cons_zero, List.set_cons_succ]
      clear hH4
      refine wpAnyH_take (i := 20) (v := ?_) rfl (by kernel_rfl) (by kernel_rfl) (by kernel_rfl) (fun _ _ _ h => h) (Or.inl ⟨by rfl, ?_⟩) (by assumption) ?_
      rotate_left
      ·(intro w' hSw; (try dsimp only at hSw); go_simp; try with_reducible rfl)
      simp only [List.getElem_toArray, List.getElem_cons_succ, List.getElem_cons_zero, Act.put, List.setIfInBounds_toArray, List.set_cons_zero, List.set_cons_succ]
      refine wpAnyH_take (i := 21) (v := ?_) rfl (by kernel_rfl) (by kernel_rfl) (by kernel_rfl) (fun _ _ _ h => h) (Or.inl ⟨by rfl, ?_⟩) (by assumption) ?_
      rotate_left
      ·(intro w' hSw; (try dsimp only at hSw); go_simp; try with_reducible rfl)
      simp only [List.getElem_toArray, List.getElem_cons_succ, List.getElem_cons_zero, Act.put, List.setIfInBounds_toArray, List.set_cons_zero, List.set_cons_succ]
      refine wpAnyH_take (i := 22) (v := ?_) rfl (by kernel_rfl) (by kernel_rfl) (by kernel_rfl) (fun _ _ _ h => h) (Or.inl ⟨by rfl, ?_⟩) (by assumption) ?_
      rotate_left
      ·(intro w' hSw; (try dsimp only at hSw); go_simp; try with_reducible rfl)
      simp only [List.getElem_toArray, List.getElem_cons_succ, List.getElem_cons_zero, Act.put, List.setIfInBounds_toArray, List.set_cons_zero, List.set_cons_succ]
      refine wpAnyH_take (i := 23) (v := ?_) rfl (by kernel_rfl) (by kernel_rfl) (by kernel_rfl) (fun _ _ _ h => h) (Or.inl ⟨by rfl, ?_⟩) (by assumption) ?_
      rotate_left
      ·(intro w' hSw; (try dsimp only at hSw); go_simp; try with_reducible rfl)
      simp only [List.getElem_toArray, List.getElem_cons_succ, List.getElem_cons_zero, Act.put, List.setIfInBounds_toArray, List.set_cons_zero, List.set_cons_succ]
      refine wpAnyH_take (i := 24) rfl (by kernel_rfl) (by kernel_rfl) (by kernel_rfl) (fun _ _ _ h => h) (Or.inr ⟨by rfl, rfl⟩) (by assumption) ?_
      simp only [List.getElem_toArray, List.getElem_cons_succ, List.getElem_cons_zero, Act.put, List.setIfInBounds_toArray, List.set_cons_zero, List.set_cons_succ]
      refine wpAnyH_take (i := 25) rfl (by kernel_rfl) (by kernel_rfl) (by kernel_rfl) (fun _ _ _ h => h) (Or.inr ⟨by rfl, rfl⟩) (by assumption) ?_
      simp only [List.getElem_toArray, List.getElem_cons_succ, List.getElem_cons_zero, Act.put, List.setIfInBounds_toArray, List.set_cons_zero, List.set_cons_succ]
      refine wpAnyH_take (i := 26) rfl (by kernel_rfl) (by kernel_rfl) (by kernel_rfl) (fun _ _ _ h => h) (Or.inr ⟨by rfl, rfl⟩) (by assumption) ?_
      simp only [List.getElem_toArray, List.getElem_cons_succ, List.getElem_cons_zero, Act.put, List.setIfInBounds_toArray, List.set_cons_zero, List.set_cons_succ]
      refine wpAnyH_take (i := 27) rfl (by kernel_rfl) (by kernel_rfl) (by kernel_rfl) (fun _ _ _ h => h) (Or.inr ⟨by rfl, rfl⟩) (by assumption) ?_
      simp only [List.getElem_toArray, List.getElem_cons_succ, List.getElem_cons_zero, Act.put, List.setIfInBounds_toArray, List.set_cons_zero, List.set_cons_succ]
      refine wpAnyH_take (i := 28) rfl (by kernel_rfl) (by kernel_rfl) (by kernel_rfl) (fun _ _ _ h => h) (Or.inr ⟨by rfl, rfl⟩) (by assumption) ?_
      simp only [List.getElem_toArray, List.getElem_cons_succ, List.getElem_cons_zero, Act.put, List.setIfInBounds_toArray, List.set_cons_zero, List.set_cons_succ]
      refine wpAnyH_take (i := 29) rfl (by kernel_rfl) (by kernel_rfl) (by kernel_rfl) (fun _ _ _ h => h) (Or.inr ⟨by rfl, rfl⟩) (by assumption) ?_
      simp only [List.getElem_toArray, List.getElem_cons_succ, List.getElem_cons_zero, Act.put, List.setIfInBounds_toArray, List.set_cons_zero, List.set_cons_succ]
      refine wpAnyH_take (i := 30) rfl (by kernel_rfl) (by kernel_rfl) (by kernel_rfl) (fun _ _ _ h => h) (Or.inr ⟨by rfl, rfl⟩) (by assumption) ?_
      simp only [List.getElem_toArray, List.getElem_cons_succ, List.getElem_cons_zero, Act.put, List.setIfInBounds_toArray, List.set_cons_zero, List.set_cons_succ]
      refine wpAnyH_take (i := 31) rfl (by kernel_rfl) (by kernel_rfl) (by kernel_rfl) (fun _ _ _ h => h) (Or.inr ⟨by rfl, rfl⟩) (by assumption) ?_
      simp only [List.getElem_toArray, List.getElem_cons_succ, List.getElem_cons_zero, Act.put, List.setIfInBounds_toArray, List.set_cons_zero, List.set_cons_succ]
      refine wpAnyH_take (i := 32) (v := ?_) rfl (by kernel_rfl) (by kernel_rfl) (by kernel_rfl) (fun _ _ _ h => h) (Or.inl ⟨by rfl, ?_⟩) (by assumption) ?_
      rotate_left
      ·(intro w' hSw; (try dsimp only at hSw); go_simp; try with_reducible rfl)
      simp only [List.getElem_toArray, List.getElem_cons_succ, List.getElem_cons_zero, Act.put, List.setIfInBounds_toArray, List.set_cons_zero, List.set_cons_succ]
      refine wpAnyH_done (by kernel_rfl) ?_ _
      clear hH5 HK
      go_wp2_with fail
      go_ret
      exact ⟨rfl, by first | exact B5.out | exact pw_below_drewN B5.out _ | ((repeat (first | (with_reducible first | exact B5.out | apply below_alloc | apply pw_below_drewN | apply below_drew1) | exact B5.out)); done)⟩
     | true =>
      generalize e.f1 = n at *
      by_cases n0 : n = 0
      ·subst n0
       obtain rfl : fm = fs := by rw [hform]; simp [hasN]
       subst hfs
       clear hform
       obtain ⟨W2, hW2⟩ : ∃ W2, w.alloc (.cells #[.int .i64 2, .int .u64 0, .string e.f2, .slice A e.f3.length c] 50) = W2 := ⟨_, rfl⟩
       have BB : Aside0 (Below w.heap.size w W2) := ⟨by rw [← hW2]; exact below_alloc (Below.refl _ _) _⟩
       obtain ⟨z0, z1, z2, z3⟩ : W2.cell? ⟨w.heap.size, 0, none⟩ = some (.int .i64 2) ∧ W2.cell? ⟨w.heap.size, 1, none⟩ = some (.int .u64 0) ∧ W2.cell? ⟨w.heap.size, 2, none⟩ = some (.string e.f2) ∧ W2.cell? ⟨w.heap.size, 3, none⟩ = some (.slice A e.f3.length c) := by rw [← hW2]; simp [go_sem]
       go_enter Tryz.func103, Tryz.ntmps103
       go_upto_region 1 with (fail)
       try rw [hW2]
       clear hW2
       go_upto_region 2 with (fail)
       have HK := Aside0.mk (show ∀ w', Below W2.heap.size W2 w' → w'.cell? ⟨w.heap.size, 0, none⟩ = some (.int .i64 2) ∧ w'.cell? ⟨w.heap.size, 1, none⟩ = some (.int .u64 0) ∧ w'.cell? ⟨w.heap.size, 2, none⟩ = some (.string e.f2) ∧ w'.cell? ⟨w.heap.size, 3, none⟩ = some (.slice A e.f3.length c) from fun w' hb => ⟨kept_cell hb z0, kept_cell hb z1, kept_cell hb z2, kept_cell hb z3⟩)
       have C2 := Aside0.mk (Below.refl W2.heap.size W2)
       have hS0 := HK.out W2 C2.out
       clear z0 z1 z2 z3
       first | (go_region_held3 (fun w' => w'.cell? ⟨w.heap.size, 0, none⟩ = some (.int .i64 2) ∧ w'.cell? ⟨w.heap.size, 1, none⟩ = some (.int .u64 0) ∧ w'.cell? ⟨w.heap.size, 2, none⟩ = some (.string e.f2) ∧ w'.cell? ⟨w.heap.size, 3, none⟩ = some (.slice A e.f3.length c))
        (first | exact hS0 | (refine HK.out _ ?_; (repeat (first | (with_reducible first | exact C5.out | apply below_alloc | apply pw_below_drewN | apply below_drew1) | exact C5.out)); done) | (refine HK.out _ ?_; (repeat (first | (with_reducible first | exact C4.out | apply below_alloc | apply pw_below_drewN | apply below_drew1) | exact C4.out)); done) | (refine HK.out _ ?_; (repeat (first | (with_reducible first | exact C2.out | apply below_alloc | apply pw_below_drewN | apply below_drew1) | exact C2.out)); done))
        (first | (go_at_call 110; refine (HPa.out _).mono ?_; rintro x' w4 ⟨rfl, hb⟩; have B4 := Aside0.mk (below_step (by (repeat (first | (with_reducible first | exact BB.out | apply below_alloc | apply pw_below_drewN | apply below_drew1) | exact BB.out))) hb); have C4 := Aside0.mk (below_step (by (repeat (first | (with_reducible first | exact C2.out | apply below_alloc | apply pw_below_drewN | apply below_drew1) | exact C2.out))) hb); clear hb) | (go_at_call 78; refine (HNa.out _).mono ?_; rintro x' w5 ⟨rfl, hb⟩; have B5 := Aside0.mk (below_step (by (repeat (first | (with_reducible first | exact B4.out | apply below_alloc | apply pw_below_drewN | apply below_drew1) | exact B4.out))) hb); have C5 := Aside0.mk (below_step (by (repeat (first | (with_reducible first | exact C4.out | apply below_alloc | apply pw_below_drewN | apply below_drew1) | exact C4.out))) hb); clear hb))) | fail
       obtain ⟨y0, y1, y2, y3⟩ := HK.out _ C5.out
       have hll : (e.f3.length : Int) ≤ 9223372036854775807 := HLL.out
       go_wp2_with fail
       go_loopg [50] (e.f3.length) (fun m v wr => ∃ i : Nat, v = .int .i64 i ∧ m = e.f3.length - i ∧ i ≤ e.f3.length ∧ (∀ j, j < i → (rd_T50 e.f3 j).formB = true) ∧ Below w5.heap.size w5 wr)
       case atStart => exact ⟨0, rfl, by omega, by omega, fun j h => absurd h (by omega), by first | exact Below.refl _ _ | exact pw_below_drewN (Below.refl _ _) _⟩
       case round =>
        obtain ⟨i, rfl, rfl, hi, hok, R⟩ := hrel
        have HOK := Aside0.mk hok
        replace y0 := kept_cell R y0
        replace y1 := kept_cell R y1
        replace y2 := kept_cell R y2
        replace y3 := kept_cell R y3
        clear hok hS0
        by_cases hlt : i < e.f3.length
        ·obtain ⟨q, A1, c1, x0, x1, x2, x3, hq, HC⟩ := HKid.out i hlt wr (below_step B5.out R)
         subst hq
         have hlt' : (i : Int) < (e.f3.length : Int) := by omega
         have HF := Aside0.mk (S50.formsB_false hlt)
         obtain ⟨d, hd⟩ : ∃ d, rd_T50 e.f3 i = d := ⟨_, rfl⟩
         rw [hd] at x0 x1 x2 x3 HC HF
         have HDD := Aside0.mk hd
         clear hd
         have RR := Aside0.mk R
         have HCr := Aside0.mk (HC (wr.alloc (.cells #[.int .i64 d.f0, .int .u64 d.f1, .string d.f2, .slice A1 d.f3.length c1] 50)) (below_alloc (Below.refl _ _) _))
         clear R HC
         cases hv : d.formB with
         | false =>
          rw [hv] at HCr
          have HV := Aside0.mk (HF.out hv)
          clear hv HF
          go_wp2_with (go_at_call 103; refine HCr.out.mono ?_; rintro x' w6 ⟨rfl, hb⟩)
          go_ret
          exact ⟨by rw [HV.out]; rfl, below_step (below_alloc (below_step B5.out RR.out) _) hb⟩
         | true =>
          rw [hv] at HCr
          have HD : Aside0 ((rd_T50 e.f3 i).formB = true) := ⟨by rw [HDD.out]; exact hv⟩
          clear hv
          go_wp2_with (go_at_call 103; refine HCr.out.mono ?_; rintro x' w6 ⟨rfl, hb⟩)
          go_roundg (e.f3.length - (i + 1))
          case measure => omega
          case rel => exact ⟨i + 1, by simp, rfl, by omega, form_step HOK.out HD.out, below_step (below_alloc RR.out _) hb⟩
        ·have hlt' : ¬ ((i : Int) < (e.f3.length : Int)) := by omega
         have hie : i = e.f3.length := by omega
         subst hie
         have RR := Aside0.mk R
         clear R
         go_wp2_with fail
         go_ret
         exact ⟨by rw [S50.formsB_true HOK.out]; rfl, below_step B5.out RR.out⟩
      ·have b1 : (n == 0) = false := beq_eq_false_iff_ne.mpr n0
       have b2 : (n != 0) = true := bne_iff_ne.mpr n0
       obtain rfl : fm = false := by rw [hform]; simp [n0, hasN]
       clear n0 hfs
       clear hform
       obtain ⟨W2, hW2⟩ : ∃ W2, w.alloc (.cells #[.int .i64 2, .int .u64 n, .string e.f2, .slice A e.f3.length c] 50) = W2 := ⟨_, rfl⟩
       have BB : Aside0 (Below w.heap.size w W2) := ⟨by rw [← hW2]; exact below_alloc (Below.refl _ _) _⟩
       obtain ⟨z0, z1, z2, z3⟩ : W2.cell? ⟨w.heap.size, 0, none⟩ = some (.int .i64 2) ∧ W2.cell? ⟨w.heap.size, 1, none⟩ = some (.int .u64 n) ∧ W2.cell? ⟨w.heap.size, 2, none⟩ = some (.string e.f2) ∧ W2.cell? ⟨w.heap.size, 3, none⟩ = some (.slice A e.f3.length c) := by rw [← hW2]; simp [go_sem]
       go_enter Tryz.func103, Tryz.ntmps103
       go_upto_region 1 with (fail)
       try rw [hW2]
       clear hW2
       go_upto_region 2 with (fail)
       have HK := Aside0.mk (show ∀ w', Below W2.heap.size W2 w' → w'.cell? ⟨w.heap.size, 0, none⟩ = some (.int .i64 2) ∧ w'.cell? ⟨w.heap.size, 1, none⟩ = some (.int .u64 n) ∧ w'.cell? ⟨w.heap.size, 2, none⟩ = some (.string e.f2) ∧ w'.cell? ⟨w.heap.size, 3, none⟩ = some (.slice A e.f3.length c) from fun w' hb => ⟨kept_cell hb z0, kept_cell hb z1, kept_cell hb z2, kept_cell hb z3⟩)
       have C2 := Aside0.mk (Below.refl W2.heap.size W2)
       have hS0 := HK.out W2 C2.out
       clear z0 z1 z2 z3
       first | (go_region_held3 (fun w' => w'.cell? ⟨w.heap.size, 0, none⟩ = some (.int .i64 2) ∧ w'.cell? ⟨w.heap.size, 1, none⟩ = some (.int .u64 n) ∧ w'.cell? ⟨w.heap.size, 2, none⟩ = some (.string e.f2) ∧ w'.cell? ⟨w.heap.size, 3, none⟩ = some (.slice A e.f3.length c))
        (first | exact hS0 | (refine HK.out _ ?_; (repeat (first | (with_reducible first | exact C5.out | apply below_alloc | apply pw_below_drewN | apply below_drew1) | exact C5.out)); done) | (refine HK.out _ ?_; (repeat (first | (with_reducible first | exact C4.out | apply below_alloc | apply pw_below_drewN | apply below_drew1) | exact C4.out)); done) | (refine HK.out _ ?_; (repeat (first | (with_reducible first | exact C2.out | apply below_alloc | apply pw_below_drewN | apply below_drew1) | exact C2.out)); done))
        (first | (go_at_call 110; refine (HPa.out _).mono ?_; rintro x' w4 ⟨rfl, hb⟩; have B4 := Aside0.mk (below_step (by (repeat (first | (with_reducible first | exact BB.out | apply below_alloc | apply pw_below_drewN | apply below_drew1) | exact BB.out))) hb); have C4 := Aside0.mk (below_step (by (repeat (first | (with_reducible first | exact C2.out | apply below_alloc | apply pw_below_drewN | apply below_drew1) | exact C2.out))) hb); clear hb) | (go_at_call 78; refine (HNa.out _).mono ?_; rintro x' w5 ⟨rfl, hb⟩; have B5 := Aside0.mk (below_step (by (repeat (first | (with_reducible first | exact B4.out | apply below_alloc | apply pw_below_drewN | apply below_drew1) | exact B4.out))) hb); have C5 := Aside0.mk (below_step (by (repeat (first | (with_reducible first | exact C4.out | apply below_alloc | apply pw_below_drewN | apply below_drew1) | exact C4.out))) hb); clear hb))) | fail
       go_wp2_with fail
       go_ret
       exact ⟨rfl, by first | exact B5.out | exact pw_below_drewN B5.out _ | ((repeat (first | (with_reducible first | exact B5.out | apply below_alloc | apply pw_below_drewN | apply below_drew1) | exact B5.out)); done)⟩
    ·have a2 : (k == 2) = false := beq_eq_false_iff_ne.mpr k2
     by_cases k3 : k = 3
     ·subst k3
      clear k2
      cases nb with
      | false =>
       obtain rfl : fm = false := by rw [hform]; simp [hasN]
       clear hfs
       clear hform
       obtain ⟨W2, hW2⟩ : ∃ W2, w.alloc (.cells #[.int .i64 3, .int .u64 e.f1, .string e.f2, .slice A e.f3.length c] 50) = W2 := ⟨_, rfl⟩
       have BB : Aside0 (Below w.heap.size w W2) := ⟨by rw [← hW2]; exact below_alloc (Below.refl _ _) _⟩
       obtain ⟨z0, z1, z2, z3⟩ : W2.cell? ⟨w.heap.size, 0, none⟩ = some (.int .i64 3) ∧ W2.cell? ⟨w.heap.size, 1, none⟩ = some (.int .u64 e.f1) ∧ W2.cell? ⟨w.heap.size, 2, none⟩ = some (.string e.f2) ∧ W2.cell? ⟨w.heap.size, 3, none⟩ = some (.slice A e.f3.length c) := by rw [← hW2]; simp [go_sem]
       go_enter Tryz.func103, Tryz.ntmps103
       go_upto_region 1 with (fail)
       try rw [hW2]
       clear hW2
       go_upto_region 2 with (fail)
       have HK := Aside0.mk (show ∀ w', Below W2.heap.size W2 w' → w'.cell? ⟨w.heap.size, 0, none⟩ = some (.int .i64 3) ∧ w'.cell? ⟨w.heap.size, 1, none⟩ = some (.int .u64 e.f1) ∧ w'.cell? ⟨w.heap.size, 2, none⟩ = some (.string e.f2) ∧ w'.cell? ⟨w.heap.size, 3, none⟩ = some (.slice A e.f3.length c) from fun w' hb => ⟨kept_cell hb z0, kept_cell hb z1, kept_cell hb z2, kept_cell hb z3⟩)
       have C2 := Aside0.mk (Below.refl W2.heap.size W2)
       have hS0 := HK.out W2 C2.out
       clear z0 z1 z2 z3
       refine wp_region_held_drew (S := fun w' => w'.cell? ⟨w.heap.size, 0, none⟩ = some (.int .i64 3) ∧ w'.cell? ⟨w.heap.size, 1, none⟩ = some (.int .u64 e.f1) ∧ w'.cell? ⟨w.heap.size, 2, none⟩ = some (.string e.f2) ∧ w'.cell? ⟨w.heap.size, 3, none⟩ = some (.slice A e.f3.length c)) (by kernel_rfl) (HK.out _ (below_drew1 (Below.refl _ _))) (fun hHeld => ?_)
       refine wpAnyH_take (i := 0) (v := ?_) rfl (by kernel_rfl) (by kernel_rfl) (by kernel_rfl) (fun _ _ _ h => h) (Or.inl ⟨by rfl, ?_⟩) (by assumption) ?_
       rotate_left
       ·(intro w' hSw; (try dsimp only at hSw); go_simp; try with_reducible rfl)
       simp only [List.getElem_toArray, List.getElem_cons_succ, List.getElem_cons_zero, Act.put, List.setIfInBounds_toArray, List.set_cons_zero, List.set_cons_succ]
       refine wpAnyH_take (i := 1) (v := ?_) rfl (by kernel_rfl) (by kernel_rfl) (by kernel_rfl) (fun _ _ _ h => h) (Or.inl ⟨by rfl, ?_⟩) (by assumption) ?_
       rotate_left
       ·(intro w' hSw; (try dsimp only at hSw); go_simp; try with_reducible rfl)
       simp only [List.getElem_toArray, List.getElem_cons_succ, List.getElem_cons_zero, Act.put, List.setIfInBounds_toArray, List.set_cons_zero, List.set_cons_succ]
       refine wpAnyH_take (i := 3) (v := ?_) rfl (by kernel_rfl) (by kernel_rfl) (by kernel_rfl) (fun _ _ _ h => h) (Or.inl ⟨by rfl, ?_⟩) (by assumption) ?_
       rotate_left
       ·(intro w' hSw; (try dsimp only at hSw); go_simp; try with_reducible rfl)
       simp only [List.getElem_toArray, List.getElem_cons_succ, List.getElem_cons_zero, Act.put, List.setIfInBounds_toArray, List.set_cons_zero, List.set_cons_succ]
       refine wpAnyH_take (i := 4) (v := ?_) rfl (by kernel_rfl) (by kernel_rfl) (by kernel_rfl) (fun _ _ _ h => h) (Or.inl ⟨by rfl, ?_⟩) (by assumption) ?_
       rotate_left
       ·(intro w' hSw; (try dsimp only at hSw); go_simp; try with_reducible rfl)
       simp only [List.getElem_toArray, List.getElem_cons_succ, List.getElem_cons_zero, Act.put, List.setIfInBounds_toArray, List.set_cons_zero, List.set_cons_succ]
       refine wpAnyH_take (i := 5) (v := ?_) rfl (by kernel_rfl) (by kernel_rfl) (by kernel_rfl) (fun _ _ _ h => h) (Or.inl ⟨by rfl, ?_⟩) (by assumption) ?_
       rotate_left
       ·(intro w' hSw; (try dsimp only at hSw); go_simp; try with_reducible rfl)
       simp only [List.getElem_toArray, List.getElem_cons_succ, List.getElem_cons_zero, Act.put, List.setIfInBounds_toArray, List.set_cons_zero, List.set_cons_succ]
       refine wpAnyH_ready (rs := [2]) (by kernel_rfl) (by simp) ?_
       refine AllReadyH.cons rfl (fun K hK => ?_) AllReadyH.nil
       go_simp
       refine (HPa.out _).mono ?_
       rintro x' w4 ⟨rfl, hb⟩
       have C4 := Aside0.mk (below_step (by (repeat (first | (with_reducible first | exact C2.out | apply below_alloc | apply pw_below_drewN | apply below_drew1) | exact C2.out))) hb)
       have B4 := Aside0.mk (below_step (by (repeat (first | (with_reducible first | exact BB.out | apply below_alloc | apply pw_below_drewN | apply below_drew1) | exact BB.out))) hb)
       clear hb
       try dsimp only
       refine hK.out _ _ (HK.out _ C4.out) (fun hH4 => ?_)
       clear hK K
       try simp only [List.getElem_toArray, List.getElem_cons_succ, List.getElem_cons_zero, Act.put, List.setIfInBounds_toArray, List.set_cons_zero, List.set_cons_succ]
       clear hHeld
       refine wpAnyH_take (i := 6) (v := ?_) rfl (by kernel_rfl) (by kernel_rfl) (by kernel_rfl) (fun _ _ _ h => h) (Or.inl ⟨by rfl, ?_⟩) (by assumption) ?_
       rotate_left
       ·(intro w' hSw; (try dsimp only at hSw); go_simp; try with_reducible rfl)
       simp only [List.getElem_toArray, List.getElem_cons_succ, List.getElem_cons_zero, Act.put, List.setIfInBounds_toArray, List.set_cons_zero, List.set_cons_succ]
       refine wpAnyH_take (i := 7) (v := ?_) rfl (by kernel_rfl) (by kernel_rfl) (by kernel_rfl) (fun _ _ _ h => h) (Or.inl ⟨by rfl, ?_⟩) (by assumption) ?_
       rotate_left
       ·(intro w' hSw; (try dsimp only at hSw); go_simp; try with_reducible rfl)
       simp only [List.getElem_toArray, List.getElem_cons_succ, List.getElem_cons_zero, Act.put, List.setIfInBounds_toArray, List.set_cons_zero, List.set_cons_succ]
       refine wpAnyH_take (i := 8) (v := ?_) rfl (by kernel_rfl) (by kernel_rfl) (by kernel_rfl) (fun _ _ _ h => h) (Or.inl ⟨by rfl, ?_⟩) (by assumption) ?_
       rotate_left
       ·(intro w' hSw; (try dsimp only at hSw); go_simp; try with_reducible rfl)
       simp only [List.getElem_toArray, List.getElem_cons_succ, List.getElem_cons_zero, Act.put, List.setIfInBounds_toArray, List.set_cons_zero, List.set_cons_succ]
       refine wpAnyH_take (i := 9) (v := ?_) rfl (by kernel_rfl) (by kernel_rfl) (by kernel_rfl) (fun _ _ _ h => h) (Or.inl ⟨by rfl, ?_⟩) (by assumption) ?_
       rotate_left
       ·(intro w' hSw; (try dsimp only at hSw); go_simp; try with_reducible rfl)
       simp only [List.getElem_toArray, List.getElem_cons_succ, List.getElem_cons_zero, Act.put, List.setIfInBounds_toArray, List.set_cons_zero, List.set_cons_succ]
       refine wpAnyH_take (i := 10) (v := ?_) rfl (by kernel_rfl) (by kernel_rfl) (by kernel_rfl) (fun _ _ _ h => h) (Or.inl ⟨by rfl, ?_⟩) (by assumption) ?_
       rotate_left
       ·(intro w' hSw; (try dsimp only at hSw); go_simp; try with_reducible rfl)
       simp only [List.getElem_toArray, List.getElem_cons_succ, List.getElem_cons_zero, Act.put, List.setIfInBounds_toArray, List.set_cons_zero, List.set_cons_succ]
       refine wpAnyH_take (i := 11) (v := ?_) rfl (by kernel_rfl) (by kernel_rfl) (by kernel_rfl) (fun _ _ _ h => h) (Or.inl ⟨by rfl, ?_⟩) (by assumption) ?_
       rotate_left
       ·(intro w' hSw; (try dsimp only at hSw); go_simp; try with_reducible rfl)
       simp only [List.getElem_toArray, List.getElem_cons_succ, List.getElem_cons_zero, Act.put, List.setIfInBounds_toArray, List.set_cons_zero, List.set_cons_succ]
       refine wpAnyH_take (i := 12) (v := ?_) rfl (by kernel_rfl) (by kernel_rfl) (by kernel_rfl) (fun _ _ _ h => h) (Or.inl ⟨by rfl, ?_⟩) (by assumption) ?_
       rotate_left
       ·(intro w' hSw; (try dsimp only at hSw); go_simp; try with_reducible rfl)
       simp only [List.getElem_toArray, List.getElem_cons_succ, List.getElem_cons_zero, Act.put, List.setIfInBounds_toArray, List.set_cons_zero, List.set_cons_succ]
       refine wpAnyH_take (i := 13) (v := ?_) rfl (by kernel_rfl) (by kernel_rfl) (by kernel_rfl) (fun _ _ _ h => h) (Or.inl ⟨by rfl, ?_⟩) (by assumption) ?_
       rotate_left
       ·(intro w' hSw; (try dsimp only at hSw); go_simp; try with_reducible rfl)
       simp only [List.getElem_toArray, List.getElem_cons_succ, List.getElem_cons_zero, Act.put, List.setIfInBounds_toArray, List.set_cons_zero, List.set_cons_succ]
       refine wpAnyH_take (i := 14) (v := ?_) rfl (by kernel_rfl) (by kernel_rfl) (by kernel_rfl) (fun _ _ _ h => h) (Or.inl ⟨by rfl, ?_⟩) (by assumption) ?_
       rotate_left
       ·(intro w' hSw; (try dsimp only at hSw); go_simp; try with_reducible rfl)
       simp only [List.getElem_toArray, List.getElem_cons_succ, List.getElem_cons_zero, Act.put, List.setIfInBounds_toArray, List.set_cons_zero, List.set_cons_succ]
       refine wpAnyH_take (i := 15) (v := ?_) rfl (by kernel_rfl) (by kernel_rfl) (by kernel_rfl) (fun _ _ _ h => h) (Or.inl ⟨by rfl, ?_⟩) (by assumption) ?_
       rotate_left
       ·(intro w' hSw; (try dsimp only at hSw); go_simp; try with_reducible rfl)
       simp only [List.getElem_toArray, List.getElem_cons_succ, List.getElem_cons_zero, Act.put, List.setIfInBounds_toArray, List.set_cons_zero, List.set_cons_succ]
       refine wpAnyH_take (i := 16) (v := ?_) rfl (by kernel_rfl) (by kernel_rfl) (by kernel_rfl) (fun _ _ _ h => h) (Or.inl ⟨by rfl, ?_⟩) (by assumption) ?_
       rotate_left
       ·(intro w' hSw; (try dsimp only at hSw); go_simp; try with_reducible rfl)
       simp only [List.getElem_toArray, List.getElem_cons_succ, List.getElem_cons_zero, Act.put, List.setIfInBounds_toArray, List.set_cons_zero, List.set_cons_succ]
       refine wpAnyH_take (i := 17) (v := ?_) rfl (by kernel_rfl) (by kernel_rfl) (by kernel_rfl) (fun _ _ _ h => h) (Or.inl ⟨by rfl, ?_⟩) (by assumption) ?_
       rotate_left
       ·(intro w' hSw; (try dsimp only at hSw); go_simp; try with_reducible rfl)
       simp only [List.getElem_toArray, List.getElem_cons_succ, List.getElem_cons_zero, Act.put, List.setIfInBounds_toArray, List.set_cons_zero, List.set_cons_succ]
       refine wpAnyH_take (i := 18) (v := ?_) rfl (by kernel_rfl) (by kernel_rfl) (by kernel_rfl) (fun _ _ _ h => h) (Or.inl ⟨by rfl, ?_⟩) (by assumption) ?_
       rotate_left
       ·(intro w' hSw; (try dsimp only at hSw); go_simp; try with_reducible rfl)
       simp only [List.getElem_toArray, List.getElem_cons_succ, List.getElem_cons_zero, Act.put, List.setIfInBounds_toArray, List.set_cons_zero, List.set_cons_succ]
       refine wpAnyH_ready (rs := [19]) (by kernel_rfl) (by simp) ?_
       refine AllReadyH.cons rfl (fun K hK => ?_) AllReadyH.nil
       go_simp
       refine (HNa.out _).mono ?_
       rintro x' w5 ⟨rfl, hb⟩
       have C5 := Aside0.mk (below_step (by (repeat (first | (with_reducible first | exact C4.out | apply below_alloc | apply pw_below_drewN | apply below_drew1) | exact C4.out))) hb)
       have B5 := Aside0.mk (below_step (by (repeat (first | (with_reducible first | exact B4.out | apply below_alloc | apply pw_below_drewN | apply below_drew1) | exact B4.out))) hb)
       clear hb
       try dsimp only
       refine hK.out _ _ (HK.out _ C5.out) (fun hH5 => ?_)
       clear hK K
       try simp only [List.getElem_toArray, List.getElem_cons_succ, List.getElem_cons_zero, Act.put, List.setIfInBounds_toArray, List.set_cons_zero, List.set_cons_succ]
       clear hH4
       refine wpAnyH_take (i := 20) (v := ?_) rfl (by kernel_rfl) (by kernel_rfl) (by kernel_rfl) (fun _ _ _ h => h) (Or.inl ⟨by rfl, ?_⟩) (by assumption) ?_
       rotate_left
       ·(intro w' hSw; (try dsimp only at hSw); go_simp; try with_reducible rfl)
       simp only [List.getElem_toArray, List.getElem_cons_succ, List.getElem_cons_zero, Act.put, List.setIfInBounds_toArray, List.set_cons_zero, List.set_cons_succ]
       refine wpAnyH_take (i := 21) (v := ?_) rfl (by kernel_rfl) (by kernel_rfl) (by kernel_rfl) (fun _ _ _ h => h) (Or.inl ⟨by rfl, ?_⟩) (by assumption) ?_
       rotate_left
       ·(intro w' hSw; (try dsimp only at hSw); go_simp; try with_reducible rfl)
       simp only [List.getElem_toArray, List.getElem_cons_succ, List.getElem_cons_zero, Act.put, List.setIfInBounds_toArray, List.set_cons_zero, List.set_cons_succ]
       refine wpAnyH_take (i := 22) (v := ?_) rfl (by kernel_rfl) (by kernel_rfl) (by kernel_rfl) (fun _ _ _ h => h) (Or.inl ⟨by rfl, ?_⟩) (by assumption) ?_
       rotate_left
       ·(intro w' hSw; (try dsimp only at hSw); go_simp; try with_reducible rfl)
       simp only [List.getElem_toArray, List.getElem_cons_succ, List.getElem_cons_zero, Act.put, List.setIfInBounds_toArray, List.set_cons_zero, List.set_cons_succ]
       refine wpAnyH_take (i := 23) (v := ?_) rfl (by kernel_rfl) (by kernel_rfl) (by kernel_rfl) (fun _ _ _ h => h) (Or.inl ⟨by rfl, ?_⟩) (by assumption) ?_
       rotate_left
       ·(intro w' hSw; (try dsimp only at hSw); go_simp; try with_reducible rfl)
       simp only [List.getElem_toArray, List.getElem_cons_succ, List.getElem_cons_zero, Act.put, List.setIfInBounds_toArray, List.set_cons_zero, List.set_cons_succ]
       refine wpAnyH_take (i := 24) rfl (by kernel_rfl) (by kernel_rfl) (by kernel_rfl) (fun _ _ _ h => h) (Or.inr ⟨by rfl, rfl⟩) (by assumption) ?_
       simp only [List.getElem_toArray, List.getElem_cons_succ, List.getElem_cons_zero, Act.put, List.setIfInBounds_toArray, List.set_cons_zero, List.set_cons_succ]
       refine wpAnyH_take (i := 25) rfl (by kernel_rfl) (by kernel_rfl) (by kernel_rfl) (fun _ _ _ h => h) (Or.inr ⟨by rfl, rfl⟩) (by assumption) ?_
       simp only [List.getElem_toArray, List.getElem_cons_succ, List.getElem_cons_zero, Act.put, List.setIfInBounds_toArray, List.set_cons_zero, List.set_cons_succ]
       refine wpAnyH_take (i := 26) rfl (by kernel_rfl) (by kernel_rfl) (by kernel_rfl) (fun _ _ _ h => h) (Or.inr ⟨by rfl, rfl⟩) (by assumption) ?_
       simp only [List.getElem_toArray, List.getElem_cons_succ, List.getElem_cons_zero, Act.put, List.setIfInBounds_toArray, List.set_cons_zero, List.set_cons_succ]
       refine wpAnyH_take (i := 27) rfl (by kernel_rfl) (by kernel_rfl) (by kernel_rfl) (fun _ _ _ h => h) (Or.inr ⟨by rfl, rfl⟩) (by assumption) ?_
       simp only [List.getElem_toArray, List.getElem_cons_succ, List.getElem_cons_zero, Act.put, List.setIfInBounds_toArray, List.set_cons_zero, List.set_cons_succ]
       refine wpAnyH_take (i := 28) rfl (by kernel_rfl) (by kernel_rfl) (by kernel_rfl) (fun _ _ _ h => h) (Or.inr ⟨by rfl, rfl⟩) (by assumption) ?_
       simp only [List.getElem_toArray, List.getElem_cons_succ, List.getElem_cons_zero, Act.put, List.setIfInBounds_toArray, List.set_cons_zero, List.set_cons_succ]
       refine wpAnyH_take (i := 29) rfl (by kernel_rfl) (by kernel_rfl) (by kernel_rfl) (fun _ _ _ h => h) (Or.inr ⟨by rfl, rfl⟩) (by assumption) ?_
       simp only [List.getElem_toArray, List.getElem_cons_succ, List.getElem_cons_zero, Act.put, List.setIfInBounds_toArray, List.set_cons_zero, List.set_cons_succ]
       refine wpAnyH_take (i := 30) rfl (by kernel_rfl) (by kernel_rfl) (by kernel_rfl) (fun _ _ _ h => h) (Or.inr ⟨by rfl, rfl⟩) (by assumption) ?_
       simp only [List.getElem_toArray, List.getElem_cons_succ, List.getElem_cons_zero, Act.put, List.setIfInBounds_toArray, List.set_cons_zero, List.set_cons_succ]
       refine wpAnyH_take (i := 31) rfl (by kernel_rfl) (by kernel_rfl) (by kernel_rfl) (fun _ _ _ h => h) (Or.inr ⟨by rfl, rfl⟩) (by assumption) ?_
       simp only [List.getElem_toArray, List.getElem_cons_succ, List.getElem_cons_zero, Act.put, List.setIfInBounds_toArray, List.set_cons_zero, List.set_cons_succ]
       refine wpAnyH_take (i := 32) (v := ?_) rfl (by kernel_rfl) (by kernel_rfl) (by kernel_rfl) (fun _ _ _ h => h) (Or.inl ⟨by rfl, ?_⟩) (by assumption) ?_
       rotate_left
       ·(intro w' hSw; (try dsimp only at hSw); go_simp; try with_reducible rfl)
       simp only [List.getElem_toArray, List.getElem_cons_succ, List.getElem_cons_zero, Act.put, List.setIfInBounds_toArray, List.set_cons_zero, List.set_cons_succ]
       refine wpAnyH_done (by kernel_rfl) ?_ _
       clear hH5 HK
       go_wp2_with fail
       go_ret
       exact ⟨rfl, by first | exact B5.out | exact pw_below_drewN B5.out _ | ((repeat (first | (with_reducible first | exact B5.out | apply below_alloc | apply pw_below_drewN | apply below_drew1) | exact B5.out)); done)⟩
      | true =>
       generalize e.f1 = n at *
       by_cases n0 : n = 0
       ·subst n0
        obtain rfl : fm = fs := by rw [hform]; simp [hasN]
        subst hfs
        clear hform
        obtain ⟨W2, hW2⟩ : ∃ W2, w.alloc (.cells #[.int .i64 3, .int .u64 0, .string e.f2, .slice A e.f3.length c] 50) = W2 := ⟨_, rfl⟩
        have BB : Aside0 (Below w.heap.size w W2) := ⟨by rw [← hW2]; exact below_alloc (Below.refl _ _) _⟩
        obtain ⟨z0, z1, z2, z3⟩ : W2.cell? ⟨w.heap.size, 0, none⟩ = some (.int .i64 3) ∧ W2.cell? ⟨w.heap.size, 1, none⟩ = some (.int .u64 0) ∧ W2.cell? ⟨w.heap.size, 2, none⟩ = some (.string e.f2) ∧ W2.cell? ⟨w.heap.size, 3, none⟩ = some (.slice A e.f3.length c) := by rw [← hW2]; simp [go_sem]
        go_enter Tryz.func103, Tryz.ntmps103
        go_upto_region 1 with (fail)
        try rw [hW2]
        clear hW2
        go_upto_region 2 with (fail)
        have HK := Aside0.mk (show ∀ w', Below W2.heap.size W2 w' → w'.cell? ⟨w.heap.size, 0, none⟩ = some (.int .i64 3) ∧ w'.cell? ⟨w.heap.size, 1, none⟩ = some (.int .u64 0) ∧ w'.cell? ⟨w.heap.size, 2, none⟩ = some (.string e.f2) ∧ w'.cell? ⟨w.heap.size, 3, none⟩ = some (.slice A e.f3.length c) from fun w' hb => ⟨kept_cell hb z0, kept_cell hb z1, kept_cell hb z2, kept_cell hb z3⟩)
        have C2 := Aside0.mk (Below.refl W2.heap.size W2)
        have hS0 := HK.out W2 C2.out
        clear z0 z1 z2 z3
        first | (go_region_held3 (fun w' => w'.cell? ⟨w.heap.size, 0, none⟩ = some (.int .i64 3) ∧ w'.cell? ⟨w.heap.size, 1, none⟩ = some (.int .u64 0) ∧ w'.cell? ⟨w.heap.size, 2, none⟩ = some (.string e.f2) ∧ w'.cell? ⟨w.heap.size, 3, none⟩ = some (.slice A e.f3.length c))
         (first | exact hS0 | (refine HK.out _ ?_; (repeat (first | (with_reducible first | exact C5.out | apply below_alloc | apply pw_below_drewN | apply below_drew1) | exact C5.out)); done) | (refine HK.out _ ?_; (repeat (first | (with_reducible first | exact C4.out | apply below_alloc | apply pw_below_drewN | apply below_drew1) | exact C4.out)); done) | (refine HK.out _ ?_; (repeat (first | (with_reducible first | exact C2.out | apply below_alloc | apply pw_below_drewN | apply below_drew1) | exact C2.out)); done))
         (first | (go_at_call 110; refine (HPa.out _).mono ?_; rintro x' w4 ⟨rfl, hb⟩; have B4 := Aside0.mk (below_step (by (repeat (first | (with_reducible first | exact BB.out | apply below_alloc | apply pw_below_drewN | apply below_drew1) | exact BB.out))) hb); have C4 := Aside0.mk (below_step (by (repeat (first | (with_reducible first | exact C2.out | apply below_alloc | apply pw_below_drewN | apply below_drew1) | exact C2.out))) hb); clear hb) | (go_at_call 78; refine (HNa.out _).mono ?_; rintro x' w5 ⟨rfl, hb⟩; have B5 := Aside0.mk (below_step (by (repeat (first | (with_reducible first | exact B4.out | apply below_alloc | apply pw_below_drewN | apply below_drew1) | exact B4.out))) hb); have C5 := Aside0.mk (below_step (by (repeat (first | (with_reducible first | exact C4.out | apply below_alloc | apply pw_below_drewN | apply below_drew1) | exact C4.out))) hb); clear hb))) | fail
        obtain ⟨y0, y1, y2, y3⟩ := HK.out _ C5.out
        have hll : (e.f3.length : Int) ≤ 9223372036854775807 := HLL.out
        go_wp2_with fail
        go_loopg [50] (e.f3.length) (fun m v wr => ∃ i : Nat, v = .int .i64 i ∧ m = e.f3.length - i ∧ i ≤ e.f3.length ∧ (∀ j, j < i → (rd_T50 e.f3 j).formB = true) ∧ Below w5.heap.size w5 wr)
        case atStart => exact ⟨0, rfl, by omega, by omega, fun j h => absurd h (by omega), by first | exact Below.refl _ _ | exact pw_below_drewN (Below.refl _ _) _⟩
        case round =>
         obtain ⟨i, rfl, rfl, hi, hok, R⟩ := hrel
         have HOK := Aside0.mk hok
         replace y0 := kept_cell R y0
         replace y1 := kept_cell R y1
         replace y2 := kept_cell R y2
         replace y3 := kept_cell R y3
         clear hok hS0
         by_cases hlt : i < e.f3.length
         ·obtain ⟨q, A1, c1, x0, x1, x2, x3, hq, HC⟩ := HKid.out i hlt wr (below_step B5.out R)
          subst hq
          have hlt' : (i : Int) < (e.f3.length : Int) := by omega
          have HF := Aside0.mk (S50.formsB_false hlt)
          obtain ⟨d, hd⟩ : ∃ d, rd_T50 e.f3 i = d := ⟨_, rfl⟩
          rw [hd] at x0 x1 x2 x3 HC HF
          have HDD := Aside0.mk hd
          clear hd
          have RR := Aside0.mk R
          have HCr := Aside0.mk (HC (wr.alloc (.cells #[.int .i64 d.f0, .int .u64 d.f1, .string d.f2, .slice A1 d.f3.length c1] 50)) (below_alloc (Below.refl _ _) _))
          clear R HC
          cases hv : d.formB with
          | false =>
           rw [hv] at HCr
           have HV := Aside0.mk (HF.out hv)
           clear hv HF
           go_wp2_with (go_at_call 103; refine HCr.out.mono ?_; rintro x' w6 ⟨rfl, hb⟩)
           go_ret
           exact ⟨by rw [HV.out]; rfl, below_step (below_alloc (below_step B5.out RR.out) _) hb⟩
          | true =>
           rw [hv] at HCr
           have HD : Aside0 ((rd_T50 e.f3 i).formB = true) := ⟨by rw [HDD.out]; exact hv⟩
           clear hv
           go_wp2_with (go_at_call 103; refine HCr.out.mono ?_; rintro x' w6 ⟨rfl, hb⟩)
           go_roundg (e.f3.length - (i + 1))
           case measure => omega
           case rel => exact ⟨i + 1, by simp, rfl, by omega, form_step HOK.out HD.out, below_step (below_alloc RR.out _) hb⟩
         ·have hlt' : ¬ ((i : Int) < (e.f3.length : Int)) := by omega
          have hie : i = e.f3.length := by omega
          subst hie
          have RR := Aside0.mk R
          clear R
          go_wp2_with fail
          go_ret
          exact ⟨by rw [S50.formsB_true HOK.out]; rfl, below_step B5.out RR.out⟩
       ·have b1 : (n == 0) = false := beq_eq_false_iff_ne.mpr n0
        have b2 : (n != 0) = true := bne_iff_ne.mpr n0
        obtain rfl : fm = false := by rw [hform]; simp [n0, hasN]
        clear n0 hfs
        clear hform
        obtain ⟨W2, hW2⟩ : ∃ W2, w.alloc (.cells #[.int .i64 3, .int .u64 n, .string e.f2, .slice A e.f3.length c] 50) = W2 := ⟨_, rfl⟩
        have BB : Aside0 (Below w.heap.size w W2) := ⟨by rw [← hW2]; exact below_alloc (Below.refl _ _) _⟩
        obtain ⟨z0, z1, z2, z3⟩ : W2.cell? ⟨w.heap.size, 0, none⟩ = some (.int .i64 3) ∧ W2.cell? ⟨w.heap.size, 1, none⟩ = some (.int .u64 n) ∧ W2.cell? ⟨w.heap.size, 2, none⟩ = some (.string e.f2) ∧ W2.cell? ⟨w.heap.size, 3, none⟩ = some (.slice A e.f3.length c) := by rw [← hW2]; simp [go_sem]
        go_enter Tryz.func103, Tryz.ntmps103
        go_upto_region 1 with (fail)
        try rw [hW2]
        clear hW2
        go_upto_region 2 with (fail)
        have HK := Aside0.mk (show ∀ w', Below W2.heap.size W2 w' → w'.cell? ⟨w.heap.size, 0, none⟩ = some (.int .i64 3) ∧ w'.cell? ⟨w.heap.size, 1, none⟩ = some (.int .u64 n) ∧ w'.cell? ⟨w.heap.size, 2, none⟩ = some (.string e.f2) ∧ w'.cell? ⟨w.heap.size, 3, none⟩ = some (.slice A e.f3.length c) from fun w' hb => ⟨kept_cell hb z0, kept_cell hb z1, kept_cell hb z2, kept_cell hb z3⟩)
        have C2 := Aside0.mk (Below.refl W2.heap.size W2)
        have hS0 := HK.out W2 C2.out
        clear z0 z1 z2 z3
        first | (go_region_held3 (fun w' => w'.cell? ⟨w.heap.size, 0, none⟩ = some (.int .i64 3) ∧ w'.cell? ⟨w.heap.size, 1, none⟩ = some (.int .u64 n) ∧ w'.cell? ⟨w.heap.size, 2, none⟩ = some (.string e.f2) ∧ w'.cell? ⟨w.heap.size, 3, none⟩ = some (.slice A e.f3.length c))
         (first | exact hS0 | (refine HK.out _ ?_; (repeat (first | (with_reducible first | exact C5.out | apply below_alloc | apply pw_below_drewN | apply below_drew1) | exact C5.out)); done) | (refine HK.out _ ?_; (repeat (first | (with_reducible first | exact C4.out | apply below_alloc | apply pw_below_drewN | apply below_drew1) | exact C4.out)); done) | (refine HK.out _ ?_; (repeat (first | (with_reducible first | exact C2.out | apply below_alloc | apply pw_below_drewN | apply below_drew1) | exact C2.out)); done))
         (first | (go_at_call 110; refine (HPa.out _).mono ?_; rintro x' w4 ⟨rfl, hb⟩; have B4 := Aside0.mk (below_step (by (repeat (first | (with_reducible first | exact BB.out | apply below_alloc | apply pw_below_drewN | apply below_drew1) | exact BB.out))) hb); have C4 := Aside0.mk (below_step (by (repeat (first | (with_reducible first | exact C2.out | apply below_alloc | apply pw_below_drewN | apply below_drew1) | exact C2.out))) hb); clear hb) | (go_at_call 78; refine (HNa.out _).mono ?_; rintro x' w5 ⟨rfl, hb⟩; have B5 := Aside0.mk (below_step (by (repeat (first | (with_reducible first | exact B4.out | apply below_alloc | apply pw_below_drewN | apply below_drew1) | exact B4.out))) hb); have C5 := Aside0.mk (below_step (by (repeat (first | (with_reducible first | exact C4.out | apply below_alloc | apply pw_below_drewN | apply below_drew1) | exact C4.out))) hb); clear hb))) | fail
        go_wp2_with fail
        go_ret
        exact ⟨rfl, by first | exact B5.out | exact pw_below_drewN B5.out _ | ((repeat (first | (with_reducible first | exact B5.out | apply below_alloc | apply pw_below_drewN | apply below_drew1) | exact B5.out)); done)⟩
     ·have a3 : (k == 3) = false := beq_eq_false_iff_ne.mpr k3
      by_cases k1 : k = 1
      ·subst k1
       clear k2 k3
       obtain rfl : fm = false := by rw [hform]; simp [hasN]
       clear hfs
       clear hform
       obtain ⟨W2, hW2⟩ : ∃ W2, w.alloc (.cells #[.int .i64 1, .int .u64 e.f1, .string e.f2, .slice A e.f3.length c] 50) = W2 := ⟨_, rfl⟩
       have BB : Aside0 (Below w.heap.size w W2) := ⟨by rw [← hW2]; exact below_alloc (Below.refl _ _) _⟩
       obtain ⟨z0, z1, z2, z3⟩ : W2.cell? ⟨w.heap.size, 0, none⟩ = some (.int .i64 1) ∧ W2.cell? ⟨w.heap.size, 1, none⟩ = some (.int .u64 e.f1) ∧ W2.cell? ⟨w.heap.size, 2, none⟩ = some (.string e.f2) ∧ W2.cell? ⟨w.heap.size, 3, none⟩ = some (.slice A e.f3.length c) := by rw [← hW2]; simp [go_sem]
       go_enter Tryz.func103, Tryz.ntmps103
       go_upto_region 1 with (fail)
       try rw [hW2]
       clear hW2
       go_upto_region 2 with (fail)
       go_quiet ((go_at_call 110; refine Calls.quiet_of (HPq.out _)))
       have B5 := BB
       go_wp2_with fail
       go_ret
       exact ⟨rfl, by first | exact B5.out | exact pw_below_drewN B5.out _ | ((repeat (first | (with_reducible first | exact B5.out | apply below_alloc | apply pw_below_drewN | apply below_drew1) | exact B5.out)); done)⟩
      ·have a1 : (k == 1) = false := beq_eq_false_iff_ne.mpr k1
       have a1' : (k != 1) = true := bne_iff_ne.mpr k1
       rw [show hasN k = false from by unfold hasN; simp [k2, k3]] at hform
       have hk1 : decide (k = 1) = false := decide_eq_false k1
       clear k1 k2 k3
       obtain rfl : fm = false := by rw [hform]; simp
       clear hfs
       clear hform
       obtain ⟨W2, hW2⟩ : ∃ W2, w.alloc (.cells #[.int .i64 k, .int .u64 e.f1, .string e.f2, .slice A e.f3.length c] 50) = W2 := ⟨_, rfl⟩
       have BB : Aside0 (Below w.heap.size w W2) := ⟨by rw [← hW2]; exact below_alloc (Below.refl _ _) _⟩
       obtain ⟨z0, z1, z2, z3⟩ : W2.cell? ⟨w.heap.size, 0, none⟩ = some (.int .i64 k) ∧ W2.cell? ⟨w.heap.size, 1, none⟩ = some (.int .u64 e.f1) ∧ W2.cell? ⟨w.heap.size, 2, none⟩ = some (.string e.f2) ∧ W2.cell? ⟨w.heap.size, 3, none⟩ = some (.slice A e.f3.length c) := by rw [← hW2]; simp [go_sem]
       go_enter Tryz.func103, Tryz.ntmps103
       go_upto_region 1 with (fail)
       try rw [hW2]
       clear hW2
       go_upto_region 2 with (fail)
       go_quiet ((go_at_call 110; refine Calls.quiet_of (HPq.out _)))
       have B5 := BB
       go_wp2_with fail
       go_ret
       exact ⟨rfl, by first | exact B5.out | exact pw_below_drewN B5.out _ | ((repeat (first | (with_reducible first | exact B5.out | apply below_alloc | apply pw_below_drewN | apply below_drew1) | exact B5.out)); done)⟩
  ·have p1 : (pk == (e.f3.length : Int)) = false := beq_eq_false_iff_ne.mpr hp
   have p2 : (pk != (e.f3.length : Int)) = true := bne_iff_ne.mpr hp
   have p3 : ((e.f3.length : Int) == pk) = false := beq_eq_false_iff_ne.mpr (Ne.symm hp)
   have p4 : ((e.f3.length : Int) != pk) = true := bne_iff_ne.mpr (Ne.symm hp)
   rw [decide_eq_false hp, Bool.false_and] at hform
   subst hform
   clear hp
   generalize e.f0 = k at *
   by_cases k2 : k = 2
   ·subst k2
    clear hfs
    skip
    obtain ⟨W2, hW2⟩ : ∃ W2, w.alloc (.cells #[.int .i64 2, .int .u64 e.f1, .string e.f2, .slice A e.f3.length c] 50) = W2 := ⟨_, rfl⟩
    have BB : Aside0 (Below w.heap.size w W2) := ⟨by rw [← hW2]; exact below_alloc (Below.refl _ _) _⟩
    obtain ⟨z0, z1, z2, z3⟩ : W2.cell? ⟨w.heap.size, 0, none⟩ = some (.int .i64 2) ∧ W2.cell? ⟨w.heap.size, 1, none⟩ = some (.int .u64 e.f1) ∧ W2.cell? ⟨w.heap.size, 2, none⟩ = some (.string e.f2) ∧ W2.cell? ⟨w.heap.size, 3, none⟩ = some (.slice A e.f3.length c) := by rw [← hW2]; simp [go_sem]
    go_enter Tryz.func103, Tryz.ntmps103
    go_upto_region 1 with (fail)
    try rw [hW2]
    clear hW2
    go_upto_region 2 with (fail)
    go_quiet ((go_at_call 110; refine Calls.quiet_of (HPq.out _)))
    have B5 := BB
    go_wp2_with fail
    go_ret
    exact ⟨rfl, by first | exact B5.out | exact pw_below_drewN B5.out _ | ((repeat (first | (with_reducible first | exact B5.out | apply below_alloc | apply pw_below_drewN | apply below_drew1) | exact B5.out)); done)⟩
   ·have a2 : (k == 2) = false := beq_eq_false_iff_ne.mpr k2
    by_cases k3 : k = 3
    ·subst k3
     clear k2
     clear hfs
     skip
     obtain ⟨W2, hW2⟩ : ∃ W2, w.alloc (.cells #[.int .i64 3, .int .u64 e.f1, .string e.f2, .slice A e.f3.length c] 50) = W2 := ⟨_, rfl⟩
     have BB : Aside0 (Below w.heap.size w W2) := ⟨by rw [← hW2]; exact below_alloc (Below.refl _ _) _⟩
     obtain ⟨z0, z1, z2, z3⟩ : W2.cell? ⟨w.heap.size, 0, none⟩ = some (.int .i64 3) ∧ W2.cell? ⟨w.heap.size, 1, none⟩ = some (.int .u64 e.f1) ∧ W2.cell? ⟨w.heap.size, 2, none⟩ = some (.string e.f2) ∧ W2.cell? ⟨w.heap.size, 3, none⟩ = some (.slice A e.f3.length c) := by rw [← hW2]; simp [go_sem]
     go_enter Tryz.func103, Tryz.ntmps103
     go_upto_region 1 with (fail)
     try rw [hW2]
     clear hW2
     go_upto_region 2 with (fail)
     go_quiet ((go_at_call 110; refine Calls.quiet_of (HPq.out _)))
     have B5 := BB
     go_wp2_with fail
     go_ret
     exact ⟨rfl, by first | exact B5.out | exact pw_below_drewN B5.out _ | ((repeat (first | (with_reducible first | exact B5.out | apply below_alloc | apply pw_below_drewN | apply below_drew1) | exact B5.out)); done)⟩
    ·have a3 : (k == 3) = false := beq_eq_false_iff_ne.mpr k3
     clear k2 k3
     clear hfs
     skip
     obtain ⟨W2, hW2⟩ : ∃ W2, w.alloc (.cells #[.int .i64 k, .int .u64 e.f1, .string e.f2, .slice A e.f3.length c] 50) = W2 := ⟨_, rfl⟩
     have BB : Aside0 (Below w.heap.size w W2) := ⟨by rw [← hW2]; exact below_alloc (Below.refl _ _) _⟩
     obtain ⟨z0, z1, z2, z3⟩ : W2.cell? ⟨w.heap.size, 0, none⟩ = some (.int .i64 k) ∧ W2.cell? ⟨w.heap.size, 1, none⟩ = some (.int .u64 e.f1) ∧ W2.cell? ⟨w.heap.size, 2, none⟩ = some (.string e.f2) ∧ W2.cell? ⟨w.heap.size, 3, none⟩ = some (.slice A e.f3.length c) := by rw [← hW2]; simp [go_sem]
     go_enter Tryz.func103, Tryz.ntmps103
     go_upto_region 1 with (fail)
     try rw [hW2]
     clear hW2
     go_upto_region 2 with (fail)
     go_quiet ((go_at_call 110; refine Calls.quiet_of (HPq.out _)))
     have B5 := BB
     go_wp2_with fail
     go_ret
     exact ⟨rfl, by first | exact B5.out | exact pw_below_drewN B5.out _ | ((repeat (first | (with_reducible first | exact B5.out | apply below_alloc | apply pw_below_drewN | apply below_drew1) | exact B5.out)); done)⟩
end Go.Proofs.YtjomofepephodaaGreat.PEquivShapes
