/-
  The form of statements, in package lang. Conditions: what each theorem names.
-/
import Derived.Lib.Strings
import Derived.Test.YtjomofepephodaaGreatGg
import Derived.Test.YtjomofepephodaaGreatGk
set_option linter.unusedVariables false
set_option linter.unusedSimpArgs false
namespace Go.Proofs.YtjomofepephodaaGreat.PEquivShapes
open Go.RowKit
open Go.Proofs.YtjomofepephodaaGreatW.PrintWords Go.Proofs.YtjomofepephodaaGreatW.PrintLast Go.Proofs.YtjomofepephodaaGreatW.PrintMore
/-- a statement in a block of its own -/
def Box52 (w : World) (g : Nat) (k : Int) (nm : ByteArray) (a : S50) (A5 : Option Addr) (c5 : Nat) (e : S50) (A9 : Option Addr) (c9 : Nat) (lo hi : Int) (t : List S52) (A12 : Option Addr) (c12 : Nat) (u : List S52) (A13 : Option Addr) (c13 : Nat) : Prop :=
 w.cell? ⟨g, 0, none⟩ = some (.int .i64 k) ∧ w.cell? ⟨g, 1, none⟩ = some (.string nm) ∧ w.cell? ⟨g, 2, none⟩ = some (.int .i64 a.f0) ∧ w.cell? ⟨g, 3, none⟩ = some (.int .u64 a.f1) ∧ w.cell? ⟨g, 4, none⟩ = some (.string a.f2) ∧ w.cell? ⟨g, 5, none⟩ = some (.slice A5 a.f3.length c5) ∧ w.cell? ⟨g, 6, none⟩ = some (.int .i64 e.f0) ∧ w.cell? ⟨g, 7, none⟩ = some (.int .u64 e.f1) ∧ w.cell? ⟨g, 8, none⟩ = some (.string e.f2) ∧ w.cell? ⟨g, 9, none⟩ = some (.slice A9 e.f3.length c9) ∧ w.cell? ⟨g, 10, none⟩ = some (.int .u64 lo) ∧ w.cell? ⟨g, 11, none⟩ = some (.int .u64 hi) ∧ w.cell? ⟨g, 12, none⟩ = some (.slice A12 t.length c12) ∧ w.cell? ⟨g, 13, none⟩ = some (.slice A13 u.length c13)
section
variable {w W : World} {g : Nat} {k : Int} {nm : ByteArray} {a : S50} {A5 : Option Addr} {c5 : Nat} {e : S50} {A9 : Option Addr} {c9 : Nat} {lo hi : Int} {t : List S52} {A12 : Option Addr} {c12 : Nat} {u : List S52} {A13 : Option Addr} {c13 : Nat}
theorem Box52.kept (h : Box52 w g k nm a A5 c5 e A9 c9 lo hi t A12 c12 u A13 c13) (hb : Below w.heap.size w W) : Box52 W g k nm a A5 c5 e A9 c9 lo hi t A12 c12 u A13 c13 := by
 obtain ⟨z0, z1, z2, z3, z4, z5, z6, z7, z8, z9, z10, z11, z12, z13⟩ := h
 exact ⟨kept_cell hb z0, kept_cell hb z1, kept_cell hb z2, kept_cell hb z3, kept_cell hb z4, kept_cell hb z5, kept_cell hb z6, kept_cell hb z7, kept_cell hb z8, kept_cell hb z9, kept_cell hb z10, kept_cell hb z11, kept_cell hb z12, kept_cell hb z13⟩
theorem Box52.drewN (h : Box52 w g k nm a A5 c5 e A9 c9 lo hi t A12 c12 u A13 c13) (n : Nat) : Box52 (w.drewN n) g k nm a A5 c5 e A9 c9 lo hi t A12 c12 u A13 c13 := h
end
theorem box52 (w : World) (k : Int) (nm : ByteArray) (a : S50) (A5 : Option Addr) (c5 : Nat) (e : S50) (A9 : Option Addr) (c9 : Nat) (lo hi : Int) (t : List S52) (A12 : Option Addr) (c12 : Nat) (u : List S52) (A13 : Option Addr) (c13 : Nat) : ∃ W, w.alloc (.cells #[.int .i64 k, .string nm, .int .i64 a.f0, .int .u64 a.f1, .string a.f2, .slice A5 a.f3.length c5, .int .i64 e.f0, .int .u64 e.f1, .string e.f2, .slice A9 e.f3.length c9, .int .u64 lo, .int .u64 hi, .slice A12 t.length c12, .slice A13 u.length c13] 52) = W ∧ Below w.heap.size w W ∧ Box52 W w.heap.size k nm a A5 c5 e A9 c9 lo hi t A12 c12 u A13 c13 :=
 ⟨_, rfl, below_alloc (Below.refl _ _) _, by simp [go_sem, Box52]⟩
theorem nameB_nil {s : ByteArray} (h : s.toList = []) : nameB s = false := by
 have hs : s.size = 0 := by
  have := congrArg List.length h
  rw [Lib.toList_data, Array.length_toList] at this
  exact this
 unfold nameB nmB
 rw [decide_eq_false (show ¬ 1 ≤ s.size by omega), Bool.false_and, Bool.false_and, Bool.false_and]
/-- a statement as a value -/
def S52.val (s : S52) (A5 : Option Addr) (c5 : Nat) (A9 : Option Addr) (c9 : Nat) (A12 : Option Addr) (c12 : Nat) (A13 : Option Addr) (c13 : Nat) : Value :=
 .agg #[.int .i64 s.f0, .string s.f1, .int .i64 s.f2.f0, .int .u64 s.f2.f1, .string s.f2.f2, .slice A5 s.f2.f3.length c5, .int .i64 s.f3.f0, .int .u64 s.f3.f1, .string s.f3.f2, .slice A9 s.f3.f3.length c9, .int .u64 s.f4, .int .u64 s.f5, .slice A12 s.f6.length c12, .slice A13 s.f7.length c13]
/-- a statement's cells lie in a row -/
def StIn (w : World) (ad : Addr) (i : Nat) (s : S52) (A5 : Option Addr) (c5 : Nat) (A9 : Option Addr) (c9 : Nat) (A12 : Option Addr) (c12 : Nat) (A13 : Option Addr) (c13 : Nat) : Prop :=
 w.cell? (ad.add (i * 14)) = some (.int .i64 s.f0) ∧ w.cell? ⟨(ad.add (i * 14)).block, (ad.add (i * 14)).off + 1, none⟩ = some (.string s.f1) ∧ w.cell? ⟨(ad.add (i * 14)).block, (ad.add (i * 14)).off + 2, none⟩ = some (.int .i64 s.f2.f0) ∧ w.cell? ⟨(ad.add (i * 14)).block, (ad.add (i * 14)).off + 3, none⟩ = some (.int .u64 s.f2.f1) ∧ w.cell? ⟨(ad.add (i * 14)).block, (ad.add (i * 14)).off + 4, none⟩ = some (.string s.f2.f2) ∧ w.cell? ⟨(ad.add (i * 14)).block, (ad.add (i * 14)).off + 5, none⟩ = some (.slice A5 s.f2.f3.length c5) ∧ w.cell? ⟨(ad.add (i * 14)).block, (ad.add (i * 14)).off + 6, none⟩ = some (.int .i64 s.f3.f0) ∧ w.cell? ⟨(ad.add (i * 14)).block, (ad.add (i * 14)).off + 7, none⟩ = some (.int .u64 s.f3.f1) ∧ w.cell? ⟨(ad.add (i * 14)).block, (ad.add (i * 14)).off + 8, none⟩ = some (.string s.f3.f2) ∧ w.cell? ⟨(ad.add (i * 14)).block, (ad.add (i * 14)).off + 9, none⟩ = some (.slice A9 s.f3.f3.length c9) ∧ w.cell? ⟨(ad.add (i * 14)).block, (ad.add (i * 14)).off + 10, none⟩ = some (.int .u64 s.f4) ∧ w.cell? ⟨(ad.add (i * 14)).block, (ad.add (i * 14)).off + 11, none⟩ = some (.int .u64 s.f5) ∧ w.cell? ⟨(ad.add (i * 14)).block, (ad.add (i * 14)).off + 12, none⟩ = some (.slice A12 s.f6.length c12) ∧ w.cell? ⟨(ad.add (i * 14)).block, (ad.add (i * 14)).off + 13, none⟩ = some (.slice A13 s.f7.length c13)
mutual
/-- is a statement of the form? -/
def S52.formB : S52 → Bool
 | ⟨k, s, a, e, lo, hi, t, u⟩ => decide (1 ≤ k) && (decide (k ≤ 5) && ((if k = 3 then decide (s.toList = []) else nameB s) && ((if k = 2 then a.formB else a.noneB) && ((if k ≤ 3 then e.formB else e.noneB) &&
   ((decide (k = 4) || (decide (lo = 0) && decide (hi = 0))) && ((decide (k = 3) || decide (k = 4) || decide (t.length = 0)) && ((decide (k = 3) || decide (u.length = 0)) && (S52.formsB t && S52.formsB u))))))))
def S52.formsB : List S52 → Bool
 | [] => true
 | x :: r => x.formB && S52.formsB r
end
theorem S52.formB_eq (x : S52) : x.formB = (decide (1 ≤ x.f0) && (decide (x.f0 ≤ 5) && ((if x.f0 = 3 then decide (x.f1.toList = []) else nameB x.f1) && ((if x.f0 = 2 then x.f2.formB else x.f2.noneB) && ((if x.f0 ≤ 3 then x.f3.formB else x.f3.noneB) &&
   ((decide (x.f0 = 4) || (decide (x.f4 = 0) && decide (x.f5 = 0))) && ((decide (x.f0 = 3) || decide (x.f0 = 4) || decide (x.f6.length = 0)) && ((decide (x.f0 = 3) || decide (x.f7.length = 0)) && (S52.formsB x.f6 && S52.formsB x.f7))))))))) := by
 obtain ⟨k, s, a, e, lo, hi, t, u⟩ := x
 rw [S52.formB]
theorem S52.formB_1 {nb ds af an ef en dt du ft fu : Bool} {lo hi : Int} : (decide ((1 : Int) ≤ 1) && (decide ((1 : Int) ≤ 5) && ((if (1 : Int) = 3 then ds else nb) && ((if (1 : Int) = 2 then af else an) && ((if (1 : Int) ≤ 3 then ef else en) && ((decide ((1 : Int) = 4) || (decide (lo = 0) && decide (hi = 0))) && ((decide ((1 : Int) = 3) || decide ((1 : Int) = 4) || dt) && ((decide ((1 : Int) = 3) || du) && (ft && fu))))))))) = (nb && (an && (ef && ((decide (lo = 0) && decide (hi = 0)) && (dt && (du && (ft && fu))))))) := by simp
theorem S52.formB_2 {nb ds af an ef en dt du ft fu : Bool} {lo hi : Int} : (decide ((1 : Int) ≤ 2) && (decide ((2 : Int) ≤ 5) && ((if (2 : Int) = 3 then ds else nb) && ((if (2 : Int) = 2 then af else an) && ((if (2 : Int) ≤ 3 then ef else en) && ((decide ((2 : Int) = 4) || (decide (lo = 0) && decide (hi = 0))) && ((decide ((2 : Int) = 3) || decide ((2 : Int) = 4) || dt) && ((decide ((2 : Int) = 3) || du) && (ft && fu))))))))) = (nb && (af && (ef && ((decide (lo = 0) && decide (hi = 0)) && (dt && (du && (ft && fu))))))) := by simp
theorem S52.formB_3 {nb ds af an ef en dt du ft fu : Bool} {lo hi : Int} : (decide ((1 : Int) ≤ 3) && (decide ((3 : Int) ≤ 5) && ((if (3 : Int) = 3 then ds else nb) && ((if (3 : Int) = 2 then af else an) && ((if (3 : Int) ≤ 3 then ef else en) && ((decide ((3 : Int) = 4) || (decide (lo = 0) && decide (hi = 0))) && ((decide ((3 : Int) = 3) || decide ((3 : Int) = 4) || dt) && ((decide ((3 : Int) = 3) || du) && (ft && fu))))))))) = (ds && (an && (ef && ((decide (lo = 0) && decide (hi = 0)) && (ft && fu))))) := by simp
theorem S52.formB_4 {nb ds af an ef en dt du ft fu : Bool} {lo hi : Int} : (decide ((1 : Int) ≤ 4) && (decide ((4 : Int) ≤ 5) && ((if (4 : Int) = 3 then ds else nb) && ((if (4 : Int) = 2 then af else an) && ((if (4 : Int) ≤ 3 then ef else en) && ((decide ((4 : Int) = 4) || (decide (lo = 0) && decide (hi = 0))) && ((decide ((4 : Int) = 3) || decide ((4 : Int) = 4) || dt) && ((decide ((4 : Int) = 3) || du) && (ft && fu))))))))) = (nb && (an && (en && (du && (ft && fu))))) := by simp
theorem S52.formB_5 {nb ds af an ef en dt du ft fu : Bool} {lo hi : Int} : (decide ((1 : Int) ≤ 5) && (decide ((5 : Int) ≤ 5) && ((if (5 : Int) = 3 then ds else nb) && ((if (5 : Int) = 2 then af else an) && ((if (5 : Int) ≤ 3 then ef else en) && ((decide ((5 : Int) = 4) || (decide (lo = 0) && decide (hi = 0))) && ((decide ((5 : Int) = 3) || decide ((5 : Int) = 4) || dt) && ((decide ((5 : Int) = 3) || du) && (ft && fu))))))))) = (nb && (an && (en && ((decide (lo = 0) && decide (hi = 0)) && (dt && (du && (ft && fu))))))) := by simp
theorem S52.formsB_eq (l : List S52) : S52.formsB l = l.all S52.formB := by
 induction l with
 | nil => rfl
 | cons x l ih => rw [S52.formsB, ih]; rfl
theorem S52.formsB_false {l : List S52} {i : Nat} (h : i < l.length) (hb : (rd_T52 l i).formB = false) : S52.formsB l = false := by
 have hd : rd_T52 l i = l[i] := by simp [rd_T52, h]
 rw [hd] at hb
 rw [S52.formsB_eq, List.all_eq_false]
 exact ⟨l[i], List.getElem_mem h, by simp [hb]⟩
theorem S52.formsB_true {l : List S52} (h : ∀ j, j < l.length → (rd_T52 l j).formB = true) : S52.formsB l = true := by
 rw [S52.formsB_eq, List.all_eq_true]
 intro x hx
 obtain ⟨j, hj, rfl⟩ := List.getElem_of_mem hx
 have := h j hj
 simpa [rd_T52, hj] using this
theorem stform_step {l : List S52} {i : Nat} (h : ∀ j, j < i → (rd_T52 l j).formB = true) (h1 : (rd_T52 l i).formB = true) : ∀ j, j < i + 1 → (rd_T52 l j).formB = true := fun j hj => by
 by_cases hj2 : j < i
 ·exact h j hj2
 ·obtain rfl : j = i := by omega
  exact h1
theorem lnone_any (e : S50) (A : Option Addr) (c : Nat) (w : World) (hC : k50.C w A e.f3.length e.f3) (hc : e.f3.length ≤ c) : Calls Tryz.prog 104 #[e.val A c] w fun x w' => x = .returned (.bool e.noneB) ∧ Below w.heap.size w w' :=
 lang_none.calls e.f0 e.f1 e.f2 A c e.f3 e.noneB w hC hc (lang_none_eq e)
set_option maxHeartbeats 16000000 in
set_option maxRecDepth 100000 in
theorem l_stmt (s : S52) (A5 : Option Addr) (c5 : Nat) (A9 : Option Addr) (c9 : Nat) (A12 : Option Addr) (c12 : Nat) (A13 : Option Addr) (c13 : Nat) (w : World)
  (hAf : ∀ W, Below w.heap.size w W → Calls Tryz.prog 103 #[s.f2.val A5 c5] W fun x w' => x = .returned (.bool s.f2.formB) ∧ Below W.heap.size W w')
  (hAn : ∀ W, Below w.heap.size w W → Calls Tryz.prog 104 #[s.f2.val A5 c5] W fun x w' => x = .returned (.bool s.f2.noneB) ∧ Below W.heap.size W w')
  (hEf : ∀ W, Below w.heap.size w W → Calls Tryz.prog 103 #[s.f3.val A9 c9] W fun x w' => x = .returned (.bool s.f3.formB) ∧ Below W.heap.size W w')
  (hEn : ∀ W, Below w.heap.size w W → Calls Tryz.prog 104 #[s.f3.val A9 c9] W fun x w' => x = .returned (.bool s.f3.noneB) ∧ Below W.heap.size W w')
  (hT : ∀ W, Below w.heap.size w W → Calls Tryz.prog 80 #[.slice A12 s.f6.length c12] W fun x w' => x = .returned (.bool (S52.formsB s.f6)) ∧ Below W.heap.size W w')
  (hU : ∀ W, Below w.heap.size w W → Calls Tryz.prog 80 #[.slice A13 s.f7.length c13] W fun x w' => x = .returned (.bool (S52.formsB s.f7)) ∧ Below W.heap.size W w') :
  Calls Tryz.prog 95 #[s.val A5 c5 A9 c9 A12 c12 A13 c13] w fun x w' => x = .returned (.bool s.formB) ∧ Below w.heap.size w w' := by
 have hform := S52.formB_eq s
 have HN : Aside0 (∀ W, Below w.heap.size w W → Calls Tryz.prog 78 #[.string s.f1] W fun x w' => x = .returned (.bool (nameB s.f1)) ∧ Below W.heap.size W w') := ⟨fun W _ => named_any s.f1 W⟩
 have hnil : s.f1.toList = [] → nameB s.f1 = false := nameB_nil
 obtain ⟨k, nm, a, e, lo, hi, t, u⟩ := s
 unfold S52.val
 simp only at hform HN hnil hAf hAn hEf hEn hT hU ⊢
 have HAf := Aside0.mk hAf
 have HAn := Aside0.mk hAn
 have HEf := Aside0.mk hEf
 have HEn := Aside0.mk hEn
 have HT := Aside0.mk hT
 have HU := Aside0.mk hU
 clear hAf hAn hEf hEn hT hU
 unfold S50.val at *
 generalize S52.formB ⟨k, nm, a, e, lo, hi, t, u⟩ = fm at *
 generalize nameB nm = nb at *
 generalize a.formB = af at *
 generalize a.noneB = an at *
 generalize e.formB = ef at *
 generalize e.noneB = en at *
 generalize S52.formsB t = ft at *
 generalize S52.formsB u = fu at *
 by_cases k1 : k < 1
 ·have a1 : decide (k < 1) = true := decide_eq_true k1
  rw [decide_eq_false (show ¬ 1 ≤ k by omega)] at hform
  have kn : (k == 2) = false := beq_eq_false_iff_ne.mpr (by omega)
  have kn3 : (k == 3) = false := beq_eq_false_iff_ne.mpr (by omega)
  have kn4 : (k == 4) = false := beq_eq_false_iff_ne.mpr (by omega)
  have kn5 : (k != 3) = true := bne_iff_ne.mpr (by omega)
  have kn6 : decide (k ≤ 3) = true := decide_eq_true (by omega)
  clear k1 hnil
  obtain rfl : fm = false := by rw [hform]; simp
  clear hform
  obtain ⟨W2, hW2, BB0, HZ0⟩ := box52 w k nm a A5 c5 e A9 c9 lo hi t A12 c12 u A13 c13
  have BB := Aside0.mk BB0
  have HZ := Aside0.mk HZ0
  obtain ⟨z0, z1, z2, z3, z4, z5, z6, z7, z8, z9, z10, z11, z12, z13⟩ := HZ0
  clear BB0
  go_enter Tryz.func95, Tryz.ntmps95
  go_upto_region 1 with (fail)
  try rw [hW2]
  clear hW2
  go_quiet (fail)
  go_wp2_with fail
  go_ret
  exact ⟨rfl, pw_below_drewN BB.out _⟩
 ·have a1 : decide (k < 1) = false := decide_eq_false k1
  by_cases k6 : 5 < k
  ·have a6 : decide (5 < k) = true := decide_eq_true k6
   rw [decide_eq_false (show ¬ k ≤ 5 by omega)] at hform
   have kn : (k == 2) = false := beq_eq_false_iff_ne.mpr (by omega)
   have kn3 : (k == 3) = false := beq_eq_false_iff_ne.mpr (by omega)
   have kn4 : (k == 4) = false := beq_eq_false_iff_ne.mpr (by omega)
   have kn5 : (k != 3) = true := bne_iff_ne.mpr (by omega)
   have kn6 : decide (k ≤ 3) = false := decide_eq_false (by omega)
   clear k1 k6 hnil
   obtain rfl : fm = false := by rw [hform]; simp
   clear hform
   obtain ⟨W2, hW2, BB0, HZ0⟩ := box52 w k nm a A5 c5 e A9 c9 lo hi t A12 c12 u A13 c13
   have BB := Aside0.mk BB0
   have HZ := Aside0.mk HZ0
   obtain ⟨z0, z1, z2, z3, z4, z5, z6, z7, z8, z9, z10, z11, z12, z13⟩ := HZ0
   clear BB0
   go_enter Tryz.func95, Tryz.ntmps95
   go_upto_region 1 with (fail)
   try rw [hW2]
   clear hW2
   go_quiet (fail)
   go_wp2_with fail
   go_ret
   exact ⟨rfl, pw_below_drewN BB.out _⟩
  ·have hk : k = 1 ∨ k = 2 ∨ k = 3 ∨ k = 4 ∨ k = 5 := by omega
   clear k1 k6 a1
   rcases hk with rfl | rfl | rfl | rfl | rfl
   ·rw [S52.formB_1] at hform
    clear hnil
    cases nb with
    | false =>
     obtain rfl : fm = false := by rw [hform]; simp
     clear hform
     obtain ⟨W2, hW2, BB0, HZ0⟩ := box52 w 1 nm a A5 c5 e A9 c9 lo hi t A12 c12 u A13 c13
     have BB := Aside0.mk BB0
     have HZ := Aside0.mk HZ0
     obtain ⟨z0, z1, z2, z3, z4, z5, z6, z7, z8, z9, z10, z11, z12, z13⟩ := HZ0
     clear BB0
     go_enter Tryz.func95, Tryz.ntmps95
     go_upto_region 1 with (fail)
     try rw [hW2]
     clear hW2
     go_quiet (fail)
     go_wp2_with (first | (go_at_call 78; refine (HN.out _ (pw_below_drewN BB.out _)).mono ?_; rintro x' w3 ⟨rfl, hb⟩; have Z1 := Aside0.mk ((HZ.out.drewN _).kept hb); obtain ⟨z0, z1, z2, z3, z4, z5, z6, z7, z8, z9, z10, z11, z12, z13⟩ := Z1.out; have B1 := Aside0.mk (below_step (pw_below_drewN BB.out _) hb); clear hb))
     go_ret
     exact ⟨rfl, B1.out⟩
    | true =>
     cases an with
     | false =>
      obtain rfl : fm = false := by rw [hform]; simp
      clear hform
      obtain ⟨W2, hW2, BB0, HZ0⟩ := box52 w 1 nm a A5 c5 e A9 c9 lo hi t A12 c12 u A13 c13
      have BB := Aside0.mk BB0
      have HZ := Aside0.mk HZ0
      obtain ⟨z0, z1, z2, z3, z4, z5, z6, z7, z8, z9, z10, z11, z12, z13⟩ := HZ0
      clear BB0
      go_enter Tryz.func95, Tryz.ntmps95
      go_upto_region 1 with (fail)
      try rw [hW2]
      clear hW2
      go_quiet (fail)
      go_wp2_with (first | (go_at_call 78; refine (HN.out _ (pw_below_drewN BB.out _)).mono ?_; rintro x' w3 ⟨rfl, hb⟩; have Z1 := Aside0.mk ((HZ.out.drewN _).kept hb); obtain ⟨z0, z1, z2, z3, z4, z5, z6, z7, z8, z9, z10, z11, z12, z13⟩ := Z1.out; have B1 := Aside0.mk (below_step (pw_below_drewN BB.out _) hb); clear hb) | (go_at_call 104; refine (HAn.out _ B1.out).mono ?_; rintro x' w4 ⟨rfl, hb⟩; have Z2 := Aside0.mk (Z1.out.kept hb); obtain ⟨z0, z1, z2, z3, z4, z5, z6, z7, z8, z9, z10, z11, z12, z13⟩ := Z2.out; have B2 := Aside0.mk (below_step B1.out hb); clear hb))
      go_ret
      exact ⟨rfl, B2.out⟩
     | true =>
      cases ef with
      | false =>
       obtain rfl : fm = false := by rw [hform]; simp
       clear hform
       obtain ⟨W2, hW2, BB0, HZ0⟩ := box52 w 1 nm a A5 c5 e A9 c9 lo hi t A12 c12 u A13 c13
       have BB := Aside0.mk BB0
       have HZ := Aside0.mk HZ0
       obtain ⟨z0, z1, z2, z3, z4, z5, z6, z7, z8, z9, z10, z11, z12, z13⟩ := HZ0
       clear BB0
       go_enter Tryz.func95, Tryz.ntmps95
       go_upto_region 1 with (fail)
       try rw [hW2]
       clear hW2
       go_quiet (fail)
       go_wp2_with (first | (go_at_call 78; refine (HN.out _ (pw_below_drewN BB.out _)).mono ?_; rintro x' w3 ⟨rfl, hb⟩; have Z1 := Aside0.mk ((HZ.out.drewN _).kept hb); obtain ⟨z0, z1, z2, z3, z4, z5, z6, z7, z8, z9, z10, z11, z12, z13⟩ := Z1.out; have B1 := Aside0.mk (below_step (pw_below_drewN BB.out _) hb); clear hb) | (go_at_call 104; refine (HAn.out _ B1.out).mono ?_; rintro x' w4 ⟨rfl, hb⟩; have Z2 := Aside0.mk (Z1.out.kept hb); obtain ⟨z0, z1, z2, z3, z4, z5, z6, z7, z8, z9, z10, z11, z12, z13⟩ := Z2.out; have B2 := Aside0.mk (below_step B1.out hb); clear hb) | (go_at_call 103; refine (HEf.out _ B2.out).mono ?_; rintro x' w5 ⟨rfl, hb⟩; have Z3 := Aside0.mk (Z2.out.kept hb); obtain ⟨z0, z1, z2, z3, z4, z5, z6, z7, z8, z9, z10, z11, z12, z13⟩ := Z3.out; have B3 := Aside0.mk (below_step B2.out hb); clear hb))
       go_ret
       exact ⟨rfl, B3.out⟩
      | true =>
       by_cases hlo : lo = 0
       ·subst hlo
        by_cases hhi : hi = 0
        ·subst hhi
         simp only [decide_true, Bool.true_and, Bool.or_true, Bool.and_true, Bool.true_or] at hform
         by_cases ht : t.length = 0
         ·rw [decide_eq_true ht] at hform
          have lt : decide ((0 : Int) < (t.length : Int)) = false := decide_eq_false (by omega)
          have mt : decide (0 < t.length) = false := decide_eq_false (by omega)
          clear ht
          by_cases hu : u.length = 0
          ·rw [decide_eq_true hu] at hform
           have lu : decide ((0 : Int) < (u.length : Int)) = false := decide_eq_false (by omega)
           have mu : decide (0 < u.length) = false := decide_eq_false (by omega)
           clear hu
           cases ft with
           | false =>
            obtain rfl : fm = false := by rw [hform]; simp
            clear hform
            obtain ⟨W2, hW2, BB0, HZ0⟩ := box52 w 1 nm a A5 c5 e A9 c9 0 0 t A12 c12 u A13 c13
            have BB := Aside0.mk BB0
            have HZ := Aside0.mk HZ0
            obtain ⟨z0, z1, z2, z3, z4, z5, z6, z7, z8, z9, z10, z11, z12, z13⟩ := HZ0
            clear BB0
            go_enter Tryz.func95, Tryz.ntmps95
            go_upto_region 1 with (fail)
            try rw [hW2]
            clear hW2
            go_quiet (fail)
            go_wp2_with (first | (go_at_call 78; refine (HN.out _ (pw_below_drewN BB.out _)).mono ?_; rintro x' w3 ⟨rfl, hb⟩; have Z1 := Aside0.mk ((HZ.out.drewN _).kept hb); obtain ⟨z0, z1, z2, z3, z4, z5, z6, z7, z8, z9, z10, z11, z12, z13⟩ := Z1.out; have B1 := Aside0.mk (below_step (pw_below_drewN BB.out _) hb); clear hb) | (go_at_call 104; refine (HAn.out _ B1.out).mono ?_; rintro x' w4 ⟨rfl, hb⟩; have Z2 := Aside0.mk (Z1.out.kept hb); obtain ⟨z0, z1, z2, z3, z4, z5, z6, z7, z8, z9, z10, z11, z12, z13⟩ := Z2.out; have B2 := Aside0.mk (below_step B1.out hb); clear hb) | (go_at_call 103; refine (HEf.out _ B2.out).mono ?_; rintro x' w5 ⟨rfl, hb⟩; have Z3 := Aside0.mk (Z2.out.kept hb); obtain ⟨z0, z1, z2, z3, z4, z5, z6, z7, z8, z9, z10, z11, z12, z13⟩ := Z3.out; have B3 := Aside0.mk (below_step B2.out hb); clear hb) | (go_at_call 80; refine (HT.out _ B3.out).mono ?_; rintro x' w6 ⟨rfl, hb⟩; have Z4 := Aside0.mk (Z3.out.kept hb); obtain ⟨z0, z1, z2, z3, z4, z5, z6, z7, z8, z9, z10, z11, z12, z13⟩ := Z4.out; have B4 := Aside0.mk (below_step B3.out hb); clear hb))
            go_ret
            exact ⟨rfl, B4.out⟩
           | true =>
            obtain rfl : fm = fu := by rw [hform]; simp
            clear hform
            obtain ⟨W2, hW2, BB0, HZ0⟩ := box52 w 1 nm a A5 c5 e A9 c9 0 0 t A12 c12 u A13 c13
            have BB := Aside0.mk BB0
            have HZ := Aside0.mk HZ0
            obtain ⟨z0, z1, z2, z3, z4, z5, z6, z7, z8, z9, z10, z11, z12, z13⟩ := HZ0
            clear BB0
            go_enter Tryz.func95, Tryz.ntmps95
            go_upto_region 1 with (fail)
            try rw [hW2]
            clear hW2
            go_quiet (fail)
            have T4 := Aside0.mk trivial
            go_wp2_with (first | (go_at_call 78; refine (HN.out _ (pw_below_drewN BB.out _)).mono ?_; rintro x' w3 ⟨rfl, hb⟩; have Z1 := Aside0.mk ((HZ.out.drewN _).kept hb); obtain ⟨z0, z1, z2, z3, z4, z5, z6, z7, z8, z9, z10, z11, z12, z13⟩ := Z1.out; have B1 := Aside0.mk (below_step (pw_below_drewN BB.out _) hb); clear hb) | (go_at_call 104; refine (HAn.out _ B1.out).mono ?_; rintro x' w4 ⟨rfl, hb⟩; have Z2 := Aside0.mk (Z1.out.kept hb); obtain ⟨z0, z1, z2, z3, z4, z5, z6, z7, z8, z9, z10, z11, z12, z13⟩ := Z2.out; have B2 := Aside0.mk (below_step B1.out hb); clear hb) | (go_at_call 103; refine (HEf.out _ B2.out).mono ?_; rintro x' w5 ⟨rfl, hb⟩; have Z3 := Aside0.mk (Z2.out.kept hb); obtain ⟨z0, z1, z2, z3, z4, z5, z6, z7, z8, z9, z10, z11, z12, z13⟩ := Z3.out; have B3 := Aside0.mk (below_step B2.out hb); clear hb) | (clear T4; go_at_call 80; refine (HT.out _ B3.out).mono ?_; rintro x' w6 ⟨rfl, hb⟩; have Z4 := Aside0.mk (Z3.out.kept hb); obtain ⟨z0, z1, z2, z3, z4, z5, z6, z7, z8, z9, z10, z11, z12, z13⟩ := Z4.out; have B4 := Aside0.mk (below_step B3.out hb); clear hb) | (go_at_call 80; refine (HU.out _ B4.out).mono ?_; rintro x' w7 ⟨rfl, hb⟩; have Z5 := Aside0.mk (Z4.out.kept hb); obtain ⟨z0, z1, z2, z3, z4, z5, z6, z7, z8, z9, z10, z11, z12, z13⟩ := Z5.out; have B5 := Aside0.mk (below_step B4.out hb); clear hb))
            go_ret
            exact ⟨rfl, B5.out⟩
          ·rw [decide_eq_false hu] at hform
           have lu : decide ((0 : Int) < (u.length : Int)) = true := decide_eq_true (by omega)
           have mu : decide (0 < u.length) = true := decide_eq_true (by omega)
           clear hu
           obtain rfl : fm = false := by rw [hform]; simp
           clear hform
           obtain ⟨W2, hW2, BB0, HZ0⟩ := box52 w 1 nm a A5 c5 e A9 c9 0 0 t A12 c12 u A13 c13
           have BB := Aside0.mk BB0
           have HZ := Aside0.mk HZ0
           obtain ⟨z0, z1, z2, z3, z4, z5, z6, z7, z8, z9, z10, z11, z12, z13⟩ := HZ0
           clear BB0
           go_enter Tryz.func95, Tryz.ntmps95
           go_upto_region 1 with (fail)
           try rw [hW2]
           clear hW2
           go_quiet (fail)
           go_wp2_with (first | (go_at_call 78; refine (HN.out _ (pw_below_drewN BB.out _)).mono ?_; rintro x' w3 ⟨rfl, hb⟩; have Z1 := Aside0.mk ((HZ.out.drewN _).kept hb); obtain ⟨z0, z1, z2, z3, z4, z5, z6, z7, z8, z9, z10, z11, z12, z13⟩ := Z1.out; have B1 := Aside0.mk (below_step (pw_below_drewN BB.out _) hb); clear hb) | (go_at_call 104; refine (HAn.out _ B1.out).mono ?_; rintro x' w4 ⟨rfl, hb⟩; have Z2 := Aside0.mk (Z1.out.kept hb); obtain ⟨z0, z1, z2, z3, z4, z5, z6, z7, z8, z9, z10, z11, z12, z13⟩ := Z2.out; have B2 := Aside0.mk (below_step B1.out hb); clear hb) | (go_at_call 103; refine (HEf.out _ B2.out).mono ?_; rintro x' w5 ⟨rfl, hb⟩; have Z3 := Aside0.mk (Z2.out.kept hb); obtain ⟨z0, z1, z2, z3, z4, z5, z6, z7, z8, z9, z10, z11, z12, z13⟩ := Z3.out; have B3 := Aside0.mk (below_step B2.out hb); clear hb))
           go_ret
           exact ⟨rfl, B3.out⟩
         ·rw [decide_eq_false ht] at hform
          have lt : decide ((0 : Int) < (t.length : Int)) = true := decide_eq_true (by omega)
          have mt : decide (0 < t.length) = true := decide_eq_true (by omega)
          clear ht
          obtain rfl : fm = false := by rw [hform]; simp
          clear hform
          obtain ⟨W2, hW2, BB0, HZ0⟩ := box52 w 1 nm a A5 c5 e A9 c9 0 0 t A12 c12 u A13 c13
          have BB := Aside0.mk BB0
          have HZ := Aside0.mk HZ0
          obtain ⟨z0, z1, z2, z3, z4, z5, z6, z7, z8, z9, z10, z11, z12, z13⟩ := HZ0
          clear BB0
          go_enter Tryz.func95, Tryz.ntmps95
          go_upto_region 1 with (fail)
          try rw [hW2]
          clear hW2
          go_quiet (fail)
          go_wp2_with (first | (go_at_call 78; refine (HN.out _ (pw_below_drewN BB.out _)).mono ?_; rintro x' w3 ⟨rfl, hb⟩; have Z1 := Aside0.mk ((HZ.out.drewN _).kept hb); obtain ⟨z0, z1, z2, z3, z4, z5, z6, z7, z8, z9, z10, z11, z12, z13⟩ := Z1.out; have B1 := Aside0.mk (below_step (pw_below_drewN BB.out _) hb); clear hb) | (go_at_call 104; refine (HAn.out _ B1.out).mono ?_; rintro x' w4 ⟨rfl, hb⟩; have Z2 := Aside0.mk (Z1.out.kept hb); obtain ⟨z0, z1, z2, z3, z4, z5, z6, z7, z8, z9, z10, z11, z12, z13⟩ := Z2.out; have B2 := Aside0.mk (below_step B1.out hb); clear hb) | (go_at_call 103; refine (HEf.out _ B2.out).mono ?_; rintro x' w5 ⟨rfl, hb⟩; have Z3 := Aside0.mk (Z2.out.kept hb); obtain ⟨z0, z1, z2, z3, z4, z5, z6, z7, z8, z9, z10, z11, z12, z13⟩ := Z3.out; have B3 := Aside0.mk (below_step B2.out hb); clear hb))
          go_ret
          exact ⟨rfl, B3.out⟩
        ·have i1 : (hi == 0) = false := beq_eq_false_iff_ne.mpr hhi
         have i2 : (hi != 0) = true := bne_iff_ne.mpr hhi
         rw [decide_eq_false hhi] at hform
         clear hhi
         obtain rfl : fm = false := by rw [hform]; simp
         clear hform
         obtain ⟨W2, hW2, BB0, HZ0⟩ := box52 w 1 nm a A5 c5 e A9 c9 0 hi t A12 c12 u A13 c13
         have BB := Aside0.mk BB0
         have HZ := Aside0.mk HZ0
         obtain ⟨z0, z1, z2, z3, z4, z5, z6, z7, z8, z9, z10, z11, z12, z13⟩ := HZ0
         clear BB0
         go_enter Tryz.func95, Tryz.ntmps95
         go_upto_region 1 with (fail)
         try rw [hW2]
         clear hW2
         go_quiet (fail)
         go_wp2_with (first | (go_at_call 78; refine (HN.out _ (pw_below_drewN BB.out _)).mono ?_; rintro x' w3 ⟨rfl, hb⟩; have Z1 := Aside0.mk ((HZ.out.drewN _).kept hb); obtain ⟨z0, z1, z2, z3, z4, z5, z6, z7, z8, z9, z10, z11, z12, z13⟩ := Z1.out; have B1 := Aside0.mk (below_step (pw_below_drewN BB.out _) hb); clear hb) | (go_at_call 104; refine (HAn.out _ B1.out).mono ?_; rintro x' w4 ⟨rfl, hb⟩; have Z2 := Aside0.mk (Z1.out.kept hb); obtain ⟨z0, z1, z2, z3, z4, z5, z6, z7, z8, z9, z10, z11, z12, z13⟩ := Z2.out; have B2 := Aside0.mk (below_step B1.out hb); clear hb) | (go_at_call 103; refine (HEf.out _ B2.out).mono ?_; rintro x' w5 ⟨rfl, hb⟩; have Z3 := Aside0.mk (Z2.out.kept hb); obtain ⟨z0, z1, z2, z3, z4, z5, z6, z7, z8, z9, z10, z11, z12, z13⟩ := Z3.out; have B3 := Aside0.mk (below_step B2.out hb); clear hb))
         go_ret
         exact ⟨rfl, B3.out⟩
       ·have i1 : (lo == 0) = false := beq_eq_false_iff_ne.mpr hlo
        have i2 : (lo != 0) = true := bne_iff_ne.mpr hlo
        rw [decide_eq_false hlo] at hform
        clear hlo
        obtain rfl : fm = false := by rw [hform]; simp
        clear hform
        obtain ⟨W2, hW2, BB0, HZ0⟩ := box52 w 1 nm a A5 c5 e A9 c9 lo hi t A12 c12 u A13 c13
        have BB := Aside0.mk BB0
        have HZ := Aside0.mk HZ0
        obtain ⟨z0, z1, z2, z3, z4, z5, z6, z7, z8, z9, z10, z11, z12, z13⟩ := HZ0
        clear BB0
        go_enter Tryz.func95, Tryz.ntmps95
        go_upto_region 1 with (fail)
        try rw [hW2]
        clear hW2
        go_quiet (fail)
        go_wp2_with (first | (go_at_call 78; refine (HN.out _ (pw_below_drewN BB.out _)).mono ?_; rintro x' w3 ⟨rfl, hb⟩; have Z1 := Aside0.mk ((HZ.out.drewN _).kept hb); obtain ⟨z0, z1, z2, z3, z4, z5, z6, z7, z8, z9, z10, z11, z12, z13⟩ := Z1.out; have B1 := Aside0.mk (below_step (pw_below_drewN BB.out _) hb); clear hb) | (go_at_call 104; refine (HAn.out _ B1.out).mono ?_; rintro x' w4 ⟨rfl, hb⟩; have Z2 := Aside0.mk (Z1.out.kept hb); obtain ⟨z0, z1, z2, z3, z4, z5, z6, z7, z8, z9, z10, z11, z12, z13⟩ := Z2.out; have B2 := Aside0.mk (below_step B1.out hb); clear hb) | (go_at_call 103; refine (HEf.out _ B2.out).mono ?_; rintro x' w5 ⟨rfl, hb⟩; have Z3 := Aside0.mk (Z2.out.kept hb); obtain ⟨z0, z1, z2, z3, z4, z5, z6, z7, z8, z9, z10, z11, z12, z13⟩ := Z3.out; have B3 := Aside0.mk (below_step B2.out hb); clear hb))
        go_ret
        exact ⟨rfl, B3.out⟩
   ·rw [S52.formB_2] at hform
    clear hnil
    cases nb with
    | false =>
     obtain rfl : fm = false := by rw [hform]; simp
     clear hform
     obtain ⟨W2, hW2, BB0, HZ0⟩ := box52 w 2 nm a A5 c5 e A9 c9 lo hi t A12 c12 u A13 c13
     have BB := Aside0.mk BB0
     have HZ := Aside0.mk HZ0
     obtain ⟨z0, z1, z2, z3, z4, z5, z6, z7, z8, z9, z10, z11, z12, z13⟩ := HZ0
     clear BB0
     go_enter Tryz.func95, Tryz.ntmps95
     go_upto_region 1 with (fail)
     try rw [hW2]
     clear hW2
     go_quiet (fail)
     go_wp2_with (first | (go_at_call 78; refine (HN.out _ (pw_below_drewN BB.out _)).mono ?_; rintro x' w3 ⟨rfl, hb⟩; have Z1 := Aside0.mk ((HZ.out.drewN _).kept hb); obtain ⟨z0, z1, z2, z3, z4, z5, z6, z7, z8, z9, z10, z11, z12, z13⟩ := Z1.out; have B1 := Aside0.mk (below_step (pw_below_drewN BB.out _) hb); clear hb))
     go_ret
     exact ⟨rfl, B1.out⟩
    | true =>
     cases af with
     | false =>
      obtain rfl : fm = false := by rw [hform]; simp
      clear hform
      obtain ⟨W2, hW2, BB0, HZ0⟩ := box52 w 2 nm a A5 c5 e A9 c9 lo hi t A12 c12 u A13 c13
      have BB := Aside0.mk BB0
      have HZ := Aside0.mk HZ0
      obtain ⟨z0, z1, z2, z3, z4, z5, z6, z7, z8, z9, z10, z11, z12, z13⟩ := HZ0
      clear BB0
      go_enter Tryz.func95, Tryz.ntmps95
      go_upto_region 1 with (fail)
      try rw [hW2]
      clear hW2
      go_quiet (fail)
      go_wp2_with (first | (go_at_call 78; refine (HN.out _ (pw_below_drewN BB.out _)).mono ?_; rintro x' w3 ⟨rfl, hb⟩; have Z1 := Aside0.mk ((HZ.out.drewN _).kept hb); obtain ⟨z0, z1, z2, z3, z4, z5, z6, z7, z8, z9, z10, z11, z12, z13⟩ := Z1.out; have B1 := Aside0.mk (below_step (pw_below_drewN BB.out _) hb); clear hb) | (go_at_call 103; refine (HAf.out _ B1.out).mono ?_; rintro x' w4 ⟨rfl, hb⟩; have Z2 := Aside0.mk (Z1.out.kept hb); obtain ⟨z0, z1, z2, z3, z4, z5, z6, z7, z8, z9, z10, z11, z12, z13⟩ := Z2.out; have B2 := Aside0.mk (below_step B1.out hb); clear hb))
      go_ret
      exact ⟨rfl, B2.out⟩
     | true =>
      cases ef with
      | false =>
       obtain rfl : fm = false := by rw [hform]; simp
       clear hform
       obtain ⟨W2, hW2, BB0, HZ0⟩ := box52 w 2 nm a A5 c5 e A9 c9 lo hi t A12 c12 u A13 c13
       have BB := Aside0.mk BB0
       have HZ := Aside0.mk HZ0
       obtain ⟨z0, z1, z2, z3, z4, z5, z6, z7, z8, z9, z10, z11, z12, z13⟩ := HZ0
       clear BB0
       go_enter Tryz.func95, Tryz.ntmps95
       go_upto_region 1 with (fail)
       try rw [hW2]
       clear hW2
       go_quiet (fail)
       have T2 := Aside0.mk trivial
       go_wp2_with (first | (go_at_call 78; refine (HN.out _ (pw_below_drewN BB.out _)).mono ?_; rintro x' w3 ⟨rfl, hb⟩; have Z1 := Aside0.mk ((HZ.out.drewN _).kept hb); obtain ⟨z0, z1, z2, z3, z4, z5, z6, z7, z8, z9, z10, z11, z12, z13⟩ := Z1.out; have B1 := Aside0.mk (below_step (pw_below_drewN BB.out _) hb); clear hb) | (clear T2; go_at_call 103; refine (HAf.out _ B1.out).mono ?_; rintro x' w4 ⟨rfl, hb⟩; have Z2 := Aside0.mk (Z1.out.kept hb); obtain ⟨z0, z1, z2, z3, z4, z5, z6, z7, z8, z9, z10, z11, z12, z13⟩ := Z2.out; have B2 := Aside0.mk (below_step B1.out hb); clear hb) | (go_at_call 103; refine (HEf.out _ B2.out).mono ?_; rintro x' w5 ⟨rfl, hb⟩; have Z3 := Aside0.mk (Z2.out.kept hb); obtain ⟨z0, z1, z2, z3, z4, z5, z6, z7, z8, z9, z10, z11, z12, z13⟩ := Z3.out; have B3 := Aside0.mk (below_step B2.out hb); clear hb))
       go_ret
       exact ⟨rfl, B3.out⟩
      | true =>
       by_cases hlo : lo = 0
       ·subst hlo
        by_cases hhi : hi = 0
        ·subst hhi
         simp only [decide_true, Bool.true_and, Bool.or_true, Bool.and_true, Bool.true_or] at hform
         by_cases ht : t.length = 0
         ·rw [decide_eq_true ht] at hform
          have lt : decide ((0 : Int) < (t.length : Int)) = false := decide_eq_false (by omega)
          have mt : decide (0 < t.length) = false := decide_eq_false (by omega)
          clear ht
          by_cases hu : u.length = 0
          ·rw [decide_eq_true hu] at hform
           have lu : decide ((0 : Int) < (u.length : Int)) = false := decide_eq_false (by omega)
           have mu : decide (0 < u.length) = false := decide_eq_false (by omega)
           clear hu
           cases ft with
           | false =>
            obtain rfl : fm = false := by rw [hform]; simp
            clear hform
            obtain ⟨W2, hW2, BB0, HZ0⟩ := box52 w 2 nm a A5 c5 e A9 c9 0 0 t A12 c12 u A13 c13
            have BB := Aside0.mk BB0
            have HZ := Aside0.mk HZ0
            obtain ⟨z0, z1, z2, z3, z4, z5, z6, z7, z8, z9, z10, z11, z12, z13⟩ := HZ0
            clear BB0
            go_enter Tryz.func95, Tryz.ntmps95
            go_upto_region 1 with (fail)
            try rw [hW2]
            clear hW2
            go_quiet (fail)
            have T2 := Aside0.mk trivial
            go_wp2_with (first | (go_at_call 78; refine (HN.out _ (pw_below_drewN BB.out _)).mono ?_; rintro x' w3 ⟨rfl, hb⟩; have Z1 := Aside0.mk ((HZ.out.drewN _).kept hb); obtain ⟨z0, z1, z2, z3, z4, z5, z6, z7, z8, z9, z10, z11, z12, z13⟩ := Z1.out; have B1 := Aside0.mk (below_step (pw_below_drewN BB.out _) hb); clear hb) | (clear T2; go_at_call 103; refine (HAf.out _ B1.out).mono ?_; rintro x' w4 ⟨rfl, hb⟩; have Z2 := Aside0.mk (Z1.out.kept hb); obtain ⟨z0, z1, z2, z3, z4, z5, z6, z7, z8, z9, z10, z11, z12, z13⟩ := Z2.out; have B2 := Aside0.mk (below_step B1.out hb); clear hb) | (go_at_call 103; refine (HEf.out _ B2.out).mono ?_; rintro x' w5 ⟨rfl, hb⟩; have Z3 := Aside0.mk (Z2.out.kept hb); obtain ⟨z0, z1, z2, z3, z4, z5, z6, z7, z8, z9, z10, z11, z12, z13⟩ := Z3.out; have B3 := Aside0.mk (below_step B2.out hb); clear hb) | (go_at_call 80; refine (HT.out _ B3.out).mono ?_; rintro x' w6 ⟨rfl, hb⟩; have Z4 := Aside0.mk (Z3.out.kept hb); obtain ⟨z0, z1, z2, z3, z4, z5, z6, z7, z8, z9, z10, z11, z12, z13⟩ := Z4.out; have B4 := Aside0.mk (below_step B3.out hb); clear hb))
            go_ret
            exact ⟨rfl, B4.out⟩
           | true =>
            obtain rfl : fm = fu := by rw [hform]; simp
            clear hform
            obtain ⟨W2, hW2, BB0, HZ0⟩ := box52 w 2 nm a A5 c5 e A9 c9 0 0 t A12 c12 u A13 c13
            have BB := Aside0.mk BB0
            have HZ := Aside0.mk HZ0
            obtain ⟨z0, z1, z2, z3, z4, z5, z6, z7, z8, z9, z10, z11, z12, z13⟩ := HZ0
            clear BB0
            go_enter Tryz.func95, Tryz.ntmps95
            go_upto_region 1 with (fail)
            try rw [hW2]
            clear hW2
            go_quiet (fail)
            have T2 := Aside0.mk trivial
            have T4 := Aside0.mk trivial
            go_wp2_with (first | (go_at_call 78; refine (HN.out _ (pw_below_drewN BB.out _)).mono ?_; rintro x' w3 ⟨rfl, hb⟩; have Z1 := Aside0.mk ((HZ.out.drewN _).kept hb); obtain ⟨z0, z1, z2, z3, z4, z5, z6, z7, z8, z9, z10, z11, z12, z13⟩ := Z1.out; have B1 := Aside0.mk (below_step (pw_below_drewN BB.out _) hb); clear hb) | (clear T2; go_at_call 103; refine (HAf.out _ B1.out).mono ?_; rintro x' w4 ⟨rfl, hb⟩; have Z2 := Aside0.mk (Z1.out.kept hb); obtain ⟨z0, z1, z2, z3, z4, z5, z6, z7, z8, z9, z10, z11, z12, z13⟩ := Z2.out; have B2 := Aside0.mk (below_step B1.out hb); clear hb) | (go_at_call 103; refine (HEf.out _ B2.out).mono ?_; rintro x' w5 ⟨rfl, hb⟩; have Z3 := Aside0.mk (Z2.out.kept hb); obtain ⟨z0, z1, z2, z3, z4, z5, z6, z7, z8, z9, z10, z11, z12, z13⟩ := Z3.out; have B3 := Aside0.mk (below_step B2.out hb); clear hb) | (clear T4; go_at_call 80; refine (HT.out _ B3.out).mono ?_; rintro x' w6 ⟨rfl, hb⟩; have Z4 := Aside0.mk (Z3.out.kept hb); obtain ⟨z0, z1, z2, z3, z4, z5, z6, z7, z8, z9, z10, z11, z12, z13⟩ := Z4.out; have B4 := Aside0.mk (below_step B3.out hb); clear hb) | (go_at_call 80; refine (HU.out _ B4.out).mono ?_; rintro x' w7 ⟨rfl, hb⟩; have Z5 := Aside0.mk (Z4.out.kept hb); obtain ⟨z0, z1, z2, z3, z4, z5, z6, z7, z8, z9, z10, z11, z12, z13⟩ := Z5.out; have B5 := Aside0.mk (below_step B4.out hb); clear hb))
            go_ret
            exact ⟨rfl, B5.out⟩
          ·rw [decide_eq_false hu] at hform
           have lu : decide ((0 : Int) < (u.length : Int)) = true := decide_eq_true (by omega)
           have mu : decide (0 < u.length) = true := decide_eq_true (by omega)
           clear hu
           obtain rfl : fm = false := by rw [hform]; simp
           clear hform
           obtain ⟨W2, hW2, BB0, HZ0⟩ := box52 w 2 nm a A5 c5 e A9 c9 0 0 t A12 c12 u A13 c13
           have BB := Aside0.mk BB0
           have HZ := Aside0.mk HZ0
           obtain ⟨z0, z1, z2, z3, z4, z5, z6, z7, z8, z9, z10, z11, z12, z13⟩ := HZ0
           clear BB0
           go_enter Tryz.func95, Tryz.ntmps95
           go_upto_region 1 with (fail)
           try rw [hW2]
           clear hW2
           go_quiet (fail)
           have T2 := Aside0.mk trivial
           go_wp2_with (first | (go_at_call 78; refine (HN.out _ (pw_below_drewN BB.out _)).mono ?_; rintro x' w3 ⟨rfl, hb⟩; have Z1 := Aside0.mk ((HZ.out.drewN _).kept hb); obtain ⟨z0, z1, z2, z3, z4, z5, z6, z7, z8, z9, z10, z11, z12, z13⟩ := Z1.out; have B1 := Aside0.mk (below_step (pw_below_drewN BB.out _) hb); clear hb) | (clear T2; go_at_call 103; refine (HAf.out _ B1.out).mono ?_; rintro x' w4 ⟨rfl, hb⟩; have Z2 := Aside0.mk (Z1.out.kept hb); obtain ⟨z0, z1, z2, z3, z4, z5, z6, z7, z8, z9, z10, z11, z12, z13⟩ := Z2.out; have B2 := Aside0.mk (below_step B1.out hb); clear hb) | (go_at_call 103; refine (HEf.out _ B2.out).mono ?_; rintro x' w5 ⟨rfl, hb⟩; have Z3 := Aside0.mk (Z2.out.kept hb); obtain ⟨z0, z1, z2, z3, z4, z5, z6, z7, z8, z9, z10, z11, z12, z13⟩ := Z3.out; have B3 := Aside0.mk (below_step B2.out hb); clear hb))
           go_ret
           exact ⟨rfl, B3.out⟩
         ·rw [decide_eq_false ht] at hform
          have lt : decide ((0 : Int) < (t.length : Int)) = true := decide_eq_true (by omega)
          have mt : decide (0 < t.length) = true := decide_eq_true (by omega)
          clear ht
          obtain rfl : fm = false := by rw [hform]; simp
          clear hform
          obtain ⟨W2, hW2, BB0, HZ0⟩ := box52 w 2 nm a A5 c5 e A9 c9 0 0 t A12 c12 u A13 c13
          have BB := Aside0.mk BB0
          have HZ := Aside0.mk HZ0
          obtain ⟨z0, z1, z2, z3, z4, z5, z6, z7, z8, z9, z10, z11, z12, z13⟩ := HZ0
          clear BB0
          go_enter Tryz.func95, Tryz.ntmps95
          go_upto_region 1 with (fail)
          try rw [hW2]
          clear hW2
          go_quiet (fail)
          have T2 := Aside0.mk trivial
          go_wp2_with (first | (go_at_call 78; refine (HN.out _ (pw_below_drewN BB.out _)).mono ?_; rintro x' w3 ⟨rfl, hb⟩; have Z1 := Aside0.mk ((HZ.out.drewN _).kept hb); obtain ⟨z0, z1, z2, z3, z4, z5, z6, z7, z8, z9, z10, z11, z12, z13⟩ := Z1.out; have B1 := Aside0.mk (below_step (pw_below_drewN BB.out _) hb); clear hb) | (clear T2; go_at_call 103; refine (HAf.out _ B1.out).mono ?_; rintro x' w4 ⟨rfl, hb⟩; have Z2 := Aside0.mk (Z1.out.kept hb); obtain ⟨z0, z1, z2, z3, z4, z5, z6, z7, z8, z9, z10, z11, z12, z13⟩ := Z2.out; have B2 := Aside0.mk (below_step B1.out hb); clear hb) | (go_at_call 103; refine (HEf.out _ B2.out).mono ?_; rintro x' w5 ⟨rfl, hb⟩; have Z3 := Aside0.mk (Z2.out.kept hb); obtain ⟨z0, z1, z2, z3, z4, z5, z6, z7, z8, z9, z10, z11, z12, z13⟩ := Z3.out; have B3 := Aside0.mk (below_step B2.out hb); clear hb))
          go_ret
          exact ⟨rfl, B3.out⟩
        ·have i1 : (hi == 0) = false := beq_eq_false_iff_ne.mpr hhi
         have i2 : (hi != 0) = true := bne_iff_ne.mpr hhi
         rw [decide_eq_false hhi] at hform
         clear hhi
         obtain rfl : fm = false := by rw [hform]; simp
         clear hform
         obtain ⟨W2, hW2, BB0, HZ0⟩ := box52 w 2 nm a A5 c5 e A9 c9 0 hi t A12 c12 u A13 c13
         have BB := Aside0.mk BB0
         have HZ := Aside0.mk HZ0
         obtain ⟨z0, z1, z2, z3, z4, z5, z6, z7, z8, z9, z10, z11, z12, z13⟩ := HZ0
         clear BB0
         go_enter Tryz.func95, Tryz.ntmps95
         go_upto_region 1 with (fail)
         try rw [hW2]
         clear hW2
         go_quiet (fail)
         have T2 := Aside0.mk trivial
         go_wp2_with (first | (go_at_call 78; refine (HN.out _ (pw_below_drewN BB.out _)).mono ?_; rintro x' w3 ⟨rfl, hb⟩; have Z1 := Aside0.mk ((HZ.out.drewN _).kept hb); obtain ⟨z0, z1, z2, z3, z4, z5, z6, z7, z8, z9, z10, z11, z12, z13⟩ := Z1.out; have B1 := Aside0.mk (below_step (pw_below_drewN BB.out _) hb); clear hb) | (clear T2; go_at_call 103; refine (HAf.out _ B1.out).mono ?_; rintro x' w4 ⟨rfl, hb⟩; have Z2 := Aside0.mk (Z1.out.kept hb); obtain ⟨z0, z1, z2, z3, z4, z5, z6, z7, z8, z9, z10, z11, z12, z13⟩ := Z2.out; have B2 := Aside0.mk (below_step B1.out hb); clear hb) | (go_at_call 103; refine (HEf.out _ B2.out).mono ?_; rintro x' w5 ⟨rfl, hb⟩; have Z3 := Aside0.mk (Z2.out.kept hb); obtain ⟨z0, z1, z2, z3, z4, z5, z6, z7, z8, z9, z10, z11, z12, z13⟩ := Z3.out; have B3 := Aside0.mk (below_step B2.out hb); clear hb))
         go_ret
         exact ⟨rfl, B3.out⟩
       ·have i1 : (lo == 0) = false := beq_eq_false_iff_ne.mpr hlo
        have i2 : (lo != 0) = true := bne_iff_ne.mpr hlo
        rw [decide_eq_false hlo] at hform
        clear hlo
        obtain rfl : fm = false := by rw [hform]; simp
        clear hform
        obtain ⟨W2, hW2, BB0, HZ0⟩ := box52 w 2 nm a A5 c5 e A9 c9 lo hi t A12 c12 u A13 c13
        have BB := Aside0.mk BB0
        have HZ := Aside0.mk HZ0
        obtain ⟨z0, z1, z2, z3, z4, z5, z6, z7, z8, z9, z10, z11, z12, z13⟩ := HZ0
        clear BB0
        go_enter Tryz.func95, Tryz.ntmps95
        go_upto_region 1 with (fail)
        try rw [hW2]
        clear hW2
        go_quiet (fail)
        have T2 := Aside0.mk trivial
        go_wp2_with (first | (go_at_call 78; refine (HN.out _ (pw_below_drewN BB.out _)).mono ?_; rintro x' w3 ⟨rfl, hb⟩; have Z1 := Aside0.mk ((HZ.out.drewN _).kept hb); obtain ⟨z0, z1, z2, z3, z4, z5, z6, z7, z8, z9, z10, z11, z12, z13⟩ := Z1.out; have B1 := Aside0.mk (below_step (pw_below_drewN BB.out _) hb); clear hb) | (clear T2; go_at_call 103; refine (HAf.out _ B1.out).mono ?_; rintro x' w4 ⟨rfl, hb⟩; have Z2 := Aside0.mk (Z1.out.kept hb); obtain ⟨z0, z1, z2, z3, z4, z5, z6, z7, z8, z9, z10, z11, z12, z13⟩ := Z2.out; have B2 := Aside0.mk (below_step B1.out hb); clear hb) | (go_at_call 103; refine (HEf.out _ B2.out).mono ?_; rintro x' w5 ⟨rfl, hb⟩; have Z3 := Aside0.mk (Z2.out.kept hb); obtain ⟨z0, z1, z2, z3, z4, z5, z6, z7, z8, z9, z10, z11, z12, z13⟩ := Z3.out; have B3 := Aside0.mk (below_step B2.out hb); clear hb))
        go_ret
        exact ⟨rfl, B3.out⟩
   ·rw [S52.formB_3] at hform
    by_cases hs : nm.toList = []
    ·rw [decide_eq_true hs] at hform
     have s1 : (nm.toList == []) = true := beq_iff_eq.mpr hs
     have s2 : (nm.toList != []) = false := bne_eq_false_iff_eq.mpr hs
     clear hs hnil
     cases an with
     | false =>
      obtain rfl : fm = false := by rw [hform]; simp
      clear hform
      obtain ⟨W2, hW2, BB0, HZ0⟩ := box52 w 3 nm a A5 c5 e A9 c9 lo hi t A12 c12 u A13 c13
      have BB := Aside0.mk BB0
      have HZ := Aside0.mk HZ0
      obtain ⟨z0, z1, z2, z3, z4, z5, z6, z7, z8, z9, z10, z11, z12, z13⟩ := HZ0
      clear BB0
      go_enter Tryz.func95, Tryz.ntmps95
      go_upto_region 1 with (fail)
      try rw [hW2]
      clear hW2
      go_quiet (fail)
      go_wp2_with (first | (go_at_call 104; refine (HAn.out _ (pw_below_drewN BB.out _)).mono ?_; rintro x' w3 ⟨rfl, hb⟩; have Z1 := Aside0.mk ((HZ.out.drewN _).kept hb); obtain ⟨z0, z1, z2, z3, z4, z5, z6, z7, z8, z9, z10, z11, z12, z13⟩ := Z1.out; have B1 := Aside0.mk (below_step (pw_below_drewN BB.out _) hb); clear hb))
      go_ret
      exact ⟨rfl, B1.out⟩
     | true =>
      cases ef with
      | false =>
       obtain rfl : fm = false := by rw [hform]; simp
       clear hform
       obtain ⟨W2, hW2, BB0, HZ0⟩ := box52 w 3 nm a A5 c5 e A9 c9 lo hi t A12 c12 u A13 c13
       have BB := Aside0.mk BB0
       have HZ := Aside0.mk HZ0
       obtain ⟨z0, z1, z2, z3, z4, z5, z6, z7, z8, z9, z10, z11, z12, z13⟩ := HZ0
       clear BB0
       go_enter Tryz.func95, Tryz.ntmps95
       go_upto_region 1 with (fail)
       try rw [hW2]
       clear hW2
       go_quiet (fail)
       go_wp2_with (first | (go_at_call 104; refine (HAn.out _ (pw_below_drewN BB.out _)).mono ?_; rintro x' w3 ⟨rfl, hb⟩; have Z1 := Aside0.mk ((HZ.out.drewN _).kept hb); obtain ⟨z0, z1, z2, z3, z4, z5, z6, z7, z8, z9, z10, z11, z12, z13⟩ := Z1.out; have B1 := Aside0.mk (below_step (pw_below_drewN BB.out _) hb); clear hb) | (go_at_call 103; refine (HEf.out _ B1.out).mono ?_; rintro x' w4 ⟨rfl, hb⟩; have Z2 := Aside0.mk (Z1.out.kept hb); obtain ⟨z0, z1, z2, z3, z4, z5, z6, z7, z8, z9, z10, z11, z12, z13⟩ := Z2.out; have B2 := Aside0.mk (below_step B1.out hb); clear hb))
       go_ret
       exact ⟨rfl, B2.out⟩
      | true =>
       by_cases hlo : lo = 0
       ·subst hlo
        by_cases hhi : hi = 0
        ·subst hhi
         simp only [decide_true, Bool.true_and, Bool.or_true, Bool.and_true, Bool.true_or] at hform
         cases ft with
         | false =>
          obtain rfl : fm = false := by rw [hform]; simp
          clear hform
          obtain ⟨W2, hW2, BB0, HZ0⟩ := box52 w 3 nm a A5 c5 e A9 c9 0 0 t A12 c12 u A13 c13
          have BB := Aside0.mk BB0
          have HZ := Aside0.mk HZ0
          obtain ⟨z0, z1, z2, z3, z4, z5, z6, z7, z8, z9, z10, z11, z12, z13⟩ := HZ0
          clear BB0
          go_enter Tryz.func95, Tryz.ntmps95
          go_upto_region 1 with (fail)
          try rw [hW2]
          clear hW2
          go_quiet (fail)
          go_wp2_with (first | (go_at_call 104; refine (HAn.out _ (pw_below_drewN BB.out _)).mono ?_; rintro x' w3 ⟨rfl, hb⟩; have Z1 := Aside0.mk ((HZ.out.drewN _).kept hb); obtain ⟨z0, z1, z2, z3, z4, z5, z6, z7, z8, z9, z10, z11, z12, z13⟩ := Z1.out; have B1 := Aside0.mk (below_step (pw_below_drewN BB.out _) hb); clear hb) | (go_at_call 103; refine (HEf.out _ B1.out).mono ?_; rintro x' w4 ⟨rfl, hb⟩; have Z2 := Aside0.mk (Z1.out.kept hb); obtain ⟨z0, z1, z2, z3, z4, z5, z6, z7, z8, z9, z10, z11, z12, z13⟩ := Z2.out; have B2 := Aside0.mk (below_step B1.out hb); clear hb) | (go_at_call 80; refine (HT.out _ B2.out).mono ?_; rintro x' w5 ⟨rfl, hb⟩; have Z3 := Aside0.mk (Z2.out.kept hb); obtain ⟨z0, z1, z2, z3, z4, z5, z6, z7, z8, z9, z10, z11, z12, z13⟩ := Z3.out; have B3 := Aside0.mk (below_step B2.out hb); clear hb))
          go_ret
          exact ⟨rfl, B3.out⟩
         | true =>
          obtain rfl : fm = fu := by rw [hform]; simp
          clear hform
          obtain ⟨W2, hW2, BB0, HZ0⟩ := box52 w 3 nm a A5 c5 e A9 c9 0 0 t A12 c12 u A13 c13
          have BB := Aside0.mk BB0
          have HZ := Aside0.mk HZ0
          obtain ⟨z0, z1, z2, z3, z4, z5, z6, z7, z8, z9, z10, z11, z12, z13⟩ := HZ0
          clear BB0
          go_enter Tryz.func95, Tryz.ntmps95
          go_upto_region 1 with (fail)
          try rw [hW2]
          clear hW2
          go_quiet (fail)
          have T3 := Aside0.mk trivial
          go_wp2_with (first | (go_at_call 104; refine (HAn.out _ (pw_below_drewN BB.out _)).mono ?_; rintro x' w3 ⟨rfl, hb⟩; have Z1 := Aside0.mk ((HZ.out.drewN _).kept hb); obtain ⟨z0, z1, z2, z3, z4, z5, z6, z7, z8, z9, z10, z11, z12, z13⟩ := Z1.out; have B1 := Aside0.mk (below_step (pw_below_drewN BB.out _) hb); clear hb) | (go_at_call 103; refine (HEf.out _ B1.out).mono ?_; rintro x' w4 ⟨rfl, hb⟩; have Z2 := Aside0.mk (Z1.out.kept hb); obtain ⟨z0, z1, z2, z3, z4, z5, z6, z7, z8, z9, z10, z11, z12, z13⟩ := Z2.out; have B2 := Aside0.mk (below_step B1.out hb); clear hb) | (clear T3; go_at_call 80; refine (HT.out _ B2.out).mono ?_; rintro x' w5 ⟨rfl, hb⟩; have Z3 := Aside0.mk (Z2.out.kept hb); obtain ⟨z0, z1, z2, z3, z4, z5, z6, z7, z8, z9, z10, z11, z12, z13⟩ := Z3.out; have B3 := Aside0.mk (below_step B2.out hb); clear hb) | (go_at_call 80; refine (HU.out _ B3.out).mono ?_; rintro x' w6 ⟨rfl, hb⟩; have Z4 := Aside0.mk (Z3.out.kept hb); obtain ⟨z0, z1, z2, z3, z4, z5, z6, z7, z8, z9, z10, z11, z12, z13⟩ := Z4.out; have B4 := Aside0.mk (below_step B3.out hb); clear hb))
          go_ret
          exact ⟨rfl, B4.out⟩
        ·have i1 : (hi == 0) = false := beq_eq_false_iff_ne.mpr hhi
         have i2 : (hi != 0) = true := bne_iff_ne.mpr hhi
         rw [decide_eq_false hhi] at hform
         clear hhi
         obtain rfl : fm = false := by rw [hform]; simp
         clear hform
         obtain ⟨W2, hW2, BB0, HZ0⟩ := box52 w 3 nm a A5 c5 e A9 c9 0 hi t A12 c12 u A13 c13
         have BB := Aside0.mk BB0
         have HZ := Aside0.mk HZ0
         obtain ⟨z0, z1, z2, z3, z4, z5, z6, z7, z8, z9, z10, z11, z12, z13⟩ := HZ0
         clear BB0
         go_enter Tryz.func95, Tryz.ntmps95
         go_upto_region 1 with (fail)
         try rw [hW2]
         clear hW2
         go_quiet (fail)
         go_wp2_with (first | (go_at_call 104; refine (HAn.out _ (pw_below_drewN BB.out _)).mono ?_; rintro x' w3 ⟨rfl, hb⟩; have Z1 := Aside0.mk ((HZ.out.drewN _).kept hb); obtain ⟨z0, z1, z2, z3, z4, z5, z6, z7, z8, z9, z10, z11, z12, z13⟩ := Z1.out; have B1 := Aside0.mk (below_step (pw_below_drewN BB.out _) hb); clear hb) | (go_at_call 103; refine (HEf.out _ B1.out).mono ?_; rintro x' w4 ⟨rfl, hb⟩; have Z2 := Aside0.mk (Z1.out.kept hb); obtain ⟨z0, z1, z2, z3, z4, z5, z6, z7, z8, z9, z10, z11, z12, z13⟩ := Z2.out; have B2 := Aside0.mk (below_step B1.out hb); clear hb))
         go_ret
         exact ⟨rfl, B2.out⟩
       ·have i1 : (lo == 0) = false := beq_eq_false_iff_ne.mpr hlo
        have i2 : (lo != 0) = true := bne_iff_ne.mpr hlo
        rw [decide_eq_false hlo] at hform
        clear hlo
        obtain rfl : fm = false := by rw [hform]; simp
        clear hform
        obtain ⟨W2, hW2, BB0, HZ0⟩ := box52 w 3 nm a A5 c5 e A9 c9 lo hi t A12 c12 u A13 c13
        have BB := Aside0.mk BB0
        have HZ := Aside0.mk HZ0
        obtain ⟨z0, z1, z2, z3, z4, z5, z6, z7, z8, z9, z10, z11, z12, z13⟩ := HZ0
        clear BB0
        go_enter Tryz.func95, Tryz.ntmps95
        go_upto_region 1 with (fail)
        try rw [hW2]
        clear hW2
        go_quiet (fail)
        go_wp2_with (first | (go_at_call 104; refine (HAn.out _ (pw_below_drewN BB.out _)).mono ?_; rintro x' w3 ⟨rfl, hb⟩; have Z1 := Aside0.mk ((HZ.out.drewN _).kept hb); obtain ⟨z0, z1, z2, z3, z4, z5, z6, z7, z8, z9, z10, z11, z12, z13⟩ := Z1.out; have B1 := Aside0.mk (below_step (pw_below_drewN BB.out _) hb); clear hb) | (go_at_call 103; refine (HEf.out _ B1.out).mono ?_; rintro x' w4 ⟨rfl, hb⟩; have Z2 := Aside0.mk (Z1.out.kept hb); obtain ⟨z0, z1, z2, z3, z4, z5, z6, z7, z8, z9, z10, z11, z12, z13⟩ := Z2.out; have B2 := Aside0.mk (below_step B1.out hb); clear hb))
        go_ret
        exact ⟨rfl, B2.out⟩
    ·rw [decide_eq_false hs] at hform
     have s1 : (nm.toList == []) = false := beq_eq_false_iff_ne.mpr hs
     have s2 : (nm.toList != []) = true := bne_iff_ne.mpr hs
     clear hs hnil
     obtain rfl : fm = false := by rw [hform]; simp
     clear hform
     obtain ⟨W2, hW2, BB0, HZ0⟩ := box52 w 3 nm a A5 c5 e A9 c9 lo hi t A12 c12 u A13 c13
     have BB := Aside0.mk BB0
     have HZ := Aside0.mk HZ0
     obtain ⟨z0, z1, z2, z3, z4, z5, z6, z7, z8, z9, z10, z11, z12, z13⟩ := HZ0
     clear BB0
     go_enter Tryz.func95, Tryz.ntmps95
     go_upto_region 1 with (fail)
     try rw [hW2]
     clear hW2
     go_quiet (fail)
     go_wp2_with fail
     go_ret
     exact ⟨rfl, pw_below_drewN BB.out _⟩
   ·rw [S52.formB_4] at hform
    clear hnil
    cases nb with
    | false =>
     obtain rfl : fm = false := by rw [hform]; simp
     clear hform
     obtain ⟨W2, hW2, BB0, HZ0⟩ := box52 w 4 nm a A5 c5 e A9 c9 lo hi t A12 c12 u A13 c13
     have BB := Aside0.mk BB0
     have HZ := Aside0.mk HZ0
     obtain ⟨z0, z1, z2, z3, z4, z5, z6, z7, z8, z9, z10, z11, z12, z13⟩ := HZ0
     clear BB0
     go_enter Tryz.func95, Tryz.ntmps95
     go_upto_region 1 with (fail)
     try rw [hW2]
     clear hW2
     go_quiet (fail)
     go_wp2_with (first | (go_at_call 78; refine (HN.out _ (pw_below_drewN BB.out _)).mono ?_; rintro x' w3 ⟨rfl, hb⟩; have Z1 := Aside0.mk ((HZ.out.drewN _).kept hb); obtain ⟨z0, z1, z2, z3, z4, z5, z6, z7, z8, z9, z10, z11, z12, z13⟩ := Z1.out; have B1 := Aside0.mk (below_step (pw_below_drewN BB.out _) hb); clear hb))
     go_ret
     exact ⟨rfl, B1.out⟩
    | true =>
     cases an with
     | false =>
      obtain rfl : fm = false := by rw [hform]; simp
      clear hform
      obtain ⟨W2, hW2, BB0, HZ0⟩ := box52 w 4 nm a A5 c5 e A9 c9 lo hi t A12 c12 u A13 c13
      have BB := Aside0.mk BB0
      have HZ := Aside0.mk HZ0
      obtain ⟨z0, z1, z2, z3, z4, z5, z6, z7, z8, z9, z10, z11, z12, z13⟩ := HZ0
      clear BB0
      go_enter Tryz.func95, Tryz.ntmps95
      go_upto_region 1 with (fail)
      try rw [hW2]
      clear hW2
      go_quiet (fail)
      go_wp2_with (first | (go_at_call 78; refine (HN.out _ (pw_below_drewN BB.out _)).mono ?_; rintro x' w3 ⟨rfl, hb⟩; have Z1 := Aside0.mk ((HZ.out.drewN _).kept hb); obtain ⟨z0, z1, z2, z3, z4, z5, z6, z7, z8, z9, z10, z11, z12, z13⟩ := Z1.out; have B1 := Aside0.mk (below_step (pw_below_drewN BB.out _) hb); clear hb) | (go_at_call 104; refine (HAn.out _ B1.out).mono ?_; rintro x' w4 ⟨rfl, hb⟩; have Z2 := Aside0.mk (Z1.out.kept hb); obtain ⟨z0, z1, z2, z3, z4, z5, z6, z7, z8, z9, z10, z11, z12, z13⟩ := Z2.out; have B2 := Aside0.mk (below_step B1.out hb); clear hb))
      go_ret
      exact ⟨rfl, B2.out⟩
     | true =>
      cases en with
      | false =>
       obtain rfl : fm = false := by rw [hform]; simp
       clear hform
       obtain ⟨W2, hW2, BB0, HZ0⟩ := box52 w 4 nm a A5 c5 e A9 c9 lo hi t A12 c12 u A13 c13
       have BB := Aside0.mk BB0
       have HZ := Aside0.mk HZ0
       obtain ⟨z0, z1, z2, z3, z4, z5, z6, z7, z8, z9, z10, z11, z12, z13⟩ := HZ0
       clear BB0
       go_enter Tryz.func95, Tryz.ntmps95
       go_upto_region 1 with (fail)
       try rw [hW2]
       clear hW2
       go_quiet (fail)
       have T2 := Aside0.mk trivial
       go_wp2_with (first | (go_at_call 78; refine (HN.out _ (pw_below_drewN BB.out _)).mono ?_; rintro x' w3 ⟨rfl, hb⟩; have Z1 := Aside0.mk ((HZ.out.drewN _).kept hb); obtain ⟨z0, z1, z2, z3, z4, z5, z6, z7, z8, z9, z10, z11, z12, z13⟩ := Z1.out; have B1 := Aside0.mk (below_step (pw_below_drewN BB.out _) hb); clear hb) | (clear T2; go_at_call 104; refine (HAn.out _ B1.out).mono ?_; rintro x' w4 ⟨rfl, hb⟩; have Z2 := Aside0.mk (Z1.out.kept hb); obtain ⟨z0, z1, z2, z3, z4, z5, z6, z7, z8, z9, z10, z11, z12, z13⟩ := Z2.out; have B2 := Aside0.mk (below_step B1.out hb); clear hb) | (go_at_call 104; refine (HEn.out _ B2.out).mono ?_; rintro x' w5 ⟨rfl, hb⟩; have Z3 := Aside0.mk (Z2.out.kept hb); obtain ⟨z0, z1, z2, z3, z4, z5, z6, z7, z8, z9, z10, z11, z12, z13⟩ := Z3.out; have B3 := Aside0.mk (below_step B2.out hb); clear hb))
       go_ret
       exact ⟨rfl, B3.out⟩
      | true =>
       by_cases hu : u.length = 0
       ·rw [decide_eq_true hu] at hform
        have lu : decide ((0 : Int) < (u.length : Int)) = false := decide_eq_false (by omega)
        have mu : decide (0 < u.length) = false := decide_eq_false (by omega)
        clear hu
        cases ft with
        | false =>
         obtain rfl : fm = false := by rw [hform]; simp
         clear hform
         obtain ⟨W2, hW2, BB0, HZ0⟩ := box52 w 4 nm a A5 c5 e A9 c9 lo hi t A12 c12 u A13 c13
         have BB := Aside0.mk BB0
         have HZ := Aside0.mk HZ0
         obtain ⟨z0, z1, z2, z3, z4, z5, z6, z7, z8, z9, z10, z11, z12, z13⟩ := HZ0
         clear BB0
         go_enter Tryz.func95, Tryz.ntmps95
         go_upto_region 1 with (fail)
         try rw [hW2]
         clear hW2
         go_quiet (fail)
         have T2 := Aside0.mk trivial
         go_wp2_with (first | (go_at_call 78; refine (HN.out _ (pw_below_drewN BB.out _)).mono ?_; rintro x' w3 ⟨rfl, hb⟩; have Z1 := Aside0.mk ((HZ.out.drewN _).kept hb); obtain ⟨z0, z1, z2, z3, z4, z5, z6, z7, z8, z9, z10, z11, z12, z13⟩ := Z1.out; have B1 := Aside0.mk (below_step (pw_below_drewN BB.out _) hb); clear hb) | (clear T2; go_at_call 104; refine (HAn.out _ B1.out).mono ?_; rintro x' w4 ⟨rfl, hb⟩; have Z2 := Aside0.mk (Z1.out.kept hb); obtain ⟨z0, z1, z2, z3, z4, z5, z6, z7, z8, z9, z10, z11, z12, z13⟩ := Z2.out; have B2 := Aside0.mk (below_step B1.out hb); clear hb) | (go_at_call 104; refine (HEn.out _ B2.out).mono ?_; rintro x' w5 ⟨rfl, hb⟩; have Z3 := Aside0.mk (Z2.out.kept hb); obtain ⟨z0, z1, z2, z3, z4, z5, z6, z7, z8, z9, z10, z11, z12, z13⟩ := Z3.out; have B3 := Aside0.mk (below_step B2.out hb); clear hb) | (go_at_call 80; refine (HT.out _ B3.out).mono ?_; rintro x' w6 ⟨rfl, hb⟩; have Z4 := Aside0.mk (Z3.out.kept hb); obtain ⟨z0, z1, z2, z3, z4, z5, z6, z7, z8, z9, z10, z11, z12, z13⟩ := Z4.out; have B4 := Aside0.mk (below_step B3.out hb); clear hb))
         go_ret
         exact ⟨rfl, B4.out⟩
        | true =>
         obtain rfl : fm = fu := by rw [hform]; simp
         clear hform
         obtain ⟨W2, hW2, BB0, HZ0⟩ := box52 w 4 nm a A5 c5 e A9 c9 lo hi t A12 c12 u A13 c13
         have BB := Aside0.mk BB0
         have HZ := Aside0.mk HZ0
         obtain ⟨z0, z1, z2, z3, z4, z5, z6, z7, z8, z9, z10, z11, z12, z13⟩ := HZ0
         clear BB0
         go_enter Tryz.func95, Tryz.ntmps95
         go_upto_region 1 with (fail)
         try rw [hW2]
         clear hW2
         go_quiet (fail)
         have T2 := Aside0.mk trivial
         have T4 := Aside0.mk trivial
         go_wp2_with (first | (go_at_call 78; refine (HN.out _ (pw_below_drewN BB.out _)).mono ?_; rintro x' w3 ⟨rfl, hb⟩; have Z1 := Aside0.mk ((HZ.out.drewN _).kept hb); obtain ⟨z0, z1, z2, z3, z4, z5, z6, z7, z8, z9, z10, z11, z12, z13⟩ := Z1.out; have B1 := Aside0.mk (below_step (pw_below_drewN BB.out _) hb); clear hb) | (clear T2; go_at_call 104; refine (HAn.out _ B1.out).mono ?_; rintro x' w4 ⟨rfl, hb⟩; have Z2 := Aside0.mk (Z1.out.kept hb); obtain ⟨z0, z1, z2, z3, z4, z5, z6, z7, z8, z9, z10, z11, z12, z13⟩ := Z2.out; have B2 := Aside0.mk (below_step B1.out hb); clear hb) | (go_at_call 104; refine (HEn.out _ B2.out).mono ?_; rintro x' w5 ⟨rfl, hb⟩; have Z3 := Aside0.mk (Z2.out.kept hb); obtain ⟨z0, z1, z2, z3, z4, z5, z6, z7, z8, z9, z10, z11, z12, z13⟩ := Z3.out; have B3 := Aside0.mk (below_step B2.out hb); clear hb) | (clear T4; go_at_call 80; refine (HT.out _ B3.out).mono ?_; rintro x' w6 ⟨rfl, hb⟩; have Z4 := Aside0.mk (Z3.out.kept hb); obtain ⟨z0, z1, z2, z3, z4, z5, z6, z7, z8, z9, z10, z11, z12, z13⟩ := Z4.out; have B4 := Aside0.mk (below_step B3.out hb); clear hb) | (go_at_call 80; refine (HU.out _ B4.out).mono ?_; rintro x' w7 ⟨rfl, hb⟩; have Z5 := Aside0.mk (Z4.out.kept hb); obtain ⟨z0, z1, z2, z3, z4, z5, z6, z7, z8, z9, z10, z11, z12, z13⟩ := Z5.out; have B5 := Aside0.mk (below_step B4.out hb); clear hb))
         go_ret
         exact ⟨rfl, B5.out⟩
       ·rw [decide_eq_false hu] at hform
        have lu : decide ((0 : Int) < (u.length : Int)) = true := decide_eq_true (by omega)
        have mu : decide (0 < u.length) = true := decide_eq_true (by omega)
        clear hu
        obtain rfl : fm = false := by rw [hform]; simp
        clear hform
        obtain ⟨W2, hW2, BB0, HZ0⟩ := box52 w 4 nm a A5 c5 e A9 c9 lo hi t A12 c12 u A13 c13
        have BB := Aside0.mk BB0
        have HZ := Aside0.mk HZ0
        obtain ⟨z0, z1, z2, z3, z4, z5, z6, z7, z8, z9, z10, z11, z12, z13⟩ := HZ0
        clear BB0
        go_enter Tryz.func95, Tryz.ntmps95
        go_upto_region 1 with (fail)
        try rw [hW2]
        clear hW2
        go_quiet (fail)
        have T2 := Aside0.mk trivial
        go_wp2_with (first | (go_at_call 78; refine (HN.out _ (pw_below_drewN BB.out _)).mono ?_; rintro x' w3 ⟨rfl, hb⟩; have Z1 := Aside0.mk ((HZ.out.drewN _).kept hb); obtain ⟨z0, z1, z2, z3, z4, z5, z6, z7, z8, z9, z10, z11, z12, z13⟩ := Z1.out; have B1 := Aside0.mk (below_step (pw_below_drewN BB.out _) hb); clear hb) | (clear T2; go_at_call 104; refine (HAn.out _ B1.out).mono ?_; rintro x' w4 ⟨rfl, hb⟩; have Z2 := Aside0.mk (Z1.out.kept hb); obtain ⟨z0, z1, z2, z3, z4, z5, z6, z7, z8, z9, z10, z11, z12, z13⟩ := Z2.out; have B2 := Aside0.mk (below_step B1.out hb); clear hb) | (go_at_call 104; refine (HEn.out _ B2.out).mono ?_; rintro x' w5 ⟨rfl, hb⟩; have Z3 := Aside0.mk (Z2.out.kept hb); obtain ⟨z0, z1, z2, z3, z4, z5, z6, z7, z8, z9, z10, z11, z12, z13⟩ := Z3.out; have B3 := Aside0.mk (below_step B2.out hb); clear hb))
        go_ret
        exact ⟨rfl, B3.out⟩
   ·rw [S52.formB_5] at hform
    clear hnil
    cases nb with
    | false =>
     obtain rfl : fm = false := by rw [hform]; simp
     clear hform
     obtain ⟨W2, hW2, BB0, HZ0⟩ := box52 w 5 nm a A5 c5 e A9 c9 lo hi t A12 c12 u A13 c13
     have BB := Aside0.mk BB0
     have HZ := Aside0.mk HZ0
     obtain ⟨z0, z1, z2, z3, z4, z5, z6, z7, z8, z9, z10, z11, z12, z13⟩ := HZ0
     clear BB0
     go_enter Tryz.func95, Tryz.ntmps95
     go_upto_region 1 with (fail)
     try rw [hW2]
     clear hW2
     go_quiet (fail)
     go_wp2_with (first | (go_at_call 78; refine (HN.out _ (pw_below_drewN BB.out _)).mono ?_; rintro x' w3 ⟨rfl, hb⟩; have Z1 := Aside0.mk ((HZ.out.drewN _).kept hb); obtain ⟨z0, z1, z2, z3, z4, z5, z6, z7, z8, z9, z10, z11, z12, z13⟩ := Z1.out; have B1 := Aside0.mk (below_step (pw_below_drewN BB.out _) hb); clear hb))
     go_ret
     exact ⟨rfl, B1.out⟩
    | true =>
     cases an with
     | false =>
      obtain rfl : fm = false := by rw [hform]; simp
      clear hform
      obtain ⟨W2, hW2, BB0, HZ0⟩ := box52 w 5 nm a A5 c5 e A9 c9 lo hi t A12 c12 u A13 c13
      have BB := Aside0.mk BB0
      have HZ := Aside0.mk HZ0
      obtain ⟨z0, z1, z2, z3, z4, z5, z6, z7, z8, z9, z10, z11, z12, z13⟩ := HZ0
      clear BB0
      go_enter Tryz.func95, Tryz.ntmps95
      go_upto_region 1 with (fail)
      try rw [hW2]
      clear hW2
      go_quiet (fail)
      go_wp2_with (first | (go_at_call 78; refine (HN.out _ (pw_below_drewN BB.out _)).mono ?_; rintro x' w3 ⟨rfl, hb⟩; have Z1 := Aside0.mk ((HZ.out.drewN _).kept hb); obtain ⟨z0, z1, z2, z3, z4, z5, z6, z7, z8, z9, z10, z11, z12, z13⟩ := Z1.out; have B1 := Aside0.mk (below_step (pw_below_drewN BB.out _) hb); clear hb) | (go_at_call 104; refine (HAn.out _ B1.out).mono ?_; rintro x' w4 ⟨rfl, hb⟩; have Z2 := Aside0.mk (Z1.out.kept hb); obtain ⟨z0, z1, z2, z3, z4, z5, z6, z7, z8, z9, z10, z11, z12, z13⟩ := Z2.out; have B2 := Aside0.mk (below_step B1.out hb); clear hb))
      go_ret
      exact ⟨rfl, B2.out⟩
     | true =>
      cases en with
      | false =>
       obtain rfl : fm = false := by rw [hform]; simp
       clear hform
       obtain ⟨W2, hW2, BB0, HZ0⟩ := box52 w 5 nm a A5 c5 e A9 c9 lo hi t A12 c12 u A13 c13
       have BB := Aside0.mk BB0
       have HZ := Aside0.mk HZ0
       obtain ⟨z0, z1, z2, z3, z4, z5, z6, z7, z8, z9, z10, z11, z12, z13⟩ := HZ0
       clear BB0
       go_enter Tryz.func95, Tryz.ntmps95
       go_upto_region 1 with (fail)
       try rw [hW2]
       clear hW2
       go_quiet (fail)
       have T2 := Aside0.mk trivial
       go_wp2_with (first | (go_at_call 78; refine (HN.out _ (pw_below_drewN BB.out _)).mono ?_; rintro x' w3 ⟨rfl, hb⟩; have Z1 := Aside0.mk ((HZ.out.drewN _).kept hb); obtain ⟨z0, z1, z2, z3, z4, z5, z6, z7, z8, z9, z10, z11, z12, z13⟩ := Z1.out; have B1 := Aside0.mk (below_step (pw_below_drewN BB.out _) hb); clear hb) | (clear T2; go_at_call 104; refine (HAn.out _ B1.out).mono ?_; rintro x' w4 ⟨rfl, hb⟩; have Z2 := Aside0.mk (Z1.out.kept hb); obtain ⟨z0, z1, z2, z3, z4, z5, z6, z7, z8, z9, z10, z11, z12, z13⟩ := Z2.out; have B2 := Aside0.mk (below_step B1.out hb); clear hb) | (go_at_call 104; refine (HEn.out _ B2.out).mono ?_; rintro x' w5 ⟨rfl, hb⟩; have Z3 := Aside0.mk (Z2.out.kept hb); obtain ⟨z0, z1, z2, z3, z4, z5, z6, z7, z8, z9, z10, z11, z12, z13⟩ := Z3.out; have B3 := Aside0.mk (below_step B2.out hb); clear hb))
       go_ret
       exact ⟨rfl, B3.out⟩
      | true =>
       by_cases hlo : lo = 0
       ·subst hlo
        by_cases hhi : hi = 0
        ·subst hhi
         simp only [decide_true, Bool.true_and, Bool.or_true, Bool.and_true, Bool.true_or] at hform
         by_cases ht : t.length = 0
         ·rw [decide_eq_true ht] at hform
          have lt : decide ((0 : Int) < (t.length : Int)) = false := decide_eq_false (by omega)
          have mt : decide (0 < t.length) = false := decide_eq_false (by omega)
          clear ht
          by_cases hu : u.length = 0
          ·rw [decide_eq_true hu] at hform
           have lu : decide ((0 : Int) < (u.length : Int)) = false := decide_eq_false (by omega)
           have mu : decide (0 < u.length) = false := decide_eq_false (by omega)
           clear hu
           cases ft with
           | false =>
            obtain rfl : fm = false := by rw [hform]; simp
            clear hform
            obtain ⟨W2, hW2, BB0, HZ0⟩ := box52 w 5 nm a A5 c5 e A9 c9 0 0 t A12 c12 u A13 c13
            have BB := Aside0.mk BB0
            have HZ := Aside0.mk HZ0
            obtain ⟨z0, z1, z2, z3, z4, z5, z6, z7, z8, z9, z10, z11, z12, z13⟩ := HZ0
            clear BB0
            go_enter Tryz.func95, Tryz.ntmps95
            go_upto_region 1 with (fail)
            try rw [hW2]
            clear hW2
            go_quiet (fail)
            have T2 := Aside0.mk trivial
            go_wp2_with (first | (go_at_call 78; refine (HN.out _ (pw_below_drewN BB.out _)).mono ?_; rintro x' w3 ⟨rfl, hb⟩; have Z1 := Aside0.mk ((HZ.out.drewN _).kept hb); obtain ⟨z0, z1, z2, z3, z4, z5, z6, z7, z8, z9, z10, z11, z12, z13⟩ := Z1.out; have B1 := Aside0.mk (below_step (pw_below_drewN BB.out _) hb); clear hb) | (clear T2; go_at_call 104; refine (HAn.out _ B1.out).mono ?_; rintro x' w4 ⟨rfl, hb⟩; have Z2 := Aside0.mk (Z1.out.kept hb); obtain ⟨z0, z1, z2, z3, z4, z5, z6, z7, z8, z9, z10, z11, z12, z13⟩ := Z2.out; have B2 := Aside0.mk (below_step B1.out hb); clear hb) | (go_at_call 104; refine (HEn.out _ B2.out).mono ?_; rintro x' w5 ⟨rfl, hb⟩; have Z3 := Aside0.mk (Z2.out.kept hb); obtain ⟨z0, z1, z2, z3, z4, z5, z6, z7, z8, z9, z10, z11, z12, z13⟩ := Z3.out; have B3 := Aside0.mk (below_step B2.out hb); clear hb) | (go_at_call 80; refine (HT.out _ B3.out).mono ?_; rintro x' w6 ⟨rfl, hb⟩; have Z4 := Aside0.mk (Z3.out.kept hb); obtain ⟨z0, z1, z2, z3, z4, z5, z6, z7, z8, z9, z10, z11, z12, z13⟩ := Z4.out; have B4 := Aside0.mk (below_step B3.out hb); clear hb))
            go_ret
            exact ⟨rfl, B4.out⟩
           | true =>
            obtain rfl : fm = fu := by rw [hform]; simp
            clear hform
            obtain ⟨W2, hW2, BB0, HZ0⟩ := box52 w 5 nm a A5 c5 e A9 c9 0 0 t A12 c12 u A13 c13
            have BB := Aside0.mk BB0
            have HZ := Aside0.mk HZ0
            obtain ⟨z0, z1, z2, z3, z4, z5, z6, z7, z8, z9, z10, z11, z12, z13⟩ := HZ0
            clear BB0
            go_enter Tryz.func95, Tryz.ntmps95
            go_upto_region 1 with (fail)
            try rw [hW2]
            clear hW2
            go_quiet (fail)
            have T2 := Aside0.mk trivial
            have T4 := Aside0.mk trivial
            go_wp2_with (first | (go_at_call 78; refine (HN.out _ (pw_below_drewN BB.out _)).mono ?_; rintro x' w3 ⟨rfl, hb⟩; have Z1 := Aside0.mk ((HZ.out.drewN _).kept hb); obtain ⟨z0, z1, z2, z3, z4, z5, z6, z7, z8, z9, z10, z11, z12, z13⟩ := Z1.out; have B1 := Aside0.mk (below_step (pw_below_drewN BB.out _) hb); clear hb) | (clear T2; go_at_call 104; refine (HAn.out _ B1.out).mono ?_; rintro x' w4 ⟨rfl, hb⟩; have Z2 := Aside0.mk (Z1.out.kept hb); obtain ⟨z0, z1, z2, z3, z4, z5, z6, z7, z8, z9, z10, z11, z12, z13⟩ := Z2.out; have B2 := Aside0.mk (below_step B1.out hb); clear hb) | (go_at_call 104; refine (HEn.out _ B2.out).mono ?_; rintro x' w5 ⟨rfl, hb⟩; have Z3 := Aside0.mk (Z2.out.kept hb); obtain ⟨z0, z1, z2, z3, z4, z5, z6, z7, z8, z9, z10, z11, z12, z13⟩ := Z3.out; have B3 := Aside0.mk (below_step B2.out hb); clear hb) | (clear T4; go_at_call 80; refine (HT.out _ B3.out).mono ?_; rintro x' w6 ⟨rfl, hb⟩; have Z4 := Aside0.mk (Z3.out.kept hb); obtain ⟨z0, z1, z2, z3, z4, z5, z6, z7, z8, z9, z10, z11, z12, z13⟩ := Z4.out; have B4 := Aside0.mk (below_step B3.out hb); clear hb) | (go_at_call 80; refine (HU.out _ B4.out).mono ?_; rintro x' w7 ⟨rfl, hb⟩; have Z5 := Aside0.mk (Z4.out.kept hb); obtain ⟨z0, z1, z2, z3, z4, z5, z6, z7, z8, z9, z10, z11, z12, z13⟩ := Z5.out; have B5 := Aside0.mk (below_step B4.out hb); clear hb))
            go_ret
            exact ⟨rfl, B5.out⟩
          ·rw [decide_eq_false hu] at hform
           have lu : decide ((0 : Int) < (u.length : Int)) = true := decide_eq_true (by omega)
           have mu : decide (0 < u.length) = true := decide_eq_true (by omega)
           clear hu
           obtain rfl : fm = false := by rw [hform]; simp
           clear hform
           obtain ⟨W2, hW2, BB0, HZ0⟩ := box52 w 5 nm a A5 c5 e A9 c9 0 0 t A12 c12 u A13 c13
           have BB := Aside0.mk BB0
           have HZ := Aside0.mk HZ0
           obtain ⟨z0, z1, z2, z3, z4, z5, z6, z7, z8, z9, z10, z11, z12, z13⟩ := HZ0
           clear BB0
           go_enter Tryz.func95, Tryz.ntmps95
           go_upto_region 1 with (fail)
           try rw [hW2]
           clear hW2
           go_quiet (fail)
           have T2 := Aside0.mk trivial
           go_wp2_with (first | (go_at_call 78; refine (HN.out _ (pw_below_drewN BB.out _)).mono ?_; rintro x' w3 ⟨rfl, hb⟩; have Z1 := Aside0.mk ((HZ.out.drewN _).kept hb); obtain ⟨z0, z1, z2, z3, z4, z5, z6, z7, z8, z9, z10, z11, z12, z13⟩ := Z1.out; have B1 := Aside0.mk (below_step (pw_below_drewN BB.out _) hb); clear hb) | (clear T2; go_at_call 104; refine (HAn.out _ B1.out).mono ?_; rintro x' w4 ⟨rfl, hb⟩; have Z2 := Aside0.mk (Z1.out.kept hb); obtain ⟨z0, z1, z2, z3, z4, z5, z6, z7, z8, z9, z10, z11, z12, z13⟩ := Z2.out; have B2 := Aside0.mk (below_step B1.out hb); clear hb) | (go_at_call 104; refine (HEn.out _ B2.out).mono ?_; rintro x' w5 ⟨rfl, hb⟩; have Z3 := Aside0.mk (Z2.out.kept hb); obtain ⟨z0, z1, z2, z3, z4, z5, z6, z7, z8, z9, z10, z11, z12, z13⟩ := Z3.out; have B3 := Aside0.mk (below_step B2.out hb); clear hb))
           go_ret
           exact ⟨rfl, B3.out⟩
         ·rw [decide_eq_false ht] at hform
          have lt : decide ((0 : Int) < (t.length : Int)) = true := decide_eq_true (by omega)
          have mt : decide (0 < t.length) = true := decide_eq_true (by omega)
          clear ht
          obtain rfl : fm = false := by rw [hform]; simp
          clear hform
          obtain ⟨W2, hW2, BB0, HZ0⟩ := box52 w 5 nm a A5 c5 e A9 c9 0 0 t A12 c12 u A13 c13
          have BB := Aside0.mk BB0
          have HZ := Aside0.mk HZ0
          obtain ⟨z0, z1, z2, z3, z4, z5, z6, z7, z8, z9, z10, z11, z12, z13⟩ := HZ0
          clear BB0
          go_enter Tryz.func95, Tryz.ntmps95
          go_upto_region 1 with (fail)
          try rw [hW2]
          clear hW2
          go_quiet (fail)
          have T2 := Aside0.mk trivial
          go_wp2_with (first | (go_at_call 78; refine (HN.out _ (pw_below_drewN BB.out _)).mono ?_; rintro x' w3 ⟨rfl, hb⟩; have Z1 := Aside0.mk ((HZ.out.drewN _).kept hb); obtain ⟨z0, z1, z2, z3, z4, z5, z6, z7, z8, z9, z10, z11, z12, z13⟩ := Z1.out; have B1 := Aside0.mk (below_step (pw_below_drewN BB.out _) hb); clear hb) | (clear T2; go_at_call 104; refine (HAn.out _ B1.out).mono ?_; rintro x' w4 ⟨rfl, hb⟩; have Z2 := Aside0.mk (Z1.out.kept hb); obtain ⟨z0, z1, z2, z3, z4, z5, z6, z7, z8, z9, z10, z11, z12, z13⟩ := Z2.out; have B2 := Aside0.mk (below_step B1.out hb); clear hb) | (go_at_call 104; refine (HEn.out _ B2.out).mono ?_; rintro x' w5 ⟨rfl, hb⟩; have Z3 := Aside0.mk (Z2.out.kept hb); obtain ⟨z0, z1, z2, z3, z4, z5, z6, z7, z8, z9, z10, z11, z12, z13⟩ := Z3.out; have B3 := Aside0.mk (below_step B2.out hb); clear hb))
          go_ret
          exact ⟨rfl, B3.out⟩
        ·have i1 : (hi == 0) = false := beq_eq_false_iff_ne.mpr hhi
         have i2 : (hi != 0) = true := bne_iff_ne.mpr hhi
         rw [decide_eq_false hhi] at hform
         clear hhi
         obtain rfl : fm = false := by rw [hform]; simp
         clear hform
         obtain ⟨W2, hW2, BB0, HZ0⟩ := box52 w 5 nm a A5 c5 e A9 c9 0 hi t A12 c12 u A13 c13
         have BB := Aside0.mk BB0
         have HZ := Aside0.mk HZ0
         obtain ⟨z0, z1, z2, z3, z4, z5, z6, z7, z8, z9, z10, z11, z12, z13⟩ := HZ0
         clear BB0
         go_enter Tryz.func95, Tryz.ntmps95
         go_upto_region 1 with (fail)
         try rw [hW2]
         clear hW2
         go_quiet (fail)
         have T2 := Aside0.mk trivial
         go_wp2_with (first | (go_at_call 78; refine (HN.out _ (pw_below_drewN BB.out _)).mono ?_; rintro x' w3 ⟨rfl, hb⟩; have Z1 := Aside0.mk ((HZ.out.drewN _).kept hb); obtain ⟨z0, z1, z2, z3, z4, z5, z6, z7, z8, z9, z10, z11, z12, z13⟩ := Z1.out; have B1 := Aside0.mk (below_step (pw_below_drewN BB.out _) hb); clear hb) | (clear T2; go_at_call 104; refine (HAn.out _ B1.out).mono ?_; rintro x' w4 ⟨rfl, hb⟩; have Z2 := Aside0.mk (Z1.out.kept hb); obtain ⟨z0, z1, z2, z3, z4, z5, z6, z7, z8, z9, z10, z11, z12, z13⟩ := Z2.out; have B2 := Aside0.mk (below_step B1.out hb); clear hb) | (go_at_call 104; refine (HEn.out _ B2.out).mono ?_; rintro x' w5 ⟨rfl, hb⟩; have Z3 := Aside0.mk (Z2.out.kept hb); obtain ⟨z0, z1, z2, z3, z4, z5, z6, z7, z8, z9, z10, z11, z12, z13⟩ := Z3.out; have B3 := Aside0.mk (below_step B2.out hb); clear hb))
         go_ret
         exact ⟨rfl, B3.out⟩
       ·have i1 : (lo == 0) = false := beq_eq_false_iff_ne.mpr hlo
        have i2 : (lo != 0) = true := bne_iff_ne.mpr hlo
        rw [decide_eq_false hlo] at hform
        clear hlo
        obtain rfl : fm = false := by rw [hform]; simp
        clear hform
        obtain ⟨W2, hW2, BB0, HZ0⟩ := box52 w 5 nm a A5 c5 e A9 c9 lo hi t A12 c12 u A13 c13
        have BB := Aside0.mk BB0
        have HZ := Aside0.mk HZ0
        obtain ⟨z0, z1, z2, z3, z4, z5, z6, z7, z8, z9, z10, z11, z12, z13⟩ := HZ0
        clear BB0
        go_enter Tryz.func95, Tryz.ntmps95
        go_upto_region 1 with (fail)
        try rw [hW2]
        clear hW2
        go_quiet (fail)
        have T2 := Aside0.mk trivial
        go_wp2_with (first | (go_at_call 78; refine (HN.out _ (pw_below_drewN BB.out _)).mono ?_; rintro x' w3 ⟨rfl, hb⟩; have Z1 := Aside0.mk ((HZ.out.drewN _).kept hb); obtain ⟨z0, z1, z2, z3, z4, z5, z6, z7, z8, z9, z10, z11, z12, z13⟩ := Z1.out; have B1 := Aside0.mk (below_step (pw_below_drewN BB.out _) hb); clear hb) | (clear T2; go_at_call 104; refine (HAn.out _ B1.out).mono ?_; rintro x' w4 ⟨rfl, hb⟩; have Z2 := Aside0.mk (Z1.out.kept hb); obtain ⟨z0, z1, z2, z3, z4, z5, z6, z7, z8, z9, z10, z11, z12, z13⟩ := Z2.out; have B2 := Aside0.mk (below_step B1.out hb); clear hb) | (go_at_call 104; refine (HEn.out _ B2.out).mono ?_; rintro x' w5 ⟨rfl, hb⟩; have Z3 := Aside0.mk (Z2.out.kept hb); obtain ⟨z0, z1, z2, z3, z4, z5, z6, z7, z8, z9, z10, z11, z12, z13⟩ := Z3.out; have B3 := Aside0.mk (below_step B2.out hb); clear hb))
        go_ret
        exact ⟨rfl, B3.out⟩
set_option maxHeartbeats 8000000 in
set_option maxRecDepth 100000 in
theorem l_body (M : Nat) : ∀ (l : List S52) (A : Option Addr) (c : Nat) (w : World), S52.bulks l ≤ M → k52.C w A l.length l → l.length ≤ c →
  Calls Tryz.prog 80 #[.slice A l.length c] w fun x w' => x = .returned (.bool (S52.formsB l)) ∧ Below w.heap.size w w' := by
 induction M using Nat.strongRecOn with
 | _ M ih =>
 intro l A c w hM hC hc
 have hu := Tryz.underlying23
 have hll : (l.length : Int) ≤ 9223372036854775807 := by have := hC.2.1; omega
 have HKid : Aside0 (∀ i, i < l.length → ∀ W, Below w.heap.size w W → ∃ ad A5 c5 A9 c9 A12 c12 A13 c13, A = some ad ∧ StIn W ad i (rd_T52 l i) A5 c5 A9 c9 A12 c12 A13 c13 ∧ ∀ W', Below W.heap.size W W' → Calls Tryz.prog 95 #[(rd_T52 l i).val A5 c5 A9 c9 A12 c12 A13 c13] W' fun x w' => x = .returned (.bool (rd_T52 l i).formB) ∧ Below W'.heap.size W' w') := ⟨fun i hi W hb => by
  obtain ⟨ad, A5, c5, A9, c9, A12, c12, A13, c13, rfl, x0, x1, x2, x3, x4, x5, x6, x7, x8, x9, x10, x11, x12, x13, l5, g5, l9, g9, l12, g12, l13, g13⟩ := at_T52 hC (i : Int) (by omega) (by omega)
  simp only [Int.toNat_natCast] at x0 x1 x2 x3 x4 x5 x6 x7 x8 x9 x10 x11 x12 x13
  have hbk := S52.bulk_in hi
  have hbe := S52.bulk_eq (rd_T52 l i)
  refine ⟨ad, A5, c5, A9, c9, A12, c12, A13, c13, rfl, ⟨kept_cell hb x0, kept_cell hb x1, kept_cell hb x2, kept_cell hb x3, kept_cell hb x4, kept_cell hb x5, kept_cell hb x6, kept_cell hb x7, kept_cell hb x8, kept_cell hb x9, kept_cell hb x10, kept_cell hb x11, kept_cell hb x12, kept_cell hb x13⟩, fun W' hb' => ?_⟩
  have hbb := below_step hb hb'
  exact l_stmt (rd_T52 l i) A5 c5 A9 c9 A12 c12 A13 c13 W'
   (fun V hV => lexpr_any _ (rd_T52 l i).f2 A5 c5 V (Nat.le_refl _) (Kd.C_below g5 (below_step hbb hV)) l5)
   (fun V hV => lnone_any (rd_T52 l i).f2 A5 c5 V (Kd.C_below g5 (below_step hbb hV)) l5)
   (fun V hV => lexpr_any _ (rd_T52 l i).f3 A9 c9 V (Nat.le_refl _) (Kd.C_below g9 (below_step hbb hV)) l9)
   (fun V hV => lnone_any (rd_T52 l i).f3 A9 c9 V (Kd.C_below g9 (below_step hbb hV)) l9)
   (fun V hV => ih (S52.bulks (rd_T52 l i).f6) (by omega) _ A12 c12 V (Nat.le_refl _) (Kd.C_below g12 (below_step hbb hV)) l12)
   (fun V hV => ih (S52.bulks (rd_T52 l i).f7) (by omega) _ A13 c13 V (Nat.le_refl _) (Kd.C_below g13 (below_step hbb hV)) l13)⟩
 clear ih hM hC hc
 go_enter Tryz.func80, Tryz.ntmps80
 go_wp2_with fail
 go_loopg [7] (l.length) (fun m v wr => ∃ i : Nat, v = .int .i64 i ∧ m = l.length - i ∧ i ≤ l.length ∧ (∀ j, j < i → (rd_T52 l j).formB = true) ∧ Below w.heap.size w wr)
 case atStart => exact ⟨0, rfl, by omega, by omega, fun j h => absurd h (by omega), Below.refl _ _⟩
 case round =>
  obtain ⟨i, rfl, rfl, hi, hok, R⟩ := hrel
  have HOK := Aside0.mk hok
  clear hok
  by_cases hlt : i < l.length
  ·obtain ⟨ad, A5, c5, A9, c9, A12, c12, A13, c13, rfl, ⟨x0, x1, x2, x3, x4, x5, x6, x7, x8, x9, x10, x11, x12, x13⟩, HC⟩ := HKid.out i hlt wr R
   have hlt' : (i : Int) < (l.length : Int) := by omega
   have HF := Aside0.mk (S52.formsB_false hlt)
   obtain ⟨d, hd⟩ : ∃ d, rd_T52 l i = d := ⟨_, rfl⟩
   rw [hd] at x0 x1 x2 x3 x4 x5 x6 x7 x8 x9 x10 x11 x12 x13 HC HF
   have HDD := Aside0.mk hd
   clear hd
   have RR := Aside0.mk R
   have HCr := Aside0.mk (HC (wr.alloc (.cells #[.int .i64 d.f0, .string d.f1, .int .i64 d.f2.f0, .int .u64 d.f2.f1, .string d.f2.f2, .slice A5 d.f2.f3.length c5, .int .i64 d.f3.f0, .int .u64 d.f3.f1, .string d.f3.f2, .slice A9 d.f3.f3.length c9, .int .u64 d.f4, .int .u64 d.f5, .slice A12 d.f6.length c12, .slice A13 d.f7.length c13] 52)) (below_alloc (Below.refl _ _) _))
   clear R HC
   unfold S52.val at HCr
   cases hv : d.formB with
   | false =>
    rw [hv] at HCr
    have HV := Aside0.mk (HF.out hv)
    clear hv HF
    go_wp2_with (go_at_call 95; refine HCr.out.mono ?_; rintro x' w6 ⟨rfl, hb⟩)
    go_ret
    exact ⟨by rw [HV.out]; rfl, below_step (below_alloc RR.out _) hb⟩
   | true =>
    rw [hv] at HCr
    have HD : Aside0 ((rd_T52 l i).formB = true) := ⟨by rw [HDD.out]; exact hv⟩
    clear hv
    go_wp2_with (go_at_call 95; refine HCr.out.mono ?_; rintro x' w6 ⟨rfl, hb⟩)
    go_roundg (l.length - (i + 1))
    case measure => omega
    case rel => exact ⟨i + 1, by simp, rfl, by omega, stform_step HOK.out HD.out, below_step (below_alloc RR.out _) hb⟩
  ·have hlt' : ¬ ((i : Int) < (l.length : Int)) := by omega
   have hie : i = l.length := by omega
   subst hie
   have RR := Aside0.mk R
   clear R
   go_wp2_with fail
   go_ret
   exact ⟨by rw [S52.formsB_true HOK.out]; rfl, RR.out⟩
end Go.Proofs.YtjomofepephodaaGreat.PEquivShapes
