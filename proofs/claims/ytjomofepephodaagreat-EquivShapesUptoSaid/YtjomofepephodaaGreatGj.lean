/-
  Names of the form. Conditions: what each theorem names.
-/
import Derived.BigQuiet
import Derived.Deep.QuietTactic
import Derived.Laws.RangeAny
import Derived.Lib.OthersKept
import Derived.Test.YtjomofepephodaaGreatGa
import Derived.Test.YtjomofepephodaaGreatKb
set_option linter.unusedVariables false
set_option linter.unusedSimpArgs false
namespace Go.Proofs.YtjomofepephodaaGreat.PEquivShapes
open Go.RowKit
open Go.Proofs.YtjomofepephodaaGreatW.PrintWords Go.Proofs.YtjomofepephodaaGreatW.PrintLast Go.Proofs.YtjomofepephodaaGreatW.PrintMore
/-- a letter; a digit; what may stand at a place; a name -/
def letB (r : Int) : Bool := decide (97 ≤ r) && decide (r ≤ 122) || decide (65 ≤ r) && decide (r ≤ 90) || decide (r = 95)
def digB (r : Int) : Bool := decide (48 ≤ r) && decide (r ≤ 57)
def okB (i : Nat) (r : Int) : Bool := letB r || !decide (i = 0) && digB r
def nmB (s : ByteArray) : Bool := decide (1 ≤ s.size) && decide (s.size ≤ 24) && (List.range s.size).all fun i => okB i (bt s i)
theorem nmB_false {s : ByteArray} {i : Nat} (hi : i < s.size) (h : okB i (bt s i) = false) : nmB s = false := by
 unfold nmB
 rw [Bool.and_eq_false_iff]
 right
 rw [List.all_eq_false]
 exact ⟨i, by simpa using hi, by simp [h]⟩
theorem nmB_true {s : ByteArray} (h1 : 1 ≤ s.size) (h2 : s.size ≤ 24) (h : ∀ i, i < s.size → okB i (bt s i) = true) : nmB s = true := by
 unfold nmB
 rw [decide_eq_true h1, decide_eq_true h2, Bool.true_and, Bool.true_and, List.all_eq_true]
 intro i hi
 exact h i (by simpa using hi)
theorem okB_high {i : Nat} {r : Int} (h : 128 ≤ r) : okB i r = false := by
 unfold okB letB digB
 rw [decide_eq_false (show ¬ r ≤ 122 by omega), decide_eq_false (show ¬ r ≤ 90 by omega), decide_eq_false (show ¬ r = 95 by omega), decide_eq_false (show ¬ r ≤ 57 by omega)]
 simp
theorem ok_step {s : ByteArray} {pos : Nat} (h : ∀ j, j < pos → okB j (bt s j) = true) (h1 : okB pos (bt s pos) = true) : ∀ j, j < pos + 1 → okB j (bt s j) = true := fun j hj => by
 by_cases hj2 : j < pos
 ·exact h j hj2
 ·obtain rfl : j = pos := by omega
  exact h1
theorem bt_of {s : ByteArray} {i : Nat} (h : i < s.size) : bt s i = ((s[i]'h).toNat : Int) := by
 unfold bt
 rw [dif_pos (by simpa using h)]
 rfl
set_option maxHeartbeats 4000000 in
theorem name_any (s : ByteArray) (w : World) : Calls Tryz.prog 93 #[.string s] w fun e w' => e = .returned (.bool (nmB s)) ∧ Below w.heap.size w w' := by
 have hu9 := Tryz.underlying9
 by_cases h1 : s.size < 1
 ·have h1' : (s.size : Int) < 1 := by omega
  have e1 : nmB s = false := by unfold nmB; rw [decide_eq_false (by omega), Bool.false_and, Bool.false_and]
  rw [e1]
  clear h1 e1
  go_enter Tryz.func93, Tryz.ntmps93
  go_wp2_with fail
  go_ret
  exact ⟨rfl, Below.refl _ _⟩
 ·have h1' : decide ((s.size : Int) < 1) = false := decide_eq_false (by omega)
  by_cases h2 : 24 < s.size
  ·have h2' : (s.size : Int) > 24 := by omega
   have e1 : nmB s = false := by unfold nmB; rw [decide_eq_false (show ¬ s.size ≤ 24 by omega), Bool.and_false, Bool.false_and]
   rw [e1]
   clear h1 h2 e1
   go_enter Tryz.func93, Tryz.ntmps93
   go_wp2_with fail
   go_ret
   exact ⟨rfl, Below.refl _ _⟩
  ·have h2' : decide ((s.size : Int) > 24) = false := decide_eq_false (by omega)
   have H1 := Aside0.mk h1
   have H2 := Aside0.mk h2
   clear h1 h2
   go_enter Tryz.func93, Tryz.ntmps93
   go_wp2_with fail
   go_loopg [3] (s.size) (fun m v3 wr => ∃ pos : Nat, m = s.size - pos ∧ pos ≤ s.size ∧ wr.heap[w.heap.size]? = some (.stringIter s pos) ∧ (∀ j, j < pos → okB j (bt s j) = true) ∧ Below w.heap.size w wr)
   case atStart => exact ⟨0, by omega, by omega, World.iter_heap w s 0, fun j h => absurd h (by omega), (Below.refl _ _).alloc (Nat.le_refl _) _⟩
   case round =>
    obtain ⟨pos, rfl, hps, hit, hok, hbw⟩ := hrel
    clear h1' h2'
    have HOK := Aside0.mk hok
    clear hok
    by_cases hp : pos < s.size
    ·have hnx : ∀ ty, (Instr.next (.pointer (some ⟨w.heap.size, 0, none⟩)) true ty).run Tryz.prog wr = _ := fun ty => Lib.run_next_any_at wr w.heap.size s pos ty hit hp
     have hit2 := Lib.iterAt_heap wr w.heap.size s pos (pos + (Utf8.decode s pos).2) hit
     have hbw2 := Lib.below_iterAt hbw (k := w.heap.size) (Nat.le_refl _) s (pos + (Utf8.decode s pos).2)
     have hasc : (s[pos]'hp).toNat < 128 → ((Utf8.decode s pos).1 : Int) = bt s pos ∧ (Utf8.decode s pos).2 = 1 := fun h => by rw [decode_ascii s pos hp h]; exact ⟨(bt_of hp).symm, rfl⟩
     have hhigh : ¬ (s[pos]'hp).toNat < 128 → 128 ≤ (Utf8.decode s pos).1 := fun h => (decode_high s pos hp (by omega)).1
     have hbt := bt_of hp
     have hle : (Utf8.decode s pos).1 ≤ 2147483647 → ((Utf8.decode s pos).1 : Int) ≤ 2147483647 := fun h => by omega
     generalize (Utf8.decode s pos).2 = wd at *
     generalize (Utf8.decode s pos).1 = rn at *
     obtain ⟨r, hr⟩ : ∃ r : Int, (rn : Int) = r := ⟨_, rfl⟩
     have hr0 : 0 ≤ r := by omega
     have key : okB pos (bt s pos) = okB pos r ∧ (okB pos r = true → wd = 1) := by
      by_cases ha : (s[pos]'hp).toNat < 128
      ·obtain ⟨a1, a2⟩ := hasc ha
       rw [← hr, a1]
       exact ⟨rfl, fun _ => a2⟩
      ·have := hhigh ha
       have e1 : okB pos r = false := okB_high (by omega)
       have e2 : okB pos (bt s pos) = false := okB_high (by omega)
       rw [e1, e2]
       exact ⟨rfl, fun h => by cases h⟩
     rw [hr] at hnx
     obtain ⟨W1, hW1⟩ : ∃ W1, W1 = wr.iterAt w.heap.size s (pos + wd) := ⟨_, rfl⟩
     rw [← hW1] at hnx hit2 hbw2
     have HIT := Aside0.mk hit2
     have HBW := Aside0.mk hbw2
     have HK1 := Aside0.mk key.1
     have HK2 := Aside0.mk key.2
     have HPP := Aside0.mk hp
     have hcl : (97 ≤ r ∧ r ≤ 122) ∨ (65 ≤ r ∧ r ≤ 90) ∨ r = 95 ∨ (48 ≤ r ∧ r ≤ 57) ∨ r < 48 ∨ (58 ≤ r ∧ r ≤ 64) ∨ (91 ≤ r ∧ r ≤ 94) ∨ r = 96 ∨ 123 ≤ r := by omega
     clear hW1 hit hbw hit2 hbw2 hasc hhigh hbt hle hr key hr0 hp
     rcases hcl with hc | hc | hc | hc | hc | hc | hc | hc | hc
     ·have hok : okB pos r = true := by unfold okB letB; simp; omega
      have f1 : decide (97 ≤ r) = true := decide_eq_true (by omega)
      have f2 : decide (r ≤ 122) = true := decide_eq_true (by omega)
      have f3 : decide (65 ≤ r) = true := decide_eq_true (by omega)
      have f4 : decide (r ≤ 90) = false := decide_eq_false (by omega)
      have f5 : (r == 95) = false := beq_eq_false_iff_ne.mpr (by omega)
      have f6 : decide (r < 48) = false := decide_eq_false (by omega)
      have f7 : decide (57 < r) = true := decide_eq_true (by omega)
      have HO := Aside0.mk hok
      clear hc hok
      obtain rfl : wd = 1 := HK2.out HO.out
      go_wp2_with fail
      go_roundg (s.size - (pos + 1))
      case measure => have := HPP.out; omega
      case rel => exact ⟨pos + 1, rfl, HPP.out, HIT.out, ok_step HOK.out (HK1.out.trans HO.out), HBW.out⟩
     ·have hok : okB pos r = true := by unfold okB letB; simp; omega
      have f1 : decide (97 ≤ r) = false := decide_eq_false (by omega)
      have f2 : decide (r ≤ 122) = true := decide_eq_true (by omega)
      have f3 : decide (65 ≤ r) = true := decide_eq_true (by omega)
      have f4 : decide (r ≤ 90) = true := decide_eq_true (by omega)
      have f5 : (r == 95) = false := beq_eq_false_iff_ne.mpr (by omega)
      have f6 : decide (r < 48) = false := decide_eq_false (by omega)
      have f7 : decide (57 < r) = true := decide_eq_true (by omega)
      have HO := Aside0.mk hok
      clear hc hok
      obtain rfl : wd = 1 := HK2.out HO.out
      go_wp2_with fail
      go_roundg (s.size - (pos + 1))
      case measure => have := HPP.out; omega
      case rel => exact ⟨pos + 1, rfl, HPP.out, HIT.out, ok_step HOK.out (HK1.out.trans HO.out), HBW.out⟩
     ·have hok : okB pos r = true := by unfold okB letB; simp; omega
      have f1 : decide (97 ≤ r) = false := decide_eq_false (by omega)
      have f2 : decide (r ≤ 122) = true := decide_eq_true (by omega)
      have f3 : decide (65 ≤ r) = true := decide_eq_true (by omega)
      have f4 : decide (r ≤ 90) = false := decide_eq_false (by omega)
      have f5 : (r == 95) = true := beq_iff_eq.mpr (by omega)
      have f6 : decide (r < 48) = false := decide_eq_false (by omega)
      have f7 : decide (57 < r) = true := decide_eq_true (by omega)
      have HO := Aside0.mk hok
      clear hc hok
      obtain rfl : wd = 1 := HK2.out HO.out
      go_wp2_with fail
      go_roundg (s.size - (pos + 1))
      case measure => have := HPP.out; omega
      case rel => exact ⟨pos + 1, rfl, HPP.out, HIT.out, ok_step HOK.out (HK1.out.trans HO.out), HBW.out⟩
     ·have f1 : decide (97 ≤ r) = false := decide_eq_false (by omega)
      have f2 : decide (r ≤ 122) = true := decide_eq_true (by omega)
      have f3 : decide (65 ≤ r) = false := decide_eq_false (by omega)
      have f4 : decide (r ≤ 90) = true := decide_eq_true (by omega)
      have f5 : (r == 95) = false := beq_eq_false_iff_ne.mpr (by omega)
      have f6 : decide (r < 48) = false := decide_eq_false (by omega)
      have f7 : decide (57 < r) = false := decide_eq_false (by omega)
      by_cases hz : pos = 0
      ·have hok : okB pos r = false := by unfold okB letB digB; simp; omega
       have z1 : ((pos : Int) == 0) = true := beq_iff_eq.mpr (by omega)
       have HO := Aside0.mk hok
       clear hz hc hok
       go_wp2_with fail
       go_ret
       exact ⟨by rw [nmB_false HPP.out (HK1.out.trans HO.out)]; rfl, HBW.out⟩
      ·have hok : okB pos r = true := by unfold okB letB digB; simp; omega
       have z1 : ((pos : Int) == 0) = false := beq_eq_false_iff_ne.mpr (by omega)
       have HO := Aside0.mk hok
       clear hz hc hok
       obtain rfl : wd = 1 := HK2.out HO.out
       go_wp2_with fail
       go_roundg (s.size - (pos + 1))
       case measure => have := HPP.out; omega
       case rel => exact ⟨pos + 1, rfl, HPP.out, HIT.out, ok_step HOK.out (HK1.out.trans HO.out), HBW.out⟩
     ·have hok : okB pos r = false := by unfold okB letB digB; simp; omega
      have f1 : decide (97 ≤ r) = false := decide_eq_false (by omega)
      have f2 : decide (r ≤ 122) = true := decide_eq_true (by omega)
      have f3 : decide (65 ≤ r) = false := decide_eq_false (by omega)
      have f4 : decide (r ≤ 90) = true := decide_eq_true (by omega)
      have f5 : (r == 95) = false := beq_eq_false_iff_ne.mpr (by omega)
      have f6 : decide (r < 48) = true := decide_eq_true (by omega)
      have f7 : decide (57 < r) = false := decide_eq_false (by omega)
      have HO := Aside0.mk hok
      clear hc hok
      by_cases hz : pos = 0
      ·have z1 : ((pos : Int) == 0) = true := beq_iff_eq.mpr (by omega)
       clear hz
       go_wp2_with fail
       go_ret
       exact ⟨by rw [nmB_false HPP.out (HK1.out.trans HO.out)]; rfl, HBW.out⟩
      ·have z1 : ((pos : Int) == 0) = false := beq_eq_false_iff_ne.mpr (by omega)
       clear hz
       go_wp2_with fail
       go_ret
       exact ⟨by rw [nmB_false HPP.out (HK1.out.trans HO.out)]; rfl, HBW.out⟩
     ·have hok : okB pos r = false := by unfold okB letB digB; simp; omega
      have f1 : decide (97 ≤ r) = false := decide_eq_false (by omega)
      have f2 : decide (r ≤ 122) = true := decide_eq_true (by omega)
      have f3 : decide (65 ≤ r) = false := decide_eq_false (by omega)
      have f4 : decide (r ≤ 90) = true := decide_eq_true (by omega)
      have f5 : (r == 95) = false := beq_eq_false_iff_ne.mpr (by omega)
      have f6 : decide (r < 48) = false := decide_eq_false (by omega)
      have f7 : decide (57 < r) = true := decide_eq_true (by omega)
      have HO := Aside0.mk hok
      clear hc hok
      by_cases hz : pos = 0
      ·have z1 : ((pos : Int) == 0) = true := beq_iff_eq.mpr (by omega)
       clear hz
       go_wp2_with fail
       go_ret
       exact ⟨by rw [nmB_false HPP.out (HK1.out.trans HO.out)]; rfl, HBW.out⟩
      ·have z1 : ((pos : Int) == 0) = false := beq_eq_false_iff_ne.mpr (by omega)
       clear hz
       go_wp2_with fail
       go_ret
       exact ⟨by rw [nmB_false HPP.out (HK1.out.trans HO.out)]; rfl, HBW.out⟩
     ·have hok : okB pos r = false := by unfold okB letB digB; simp; omega
      have f1 : decide (97 ≤ r) = false := decide_eq_false (by omega)
      have f2 : decide (r ≤ 122) = true := decide_eq_true (by omega)
      have f3 : decide (65 ≤ r) = true := decide_eq_true (by omega)
      have f4 : decide (r ≤ 90) = false := decide_eq_false (by omega)
      have f5 : (r == 95) = false := beq_eq_false_iff_ne.mpr (by omega)
      have f6 : decide (r < 48) = false := decide_eq_false (by omega)
      have f7 : decide (57 < r) = true := decide_eq_true (by omega)
      have HO := Aside0.mk hok
      clear hc hok
      by_cases hz : pos = 0
      ·have z1 : ((pos : Int) == 0) = true := beq_iff_eq.mpr (by omega)
       clear hz
       go_wp2_with fail
       go_ret
       exact ⟨by rw [nmB_false HPP.out (HK1.out.trans HO.out)]; rfl, HBW.out⟩
      ·have z1 : ((pos : Int) == 0) = false := beq_eq_false_iff_ne.mpr (by omega)
       clear hz
       go_wp2_with fail
       go_ret
       exact ⟨by rw [nmB_false HPP.out (HK1.out.trans HO.out)]; rfl, HBW.out⟩
     ·have hok : okB pos r = false := by unfold okB letB digB; simp; omega
      have f1 : decide (97 ≤ r) = false := decide_eq_false (by omega)
      have f2 : decide (r ≤ 122) = true := decide_eq_true (by omega)
      have f3 : decide (65 ≤ r) = true := decide_eq_true (by omega)
      have f4 : decide (r ≤ 90) = false := decide_eq_false (by omega)
      have f5 : (r == 95) = false := beq_eq_false_iff_ne.mpr (by omega)
      have f6 : decide (r < 48) = false := decide_eq_false (by omega)
      have f7 : decide (57 < r) = true := decide_eq_true (by omega)
      have HO := Aside0.mk hok
      clear hc hok
      by_cases hz : pos = 0
      ·have z1 : ((pos : Int) == 0) = true := beq_iff_eq.mpr (by omega)
       clear hz
       go_wp2_with fail
       go_ret
       exact ⟨by rw [nmB_false HPP.out (HK1.out.trans HO.out)]; rfl, HBW.out⟩
      ·have z1 : ((pos : Int) == 0) = false := beq_eq_false_iff_ne.mpr (by omega)
       clear hz
       go_wp2_with fail
       go_ret
       exact ⟨by rw [nmB_false HPP.out (HK1.out.trans HO.out)]; rfl, HBW.out⟩
     ·have hok : okB pos r = false := by unfold okB letB digB; simp; omega
      have f1 : decide (97 ≤ r) = true := decide_eq_true (by omega)
      have f2 : decide (r ≤ 122) = false := decide_eq_false (by omega)
      have f3 : decide (65 ≤ r) = true := decide_eq_true (by omega)
      have f4 : decide (r ≤ 90) = false := decide_eq_false (by omega)
      have f5 : (r == 95) = false := beq_eq_false_iff_ne.mpr (by omega)
      have f6 : decide (r < 48) = false := decide_eq_false (by omega)
      have f7 : decide (57 < r) = true := decide_eq_true (by omega)
      have HO := Aside0.mk hok
      clear hc hok
      by_cases hz : pos = 0
      ·have z1 : ((pos : Int) == 0) = true := beq_iff_eq.mpr (by omega)
       clear hz
       go_wp2_with fail
       go_ret
       exact ⟨by rw [nmB_false HPP.out (HK1.out.trans HO.out)]; rfl, HBW.out⟩
      ·have z1 : ((pos : Int) == 0) = false := beq_eq_false_iff_ne.mpr (by omega)
       clear hz
       go_wp2_with fail
       go_ret
       exact ⟨by rw [nmB_false HPP.out (HK1.out.trans HO.out)]; rfl, HBW.out⟩
    ·have hnx : ∀ ty, (Instr.next (.pointer (some ⟨w.heap.size, 0, none⟩)) true ty).run Tryz.prog wr = _ := fun ty => Lib.run_next_end_at wr w.heap.size s pos ty hit hp
     have hpe : pos = s.size := by omega
     subst hpe
     have HBW := Aside0.mk hbw
     clear hbw hp hit
     go_wp2_with fail
     go_ret
     exact ⟨by rw [nmB_true (by have := H1.out; omega) (by have := H2.out; omega) HOK.out]; rfl, HBW.out⟩
end Go.Proofs.YtjomofepephodaaGreat.PEquivShapes
namespace Go.Proofs.YtjomofepephodaaGreat.PEquivShapes
open Go.RowKit
open Go.Proofs.YtjomofepephodaaGreatW.PrintWords Go.Proofs.YtjomofepephodaaGreatW.PrintLast Go.Proofs.YtjomofepephodaaGreatW.PrintMore
/-- the reserved words -/
def resL : List (List UInt8) := [[112, 114, 111, 103, 114, 97, 109], [119, 105, 100, 116, 104], [108, 105, 110, 101], [112, 117, 98, 108, 105, 99], [115, 101, 99, 114, 101, 116], [99, 111, 110, 115, 116], [118, 97, 114], [111, 117, 116], [98, 101, 103, 105, 110], [101, 110, 100], [105, 102], [101, 108, 115, 101], [102, 111, 114], [114, 101, 108, 101, 97, 115, 101], [115, 97, 114], [115, 108, 116], [115, 101, 108]]
def resB (s : ByteArray) : Bool := resL.any fun x => decide (s.toList = x)
theorem ite_any {p : Prop} [Decidable p] (b : Bool) : (if p then some true else some b) = some (decide p || b) := by
 by_cases h : p <;> simp [h]
theorem lang_res (s : ByteArray) : lang_Reserved.f s = some (resB s) := by
 unfold lang_Reserved.f resB resL
 simp only [List.any_cons, List.any_nil]
 simp only [ite_any, Bool.or_false]
/-- a name of a program -/
def nameB (s : ByteArray) : Bool := nmB s && !resB s
set_option maxHeartbeats 1000000 in
theorem named_any (s : ByteArray) (w : World) : Calls Tryz.prog 78 #[.string s] w fun e w' => e = .returned (.bool (nameB s)) ∧ Below w.heap.size w w' := by
 have HN : Aside0 (∀ W, Calls Tryz.prog 93 #[.string s] W fun e w' => e = .returned (.bool (nmB s)) ∧ Below W.heap.size W w') := ⟨name_any s⟩
 have HR : Aside0 (∀ W, Calls Tryz.prog 94 #[.string s] W fun e w' => e = .returned (.bool (resB s)) ∧ Drawn0 W w') := ⟨fun W => lang_Reserved.calls s _ W (lang_res s)⟩
 unfold nameB
 generalize nmB s = a at *
 generalize resB s = b at *
 cases a with
 | false =>
  go_enter Tryz.func78, Tryz.ntmps78
  go_wp2_with (go_at_call 93; refine (HN.out _).mono ?_; rintro e w1 ⟨rfl, hb⟩)
  go_ret
  exact ⟨rfl, hb⟩
 | true =>
  go_enter Tryz.func78, Tryz.ntmps78
  go_wp2_with (first
   | (go_at_call 93; refine (HN.out _).mono ?_; rintro e w1 ⟨rfl, hb⟩)
   | (go_at_call 94; refine (HR.out _).mono ?_; rintro e w2 ⟨rfl, hb2⟩))
  go_ret
  exact ⟨rfl, below_step hb hb2.below⟩
/-- how many parts an expression of a kind has -/
def partsF (k : Int) : Int := if k < 1 ∨ 26 < k then -1 else if k = 1 ∨ k = 2 then 0 else if k = 3 ∨ k = 4 ∨ k = 5 then 1 else if k = 26 then 3 else 2
theorem lang_parts_eq (k : Int) : lang_parts.f 9 k = some (partsF k) := by
 unfold partsF
 simp only [lang_parts.f, lang_parts.j0, lang_parts.j1, lang_parts.j2]
 repeat' split
 all_goals first | rfl | omega | (simp_all <;> omega) | simp_all
theorem parts_any (k : Int) (w : World) : Calls Tryz.prog 110 #[.int .i64 k] w fun e w' => e = .returned (.int .i64 (partsF k)) ∧ Below w.heap.size w w' :=
 (lang_parts.calls 9 k _ w (lang_parts_eq k)).mono fun _ _ h => ⟨h.1, h.2.below⟩
/-- no expression -/
def S50.noneB (e : S50) : Bool := decide (e.f0 = 0) && decide (e.f1 = 0) && decide (e.f2.toList = []) && ((e.f3.length : Int) == 0)
theorem lang_none_eq (e : S50) : lang_none.f e.f0 e.f1 e.f2 e.f3 = some e.noneB := by
 unfold lang_none.f S50.noneB
 repeat' split
 all_goals simp_all
end Go.Proofs.YtjomofepephodaaGreat.PEquivShapes
