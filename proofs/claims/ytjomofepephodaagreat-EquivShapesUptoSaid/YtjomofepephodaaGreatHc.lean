/-
  Great of the statements. Conditions: what each theorem names.
-/
import Derived.Test.YtjomofepephodaaGreatHb
set_option linter.unusedVariables false
set_option linter.unusedSimpArgs false
namespace Go.Proofs.YtjomofepephodaaGreat.PEquivShapes
open Go.RowKit
open Go.Proofs.YtjomofepephodaaGreatW.PrintWords Go.Proofs.YtjomofepephodaaGreatW.PrintLast Go.Proofs.YtjomofepephodaaGreatW.PrintMore
/-- the count lies in its cell -/
def Cnt (base : Nat) (w0 : World) (g : Nat) (W : World) : Prop := Below base w0 W ∧ base ≤ g ∧ ∃ n : Int, W.heap[g]? = some (.cells #[.int .i64 n] 3 (0, 0))
/-- all but numbers stay -/
def Kept3 (w w' : World) : Prop := ∀ (b : Nat) (cur : Array Value) (t : TypeId) (fr : Nat × Nat), t ≠ 3 → w.heap[b]? = some (Obj.cells cur t fr) → w'.heap[b]? = some (Obj.cells cur t fr)
theorem Kept3.below {w w' : World} (hb : Below w.heap.size w w') : Kept3 w w' := fun b cur t fr _ h => (hb.block b (Array.getElem?_eq_some_iff.1 h).1).trans h
theorem Kept3.trans {a b c : World} (h : Kept3 a b) (k : Kept3 b c) : Kept3 a c := fun x cur t fr ht hh => k x cur t fr ht (h x cur t fr ht hh)
theorem Kept3.set {W : World} {g : Nat} {n : Int} (h : W.heap[g]? = some (.cells #[.int .i64 n] 3 (0, 0))) (v : Value) : Kept3 W (W.setCell ⟨g, 0, none⟩ v) := fun b cur t fr ht hh => by
  rw [heap_setCell_other W ⟨g, 0, none⟩ b v (fun e => by
    have e' : b = g := e
    subst e'
    rw [h] at hh
    cases hh
    exact ht rfl)]
  exact hh
theorem Cnt.set {base : Nat} {w0 W : World} {g : Nat} (h : Cnt base w0 g W) (n : Int) : Cnt base w0 g (W.setCell ⟨g, 0, none⟩ (.int .i64 n)) := by
  obtain ⟨h1, h2, m, h3⟩ := h
  exact ⟨h1.setCell h2 _, h2, n, heap_setCell_same W g 0 _ 3 _ h3⟩
theorem Cnt.below {base : Nat} {w0 W W' : World} {g : Nat} (h : Cnt base w0 g W) (hB : base ≤ W.heap.size) (hb : Below W.heap.size W W') : Cnt base w0 g W' := by
  obtain ⟨h1, h2, m, h3⟩ := h
  exact ⟨below_weaken' h1 hB hb, h2, m, (hb.block g (Array.getElem?_eq_some_iff.1 h3).1).trans h3⟩
theorem Cnt.cell {base : Nat} {w0 W : World} {g : Nat} (h : Cnt base w0 g W) : ∃ n : Int, W.heap[g]? = some (.cells #[.int .i64 n] 3 (0, 0)) ∧ W.cell? ⟨g, 0, none⟩ = some (.int .i64 n) ∧ W.frozen? ⟨g, 0, none⟩ = false := by
  obtain ⟨_, _, n, h3⟩ := h
  exact ⟨n, h3, (cellsOf h3 0).trans rfl, frozen_of_row W g 0 _ 3 h3⟩
def CntPost (base : Nat) (w0 : World) (g : Nat) (W : World) (W' : World) : Prop := Cnt base w0 g W' ∧ Kept3 W W'
set_option maxHeartbeats 4000000 in
set_option maxRecDepth 100000 in
theorem parts_cnt (w0 : World) (base : Nat) (hbase : base = w0.heap.size) (g : Nat) (N : Nat) (hN : N ≤ 1048576) : ∀ (e : S50) (A : Option Addr) (c : Nat) (W : World), e.bulk ≤ N →
    k50.C w0 A e.f3.length e.f3 → e.f3.length ≤ c → Cnt base w0 g W →
    Calls Tryz.prog 21 #[e.val A c, .pointer (some ⟨g, 0, none⟩)] W fun x W' => x = .returned (.tuple #[]) ∧ CntPost base w0 g W W' := by
  induction N with
  | zero =>
    intro e A c W hb
    have := S50.bulk_eq e
    omega
  | succ N ih =>
    intro e A c W hb hC hc hk
    have hu := Tryz.underlying48
    obtain ⟨W2, hW2⟩ : ∃ W2, W.alloc (.cells #[.int .i64 e.f0, .int .u64 e.f1, .string e.f2, .slice A e.f3.length c] 50) = W2 := ⟨_, rfl⟩
    have B2 : Below W.heap.size W W2 := by rw [← hW2]; exact below_alloc (Below.refl _ _) _
    have hbs : base ≤ W.heap.size := by have := hk.1.size; omega
    have HBox : Aside0 (W2.heap[W.heap.size]? = some (.cells #[.int .i64 e.f0, .int .u64 e.f1, .string e.f2, .slice A e.f3.length c] 50 (0, 0))) := ⟨by rw [← hW2]; exact one_a W _⟩
    have HKc : Aside0 (∀ w' : World, w'.heap[W.heap.size]? = some (.cells #[.int .i64 e.f0, .int .u64 e.f1, .string e.f2, .slice A e.f3.length c] 50 (0, 0)) → w'.cell? ⟨W.heap.size, 3, none⟩ = some (.slice A e.f3.length c)) := ⟨fun w' h => by simp [World.cell?, h]⟩
    have HCn := Aside0.mk (hk.below hbs B2)
    have HG2 := Aside0.mk (Kept3.below B2)
    have HCC := Aside0.mk hC
    have IH := Aside0.mk ih
    have HBA := Aside0.mk hbase
    have HNb : Aside0 (e.bulk ≤ N + 1 ∧ N ≤ 1048576) := ⟨hb, by omega⟩
    have HW := Aside0.mk hW2
    have hll : (e.f3.length : Int) ≤ 9223372036854775807 := by have := hC.2.1; omega
    unfold S50.val
    clear ih hC hk hb hbase hW2 B2 hN hbs
    go_enter Tryz.func21, Tryz.ntmps21
    go_upto_region 1 with (fail)
    try rw [HW.out]
    obtain ⟨n, hg0, z, zf⟩ := HCn.out.cell
    have HC3 := Aside0.mk (HCn.out.set (wrap64 (n + 1)))
    have HG3 := Aside0.mk (HG2.out.trans (Kept3.set hg0 (.int .i64 (wrap64 (n + 1)))))
    have HB3 := Aside0.mk ((Kept3.set hg0 (.int .i64 (wrap64 (n + 1)))) _ _ _ _ (by decide) HBox.out)
    clear hg0
    go_upto_region 2 with (fail)
    clear z zf
    generalize W2.setCell ⟨g, 0, none⟩ (.int .i64 (wrap64 (n + 1))) = W3 at *
    clear HW HBox HG2 HCn
    go_wp2_with fail
    go_loopg [4] (e.f3.length) (fun m v4 wr => ∃ i : Nat, v4 = .int .i64 (i : Int) ∧ m = e.f3.length - i ∧ i ≤ e.f3.length ∧ Cnt base w0 g wr ∧ Kept3 W wr ∧ wr.heap[W.heap.size]? = some (.cells #[.int .i64 e.f0, .int .u64 e.f1, .string e.f2, .slice A e.f3.length c] 50 (0, 0)))
    case atStart => exact ⟨0, rfl, rfl, Nat.zero_le _, HC3.out, HG3.out, HB3.out⟩
    case round =>
      obtain ⟨i, rfl, rfl, hi, hc1, hg1, hx1⟩ := hrel
      have y3 := HKc.out _ hx1
      obtain ⟨n, hg0, z, zf⟩ := hc1.cell
      have H1 := Aside0.mk (⟨hc1, hg1, hx1⟩ : _ ∧ _ ∧ _)
      clear hc1 hg1 hx1 hg0 zf
      by_cases hlt : i < e.f3.length
      · have hlt' : (i : Int) < (e.f3.length : Int) := by omega
        have e1 : decide ((i : Int) < (e.f3.length : Int)) = true := by simp [hlt]
        by_cases hn : n ≤ 10000
        · have e2 : decide (n ≤ 10000) = true := by simp [hn]
          obtain ⟨ad, A1, c1, rfl, x0, x1, x2, x3, hc1, hk1⟩ := at_T50 HCC.out (i : Int) (by omega) (by omega)
          simp only [Int.toNat_natCast] at x0 x1 x2 x3
          replace x0 := kept0 HBA.out H1.out.1.1 x0
          replace x1 := kept0 HBA.out H1.out.1.1 x1
          replace x2 := kept0 HBA.out H1.out.1.1 x2
          replace x3 := kept0 HBA.out H1.out.1.1 x3
          have hkid := S50.bulk_kid hlt
          have HI := Aside0.mk (IH.out HNb.out.2 (rd_T50 e.f3 i) A1 c1 wr (by have := HNb.out.1; omega) hk1 hc1 H1.out.1)
          have HIx : Aside0 (wrap64 ((i : Int) + 1) = ((i + 1 : Nat) : Int) ∧ i + 1 ≤ e.f3.length ∧ e.f3.length - (i + 1) < e.f3.length - i) := ⟨by have := len_bulks50 e.f3; have := S50.bulk_eq e; have := HNb.out.1; have := HNb.out.2; exact ⟨wrap_next (by omega), by omega, by omega⟩⟩
          clear hk1 hkid hc1
          unfold S50.val at HI
          generalize rd_T50 e.f3 i = d at *
          go_wp2_with (go_at_call 21; refine HI.out.mono ?_; rintro x' w6 ⟨rfl, hc6, hk6⟩)
          go_roundg (e.f3.length - (i + 1))
          case measure => exact HIx.out.2.2
          case rel => exact ⟨i + 1, by first | rfl | rw [HIx.out.1], rfl, HIx.out.2.1, hc6, H1.out.2.1.trans hk6, hk6 _ _ _ _ (by decide) H1.out.2.2⟩
        · have e2 : decide (n ≤ 10000) = false := by simpa using hn
          go_wp2_with fail
          refine bodyPost_end (results_none rfl _ _ _) rfl ?_
          exact ⟨rfl, H1.out.1, H1.out.2.1⟩
      · have hlt' : ¬ ((i : Int) < (e.f3.length : Int)) := by omega
        have e1 : decide ((i : Int) < (e.f3.length : Int)) = false := by simpa using hlt
        go_wp2_with fail
        refine bodyPost_end (results_none rfl _ _ _) rfl ?_
        exact ⟨rfl, H1.out.1, H1.out.2.1⟩
set_option maxHeartbeats 4000000 in
set_option maxRecDepth 100000 in
theorem count_cnt (w0 : World) (base : Nat) (hbase : base = w0.heap.size) (g : Nat) (N : Nat) : ∀ (l : List S52) (A : Option Addr) (c : Nat) (W : World), S52.bulks l ≤ N → S52.bulks l ≤ 1048576 →
    k52.C w0 A l.length l → l.length ≤ c → Cnt base w0 g W →
    Calls Tryz.prog 14 #[.slice A l.length c, .pointer (some ⟨g, 0, none⟩)] W fun x W' => (∃ n : Int, x = .returned (.int .i64 n)) ∧ CntPost base w0 g W W' := by
  induction N using Nat.strongRecOn with
  | _ N ih =>
  intro l A c W hN hN1 hK hc hk
  have hu := Tryz.underlying23
  have hll : (l.length : Int) ≤ 9223372036854775807 := by have := hK.2.1; omega
  have HBA := Aside0.mk hbase
  have HK := Aside0.mk hK
  have IH := Aside0.mk ih
  have HNN : Aside0 (S52.bulks l ≤ N ∧ S52.bulks l ≤ 1048576) := ⟨⟨hN, hN1⟩⟩
  have HC0 := Aside0.mk hk
  clear hbase ih hN hN1 hk hc hK
  go_enter Tryz.func14, Tryz.ntmps14
  go_wp2_with fail
  go_loopg [5] (l.length) (fun m v5 wr => ∃ i : Nat, v5 = .int .i64 (i : Int) ∧ m = l.length - i ∧ i ≤ l.length ∧ Cnt base w0 g wr ∧ Kept3 W wr)
  case atStart => exact ⟨0, rfl, rfl, Nat.zero_le _, HC0.out, Kept3.below (Below.refl _ _)⟩
  case round =>
    obtain ⟨i, rfl, rfl, hi, hc1, hg1⟩ := hrel
    obtain ⟨n, hg0, z, zf⟩ := hc1.cell
    have H1 := Aside0.mk (⟨hc1, hg1⟩ : _ ∧ _)
    have HG0 := Aside0.mk hg0
    clear hc1 hg1 hg0
    by_cases hlt : i < l.length
    · have hlt' : (i : Int) < (l.length : Int) := by omega
      have e1 : decide ((i : Int) < (l.length : Int)) = true := by simp [hlt]
      by_cases hn : n ≤ 10000
      · have e2 : decide (n ≤ 10000) = true := by simp [hn]
        obtain ⟨ad, A5, c5, A9, c9, A12, c12, A13, c13, rfl, x0, x1, x2, x3, x4, x5, x6, x7, x8, x9, x10, x11, x12, x13, l5, g5, l9, g9, l12, g12, l13, g13⟩ := at_T52 HK.out (i : Int) (by omega) (by omega)
        simp only [Int.toNat_natCast] at x0 x1 x2 x3 x4 x5 x6 x7 x8 x9 x10 x11 x12 x13
        have HIx : Aside0 (wrap64 ((i : Int) + 1) = ((i + 1 : Nat) : Int) ∧ i + 1 ≤ l.length ∧ l.length - (i + 1) < l.length - i) := ⟨by have := len_bulks l; have := HNN.out.2; exact ⟨wrap_next (by omega), by omega, by omega⟩⟩
        have hbk := S52.bulk_in hlt
        have hbe := S52.bulk_eq (rd_T52 l i)
        generalize rd_T52 l i = s at *
        have hnn := HNN.out
        have P2 : Aside0 (∀ W, Cnt base w0 g W → Calls Tryz.prog 21 #[.agg #[.int .i64 s.f2.f0, .int .u64 s.f2.f1, .string s.f2.f2, .slice A5 s.f2.f3.length c5], .pointer (some ⟨g, 0, none⟩)] W fun x W' => x = .returned (.tuple #[]) ∧ CntPost base w0 g W W') := ⟨fun W h => parts_cnt w0 base HBA.out g s.f2.bulk (by omega) s.f2 A5 c5 W (Nat.le_refl _) g5 l5 h⟩
        have P3 : Aside0 (∀ W, Cnt base w0 g W → Calls Tryz.prog 21 #[.agg #[.int .i64 s.f3.f0, .int .u64 s.f3.f1, .string s.f3.f2, .slice A9 s.f3.f3.length c9], .pointer (some ⟨g, 0, none⟩)] W fun x W' => x = .returned (.tuple #[]) ∧ CntPost base w0 g W W') := ⟨fun W h => parts_cnt w0 base HBA.out g s.f3.bulk (by omega) s.f3 A9 c9 W (Nat.le_refl _) g9 l9 h⟩
        have P6 : Aside0 (∀ W, Cnt base w0 g W → Calls Tryz.prog 14 #[.slice A12 s.f6.length c12, .pointer (some ⟨g, 0, none⟩)] W fun x W' => (∃ n : Int, x = .returned (.int .i64 n)) ∧ CntPost base w0 g W W') := ⟨fun W h => IH.out (S52.bulks s.f6) (by omega) s.f6 A12 c12 W (Nat.le_refl _) (by omega) g12 l12 h⟩
        have P7 : Aside0 (∀ W, Cnt base w0 g W → Calls Tryz.prog 14 #[.slice A13 s.f7.length c13, .pointer (some ⟨g, 0, none⟩)] W fun x W' => (∃ n : Int, x = .returned (.int .i64 n)) ∧ CntPost base w0 g W W') := ⟨fun W h => IH.out (S52.bulks s.f7) (by omega) s.f7 A13 c13 W (Nat.le_refl _) (by omega) g13 l13 h⟩
        have HX : Aside0 (∀ W, Below base w0 W → W.cell? ⟨(ad.add (i * 14)).block, (ad.add (i * 14)).off + 2, none⟩ = some (.int .i64 s.f2.f0) ∧ W.cell? ⟨(ad.add (i * 14)).block, (ad.add (i * 14)).off + 3, none⟩ = some (.int .u64 s.f2.f1) ∧ W.cell? ⟨(ad.add (i * 14)).block, (ad.add (i * 14)).off + 4, none⟩ = some (.string s.f2.f2) ∧ W.cell? ⟨(ad.add (i * 14)).block, (ad.add (i * 14)).off + 5, none⟩ = some (.slice A5 s.f2.f3.length c5) ∧ W.cell? ⟨(ad.add (i * 14)).block, (ad.add (i * 14)).off + 6, none⟩ = some (.int .i64 s.f3.f0) ∧ W.cell? ⟨(ad.add (i * 14)).block, (ad.add (i * 14)).off + 7, none⟩ = some (.int .u64 s.f3.f1) ∧ W.cell? ⟨(ad.add (i * 14)).block, (ad.add (i * 14)).off + 8, none⟩ = some (.string s.f3.f2) ∧ W.cell? ⟨(ad.add (i * 14)).block, (ad.add (i * 14)).off + 9, none⟩ = some (.slice A9 s.f3.f3.length c9) ∧ W.cell? ⟨(ad.add (i * 14)).block, (ad.add (i * 14)).off + 12, none⟩ = some (.slice A12 s.f6.length c12) ∧ W.cell? ⟨(ad.add (i * 14)).block, (ad.add (i * 14)).off + 13, none⟩ = some (.slice A13 s.f7.length c13)) := ⟨fun W h => ⟨kept0 HBA.out h x2, kept0 HBA.out h x3, kept0 HBA.out h x4, kept0 HBA.out h x5, kept0 HBA.out h x6, kept0 HBA.out h x7, kept0 HBA.out h x8, kept0 HBA.out h x9, kept0 HBA.out h x12, kept0 HBA.out h x13⟩⟩
        clear x0 x1 x2 x3 x4 x5 x6 x7 x8 x9 x12 x13 x10 x11 l5 g5 l9 g9 l12 g12 l13 g13 hbk hbe hnn
        have SA : Aside0 (Cnt base w0 g (wr.setCell ⟨g, 0, none⟩ (.int .i64 (wrap64 (n + 1)))) ∧ Kept3 W (wr.setCell ⟨g, 0, none⟩ (.int .i64 (wrap64 (n + 1))))) := ⟨H1.out.1.set _, H1.out.2.trans (Kept3.set HG0.out _)⟩
        go_upto_region 5 with (fail)
        clear z zf
        generalize wr.setCell ⟨g, 0, none⟩ (.int .i64 (wrap64 (n + 1))) = Wa at *
        obtain ⟨x2, x3, x4, x5, x6, x7, x8, x9, x12, x13⟩ := HX.out _ SA.out.1.1
        go_upto_region 6 with (go_at_call 21; refine (P2.out _ SA.out.1).mono ?_; rintro x' w5 ⟨rfl, hc6, hk6⟩; have S5 := Aside0.mk (⟨hc6, SA.out.2.trans hk6⟩ : Cnt base w0 g w5 ∧ Kept3 W w5); clear hc6 hk6)
        clear x2 x3 x4 x5 x6 x7 x8 x9 x12 x13
        obtain ⟨x2, x3, x4, x5, x6, x7, x8, x9, x12, x13⟩ := HX.out _ S5.out.1.1
        go_upto_region 7 with (go_at_call 21; refine (P3.out _ S5.out.1).mono ?_; rintro x' w6 ⟨rfl, hc6, hk6⟩; have S6 := Aside0.mk (⟨hc6, S5.out.2.trans hk6⟩ : Cnt base w0 g w6 ∧ Kept3 W w6); clear hc6 hk6)
        clear x2 x3 x4 x5 x6 x7 x8 x9 x12 x13
        obtain ⟨x2, x3, x4, x5, x6, x7, x8, x9, x12, x13⟩ := HX.out _ S6.out.1.1
        go_upto_region 8 with (go_at_call 14; refine (P6.out _ S6.out.1).mono ?_; rintro x' w7 ⟨⟨r7, rfl⟩, hc6, hk6⟩; have S7 := Aside0.mk (⟨hc6, S6.out.2.trans hk6⟩ : Cnt base w0 g w7 ∧ Kept3 W w7); clear hc6 hk6)
        clear x2 x3 x4 x5 x6 x7 x8 x9 x12 x13
        obtain ⟨x2, x3, x4, x5, x6, x7, x8, x9, x12, x13⟩ := HX.out _ S7.out.1.1
        go_wp2_with (go_at_call 14; refine (P7.out _ S7.out.1).mono ?_; rintro x' w8 ⟨⟨r8, rfl⟩, hc6, hk6⟩; have S8 := Aside0.mk (⟨hc6, S7.out.2.trans hk6⟩ : Cnt base w0 g w8 ∧ Kept3 W w8); clear hc6 hk6)
        go_roundg (l.length - (i + 1))
        case measure => exact HIx.out.2.2
        case rel => exact ⟨i + 1, by first | rfl | rw [HIx.out.1], rfl, HIx.out.2.1, S8.out.1, S8.out.2⟩
      · have e2 : decide (n ≤ 10000) = false := by simpa using hn
        go_wp2_with fail
        go_ret
        exact ⟨⟨_, rfl⟩, H1.out.1, H1.out.2⟩
    · have hlt' : ¬ ((i : Int) < (l.length : Int)) := by omega
      have e1 : decide ((i : Int) < (l.length : Int)) = false := by simpa using hlt
      go_wp2_with fail
      go_ret
      exact ⟨⟨_, rfl⟩, H1.out.1, H1.out.2⟩
/-- a truth -/
def SomeBool (e : Ending) : Prop := ∃ b : Bool, e = .returned (.bool b)
set_option maxHeartbeats 4000000 in
set_option maxRecDepth 100000 in
theorem great_any (p : PR) (A3 : Option Addr) (c3 : Nat) (A4 : Option Addr) (c4 : Nat) (w : World) (hp : p.At w A3 c3 A4 c4) (hsp : Fair p) :
    Calls Tryz.prog 9 #[p.cells A3 c3 A4 c4] w fun e w' => SomeBool e ∧ Below w.heap.size w w' := by
  have hu := Tryz.underlying22
  obtain ⟨W2, hW2⟩ : ∃ W2, w.alloc (.cells #[.string p.name, .int .i64 p.width, .int .i64 p.line, .slice A3 p.decls.length c3, .slice A4 p.body.length c4] 25) = W2 := ⟨_, rfl⟩
  have hbox : W2.heap[w.heap.size]? = some (.cells #[.string p.name, .int .i64 p.width, .int .i64 p.line, .slice A3 p.decls.length c3, .slice A4 p.body.length c4] 25 (0, 0)) := by rw [← hW2]; exact one_a w _
  have HKB : Aside0 (∀ W : World, W.heap[w.heap.size]? = some (.cells #[.string p.name, .int .i64 p.width, .int .i64 p.line, .slice A3 p.decls.length c3, .slice A4 p.body.length c4] 25 (0, 0)) → PBox W w.heap.size p A3 c3 A4 c4) := ⟨fun W h => by unfold PBox; simp [World.cell?, h]⟩
  have B : Below w.heap.size w W2 := by rw [← hW2]; exact below_alloc (Below.refl _ _) _
  have hll : (p.decls.length : Int) ≤ 9223372036854775807 := by have := hsp.1; omega
  have BB := Aside0.mk B
  have HBox := Aside0.mk hbox
  have HW := Aside0.mk hW2
  have HP := Aside0.mk hp
  have HSp := Aside0.mk hsp
  have HCt : Aside0 (∀ g W, Cnt w.heap.size w g W → Calls Tryz.prog 14 #[.slice A4 p.body.length c4, .pointer (some ⟨g, 0, none⟩)] W fun x W' => (∃ n : Int, x = .returned (.int .i64 n)) ∧ CntPost w.heap.size w g W W') := ⟨fun g W h => count_cnt w w.heap.size rfl g (S52.bulks p.body) p.body A4 c4 W (Nat.le_refl _) hsp.2.2 hp.2.2.2 hp.2.2.1 h⟩
  unfold PR.cells
  clear hp hsp hW2 B hbox
  go_enter Tryz.func9, Tryz.ntmps9
  go_upto_region 1 with (fail)
  try rw [HW.out]
  go_upto_region 2 with (fail)
  have HC3 : Aside0 (Cnt w.heap.size w W2.heap.size (W2.alloc (.cells #[.int .i64 0] 3)) ∧ (W2.alloc (.cells #[.int .i64 0] 3)).heap[w.heap.size]? = some (.cells #[.string p.name, .int .i64 p.width, .int .i64 p.line, .slice A3 p.decls.length c3, .slice A4 p.body.length c4] 25 (0, 0))) := ⟨⟨below_alloc BB.out _, BB.out.size, 0, one_a W2 _⟩, (below_alloc (Below.refl W2.heap.size W2) _).block w.heap.size (Array.getElem?_eq_some_iff.1 HBox.out).1 |>.trans HBox.out⟩
  generalize W2.alloc (.cells #[.int .i64 0] 3) = W3 at *
  generalize W2.heap.size = g at *
  clear HW HBox BB
  go_wp2_with fail
  go_loopg [4] (p.decls.length) (fun m v4 wr => ∃ i : Nat, v4 = .int .i64 (i : Int) ∧ m = p.decls.length - i ∧ i ≤ p.decls.length ∧ Cnt w.heap.size w g wr ∧ wr.heap[w.heap.size]? = some (.cells #[.string p.name, .int .i64 p.width, .int .i64 p.line, .slice A3 p.decls.length c3, .slice A4 p.body.length c4] 25 (0, 0)))
  case atStart => exact ⟨0, rfl, rfl, Nat.zero_le _, HC3.out.1, HC3.out.2⟩
  case round =>
    obtain ⟨i, rfl, rfl, hi, hc1, hx1⟩ := hrel
    have HC1 := Aside0.mk hc1
    have HX1 := Aside0.mk hx1
    obtain ⟨z0, z1, z2, z3, z4⟩ := HKB.out _ hx1
    clear hc1 hx1 HC3
    by_cases hlt : i < p.decls.length
    · have hlt' : (i : Int) < (p.decls.length : Int) := by omega
      obtain ⟨ad, DA, dc, rfl, x0, x1, x2, x3, hd1, hk1⟩ := at_T38 HP.out.2.1 (i : Int) (by omega) (by omega)
      simp only [Int.toNat_natCast] at x0 x1 x2 x3
      have hdl : ((rd_T38 p.decls i).f3.length : Int) ≤ 9223372036854775807 := by have := hk1.2.1; omega
      clear hd1 hk1 x0 x1 x2
      have HIx : Aside0 (wrap64 ((i : Int) + 1) = ((i + 1 : Nat) : Int) ∧ i + 1 ≤ p.decls.length ∧ p.decls.length - (i + 1) < p.decls.length - i) := ⟨by have := HSp.out.1; exact ⟨wrap_next (by omega), by omega, by omega⟩⟩
      generalize rd_T38 p.decls i = d at *
      obtain ⟨n, hg0, z, zf⟩ := HC1.out.cell
      have HG0 := Aside0.mk hg0
      have HS1 : Aside0 ((fun w' : World => w'.cell? ⟨w.heap.size, 3, none⟩ = some (.slice (some ad) p.decls.length c3) ∧ w'.cell? ⟨(ad.add (i * 4)).block, (ad.add (i * 4)).off + 3, none⟩ = some (.slice DA d.f3.length dc)) wr.drew) := ⟨⟨z3, kept0 rfl HC1.out.1 x3⟩⟩
      have HS2 : Aside0 (∀ v : Int, (fun w' : World => w'.cell? ⟨w.heap.size, 3, none⟩ = some (.slice (some ad) p.decls.length c3) ∧ w'.cell? ⟨(ad.add (i * 4)).block, (ad.add (i * 4)).off + 3, none⟩ = some (.slice DA d.f3.length dc)) (wr.drew.setCell ⟨g, 0, none⟩ (.int .i64 v))) := ⟨fun v => ⟨(HKB.out _ ((Kept3.set HG0.out _) _ _ _ _ (by decide) HX1.out)).2.2.2.1, kept0 rfl (HC1.out.set v).1 x3⟩⟩
      have HN : Aside0 (∀ v : Int, Cnt w.heap.size w g (wr.drew.setCell ⟨g, 0, none⟩ (.int .i64 v)) ∧ (wr.drew.setCell ⟨g, 0, none⟩ (.int .i64 v)).heap[w.heap.size]? = some (.cells #[.string p.name, .int .i64 p.width, .int .i64 p.line, .slice (some ad) p.decls.length c3, .slice A4 p.body.length c4] 25 (0, 0))) := ⟨fun v => ⟨by
        obtain ⟨q1, q2, m, q3⟩ := HC1.out.set v
        exact ⟨⟨q1.os, q1.tape, q1.output, q1.size, q1.block⟩, q2, m, q3⟩, (Kept3.set HG0.out _) _ _ _ _ (by decide) HX1.out⟩⟩
      clear hg0 z0 z1 z2 z4
      replace x3 := kept0 rfl HC1.out.1 x3
      go_upto_region 5 with (fail)
      go_cut [4] from 5 to 23 (fun v4 wx => v4 = .int .i64 (i : Int) ∧ Cnt w.heap.size w g wx ∧ wx.heap[w.heap.size]? = some (.cells #[.string p.name, .int .i64 p.width, .int .i64 p.line, .slice (some ad) p.decls.length c3, .slice A4 p.body.length c4] 25 (0, 0)))
      case first =>
        clear HS1 HS2
        go_region
        all_goals
          go_wp2_with fail
          go_meet
          exact ⟨rfl, HN.out _⟩
      case rest =>
        obtain ⟨rfl, hc2, hx2⟩ := hcut
        obtain ⟨n2, hg2, y, yf⟩ := hc2.cell
        have H2 := Aside0.mk (⟨hc2, hx2⟩ : _ ∧ _)
        clear hc2 hx2 hg2 yf z zf x3 z3 HC1 HX1 HG0 HN
        by_cases hn : n2 > 10000
        · have e1 : decide (n2 > 10000) = true := by simp [hn]
          have e2 : decide (10000 < n2) = true := e1
          clear hn
          go_wp2_with fail
          go_ret
          exact ⟨⟨_, rfl⟩, H2.out.1.1⟩
        · have e1 : decide (n2 > 10000) = false := by simpa using hn
          have e2 : decide (10000 < n2) = false := e1
          clear hn
          go_wp2_with fail
          go_roundg (p.decls.length - (i + 1))
          case measure => exact HIx.out.2.2
          case rel => exact ⟨i + 1, by first | rfl | rw [HIx.out.1], rfl, HIx.out.2.1, H2.out.1, H2.out.2⟩
    · have hlt' : ¬ ((i : Int) < (p.decls.length : Int)) := by omega
      have HC := Aside0.mk (HCt.out g wr HC1.out)
      clear HCt
      go_wp2_with (go_at_call 14; refine HC.out.mono ?_; rintro x' w6 ⟨⟨r6, rfl⟩, hc6, hk6⟩; have S6 := Aside0.mk hc6; clear hc6 hk6)
      go_ret
      exact ⟨⟨_, rfl⟩, S6.out.1⟩
end Go.Proofs.YtjomofepephodaaGreat.PEquivShapes
