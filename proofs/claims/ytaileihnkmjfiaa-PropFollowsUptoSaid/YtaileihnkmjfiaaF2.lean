/-
  Does a number make all clauses and all decisions of the book true? Conditions: those each theorem names.
-/
import Derived.Test.YtaileihnkmjfiaaF1
import Derived.Test.YtaileihnkmjfiaaD2
namespace Go.Proofs.Ytaileihnkmjfiaa
open Go.RowKit

def madeB (t : Int) (B : BK) : Bool := (B.cl.all fun c => c.any (holdsB t)) && B.dc.all (holdsB t)

theorem all_take' {α : Type} {p : α → Bool} {z : α} (L : List α) (k : Nat) (hk : k < L.length) : (L.take (k + 1)).all p = ((L.take k).all p && p (L.getD k z)) := by
  rw [List.take_succ_eq_append_getElem hk, List.all_append]
  simp [List.getD, hk]
theorem any_take' {α : Type} {p : α → Bool} {z : α} (L : List α) (k : Nat) (hk : k < L.length) : (L.take (k + 1)).any p = ((L.take k).any p || p (L.getD k z)) := by
  rw [List.take_succ_eq_append_getElem hk, List.any_append]
  simp [List.getD, hk]
theorem all_false' {α : Type} {p : α → Bool} {z : α} (L : List α) (k : Nat) (hk : k < L.length) (h : p (L.getD k z) = false) : L.all p = false := by
  rw [List.all_eq_false]
  exact ⟨_, getD_mem' z hk, by rw [h]; decide⟩

set_option maxHeartbeats 4000000 in
set_option maxRecDepth 100000 in
theorem made_any (bb : Nat) (GB : GH) (B : BK) (t : Int) (w : World) (h : Bk w bb GB B) (ht : 0 ≤ t) (hcl : ∀ c, c ∈ B.cl → ∀ l, l ∈ c → -1048576 ≤ l ∧ l ≤ 1048576) (hdc : ∀ l, l ∈ B.dc → -1048576 ≤ l ∧ l ≤ 1048576)
    (h1 : B.cl.length ≤ 1048576) (h2 : B.dc.length ≤ 1048576) (h3 : ∀ c, c ∈ B.cl → c.length ≤ 65536) :
    Calls Try.prog 17 #[.pointer (some ⟨bb, 0, none⟩), .int .u64 t] w fun e w' => e = .returned (.bool (madeB t B)) ∧ w = w' := by
  have f0 := h.field (i := 0) (u := sv (GB.g (.inl 1)) B.cl.length (GB.c (.inl 1))) rfl
  have f1 := h.field (i := 1) (u := sv (GB.g (.inl 3)) B.dc.length (GB.c (.inl 3))) rfl
  unfold sv at f0 f1
  have HM : Hid (madeB t B = ((B.cl.all fun c => c.any (holdsB t)) && B.dc.all (holdsB t))) := rfl
  have Hcl := Lib.hid hcl
  have Hdc := Lib.hid hdc
  have H3 := Lib.hid h3
  clear hcl hdc h3
  go_enter Try.func17, Try.ntmps17
  go_wp2_with fail
  go_loop [5] (fun s5 => ∃ i : Nat, i ≤ B.cl.length ∧ s5 = .int .i64 (i : Nat) ∧ Hid (((B.cl.take i).all fun c => c.any (holdsB t)) = true)) (fun s5 => B.cl.length - (intOf s5).toNat)
  case atStart => exact ⟨0, Nat.zero_le _, rfl, by show _ = _; simp⟩
  case round =>
    obtain ⟨i, hi, rfl, Hn⟩ := hrel
    by_cases hlt : i < B.cl.length
    · obtain ⟨g1, hg1⟩ := h.l1 (by omega)
      have f0' : w.cell? ⟨bb, 0, none⟩ = some (.slice (some ⟨g1, 0, none⟩) B.cl.length (GB.c (.inl 1))) := f0.trans (by rw [hg1]; rfl)
      have e1 := h.e1 hg1 hlt
      unfold sv at e1
      have hcl := H3.out _ (getD_mem' [] hlt)
      have hlit : ∀ j, j < (B.cl.getD i []).length → -1048576 ≤ (B.cl.getD i []).getD j 0 ∧ (B.cl.getD i []).getD j 0 ≤ 1048576 := fun j hj => Hcl.out _ (getD_mem' [] hlt) _ (getD_mem' 0 hj)
      have ek := fun (g j : Nat) (hg : GB.g (.inr (0, i)) = some g) (hj : j < (B.cl.getD i []).length) => h.ek hg hj
      have lk := fun (hn : 0 < (B.cl.getD i []).length) => h.lk (k := i) hn
      have hlt' : (i : Int) < (B.cl.length : Int) := by omega
      have hat := all_take' (p := fun c => c.any (holdsB t)) (z := []) B.cl i hlt
      have hfa := all_false' (p := fun c => c.any (holdsB t)) (z := []) B.cl i hlt
      rw [Hn.out, Bool.true_and] at hat
      generalize B.cl.getD i [] = c at *
      have Hat := Lib.hid hat
      have Hfa := Lib.hid hfa
      have Hlit := Lib.hid hlit
      have Hek := Lib.hid ek
      have Hlk := Lib.hid lk
      have Hlt := Lib.hid hlt
      have F1 := Lib.hid f1
      clear hat hfa hlit ek lk hlt f1 f0 Hn
      go_wp2_with fail
      go_loop [6, 7] (fun s6 s7 => ∃ j : Nat, j ≤ c.length ∧ s7 = .int .i64 (j : Nat) ∧ s6 = .bool ((c.take j).any (holdsB t))) (fun _ s7 => c.length - (intOf s7).toNat)
      case atStart => exact ⟨0, Nat.zero_le _, rfl, by simp⟩
      case round =>
        obtain ⟨j, hj, rfl, rfl⟩ := hrel
        by_cases hjl : j < c.length
        · obtain ⟨gk, hgk⟩ := Hlk.out (by omega)
          have e1' : w.cell? ⟨g1, i, none⟩ = some (.slice (some ⟨gk, 0, none⟩) c.length (GB.c (.inr (0, i)))) := e1.trans (by rw [hgk]; rfl)
          have ej := Hek.out gk j hgk hjl
          have hx := Hlit.out j hjl
          have hjl' : (j : Int) < (c.length : Int) := by omega
          have cH := holds_any t (c.getD j 0) w ht hx.1 hx.2
          have hnx := any_take' (p := holdsB t) (z := 0) c j hjl
          generalize c.getD j 0 = x at *
          generalize (c.take j).any (holdsB t) = sm at *
          have Hnx := Lib.hid hnx
          clear hnx e1 hgk
          cases sm with
          | true =>
            go_wp2_with fail
            go_round
            case rel => exact ⟨j + 1, by omega, by go_num, by rw [Hnx.out]; simp⟩
            case measure => simp [intOf]; omega
          | false =>
            generalize holdsB t x = hb at *
            go_wp2_with (go_at_call 19; refine cH.mono ?_; rintro e w' ⟨rfl, rfl⟩)
            go_round
            case rel => exact ⟨j + 1, by omega, by go_num, by rw [Hnx.out]; simp⟩
            case measure => simp [intOf]; omega
        · obtain rfl : j = c.length := by omega
          have hjl' : ¬ ((c.length : Int) < (c.length : Int)) := by omega
          have Hs : Hid ((c.take c.length).any (holdsB t) = c.any (holdsB t)) := by show _ = _; rw [List.take_length]
          generalize (c.take c.length).any (holdsB t) = sm at *
          cases sm with
          | true =>
            have Hn2 := Lib.hid (Hat.out.trans Hs.out.symm)
            go_wp2_with fail
            go_round
            case rel => exact ⟨i + 1, by have := Hlt.out; omega, by go_num, Hn2⟩
            case measure => have := Hlt.out; simp [intOf]; omega
          | false =>
            have HF : Hid (madeB t B = false) := by show _ = _; rw [HM.out, Hfa.out Hs.out.symm]; rfl
            go_wp2_with fail
            go_ret
            exact ⟨by rw [HF.out]; rfl, rfl⟩
    · obtain rfl : i = B.cl.length := by omega
      have hlt' : ¬ ((B.cl.length : Int) < (B.cl.length : Int)) := by omega
      have HM2 : Hid (madeB t B = B.dc.all (holdsB t)) := by
        show _ = _
        have := Hn.out
        rw [List.take_length] at this
        rw [HM.out, this]; rfl
      clear Hn
      go_wp2_with fail
      go_loop [8] (fun s8 => ∃ k : Nat, k ≤ B.dc.length ∧ s8 = .int .i64 (k : Nat) ∧ Hid ((B.dc.take k).all (holdsB t) = true)) (fun s8 => B.dc.length - (intOf s8).toNat)
      case atStart => exact ⟨0, Nat.zero_le _, rfl, by show _ = _; simp⟩
      case round =>
        obtain ⟨k, hk, rfl, Hk⟩ := hrel
        by_cases hkl : k < B.dc.length
        · obtain ⟨g2, hg2⟩ := h.l2 (by omega)
          have f1' : w.cell? ⟨bb, 1, none⟩ = some (.slice (some ⟨g2, 0, none⟩) B.dc.length (GB.c (.inl 3))) := f1.trans (by rw [hg2]; rfl)
          have ej : w.cell? ⟨g2, k, none⟩ = some (i64 (B.dc.getD k 0)) := h.e2 hg2 (by simp [ints, List.getD, hkl])
          have hx := Hdc.out _ (getD_mem' 0 hkl)
          have hkl' : (k : Int) < (B.dc.length : Int) := by omega
          have cH := holds_any t (B.dc.getD k 0) w ht hx.1 hx.2
          have hnx := all_take' (p := holdsB t) (z := 0) B.dc k hkl
          have hfx := all_false' (p := holdsB t) (z := 0) B.dc k hkl
          rw [Hk.out, Bool.true_and] at hnx
          generalize B.dc.getD k 0 = x at *
          generalize holdsB t x = hb at *
          have Hnx := Lib.hid hnx
          have Hfx := Lib.hid hfx
          clear hnx hfx f1 hg2 Hk
          cases hb with
          | true =>
            go_wp2_with (go_at_call 19; refine cH.mono ?_; rintro e w' ⟨rfl, rfl⟩)
            go_round
            case rel => exact ⟨k + 1, by omega, by go_num, Hnx⟩
            case measure => simp [intOf]; omega
          | false =>
            have HF : Hid (madeB t B = false) := by show _ = _; rw [HM2.out, Hfx.out rfl]
            go_wp2_with (go_at_call 19; refine cH.mono ?_; rintro e w' ⟨rfl, rfl⟩)
            go_ret
            exact ⟨by rw [HF.out]; rfl, rfl⟩
        · obtain rfl : k = B.dc.length := by omega
          have hkl' : ¬ ((B.dc.length : Int) < (B.dc.length : Int)) := by omega
          have HT : Hid (madeB t B = true) := by
            show _ = _
            have := Hk.out
            rw [List.take_length] at this
            rw [HM2.out, this]
          clear Hk
          go_wp2_with fail
          go_ret
          exact ⟨by rw [HT.out]; rfl, rfl⟩
end Go.Proofs.Ytaileihnkmjfiaa
