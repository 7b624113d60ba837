/-
  Decide, Value and LevelOf of the engine return what the data say. Conditions: the engine lies in the world, and what each theorem names.
-/
import Derived.Test.YtaileihnkmjfiaaT8
import Derived.Test.YtaileihnkmjfiaaL0
namespace Go.Proofs.Ytaileihnkmjfiaa
open Go.RowKit

namespace ES
def isLit (S : ES) (l : Int) : Prop := l ≠ 0 ∧ l.natAbs ≤ S.n
instance (S : ES) (l : Int) : Decidable (S.isLit l) := by unfold isLit; infer_instance
def decide' (S : ES) (l : Int) : ES × Int :=
  if ¬ S.isLit l then (S, 20) else if S.clash ≠ 0 then (S, 31) else if S.of l ≠ 0 then (S, 30)
  else (({ S with mks := S.mks ++ [S.tr.length] } : ES).set l 0, 0)
def value (S : ES) (v : Int) : Int := if v < 1 ∨ (S.n : Int) < v then 0 else S.val.getD v.toNat 0
def levelOf (S : ES) (v : Int) : Int := if S.value v = 0 then -1 else (S.lev.getD v.toNat 0 : Nat)
end ES

set_option maxHeartbeats 4000000 in
theorem decide_any (b : Nat) (G : GH) (S : ES) (l : Int) (w : World) (h : Eng w b G S) (hD : S.Dim) (_hc : S.clash ≤ 1048577) (hm : S.mks.length ≤ 1048577) :
    Calls Try.prog 35 #[.pointer (some ⟨b, 0, none⟩), i64 l] w fun e w' => e = .returned (i64 (S.decide' l).2) ∧ ∃ G', Eng w' b G' (S.decide' l).1 ∧ Turned (ft G) w (ft G') w' := by
  have cIs := is_any b G S l w h hD
  have f12 := h.f12
  by_cases h1 : S.isLit l
  · have hl : l.natAbs ≤ S.n := h1.2
    rw [show decide (l ≠ 0 ∧ l.natAbs ≤ S.n) = true from by simpa [ES.isLit] using h1] at cIs
    by_cases h2 : S.clash = 0
    · have b2 : ((S.clash : Int) != 0) = false := by simpa using h2
      have cOf := of_any b G S l w h hD hl
      have r := int_cases3 (ES.of_rng hD l)
      have HD : Hid (S.decide' l = if S.of l ≠ 0 then (S, 30) else (({ S with mks := S.mks ++ [S.tr.length] } : ES).set l 0, 0)) := by
        show _ = _; unfold ES.decide'; rw [if_neg (by simpa using h1), if_neg (by simpa using h2)]
      have H2 := Lib.hid h2
      clear h2
      generalize S.of l = o at *
      by_cases h3 : o = 0
      · subst h3
        have HD2 : Hid (S.decide' l = (({ S with mks := S.mks ++ [S.tr.length] } : ES).set l 0, 0)) := by show _ = _; rw [HD.out]; simp
        have f9 := h.f9
        have f10 := h.f10
        unfold sv at f9
        have E1 := (h.alloc (.cells #[i64 S.tr.length] 3)).drew
        have T1 := (Turned.alloc (ft G) w (.cells #[i64 S.tr.length] 3)).trans (Turned.drew _ _)
        have f10a : (w.alloc (.cells #[i64 S.tr.length] 3)).cell? ⟨b, 10, none⟩ = _ := E1.f10
        have f9a : (w.alloc (.cells #[i64 S.tr.length] 3)).cell? ⟨b, 9, none⟩ = some (.slice (Option.map (fun g => { block := g, off := 0 }) (G.g (.inl 9))) S.tr.length (G.c (.inl 9))) := E1.f9
        obtain ⟨i0, hi0, hz0, hz1, hz2⟩ := info_parts Try.info3
        have hb1 : (engD G S (.inl 10)).n + 1 ≤ maxLen := by simp only [engD, maxLen]; omega
        have hb2 : ((engD G S (.inl 10)).n + 1) * 8 ≤ 140737488355328 := by simp only [engD]; omega
        go_enter Try.func35, Try.ntmps35
        go_upto_region 7 with (first | (go_at_call 50; refine cIs.mono ?_; rintro e w' ⟨rfl, rfl⟩) | (go_at_call 51; refine cOf.mono ?_; rintro e w' ⟨rfl, rfl⟩))
        go_cut [] (fun wx => ∃ G5, Eng wx b G5 { S with mks := S.mks ++ [S.tr.length] } ∧ Turned (ft G) w (ft G5) wx)
        case first =>
          go_region_law ((refine step_append_rw rfl (.tmp 25) (.tmp 31) 28 rfl 3 i0 (.int .i64 0) 1 8 Try.underlying28 hi0 hz0 hz1 hz2 rfl (by decide) (engD G S (.inl 10)) rfl (E1.row (.inl 10)) (some ⟨w.heap.size, 0, none⟩) 1 1 [i64 S.tr.length] rfl rfl (fun h => by cases h) (new_one w _ 3) (one_i64 _) hb1 hb2 ?_; intro d' w5 rw1 en ex eg hgr; obtain ⟨E6, T6, x1, x2⟩ := E1.pushMks (d := d') [S.tr.length] rw1 en ex (le_of_new' eg rfl (by simp)) hgr; clear en ex eg))
          all_goals
            go_wp2_with fail
            go_meet
            exact ⟨_, E6, T1.trans T6⟩
        case rest =>
          obtain ⟨G5, E5, T5⟩ := hcut
          have hcall := set_any b G5 _ l 0 wc E5 ⟨hD.1, hD.2, hD.3, hD.4, hD.5, hD.6, hD.7⟩ hl (by omega)
          have hcall' : Calls Try.prog 52 #[.pointer (some ⟨b, 0, none⟩), i64 l, .int .i64 0] wc _ := hcall
          go_wp2_with (go_at_call 52; refine hcall'.mono ?_; rintro e w6 ⟨rfl, G6, E6, T6, _⟩)
          go_ret
          exact ⟨by rw [HD2.out]; rfl, G6, by rw [HD2.out]; exact E6, T5.trans T6⟩
      · have b3 : (o != 0) = true := by simpa using h3
        have HD2 : Hid (S.decide' l = (S, 30)) := by show _ = _; rw [HD.out]; simp [h3]
        go_enter Try.func35, Try.ntmps35
        go_wp2_with (first | (go_at_call 50; refine cIs.mono ?_; rintro e w' ⟨rfl, rfl⟩) | (go_at_call 51; refine cOf.mono ?_; rintro e w' ⟨rfl, rfl⟩))
        go_ret
        exact ⟨by rw [HD2.out]; rfl, G, by rw [HD2.out]; exact h, Turned.refl _ _⟩
    · have b2 : ((S.clash : Int) != 0) = true := by simpa using h2
      have HD2 : Hid (S.decide' l = (S, 31)) := by show _ = _; unfold ES.decide'; rw [if_neg (by simpa using h1), if_pos h2]
      go_enter Try.func35, Try.ntmps35
      go_wp2_with (go_at_call 50; refine cIs.mono ?_; rintro e w' ⟨rfl, rfl⟩)
      go_ret
      exact ⟨by rw [HD2.out]; rfl, G, by rw [HD2.out]; exact h, Turned.refl _ _⟩
  · rw [show decide (l ≠ 0 ∧ l.natAbs ≤ S.n) = false from by simpa [ES.isLit] using h1] at cIs
    have HD2 : Hid (S.decide' l = (S, 20)) := by show _ = _; unfold ES.decide'; rw [if_pos h1]
    go_enter Try.func35, Try.ntmps35
    go_wp2_with (go_at_call 50; refine cIs.mono ?_; rintro e w' ⟨rfl, rfl⟩)
    go_ret
    exact ⟨by rw [HD2.out]; rfl, G, by rw [HD2.out]; exact h, Turned.refl _ _⟩

set_option maxHeartbeats 1000000 in
theorem value_any (b : Nat) (G : GH) (S : ES) (v : Int) (w : World) (h : Eng w b G S) (hD : S.Dim) :
    Calls Try.prog 36 #[.pointer (some ⟨b, 0, none⟩), i64 v] w fun e w' => e = .returned (i64 (S.value v)) ∧ w = w' := by
  have f0 := h.f0
  have hn := hD.n_le
  by_cases h1 : v < 1
  · have HV : Hid (S.value v = 0) := by show _ = _; unfold ES.value; rw [if_pos (.inl h1)]
    go_enter Try.func36, Try.ntmps36
    go_wp2
    go_ret
    exact ⟨by rw [HV.out]; rfl, rfl⟩
  · by_cases h2 : (S.n : Int) < v
    · have HV : Hid (S.value v = 0) := by show _ = _; unfold ES.value; rw [if_pos (.inr h2)]
      go_enter Try.func36, Try.ntmps36
      go_wp2
      go_ret
      exact ⟨by rw [HV.out]; rfl, rfl⟩
    · obtain ⟨k, rfl⟩ : ∃ k : Nat, v = k := ⟨v.toNat, by omega⟩
      have HV : Hid (S.value k = S.val.getD k 0) := by show _ = _; unfold ES.value; rw [if_neg (by omega)]; simp
      have hvl := hD.val_len
      obtain ⟨va, hva⟩ := h.lies (.inl 6) (by simp only [engD]; omega)
      have hva : G.g (.inl 6) = some va := hva
      have c6 := h.s6 hva
      have e6 := h.e6 hva (k := k) (by omega)
      have hr := hD.val_rng k
      have hlt : (k : Int) < (S.val.length : Int) := by omega
      clear hvl
      generalize S.val.getD k 0 = x at *
      have hx1 : -1 ≤ x := hr.1
      have hx2 : x ≤ 1 := hr.2
      go_enter Try.func36, Try.ntmps36
      go_wp2
      go_ret
      exact ⟨by rw [HV.out]; rfl, rfl⟩

set_option maxHeartbeats 1000000 in
theorem levelOf_any (b : Nat) (G : GH) (S : ES) (v : Int) (w : World) (h : Eng w b G S) (hD : S.Dim) :
    Calls Try.prog 28 #[.pointer (some ⟨b, 0, none⟩), i64 v] w fun e w' => e = .returned (i64 (S.levelOf v)) ∧ w = w' := by
  have cV := value_any b G S v w h hD
  by_cases h1 : S.value v = 0
  · have HV : Hid (S.levelOf v = -1) := by show _ = _; unfold ES.levelOf; rw [if_pos h1]
    rw [h1] at cV
    clear h1
    go_enter Try.func28, Try.ntmps28
    go_wp2_with (go_at_call 36; refine cV.mono ?_; rintro e w' ⟨rfl, rfl⟩)
    go_ret
    exact ⟨by rw [HV.out]; rfl, rfl⟩
  · have hv : 1 ≤ v ∧ v ≤ S.n := by
      unfold ES.value at h1
      by_cases hc : v < 1 ∨ (S.n : Int) < v
      · rw [if_pos hc] at h1; exact absurd rfl h1
      · omega
    obtain ⟨k, rfl⟩ : ∃ k : Nat, v = k := ⟨v.toNat, by omega⟩
    have HV : Hid (S.levelOf k = (S.lev.getD k 0 : Nat)) := by show _ = _; unfold ES.levelOf; rw [if_neg h1]; simp
    have hvl := hD.lev_len
    obtain ⟨va, hva⟩ := h.lies (.inl 7) (by simp only [engD]; omega)
    have hva : G.g (.inl 7) = some va := hva
    have c7 := h.s7 hva
    have e7 := h.e7 hva (k := k) (by omega)
    have hlt : (k : Int) < (S.lev.length : Int) := by omega
    have b1 : (S.value k == 0) = false := by simpa using h1
    clear hvl
    generalize S.value k = x at *
    generalize S.lev.getD k 0 = y at *
    go_enter Try.func28, Try.ntmps28
    go_wp2_with (go_at_call 36; refine cV.mono ?_; rintro e w' ⟨rfl, rfl⟩)
    go_ret
    exact ⟨by rw [HV.out]; rfl, rfl⟩

end Go.Proofs.Ytaileihnkmjfiaa
