/-
  The two list-laying functions put one clause number into a list. Conditions: the engine lies in the world, and what each theorem names.
-/
import Derived.Test.YtaileihnkmjfiaaEng3
import Derived.Deep.RegionLaw
namespace Go.Proofs.Ytaileihnkmjfiaa
open Go.RowKit

theorem getD_grow {α : Type} (L : List (List α)) (i k : Nat) : (L ++ List.replicate (i + 1 - L.length) []).getD k [] = L.getD k [] := by
  generalize i + 1 - L.length = m
  induction m with
  | zero => simp
  | succ m ih => rw [List.replicate_succ', ← List.append_assoc, getD_snoc_nil, ih]

theorem WKeep.lay (G : GH) (W : List (List Nat)) (i k : Nat) (d : RD) : WKeep G (W ++ List.replicate (i + 1 - W.length) []) (G.upd (.inr (1, i)) d) (ES.lay W i k) :=
  WKeep.row G (W ++ List.replicate (i + 1 - W.length) []) i k d (by simp; omega)

theorem one_slice (a : Option Addr) (n c : Nat) : ∀ u ∈ [Value.slice a n c], u.oneCell' = true := by simp [Value.oneCell']

set_option maxHeartbeats 1000000 in
theorem layW_any (b : Nat) (G : GH) (S : ES) (i k : Nat) (w : World) (h : Eng w b G S) (hi : i ≤ 2097153) (_hlen : S.wt.length ≤ 2097154) (hroom : (S.wt.getD i []).length ≤ 8796093022207) :
    Calls Try.prog 54 #[.pointer (some ⟨b, 4, none⟩), i64 i, i64 k] w fun e w' => e = .returned (.tuple #[]) ∧ ∃ G', Eng w' b G' (S.layW i k) ∧ Turned (ft G) w (ft G') w' ∧ WKeep G S.wt G' (S.layW i k).wt := by
  obtain ⟨i0, hi0, hz0, hz1, hz2⟩ := info_parts Try.info3
  obtain ⟨j0, hj0, jz0, jz1, jz2⟩ := info_parts Try.info28
  go_enter Try.func54, Try.ntmps54
  go_wp2_with fail
  go_loopg [6] (i + 1 - S.wt.length) (fun m (_ : Value) wr => ∃ j G', m = i + 1 - (S.wt.length + j) ∧ (j = 0 ∨ S.wt.length + j ≤ i + 1) ∧ Eng wr b G' { S with wt := S.wt ++ List.replicate j [] } ∧ Turned (ft G) w (ft G') wr ∧ WKeep G S.wt G' (S.wt ++ List.replicate j []))
  case atStart => exact ⟨0, G, by simp, .inl rfl, by simpa using h, Turned.refl _ _, by simpa using WKeep.refl G S.wt⟩
  case round =>
    obtain ⟨j, G1, rfl, hj, E, T, K⟩ := hrel
    obtain ⟨S1, hS1⟩ : ∃ S1, S1 = { S with wt := S.wt ++ List.replicate j [] } := ⟨_, rfl⟩
    rw [← hS1] at E
    have hl1 : S1.wt.length = S.wt.length + j := by rw [hS1]; simp
    have HS1 := Lib.hid hS1
    clear hS1
    have c4 := E.f4
    unfold sv at c4
    have y4 := E.ff 4
    by_cases hlt : S.wt.length + j ≤ i
    · have E1 := E.alloc (.cells #[.slice none 0 0] 28)
      have T1 := T.trans (Turned.alloc _ wr (.cells #[.slice none 0 0] 28))
      have hlt' : (S1.wt.length : Int) ≤ (i : Int) := by omega
      have Hl1 := Lib.hid hl1
      clear hl1
      go_wp2_with (at_builtin; go_loud (refine wpList_append_rw rfl (.tmp 15) (.tmp 16) 27 rfl 28 j0 (.slice none 0 0) 1 24 Try.underlying27 hj0 jz0 jz1 jz2 rfl (by decide) (engD G1 S1 (.inl 4)) rfl (E1.row (.inl 4)) (some ⟨wr.heap.size, 0, none⟩) 1 1 [.slice none 0 0] rfl rfl (fun h => by cases h) (new_one wr _ 28) (one_slice _ _ _) ?b1 ?b2 ?go))
      case b1 => have := Hl1.out; simp only [engD, maxLen]; omega
      case b2 => have := Hl1.out; simp only [engD]; omega
      case go =>
        intro d' w5 rw1 en ex eg hgr
        obtain ⟨E5, T5, x1, x2⟩ := E1.pushWt (d := d') rw1 en ex (le_of_new' eg rfl (by simp)) hgr
        clear en ex eg
        go_wp2
        go_roundg (i + 1 - (S.wt.length + (j + 1)))
        case measure => omega
        case rel =>
          refine ⟨j + 1, _, rfl, .inr (by omega), ?_, T1.trans T5, K.trans ((WKeep.inl _ _ _ _).same (fun j' => by rw [List.replicate_succ', ← List.append_assoc, getD_snoc_nil]))⟩
          rw [HS1.out] at E5
          rw [List.replicate_succ', ← List.append_assoc]
          exact E5
    · have hil : i < S1.wt.length := by omega
      have hj2 : j = i + 1 - S.wt.length := by omega
      subst hj2
      have hgd : (S1.wt.getD i []).length ≤ 8796093022207 := by
        have e : S1.wt.getD i [] = S.wt.getD i [] := by rw [HS1.out]; simp only; exact getD_grow S.wt i i
        rw [e]; exact hroom
      clear hl1
      have hlt' : ¬ ((S1.wt.length : Int) ≤ (i : Int)) := by omega
      have hlt2 : ((i : Int) < (S1.wt.length : Int)) := by omega
      obtain ⟨go, hgo⟩ := E.lies (.inl 4) (by simp only [engD]; omega)
      have hgo : G1.g (.inl 4) = some go := hgo
      have d4 := E.s4 hgo
      have e4 := E.e4 hgo hil
      have z4 := E.z4 hgo i
      have n4 := E.n4 hgo
      clear c4
      have E1 := (E.alloc (.cells #[i64 k] 3)).drew
      have T1 := T.trans ((Turned.alloc _ wr (.cells #[i64 k] 3)).trans (Turned.drew _ _))
      have e4a : (wr.alloc (.cells #[i64 k] 3)).cell? ⟨go, i, none⟩ = _ := E1.e4 hgo hil
      have d4a : (wr.alloc (.cells #[i64 k] 3)).cell? ⟨b, 4, none⟩ = _ := E1.s4 hgo
      obtain ⟨q, hq⟩ : ∃ q, q = S1.wt.getD i [] := ⟨_, rfl⟩
      have R1 : Rw (wr.alloc (.cells #[i64 k] 3)).drew 3 1 ⟨G1.g (.inr (1, i)), G1.c (.inr (1, i)), q.length, nats q⟩ := by rw [hq]; exact E1.row (.inr (1, i))
      rw [← hq] at e4 hgd e4a
      have Hq := Lib.hid hq
      clear hq
      unfold sv at e4 e4a
      have hb1 : q.length + 1 ≤ maxLen := by simp only [maxLen]; omega
      have hb2 : (q.length + 1) * 8 ≤ 140737488355328 := by omega
      go_wp2_with fail
      go_region_law (refine step_append_rw rfl (.tmp 28) (.tmp 30) 28 rfl 3 i0 (.int .i64 0) 1 8 Try.underlying28 hi0 hz0 hz1 hz2 rfl (by decide) ⟨G1.g (.inr (1, i)), G1.c (.inr (1, i)), q.length, nats q⟩ rfl R1 (some ⟨wr.heap.size, 0, none⟩) 1 1 [i64 k] rfl rfl (fun h => by cases h) (new_one wr _ 3) (one_i64 _) hb1 hb2 ?_; intro d' w5 rw1 en ex eg hgr; obtain ⟨E5, T5, x1, x2⟩ := E1.rowWt (q ++ [k]) hil hgo rw1 (by simpa using en) (by simpa [nats] using ex) (le_of_new' eg rfl (by simp)) hgr; have x3 := E1.far4 hgo hgr; clear en ex eg)
      all_goals
        go_wp2
        go_end0
        refine ⟨rfl, _, ?_, T1.trans T5, K.trans (WKeep.lay _ S.wt i k _)⟩
        have e : S.layW i k = { S1 with wt := S1.wt.set i (q ++ [k]) } := by rw [Hq.out, HS1.out]; rfl
        rw [e]
        exact E5
set_option maxHeartbeats 1000000 in
theorem layH_any (b : Nat) (G : GH) (S : ES) (i k : Nat) (w : World) (h : Eng w b G S) (hi : i ≤ 1048576) (_hlen : S.hl.length ≤ 1048577) (hroom : (S.hl.getD i []).length ≤ 8796093022207) :
    Calls Try.prog 54 #[.pointer (some ⟨b, 5, none⟩), i64 i, i64 k] w fun e w' => e = .returned (.tuple #[]) ∧ ∃ G', Eng w' b G' (S.layH i k) ∧ Turned (ft G) w (ft G') w' ∧ WKeep G S.wt G' (S.layH i k).wt := by
  obtain ⟨i0, hi0, hz0, hz1, hz2⟩ := info_parts Try.info3
  obtain ⟨j0, hj0, jz0, jz1, jz2⟩ := info_parts Try.info28
  go_enter Try.func54, Try.ntmps54
  go_wp2_with fail
  go_loopg [6] (i + 1 - S.hl.length) (fun m (_ : Value) wr => ∃ j G', m = i + 1 - (S.hl.length + j) ∧ (j = 0 ∨ S.hl.length + j ≤ i + 1) ∧ Eng wr b G' { S with hl := S.hl ++ List.replicate j [] } ∧ Turned (ft G) w (ft G') wr ∧ WKeep G S.wt G' (S.wt))
  case atStart => exact ⟨0, G, by simp, .inl rfl, by simpa using h, Turned.refl _ _, by simpa using WKeep.refl G S.wt⟩
  case round =>
    obtain ⟨j, G1, rfl, hj, E, T, K⟩ := hrel
    obtain ⟨S1, hS1⟩ : ∃ S1, S1 = { S with hl := S.hl ++ List.replicate j [] } := ⟨_, rfl⟩
    rw [← hS1] at E
    have hl1 : S1.hl.length = S.hl.length + j := by rw [hS1]; simp
    have HS1 := Lib.hid hS1
    clear hS1
    have c4 := E.f5
    unfold sv at c4
    have y4 := E.ff 5
    by_cases hlt : S.hl.length + j ≤ i
    · have E1 := E.alloc (.cells #[.slice none 0 0] 28)
      have T1 := T.trans (Turned.alloc _ wr (.cells #[.slice none 0 0] 28))
      have hlt' : (S1.hl.length : Int) ≤ (i : Int) := by omega
      have Hl1 := Lib.hid hl1
      clear hl1
      go_wp2_with (at_builtin; go_loud (refine wpList_append_rw rfl (.tmp 15) (.tmp 16) 27 rfl 28 j0 (.slice none 0 0) 1 24 Try.underlying27 hj0 jz0 jz1 jz2 rfl (by decide) (engD G1 S1 (.inl 5)) rfl (E1.row (.inl 5)) (some ⟨wr.heap.size, 0, none⟩) 1 1 [.slice none 0 0] rfl rfl (fun h => by cases h) (new_one wr _ 28) (one_slice _ _ _) ?b1 ?b2 ?go))
      case b1 => have := Hl1.out; simp only [engD, maxLen]; omega
      case b2 => have := Hl1.out; simp only [engD]; omega
      case go =>
        intro d' w5 rw1 en ex eg hgr
        obtain ⟨E5, T5, x1, x2⟩ := E1.pushHl (d := d') rw1 en ex (le_of_new' eg rfl (by simp)) hgr
        clear en ex eg
        go_wp2
        go_roundg (i + 1 - (S.hl.length + (j + 1)))
        case measure => omega
        case rel =>
          refine ⟨j + 1, _, rfl, .inr (by omega), ?_, T1.trans T5, K.trans (WKeep.inl _ _ _ _)⟩
          rw [HS1.out] at E5
          rw [List.replicate_succ', ← List.append_assoc]
          exact E5
    · have hil : i < S1.hl.length := by omega
      have hj2 : j = i + 1 - S.hl.length := by omega
      subst hj2
      have hgd : (S1.hl.getD i []).length ≤ 8796093022207 := by
        have e : S1.hl.getD i [] = S.hl.getD i [] := by rw [HS1.out]; simp only; exact getD_grow S.hl i i
        rw [e]; exact hroom
      clear hl1
      have hlt' : ¬ ((S1.hl.length : Int) ≤ (i : Int)) := by omega
      have hlt2 : ((i : Int) < (S1.hl.length : Int)) := by omega
      obtain ⟨go, hgo⟩ := E.lies (.inl 5) (by simp only [engD]; omega)
      have hgo : G1.g (.inl 5) = some go := hgo
      have d4 := E.s5 hgo
      have e4 := E.e5 hgo hil
      have z4 := E.z5 hgo i
      have n4 := E.n5 hgo
      clear c4
      have E1 := (E.alloc (.cells #[i64 k] 3)).drew
      have T1 := T.trans ((Turned.alloc _ wr (.cells #[i64 k] 3)).trans (Turned.drew _ _))
      have e4a : (wr.alloc (.cells #[i64 k] 3)).cell? ⟨go, i, none⟩ = _ := E1.e5 hgo hil
      have d4a : (wr.alloc (.cells #[i64 k] 3)).cell? ⟨b, 5, none⟩ = _ := E1.s5 hgo
      obtain ⟨q, hq⟩ : ∃ q, q = S1.hl.getD i [] := ⟨_, rfl⟩
      have R1 : Rw (wr.alloc (.cells #[i64 k] 3)).drew 3 1 ⟨G1.g (.inr (2, i)), G1.c (.inr (2, i)), q.length, nats q⟩ := by rw [hq]; exact E1.row (.inr (2, i))
      rw [← hq] at e4 hgd e4a
      have Hq := Lib.hid hq
      clear hq
      unfold sv at e4 e4a
      have hb1 : q.length + 1 ≤ maxLen := by simp only [maxLen]; omega
      have hb2 : (q.length + 1) * 8 ≤ 140737488355328 := by omega
      go_wp2_with fail
      go_region_law (refine step_append_rw rfl (.tmp 28) (.tmp 30) 28 rfl 3 i0 (.int .i64 0) 1 8 Try.underlying28 hi0 hz0 hz1 hz2 rfl (by decide) ⟨G1.g (.inr (2, i)), G1.c (.inr (2, i)), q.length, nats q⟩ rfl R1 (some ⟨wr.heap.size, 0, none⟩) 1 1 [i64 k] rfl rfl (fun h => by cases h) (new_one wr _ 3) (one_i64 _) hb1 hb2 ?_; intro d' w5 rw1 en ex eg hgr; obtain ⟨E5, T5, x1, x2⟩ := E1.rowHl (q ++ [k]) hil hgo rw1 (by simpa using en) (by simpa [nats] using ex) (le_of_new' eg rfl (by simp)) hgr; have x3 := E1.far5 hgo hgr; clear en ex eg)
      all_goals
        go_wp2
        go_end0
        refine ⟨rfl, _, ?_, T1.trans T5, K.trans (WKeep.inr _ _ _ _ _ (by decide))⟩
        have e : S.layH i k = { S1 with hl := S1.hl.set i (q ++ [k]) } := by rw [Hq.out, HS1.out]; rfl
        rw [e]
        exact E5
end Go.Proofs.Ytaileihnkmjfiaa
