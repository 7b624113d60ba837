/-
  set of the engine lays one literal as true. Conditions: the engine lies in the world, and what each theorem names.
-/
import Derived.Test.YtaileihnkmjfiaaT0
import Derived.Test.YtaileihnkmjfiaaEng2
namespace Go.Proofs.Ytaileihnkmjfiaa
open Go.RowKit

theorem nat_of_neg {l : Int} (h : l < 0) : ∃ k : Nat, l = -(k : Int) ∧ 0 < k := ⟨l.natAbs, by omega, by omega⟩
theorem nat_of_pos {l : Int} (h : ¬ l < 0) : ∃ k : Nat, l = (k : Int) := ⟨l.natAbs, by omega⟩
theorem natAbs_neg' (k : Nat) : (-(k : Int)).natAbs = k := by omega
theorem natAbs_pos' (k : Nat) : (k : Int).natAbs = k := by omega

/-- one number appended: where it lies, behind its block was made -/
theorem new_one (w : World) (x : Value) (T : TypeId) : ∀ a, some (⟨w.heap.size, 0, none⟩ : Addr) = some a → ∀ j u, [x][j]? = some u → ((w.alloc (.cells #[x] T))).cell? (a.add j) = some u := by
  intro a ha j u hj
  obtain rfl := Option.some.inj ha
  match j, hj with
  | 0, hj => simp at hj; subst hj; simp [Addr.add]
theorem le_of_new {o : Option Nat} {g : Option Nat} {n : Nat} (h : o = g ∨ o = some n) : o = g ∨ ∀ k, o = some k → n ≤ k :=
  h.imp id fun e k hk => by rw [e] at hk; cases hk; exact Nat.le_refl _
theorem le_of_new' {o g g' : Option Nat} {n n' : Nat} (h : o = g' ∨ o = some n') (hg : g' = g) (hn : n ≤ n') : o = g ∨ ∀ k, o = some k → n ≤ k :=
  hg ▸ h.imp id fun e k hk => by rw [e] at hk; cases hk; exact hn
theorem sg_neg {k : Nat} (h : 0 < k) : ES.sg (-(k : Int)) = -1 := by simp [ES.sg, h]
theorem sg_pos (k : Nat) : ES.sg (k : Int) = 1 := by unfold ES.sg; rw [if_neg (by omega)]
theorem one_i64 (x : Int) : ∀ u ∈ [i64 x], u.oneCell' = true := by simp [Value.oneCell']

set_option maxHeartbeats 800000 in
theorem set_any (b : Nat) (G : GH) (S : ES) (l : Int) (r : Nat) (w : World) (h : Eng w b G S) (hS : S.Dim) (hl : l.natAbs ≤ S.n) (_hr : r ≤ 1048576) :
    Calls Try.prog 52 #[.pointer (some ⟨b, 0, none⟩), i64 l, i64 r] w fun e w' => e = .returned (.tuple #[]) ∧ ∃ G', Eng w' b G' (S.set l r) ∧ Turned (ft G) w (ft G') w' ∧ WKeep G S.wt G' S.wt := by
  have hnl := hS.n_le
  have htl := hS.tr_le
  obtain ⟨va, hva⟩ := h.lies (.inl 6) (by simp only [engD, hS.val_len]; omega)
  obtain ⟨la, hla⟩ := h.lies (.inl 7) (by simp only [engD, hS.lev_len]; omega)
  obtain ⟨ra, hra⟩ := h.lies (.inl 8) (by simp only [engD, hS.rsn_len]; omega)
  have hva : G.g (.inl 6) = some va := hva
  have hla : G.g (.inl 7) = some la := hla
  have hra : G.g (.inl 8) = some ra := hra
  have k1 : (l.natAbs : Int) < S.val.length := by rw [hS.val_len]; omega
  have k2 : (l.natAbs : Int) < S.lev.length := by rw [hS.lev_len]; omega
  have k3 : (l.natAbs : Int) < S.rsn.length := by rw [hS.rsn_len]; omega
  have c6 := h.s6 hva
  have z6 := h.e6 hva (k := l.natAbs) (by omega)
  have y6 := h.z6 hva l.natAbs
  have n6 := h.n6 hva
  obtain ⟨i0, hi, hz0, hz1, hz2⟩ := info_parts Try.info3
  by_cases hneg : l < 0
  · obtain ⟨k, rfl, hk0⟩ := nat_of_neg hneg
    rw [natAbs_neg'] at *
    have hk3 : (k : Int) ≤ 1048576 := by omega
    have E1 := (h.setVal hva k 1).setVal hva k (-1)
    have T1 := (Turned.setCell (F := ft G) w ⟨va, k, none⟩ (.int .i8 1) (h.t6 hva)).trans (Turned.setCell _ ⟨va, k, none⟩ (.int .i8 (-1)) (h.t6 hva))
    go_enter Try.func52, Try.ntmps52
    go_wp2_with fail
    generalize (w.setCell ⟨va, k, none⟩ (.int .i8 1)).setCell ⟨va, k, none⟩ (.int .i8 (-1)) = w1 at *
    clear c6 z6 y6
    have c7 := E1.s7 hla
    have c10 := E1.f10
    unfold sv at c10
    have z7 := E1.e7 hla (k := k) (by simp only; omega)
    have y7 := E1.z7 hla k
    have n7 := h.n7 hla
    go_region_held3 (fun w' => w'.cell? ⟨b, 7, none⟩ = some (.slice (some ⟨la, 0, none⟩) S.lev.length (G.c (.inl 7))) ∧ w'.cell? ⟨b, 10, none⟩ = some (.slice (Option.map (fun g => { block := g, off := 0 }) (G.g (Sum.inl 10))) (List.length S.mks) (G.c (Sum.inl 10)))) (go_keep) ((fail))
    have E2 := (E1.setLev hla k S.mks.length).drew
    have T2 := T1.trans ((Turned.setCell _ ⟨la, k, none⟩ (i64 S.mks.length) (h.t7 hla)).trans (Turned.drew _ _))
    go_upto_region 5 with (fail)
    generalize (w1.setCell ⟨la, k, none⟩ (i64 S.mks.length)).drew = w2 at *
    clear c7 c10 z7 y7
    have c8 := E2.s8 hra
    have z8 := E2.e8 hra (k := k) (by simp only; omega)
    have y8 := E2.z8 hra k
    have E3 := E2.setRsn hra k r
    have T3 := T2.trans (Turned.setCell _ ⟨ra, k, none⟩ (i64 r) (h.t8 hra))
    go_upto_region 6 with (fail)
    generalize w2.setCell ⟨ra, k, none⟩ (i64 r) = w3 at *
    clear c8 z8 y8
    have c9 := E3.f9
    have E4 := E3.alloc (.cells #[i64 (-k)] 3)
    have T4 := T3.trans (Turned.alloc _ w3 (.cells #[i64 (-k)] 3))
    go_wp2_with (at_builtin; go_loud (refine wpList_append_rw rfl (.tmp 47) (.tmp 49) 28 rfl 3 i0 (.int .i64 0) 1 8 Try.underlying28 hi hz0 hz1 hz2 rfl (by decide) (engD G S (.inl 9)) rfl (E4.row (.inl 9)) (some ⟨w3.heap.size, 0, none⟩) 1 1 [i64 (-k)] rfl rfl (fun h => by cases h) (new_one w3 _ 3) (one_i64 _) ?b1 ?b2 ?go))
    case b1 => simp [engD, maxLen]; omega
    case b2 => simp [engD]; omega
    case go =>
      intro d' w5 rw1 en ex eg hgr
      obtain ⟨E5, T5, x1, x2⟩ := E4.pushTr (d := d') [-(k : Int)] rw1 en ex (le_of_new' eg rfl (by simp)) hgr
      clear en ex eg
      go_wp2
      go_end0
      refine ⟨rfl, _, ?_, T4.trans T5, WKeep.inl _ _ _ _⟩
      rw [show S.set (-(k : Int)) r = _ from by simp only [ES.set, natAbs_neg', sg_neg hk0]; rw [← List.set_set (1 : Int) (l := S.val)]]; exact E5
  · obtain ⟨k, rfl⟩ := nat_of_pos hneg
    rw [natAbs_pos'] at *
    have hp0 : 0 ≤ (k : Int) := by omega
    have hk3 : (k : Int) ≤ 1048576 := by omega
    have E1 := h.setVal hva k 1
    have T1 := Turned.setCell (F := ft G) w ⟨va, k, none⟩ (.int .i8 1) (h.t6 hva)
    go_enter Try.func52, Try.ntmps52
    go_wp2_with fail
    generalize w.setCell ⟨va, k, none⟩ (.int .i8 1) = w1 at *
    clear c6 z6 y6
    have c7 := E1.s7 hla
    have c10 := E1.f10
    unfold sv at c10
    have z7 := E1.e7 hla (k := k) (by simp only; omega)
    have y7 := E1.z7 hla k
    have n7 := h.n7 hla
    go_region_held3 (fun w' => w'.cell? ⟨b, 7, none⟩ = some (.slice (some ⟨la, 0, none⟩) S.lev.length (G.c (.inl 7))) ∧ w'.cell? ⟨b, 10, none⟩ = some (.slice (Option.map (fun g => { block := g, off := 0 }) (G.g (Sum.inl 10))) (List.length S.mks) (G.c (Sum.inl 10)))) (go_keep) ((fail))
    have E2 := (E1.setLev hla k S.mks.length).drew
    have T2 := T1.trans ((Turned.setCell _ ⟨la, k, none⟩ (i64 S.mks.length) (h.t7 hla)).trans (Turned.drew _ _))
    go_upto_region 5 with (fail)
    generalize (w1.setCell ⟨la, k, none⟩ (i64 S.mks.length)).drew = w2 at *
    clear c7 c10 z7 y7
    have c8 := E2.s8 hra
    have z8 := E2.e8 hra (k := k) (by simp only; omega)
    have y8 := E2.z8 hra k
    have E3 := E2.setRsn hra k r
    have T3 := T2.trans (Turned.setCell _ ⟨ra, k, none⟩ (i64 r) (h.t8 hra))
    go_upto_region 6 with (fail)
    generalize w2.setCell ⟨ra, k, none⟩ (i64 r) = w3 at *
    clear c8 z8 y8
    have c9 := E3.f9
    have E4 := E3.alloc (.cells #[i64 k] 3)
    have T4 := T3.trans (Turned.alloc _ w3 (.cells #[i64 k] 3))
    go_wp2_with (at_builtin; go_loud (refine wpList_append_rw rfl (.tmp 47) (.tmp 49) 28 rfl 3 i0 (.int .i64 0) 1 8 Try.underlying28 hi hz0 hz1 hz2 rfl (by decide) (engD G S (.inl 9)) rfl (E4.row (.inl 9)) (some ⟨w3.heap.size, 0, none⟩) 1 1 [i64 k] rfl rfl (fun h => by cases h) (new_one w3 _ 3) (one_i64 _) ?b1 ?b2 ?go))
    case b1 => simp [engD, maxLen]; omega
    case b2 => simp [engD]; omega
    case go =>
      intro d' w5 rw1 en ex eg hgr
      obtain ⟨E5, T5, x1, x2⟩ := E4.pushTr (d := d') [(k : Int)] rw1 en ex (le_of_new' eg rfl (by simp)) hgr
      clear en ex eg
      go_wp2
      go_end0
      refine ⟨rfl, _, ?_, T4.trans T5, WKeep.inl _ _ _ _⟩
      rw [show S.set (k : Int) r = _ from by simp only [ES.set, natAbs_pos', sg_pos]; rfl]; exact E5

end Go.Proofs.Ytaileihnkmjfiaa
