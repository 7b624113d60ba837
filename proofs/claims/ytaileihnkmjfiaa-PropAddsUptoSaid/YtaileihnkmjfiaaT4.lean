/-
  best of the engine returns the two best literals of a clause. Conditions: the engine lies in the world, and what each theorem names.
-/
import Derived.Test.YtaileihnkmjfiaaT3
import Derived.Test.YtaileihnkmjfiaaL0
namespace Go.Proofs.Ytaileihnkmjfiaa
open Go.RowKit


/-- the two cells of p -/
def Two (w : World) (pb : Nat) (p : Int × Int) : Prop := w.heap[pb]? = some (.cells #[i64 p.1, i64 p.2] 72 (0, 0))
theorem Two.c0 {w : World} {pb : Nat} {p : Int × Int} (h : Two w pb p) : w.cell? ⟨pb, 0, none⟩ = some (i64 p.1) := by rw [cell_of_row w pb 0 _ _ _ h]; rfl
theorem Two.c1 {w : World} {pb : Nat} {p : Int × Int} (h : Two w pb p) : w.cell? ⟨pb, 1, none⟩ = some (i64 p.2) := by rw [cell_of_row w pb 1 _ _ _ h]; rfl
theorem Two.fz {w : World} {pb : Nat} {p : Int × Int} (h : Two w pb p) (i : Nat) : w.frozen? ⟨pb, i, none⟩ = false := by unfold Two at h; simp [World.frozen?, h]
theorem Two.lt {w : World} {pb : Nat} {p : Int × Int} (h : Two w pb p) : pb < w.heap.size := (Array.getElem?_eq_some_iff.1 h).1
theorem Two.s0 {w : World} {pb : Nat} {p : Int × Int} (h : Two w pb p) (x : Int) : Two (w.setCell ⟨pb, 0, none⟩ (i64 x)) pb (x, p.2) := by
  unfold Two at *; rw [heap_setCell_same w pb 0 _ _ _ _ h]; rfl
theorem Two.s1 {w : World} {pb : Nat} {p : Int × Int} (h : Two w pb p) (x : Int) : Two (w.setCell ⟨pb, 1, none⟩ (i64 x)) pb (p.1, x) := by
  unfold Two at *; rw [heap_setCell_same w pb 1 _ _ _ _ h]; rfl
theorem Two.drewN {w : World} {pb n : Nat} {p : Int × Int} (h : Two w pb p) : Two (w.drewN n) pb p := h
theorem Two.far {w : World} {pb : Nat} {p : Int × Int} {a : Addr} {v : Value} (h : Two w pb p) (hne : pb ≠ a.block) : Two (w.setCell a v) pb p := by
  unfold Two at *; rw [Below.heap_setCell _ _ _ _ hne, h]

theorem foldl_take_succ {α β : Type} (f : β → α → β) (z : β) (d : α) (l : List α) (k : Nat) (h : k < l.length) : (l.take (k + 1)).foldl f z = f ((l.take k).foldl f z) (l.getD k d) := by
  rw [List.take_add_one, List.foldl_append]
  simp [List.getD, h]

/-- the pair so far is of literals of the clause, or of none -/
theorem best_rng {S : ES} {c : List Int} {n : Nat} (hc : ∀ l ∈ c, l ≠ 0 ∧ l.natAbs ≤ n) (k : Nat) : ((c.take k).foldl S.bestStep (0, 0)).1.natAbs ≤ n ∧ ((c.take k).foldl S.bestStep (0, 0)).2.natAbs ≤ n := by
  induction k with
  | zero => simp
  | succ k ih =>
    by_cases h : k < c.length
    · rw [foldl_take_succ _ _ 0 _ _ h]
      have hl := hc (c.getD k 0) (by simp [List.getD, h])
      unfold ES.bestStep
      split
      · exact ih
      · split
        · exact ⟨hl.2, ih.1⟩
        · split
          · exact ⟨ih.1, hl.2⟩
          · exact ih
    · rw [List.take_of_length_le (by omega)] at ih ⊢
      exact ih

set_option maxHeartbeats 2000000 in
theorem best_any (b : Nat) (G : GH) (S : ES) (c : List Int) (ao : Option Addr) (cb cap : Nat) (w : World) (h : Eng w b G S) (hS : S.Dim) (hao : 0 < c.length → ao = some ⟨cb, 0, none⟩) (hc : ∀ l ∈ c, l ≠ 0 ∧ l.natAbs ≤ S.n) (hcl : c.length ≤ 65536)
    (hcb : 0 < c.length → cb < w.heap.size) (hcells : ∀ k, k < c.length → w.cell? ⟨cb, k, none⟩ = some (i64 (c.getD k 0))) :
    Calls Try.prog 53 #[.pointer (some ⟨b, 0, none⟩), .slice ao c.length cap] w fun e w' => e = .returned (.agg #[i64 (S.best c).1, i64 (S.best c).2]) ∧ Below w.heap.size w w' := by
  go_enter Try.func53, Try.ntmps53
  go_wp2_with fail
  go_loopg [10] c.length (fun m s10 wr => ∃ k, k ≤ c.length ∧ m = c.length - k ∧ s10 = i64 k ∧ Below w.heap.size w wr ∧ Two wr (w.heap.size + 1) ((c.take k).foldl S.bestStep (0, 0)) ∧ Two wr w.heap.size (0, 0))
  case atStart =>
    refine ⟨0, Nat.zero_le _, rfl, rfl, ((Below.refl _ _).alloc (Nat.le_refl _) _).alloc (by simp) _, ?_, ?_⟩
    · have := heap_alloc_new (w.alloc (.cells #[i64 0, i64 0] 72)) (.cells #[i64 0, i64 0] 72)
      simpa [Two] using this
    · have := heap_alloc_old (w.alloc (.cells #[i64 0, i64 0] 72)) (.cells #[i64 0, i64 0] 72) (r := w.heap.size) (by simp)
      exact this.trans (heap_alloc_new w _)
  case round =>
    obtain ⟨k, hk, rfl, rfl, hb, hp, hr⟩ := hrel
    have E := h.below hb
    have hw1 : w.heap.size + 1 < wr.heap.size := hp.lt
    have hrg := best_rng (S := S) hc k
    by_cases hlt : k < c.length
    · obtain rfl := hao (by omega)
      have hcb := hcb (by omega)
      have hcell := (hb.cell (p := ⟨cb, k, none⟩) hcb).trans (hcells k hlt)
      have hlr := hc (c.getD k 0) (by simp [List.getD, hlt])
      have hnext := foldl_take_succ S.bestStep (0, 0) 0 c k hlt
      have HN := Lib.hid hnext
      clear hnext
      generalize c.getD k 0 = l at *
      generalize (c.take k).foldl S.bestStep (0, 0) = p at *
      obtain ⟨p1, p2⟩ := p
      have q0 := hp.c0
      have q1 := hp.c1
      have qz0 := hp.fz 0
      have qz1 := hp.fz 1
      simp only at q0 q1 hrg
      have hlt' : (k : Int) < (c.length : Int) := by omega
      have hk' : (c.length : Int) ≤ 65536 := by omega
      have hcells' := Lib.hid hcells
      have hc' := Lib.hid hc
      clear hcells hc hao
      have fin : ∀ (p' : Int × Int) (wz : World), Below w.heap.size w wz → Two wz (w.heap.size + 1) p' → Two wz w.heap.size (0, 0) → S.bestStep (p1, p2) l = p' →
          ∃ k', k' ≤ c.length ∧ c.length - (k + 1) = c.length - k' ∧ (Value.int IntKind.i64 ((k : Int) + 1)) = i64 k' ∧ Below w.heap.size w wz ∧ Two wz (w.heap.size + 1) ((c.take k').foldl S.bestStep (0, 0)) ∧ Two wz w.heap.size (0, 0) := by
        intro p' wz a1 a2 a3 a4
        refine ⟨k + 1, hlt, rfl, by simp, a1, ?_, a3⟩
        rw [HN.out, a4]
        exact a2
      have Fin := Lib.hid fin
      clear fin
      by_cases t1 : l = p1
      · have b1 : (l == p1) = true := by simpa using t1
        go_wp2
        go_roundg (c.length - (k + 1))
        case measure => omega
        case rel => exact Fin.out _ _ hb hp hr (by simp [ES.bestStep, t1])
      · have b1 : (l == p1) = false := by simpa using t1
        by_cases t2 : l = p2
        · have b2 : (l == p2) = true := by simpa using t2
          go_wp2
          go_roundg (c.length - (k + 1))
          case measure => omega
          case rel => exact Fin.out _ _ hb hp hr (by simp [ES.bestStep, t2])
        · have b2 : (l == p2) = false := by simpa using t2
          by_cases t3 : p1 = 0
          · subst t3
            go_wp2_with fail
            go_quiet (fail)
            go_wp2
            go_roundg (c.length - (k + 1))
            case measure => omega
            case rel => exact Fin.out (l, 0) _ (((bdrewN hb).setCell (p := ⟨w.heap.size + 1, 0, none⟩) (by simp) _).setCell (p := ⟨w.heap.size + 1, 1, none⟩) (by simp) _) ((hp.drewN.s0 l).s1 0) ((hr.drewN.far (by simp)).far (by simp)) (by simp [ES.bestStep, t1, t2])
          · have b3 : (p1 == 0) = false := by simpa using t3
            have dl := fun a n => quiet_al (worth_any b G S l (wr.drewN (a + n)) E.drewN hS hlr.2)
            have d2 := fun a n => quiet_al (worth_any b G S p2 (wr.drewN (a + n)) E.drewN hS hrg.2)
            have cl := fun n => quiet_l (worth_any b G S l (wr.drewN n) E.drewN hS hlr.2)
            have c1 := fun n => quiet_l (worth_any b G S p1 (wr.drewN n) E.drewN hS hrg.1)
            have HB := Lib.hid (show S.bestStep (p1, p2) l = if S.worth p1 < S.worth l then (l, p1) else if p2 = 0 ∨ S.worth p2 < S.worth l then (p1, l) else (p1, p2) by simp [ES.bestStep, t1, t2, t3])
            have c2 := fun n => quiet_l (worth_any b G S p2 (wr.drewN n) E.drewN hS hrg.2)
            generalize S.worth l = Wl at *
            generalize S.worth p1 = W1 at *
            generalize S.worth p2 = W2 at *
            by_cases t4 : W1 < Wl
            · go_wp2_with fail
              go_quiet ((first | (go_at_call_of 59 (i64 l); exact cl _) | exact c1 _ | exact cl _))
              go_wp2
              go_roundg (c.length - (k + 1))
              case measure => omega
              case rel => exact Fin.out (l, p1) _ (((bdrewN hb).setCell (p := ⟨w.heap.size + 1, 0, none⟩) (by simp) _).setCell (p := ⟨w.heap.size + 1, 1, none⟩) (by simp) _) ((hp.drewN.s0 l).s1 p1) ((hr.drewN.far (by simp)).far (by simp)) (by rw [HB.out, if_pos t4])
            · by_cases t5 : p2 = 0
              · subst t5
                go_wp2_with fail
                go_quiet ((first | (go_at_call_of 59 (i64 l); exact cl _) | exact c1 _ | exact cl _))
                go_wp2_with fail
                go_quiet (fail)
                go_wp2
                go_roundg (c.length - (k + 1))
                case measure => omega
                case rel => exact Fin.out (p1, l) _ ((bdrewN hb).setCell (p := ⟨w.heap.size + 1, 1, none⟩) (by simp) _) (hp.drewN.s1 l) (hr.drewN.far (by simp)) (by rw [HB.out, if_neg (by omega)]; simp)
              · have b5 : (p2 == 0) = false := by simpa using t5
                by_cases t6 : W2 < Wl
                · go_wp2_with fail
                  go_quiet ((first | (go_at_call_of 59 (i64 l); exact cl _) | exact c1 _ | exact cl _))
                  go_wp2_with fail
                  go_quiet ((first | (go_at_call_of 59 (i64 l); exact dl _ _) | exact d2 _ _ | exact dl _ _))
                  go_wp2
                  go_roundg (c.length - (k + 1))
                  case measure => omega
                  case rel => exact Fin.out (p1, l) _ ((bdrewN hb).setCell (p := ⟨w.heap.size + 1, 1, none⟩) (by simp) _) (hp.drewN.s1 l) (hr.drewN.far (by simp)) (by rw [HB.out, if_neg (by omega), if_pos (.inr (by omega))])
                · go_wp2_with fail
                  go_quiet ((first | (go_at_call_of 59 (i64 l); exact cl _) | exact c1 _ | exact cl _))
                  go_wp2_with fail
                  go_quiet ((first | (go_at_call_of 59 (i64 l); exact dl _ _) | exact d2 _ _ | exact dl _ _))
                  go_wp2
                  go_roundg (c.length - (k + 1))
                  case measure => omega
                  case rel => exact Fin.out (p1, p2) _ (bdrewN hb) hp.drewN hr.drewN (by rw [HB.out, if_neg (by omega), if_neg (by omega)])
    · have hkc : k = c.length := by omega
      subst hkc
      have hlt' : ¬ ((c.length : Int) < (c.length : Int)) := by omega
      rw [List.take_length] at hp
      have HBest := Lib.hid (show S.best c = c.foldl S.bestStep (0, 0) from rfl)
      generalize c.foldl S.bestStep (0, 0) = p at *
      obtain ⟨p1, p2⟩ := p
      have q0 := hp.c0
      have q1 := hp.c1
      have r0 := hr.c0
      have r1 := hr.c1
      have rz0 := hr.fz 0
      have rz1 := hr.fz 1
      clear hrg
      go_wp2
      have T := (hr.s0 p1).s1 p2
      have u0 := T.c0
      have u1 := T.c1
      exact bodyPost_ret (v := .agg #[i64 p1, i64 p2]) (by simp [results, Try.results53, go_sem, u0, u1]) rfl ⟨by rw [HBest.out], (hb.setCell (p := ⟨w.heap.size, 0, none⟩) (by simp) _).setCell (p := ⟨w.heap.size, 1, none⟩) (by simp) _⟩

end Go.Proofs.Ytaileihnkmjfiaa
