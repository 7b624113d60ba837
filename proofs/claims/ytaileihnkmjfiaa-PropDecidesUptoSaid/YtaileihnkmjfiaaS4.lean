/-
  What the statements begin with, where the number may be: an empty engine. Conditions: those each theorem names.
-/
import Derived.Test.YtaileihnkmjfiaaS3
import Derived.Test.YtaileihnkmjfiaaT14
namespace Go.Proofs.Ytaileihnkmjfiaa
open Go.RowKit

set_option maxHeartbeats 4000000 in
theorem first_any (v : Int) (w : World) (hv : 0 ≤ v ∧ v ≤ 1048576) : Calls Try.prog 13 #[i64 v] w fun e w' => ∃ b G, e = .returned (.tuple #[.pointer (some ⟨b, 0, none⟩), .bool true]) ∧
    Eng w' b G (ES.new v.toNat) ∧ Below w.heap.size w w' ∧ ∀ x, ft G x → w.heap.size ≤ x := by
  have c1 := fun w => new_any v w hv
  have c2 := fun w => new_any 2 w (by decide)
  obtain ⟨hv1, hv2⟩ := hv
  go_enter Try.func13, Try.ntmps13
  go_wp2_with fail
  refine (c1 _).mono ?_
  rintro e w1 ⟨b, G, rfl, E, hb, hft⟩
  go_wp2_with fail
  refine (c2 _).mono ?_
  rintro e w2 ⟨b2, G2, rfl, E2, hb2, hft2⟩
  change Eng w2 b2 G2 (ES.new 2) at E2
  have hbb : Below w.heap.size w (w2.alloc (.cells #[.int .i64 1, .int .i64 2] 3)) := (hb.trans (hb2.mono hb.size)).alloc (by have := hb.size; have := hb2.size; omega) _
  have hsz : w.heap.size ≤ w1.heap.size := hb.size
  have E' := (E.below hb2).alloc (.cells #[.int .i64 1, .int .i64 2] 3)
  have hd : ∀ x, ft G2 x → ¬ ft G x := fun x h1 h2 => by have := hft2 x h1; have := E.flt h2; omega
  have E2' := E2.alloc (.cells #[.int .i64 1, .int .i64 2] 3)
  have L0 : (ES.new 2).Live 3 0 := ES.Live.new (by decide)
  have L1 := L0.add [1, 2] (by decide)
  have L2 := L1.decide (-1)
  have L3 := (L2.propagate (by decide) (by decide)).2.2.1
  have cells : ∀ k, k < [(1 : Int), 2].length → (w2.alloc (.cells #[.int .i64 1, .int .i64 2] 3)).cell? ⟨w2.heap.size, 0 + k, none⟩ = some (i64 ([(1 : Int), 2].getD k 0)) := by
    intro k hk
    have hk : k < 2 := hk
    rw [cell_of_row _ w2.heap.size (0 + k) _ _ _ (heap_alloc_new w2 _)]
    match k, hk with
    | 0, _ => rfl
    | 1, _ => rfl
  have cA := add_live b2 G2 (ES.new 2) [1, 2] (some ⟨w2.heap.size, 0, none⟩) w2.heap.size 0 2 _ E2' L0 (by decide) (by decide) (by decide) (fun _ => rfl) cells
  rw [own_add] at cA
  have cD := fun G w h => decide_live b2 G ((ES.new 2).add [1, 2]).1 (-1) w h L1
  rw [own_decide] at cD
  have cP := fun G w h => propagate_live b2 G _ w h L2 (by decide) (by decide)
  rw [own_propagate] at cP
  have cV := fun G w h => value_any b2 G (((((ES.new 2).add [1, 2]).1).decide' (-1)).1.propagate.1) 2 w h L3.good.inv.ok.dim
  rw [own_value] at cV
  clear c1 c2 cells L0 L1 L2 L3
  generalize (((ES.new 2).add [1, 2]).1) = S1 at *
  generalize (S1.decide' (-1)).1 = S2 at *
  generalize S2.propagate.1 = S3 at *
  go_wp2_with fail
  refine cA.mono ?_
  rintro e w3 ⟨rfl, G3, E3, T3⟩
  go_wp2_with fail
  refine (cD G3 _ E3).mono ?_
  rintro e w4 ⟨rfl, G4, E4, T4⟩
  go_wp2_with fail
  refine (cP G4 _ E4).mono ?_
  rintro e w5 ⟨rfl, G5, E5, T5⟩
  go_wp2_with fail
  refine (cV G5 _ E5).mono ?_
  rintro e w6 ⟨rfl, rfl⟩
  go_wp2_with fail
  go_ret2
  have T := (T3.trans T4).trans T5
  exact ⟨b, G, rfl, E'.apart T (fun x h1 h2 => hd x h2 h1), hbb.trans (T.below (B := w.heap.size) (fun x hx => by have := hft2 x hx; omega) (by have := hb2.size; simp; omega)), hft⟩
end Go.Proofs.Ytaileihnkmjfiaa
