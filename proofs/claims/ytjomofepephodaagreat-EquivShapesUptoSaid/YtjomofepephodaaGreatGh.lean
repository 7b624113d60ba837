/-
  The walk over a program, with its panic and recover. Conditions: what each theorem names.
-/
import Derived.Test.YtjomofepephodaaGreatGg
import Derived.Defers
import Derived.Laws.Pointers
import Derived.Recover
set_option linter.unusedVariables false
set_option linter.unusedSimpArgs false
namespace Go.Proofs.YtjomofepephodaaGreat.PEquivShapes
open Go.RowKit
open Go.Proofs.YtjomofepephodaaGreatW.PrintWords Go.Proofs.YtjomofepephodaaGreatW.PrintLast Go.Proofs.YtjomofepephodaaGreatW.PrintMore
/-- the things of a program -/
def PR.ths (p : PR) : List TL := p.decls.map (fun _ => (TH.decl, [])) ++ S52.thss 1 [] p.body
theorem PR.mem_decl {p : PR} (h : 0 < p.decls.length) : (TH.decl, ([] : List ByteArray)) ∈ p.ths := List.mem_append.2 (.inl (List.mem_map.2 ⟨p.decls[0], List.getElem_mem h, rfl⟩))
/-- how the walk ends: at a bad thing it panics -/
def Over (B : Nat) (w0 : World) (b : Bool) (e : Ending) (w' : World) : Prop :=
  Below B w0 w' ∧ match b with
    | false => ∃ v : Int, e = .returned (.int .i64 v)
    | true => ∃ v : Int, e = .panicked [{ v := .iface 119 (.agg #[.int .i64 v]), recovered := false }]
theorem Over.dead {B : Nat} {w0 w' : World} {b : Bool} {u : Int} (hb : b = true) (h : Below B w0 w') : Over B w0 b (.panicked [{ v := .iface 119 (.agg #[.int .i64 u]), recovered := false }]) w' := by
  subst hb
  exact ⟨h, u, rfl⟩
set_option maxHeartbeats 4000000 in
set_option maxRecDepth 100000 in
theorem all_any (cap : Nat) (p : PR) (A3 : Option Addr) (c3 : Nat) (A4 : Option Addr) (c4 : Nat) (pre bad : TL → Bool) (w : World) (hp : p.At w A3 c3 A4 c4) (hS : Sees w.heap.size w cap pre bad) (hpre : ∀ x, x ∈ p.ths → pre x = true) :
    Calls Tryz.prog 97 #[p.cells A3 c3 A4 c4, .func (.func 98) #[] #[.pointer (some ⟨cap, 0, none⟩)]] w fun e w' => Over w.heap.size w (p.ths.any bad) e w' := by
  have hu := Tryz.underlying22
  obtain ⟨hl3, h3, hl4, h4⟩ := hp
  have hll : (p.decls.length : Int) ≤ 9223372036854775807 := by have := h3.2.1; omega
  have B1 := below_alloc (Below.refl w.heap.size w) (p.row A3 c3 A4 c4)
  obtain ⟨w0, hw0⟩ : ∃ w0, w.alloc (p.row A3 c3 A4 c4) = w0 := ⟨_, rfl⟩
  have y3 : w0.cell? ⟨w.heap.size, 3, none⟩ = some (.slice A3 p.decls.length c3) := by rw [← hw0]; simp [go_sem, PR.row]
  have y4 : w0.cell? ⟨w.heap.size, 4, none⟩ = some (.slice A4 p.body.length c4) := by rw [← hw0]; simp [go_sem, PR.row]
  have hsz : w0.heap.size = w.heap.size + 1 := by rw [← hw0]; simp [go_sem]
  rw [hw0] at B1
  have hS0 : Sees w0.heap.size w0 cap pre bad := fun W t ls n pd ps pe d pl hb => hS W t ls n pd ps pe d pl (B1.trans ⟨hb.os, hb.tape, hb.output, hb.size, fun i hi => hb.block i (by omega)⟩)
  have B2 := below_alloc (Below.refl w0.heap.size w0) (.cells #[.int .i64 0, .func (.func 98) #[] #[.pointer (some ⟨cap, 0, none⟩)]] 127)
  obtain ⟨W, hW⟩ : ∃ W, w0.alloc (.cells #[.int .i64 0, .func (.func 98) #[] #[.pointer (some ⟨cap, 0, none⟩)]] 127) = W := ⟨_, rfl⟩
  have hk : WkAt w0.heap.size cap 0 W := by rw [← hW]; show (w0.heap.push _)[w0.heap.size]? = _; simp
  rw [hW] at B2
  obtain ⟨g, hg⟩ : ∃ g, g = w0.heap.size := ⟨_, rfl⟩
  have hgw : w.heap.size + 1 = g := by omega
  rw [← hg] at hk hS0 B2
  have HST := Aside0.mk (show St g cap w0 W W from ⟨B2, ⟨0, hk⟩, Keeps.refl _ _⟩)
  have HT : Aside0 (0 < p.decls.length → ∀ q, Stp g cap w0 W 105 #[.pointer (some ⟨g, 0, none⟩), .agg #[.int .i64 0, .pointer q, .pointer none, .pointer none, .int .i64 0, .pointer none]] (bad (.decl, []))) := ⟨fun hlt q => tell_stp hS0 hg hk (t := .decl) (ls := []) (n := 0) (pd := q) (ps := none) (pe := none) (d := 0) (pl := none) (hpre _ (PR.mem_decl hlt)) ⟨rfl, rfl, rfl⟩ rfl⟩
  have HB : Aside0 (Stp g cap w0 W 106 #[.pointer (some ⟨g, 0, none⟩), .slice A4 p.body.length c4, .int .i64 1, .pointer none] ((S52.thss 1 [] p.body).any bad)) := ⟨fun x ⟨h1, ⟨u, h2⟩, h3⟩ =>
    (stmts_any g cap w0 pre bad hS0 hg (S52.bulks p.body) p.body A4 c4 1 [] none x u (Nat.le_refl _) (Kd.C_below h4 B1) hl4 (fun x hx => hpre x (by simp [PR.ths, hx])) h1 h2 rfl).mono fun _ _ hq => hq.base h3⟩
  have hT1 : 0 < p.decls.length → bad (.decl, []) = true → p.ths.any bad = true := fun h0 hb => by
    rw [List.any_eq_true]
    exact ⟨(.decl, []), PR.mem_decl h0, hb⟩
  have hT2 : (S52.thss 1 [] p.body).any bad = true → p.ths.any bad = true := fun hb => by
    unfold PR.ths
    rw [List.any_append, hb, Bool.or_true]
  have hT3 : (0 < p.decls.length → bad (.decl, []) = false) → (S52.thss 1 [] p.body).any bad = false → p.ths.any bad = false := fun h0 hb => by
    unfold PR.ths
    rw [List.any_append, hb, Bool.or_false, List.any_eq_false]
    intro x hx
    rw [List.mem_map] at hx
    obtain ⟨d, hd, rfl⟩ := hx
    rw [h0 (List.length_pos_of_mem hd)]
    simp
  have HX3 : Aside0 (∀ W', Below g w0 W' → W'.cell? ⟨w.heap.size, 3, none⟩ = some (.slice A3 p.decls.length c3)) := ⟨fun W' hb => kept0 hg hb y3⟩
  have HX4 : Aside0 (∀ W', Below g w0 W' → W'.cell? ⟨w.heap.size, 4, none⟩ = some (.slice A4 p.body.length c4)) := ⟨fun W' hb => kept0 hg hb y4⟩
  have HBB : Aside0 (∀ W', Below g w0 W' → Below w.heap.size w W') := ⟨fun W' hb => B1.trans ⟨hb.os, hb.tape, hb.output, hb.size, fun i hi => hb.block i (by omega)⟩⟩
  have H1 := Aside0.mk hT1
  have H2 := Aside0.mk hT2
  have H3 := Aside0.mk hT3
  generalize p.ths.any bad = tot at *
  generalize bad (.decl, []) = bd at *
  generalize (S52.thss 1 [] p.body).any bad = bb at *
  have HK3 : Aside0 (0 < p.decls.length → ∃ ad, A3 = some ad) := ⟨fun h0 => by obtain ⟨a, ha, _⟩ := h3.2.2 h0; exact ⟨a, ha⟩⟩
  have HG := Aside0.mk hg
  have HW1 := Aside0.mk hW
  have HW0 := Aside0.mk hw0
  clear hS hS0 hpre hT1 hT2 hT3 h3 h4 B1 B2 hk hgw hsz y3 y4 hg hw0 hW
  unfold PR.cells
  unfold PR.row at HW0
  go_enter Tryz.func97, Tryz.ntmps97
  go_upto_region 1 with (fail)
  rw [HW0.out]
  go_upto_region 2 with (fail)
  rw [HW1.out, ← HG.out]
  have x3 := HX3.out W HST.out.1
  go_wp2_with fail
  go_loopg [13] (p.decls.length) (fun m v13 wr => ∃ i : Nat, v13 = .int .i64 i ∧ m = p.decls.length - i ∧ i ≤ p.decls.length ∧ (0 < i → bd = false) ∧ St g cap w0 W wr)
  case atStart => exact ⟨0, rfl, by omega, by omega, fun h => absurd h (by omega), HST.out⟩
  case round =>
    obtain ⟨i, rfl, rfl, hi, hs0, hst⟩ := hrel
    clear HST x3
    have HST := Aside0.mk hst
    have HS0 := Aside0.mk hs0
    clear hst hs0
    have x3 := HX3.out wr HST.out.1
    have x4 := HX4.out wr HST.out.1
    by_cases hlt : i < p.decls.length
    · have hlt' : (i : Int) < (p.decls.length : Int) := by omega
      obtain ⟨ad, rfl⟩ := HK3.out (by omega)
      have HT1 := Aside0.mk (HT.out (by omega) (some (ad.add (i * 4))))
      have HD := Aside0.mk (H1.out (by omega))
      cases bd with
      | true =>
        go_wp2_with (go_at_call 105; refine (HT1.out _ HST.out).mono ?_; rintro x w1 ⟨hb1, u, rfl⟩)
        exact ⟨rfl, Over.dead (HD.out (by trivial)) (HBB.out _ hb1)⟩
      | false =>
        go_wp2_with (go_at_call 105; refine (HT1.out _ HST.out).mono ?_; rintro x w1 ⟨hb1, rfl, hk1, hK1⟩; have S1 := Aside0.mk (show St g cap w0 W w1 from ⟨hb1, hk1, hK1⟩); clear hk1 hK1 hb1)
        go_roundg (p.decls.length - (i + 1))
        case measure => omega
        case rel => exact ⟨i + 1, by simp, rfl, by omega, fun _ => by trivial, S1.out⟩
    · have hlt' : ¬ ((i : Int) < (p.decls.length : Int)) := by omega
      have hie : i = p.decls.length := by omega
      subst hie
      cases bb with
      | true =>
        go_wp2_with (go_at_call 106; refine (HB.out _ HST.out).mono ?_; rintro x w1 ⟨hb1, u, rfl⟩)
        exact ⟨rfl, Over.dead (H2.out (by trivial)) (HBB.out _ hb1)⟩
      | false =>
        obtain rfl : tot = false := H3.out HS0.out rfl
        go_wp2_with (go_at_call 106; refine (HB.out _ HST.out).mono ?_; rintro x w1 ⟨hb1, rfl, ⟨u, hk1⟩, hK1⟩; have z0 := hk1.cell0; have HB1 := Aside0.mk hb1; clear hb1 hk1 hK1)
        go_ret
        exact ⟨HBB.out _ HB1.out, u, rfl⟩
end Go.Proofs.YtjomofepephodaaGreat.PEquivShapes
namespace Go.Proofs.YtjomofepephodaaGreat.PEquivShapes
open Go.RowKit
open Go.Proofs.YtjomofepephodaaGreatW.PrintWords Go.Proofs.YtjomofepephodaaGreatW.PrintLast Go.Proofs.YtjomofepephodaaGreatW.PrintMore
set_option maxHeartbeats 1000000 in
theorem door_idle (p q : Addr) (w : World) :
    CallsD Tryz.prog 96 #[.pointer (some p), .pointer (some q)] .returning w fun e u' w' => e = .returned (.tuple #[]) ∧ u' = .returning ∧ w' = w := by
  refine callsD_of_wpS Tryz.func96 rfl fun c₀ cs hu => ?_
  apply wpS_seq
  apply wpS_region
  simp [wpOpsS, go_sem, recoverD, hu, Tryz.ntmps96, Exit.thenS]
  refine wpS_of_wp ?_
  go_wp2_with fail
  cases c₀
  simp_all [bodyPostS, results, Tryz.results96]
theorem cell_set {w : World} {b o : Nat} {u : Value} (v : Value) (h : w.cell? ⟨b, o, none⟩ = some u) : (w.setCell ⟨b, o, none⟩ v).cell? ⟨b, o, none⟩ = some v := by
  unfold World.cell? at h
  unfold World.cell? World.setCell
  simp only [Array.getElem?_modify, if_true] at h ⊢
  split at h
  · next c t f hc =>
    have ho : o < c.size := by
      have := (Array.getElem?_eq_some_iff.1 (by simpa using h)).1
      exact this
    simp [hc, ho]
  · cases h
set_option maxHeartbeats 1000000 in
set_option maxRecDepth 100000 in
theorem door_panicking (b4 b5 : Nat) (x v : Int) (y : Bool) (n : Nat) (older : List PanicEntry) (w : World) (h4 : n ≤ b4) (h5 : n ≤ b5) (hne : b4 ≠ b5)
    (hc4 : w.cell? ⟨b4, 0, none⟩ = some (.int .i64 x)) (hz4 : w.frozen? ⟨b4, 0, none⟩ = false) (hc5 : w.cell? ⟨b5, 0, none⟩ = some (.bool y)) (hz5 : w.frozen? ⟨b5, 0, none⟩ = false) :
    CallsD Tryz.prog 96 #[.pointer (some ⟨b4, 0, none⟩), .pointer (some ⟨b5, 0, none⟩)] (.panicking ({ v := .iface 119 (.agg #[.int .i64 v]), recovered := false } :: older)) w fun e u' w' =>
      e = .returned (.tuple #[]) ∧ u' = .panicking ({ v := .iface 119 (.agg #[.int .i64 v]), recovered := true } :: older) ∧ Below n w w' ∧ w'.cell? ⟨b4, 0, none⟩ = some (.int .i64 v) ∧ w'.cell? ⟨b5, 0, none⟩ = some (.bool true) := by
  have hta : ∀ w, (Instr.typeAssert (Value.iface 119 (.agg #[.int .i64 v])) 20 119 true).run Tryz.prog w = .ok (.tuple #[.agg #[.int .i64 v], .bool true]) w := fun w => by kernel_rfl
  refine callsD_of_wpS Tryz.func96 rfl fun c₀ cs hu => ?_
  apply wpS_seq
  apply wpS_region
  simp [wpOpsS, go_sem, recoverD, hu, Tryz.ntmps96, Exit.thenS]
  refine wpS_of_wp ?_
  rw [show (#[Value.pointer (some ⟨b4, 0, none⟩), Value.pointer (some ⟨b5, 0, none⟩)] ++ ((Array.replicate 16 undef).setIfInBounds 3 (Value.iface 119 (Value.agg #[Value.int IntKind.i64 v]))).setIfInBounds 0 (Value.iface 119 (Value.agg #[Value.int IntKind.i64 v]))) =
    #[Value.pointer (some ⟨b4, 0, none⟩), Value.pointer (some ⟨b5, 0, none⟩), Value.iface 119 (Value.agg #[Value.int IntKind.i64 v]), undef, undef, Value.iface 119 (Value.agg #[Value.int IntKind.i64 v]), undef, undef, undef, undef, undef, undef, undef, undef, undef, undef, undef, undef] from rfl]
  have HN := Aside0.mk hne
  have H4 := Aside0.mk h4
  have H5 := Aside0.mk h5
  have HU := Aside0.mk hu
  have h4s := World.block_lt_of_cell? w _ hc4
  have h5s := World.block_lt_of_cell? w _ hc5
  clear hne h4 h5 hu
  go_upto_region 5 with (fail)
  obtain ⟨W1, hW1⟩ : ∃ W1, w.alloc (.cells #[.int .i64 v] 119) = W1 := ⟨_, rfl⟩
  have x0 : W1.cell? ⟨w.heap.size, 0, none⟩ = some (.int .i64 v) := by rw [← hW1]; simp [go_sem]
  have hB := below_alloc (Below.refl w.heap.size w) (.cells #[.int .i64 v] 119)
  have g4 : W1.frozen? ⟨b4, 0, none⟩ = false := by rw [← hW1, frozen?_alloc_cells]; exact hz4
  have g5 : (W1.setCell ⟨b4, 0, none⟩ (.int .i64 v)).frozen? ⟨b5, 0, none⟩ = false := by rw [World.frozen?_setCell, ← hW1, frozen?_alloc_cells]; exact hz5
  rw [hW1] at hB ⊢
  have a4 := kept_cell hB hc4
  have a5 := Keeps.set W1 0 (.int .i64 v) (g := b4) _ _ (show b5 ≠ b4 from HN.out.symm) (kept_cell hB hc5)
  have r5 := cell_set (.bool true) a5
  have r4 := Keeps.set (W1.setCell ⟨b4, 0, none⟩ (.int .i64 v)) 0 (.bool true) (g := b5) _ _ (show b4 ≠ b5 from HN.out) (cell_set (.int .i64 v) a4)
  have hB2 : Below n w ((W1.setCell ⟨b4, 0, none⟩ (.int .i64 v)).setCell ⟨b5, 0, none⟩ (.bool true)) :=
    (Below.trans ⟨hB.os, hB.tape, hB.output, hB.size, fun i hi => hB.block i (by have := H4.out; have : b4 < w.heap.size := h4s; omega)⟩ (((Below.refl n W1).setCell H4.out _).setCell H5.out _))
  have R4 := Aside0.mk r4
  have R5 := Aside0.mk r5
  have HB2 := Aside0.mk hB2
  clear r4 r5 hB2 hB hW1 hc4 hz4 hc5 hz5 h4s h5s hta
  go_wp2_with fail
  exact ⟨rfl, _, rfl, .tuple #[], by simp [results, Tryz.results96, go_sem], rfl, rfl, HB2.out, R4.out, R5.out⟩
end Go.Proofs.YtjomofepephodaaGreat.PEquivShapes
namespace Go.Proofs.YtjomofepephodaaGreat.PEquivShapes
open Go.RowKit
open Go.Proofs.YtjomofepephodaaGreatW.PrintWords Go.Proofs.YtjomofepephodaaGreatW.PrintLast Go.Proofs.YtjomofepephodaaGreatW.PrintMore
set_option maxHeartbeats 4000000 in
set_option maxRecDepth 100000 in
theorem first_any (gw gp : Nat) (p : PR) (A3 : Option Addr) (c3 : Nat) (A4 : Option Addr) (c4 : Nat) (pre bad : TL → Bool) (w : World) (hp : p.At w A3 c3 A4 c4) (hA : Asked w.heap.size w gw gp pre bad) (hpre : ∀ x, x ∈ p.ths → pre x = true) :
    Calls Tryz.prog 84 #[p.cells A3 c3 A4 c4, .func (.func 85) #[] #[.pointer (some ⟨gw, 0, none⟩), .pointer (some ⟨gp, 0, none⟩)]] w fun e w' => (∃ v : Int, e = .returned (.tuple #[.int .i64 v, .bool (p.ths.any bad)])) ∧ Below w.heap.size w w' := by
  have hmf : ∀ (fn : Fn) (first cap : Array Value) (w : World), (Instr.makeFunc fn first cap).run Tryz.prog w = .ok (.func fn first cap) w := fun _ _ _ _ => rfl
  obtain ⟨W, hW⟩ : ∃ W, (((w.alloc (p.row A3 c3 A4 c4)).alloc (.cells #[.func (.func 85) #[] #[.pointer (some ⟨gw, 0, none⟩), .pointer (some ⟨gp, 0, none⟩)]] 111)).alloc (.cells #[.int .i64 0] 3)).alloc (.cells #[.bool false] 4) = W := ⟨_, rfl⟩
  have hB : Below w.heap.size w W := by rw [← hW]; exact below_alloc (below_alloc (below_alloc (below_alloc (Below.refl _ _) _) _) _) _
  have hsz : W.heap.size = w.heap.size + 4 := by rw [← hW]; simp [go_sem]
  have q1 : W.cell? ⟨w.heap.size + 1, 0, none⟩ = some (.func (.func 85) #[] #[.pointer (some ⟨gw, 0, none⟩), .pointer (some ⟨gp, 0, none⟩)]) := by rw [← hW]; simp [go_sem]
  have q2 : W.cell? ⟨w.heap.size + 1 + 1, 0, none⟩ = some (.int .i64 0) := by rw [← hW]; simp [go_sem]
  have q3 : W.cell? ⟨w.heap.size + 1 + 1 + 1, 0, none⟩ = some (.bool false) := by rw [← hW]; simp [go_sem]
  have f2 : W.frozen? ⟨w.heap.size + 1 + 1, 0, none⟩ = false := by rw [← hW]; simp [go_sem]
  have f3 : W.frozen? ⟨w.heap.size + 1 + 1 + 1, 0, none⟩ = false := by rw [← hW]; simp [go_sem]
  have pi : PIn W w.heap.size p A3 c3 A4 c4 := by rw [← hW]; simp [go_sem, PIn, PR.row]
  have hA2 : Asked W.heap.size W gw gp pre bad := fun X t ls n pd ps pe d pl hX => hA X t ls n pd ps pe d pl (below_step hB hX)
  have hSS : Sees W.heap.size W (w.heap.size + 1) pre bad := c98_any W.heap.size W (Nat.le_refl _) pre bad (w.heap.size + 1) gw gp hA2 (by omega) q1
  have HC := all_any (w.heap.size + 1) p A3 c3 A4 c4 pre bad W (At_below hp hB) hSS hpre
  have frz : ∀ {w1 : World} {b : Nat}, Below W.heap.size W w1 → b < W.heap.size → W.frozen? ⟨b, 0, none⟩ = false → w1.frozen? ⟨b, 0, none⟩ = false := fun {w1 b} h hb hf => by
    unfold World.frozen? at hf ⊢
    rw [show w1.heap[b]? = W.heap[b]? from h.block b hb]
    exact hf
  have H2 : Aside0 (∀ w1, Below W.heap.size W w1 → w1.cell? ⟨w.heap.size + 1 + 1, 0, none⟩ = some (.int .i64 0) ∧ w1.frozen? ⟨w.heap.size + 1 + 1, 0, none⟩ = false) := ⟨fun w1 h => ⟨kept_cell h q2, frz h (by omega) f2⟩⟩
  have H3 : Aside0 (∀ w1, Below W.heap.size W w1 → w1.cell? ⟨w.heap.size + 1 + 1 + 1, 0, none⟩ = some (.bool false) ∧ w1.frozen? ⟨w.heap.size + 1 + 1 + 1, 0, none⟩ = false) := ⟨fun w1 h => ⟨kept_cell h q3, frz h (by omega) f3⟩⟩
  have HB := Aside0.mk hB
  have HPI := Aside0.mk pi
  have HCC := Aside0.mk HC
  clear hp hA hpre hA2 hSS HC hB frz q1 q2 q3 f2 f3 pi hsz
  unfold PR.cells at *
  unfold PR.row at hW
  obtain ⟨y0, y1, y2, y3, y4⟩ := HPI.out
  generalize p.ths.any bad = tot at *
  cases tot with
  | false =>
    go_enter_defers Tryz.func84, Tryz.ntmps84
    go_upto_region 2 with (fail)
    try rw [hW]
    clear hW
    go_wp2_with (go_at_call 97; refine HCC.out.mono ?_; rintro e w1 ⟨hb1, v, rfl⟩; have z2 := (H2.out _ hb1).1; have z2f := (H2.out _ hb1).2; have z3 := (H3.out _ hb1).1; have z3f := (H3.out _ hb1).2; have HB1 := Aside0.mk hb1; clear hb1)
    have r5 := cell_set (b := w.heap.size + 1 + 1 + 1) (o := 0) (.bool false) (Keeps.set w1 0 (.int .i64 0) (g := w.heap.size + 1 + 1) ⟨w.heap.size + 1 + 1 + 1, 0, none⟩ _ (by show w.heap.size + 1 + 1 + 1 ≠ w.heap.size + 1 + 1; omega) z3)
    have r4 := Keeps.set (w1.setCell ⟨w.heap.size + 1 + 1, 0, none⟩ (.int .i64 0)) 0 (.bool false) (g := w.heap.size + 1 + 1 + 1) ⟨w.heap.size + 1 + 1, 0, none⟩ _ (by show w.heap.size + 1 + 1 ≠ w.heap.size + 1 + 1 + 1; omega) (cell_set (.int .i64 0) z2)
    have hB2 : Below w.heap.size w ((w1.setCell ⟨w.heap.size + 1 + 1, 0, none⟩ (.int .i64 0)).setCell ⟨w.heap.size + 1 + 1 + 1, 0, none⟩ (.bool false)) := below_set (below_set (below_step HB.out HB1.out) (by omega)) (by omega)
    generalize (w1.setCell ⟨w.heap.size + 1 + 1, 0, none⟩ (.int .i64 0)).setCell ⟨w.heap.size + 1 + 1 + 1, 0, none⟩ (.bool false) = W9 at *
    refine leaves_cons (f := 96) (args := #[.pointer (some ⟨w.heap.size + 1 + 1, 0, none⟩), .pointer (some ⟨w.heap.size + 1 + 1 + 1, 0, none⟩)]) (by simp) (by simp [go_sem]) ?_
    refine (door_idle _ _ _).mono ?_
    rintro e u' w'' ⟨rfl, rfl, rfl⟩
    refine ⟨.tuple #[.int .i64 0, .bool false], ?_, ⟨0, rfl⟩, hB2⟩
    simp [results, Tryz.results84, go_sem, r4, r5]
  | true =>
    go_enter_defers Tryz.func84, Tryz.ntmps84
    go_upto_region 2 with (fail)
    try rw [hW]
    clear hW
    go_wp2_with (go_at_call 97; refine HCC.out.mono ?_; rintro e w1 ⟨hb1, v, rfl⟩)
    obtain ⟨z2, z2f⟩ := H2.out _ hb1
    obtain ⟨z3, z3f⟩ := H3.out _ hb1
    refine leaves_cons (f := 96) (args := #[.pointer (some ⟨w.heap.size + 1 + 1, 0, none⟩), .pointer (some ⟨w.heap.size + 1 + 1 + 1, 0, none⟩)]) (by simp) (by simp [go_sem]) ?_
    refine (door_panicking (w.heap.size + 1 + 1) (w.heap.size + 1 + 1 + 1) 0 v false w.heap.size [] w1 (by omega) (by omega) (by omega) z2 z2f z3 z3f).mono ?_
    rintro e u' w'' ⟨rfl, rfl, hb3, r4, r5⟩
    refine ⟨.tuple #[.int .i64 v, .bool true], ?_, ⟨v, rfl⟩, (below_step HB.out hb1).trans hb3⟩
    simp [results, Tryz.results84, go_sem, r4, r5]
end Go.Proofs.YtjomofepephodaaGreat.PEquivShapes
