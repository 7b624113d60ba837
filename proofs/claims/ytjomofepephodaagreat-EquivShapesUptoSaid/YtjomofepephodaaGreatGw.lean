/-
  The document's violated. Conditions: what each theorem names.
-/
import Derived.Laws.Rows
import Derived.Test.YtjomofepephodaaGreatGv
import Derived.Test.YtjomofepephodaaGreatGi
set_option linter.unusedVariables false
set_option linter.unusedSimpArgs false
namespace Go.Proofs.YtjomofepephodaaGreat.PEquivShapes
open Go.RowKit
open Go.Proofs.YtjomofepephodaaGreatW.PrintWords Go.Proofs.YtjomofepephodaaGreatW.PrintLast Go.Proofs.YtjomofepephodaaGreatW.PrintMore
theorem wpList_load_row_w {P : Program} {ops : Array Oper} {rest : List Oper} {o : Oper} {a : Act} {w : World} {Q : Exit → Act → World → Prop} (ty : TypeId) (x : Operand) (ho : o.op = .load ty x) (hw : Region.wanted o (yielded ops a.tmps) = true)
  (g : Nat) (hx : a.eval x = .pointer (some ⟨g, 0, none⟩)) (t : TypeId) (cs : Array Value) (fr : Nat × Nat) (d : TypeDesc) (hg : w.heap[g]? = some (.cells cs t fr))
  (hu : P.underlying ty = some d) (hd : (match d with | .struct _ | .array _ _ => true | _ => false) = true) (hi : (P.info? ty).map (·.size) = some cs.size)
  (h : wpList P ops Q rest (a.put o.dst (.agg cs)) w) : wpList P ops Q (o :: rest) a w :=
 wpList_step fun K hK => by
  rw [if_pos hw]
  exact wp_load_row ty x ho g hx t cs fr d hg hu hd hi (hK _ _ h)
set_option maxHeartbeats 8000000 in
set_option maxRecDepth 100000 in
theorem viol10 (p : PR) (A3 : Option Addr) (c3 : Nat) (A4 : Option Addr) (c4 : Nat) (t : TV) (LA : Option Addr) (lc : Nat) (ls : List ByteArray) (cs : List Value) (nm : ByteArray) (hs : Bool) (w : World) (hr : TRow t LA ls.length lc cs)
  (hN : ∀ W, Below w.heap.size w W → Calls Tryz.prog 72 #[.agg cs.toArray] W fun e w' => e = .returned (.tuple #[.string nm, .bool hs]) ∧ Below W.heap.size W w') (u : Int) (hu : u = if 64 < t.dp then 152 else 0) :
  Calls Tryz.prog 34 #[p.cells A3 c3 A4 c4, .agg cs.toArray, .int .i64 10] w fun e w' => e = .returned (.int .i64 u) ∧ Below w.heap.size w w' := by
 obtain ⟨d, k1, k2, k3, k4, b1, b2, b3, b4, q1, q2, r, rfl⟩ := hr
 obtain ⟨W2, hW2⟩ : ∃ W2, (w.alloc (.cells #[.string p.name, .int .i64 p.width, .int .i64 p.line, .slice A3 p.decls.length c3, .slice A4 p.body.length c4] 25)).alloc (.cells #[.int .i64 t.is, .int .i64 d, .int .i64 t.sk, .string t.sn, .int .i64 k1, .int .u64 k2, .string k3, .slice k4.1 k4.2.1 k4.2.2, .int .i64 b1, .int .u64 b2, .string b3, .slice b4.1 b4.2.1 b4.2.2, .int .u64 t.lo, .int .u64 t.hi, .slice q1.1 q1.2.1 q1.2.2, .slice q2.1 q2.2.1 q2.2.2, .int .i64 t.ek, .int .u64 t.en, .string t.es, .slice r.1 r.2.1 r.2.2, .int .i64 t.dp, .slice LA ls.length lc] 79) = W2 := ⟨_, rfl⟩
 have HK : Aside0 (∀ w' : World, Below W2.heap.size W2 w' → w'.heap[w.heap.size + 1]? = some (.cells #[.int .i64 t.is, .int .i64 d, .int .i64 t.sk, .string t.sn, .int .i64 k1, .int .u64 k2, .string k3, .slice k4.1 k4.2.1 k4.2.2, .int .i64 b1, .int .u64 b2, .string b3, .slice b4.1 b4.2.1 b4.2.2, .int .u64 t.lo, .int .u64 t.hi, .slice q1.1 q1.2.1 q1.2.2, .slice q2.1 q2.2.1 q2.2.2, .int .i64 t.ek, .int .u64 t.en, .string t.es, .slice r.1 r.2.1 r.2.2, .int .i64 t.dp, .slice LA ls.length lc] 79 (0, 0)) ∧ w'.heap[w.heap.size]? = some (.cells #[.string p.name, .int .i64 p.width, .int .i64 p.line, .slice A3 p.decls.length c3, .slice A4 p.body.length c4] 25 (0, 0))) := ⟨fun w' h => by
  subst hW2
  exact ⟨(h.block _ (by simp [go_sem])).trans (two_a _ _ _), (h.block _ (by simp [go_sem])).trans (two_b _ _ _)⟩⟩
 have B : Below w.heap.size w W2 := by rw [← hW2]; exact below_alloc (below_alloc (Below.refl _ _) _) _
 have BB := Aside0.mk B
 have HN := Aside0.mk hN
 have HR2 := Aside0.mk (HK.out _ (Below.refl _ _)).1
 have HS79 : Aside0 ((Tryz.prog.info? 79).map (fun x => x.size) = some 22) := ⟨by kernel_rfl⟩
 have hu79 := Tryz.underlying79
 have HU := Aside0.mk hu
 clear hN hu
 unfold PR.cells
 go_enter Tryz.func34, Tryz.ntmps34
 go_upto_region 1 with (fail)
 try rw [hW2]
 clear hW2 B
 go_upto_region 2 with (first | (refine wpList_load_row rfl 79 (.tmp 4) rfl (w.heap.size + 1) rfl 79 #[.int .i64 t.is, .int .i64 d, .int .i64 t.sk, .string t.sn, .int .i64 k1, .int .u64 k2, .string k3, .slice k4.1 k4.2.1 k4.2.2, .int .i64 b1, .int .u64 b2, .string b3, .slice b4.1 b4.2.1 b4.2.2, .int .u64 t.lo, .int .u64 t.hi, .slice q1.1 q1.2.1 q1.2.2, .slice q2.1 q2.2.1 q2.2.2, .int .i64 t.ek, .int .u64 t.en, .string t.es, .slice r.1 r.2.1 r.2.2, .int .i64 t.dp, .slice LA ls.length lc] (0, 0) _ HR2.out Tryz.underlying79 rfl HS79.out ?_) | (go_at_call 72; refine (HN.out _ BB.out).mono ?_; rintro e w1 ⟨rfl, hb⟩; obtain ⟨hr79, hr25⟩ := HK.out _ hb; have z0 : w1.cell? ⟨w.heap.size + 1, 0, none⟩ = some (.int .i64 t.is) := (cellsOf hr79 0).trans rfl; have z2 : w1.cell? ⟨w.heap.size + 1, 2, none⟩ = some (.int .i64 t.sk) := (cellsOf hr79 2).trans rfl; have z3 : w1.cell? ⟨w.heap.size + 1, 3, none⟩ = some (.string t.sn) := (cellsOf hr79 3).trans rfl; have z12 : w1.cell? ⟨w.heap.size + 1, 12, none⟩ = some (.int .u64 t.lo) := (cellsOf hr79 12).trans rfl; have z13 : w1.cell? ⟨w.heap.size + 1, 13, none⟩ = some (.int .u64 t.hi) := (cellsOf hr79 13).trans rfl; have z16 : w1.cell? ⟨w.heap.size + 1, 16, none⟩ = some (.int .i64 t.ek) := (cellsOf hr79 16).trans rfl; have z17 : w1.cell? ⟨w.heap.size + 1, 17, none⟩ = some (.int .u64 t.en) := (cellsOf hr79 17).trans rfl; have z20 : w1.cell? ⟨w.heap.size + 1, 20, none⟩ = some (.int .i64 t.dp) := (cellsOf hr79 20).trans rfl; have z21 : w1.cell? ⟨w.heap.size + 1, 21, none⟩ = some (.slice LA ls.length lc) := (cellsOf hr79 21).trans rfl; have y0 : w1.cell? ⟨w.heap.size, 0, none⟩ = some (.string p.name) := (cellsOf hr25 0).trans rfl; have y1 : w1.cell? ⟨w.heap.size, 1, none⟩ = some (.int .i64 p.width) := (cellsOf hr25 1).trans rfl; have y2 : w1.cell? ⟨w.heap.size, 2, none⟩ = some (.int .i64 p.line) := (cellsOf hr25 2).trans rfl; have y3 : w1.cell? ⟨w.heap.size, 3, none⟩ = some (.slice A3 p.decls.length c3) := (cellsOf hr25 3).trans rfl; have y4 : w1.cell? ⟨w.heap.size, 4, none⟩ = some (.slice A4 p.body.length c4) := (cellsOf hr25 4).trans rfl; have HR3 := Aside0.mk hr79; have B1 := Aside0.mk (below_step BB.out hb); have B0 := Aside0.mk hb; clear hb hr79 hr25))
 go_cut [9] from 15 to 139 (fun v9 wx => v9 = .bool (t.is == 1 && t.sk == 4) ∧ wx = w1)
 case first =>
  cases e1 : (t.is == 1) with
  | false =>
   go_wp2_with fail
   go_meet
   exact ⟨by rw [e1]; rfl, rfl⟩
  | true =>
   go_wp2_with fail
   go_meet
   exact ⟨by rw [e1]; rfl, rfl⟩
 case rest =>
  obtain ⟨rfl, rfl⟩ := hcut
  generalize (t.is == 1 && t.sk == 4) = lp at *
  by_cases h : 64 < t.dp
  ·have HE : Aside0 (u = 152) := ⟨by rw [HU.out, if_pos h]⟩
   clear HU
   go_wp2_with (first
           | fail)
   all_goals (go_ret; exact ⟨by rw [HE.out]; rfl, by first | exact B3.out | exact B2.out | exact B1.out⟩)
  ·have HE : Aside0 (u = 0) := ⟨by rw [HU.out, if_neg h]⟩
   clear HU
   go_wp2_with (first
           | fail)
   all_goals (go_ret; exact ⟨by rw [HE.out]; rfl, by first | exact B3.out | exact B2.out | exact B1.out⟩)
set_option maxHeartbeats 8000000 in
set_option maxRecDepth 100000 in
theorem viol11 (p : PR) (A3 : Option Addr) (c3 : Nat) (A4 : Option Addr) (c4 : Nat) (t : TV) (LA : Option Addr) (lc : Nat) (ls : List ByteArray) (cs : List Value) (nm : ByteArray) (hs : Bool) (w : World) (hr : TRow t LA ls.length lc cs)
  (hN : ∀ W, Below w.heap.size w W → Calls Tryz.prog 72 #[.agg cs.toArray] W fun e w' => e = .returned (.tuple #[.string nm, .bool hs]) ∧ Below W.heap.size W w') (hl : LsAt w LA lc ls) (hn : ls.length ≤ 4194304) (hp : p.At w A3 c3 A4 c4) (hb : p.decls.length ≤ 1048576) (u : Int) (hu : u = if (hs && !hasB ls nm && (findI p.decls nm).isNone) = true then 161 else 0) :
  Calls Tryz.prog 34 #[p.cells A3 c3 A4 c4, .agg cs.toArray, .int .i64 11] w fun e w' => e = .returned (.int .i64 u) ∧ Below w.heap.size w w' := by
 obtain ⟨d, k1, k2, k3, k4, b1, b2, b3, b4, q1, q2, r, rfl⟩ := hr
 obtain ⟨W2, hW2⟩ : ∃ W2, (w.alloc (.cells #[.string p.name, .int .i64 p.width, .int .i64 p.line, .slice A3 p.decls.length c3, .slice A4 p.body.length c4] 25)).alloc (.cells #[.int .i64 t.is, .int .i64 d, .int .i64 t.sk, .string t.sn, .int .i64 k1, .int .u64 k2, .string k3, .slice k4.1 k4.2.1 k4.2.2, .int .i64 b1, .int .u64 b2, .string b3, .slice b4.1 b4.2.1 b4.2.2, .int .u64 t.lo, .int .u64 t.hi, .slice q1.1 q1.2.1 q1.2.2, .slice q2.1 q2.2.1 q2.2.2, .int .i64 t.ek, .int .u64 t.en, .string t.es, .slice r.1 r.2.1 r.2.2, .int .i64 t.dp, .slice LA ls.length lc] 79) = W2 := ⟨_, rfl⟩
 have HK : Aside0 (∀ w' : World, Below W2.heap.size W2 w' → w'.heap[w.heap.size + 1]? = some (.cells #[.int .i64 t.is, .int .i64 d, .int .i64 t.sk, .string t.sn, .int .i64 k1, .int .u64 k2, .string k3, .slice k4.1 k4.2.1 k4.2.2, .int .i64 b1, .int .u64 b2, .string b3, .slice b4.1 b4.2.1 b4.2.2, .int .u64 t.lo, .int .u64 t.hi, .slice q1.1 q1.2.1 q1.2.2, .slice q2.1 q2.2.1 q2.2.2, .int .i64 t.ek, .int .u64 t.en, .string t.es, .slice r.1 r.2.1 r.2.2, .int .i64 t.dp, .slice LA ls.length lc] 79 (0, 0)) ∧ w'.heap[w.heap.size]? = some (.cells #[.string p.name, .int .i64 p.width, .int .i64 p.line, .slice A3 p.decls.length c3, .slice A4 p.body.length c4] 25 (0, 0))) := ⟨fun w' h => by
  subst hW2
  exact ⟨(h.block _ (by simp [go_sem])).trans (two_a _ _ _), (h.block _ (by simp [go_sem])).trans (two_b _ _ _)⟩⟩
 have B : Below w.heap.size w W2 := by rw [← hW2]; exact below_alloc (below_alloc (Below.refl _ _) _) _
 have BB := Aside0.mk B
 have HN := Aside0.mk hN
 have HR2 := Aside0.mk (HK.out _ (Below.refl _ _)).1
 have HS79 : Aside0 ((Tryz.prog.info? 79).map (fun x => x.size) = some 22) := ⟨by kernel_rfl⟩
 have hu79 := Tryz.underlying79
 have HU := Aside0.mk hu
 clear hN hu
 have HI : Aside0 (∀ W, Below W2.heap.size W2 W → Calls Tryz.prog 73 #[.slice LA ls.length lc, .string nm] W fun e w' => e = .returned (.bool (hasB ls nm)) ∧ w' = W) := ⟨fun W hW => rin_any LA lc ls nm W (hl.grows (base := 0) (Grows.below (below_step BB.out hW))) hn⟩
 have HD : Aside0 (∀ W, Below w.heap.size w W → Calls Tryz.prog 68 #[.agg #[.string p.name, .int .i64 p.width, .int .i64 p.line, .slice A3 p.decls.length c3, .slice A4 p.body.length c4], .string nm] W fun e w' => e = .returned (.int .i64 (match findI p.decls nm with | some j => (j : Int) | none => -1)) ∧ Below W.heap.size W w') := ⟨fun W hW => rdecl_any p A3 c3 A4 c4 nm W (At_below hp hW) hb⟩
 clear hl hn hp hb
 unfold PR.cells
 go_enter Tryz.func34, Tryz.ntmps34
 go_upto_region 1 with (fail)
 try rw [hW2]
 clear hW2 B
 go_upto_region 2 with (first | (refine wpList_load_row rfl 79 (.tmp 4) rfl (w.heap.size + 1) rfl 79 #[.int .i64 t.is, .int .i64 d, .int .i64 t.sk, .string t.sn, .int .i64 k1, .int .u64 k2, .string k3, .slice k4.1 k4.2.1 k4.2.2, .int .i64 b1, .int .u64 b2, .string b3, .slice b4.1 b4.2.1 b4.2.2, .int .u64 t.lo, .int .u64 t.hi, .slice q1.1 q1.2.1 q1.2.2, .slice q2.1 q2.2.1 q2.2.2, .int .i64 t.ek, .int .u64 t.en, .string t.es, .slice r.1 r.2.1 r.2.2, .int .i64 t.dp, .slice LA ls.length lc] (0, 0) _ HR2.out Tryz.underlying79 rfl HS79.out ?_) | (go_at_call 72; refine (HN.out _ BB.out).mono ?_; rintro e w1 ⟨rfl, hb⟩; obtain ⟨hr79, hr25⟩ := HK.out _ hb; have z0 : w1.cell? ⟨w.heap.size + 1, 0, none⟩ = some (.int .i64 t.is) := (cellsOf hr79 0).trans rfl; have z2 : w1.cell? ⟨w.heap.size + 1, 2, none⟩ = some (.int .i64 t.sk) := (cellsOf hr79 2).trans rfl; have z3 : w1.cell? ⟨w.heap.size + 1, 3, none⟩ = some (.string t.sn) := (cellsOf hr79 3).trans rfl; have z12 : w1.cell? ⟨w.heap.size + 1, 12, none⟩ = some (.int .u64 t.lo) := (cellsOf hr79 12).trans rfl; have z13 : w1.cell? ⟨w.heap.size + 1, 13, none⟩ = some (.int .u64 t.hi) := (cellsOf hr79 13).trans rfl; have z16 : w1.cell? ⟨w.heap.size + 1, 16, none⟩ = some (.int .i64 t.ek) := (cellsOf hr79 16).trans rfl; have z17 : w1.cell? ⟨w.heap.size + 1, 17, none⟩ = some (.int .u64 t.en) := (cellsOf hr79 17).trans rfl; have z20 : w1.cell? ⟨w.heap.size + 1, 20, none⟩ = some (.int .i64 t.dp) := (cellsOf hr79 20).trans rfl; have z21 : w1.cell? ⟨w.heap.size + 1, 21, none⟩ = some (.slice LA ls.length lc) := (cellsOf hr79 21).trans rfl; have y0 : w1.cell? ⟨w.heap.size, 0, none⟩ = some (.string p.name) := (cellsOf hr25 0).trans rfl; have y1 : w1.cell? ⟨w.heap.size, 1, none⟩ = some (.int .i64 p.width) := (cellsOf hr25 1).trans rfl; have y2 : w1.cell? ⟨w.heap.size, 2, none⟩ = some (.int .i64 p.line) := (cellsOf hr25 2).trans rfl; have y3 : w1.cell? ⟨w.heap.size, 3, none⟩ = some (.slice A3 p.decls.length c3) := (cellsOf hr25 3).trans rfl; have y4 : w1.cell? ⟨w.heap.size, 4, none⟩ = some (.slice A4 p.body.length c4) := (cellsOf hr25 4).trans rfl; have HR3 := Aside0.mk hr79; have B1 := Aside0.mk (below_step BB.out hb); have B0 := Aside0.mk hb; clear hb hr79 hr25))
 go_cut [9] from 15 to 139 (fun v9 wx => v9 = .bool (t.is == 1 && t.sk == 4) ∧ wx = w1)
 case first =>
  cases e1 : (t.is == 1) with
  | false =>
   go_wp2_with fail
   go_meet
   exact ⟨by rw [e1]; rfl, rfl⟩
  | true =>
   go_wp2_with fail
   go_meet
   exact ⟨by rw [e1]; rfl, rfl⟩
 case rest =>
  obtain ⟨rfl, rfl⟩ := hcut
  generalize (t.is == 1 && t.sk == 4) = lp at *
  cases hs with
  | false =>
   have HE : Aside0 (u = 0) := ⟨by rw [HU.out]; simp⟩
   clear HU
   go_wp2_with (first
           | fail
           | (go_at_call 73; refine (HI.out _ B0.out).mono ?_; rintro e w3 ⟨rfl, rfl⟩)
           | (go_at_call 68; refine (HD.out _ B1.out).mono ?_; rintro e w2 ⟨rfl, hb⟩; have B2 := Aside0.mk (below_step B1.out hb); clear hb))
   all_goals (go_ret; exact ⟨by rw [HE.out]; rfl, by first | exact B3.out | exact B2.out | exact B1.out⟩)
  | true =>
   generalize hasB ls nm = hb1 at *
   cases hb1 with
   | true =>
    have HE : Aside0 (u = 0) := ⟨by rw [HU.out]; simp⟩
    clear HU
    go_wp2_with (first
           | fail
           | (go_at_call 73; refine (HI.out _ B0.out).mono ?_; rintro e w3 ⟨rfl, rfl⟩)
           | (go_at_call 68; refine (HD.out _ B1.out).mono ?_; rintro e w2 ⟨rfl, hb⟩; have B2 := Aside0.mk (below_step B1.out hb); clear hb))
    all_goals (go_ret; exact ⟨by rw [HE.out]; rfl, by first | exact B3.out | exact B2.out | exact B1.out⟩)
   | false =>
    cases hf : findI p.decls nm with
    | some j =>
     rw [hf] at HD HU
     have hj : ¬ ((j : Int) < 0) := by omega
     dsimp only at HD
     have HE : Aside0 (u = 0) := ⟨by rw [HU.out]; simp⟩
     clear HU
     go_wp2_with (first
           | fail
           | (go_at_call 73; refine (HI.out _ B0.out).mono ?_; rintro e w3 ⟨rfl, rfl⟩)
           | (go_at_call 68; refine (HD.out _ B1.out).mono ?_; rintro e w2 ⟨rfl, hb⟩; have B2 := Aside0.mk (below_step B1.out hb); clear hb))
     all_goals (go_ret; exact ⟨by rw [HE.out]; rfl, by first | exact B3.out | exact B2.out | exact B1.out⟩)
    | none =>
     rw [hf] at HD HU
     dsimp only at HD
     have HE : Aside0 (u = 161) := ⟨by rw [HU.out]; simp⟩
     clear HU
     go_wp2_with (first
           | fail
           | (go_at_call 73; refine (HI.out _ B0.out).mono ?_; rintro e w3 ⟨rfl, rfl⟩)
           | (go_at_call 68; refine (HD.out _ B1.out).mono ?_; rintro e w2 ⟨rfl, hb⟩; have B2 := Aside0.mk (below_step B1.out hb); clear hb))
     all_goals (go_ret; exact ⟨by rw [HE.out]; rfl, by first | exact B3.out | exact B2.out | exact B1.out⟩)
set_option maxHeartbeats 8000000 in
set_option maxRecDepth 100000 in
theorem viol12 (p : PR) (A3 : Option Addr) (c3 : Nat) (A4 : Option Addr) (c4 : Nat) (t : TV) (LA : Option Addr) (lc : Nat) (ls : List ByteArray) (cs : List Value) (nm : ByteArray) (hs : Bool) (w : World) (hr : TRow t LA ls.length lc cs)
  (hN : ∀ W, Below w.heap.size w W → Calls Tryz.prog 72 #[.agg cs.toArray] W fun e w' => e = .returned (.tuple #[.string nm, .bool hs]) ∧ Below W.heap.size W w') (kb : Bool) (hk : hs = true → ∀ W, Below w.heap.size w W → Calls Tryz.prog 74 #[p.cells A3 c3 A4 c4, .agg cs.toArray, .string nm] W fun e w' => e = .returned (.bool kb) ∧ Below W.heap.size W w') (u : Int) (hu : u = if (hs && !kb) = true then 162 else 0) :
  Calls Tryz.prog 34 #[p.cells A3 c3 A4 c4, .agg cs.toArray, .int .i64 12] w fun e w' => e = .returned (.int .i64 u) ∧ Below w.heap.size w w' := by
 obtain ⟨d, k1, k2, k3, k4, b1, b2, b3, b4, q1, q2, r, rfl⟩ := hr
 obtain ⟨W2, hW2⟩ : ∃ W2, (w.alloc (.cells #[.string p.name, .int .i64 p.width, .int .i64 p.line, .slice A3 p.decls.length c3, .slice A4 p.body.length c4] 25)).alloc (.cells #[.int .i64 t.is, .int .i64 d, .int .i64 t.sk, .string t.sn, .int .i64 k1, .int .u64 k2, .string k3, .slice k4.1 k4.2.1 k4.2.2, .int .i64 b1, .int .u64 b2, .string b3, .slice b4.1 b4.2.1 b4.2.2, .int .u64 t.lo, .int .u64 t.hi, .slice q1.1 q1.2.1 q1.2.2, .slice q2.1 q2.2.1 q2.2.2, .int .i64 t.ek, .int .u64 t.en, .string t.es, .slice r.1 r.2.1 r.2.2, .int .i64 t.dp, .slice LA ls.length lc] 79) = W2 := ⟨_, rfl⟩
 have HK : Aside0 (∀ w' : World, Below W2.heap.size W2 w' → w'.heap[w.heap.size + 1]? = some (.cells #[.int .i64 t.is, .int .i64 d, .int .i64 t.sk, .string t.sn, .int .i64 k1, .int .u64 k2, .string k3, .slice k4.1 k4.2.1 k4.2.2, .int .i64 b1, .int .u64 b2, .string b3, .slice b4.1 b4.2.1 b4.2.2, .int .u64 t.lo, .int .u64 t.hi, .slice q1.1 q1.2.1 q1.2.2, .slice q2.1 q2.2.1 q2.2.2, .int .i64 t.ek, .int .u64 t.en, .string t.es, .slice r.1 r.2.1 r.2.2, .int .i64 t.dp, .slice LA ls.length lc] 79 (0, 0)) ∧ w'.heap[w.heap.size]? = some (.cells #[.string p.name, .int .i64 p.width, .int .i64 p.line, .slice A3 p.decls.length c3, .slice A4 p.body.length c4] 25 (0, 0))) := ⟨fun w' h => by
  subst hW2
  exact ⟨(h.block _ (by simp [go_sem])).trans (two_a _ _ _), (h.block _ (by simp [go_sem])).trans (two_b _ _ _)⟩⟩
 have B : Below w.heap.size w W2 := by rw [← hW2]; exact below_alloc (below_alloc (Below.refl _ _) _) _
 have BB := Aside0.mk B
 have HN := Aside0.mk hN
 have HR2 := Aside0.mk (HK.out _ (Below.refl _ _)).1
 have HS79 : Aside0 ((Tryz.prog.info? 79).map (fun x => x.size) = some 22) := ⟨by kernel_rfl⟩
 have hu79 := Tryz.underlying79
 have HU := Aside0.mk hu
 clear hN hu
 have HK0 := Aside0.mk hk
 clear hk
 unfold PR.cells
 go_enter Tryz.func34, Tryz.ntmps34
 go_upto_region 1 with (fail)
 try rw [hW2]
 clear hW2 B
 go_upto_region 2 with (first | (refine wpList_load_row rfl 79 (.tmp 4) rfl (w.heap.size + 1) rfl 79 #[.int .i64 t.is, .int .i64 d, .int .i64 t.sk, .string t.sn, .int .i64 k1, .int .u64 k2, .string k3, .slice k4.1 k4.2.1 k4.2.2, .int .i64 b1, .int .u64 b2, .string b3, .slice b4.1 b4.2.1 b4.2.2, .int .u64 t.lo, .int .u64 t.hi, .slice q1.1 q1.2.1 q1.2.2, .slice q2.1 q2.2.1 q2.2.2, .int .i64 t.ek, .int .u64 t.en, .string t.es, .slice r.1 r.2.1 r.2.2, .int .i64 t.dp, .slice LA ls.length lc] (0, 0) _ HR2.out Tryz.underlying79 rfl HS79.out ?_) | (go_at_call 72; refine (HN.out _ BB.out).mono ?_; rintro e w1 ⟨rfl, hb⟩; obtain ⟨hr79, hr25⟩ := HK.out _ hb; have z0 : w1.cell? ⟨w.heap.size + 1, 0, none⟩ = some (.int .i64 t.is) := (cellsOf hr79 0).trans rfl; have z2 : w1.cell? ⟨w.heap.size + 1, 2, none⟩ = some (.int .i64 t.sk) := (cellsOf hr79 2).trans rfl; have z3 : w1.cell? ⟨w.heap.size + 1, 3, none⟩ = some (.string t.sn) := (cellsOf hr79 3).trans rfl; have z12 : w1.cell? ⟨w.heap.size + 1, 12, none⟩ = some (.int .u64 t.lo) := (cellsOf hr79 12).trans rfl; have z13 : w1.cell? ⟨w.heap.size + 1, 13, none⟩ = some (.int .u64 t.hi) := (cellsOf hr79 13).trans rfl; have z16 : w1.cell? ⟨w.heap.size + 1, 16, none⟩ = some (.int .i64 t.ek) := (cellsOf hr79 16).trans rfl; have z17 : w1.cell? ⟨w.heap.size + 1, 17, none⟩ = some (.int .u64 t.en) := (cellsOf hr79 17).trans rfl; have z20 : w1.cell? ⟨w.heap.size + 1, 20, none⟩ = some (.int .i64 t.dp) := (cellsOf hr79 20).trans rfl; have z21 : w1.cell? ⟨w.heap.size + 1, 21, none⟩ = some (.slice LA ls.length lc) := (cellsOf hr79 21).trans rfl; have y0 : w1.cell? ⟨w.heap.size, 0, none⟩ = some (.string p.name) := (cellsOf hr25 0).trans rfl; have y1 : w1.cell? ⟨w.heap.size, 1, none⟩ = some (.int .i64 p.width) := (cellsOf hr25 1).trans rfl; have y2 : w1.cell? ⟨w.heap.size, 2, none⟩ = some (.int .i64 p.line) := (cellsOf hr25 2).trans rfl; have y3 : w1.cell? ⟨w.heap.size, 3, none⟩ = some (.slice A3 p.decls.length c3) := (cellsOf hr25 3).trans rfl; have y4 : w1.cell? ⟨w.heap.size, 4, none⟩ = some (.slice A4 p.body.length c4) := (cellsOf hr25 4).trans rfl; have HR3 := Aside0.mk hr79; have B1 := Aside0.mk (below_step BB.out hb); have B0 := Aside0.mk hb; clear hb hr79 hr25))
 go_cut [9] from 15 to 139 (fun v9 wx => v9 = .bool (t.is == 1 && t.sk == 4) ∧ wx = w1)
 case first =>
  cases e1 : (t.is == 1) with
  | false =>
   go_wp2_with fail
   go_meet
   exact ⟨by rw [e1]; rfl, rfl⟩
  | true =>
   go_wp2_with fail
   go_meet
   exact ⟨by rw [e1]; rfl, rfl⟩
 case rest =>
  obtain ⟨rfl, rfl⟩ := hcut
  generalize (t.is == 1 && t.sk == 4) = lp at *
  cases hs with
  | false =>
   have HE : Aside0 (u = 0) := ⟨by rw [HU.out]; simp⟩
   clear HU
   go_wp2_with (first
           | fail)
   all_goals (go_ret; exact ⟨by rw [HE.out]; rfl, by first | exact B3.out | exact B2.out | exact B1.out⟩)
  | true =>
   have HKd : Aside0 (∀ W, Below w.heap.size w W → Calls Tryz.prog 74 #[.agg #[.string p.name, .int .i64 p.width, .int .i64 p.line, .slice A3 p.decls.length c3, .slice A4 p.body.length c4], .agg #[.int .i64 t.is, .int .i64 d, .int .i64 t.sk, .string t.sn, .int .i64 k1, .int .u64 k2, .string k3, .slice k4.1 k4.2.1 k4.2.2, .int .i64 b1, .int .u64 b2, .string b3, .slice b4.1 b4.2.1 b4.2.2, .int .u64 t.lo, .int .u64 t.hi, .slice q1.1 q1.2.1 q1.2.2, .slice q2.1 q2.2.1 q2.2.2, .int .i64 t.ek, .int .u64 t.en, .string t.es, .slice r.1 r.2.1 r.2.2, .int .i64 t.dp, .slice LA ls.length lc], .string nm] W fun e w' => e = .returned (.bool kb) ∧ Below W.heap.size W w') := ⟨HK0.out rfl⟩
   clear HK0
   cases kb with
   | true =>
    have HE : Aside0 (u = 0) := ⟨by rw [HU.out]; simp⟩
    clear HU
    go_upto_region 8 with (first
           | ((with_reducible refine (show wpList _ _ _ (⟨_, .load 79 (.tmp 4), _, _, _, _⟩ :: _) _ _ from ?_)); (refine wpList_load_row_w 79 (.tmp 4) rfl rfl (w.heap.size + 1) rfl 79 #[.int .i64 t.is, .int .i64 d, .int .i64 t.sk, .string t.sn, .int .i64 k1, .int .u64 k2, .string k3, .slice k4.1 k4.2.1 k4.2.2, .int .i64 b1, .int .u64 b2, .string b3, .slice b4.1 b4.2.1 b4.2.2, .int .u64 t.lo, .int .u64 t.hi, .slice q1.1 q1.2.1 q1.2.2, .slice q2.1 q2.2.1 q2.2.2, .int .i64 t.ek, .int .u64 t.en, .string t.es, .slice r.1 r.2.1 r.2.2, .int .i64 t.dp, .slice LA ls.length lc] (0, 0) _ HR3.out Tryz.underlying79 rfl HS79.out ?_)))
    refine (HKd.out _ B1.out).mono ?_
    rintro e w2 ⟨rfl, hb⟩
    have B2 := Aside0.mk (below_step B1.out hb)
    clear hb
    go_wp2_with fail
    go_ret
    exact ⟨by rw [HE.out]; rfl, B2.out⟩
   | false =>
    have HE : Aside0 (u = 162) := ⟨by rw [HU.out]; simp⟩
    clear HU
    go_upto_region 8 with (first
           | ((with_reducible refine (show wpList _ _ _ (⟨_, .load 79 (.tmp 4), _, _, _, _⟩ :: _) _ _ from ?_)); (refine wpList_load_row_w 79 (.tmp 4) rfl rfl (w.heap.size + 1) rfl 79 #[.int .i64 t.is, .int .i64 d, .int .i64 t.sk, .string t.sn, .int .i64 k1, .int .u64 k2, .string k3, .slice k4.1 k4.2.1 k4.2.2, .int .i64 b1, .int .u64 b2, .string b3, .slice b4.1 b4.2.1 b4.2.2, .int .u64 t.lo, .int .u64 t.hi, .slice q1.1 q1.2.1 q1.2.2, .slice q2.1 q2.2.1 q2.2.2, .int .i64 t.ek, .int .u64 t.en, .string t.es, .slice r.1 r.2.1 r.2.2, .int .i64 t.dp, .slice LA ls.length lc] (0, 0) _ HR3.out Tryz.underlying79 rfl HS79.out ?_)))
    refine (HKd.out _ B1.out).mono ?_
    rintro e w2 ⟨rfl, hb⟩
    have B2 := Aside0.mk (below_step B1.out hb)
    clear hb
    go_wp2_with fail
    go_ret
    exact ⟨by rw [HE.out]; rfl, B2.out⟩
set_option maxHeartbeats 8000000 in
set_option maxRecDepth 100000 in
theorem viol13 (p : PR) (A3 : Option Addr) (c3 : Nat) (A4 : Option Addr) (c4 : Nat) (t : TV) (LA : Option Addr) (lc : Nat) (ls : List ByteArray) (cs : List Value) (nm : ByteArray) (hs : Bool) (w : World) (hr : TRow t LA ls.length lc cs)
  (hN : ∀ W, Below w.heap.size w W → Calls Tryz.prog 72 #[.agg cs.toArray] W fun e w' => e = .returned (.tuple #[.string nm, .bool hs]) ∧ Below W.heap.size W w') (hw0 : 0 ≤ p.width) (hu6 : U64 t.en) (u : Int) (hu : u = if (t.is == 2 && t.ek == 1 && !fitB p.width t.en) = true then 165 else 0) :
  Calls Tryz.prog 34 #[p.cells A3 c3 A4 c4, .agg cs.toArray, .int .i64 13] w fun e w' => e = .returned (.int .i64 u) ∧ Below w.heap.size w w' := by
 obtain ⟨d, k1, k2, k3, k4, b1, b2, b3, b4, q1, q2, r, rfl⟩ := hr
 obtain ⟨W2, hW2⟩ : ∃ W2, (w.alloc (.cells #[.string p.name, .int .i64 p.width, .int .i64 p.line, .slice A3 p.decls.length c3, .slice A4 p.body.length c4] 25)).alloc (.cells #[.int .i64 t.is, .int .i64 d, .int .i64 t.sk, .string t.sn, .int .i64 k1, .int .u64 k2, .string k3, .slice k4.1 k4.2.1 k4.2.2, .int .i64 b1, .int .u64 b2, .string b3, .slice b4.1 b4.2.1 b4.2.2, .int .u64 t.lo, .int .u64 t.hi, .slice q1.1 q1.2.1 q1.2.2, .slice q2.1 q2.2.1 q2.2.2, .int .i64 t.ek, .int .u64 t.en, .string t.es, .slice r.1 r.2.1 r.2.2, .int .i64 t.dp, .slice LA ls.length lc] 79) = W2 := ⟨_, rfl⟩
 have HK : Aside0 (∀ w' : World, Below W2.heap.size W2 w' → w'.heap[w.heap.size + 1]? = some (.cells #[.int .i64 t.is, .int .i64 d, .int .i64 t.sk, .string t.sn, .int .i64 k1, .int .u64 k2, .string k3, .slice k4.1 k4.2.1 k4.2.2, .int .i64 b1, .int .u64 b2, .string b3, .slice b4.1 b4.2.1 b4.2.2, .int .u64 t.lo, .int .u64 t.hi, .slice q1.1 q1.2.1 q1.2.2, .slice q2.1 q2.2.1 q2.2.2, .int .i64 t.ek, .int .u64 t.en, .string t.es, .slice r.1 r.2.1 r.2.2, .int .i64 t.dp, .slice LA ls.length lc] 79 (0, 0)) ∧ w'.heap[w.heap.size]? = some (.cells #[.string p.name, .int .i64 p.width, .int .i64 p.line, .slice A3 p.decls.length c3, .slice A4 p.body.length c4] 25 (0, 0))) := ⟨fun w' h => by
  subst hW2
  exact ⟨(h.block _ (by simp [go_sem])).trans (two_a _ _ _), (h.block _ (by simp [go_sem])).trans (two_b _ _ _)⟩⟩
 have B : Below w.heap.size w W2 := by rw [← hW2]; exact below_alloc (below_alloc (Below.refl _ _) _) _
 have BB := Aside0.mk B
 have HN := Aside0.mk hN
 have HR2 := Aside0.mk (HK.out _ (Below.refl _ _)).1
 have HS79 : Aside0 ((Tryz.prog.info? 79).map (fun x => x.size) = some 22) := ⟨by kernel_rfl⟩
 have hu79 := Tryz.underlying79
 have HU := Aside0.mk hu
 clear hN hu
 have HFt : Aside0 (∀ W, Calls Tryz.prog 69 #[.int .i64 p.width, .int .u64 t.en] W fun e w' => e = .returned (.bool (fitB p.width t.en)) ∧ Drawn0 W w') := ⟨fun W => rfits_any p.width t.en hw0 hu6 W⟩
 clear hw0 hu6
 unfold PR.cells
 go_enter Tryz.func34, Tryz.ntmps34
 go_upto_region 1 with (fail)
 try rw [hW2]
 clear hW2 B
 go_upto_region 2 with (first | (refine wpList_load_row rfl 79 (.tmp 4) rfl (w.heap.size + 1) rfl 79 #[.int .i64 t.is, .int .i64 d, .int .i64 t.sk, .string t.sn, .int .i64 k1, .int .u64 k2, .string k3, .slice k4.1 k4.2.1 k4.2.2, .int .i64 b1, .int .u64 b2, .string b3, .slice b4.1 b4.2.1 b4.2.2, .int .u64 t.lo, .int .u64 t.hi, .slice q1.1 q1.2.1 q1.2.2, .slice q2.1 q2.2.1 q2.2.2, .int .i64 t.ek, .int .u64 t.en, .string t.es, .slice r.1 r.2.1 r.2.2, .int .i64 t.dp, .slice LA ls.length lc] (0, 0) _ HR2.out Tryz.underlying79 rfl HS79.out ?_) | (go_at_call 72; refine (HN.out _ BB.out).mono ?_; rintro e w1 ⟨rfl, hb⟩; obtain ⟨hr79, hr25⟩ := HK.out _ hb; have z0 : w1.cell? ⟨w.heap.size + 1, 0, none⟩ = some (.int .i64 t.is) := (cellsOf hr79 0).trans rfl; have z2 : w1.cell? ⟨w.heap.size + 1, 2, none⟩ = some (.int .i64 t.sk) := (cellsOf hr79 2).trans rfl; have z3 : w1.cell? ⟨w.heap.size + 1, 3, none⟩ = some (.string t.sn) := (cellsOf hr79 3).trans rfl; have z12 : w1.cell? ⟨w.heap.size + 1, 12, none⟩ = some (.int .u64 t.lo) := (cellsOf hr79 12).trans rfl; have z13 : w1.cell? ⟨w.heap.size + 1, 13, none⟩ = some (.int .u64 t.hi) := (cellsOf hr79 13).trans rfl; have z16 : w1.cell? ⟨w.heap.size + 1, 16, none⟩ = some (.int .i64 t.ek) := (cellsOf hr79 16).trans rfl; have z17 : w1.cell? ⟨w.heap.size + 1, 17, none⟩ = some (.int .u64 t.en) := (cellsOf hr79 17).trans rfl; have z20 : w1.cell? ⟨w.heap.size + 1, 20, none⟩ = some (.int .i64 t.dp) := (cellsOf hr79 20).trans rfl; have z21 : w1.cell? ⟨w.heap.size + 1, 21, none⟩ = some (.slice LA ls.length lc) := (cellsOf hr79 21).trans rfl; have y0 : w1.cell? ⟨w.heap.size, 0, none⟩ = some (.string p.name) := (cellsOf hr25 0).trans rfl; have y1 : w1.cell? ⟨w.heap.size, 1, none⟩ = some (.int .i64 p.width) := (cellsOf hr25 1).trans rfl; have y2 : w1.cell? ⟨w.heap.size, 2, none⟩ = some (.int .i64 p.line) := (cellsOf hr25 2).trans rfl; have y3 : w1.cell? ⟨w.heap.size, 3, none⟩ = some (.slice A3 p.decls.length c3) := (cellsOf hr25 3).trans rfl; have y4 : w1.cell? ⟨w.heap.size, 4, none⟩ = some (.slice A4 p.body.length c4) := (cellsOf hr25 4).trans rfl; have HR3 := Aside0.mk hr79; have B1 := Aside0.mk (below_step BB.out hb); have B0 := Aside0.mk hb; clear hb hr79 hr25))
 go_cut [9] from 15 to 139 (fun v9 wx => v9 = .bool (t.is == 1 && t.sk == 4) ∧ wx = w1)
 case first =>
  cases e1 : (t.is == 1) with
  | false =>
   go_wp2_with fail
   go_meet
   exact ⟨by rw [e1]; rfl, rfl⟩
  | true =>
   go_wp2_with fail
   go_meet
   exact ⟨by rw [e1]; rfl, rfl⟩
 case rest =>
  obtain ⟨rfl, rfl⟩ := hcut
  generalize (t.is == 1 && t.sk == 4) = lp at *
  generalize fitB p.width t.en = fb at *
  generalize t.is = ti at *
  generalize t.ek = tk at *
  cases e1 : (ti == 2) with
  | false =>
   have HE : Aside0 (u = 0) := ⟨by rw [HU.out, e1]; rfl⟩
   clear HU
   go_wp2_with (first
           | fail
           | (go_at_call 69; refine (HFt.out _).mono ?_; rintro e w2 ⟨rfl, hd⟩; have B2 := Aside0.mk (below_step B1.out hd.below); clear hd))
   all_goals (go_ret; exact ⟨by rw [HE.out]; rfl, by first | exact B2.out | exact B1.out⟩)
  | true =>
   cases e2 : (tk == 1) with
   | false =>
    have HE : Aside0 (u = 0) := ⟨by rw [HU.out, e1, e2]; rfl⟩
    clear HU
    go_wp2_with (first
           | fail
           | (go_at_call 69; refine (HFt.out _).mono ?_; rintro e w2 ⟨rfl, hd⟩; have B2 := Aside0.mk (below_step B1.out hd.below); clear hd))
    all_goals (go_ret; exact ⟨by rw [HE.out]; rfl, by first | exact B2.out | exact B1.out⟩)
   | true =>
    cases fb with
    | true =>
     have HE : Aside0 (u = 0) := ⟨by rw [HU.out, e1, e2]; rfl⟩
     clear HU
     go_wp2_with (first
           | fail
           | (go_at_call 69; refine (HFt.out _).mono ?_; rintro e w2 ⟨rfl, hd⟩; have B2 := Aside0.mk (below_step B1.out hd.below); clear hd))
     all_goals (go_ret; exact ⟨by rw [HE.out]; rfl, by first | exact B2.out | exact B1.out⟩)
    | false =>
     have HE : Aside0 (u = 165) := ⟨by rw [HU.out, e1, e2]; rfl⟩
     clear HU
     go_wp2_with (first
           | fail
           | (go_at_call 69; refine (HFt.out _).mono ?_; rintro e w2 ⟨rfl, hd⟩; have B2 := Aside0.mk (below_step B1.out hd.below); clear hd))
     all_goals (go_ret; exact ⟨by rw [HE.out]; rfl, by first | exact B2.out | exact B1.out⟩)
set_option maxHeartbeats 8000000 in
set_option maxRecDepth 100000 in
theorem viol14 (p : PR) (A3 : Option Addr) (c3 : Nat) (A4 : Option Addr) (c4 : Nat) (t : TV) (LA : Option Addr) (lc : Nat) (ls : List ByteArray) (cs : List Value) (nm : ByteArray) (hs : Bool) (w : World) (hr : TRow t LA ls.length lc cs)
  (hN : ∀ W, Below w.heap.size w W → Calls Tryz.prog 72 #[.agg cs.toArray] W fun e w' => e = .returned (.tuple #[.string nm, .bool hs]) ∧ Below W.heap.size W w') (hw0 : 0 ≤ p.width) (hl0 : 0 ≤ t.lo) (hh0 : U64 t.hi) (u : Int) (hu : u = if ((t.is == 1 && t.sk == 4) && (decide (t.lo > t.hi) || decide (0 < t.hi) && !fitB p.width (t.hi - 1))) = true then 166 else 0) :
  Calls Tryz.prog 34 #[p.cells A3 c3 A4 c4, .agg cs.toArray, .int .i64 14] w fun e w' => e = .returned (.int .i64 u) ∧ Below w.heap.size w w' := by
 obtain ⟨d, k1, k2, k3, k4, b1, b2, b3, b4, q1, q2, r, rfl⟩ := hr
 obtain ⟨W2, hW2⟩ : ∃ W2, (w.alloc (.cells #[.string p.name, .int .i64 p.width, .int .i64 p.line, .slice A3 p.decls.length c3, .slice A4 p.body.length c4] 25)).alloc (.cells #[.int .i64 t.is, .int .i64 d, .int .i64 t.sk, .string t.sn, .int .i64 k1, .int .u64 k2, .string k3, .slice k4.1 k4.2.1 k4.2.2, .int .i64 b1, .int .u64 b2, .string b3, .slice b4.1 b4.2.1 b4.2.2, .int .u64 t.lo, .int .u64 t.hi, .slice q1.1 q1.2.1 q1.2.2, .slice q2.1 q2.2.1 q2.2.2, .int .i64 t.ek, .int .u64 t.en, .string t.es, .slice r.1 r.2.1 r.2.2, .int .i64 t.dp, .slice LA ls.length lc] 79) = W2 := ⟨_, rfl⟩
 have HK : Aside0 (∀ w' : World, Below W2.heap.size W2 w' → w'.heap[w.heap.size + 1]? = some (.cells #[.int .i64 t.is, .int .i64 d, .int .i64 t.sk, .string t.sn, .int .i64 k1, .int .u64 k2, .string k3, .slice k4.1 k4.2.1 k4.2.2, .int .i64 b1, .int .u64 b2, .string b3, .slice b4.1 b4.2.1 b4.2.2, .int .u64 t.lo, .int .u64 t.hi, .slice q1.1 q1.2.1 q1.2.2, .slice q2.1 q2.2.1 q2.2.2, .int .i64 t.ek, .int .u64 t.en, .string t.es, .slice r.1 r.2.1 r.2.2, .int .i64 t.dp, .slice LA ls.length lc] 79 (0, 0)) ∧ w'.heap[w.heap.size]? = some (.cells #[.string p.name, .int .i64 p.width, .int .i64 p.line, .slice A3 p.decls.length c3, .slice A4 p.body.length c4] 25 (0, 0))) := ⟨fun w' h => by
  subst hW2
  exact ⟨(h.block _ (by simp [go_sem])).trans (two_a _ _ _), (h.block _ (by simp [go_sem])).trans (two_b _ _ _)⟩⟩
 have B : Below w.heap.size w W2 := by rw [← hW2]; exact below_alloc (below_alloc (Below.refl _ _) _) _
 have BB := Aside0.mk B
 have HN := Aside0.mk hN
 have HR2 := Aside0.mk (HK.out _ (Below.refl _ _)).1
 have HS79 : Aside0 ((Tryz.prog.info? 79).map (fun x => x.size) = some 22) := ⟨by kernel_rfl⟩
 have hu79 := Tryz.underlying79
 have HU := Aside0.mk hu
 clear hN hu
 have hw1 : 0 < t.hi → IntKind.u64.wrap (t.hi - 1) = t.hi - 1 := fun h => IntWalk.u64_in _ (by have h1 := hh0.1; have h2 := hh0.2; omega)
 have HFt : Aside0 (0 < t.hi → ∀ W, Calls Tryz.prog 69 #[.int .i64 p.width, .int .u64 (t.hi - 1)] W fun e w' => e = .returned (.bool (fitB p.width (t.hi - 1))) ∧ Drawn0 W w') := ⟨fun h W => rfits_any p.width (t.hi - 1) hw0 (by have h1 := hh0.1; have h2 := hh0.2; constructor <;> omega) W⟩
 have HW1 := Aside0.mk hw1
 clear hw0 hl0 hh0 hw1
 unfold PR.cells
 go_enter Tryz.func34, Tryz.ntmps34
 go_upto_region 1 with (fail)
 try rw [hW2]
 clear hW2 B
 go_upto_region 2 with (first | (refine wpList_load_row rfl 79 (.tmp 4) rfl (w.heap.size + 1) rfl 79 #[.int .i64 t.is, .int .i64 d, .int .i64 t.sk, .string t.sn, .int .i64 k1, .int .u64 k2, .string k3, .slice k4.1 k4.2.1 k4.2.2, .int .i64 b1, .int .u64 b2, .string b3, .slice b4.1 b4.2.1 b4.2.2, .int .u64 t.lo, .int .u64 t.hi, .slice q1.1 q1.2.1 q1.2.2, .slice q2.1 q2.2.1 q2.2.2, .int .i64 t.ek, .int .u64 t.en, .string t.es, .slice r.1 r.2.1 r.2.2, .int .i64 t.dp, .slice LA ls.length lc] (0, 0) _ HR2.out Tryz.underlying79 rfl HS79.out ?_) | (go_at_call 72; refine (HN.out _ BB.out).mono ?_; rintro e w1 ⟨rfl, hb⟩; obtain ⟨hr79, hr25⟩ := HK.out _ hb; have z0 : w1.cell? ⟨w.heap.size + 1, 0, none⟩ = some (.int .i64 t.is) := (cellsOf hr79 0).trans rfl; have z2 : w1.cell? ⟨w.heap.size + 1, 2, none⟩ = some (.int .i64 t.sk) := (cellsOf hr79 2).trans rfl; have z3 : w1.cell? ⟨w.heap.size + 1, 3, none⟩ = some (.string t.sn) := (cellsOf hr79 3).trans rfl; have z12 : w1.cell? ⟨w.heap.size + 1, 12, none⟩ = some (.int .u64 t.lo) := (cellsOf hr79 12).trans rfl; have z13 : w1.cell? ⟨w.heap.size + 1, 13, none⟩ = some (.int .u64 t.hi) := (cellsOf hr79 13).trans rfl; have z16 : w1.cell? ⟨w.heap.size + 1, 16, none⟩ = some (.int .i64 t.ek) := (cellsOf hr79 16).trans rfl; have z17 : w1.cell? ⟨w.heap.size + 1, 17, none⟩ = some (.int .u64 t.en) := (cellsOf hr79 17).trans rfl; have z20 : w1.cell? ⟨w.heap.size + 1, 20, none⟩ = some (.int .i64 t.dp) := (cellsOf hr79 20).trans rfl; have z21 : w1.cell? ⟨w.heap.size + 1, 21, none⟩ = some (.slice LA ls.length lc) := (cellsOf hr79 21).trans rfl; have y0 : w1.cell? ⟨w.heap.size, 0, none⟩ = some (.string p.name) := (cellsOf hr25 0).trans rfl; have y1 : w1.cell? ⟨w.heap.size, 1, none⟩ = some (.int .i64 p.width) := (cellsOf hr25 1).trans rfl; have y2 : w1.cell? ⟨w.heap.size, 2, none⟩ = some (.int .i64 p.line) := (cellsOf hr25 2).trans rfl; have y3 : w1.cell? ⟨w.heap.size, 3, none⟩ = some (.slice A3 p.decls.length c3) := (cellsOf hr25 3).trans rfl; have y4 : w1.cell? ⟨w.heap.size, 4, none⟩ = some (.slice A4 p.body.length c4) := (cellsOf hr25 4).trans rfl; have HR3 := Aside0.mk hr79; have B1 := Aside0.mk (below_step BB.out hb); have B0 := Aside0.mk hb; clear hb hr79 hr25))
 go_cut [9] from 15 to 139 (fun v9 wx => v9 = .bool (t.is == 1 && t.sk == 4) ∧ wx = w1)
 case first =>
  cases e1 : (t.is == 1) with
  | false =>
   go_wp2_with fail
   go_meet
   exact ⟨by rw [e1]; rfl, rfl⟩
  | true =>
   go_wp2_with fail
   go_meet
   exact ⟨by rw [e1]; rfl, rfl⟩
 case rest =>
  obtain ⟨rfl, rfl⟩ := hcut
  generalize (t.is == 1 && t.sk == 4) = lp at *
  generalize fitB p.width (t.hi - 1) = fb at *
  generalize t.lo = tl at *
  generalize t.hi = th at *
  cases lp with
  | false =>
   have HE : Aside0 (u = 0) := ⟨by rw [HU.out]; rfl⟩
   clear HU
   go_wp2_with (first
           | fail
           | (go_at_call 69; refine (HFp.out _).mono ?_; rintro e w2 ⟨rfl, hd⟩; have B2 := Aside0.mk (below_step B1.out hd.below); clear hd))
   all_goals (go_ret; exact ⟨by rw [HE.out]; rfl, by first | exact B2.out | exact B1.out⟩)
  | true =>
   by_cases e1 : tl > th
   ·have d1 : decide (tl > th) = true := by simp [e1]
    have HE : Aside0 (u = 166) := ⟨by rw [HU.out, d1]; rfl⟩
    clear HU
    go_wp2_with (first
           | fail
           | (go_at_call 69; refine (HFp.out _).mono ?_; rintro e w2 ⟨rfl, hd⟩; have B2 := Aside0.mk (below_step B1.out hd.below); clear hd))
    all_goals (go_ret; exact ⟨by rw [HE.out]; rfl, by first | exact B2.out | exact B1.out⟩)
   ·have d1 : decide (tl > th) = false := by simp [e1]
    by_cases e2 : 0 < th
    ·have d2 : decide (0 < th) = true := by simp [e2]
     have hw1 := HW1.out e2
     have HFp := Aside0.mk (HFt.out e2)
     clear HFt HW1
     cases fb with
     | true =>
      have HE : Aside0 (u = 0) := ⟨by rw [HU.out, d1, d2]; rfl⟩
      clear HU
      go_wp2_with (first
           | fail
           | (go_at_call 69; refine (HFp.out _).mono ?_; rintro e w2 ⟨rfl, hd⟩; have B2 := Aside0.mk (below_step B1.out hd.below); clear hd))
      all_goals (go_ret; exact ⟨by rw [HE.out]; rfl, by first | exact B2.out | exact B1.out⟩)
     | false =>
      have HE : Aside0 (u = 166) := ⟨by rw [HU.out, d1, d2]; rfl⟩
      clear HU
      go_wp2_with (first
           | fail
           | (go_at_call 69; refine (HFp.out _).mono ?_; rintro e w2 ⟨rfl, hd⟩; have B2 := Aside0.mk (below_step B1.out hd.below); clear hd))
      all_goals (go_ret; exact ⟨by rw [HE.out]; rfl, by first | exact B2.out | exact B1.out⟩)
    ·have d2 : decide (0 < th) = false := by simp [e2]
     have HE : Aside0 (u = 0) := ⟨by rw [HU.out, d1, d2]; rfl⟩
     clear HU
     go_wp2_with (first
           | fail
           | (go_at_call 69; refine (HFp.out _).mono ?_; rintro e w2 ⟨rfl, hd⟩; have B2 := Aside0.mk (below_step B1.out hd.below); clear hd))
     all_goals (go_ret; exact ⟨by rw [HE.out]; rfl, by first | exact B2.out | exact B1.out⟩)
set_option maxHeartbeats 8000000 in
set_option maxRecDepth 100000 in
theorem viol15 (p : PR) (A3 : Option Addr) (c3 : Nat) (A4 : Option Addr) (c4 : Nat) (t : TV) (LA : Option Addr) (lc : Nat) (ls : List ByteArray) (cs : List Value) (nm : ByteArray) (hs : Bool) (w : World) (hr : TRow t LA ls.length lc cs)
  (hN : ∀ W, Below w.heap.size w W → Calls Tryz.prog 72 #[.agg cs.toArray] W fun e w' => e = .returned (.tuple #[.string nm, .bool hs]) ∧ Below W.heap.size W w') (hl : LsAt w LA lc ls) (hn : ls.length ≤ 4194304) (hp : p.At w A3 c3 A4 c4) (hb : p.decls.length ≤ 1048576) (u : Int) (hu : u = if ((t.is == 1 && t.sk == 4) && ((findI p.decls t.sn).isSome || hasB ls t.sn)) = true then 167 else 0) :
  Calls Tryz.prog 34 #[p.cells A3 c3 A4 c4, .agg cs.toArray, .int .i64 15] w fun e w' => e = .returned (.int .i64 u) ∧ Below w.heap.size w w' := by
 obtain ⟨d, k1, k2, k3, k4, b1, b2, b3, b4, q1, q2, r, rfl⟩ := hr
 obtain ⟨W2, hW2⟩ : ∃ W2, (w.alloc (.cells #[.string p.name, .int .i64 p.width, .int .i64 p.line, .slice A3 p.decls.length c3, .slice A4 p.body.length c4] 25)).alloc (.cells #[.int .i64 t.is, .int .i64 d, .int .i64 t.sk, .string t.sn, .int .i64 k1, .int .u64 k2, .string k3, .slice k4.1 k4.2.1 k4.2.2, .int .i64 b1, .int .u64 b2, .string b3, .slice b4.1 b4.2.1 b4.2.2, .int .u64 t.lo, .int .u64 t.hi, .slice q1.1 q1.2.1 q1.2.2, .slice q2.1 q2.2.1 q2.2.2, .int .i64 t.ek, .int .u64 t.en, .string t.es, .slice r.1 r.2.1 r.2.2, .int .i64 t.dp, .slice LA ls.length lc] 79) = W2 := ⟨_, rfl⟩
 have HK : Aside0 (∀ w' : World, Below W2.heap.size W2 w' → w'.heap[w.heap.size + 1]? = some (.cells #[.int .i64 t.is, .int .i64 d, .int .i64 t.sk, .string t.sn, .int .i64 k1, .int .u64 k2, .string k3, .slice k4.1 k4.2.1 k4.2.2, .int .i64 b1, .int .u64 b2, .string b3, .slice b4.1 b4.2.1 b4.2.2, .int .u64 t.lo, .int .u64 t.hi, .slice q1.1 q1.2.1 q1.2.2, .slice q2.1 q2.2.1 q2.2.2, .int .i64 t.ek, .int .u64 t.en, .string t.es, .slice r.1 r.2.1 r.2.2, .int .i64 t.dp, .slice LA ls.length lc] 79 (0, 0)) ∧ w'.heap[w.heap.size]? = some (.cells #[.string p.name, .int .i64 p.width, .int .i64 p.line, .slice A3 p.decls.length c3, .slice A4 p.body.length c4] 25 (0, 0))) := ⟨fun w' h => by
  subst hW2
  exact ⟨(h.block _ (by simp [go_sem])).trans (two_a _ _ _), (h.block _ (by simp [go_sem])).trans (two_b _ _ _)⟩⟩
 have B : Below w.heap.size w W2 := by rw [← hW2]; exact below_alloc (below_alloc (Below.refl _ _) _) _
 have BB := Aside0.mk B
 have HN := Aside0.mk hN
 have HR2 := Aside0.mk (HK.out _ (Below.refl _ _)).1
 have HS79 : Aside0 ((Tryz.prog.info? 79).map (fun x => x.size) = some 22) := ⟨by kernel_rfl⟩
 have hu79 := Tryz.underlying79
 have HU := Aside0.mk hu
 clear hN hu
 have HI : Aside0 (∀ W, Below w.heap.size w W → Calls Tryz.prog 73 #[.slice LA ls.length lc, .string t.sn] W fun e w' => e = .returned (.bool (hasB ls t.sn)) ∧ w' = W) := ⟨fun W hW => rin_any LA lc ls t.sn W (hl.grows (base := 0) (Grows.below hW)) hn⟩
 have HD : Aside0 (∀ W, Below w.heap.size w W → Calls Tryz.prog 68 #[.agg #[.string p.name, .int .i64 p.width, .int .i64 p.line, .slice A3 p.decls.length c3, .slice A4 p.body.length c4], .string t.sn] W fun e w' => e = .returned (.int .i64 (match findI p.decls t.sn with | some j => (j : Int) | none => -1)) ∧ Below W.heap.size W w') := ⟨fun W hW => rdecl_any p A3 c3 A4 c4 t.sn W (At_below hp hW) hb⟩
 clear hl hn hp hb
 unfold PR.cells
 go_enter Tryz.func34, Tryz.ntmps34
 go_upto_region 1 with (fail)
 try rw [hW2]
 clear hW2 B
 go_upto_region 2 with (first | (refine wpList_load_row rfl 79 (.tmp 4) rfl (w.heap.size + 1) rfl 79 #[.int .i64 t.is, .int .i64 d, .int .i64 t.sk, .string t.sn, .int .i64 k1, .int .u64 k2, .string k3, .slice k4.1 k4.2.1 k4.2.2, .int .i64 b1, .int .u64 b2, .string b3, .slice b4.1 b4.2.1 b4.2.2, .int .u64 t.lo, .int .u64 t.hi, .slice q1.1 q1.2.1 q1.2.2, .slice q2.1 q2.2.1 q2.2.2, .int .i64 t.ek, .int .u64 t.en, .string t.es, .slice r.1 r.2.1 r.2.2, .int .i64 t.dp, .slice LA ls.length lc] (0, 0) _ HR2.out Tryz.underlying79 rfl HS79.out ?_) | (go_at_call 72; refine (HN.out _ BB.out).mono ?_; rintro e w1 ⟨rfl, hb⟩; obtain ⟨hr79, hr25⟩ := HK.out _ hb; have z0 : w1.cell? ⟨w.heap.size + 1, 0, none⟩ = some (.int .i64 t.is) := (cellsOf hr79 0).trans rfl; have z2 : w1.cell? ⟨w.heap.size + 1, 2, none⟩ = some (.int .i64 t.sk) := (cellsOf hr79 2).trans rfl; have z3 : w1.cell? ⟨w.heap.size + 1, 3, none⟩ = some (.string t.sn) := (cellsOf hr79 3).trans rfl; have z12 : w1.cell? ⟨w.heap.size + 1, 12, none⟩ = some (.int .u64 t.lo) := (cellsOf hr79 12).trans rfl; have z13 : w1.cell? ⟨w.heap.size + 1, 13, none⟩ = some (.int .u64 t.hi) := (cellsOf hr79 13).trans rfl; have z16 : w1.cell? ⟨w.heap.size + 1, 16, none⟩ = some (.int .i64 t.ek) := (cellsOf hr79 16).trans rfl; have z17 : w1.cell? ⟨w.heap.size + 1, 17, none⟩ = some (.int .u64 t.en) := (cellsOf hr79 17).trans rfl; have z20 : w1.cell? ⟨w.heap.size + 1, 20, none⟩ = some (.int .i64 t.dp) := (cellsOf hr79 20).trans rfl; have z21 : w1.cell? ⟨w.heap.size + 1, 21, none⟩ = some (.slice LA ls.length lc) := (cellsOf hr79 21).trans rfl; have y0 : w1.cell? ⟨w.heap.size, 0, none⟩ = some (.string p.name) := (cellsOf hr25 0).trans rfl; have y1 : w1.cell? ⟨w.heap.size, 1, none⟩ = some (.int .i64 p.width) := (cellsOf hr25 1).trans rfl; have y2 : w1.cell? ⟨w.heap.size, 2, none⟩ = some (.int .i64 p.line) := (cellsOf hr25 2).trans rfl; have y3 : w1.cell? ⟨w.heap.size, 3, none⟩ = some (.slice A3 p.decls.length c3) := (cellsOf hr25 3).trans rfl; have y4 : w1.cell? ⟨w.heap.size, 4, none⟩ = some (.slice A4 p.body.length c4) := (cellsOf hr25 4).trans rfl; have HR3 := Aside0.mk hr79; have B1 := Aside0.mk (below_step BB.out hb); have B0 := Aside0.mk hb; clear hb hr79 hr25))
 go_cut [9] from 15 to 139 (fun v9 wx => v9 = .bool (t.is == 1 && t.sk == 4) ∧ wx = w1)
 case first =>
  cases e1 : (t.is == 1) with
  | false =>
   go_wp2_with fail
   go_meet
   exact ⟨by rw [e1]; rfl, rfl⟩
  | true =>
   go_wp2_with fail
   go_meet
   exact ⟨by rw [e1]; rfl, rfl⟩
 case rest =>
  obtain ⟨rfl, rfl⟩ := hcut
  generalize (t.is == 1 && t.sk == 4) = lp at *
  generalize hasB ls t.sn = hb1 at *
  cases lp with
  | false =>
   have HE : Aside0 (u = 0) := ⟨by rw [HU.out]; rfl⟩
   clear HU
   go_wp2_with (first
           | fail
           | (go_at_call 73; refine (HI.out _ B2.out).mono ?_; rintro e w3 ⟨rfl, rfl⟩)
           | (go_at_call 68; refine (HD.out _ B1.out).mono ?_; rintro e w2 ⟨rfl, hb⟩; have hr79' := (HK.out _ (below_step B0.out hb)).1; have x3 : w2.cell? ⟨w.heap.size + 1, 3, none⟩ = some (.string t.sn) := (cellsOf hr79' 3).trans rfl; have x21 : w2.cell? ⟨w.heap.size + 1, 21, none⟩ = some (.slice LA ls.length lc) := (cellsOf hr79' 21).trans rfl; have B2 := Aside0.mk (below_step B1.out hb); clear hb hr79'))
   all_goals (go_ret; exact ⟨by rw [HE.out]; rfl, by first | exact B2.out | exact B1.out⟩)
  | true =>
   cases hf : findI p.decls t.sn with
   | some j =>
    rw [hf] at HD HU
    have hj : (0 : Int) ≤ (j : Int) := by omega
    have hj2 : decide ((j : Int) ≥ 0) = true := by simp
    dsimp only at HD
    have HE : Aside0 (u = 167) := ⟨by rw [HU.out]; rfl⟩
    clear HU
    go_wp2_with (first
           | fail
           | (go_at_call 73; refine (HI.out _ B2.out).mono ?_; rintro e w3 ⟨rfl, rfl⟩)
           | (go_at_call 68; refine (HD.out _ B1.out).mono ?_; rintro e w2 ⟨rfl, hb⟩; have hr79' := (HK.out _ (below_step B0.out hb)).1; have x3 : w2.cell? ⟨w.heap.size + 1, 3, none⟩ = some (.string t.sn) := (cellsOf hr79' 3).trans rfl; have x21 : w2.cell? ⟨w.heap.size + 1, 21, none⟩ = some (.slice LA ls.length lc) := (cellsOf hr79' 21).trans rfl; have B2 := Aside0.mk (below_step B1.out hb); clear hb hr79'))
    all_goals (go_ret; exact ⟨by rw [HE.out]; rfl, by first | exact B2.out | exact B1.out⟩)
   | none =>
    rw [hf] at HD HU
    dsimp only at HD
    cases hb1 with
    | true =>
     have HE : Aside0 (u = 167) := ⟨by rw [HU.out]; rfl⟩
     clear HU
     go_wp2_with (first
           | fail
           | (go_at_call 73; refine (HI.out _ B2.out).mono ?_; rintro e w3 ⟨rfl, rfl⟩)
           | (go_at_call 68; refine (HD.out _ B1.out).mono ?_; rintro e w2 ⟨rfl, hb⟩; have hr79' := (HK.out _ (below_step B0.out hb)).1; have x3 : w2.cell? ⟨w.heap.size + 1, 3, none⟩ = some (.string t.sn) := (cellsOf hr79' 3).trans rfl; have x21 : w2.cell? ⟨w.heap.size + 1, 21, none⟩ = some (.slice LA ls.length lc) := (cellsOf hr79' 21).trans rfl; have B2 := Aside0.mk (below_step B1.out hb); clear hb hr79'))
     all_goals (go_ret; exact ⟨by rw [HE.out]; rfl, by first | exact B2.out | exact B1.out⟩)
    | false =>
     have HE : Aside0 (u = 0) := ⟨by rw [HU.out]; rfl⟩
     clear HU
     go_wp2_with (first
           | fail
           | (go_at_call 73; refine (HI.out _ B2.out).mono ?_; rintro e w3 ⟨rfl, rfl⟩)
           | (go_at_call 68; refine (HD.out _ B1.out).mono ?_; rintro e w2 ⟨rfl, hb⟩; have hr79' := (HK.out _ (below_step B0.out hb)).1; have x3 : w2.cell? ⟨w.heap.size + 1, 3, none⟩ = some (.string t.sn) := (cellsOf hr79' 3).trans rfl; have x21 : w2.cell? ⟨w.heap.size + 1, 21, none⟩ = some (.slice LA ls.length lc) := (cellsOf hr79' 21).trans rfl; have B2 := Aside0.mk (below_step B1.out hb); clear hb hr79'))
     all_goals (go_ret; exact ⟨by rw [HE.out]; rfl, by first | exact B2.out | exact B1.out⟩)
end Go.Proofs.YtjomofepephodaaGreat.PEquivShapes
namespace Go.Proofs.YtjomofepephodaaGreat.PEquivShapes
open Go.RowKit
open Go.Proofs.YtjomofepephodaaGreatW.PrintWords Go.Proofs.YtjomofepephodaaGreatW.PrintLast Go.Proofs.YtjomofepephodaaGreatW.PrintMore
/-- what is known of each thing in the list -/
def TH.nums (ls : List ByteArray) : TH → Prop
 | .decl => ls = []
 | .stmt s _ => U64 s.f4 ∧ U64 s.f5
 | .expr e => U64 e.f1
def Good (N : Nat) (x : TL) : Prop := x.1.ok ∧ x.1.nums x.2 ∧ x.2.length ≤ N
mutual
theorem S50.good (N : Nat) (ls : List ByteArray) (hn : ls.length ≤ N) : ∀ e : S50, e.fits → ∀ x, x ∈ S50.ths ls e → Good N x
 | ⟨k, n, s, l⟩, h, x, hx => by
  rw [S50.ths, List.mem_cons] at hx
  rw [S50.fits] at h
  rcases hx with rfl | hx
  ·exact ⟨trivial, h.2.1, hn⟩
  ·exact S50.goods N ls hn l h.2.2 x hx
theorem S50.goods (N : Nat) (ls : List ByteArray) (hn : ls.length ≤ N) : ∀ l : List S50, S50.allFit l → ∀ x, x ∈ S50.thss ls l → Good N x
 | [], _, x, hx => by simp [S50.thss] at hx
 | y :: r, h, x, hx => by
  rw [S50.thss, List.mem_append] at hx
  rw [S50.allFit] at h
  rcases hx with hx | hx
  ·exact S50.good N ls hn y h.1 x hx
  ·exact S50.goods N ls hn r h.2 x hx
end
mutual
theorem S52.good (N : Nat) : ∀ (s : S52) (deep : Int) (ls : List ByteArray), ls.length + s.bulk ≤ N → s.fits → s.formB = true → ∀ x, x ∈ S52.ths deep ls s → Good N x
 | ⟨k, nm, a, e, lo, hi, t, u⟩, deep, ls, hn, hf, hform, x, hx => by
  rw [S52.fits] at hf
  rw [S52.bulk] at hn
  rw [S52.formB_eq] at hform
  simp only [Bool.and_eq_true, decide_eq_true_eq] at hform
  obtain ⟨h1, h2, _, _, _, _, _, _, h8, h9⟩ := hform
  obtain ⟨_, fa, fe, f4, f5, ft, fu⟩ := hf
  rw [S52.ths, List.mem_cons] at hx
  rcases hx with rfl | hx
  ·exact ⟨⟨h1, h2⟩, ⟨f4, f5⟩, by show ls.length ≤ N; omega⟩
  ·split at hx
   ·rw [List.mem_append] at hx
    rcases hx with hx | hx
    ·exact S50.good N ls (by omega) a fa x hx
    ·exact S50.good N ls (by omega) e fe x hx
   ·split at hx
    ·exact S50.good N ls (by omega) e fe x hx
    ·split at hx
     ·rw [List.mem_append, List.mem_append] at hx
      rcases hx with hx | hx | hx
      ·exact S50.good N ls (by omega) e fe x hx
      ·exact S52.goods N t _ ls (by omega) ft h8 x hx
      ·exact S52.goods N u _ ls (by omega) fu h9 x hx
     ·split at hx
      ·exact S52.goods N t _ (nm :: ls) (by rw [List.length_cons]; omega) ft h8 x hx
      ·simp at hx
theorem S52.goods (N : Nat) : ∀ (l : List S52) (deep : Int) (ls : List ByteArray), ls.length + S52.bulks l ≤ N → S52.allFit l → S52.formsB l = true → ∀ x, x ∈ S52.thss deep ls l → Good N x
 | [], _, _, _, _, _, x, hx => by simp [S52.thss] at hx
 | y :: r, deep, ls, hn, hf, hform, x, hx => by
  rw [S52.thss, List.mem_append] at hx
  rw [S52.allFit] at hf
  rw [S52.bulks] at hn
  rw [S52.formsB, Bool.and_eq_true] at hform
  rcases hx with hx | hx
  ·exact S52.good N y deep ls (by omega) hf.1 hform.1 x hx
  ·exact S52.goods N r deep ls (by omega) hf.2 hform.2 x hx
end
theorem PR.good {p : PR} (hf : p.fits) (hform : S52.formsB p.body = true) (hb : S52.bulks p.body ≤ 1048576) : ∀ x, x ∈ p.ths → Good 1048576 x := by
 intro x hx
 unfold PR.ths at hx
 rw [List.mem_append] at hx
 rcases hx with hx | hx
 ·obtain ⟨_, _, rfl⟩ := List.mem_map.1 hx
  exact ⟨trivial, rfl, Nat.zero_le _⟩
 ·exact S52.goods 1048576 p.body 1 [] (by simpa using hb) hf.2.2.2 hform x hx
theorem zero_u64 : U64 0 := ⟨by decide, by decide⟩
/-- does a thing violate a clause? -/
def badC (p : PR) (c : Nat) (x : TL) : Bool :=
 match c with
 | 10 => badDeep x.1
 | 11 => badUnknown p x.1 x.2
 | 12 => badKind p x.1 x.2
 | 13 => badRange p x.1
 | 14 => badBounds p x.1
 | 15 => badLoop p x.1 x.2
 | _ => false
theorem shl_pow {k : Int} (h0 : 0 ≤ k) (h : k < 64) : shl .u64 1 k = 2 ^ k.toNat := by
 unfold shl
 have : min k.toNat IntKind.u64.bits = k.toNat := by
  have : IntKind.u64.bits = 64 := rfl
  omega
 rw [this, Int.one_mul]
 have e2 : IntKind.u64.wrap (2 ^ k.toNat) = (2 ^ k.toNat) % 18446744073709551616 := rfl
 rw [e2]
 have hlt : (2 : Int) ^ k.toNat < 18446744073709551616 := by
  have : (2 : Int) ^ k.toNat ≤ 2 ^ 63 := by
   exact_mod_cast Nat.pow_le_pow_right (by omega) (show k.toNat ≤ 63 by omega)
  have e3 : (2 : Int) ^ 63 = 9223372036854775808 := by decide
  omega
 have hpos : (0 : Int) < 2 ^ k.toNat := Int.pow_pos (by omega)
 omega
theorem bounds_same {w lo hi : Int} (h0 : 0 ≤ w) : (decide (lo > hi) || decide (0 < hi) && !fitB w (hi - 1)) = (decide (hi < lo) || decide (w < 64) && decide (shl .u64 1 w < hi)) := by
 unfold fitB
 by_cases hw : 64 ≤ w
 ·simp [hw, show ¬ w < 64 by omega]
 ·have hlt : w < 64 := by omega
  rw [shl_pow h0 hlt]
  have hpos : (0 : Int) < 2 ^ w.toNat := Int.pow_pos (by omega)
  generalize (2 : Int) ^ w.toNat = q at *
  by_cases hh : 0 < hi
  ·have e : ((hi - 1) / q == 0) = !decide (q < hi) := by
    by_cases hq : q < hi
    ·have h1 : ¬ (hi - 1) / q = 0 := by
      have : 1 ≤ (hi - 1) / q := (Int.le_ediv_iff_mul_le hpos).2 (by omega)
      omega
     simp [hq, h1]
    ·have h1 : (hi - 1) / q = 0 := Int.ediv_eq_zero_of_lt (by omega) (by omega)
     simp [hq, h1]
   rw [e]
   simp [hw, hlt, hh]
  ·have h2 : ¬ q < hi := by omega
   simp [hw, hlt, hh, h2]
set_option maxHeartbeats 2000000 in
theorem rviol_any (p : PR) (A3 : Option Addr) (c3 : Nat) (A4 : Option Addr) (c4 : Nat) (w0 w : World) (t : TH) (ls : List ByteArray) (cs : List Value) (h : ThIn w0 w (t, ls) cs) (hg : Good 1048576 (t, ls)) (hp : p.At w A3 c3 A4 c4) (hb : p.decls.length ≤ 1048576)
  (hw : 0 ≤ p.width) (hs : ∀ i, i < p.decls.length → 0 ≤ (rd_T38 p.decls i).f2) (c : Nat) (h10 : 10 ≤ c) (h15 : c ≤ 15) (hpast : c = 12 → badUnknown p t ls = false) :
  Calls Tryz.prog 34 #[p.cells A3 c3 A4 c4, .agg cs.toArray, .int .i64 (c : Int)] w fun e w' => (∃ u : Int, e = .returned (.int .i64 u) ∧ (u = 0 ↔ badC p c (t, ls) = false)) ∧ Below w.heap.size w w' := by
 obtain ⟨hok, hnum, hlen⟩ := hg
 have hlen4 : ls.length ≤ 4194304 := Nat.le_trans hlen (by decide)
 obtain ⟨LA, lc, hr, hl⟩ := trow h (fun e => by subst e; exact hnum)
 have hN : ∀ W, Below w.heap.size w W → Calls Tryz.prog 72 #[.agg cs.toArray] W fun e w' => e = .returned (.tuple #[.string t.use.1, .bool t.use.2]) ∧ Below W.heap.size W w' := fun W hW => rnames_any w0 W t ls cs (h.grows (base := 0) (Grows.below hW)) hok
 have fin : ∀ {u : Int} {b : Bool} {k : Int}, k ≠ 0 → u = (if b = true then k else 0) → b = badC p c (t, ls) → (u = 0 ↔ badC p c (t, ls) = false) := by
  intro u b k hk hu hb
  rw [← hb, hu]
  cases b <;> simp [hk]
 obtain rfl | rfl | rfl | rfl | rfl | rfl : c = 10 ∨ c = 11 ∨ c = 12 ∨ c = 13 ∨ c = 14 ∨ c = 15 := by omega
 ·refine (viol10 p A3 c3 A4 c4 t.view LA lc ls cs t.use.1 t.use.2 w hr hN _ rfl).mono fun e w' ⟨he, hb⟩ => ⟨⟨_, he, ?_⟩, hb⟩
  refine fin (k := 152) (b := decide (64 < t.view.dp)) (by decide) (by simp) ?_
  cases t with
  | decl => simp [TH.view, badC, badDeep]
  | stmt s d => exact decide_eq_decide.2 Iff.rfl
  | expr e => exact decide_eq_decide.2 Iff.rfl
 ·refine (viol11 p A3 c3 A4 c4 t.view LA lc ls cs t.use.1 t.use.2 w hr hN hl hlen4 hp hb _ rfl).mono fun e w' ⟨he, hb⟩ => ⟨⟨_, he, ?_⟩, hb⟩
  exact fin (k := 161) (by decide) rfl rfl
 ·refine (viol12 p A3 c3 A4 c4 t.view LA lc ls cs t.use.1 t.use.2 w hr hN (kindB p t ls t.use.1) (fun hu W hW => ?_) _ rfl).mono fun e w' ⟨he, hb⟩ => ⟨⟨_, he, ?_⟩, hb⟩
  ·have h2 := hpast rfl
   have hr' := hr
   refine rkind_any p A3 c3 A4 c4 t LA lc ls cs t.use.1 W (At_below hp hW) hb hr (hl.grows (base := 0) (Grows.below hW)) hlen4 ?_ hs hu hok
   unfold badUnknown at h2
   rw [hu] at h2
   cases h3 : hasB ls t.use.1 with
   | true => exact .inl rfl
   | false =>
    right
    rw [h3] at h2
    cases h4 : findI p.decls t.use.1 with
    | some i => rfl
    | none => rw [h4] at h2; simp at h2
  ·exact fin (k := 162) (by decide) rfl rfl
 ·refine (viol13 p A3 c3 A4 c4 t.view LA lc ls cs t.use.1 t.use.2 w hr hN hw ?_ _ rfl).mono fun e w' ⟨he, hb⟩ => ⟨⟨_, he, ?_⟩, hb⟩
  ·cases t with
   | decl => exact zero_u64
   | stmt s d => exact zero_u64
   | expr e => exact hnum
  ·refine fin (k := 165) (by decide) rfl ?_
   cases t with
   | decl => rfl
   | stmt s d => rfl
   | expr e => simp [TH.view, badC, badRange]; rfl
 ·refine (viol14 p A3 c3 A4 c4 t.view LA lc ls cs t.use.1 t.use.2 w hr hN hw ?_ ?_ _ rfl).mono fun e w' ⟨he, hb⟩ => ⟨⟨_, he, ?_⟩, hb⟩
  ·cases t with
   | decl => exact Int.le_refl _
   | stmt s d => exact hnum.1.1
   | expr e => exact Int.le_refl _
  ·cases t with
   | decl => exact zero_u64
   | stmt s d => exact hnum.2
   | expr e => exact zero_u64
  ·refine fin (k := 166) (by decide) rfl ?_
   rw [bounds_same hw]
   cases t with
   | decl => rfl
   | stmt s d => rfl
   | expr e => rfl
 ·refine (viol15 p A3 c3 A4 c4 t.view LA lc ls cs t.use.1 t.use.2 w hr hN hl hlen4 hp hb _ rfl).mono fun e w' ⟨he, hb⟩ => ⟨⟨_, he, ?_⟩, hb⟩
  refine fin (k := 167) (by decide) rfl ?_
  cases t with
  | decl => rfl
  | stmt s d =>
   rw [Bool.or_comm]
   rfl
  | expr e => rfl
end Go.Proofs.YtjomofepephodaaGreat.PEquivShapes
