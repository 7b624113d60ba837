/-
  PropClosed's walk. Conditions: those each theorem names.
-/
import Derived.Test.YtaileihnkmjfiaaC1
namespace Go.Proofs.Ytaileihnkmjfiaa
open Go.RowKit

/-- a new book beside a new engine -/
theorem Stand.new {w w1 : World} {b : Nat} {G : GH} {S : ES} (E : Eng w1 b G S) (hb : Below w.heap.size w w1) (hft : ∀ x, ft G x → w.heap.size ≤ x) (hsz : w.heap.size ≤ w1.heap.size) :
    Stand w.heap.size w (w1.alloc (.cells #[.slice none 0 0, .slice none 0 0] 30)) b w1.heap.size G (obG w1.heap.size) S ⟨[], []⟩ := by
  refine ⟨E.alloc _, ?_, fun x h1 h2 => ?_, hft, fun x h => ?_, hb.alloc hsz _, by simp; omega⟩
  · exact Ob.new (heap_alloc_new w1 _) rfl rfl
  · have := E.flt h1
    have := fo_obG h2
    omega
  · have := fo_obG h
    omega

/-- a script's call, in the walk's own spelling, in every later world -/
theorem script_op {w : World} {ao : Option Addr} {ops : List OpD} (h : 0 < ops.length → ∃ sb so, ao = some ⟨sb, so, none⟩ ∧ ∀ i, i < ops.length → ∀ o, ops[i]? = some o →
    w.cell? ⟨sb, so + 3 * i, none⟩ = some (i64 o.kind) ∧ w.cell? ⟨sb, so + 3 * i + 1, none⟩ = some (i64 o.num) ∧ ∃ v, w.cell? ⟨sb, so + 3 * i + 2, none⟩ = some v ∧ IntsAt w v o.lits) {i : Nat} (hi : i < ops.length) :
    ∃ sb so o lv, ao = some ⟨sb, so, none⟩ ∧ ops[i]? = some o ∧ IntsAt w lv o.lits ∧ ∀ w', Below w.heap.size w w' →
      w'.cell? ⟨sb, so + i * 3, none⟩ = some (i64 o.kind) ∧ w'.cell? ⟨sb, so + i * 3 + 1, none⟩ = some (i64 o.num) ∧ w'.cell? ⟨sb, so + i * 3 + 2, none⟩ = some lv := by
  obtain ⟨sb, so, rfl, hc0⟩ := h (by omega)
  obtain ⟨q0, q1, lv, q2, hl⟩ := hc0 i hi ops[i] (by simp [hi])
  have hsb : sb < w.heap.size := World.block_lt_of_cell? w _ q0
  rw [Nat.mul_comm] at q0 q1 q2
  exact ⟨sb, so, ops[i], lv, rfl, by simp [hi], hl, fun w' hb => ⟨(hb.cell (p := ⟨sb, so + i * 3, none⟩) hsb).trans q0, (hb.cell (p := ⟨sb, so + i * 3 + 1, none⟩) hsb).trans q1, (hb.cell (p := ⟨sb, so + i * 3 + 2, none⟩) hsb).trans q2⟩⟩

/-- what holds at the head of a script's loop -/
structure Going (base : Nat) (w0 w : World) (b bb : Nat) (G GB : GH) (S : ES) (B : BK) (A : Nat) (ops : List OpD) (i : Nat) : Prop where
  stand : Stand base w0 w b bb G GB S B
  live : S.Live A (3 * i)
  agree : ES.Agree S B
  cost : S.cs.length + S.lits ≤ weigh (ops.take i)

theorem Going.bk {base : Nat} {w0 w : World} {b bb : Nat} {G GB : GH} {S : ES} {B : BK} {A : Nat} {ops : List OpD} {i : Nat} (h : Going base w0 w b bb G GB S B A ops i) : B.cl.length ≤ 1048576 ∧ B.dc.length ≤ 1048576 := by
  have hi := h.live.good.inv
  have h2 := hi.cs_len
  have h3 := hi.core.mks_len
  have h4 := hi.core.tr_len
  have h5 := hi.n_le
  rw [h.agree.cl, h.agree.dc, ES.decs_len]
  omega

/-- behind a call -/
theorem Going.did {base : Nat} {w0 w w' : World} {b bb : Nat} {G GB G' GB' : GH} {S : ES} {B : BK} {ops : List OpD} {i : Nat} (h : Going base w0 w b bb G GB S B (weigh ops) ops i) (hA : weigh ops ≤ 1048576) {o : OpD} (ho : ops[i]? = some o)
    (_h2 : Stand base w0 w' b bb G' GB' (S.doS o) (S.doB B o)) : (S.doS o).Live (weigh ops) (3 * i + 1) ∧ ES.Agree (S.doS o) (S.doB B o) ∧ (S.doS o).cs.length + (S.doS o).lits ≤ weigh (ops.take (i + 1)) := by
  have hlt : i < ops.length := (List.getElem?_eq_some_iff.1 ho).1
  have hwt := weigh_take ops i o ho
  have hwl := weigh_take_le ops (i + 1)
  have hcost := h.cost
  have hlen := weigh_len ops
  have ht : 3 * i ≤ 2097152 := by omega
  refine ⟨h.live.step hA ht o (by omega), h.agree.step h.live hA ht o, ?_⟩
  have := h.live.cost hA ht o
  omega

theorem ite_false_or (b : Bool) : (if b = true then true else false) = b := by cases b <;> rfl

set_option maxHeartbeats 4000000 in
set_option maxRecDepth 100000 in
theorem closed_walk (v : Int) (ops : List OpD) (a : Value) (w : World) (hs : ScrAt w a ops) (hA : weigh ops ≤ 1048576) :
    Calls Try.prog 3 #[i64 v, a] w fun e w' => e = .returned (.bool true) ∧ Below w.heap.size w w' := by
  obtain ⟨ao, cap, rfl, hcap, hmax, hcells⟩ := hs
  have hlen := weigh_len ops
  by_cases hv : 0 ≤ v ∧ v ≤ 1048576
  · have c13 := first_any v w hv
    have hn : v.toNat ≤ 1048576 := by omega
    have HC := Lib.hid hcells
    clear hv hcells
    go_enter Try.func3, Try.ntmps3
    go_wp2_with fail
    refine c13.mono ?_
    rintro e w1 ⟨b, G, rfl, E, hb, hft⟩
    have H0 := Stand.new E hb hft hb.size
    clear c13
    go_wp2_with fail
    go_loopg [8] ops.length (fun gm s8 wr => ∃ i G GB S B, gm = ops.length - i ∧ i ≤ ops.length ∧ s8 = .int .i64 (i : Nat) ∧ Going w.heap.size w wr b w1.heap.size G GB S B (weigh ops) ops i)
    case atStart => exact ⟨0, G, obG w1.heap.size, ES.new v.toNat, ⟨[], []⟩, rfl, Nat.zero_le _, rfl, H0, ES.Live.new hn, ES.Agree.new _, Nat.zero_le _⟩
    case round =>
      obtain ⟨i, Gi, GB, S, B, rfl, hi, rfl, Hg⟩ := hrel
      by_cases hlt : i < ops.length
      · obtain ⟨sb, so, o, lv, rfl, ho, hl, hcell⟩ := script_op HC.out hlt
        have hlt' : (i : Int) < (ops.length : Int) := by omega
        obtain ⟨r0, r1, r2⟩ := hcell wr Hg.stand.below
        have hwt := weigh_take ops i o ho
        have hwl := weigh_take_le ops (i + 1)
        have hcost := Hg.cost
        have cD := does_any o lv Hg.stand Hg.live hA (by omega) Hg.bk rfl hl (by omega)
        have HCell := Lib.hid hcell
        have Hwt := Lib.hid hwt
        have Ho := Lib.hid ho
        clear hcell hwt ho hcost hl
        go_wp2_with fail
        refine cD.mono ?_
        rintro e w2 ⟨rfl, G2, GB2, H2⟩
        obtain ⟨r0, r1, r2⟩ := HCell.out w2 H2.below
        obtain ⟨L2, A2, K2⟩ := Hg.did hA Ho.out H2
        have ht2 : 3 * i + 1 ≤ 2097152 := by omega
        clear cD Hg
        generalize S.doS o = S1 at *
        generalize S.doB B o = B1 at *
        by_cases hk : o.kind = 3
        · have hkb : (o.kind != 3) = false := by simpa using hk
          have cP := propagate_live b G2 S1 w2 H2.eng L2 hA ht2
          obtain ⟨_, _, L3, g3, hgd, hbd⟩ := L2.propagate hA ht2
          have A3 : ES.Agree S1.propagate.1 B1 := ⟨by rw [g3.cs]; exact A2.cl, by rw [ES.decs_goes L2.good g3]; exact A2.dc⟩
          have K3 : S1.propagate.1.cs.length + S1.propagate.1.lits ≤ weigh (ops.take (i + 1)) := by rw [g3.cs, g3.lits]; exact K2
          generalize S1.propagate = R at *
          obtain ⟨S2, good⟩ := R
          simp only at cP L3 hgd hbd A3 K3
          have Hkb := Lib.hid hk
          clear hk g3 L2 A2 K2
          go_wp2_with fail
          refine cP.mono ?_
          rintro e w3 ⟨rfl, G3, E3, T3⟩
          have H3 := H2.turned E3 T3
          clear cP r0 r1 r2 H2 E3 T3
          have f0 := H3.book.field (i := 0) (u := sv (GB2.g (.inl 1)) B1.cl.length (GB2.c (.inl 1))) rfl
          unfold sv at f0
          have hbl : B1.cl.length ≤ 1048576 := by rw [A3.cl]; exact L3.good.inv.cs_len
          have Hgd := Lib.hid hgd
          have Hbd := Lib.hid hbd
          have HA3 := Lib.hid A3
          clear hgd hbd A3
          go_wp2_with fail
          go_loop [10, 11] (fun s10 s11 => ∃ (k : Nat) (bad : Bool), k ≤ B1.cl.length ∧ s11 = .int .i64 (k : Nat) ∧ s10 = .bool bad ∧ Hid (good = false → S2.clash - 1 < k → bad = true)) (fun _ s11 => B1.cl.length - (intOf s11).toNat)
          case atStart => exact ⟨0, false, Nat.zero_le _, rfl, rfl, fun _ h => absurd h (Nat.not_lt_zero _)⟩
          case round =>
            obtain ⟨k, bad, hk, rfl, rfl, Hbad⟩ := hrel
            by_cases hkl : k < B1.cl.length
            · obtain ⟨g1, hg1⟩ := H3.book.l1 (by omega)
              have f0' : w3.cell? ⟨w1.heap.size, 0, none⟩ = some (.slice (some ⟨g1, 0, none⟩) B1.cl.length (GB2.c (.inl 1))) := f0.trans (by rw [hg1]; rfl)
              have e1 := H3.book.e1 hg1 hkl
              unfold sv at e1
              have hcl : (B1.cl.getD k []).length ≤ 65536 := by
                have := L3.good.inv.ok.cl_len (B1.cl.getD k []) (by rw [← HA3.out.cl]; exact getD_mem _ hkl)
                exact this
              have hlit : ∀ j, j < (B1.cl.getD k []).length → (B1.cl.getD k []).getD j 0 ≠ 0 ∧ ((B1.cl.getD k []).getD j 0).natAbs ≤ S2.n := by
                intro j hj
                exact L3.good.inv.ok.lits (B1.cl.getD k []) (by rw [← HA3.out.cl]; exact getD_mem _ hkl) _ (getD_mem _ hj)
              have ek := fun (g j : Nat) (hg : GB2.g (.inr (0, k)) = some g) (hj : j < (B1.cl.getD k []).length) => H3.book.ek hg hj
              have lk := fun (hn : 0 < (B1.cl.getD k []).length) => H3.book.lk (k := k) hn
              have hkl' : (k : Int) < (B1.cl.length : Int) := by omega
              have Hc : Hid (B1.cl.getD k [] = S2.cs.getD k []) := by show _ = _; rw [HA3.out.cl]
              have Hkl := Lib.hid hkl
              generalize B1.cl.getD k [] = c at *
              have Hlit := Lib.hid hlit
              have Hek := Lib.hid ek
              have Hlk := Lib.hid lk
              clear f0 hlit ek lk hkl
              go_wp2_with fail
              go_loop [12, 13, 14] (fun s12 s13 s14 => ∃ (j : Nat) (op : Int) (is : Bool), j ≤ c.length ∧ s14 = .int .i64 (j : Nat) ∧ s12 = .int .i64 op ∧ s13 = .bool is ∧ Hid (Scan S2 c j op is)) (fun _ _ s14 => c.length - (intOf s14).toNat)
              case atStart => exact ⟨0, 0, false, Nat.zero_le _, rfl, rfl, rfl, Scan.start S2 c⟩
              case round =>
                obtain ⟨j, op, is, hj, rfl, rfl, rfl, Hsc⟩ := hrel
                by_cases hjl : j < c.length
                · obtain ⟨gk, hgk⟩ := Hlk.out (by omega)
                  have e1' : w3.cell? ⟨g1, k, none⟩ = some (.slice (some ⟨gk, 0, none⟩) c.length (GB2.c (.inr (0, k)))) := e1.trans (by rw [hgk]; rfl)
                  have ej := Hek.out gk j hgk hjl
                  have hx := Hlit.out j hjl
                  have hjl' : (j : Int) < (c.length : Int) := by omega
                  have cS := sign_any b G3 S2 (c.getD j 0) w3 H3.eng L3.good.inv.ok.dim hx
                  have hr := ES.of_range L3.good.inv.core (c.getD j 0)
                  have Hsk := Lib.hid (fun hz => Hsc.out.skip (S := S2) hjl hz)
                  have Hs1 := Lib.hid (fun hz => Hsc.out.is1 (S := S2) hjl hz)
                  have Hs0 := Lib.hid (fun hz ho => Hsc.out.op0 (S := S2) hjl hx.1 hz ho)
                  have Hs2 := Lib.hid (fun hz ho ho2 => Hsc.out.two (S := S2) hjl hz ho ho2)
                  have Hgk := Lib.hid hgk
                  have Hx := Lib.hid hx
                  generalize hxe : c.getD j 0 = x at *
                  clear e1 hx hgk hxe Hsc
                  rcases (show S2.of x = 1 ∨ S2.of x = -1 ∨ S2.of x = 0 by omega) with hz | hz | hz
                  · have Hn := Lib.hid (Hs1.out hz)
                    rw [hz] at cS
                    clear hz hr
                    cases is
                    all_goals
                      go_wp2_with (go_at_call 16; refine cS.mono ?_; rintro e w' ⟨rfl, rfl⟩)
                      go_round
                      case rel => exact ⟨j + 1, op, true, by omega, by go_num, rfl, rfl, Hn.out⟩
                      case measure => simp [intOf]; omega
                  · have Hn := Lib.hid (Hsk.out hz)
                    rw [hz] at cS
                    clear hz hr
                    cases is
                    · go_wp2_with (go_at_call 16; refine cS.mono ?_; rintro e w' ⟨rfl, rfl⟩)
                      go_round
                      case rel => exact ⟨j + 1, op, false, by omega, by go_num, rfl, rfl, Hn.out⟩
                      case measure => simp [intOf]; omega
                    · go_wp2_with (go_at_call 16; refine cS.mono ?_; rintro e w' ⟨rfl, rfl⟩)
                      go_round
                      case rel => exact ⟨j + 1, op, true, by omega, by go_num, rfl, rfl, Hn.out⟩
                      case measure => simp [intOf]; omega
                  · have Hz := Lib.hid hz
                    rw [hz] at cS
                    clear hz hr
                    by_cases ho : op = 0
                    · subst ho
                      have Hn := Lib.hid (Hs0.out Hz.out (.inl rfl))
                      cases is
                      · go_wp2_with (go_at_call 16; refine cS.mono ?_; rintro e w' ⟨rfl, rfl⟩)
                        go_round
                        case rel => exact ⟨j + 1, x, false, by omega, by go_num, rfl, rfl, Hn.out⟩
                        case measure => simp [intOf]; omega
                      · go_wp2_with (go_at_call 16; refine cS.mono ?_; rintro e w' ⟨rfl, rfl⟩)
                        go_round
                        case rel => exact ⟨j + 1, x, true, by omega, by go_num, rfl, rfl, Hn.out⟩
                        case measure => simp [intOf]; omega
                    · have ho1 : (op == 0) = false := by simpa using ho
                      by_cases ho2 : op = x
                      · have Hn := Lib.hid (Hs0.out Hz.out (.inr ho2))
                        have ho3 : (op == x) = true := by simpa using ho2
                        clear ho ho2
                        cases is
                        · go_wp2_with (go_at_call 16; refine cS.mono ?_; rintro e w' ⟨rfl, rfl⟩)
                          go_round
                          case rel => exact ⟨j + 1, x, false, by omega, by go_num, rfl, rfl, Hn.out⟩
                          case measure => simp [intOf]; omega
                        · go_wp2_with (go_at_call 16; refine cS.mono ?_; rintro e w' ⟨rfl, rfl⟩)
                          go_round
                          case rel => exact ⟨j + 1, x, true, by omega, by go_num, rfl, rfl, Hn.out⟩
                          case measure => simp [intOf]; omega
                      · have Hn := Lib.hid (Hs2.out Hz.out ho ho2)
                        have ho3 : (op == x) = false := by simpa using ho2
                        clear ho ho2
                        cases is
                        all_goals
                          go_wp2_with (go_at_call 16; refine cS.mono ?_; rintro e w' ⟨rfl, rfl⟩)
                          go_round
                          case rel => exact ⟨j + 1, op, true, by omega, by go_num, rfl, rfl, Hn.out⟩
                          case measure => simp [intOf]; omega
                · obtain rfl : j = c.length := by omega
                  have hjl' : ¬ ((c.length : Int) < (c.length : Int)) := by omega
                  have hgood : good = true → is = true := by
                    intro hgt
                    obtain ⟨z1, z2, z3⟩ := Hgd.out hgt
                    refine Hsc.out.closed ?_
                    rw [Hc.out]
                    exact L3.good.closed z1 z2 z3 (by rw [← HA3.out.cl]; exact Hkl.out)
                  have hclash : good = false → k = S2.clash - 1 → is = false ∧ op = 0 := by
                    intro hgf hke
                    have z := L3.good.clash (Hbd.out hgf)
                    refine Hsc.out.clash ?_
                    rw [Hc.out, hke]
                    exact z.2
                  have Hnx : ∀ bad' : Bool, (good = false → (bad' = true ∨ (bad' = bad ∧ k ≠ S2.clash - 1))) → Hid (good = false → S2.clash - 1 < k + 1 → bad' = true) := by
                    intro bad' hb' hg hlt2
                    rcases hb' hg with h1 | ⟨h1, h2⟩
                    · exact h1
                    · rw [h1]; exact Hbad.out hg (by omega)
                  have HNx := Lib.hid Hnx
                  clear Hnx Hsc Hbad
                  cases good with
                  | true =>
                    obtain rfl := hgood rfl
                    clear hgood hclash
                    have Hn := Lib.hid (HNx.out bad (fun h => by cases h))
                    cases bad
                    · go_wp2_with fail
                      go_round
                      case rel => exact ⟨k + 1, false, by have := Hkl.out; omega, by go_num, rfl, Hn.out⟩
                      case measure => have := Hkl.out; simp [intOf]; omega
                    · go_wp2_with fail
                      go_round
                      case rel => exact ⟨k + 1, true, by have := Hkl.out; omega, by go_num, rfl, Hn.out⟩
                      case measure => have := Hkl.out; simp [intOf]; omega
                  | false =>
                    clear hgood
                    have Ht := Lib.hid (HNx.out true (fun _ => .inl rfl))
                    cases bad with
                    | true =>
                      clear hclash
                      go_wp2_with fail
                      go_round
                      case rel => exact ⟨k + 1, true, by have := Hkl.out; omega, by go_num, rfl, Lib.hid (fun _ => Ht.out.out rfl)⟩
                      case measure => have := Hkl.out; simp [intOf]; omega
                    | false =>
                      cases is with
                      | true =>
                        have Hn := Lib.hid (HNx.out false (fun h => .inr ⟨rfl, fun hke => by have := (hclash rfl hke).1; cases this⟩))
                        clear hclash
                        go_wp2_with fail
                        go_round
                        case rel => exact ⟨k + 1, false, by have := Hkl.out; omega, by go_num, rfl, Lib.hid (fun _ => Hn.out.out rfl)⟩
                        case measure => have := Hkl.out; simp [intOf]; omega
                      | false =>
                        by_cases ho : op = 0
                        · subst ho
                          clear hclash
                          go_wp2_with fail
                          go_round
                          case rel => exact ⟨k + 1, true, by have := Hkl.out; omega, by go_num, rfl, Lib.hid (fun _ => Ht.out.out rfl)⟩
                          case measure => have := Hkl.out; simp [intOf]; omega
                        · have Hn := Lib.hid (HNx.out false (fun h => .inr ⟨rfl, fun hke => ho (hclash rfl hke).2⟩))
                          have ho1 : (op == 0) = false := by simpa using ho
                          clear hclash ho
                          go_wp2_with fail
                          go_round
                          case rel => exact ⟨k + 1, false, by have := Hkl.out; omega, by go_num, rfl, Lib.hid (fun _ => Hn.out.out rfl)⟩
                          case measure => have := Hkl.out; simp [intOf]; omega
            · obtain rfl : k = B1.cl.length := by omega
              have hkl' : ¬ ((B1.cl.length : Int) < (B1.cl.length : Int)) := by omega
              have hend : good = true ∨ bad = true := by
                cases good with
                | true => exact .inl rfl
                | false =>
                  have z := L3.good.clash (Hbd.out rfl)
                  exact .inr (Hbad.out rfl (by rw [HA3.out.cl]; exact z.1))
              have HL3 := Lib.hid L3
              clear Hbad
              cases good with
              | true =>
                clear hend
                go_wp2_with fail
                go_roundg (ops.length - (i + 1))
                case measure => omega
                case rel => exact ⟨i + 1, G3, GB2, S2, B1, rfl, by omega, by go_num, H3, HL3.out.more (by omega), HA3.out, K3⟩
              | false =>
                obtain rfl : bad = true := by simpa using hend
                clear hend
                go_wp2_with fail
                go_roundg (ops.length - (i + 1))
                case measure => omega
                case rel => exact ⟨i + 1, G3, GB2, S2, B1, rfl, by omega, by go_num, H3, HL3.out.more (by omega), HA3.out, K3⟩
        · have hkb : (o.kind != 3) = true := by simpa using hk
          clear hk
          go_wp2_with fail
          go_roundg (ops.length - (i + 1))
          case measure => omega
          case rel => exact ⟨i + 1, G2, GB2, S1, B1, rfl, by omega, by go_num, H2, L2.more (by omega), A2, K2⟩
      · have hlt' : ¬ ((i : Int) < (ops.length : Int)) := by omega
        have hbl := Lib.hid Hg.stand.below
        clear Hg
        go_wp2_with fail
        go_ret
        exact ⟨rfl, hbl.out⟩
  · have c13 := first_bad v w (by omega)
    clear hv hcells
    go_enter Try.func3, Try.ntmps3
    go_wp2_with fail
    refine c13.mono ?_
    rintro e w1 ⟨rfl, rfl⟩
    go_wp2_with fail
    go_ret
    exact ⟨rfl, Below.refl _ _⟩
end Go.Proofs.Ytaileihnkmjfiaa
