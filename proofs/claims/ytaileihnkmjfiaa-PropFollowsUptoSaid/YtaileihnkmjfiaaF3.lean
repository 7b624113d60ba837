/-
  PropFollows' walk. Conditions: those each theorem names.
-/
import Derived.Test.YtaileihnkmjfiaaF2
import Derived.Test.YtaileihnkmjfiaaR1
import Derived.Test.YtaileihnkmjfiaaC2
namespace Go.Proofs.Ytaileihnkmjfiaa
open Go.RowKit

theorem follows_ok {S : ES} {B : BK} {t : Int} (hg : S.Good) (ha : ES.Agree S B) (hm : madeB t B = true) : (∀ l, l ∈ S.tr → holdsB t l = true) ∧ S.clash = 0 := by
  unfold madeB at hm
  rw [Bool.and_eq_true, List.all_eq_true, List.all_eq_true] at hm
  refine hg.follows (fun l => holdsB t l = true) (fun l h0 h1 => holdsB_neg t h0 h1) (fun c hc => ?_) (fun j hj => ?_)
  · have := hm.1 c (by rw [ha.cl]; exact hc)
    rw [List.any_eq_true] at this
    obtain ⟨l, h1, h2⟩ := this
    exact ⟨l, h1, h2⟩
  · refine hm.2 _ ?_
    rw [ha.dc]
    exact List.mem_map.2 ⟨S.mks.getD j 0, getD_mem' 0 hj, rfl⟩

set_option maxHeartbeats 4000000 in
set_option maxRecDepth 100000 in
theorem follows_walk (v : Int) (ops : List OpD) (a : Value) (t : Int) (w : World) (hs : ScrAt w a ops) (hA : weigh ops ≤ 1048576) (ht0 : 0 ≤ t) :
    Calls Try.prog 4 #[i64 v, a, .int .u64 t] w fun e w' => e = .returned (.bool true) ∧ Below w.heap.size w w' := by
  obtain ⟨ao, cap, rfl, hcap, hmax, hcells⟩ := hs
  have hlen := weigh_len ops
  by_cases hv : 0 ≤ v ∧ v ≤ 1048576
  · have c13 := first_any v w hv
    have hn : v.toNat ≤ 1048576 := by omega
    have HC := Lib.hid hcells
    clear hv hcells
    go_enter Try.func4, Try.ntmps4
    go_wp2_with fail
    refine c13.mono ?_
    rintro e w1 ⟨b, G, rfl, E, hb, hft⟩
    have H0 := Stand.new E hb hft hb.size
    clear c13
    go_wp2_with fail
    go_loopg [10] ops.length (fun gm s10 wr => ∃ i G GB S B, gm = ops.length - i ∧ i ≤ ops.length ∧ s10 = .int .i64 (i : Nat) ∧ Going w.heap.size w wr b w1.heap.size G GB S B (weigh ops) ops i)
    case atStart => exact ⟨0, G, obG w1.heap.size, ES.new v.toNat, ⟨[], []⟩, rfl, Nat.zero_le _, rfl, H0, ES.Live.new hn, ES.Agree.new _, Nat.zero_le _⟩
    case round =>
      obtain ⟨i, Gi, GB, S, B, rfl, hi, rfl, Hg⟩ := hrel
      by_cases hlt : i < ops.length
      · obtain ⟨sb, so, o, lv, rfl, ho, hl, hcell⟩ := script_op HC.out hlt
        have hlt' : (i : Int) < (ops.length : Int) := by omega
        obtain ⟨r0, r1, r2⟩ := hcell wr Hg.stand.below
        have hwt := weigh_take ops i o ho
        have hwl := weigh_take_le ops (i + 1)
        have hcost := Hg.cost
        have cD := does_any o lv Hg.stand Hg.live hA (by omega) Hg.bk rfl hl (by omega)
        have HCell := Lib.hid hcell
        have Hwt := Lib.hid hwt
        have Ho := Lib.hid ho
        clear hcell hwt ho hcost hl
        go_wp2_with fail
        refine cD.mono ?_
        rintro e w2 ⟨rfl, G2, GB2, H2⟩
        obtain ⟨r0, r1, r2⟩ := HCell.out w2 H2.below
        obtain ⟨L2, A2, K2⟩ := Hg.did hA Ho.out H2
        have ht2 : 3 * i + 1 ≤ 2097152 := by omega
        clear cD Hg
        generalize S.doS o = S1 at *
        generalize S.doB B o = B1 at *
        have hok := L2.good.inv.ok
        have hlits : ∀ l : Int, l ≠ 0 ∧ l.natAbs ≤ S1.n → -1048576 ≤ l ∧ l ≤ 1048576 := fun l hl => by have := hok.n_le; omega
        have cM := made_any w1.heap.size GB2 B1 t w2 H2.book ht0 (fun c hc l hl => hlits l (hok.lits c (by rw [← A2.cl]; exact hc) l hl))
          (fun l hl => by
            rw [A2.dc] at hl
            obtain ⟨m, hm, rfl⟩ := List.mem_map.1 hl
            obtain ⟨j, hj, rfl⟩ := mem_getD (0 : Nat) hm
            exact hlits _ (hok.tr_rng _ (getD_mem' 0 (L2.good.inv.core.mks_lt j hj))))
          (by rw [A2.cl]; exact hok.cs_len) (by rw [A2.dc, ES.decs_len]; have := hok.mks_len; have := hok.tr_len; have := hok.n_le; omega) (fun c hc => hok.cl_len c (by rw [← A2.cl]; exact hc))
        cases hmd : madeB t B1 with
        | false =>
          rw [hmd] at cM
          have HE := Lib.hid (show (∃ (x : Nat), x = 0) from ⟨0, rfl⟩)
          clear hmd hlits hok
          go_wp2_with fail
          refine cM.mono ?_
          rintro e w3 ⟨rfl, rfl⟩
          clear cM
          go_wp2_with fail
          go_roundg (ops.length - (i + 1))
          case measure => omega
          case rel => exact ⟨i + 1, G2, GB2, S1, B1, rfl, by omega, by go_num, H2, L2.more (by omega), A2, K2⟩
        | true =>
          rw [hmd] at cM
          obtain ⟨hfol, hcl0⟩ := follows_ok L2.good A2 hmd
          have cT := trail_any b G2 S1 w2 H2.eng hok
          have Hmd := Lib.hid hmd
          have Hfol := Lib.hid hfol
          have Hcl := Lib.hid hcl0
          have HA2 := Lib.hid A2
          have Hlits := Lib.hid hlits
          have htr := hok.tr_len
          have hnl := hok.n_le
          clear hmd hfol hcl0 hlits A2
          go_wp2_with fail
          refine cM.mono ?_
          rintro e w3 ⟨rfl, rfl⟩
          clear cM
          go_wp2_with fail
          refine cT.mono ?_
          rintro e w3 ⟨d, rfl, rw1, hdn, hdx, hdg, hbl⟩
          have H3 := H2.grown hbl
          clear cT
          obtain ⟨bo, dcap, hdv, k2, k3, k4⟩ := rw1.reads hdn hdx
          rw [hdv]
          have K4 := Lib.hid k4
          clear k4 hdn hdx hdg hbl rw1 hdv r0 r1 r2 H2
          go_wp2_with fail
          go_loop [12] (fun s12 => ∃ k : Nat, k ≤ S1.tr.length ∧ s12 = .int .i64 (k : Nat)) (fun s12 => S1.tr.length - (intOf s12).toNat)
          case atStart => exact ⟨0, Nat.zero_le _, rfl⟩
          case round =>
            obtain ⟨k, hk, rfl⟩ := hrel
            by_cases hkl : k < S1.tr.length
            · obtain ⟨cb, co, rfl, hc⟩ := K4.out (by omega)
              have e := hc k hkl
              have hkl' : (k : Int) < (S1.tr.length : Int) := by omega
              have hx := Hlits.out _ (hok.tr_rng _ (getD_mem' 0 hkl))
              have hT := Hfol.out _ (getD_mem' 0 hkl)
              have cH := holds_any t (S1.tr.getD k 0) w3 ht0 hx.1 hx.2
              rw [hT] at cH
              have Hc := Lib.hid hc
              generalize S1.tr.getD k 0 = x at *
              clear hc hT
              go_wp2_with (go_at_call 19; refine cH.mono ?_; rintro e w' ⟨rfl, rfl⟩)
              go_round
              case rel => exact ⟨k + 1, by omega, by go_num⟩
              case measure => simp [intOf]; omega
            · obtain rfl : k = S1.tr.length := by omega
              have hkl' : ¬ ((S1.tr.length : Int) < (S1.tr.length : Int)) := by omega
              have cC := conflict_any b G2 S1 w3 H3.eng hok
              go_wp2_with fail
              refine cC.mono ?_
              rintro e w4 ⟨d4, rfl, rw4, h4n, h4x, h4g, hbl4⟩
              have hz : d4.n = 0 := by rw [h4n]; unfold ES.conflict; rw [if_pos Hcl.out]; rfl
              have hdv4 : d4.v = .slice (Option.map (fun g => { block := g, off := 0 }) d4.g) 0 d4.cap := by unfold RD.v sv; rw [hz]
              rw [hdv4]
              have H4 := H3.grown hbl4
              obtain ⟨r0, r1, r2⟩ := HCell.out w4 H4.below
              clear cC h4n h4x h4g hz rw4 hbl4 hdv4 H3
              by_cases hk3 : o.kind = 3
              · have hkb : (o.kind == 3) = true := by simpa using hk3
                have cP := propagate_live b G2 S1 w4 H4.eng L2 hA ht2
                obtain ⟨_, _, L3, g3, hgd, hbd⟩ := L2.propagate hA ht2
                have A3 : ES.Agree S1.propagate.1 B1 := ⟨by rw [g3.cs]; exact HA2.out.cl, by rw [ES.decs_goes L2.good g3]; exact HA2.out.dc⟩
                have K3 : S1.propagate.1.cs.length + S1.propagate.1.lits ≤ weigh (ops.take (i + 1)) := by rw [g3.cs, g3.lits]; exact K2
                have hgood : S1.propagate.2 = true := by
                  cases hgs : S1.propagate.2 with
                  | true => rfl
                  | false => exact absurd (follows_ok L3.good A3 Hmd.out).2 (hbd hgs)
                rw [hgood] at cP
                have HA3 := Lib.hid A3
                clear hgood hgd hbd g3 A3 hk3
                go_wp2_with fail
                refine cP.mono ?_
                rintro e w5 ⟨rfl, G5, E5, T5⟩
                have H5 := H4.turned E5 T5
                clear cP
                go_wp2_with fail
                go_roundg (ops.length - (i + 1))
                case measure => omega
                case rel => exact ⟨i + 1, G5, GB2, S1.propagate.1, B1, rfl, by omega, by go_num, H5, L3.more (by omega), HA3.out, K3⟩
              · have hkb : (o.kind == 3) = false := by simpa using hk3
                clear hk3
                go_wp2_with fail
                go_roundg (ops.length - (i + 1))
                case measure => omega
                case rel => exact ⟨i + 1, G2, GB2, S1, B1, rfl, by omega, by go_num, H4, L2.more (by omega), HA2.out, K2⟩
      · have hlt' : ¬ ((i : Int) < (ops.length : Int)) := by omega
        have hbl := Lib.hid Hg.stand.below
        clear Hg
        go_wp2_with fail
        go_ret
        exact ⟨rfl, hbl.out⟩
  · have c13 := first_bad v w (by omega)
    clear hv hcells
    go_enter Try.func4, Try.ntmps4
    go_wp2_with fail
    refine c13.mono ?_
    rintro e w1 ⟨rfl, rfl⟩
    go_wp2_with fail
    go_ret
    exact ⟨rfl, Below.refl _ _⟩
end Go.Proofs.Ytaileihnkmjfiaa
