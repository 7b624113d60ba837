/-
  PropReasons' walk. Conditions: those each theorem names.
-/
import Derived.Test.YtaileihnkmjfiaaN3
import Derived.Test.YtaileihnkmjfiaaC2
namespace Go.Proofs.Ytaileihnkmjfiaa
open Go.RowKit

/-- behind an append onto a row of nobody's -/
theorem Stand.aside {base : Nat} {w0 w w' : World} {b bb : Nat} {G GB : GH} {S : ES} {B : BK} {row : Option Nat} (h : Stand base w0 w b bb G GB S B) (hgr : w.grownBy w' row)
    (hne : ∀ g, row = some g → base ≤ g ∧ ¬ ft G g ∧ ¬ fo GB g) : Stand base w0 w' b bb G GB S B :=
  ⟨⟨h.eng.own.of_heap fun g hg => hgr.block g (h.eng.own.lt hg) (fun e => (hne g e.symm).2.1 (feet_eq G S ▸ hg)), h.eng.at_, h.eng.out0, h.eng.out1, h.eng.out2⟩,
   ⟨h.book.own.of_heap fun g hg => hgr.block g (h.book.own.lt hg) (fun e => (hne g e.symm).2.2 (feet_ob GB _ _ _ _ ▸ hg)), h.book.at_, h.book.out0⟩,
   h.apart, h.ge, h.geb, h.below.grown hgr h.size (fun k e => (hne k e).1), Nat.le_trans h.size hgr.size⟩

theorem Rw.below {w w' : World} {T sz : Nat} {d : RD} (h : Rw w T sz d) (hb : Below w.heap.size w w') : Rw w' T sz d := h.of_heap fun g hg => hb.block g (h.lt hg)

/-- a list that lies below an old border is there still -/
theorem IntsAt.old {w w' : World} {v : Value} {c : List Int} {B : Nat} (h : IntsAt w v c) (hb : Below B w w') (hB : w.heap.size ≤ B) : IntsAt w' v c := by
  obtain ⟨ao, cap, h1, h2, h3, h4⟩ := h
  refine ⟨ao, cap, h1, h2, h3, fun h0 => ?_⟩
  obtain ⟨cb, co, e, h5⟩ := h4 h0
  exact ⟨cb, co, e, fun j hj => (hb.cell (p := ⟨cb, co + j, none⟩) (by have := World.block_lt_of_cell? w _ (h5 j hj); simp only at this ⊢; omega)).trans (h5 j hj)⟩

set_option maxHeartbeats 8000000 in
set_option maxRecDepth 100000 in
theorem reasons_walk (v : Int) (ops : List OpD) (a : Value) (w : World) (hs : ScrAt w a ops) (hA : weigh ops ≤ 1048576) :
    Calls Try.prog 12 #[i64 v, a] w fun e w' => e = .returned (.bool true) ∧ Below w.heap.size w w' := by
  obtain ⟨i0, hi0, hz0, hz1, hz2⟩ := info_parts Try.info3
  obtain ⟨ao, cap, rfl, hcap, hmax, hcells⟩ := hs
  have hlen := weigh_len ops
  by_cases hv : 0 ≤ v ∧ v ≤ 1048576
  · have c13 := first_any v w hv
    have hn : v.toNat ≤ 1048576 := by omega
    have HC := Lib.hid hcells
    clear hv hcells
    go_enter Try.func12, Try.ntmps12
    go_wp2_with fail
    refine c13.mono ?_
    rintro e w1 ⟨b, G, rfl, E, hb, hft⟩
    have H0 := Stand.new E hb hft hb.size
    clear c13
    go_wp2_with fail
    go_loopg [8] ops.length (fun gm s8 wr => ∃ i G GB S B, gm = ops.length - i ∧ i ≤ ops.length ∧ s8 = .int .i64 (i : Nat) ∧ Going w.heap.size w wr b w1.heap.size G GB S B (weigh ops) ops i)
    case atStart => exact ⟨0, G, obG w1.heap.size, ES.new v.toNat, ⟨[], []⟩, rfl, Nat.zero_le _, rfl, H0, ES.Live.new hn, ES.Agree.new _, Nat.zero_le _⟩
    case round =>
      obtain ⟨i, Gi, GB, S, B, rfl, hi, rfl, Hg⟩ := hrel
      by_cases hlt : i < ops.length
      · obtain ⟨sb, so, o, lv, rfl, ho, hl, hcell⟩ := script_op HC.out hlt
        have hlt' : (i : Int) < (ops.length : Int) := by omega
        obtain ⟨r0, r1, r2⟩ := hcell wr Hg.stand.below
        have hwt := weigh_take ops i o ho
        have hwl := weigh_take_le ops (i + 1)
        have hcost := Hg.cost
        have cD := does_any o lv Hg.stand Hg.live hA (by omega) Hg.bk rfl hl (by omega)
        have Hwt := Lib.hid hwt
        have Ho := Lib.hid ho
        clear hcell hwt ho hcost hl
        go_wp2_with fail
        refine cD.mono ?_
        rintro e w2 ⟨rfl, G2, GB2, H2⟩
        obtain ⟨L2, A2, K2⟩ := Hg.did hA Ho.out H2
        have ht2 : 3 * i + 1 ≤ 2097152 := by omega
        clear cD Hg r0 r1 r2
        generalize S.doS o = S1 at *
        generalize S.doB B o = B1 at *
        have hok := L2.good.inv.ok
        have cT := trail_any b G2 S1 w2 H2.eng hok
        have htr := hok.tr_len
        have hnl := hok.n_le
        have HA2 := Lib.hid A2
        clear A2
        go_wp2_with fail
        refine cT.mono ?_
        rintro e w3 ⟨d, rfl, rw1, hdn, hdx, hdg, hbl⟩
        have H3 := H2.grown hbl
        have hvt := rw1.reads hdn hdx
        have hvtl : ∃ bo dcap, d.v = .slice bo S1.tr.length dcap ∧ dcap ≤ maxLen := by
          obtain ⟨bo, dcap, e, _, e2, _⟩ := hvt
          exact ⟨bo, dcap, e, e2⟩
        obtain ⟨bo, dcap, hdv, _⟩ := hvtl
        rw [hdv] at hvt ⊢
        have hsz3 : w.heap.size ≤ w3.heap.size := H3.size
        have Hvt := Lib.hid hvt
        have H3k := Lib.hid H3
        clear cT hdn hdx hdg hbl rw1 hdv H2 hvt H3
        go_wp2_with fail
        go_loopg [10, 11] S1.tr.length (fun gm s10 s11 wx => ∃ (k : Nat) (dS : RD), gm = S1.tr.length - k ∧ k ≤ S1.tr.length ∧ s11 = .int .i64 (k : Nat) ∧ s10 = .slice (Option.map (fun g => { block := g, off := 0 }) dS.g) k dS.cap ∧
          Rw wx 3 1 dS ∧ dS.n = k ∧ dS.xs = ints (S1.tr.take k) ∧ (∀ g, dS.g = some g → w3.heap.size ≤ g) ∧ Below w3.heap.size w3 wx)
        case atStart => exact ⟨0, ⟨none, 0, 0, []⟩, rfl, Nat.zero_le _, rfl, rfl, Rw.empty _ _ _, rfl, by simp [ints], fun g h => (by cases h), Below.refl _ _⟩
        case round =>
          obtain ⟨k, dS, rfl, hk, rfl, rfl, hRS, hSn, hSx, hSg, hbx⟩ := hrel
          have Hx := H3k.out.grown hbx
          have hvx := Hvt.out.below hbx
          by_cases hkl : k < S1.tr.length
          · have hkl' : (k : Int) < (S1.tr.length : Int) := by omega
            obtain ⟨bo', dcap', e1, _, k3, k4⟩ := hvx
            cases e1
            obtain ⟨cb, co, rfl, hc⟩ := k4 (by omega)
            have e := hc k hkl
            obtain ⟨lev, hT⟩ := told L2.good HA2.out hkl
            have hseen : IntsAt wr dS.v (S1.tr.take k) := hRS.reads (by rw [hSn, List.length_take]; omega) hSx
            have hdv : dS.v = .slice (Option.map (fun g => { block := g, off := 0 }) dS.g) k dS.cap := by unfold RD.v sv; rw [hSn]
            rw [hdv] at hseen
            have cR := book_reasoned Hx L2.good hT _ hseen HA2.out
            have hxs : S1.tr.take (k + 1) = S1.tr.take k ++ [S1.tr.getD k 0] := by rw [List.take_succ_eq_append_getElem hkl]; simp [List.getD, hkl]
            have Hxs := Lib.hid hxs
            have Hc := Lib.hid hc
            generalize S1.tr.getD k 0 = x at *
            have HSn := Lib.hid hSn
            have HSx := Lib.hid hSx
            have HSg := Lib.hid hSg
            have HRS := Lib.hid hRS
            have Hbx := Lib.hid hbx
            clear hc hxs hT hseen hdv hSn hSx hSg hRS hbx k4 Hx
            go_wp2_with fail
            refine cR.mono ?_
            rintro e w4 ⟨rfl, hb4⟩
            have e4 : w4.cell? ⟨cb, co + k, none⟩ = some (i64 x) := (hb4.cell (p := ⟨cb, co + k, none⟩) (World.block_lt_of_cell? wr _ e)).trans e
            have R4 := (HRS.out.below hb4).alloc (.cells #[i64 x] 3)
            have Hb4 := Lib.hid hb4
            have hq1 : dS.n + 1 ≤ maxLen := by have := HSn.out; simp only [maxLen]; omega
            have hq2 : (dS.n + 1) * 8 ≤ 140737488355328 := by have := HSn.out; omega
            have hdv2 : Value.slice (Option.map (fun g => { block := g, off := 0 }) dS.g) k dS.cap = dS.v := by unfold RD.v sv; rw [HSn.out]
            have Hdv2 := Lib.hid hdv2
            clear cR hb4 e hdv2
            go_wp2_with (at_builtin; (refine wpList_append_rw rfl (.tmp 56) (.tmp 61) 28 rfl 3 i0 (.int .i64 0) 1 8 Try.underlying28 hi0 hz0 hz1 hz2 rfl (by decide) dS Hdv2.out R4 (some ⟨w4.heap.size, 0, none⟩) 1 1 [i64 x] rfl rfl (fun h => by cases h) (new_one w4 _ 3) (one_i64 _) hq1 hq2 ?go))
            case go =>
              intro d' w5 rw5 en ex eg hgr
              have En := Lib.hid en
              have Ex := Lib.hid ex
              have Eg := Lib.hid eg
              have Hgr := Lib.hid hgr
              have hdv5 : Value.slice (Option.map (fun g => { block := g, off := 0 }) d'.g) d'.n d'.cap = Value.slice (Option.map (fun g => { block := g, off := 0 }) d'.g) (k + 1) d'.cap := by rw [en, HSn.out]
              rw [hdv5]
              clear en ex eg hgr hdv5
              go_wp2_with fail
              go_roundg (S1.tr.length - (k + 1))
              case measure => omega
              case rel =>
                have hsz := Hbx.out.size
                have hsz2 := Hb4.out.size
                refine ⟨k + 1, d', rfl, by omega, by go_num, rfl, rw5, by rw [En.out, HSn.out], by rw [Ex.out, HSx.out, Hxs.out]; simp [ints], fun g hg => ?_, ?_⟩
                · rcases Eg.out with e | e
                  · exact HSg.out g (e ▸ hg)
                  · rw [e] at hg; cases hg; first | omega | (simp; omega)
                · exact ((Hbx.out.trans (Hb4.out.mono hsz)).alloc (by omega) _).grown Hgr.out (by simp; omega) (fun g e => HSg.out g e)
          · obtain rfl : k = S1.tr.length := by omega
            have hkl' : ¬ ((S1.tr.length : Int) < (S1.tr.length : Int)) := by omega
            have cC := book_conflict Hx L2 HA2.out _ hvx
            clear hRS hSn hSx hSg hbx hvx Hx
            go_wp2_with fail
            refine cC.mono ?_
            rintro e w6 ⟨rfl, G6, H6⟩
            clear cC
            go_wp2_with fail
            go_roundg (ops.length - (i + 1))
            case measure => omega
            case rel => exact ⟨i + 1, G6, GB2, S1, B1, rfl, by omega, by go_num, H6, L2.more (by omega), HA2.out, K2⟩
      · obtain rfl : i = ops.length := by omega
        have hlt' : ¬ ((ops.length : Int) < (ops.length : Int)) := by omega
        have ht2 : 3 * ops.length ≤ 2097152 := by omega
        have hst := Hg.stand
        have cP := propagate_live b Gi S wr hst.eng Hg.live hA ht2
        obtain ⟨_, _, L3, g3, hgd, hbd⟩ := Hg.live.propagate hA ht2
        have A3 : ES.Agree S.propagate.1 B := ⟨by rw [g3.cs]; exact Hg.agree.cl, by rw [ES.decs_goes Hg.live.good g3]; exact Hg.agree.dc⟩
        generalize S.propagate = R at *
        obtain ⟨S2, good⟩ := R
        simp only at cP L3 hgd hbd A3
        have HA3 := Lib.hid A3
        have Hbd := Lib.hid hbd
        clear hgd g3 A3 hbd Hg
        go_wp2_with fail
        refine cP.mono ?_
        rintro e w3 ⟨rfl, G3, E3, T3⟩
        have H3 := hst.turned E3 T3
        clear cP hst
        cases good with
        | true =>
          have hbl := Lib.hid H3.below
          clear H3
          go_wp2_with fail
          go_ret
          exact ⟨rfl, hbl.out⟩
        | false =>
          have hne := Hbd.out rfl
          have hok := L3.good.inv.ok
          have hcf : S2.conflict = S2.cs.getD (S2.clash - 1) [] := by unfold ES.conflict; rw [if_neg hne]
          have hle := hok.clash_le
          have hmem : S2.conflict ∈ B.cl := by rw [hcf, HA3.out.cl]; exact getD_mem' [] (by omega)
          have hlenc := hok.cl_len _ (by rw [← HA3.out.cl]; exact hmem)
          have cC := conflict_any b G3 S2 w3 H3.eng hok
          generalize S2.conflict = c at *
          have Hmem := Lib.hid hmem
          clear hne hcf hle hmem
          go_wp2_with fail
          refine cC.mono ?_
          rintro e w4 ⟨d4, rfl, rw4, h4n, h4x, h4g, hbl4⟩
          have H4 := H3.grown hbl4
          have hbl := Lib.hid H4.below
          have hdv4 : d4.v = .slice (Option.map (fun g => { block := g, off := 0 }) d4.g) c.length d4.cap := by unfold RD.v sv; rw [h4n]
          rw [hdv4]
          clear cC h4n h4x h4g rw4 hbl4 hdv4 H3
          by_cases hc0 : c.length = 0
          · obtain rfl : c = [] := List.eq_nil_of_length_eq_zero hc0
            have f0 := H4.book.field (i := 0) (u := sv (GB.g (.inl 1)) B.cl.length (GB.c (.inl 1))) rfl
            unfold sv at f0
            have hrow : RowsAt w4 (.slice (Option.map (fun g => { block := g, off := 0 }) (GB.g (.inl 1))) B.cl.length (GB.c (.inl 1))) B.cl := H4.book.reads
            have cO := one_any _ (.slice none 0 0) B.cl [] w4 hrow (IntsAt.nil _)
            rw [oneB_of_mem Hmem.out] at cO
            clear hrow H4 hc0
            go_wp2_with fail
            refine cO.mono ?_
            rintro e w5 ⟨rfl, hdr⟩
            have Hdr := Lib.hid hdr
            clear hdr cO
            go_wp2_with fail
            go_ret
            exact ⟨rfl, by obtain ⟨m, rfl⟩ := Hdr.out; exact bdrewN hbl.out⟩
          · have hc1 : 0 < (c.length : Int) := by omega
            have hc2 : 0 < c.length := by omega
            clear H4 hc0
            go_wp2_with fail
            go_ret
            exact ⟨rfl, hbl.out⟩
  · have c13 := first_bad v w (by omega)
    clear hv hcells
    go_enter Try.func12, Try.ntmps12
    go_wp2_with fail
    refine c13.mono ?_
    rintro e w1 ⟨rfl, rfl⟩
    go_wp2_with fail
    go_ret
    exact ⟨rfl, Below.refl _ _⟩
end Go.Proofs.Ytaileihnkmjfiaa
