/-
  PropOwn's walk. Conditions: those each theorem names.
-/
import Derived.Test.YtaileihnkmjfiaaW1
namespace Go.Proofs.Ytaileihnkmjfiaa
open Go.RowKit

/-- behind a step that turns nobody's blocks -/
theorem Stand.other {base : Nat} {w0 w w' : World} {b bb : Nat} {G GB : GH} {S : ES} {B : BK} {F F' : Nat → Prop} (h : Stand base w0 w b bb G GB S B) (t : Turned F w F' w') (hF : ∀ k, F k → base ≤ k ∧ ¬ ft G k ∧ ¬ fo GB k) : Stand base w0 w' b bb G GB S B :=
  ⟨h.eng.apart t (fun g h1 h2 => (hF g h2).2.1 h1), h.book.apart t (fun g h1 h2 => (hF g h2).2.2 h1), h.apart, h.ge, h.geb, h.below.trans (t.below (fun k hk => (hF k hk).1) h.size), Nat.le_trans h.size t.size⟩

/-- a new row is nobody's -/
theorem Stand.fresh {base : Nat} {w0 w : World} {b bb : Nat} {G GB : GH} {S : ES} {B : BK} (h : Stand base w0 w b bb G GB S B) {g : Nat} (hg : w.heap.size ≤ g) : base ≤ g ∧ ¬ ft G g ∧ ¬ fo GB g :=
  ⟨Nat.le_trans h.size hg, fun hf => by have := h.eng.flt hf; omega, fun hf => by have := h.book.flt hf; omega⟩

theorem reason_len {S : ES} (hok : S.Ok) (v : Int) : (S.reason v).length ≤ 65536 := by
  unfold ES.reason
  split
  · simp
  · rename_i h
    have := hok.rsn_rng v.toNat
    exact hok.cl_len _ (getD_mem' [] (by omega))
theorem conflict_len {S : ES} (hok : S.Ok) : S.conflict.length ≤ 65536 := by
  unfold ES.conflict
  split
  · simp
  · have := hok.clash_le
    exact hok.cl_len _ (getD_mem' [] (by omega))

/-- a row that was handed out lies where nothing lay -/
theorem new_ge {g : Option Nat} {n : Nat} (h : g = none ∨ g = some n) : ∀ k, g = some k → n ≤ k := by
  intro k hk
  rcases h with e | e
  · rw [e] at hk; cases hk
  · rw [e] at hk; cases hk; exact Nat.le_refl _

set_option maxHeartbeats 16000000 in
set_option maxRecDepth 100000 in
theorem own_walk (v : Int) (ops : List OpD) (a : Value) (w : World) (hs : ScrAt w a ops) (hA : weigh ops ≤ 1048576) :
    Calls Try.prog 11 #[i64 v, a] w fun e w' => e = .returned (.bool true) ∧ Below w.heap.size w w' := by
  obtain ⟨i0, hi0, hz0, hz1, hz2⟩ := info_parts Try.info3
  obtain ⟨ao, cap, rfl, hcap, hmax, hcells⟩ := hs
  have hlen := weigh_len ops
  by_cases hv : 0 ≤ v ∧ v ≤ 1048576
  · have c13 := first_any v w hv
    have hn : v.toNat ≤ 1048576 := by omega
    have HC := Lib.hid hcells
    clear hv hcells
    go_enter Try.func11, Try.ntmps11
    go_wp2_with fail
    refine c13.mono ?_
    rintro e w1 ⟨b, G, rfl, E, hb, hft⟩
    have H0 := Stand.new E hb hft hb.size
    clear c13
    go_wp2_with fail
    go_loopg [8] ops.length (fun gm s8 wr => ∃ i G GB S B, gm = ops.length - i ∧ i ≤ ops.length ∧ s8 = .int .i64 (i : Nat) ∧ Going w.heap.size w wr b w1.heap.size G GB S B (weigh ops) ops i)
    case atStart => exact ⟨0, G, obG w1.heap.size, ES.new v.toNat, ⟨[], []⟩, rfl, Nat.zero_le _, rfl, H0, ES.Live.new hn, ES.Agree.new _, Nat.zero_le _⟩
    case round =>
      obtain ⟨i, Gi, GB, S, B, rfl, hi, rfl, Hg⟩ := hrel
      by_cases hlt : i < ops.length
      · obtain ⟨sb, so, o, lv, rfl, ho, hl, hcell⟩ := script_op HC.out hlt
        have hlt' : (i : Int) < (ops.length : Int) := by omega
        obtain ⟨r0, r1, r2⟩ := hcell wr Hg.stand.below
        have hwt := weigh_take ops i o ho
        have hwl := weigh_take_le ops (i + 1)
        have hcost := Hg.cost
        have cD := does_any o lv Hg.stand Hg.live hA (by omega) Hg.bk rfl hl (by omega)
        have Hwt := Lib.hid hwt
        have Ho := Lib.hid ho
        clear hcell hwt ho hcost hl
        go_wp2_with fail
        refine cD.mono ?_
        rintro e w2 ⟨rfl, G2, GB2, H2⟩
        obtain ⟨L2, A2, K2⟩ := Hg.did hA Ho.out H2
        have ht2 : 3 * i + 1 ≤ 2097152 := by omega
        clear cD Hg r0 r1 r2
        generalize S.doS o = S1 at *
        generalize S.doB B o = B1 at *
        have hok := L2.good.inv.ok
        have htr := hok.tr_len
        have hnl := hok.n_le
        have HA2 := Lib.hid A2
        have htl : S1.tr.length ≤ 1048576 := by omega
        clear A2
        -- the first copy of the trail
        have cT := trail_any b G2 S1 w2 H2.eng hok
        go_wp2_with fail
        refine cT.mono ?_
        rintro e w3 ⟨dT, rfl, rwT, hTn, hTx, hTg, hblT⟩
        have H3 := H2.grown hblT
        have hTge := new_ge hTg
        have hTfr : ∀ k, dT.g = some k → w.heap.size ≤ k ∧ ¬ ft G2 k ∧ ¬ fo GB2 k := fun k hk => H2.fresh (hTge k hk)
        obtain ⟨aT, haT⟩ : ∃ aT, aT = Option.map (fun g => (⟨g, 0, none⟩ : Addr)) dT.g := ⟨_, rfl⟩
        have hTv : dT.v = .slice aT S1.tr.length dT.cap := by unfold RD.v sv; rw [hTn, haT]
        have hTle := rwT.le
        have hTmx := rwT.max
        unfold maxLen at hTmx
        rw [hTn] at hTle
        have RM : Rw (w3.alloc (.cells #[] 3)) 3 1 ⟨some w3.heap.size, 0, 0, []⟩ := Rw.new (n := 0) (sz := 1) (heap_alloc_new w3 (.cells #[] 3)) rfl (by simp [maxLen])
        have hb1 : 0 + S1.tr.length ≤ maxLen := by simp only [maxLen]; omega
        have hb2 : (0 + S1.tr.length) * 8 ≤ 140737488355328 := by omega
        have hao : aT = none → S1.tr.length = 0 := by rw [haT]; exact fun hn => hTn ▸ rwT.news0 hn
        have hnews : ∀ a, aT = some a → ∀ j u, (ints S1.tr)[j]? = some u → (w3.alloc (.cells #[] 3)).cell? (a.add j) = some u := by rw [← hTx, haT]; exact (rwT.alloc (.cells #[] 3)).news
        have hal : (ints S1.tr).length = S1.tr.length * 1 := by simp [ints]
        have HaT := Lib.hid haT
        have HTn := Lib.hid hTn
        have HTge := Lib.hid hTge
        have HTfr := Lib.hid hTfr
        have RT3 := Lib.hid rwT
        have H3h := Lib.hid H3
        rw [hTv]
        clear cT hTv hTn hTx hTg hblT hTge hTfr rwT haT H2 H3
        go_wp2_with (at_builtin; (refine wpList_append_rw rfl (.tmp 45) (.tmp 46) 28 rfl 3 i0 (.int .i64 0) 1 8 Try.underlying28 hi0 hz0 hz1 hz2 rfl (by decide) ⟨some w3.heap.size, 0, 0, []⟩ rfl RM aT S1.tr.length dT.cap (ints S1.tr) rfl hal hao hnews (ints_one _) hb1 hb2 ?go))
        case go =>
          intro dW w4 rwW en ex eg hgr
          have hbl : Below w3.heap.size w3 w4 := (((Below.refl _ w3).alloc (Nat.le_refl _) (.cells #[] 3))).grown hgr (by simp) (fun k e => by cases e; exact Nat.le_refl _)
          have hWn : dW.n = S1.tr.length := by simpa using en
          have hWx : dW.xs = ints S1.tr := by simpa using ex
          have hWg : ∀ g, dW.g = some g → w3.heap.size ≤ g := by
            intro g hg
            rcases eg with e | e
            · rw [e] at hg; cases hg; exact Nat.le_refl _
            · rw [e] at hg; cases hg; simp
          obtain ⟨aW, haW⟩ : ∃ aW, aW = Option.map (fun g => (⟨g, 0, none⟩ : Addr)) dW.g := ⟨_, rfl⟩
          have hWv : Value.slice (Option.map (fun g => { block := g, off := 0 }) dW.g) dW.n dW.cap = .slice aW S1.tr.length dW.cap := by rw [hWn, haW]
          rw [hWv]
          have HaW := Lib.hid haW
          have HWn := Lib.hid hWn
          have HWx := Lib.hid hWx
          have HWg := Lib.hid hWg
          have RT4 := Lib.hid (RT3.out.below hbl)
          have RW4 := Lib.hid rwW
          have H4 := H3h.out.grown hbl
          have Hbl4 := Lib.hid hbl
          have hWle := rwW.le
          have hWmx := rwW.max
          unfold maxLen at hWmx
          rw [hWn] at hWle
          clear en ex eg hgr hbl hWn hWx hWg haW hWv rwW RM hao hnews hal
          -- the second copy
          have cT := trail_any b G2 S1 w4 H4.eng hok
          go_wp2_with fail
          refine cT.mono ?_
          rintro e w5 ⟨dU, rfl, rwU, hUn, hUx, hUg, hblU⟩
          have H5 := Lib.hid (H4.grown hblU)
          have RT5 := Lib.hid (RT4.out.below hblU)
          have RW5 := Lib.hid (RW4.out.below hblU)
          have RU5 := Lib.hid rwU
          have HUg := Lib.hid (new_ge hUg)
          have HUn := Lib.hid hUn
          have HUx := Lib.hid hUx
          have Hsz4 : w3.heap.size ≤ w4.heap.size := Hbl4.out.size
          have HT3 := Lib.hid (fun g (hg : dT.g = some g) => RT3.out.lt hg)
          have hUv : dU.v = .slice (Option.map (fun g => (⟨g, 0, none⟩ : Addr)) dU.g) S1.tr.length dU.cap := by unfold RD.v sv; rw [hUn]
          have hUi := rwU.reads hUn hUx
          rw [hUv] at hUi
          rw [hUv]
          clear cT hUv hUi hUn hUx hUg hblU rwU H4
          go_wp2_with fail
          -- the first copy is written over
          go_loopg [12] S1.tr.length (fun gm s12 wr => ∃ (k : Nat) (xs : List Value), gm = S1.tr.length - k ∧ k ≤ S1.tr.length ∧ s12 = .int .i64 (k : Nat) ∧ Rw wr 3 1 { dT with xs := xs } ∧ Turned (onlyAt dT.g) w5 (onlyAt dT.g) wr)
          case atStart => exact ⟨0, dT.xs, rfl, Nat.zero_le _, rfl, RT5.out, Turned.refl _ _⟩
          case round =>
            obtain ⟨k, xs, rfl, hk, rfl, RA, TA⟩ := hrel
            by_cases hkl : k < S1.tr.length
            · have hkl' : (k : Int) < (S1.tr.length : Int) := by omega
              obtain ⟨g, hg⟩ := RA.isome (by show 0 < dT.n; have := HTn.out; omega)
              have hg : dT.g = some g := hg
              have hlenx : xs.length = dT.n * 1 := RA.len
              have hkx : k < xs.length := by have := HTn.out; omega
              have ec : wr.cell? ⟨g, k, none⟩ = xs[k]? := RA.cell (i := k) hg hkx
              obtain ⟨x, hx⟩ : ∃ x, xs[k]? = some x := ⟨xs[k]'(by omega), by simp⟩
              rw [hx] at ec
              have fz := RA.frozen (i := k) hg
              have RA2 := Lib.hid (RA.set (i := k) hg (.int .i64 7777777))
              have TA2 := Lib.hid (TA.trans (Turned.setCell wr ⟨g, k, none⟩ (.int .i64 7777777) (show onlyAt dT.g g from hg)))
              have Hg := Lib.hid hg
              obtain rfl : aT = some ⟨g, 0, none⟩ := by rw [HaT.out, hg]; rfl
              clear RA TA hg hx hlenx
              go_wp2_with fail
              go_roundg (S1.tr.length - (k + 1))
              case measure => omega
              case rel => exact ⟨k + 1, xs.set k (.int .i64 7777777), rfl, by omega, by go_num, RA2.out, TA2.out⟩
            · obtain rfl : k = S1.tr.length := by omega
              have hkl' : ¬ ((S1.tr.length : Int) < (S1.tr.length : Int)) := by omega
              have RA3 := Lib.hid RA
              have TA3 := Lib.hid TA
              clear RA TA
              go_wp2_with fail
              -- and grown
              go_loopg [9, 13] 16 (fun gm s9 s13 wx => ∃ (k : Nat) (d : RD), gm = 16 - k ∧ k ≤ 16 ∧ s13 = .int .i64 (k : Nat) ∧ s9 = .slice (Option.map (fun g => { block := g, off := 0 }) d.g) (S1.tr.length + k) d.cap ∧ d.n = S1.tr.length + k ∧ Rw wx 3 1 d ∧ Turned (onlyAt dT.g) w5 (onlyAt d.g) wx)
              case atStart => exact ⟨0, { dT with xs := xs }, rfl, Nat.zero_le _, rfl, by rw [HaT.out]; rfl, by rw [HTn.out]; rfl, RA3.out, TA3.out⟩
              case round =>
                obtain ⟨k, d, rfl, hk, rfl, rfl, hdn, RD_, TD⟩ := hrel
                by_cases hkl : k < 16
                · have hkl' : (k : Int) < 16 := by omega
                  have R2 := RD_.alloc (.cells #[.int .i64 8888888] 3)
                  have T2 := Lib.hid (TD.trans (Turned.alloc (onlyAt d.g) wr (.cells #[.int .i64 8888888] 3)))
                  have hq1 : d.n + 1 ≤ maxLen := by simp only [maxLen]; omega
                  have hq2 : (d.n + 1) * 8 ≤ 140737488355328 := by omega
                  have hdv2 : Value.slice (Option.map (fun g => { block := g, off := 0 }) d.g) (S1.tr.length + k) d.cap = d.v := by unfold RD.v sv; rw [hdn]
                  have Hdv2 := Lib.hid hdv2
                  have Hdn := Lib.hid hdn
                  clear hdv2 hdn RD_ TD
                  go_wp2_with (at_builtin; (refine wpList_append_rw rfl (.tmp 63) (.tmp 64) 28 rfl 3 i0 (.int .i64 0) 1 8 Try.underlying28 hi0 hz0 hz1 hz2 rfl (by decide) d Hdv2.out R2 (some ⟨wr.heap.size, 0, none⟩) 1 1 [.int .i64 8888888] rfl rfl (fun h => by cases h) (new_one wr _ 3) (one_i64 _) hq1 hq2 ?go))
                  case go =>
                    intro d' w6 rw6 en ex eg hgr
                    have hdv5 : Value.slice (Option.map (fun g => { block := g, off := 0 }) d'.g) d'.n d'.cap = Value.slice (Option.map (fun g => { block := g, off := 0 }) d'.g) (S1.tr.length + (k + 1)) d'.cap := by rw [en, Hdn.out]; rfl
                    rw [hdv5]
                    have T5 := Lib.hid (T2.out.trans (Turned.aside (g' := d'.g) hgr (by simpa using eg)))
                    have En := Lib.hid en
                    have R5 := Lib.hid rw6
                    clear en ex eg hgr hdv5 rw6
                    go_wp2_with fail
                    go_roundg (16 - (k + 1))
                    case measure => omega
                    case rel => exact ⟨k + 1, d', rfl, by omega, by go_num, rfl, by rw [En.out, Hdn.out]; omega, R5.out, T5.out⟩
                · obtain rfl : k = 16 := by omega
                  have H6 := H5.out.other TD HTfr.out
                  have RW6 : Rw wr 3 1 dW := RW5.out.other TD (fun g hg hF => by have h1 := HWg.out g hg; have h2 := HT3.out g hF; omega)
                  have RU6 : Rw wr 3 1 dU := RU5.out.other TD (fun g hg hF => by have h1 := HUg.out g hg; have h2 := HT3.out g hF; omega)
                  have iW := RW6.reads HWn.out HWx.out
                  have hWv2 : dW.v = .slice aW S1.tr.length dW.cap := by unfold RD.v sv; rw [HWn.out, HaW.out]
                  rw [hWv2] at iW
                  have iU := RU6.reads HUn.out HUx.out
                  have hUv2 : dU.v = .slice (Option.map (fun g => (⟨g, 0, none⟩ : Addr)) dU.g) S1.tr.length dU.cap := by unfold RD.v sv; rw [HUn.out]
                  rw [hUv2] at iU
                  have cS := same_any _ _ S1.tr wr iU iW
                  have HW6 := Lib.hid RW6
                  have IW := Lib.hid iW
                  clear RW6 RU6 iU iW hWv2 hUv2 TD hdn RD_
                  go_wp2_with fail
                  refine cS.mono ?_
                  rintro e w7 ⟨rfl, hd7⟩
                  have H7 := H6.drawn hd7
                  have RW7 : Hid (Rw w7 3 1 dW) := by obtain ⟨m, rfl⟩ := hd7; exact HW6.out.drewN
                  have IW7 := Lib.hid (hd7.ints IW.out)
                  have cT := trail_any b G2 S1 w7 H7.eng hok
                  clear cS hd7 H6
                  go_wp2_with fail
                  refine cT.mono ?_
                  rintro e w8 ⟨dX, rfl, rwX, hXn, hXx, hXg, hblX⟩
                  have H8 := H7.grown hblX
                  have RW8 := Lib.hid (RW7.out.below hblX)
                  have IW8 := IW7.out.below hblX
                  have iX := rwX.reads hXn hXx
                  have hXv : dX.v = .slice (Option.map (fun g => (⟨g, 0, none⟩ : Addr)) dX.g) S1.tr.length dX.cap := by unfold RD.v sv; rw [hXn]
                  rw [hXv] at iX
                  rw [hXv]
                  have cS := same_any _ _ S1.tr w8 iX IW8
                  have HIW8 := Lib.hid IW8
                  clear cT iX hXv hXn hXx hXg hblX rwX IW8 H7
                  go_wp2_with fail
                  refine cS.mono ?_
                  rintro e w9 ⟨rfl, hd9⟩
                  have H9 := H8.drawn hd9
                  have RW9 : Hid (Rw w9 3 1 dW) := by obtain ⟨m, rfl⟩ := hd9; exact RW8.out.drewN
                  clear cS hd9 H8
                  by_cases h0 : S1.tr.length = 0
                  · have h0' : ((S1.tr.length : Int) == 0) = true := by simp [h0]
                    clear h0
                    go_wp2_with fail
                    go_roundg (ops.length - (i + 1))
                    case measure => omega
                    case rel => exact ⟨i + 1, G2, GB2, S1, B1, rfl, by omega, by go_num, H9, L2.more (by omega), HA2.out, K2⟩
                  · have h0' : ((S1.tr.length : Int) == 0) = false := by rw [beq_eq_false_iff_ne]; omega
                    obtain ⟨n, hn1⟩ : ∃ n, S1.tr.length = n + 1 := ⟨S1.tr.length - 1, by omega⟩
                    obtain ⟨gW, hgW⟩ := RW9.out.isome (by have := HWn.out; omega)
                    obtain rfl : aW = some ⟨gW, 0, none⟩ := by rw [HaW.out, hgW]; rfl
                    have hidx : ((S1.tr.length : Int) - 1).toNat = n := by omega
                    have hib1 : 0 ≤ (S1.tr.length : Int) - 1 := by omega
                    have hib2 : 1 ≤ (S1.tr.length : Int) := by omega
                    have hnl2 : n < S1.tr.length := by omega
                    have eWof : ∀ w', Rw w' 3 1 dW → w'.cell? ⟨gW, n, none⟩ = some (i64 (S1.tr.getD n 0)) := by
                      intro w' hR
                      exact hR.cellv hgW (by rw [HWx.out]; simp [ints, List.getD, hnl2])
                    have eW := eWof w9 RW9.out
                    obtain ⟨lev, hT⟩ := told L2.good HA2.out hnl2
                    have HEW := Lib.hid eWof
                    have Hidx := Lib.hid hidx
                    have Hn1 := Lib.hid hn1
                    have HgW := Lib.hid hgW
                    clear h0 hn1 eWof hgW
                    generalize hla : S1.tr.getD n 0 = la at *
                    have Hla := Lib.hid hla
                    have HT := Lib.hid hT
                    have hlr : -1048576 ≤ la ∧ la ≤ 1048576 := by have h1 := hT.abs; have h2 := hT.rng; omega
                    clear hla hT
                    go_upto_if 95 with (fail)
                    go_cut [14] (fun s14 wx => s14 = .int .i64 (la.natAbs : Nat) ∧ w9 = wx)
                    case first =>
                      by_cases hneg : la < 0
                      · obtain ⟨y, rfl, hy0⟩ := nat_of_neg hneg
                        clear hidx eW
                        go_wp2_with fail
                        go_meet
                        exact ⟨by rw [natAbs_neg'], rfl⟩
                      · obtain ⟨y, rfl⟩ := nat_of_pos hneg
                        clear hidx eW
                        go_wp2_with fail
                        go_meet
                        exact ⟨by rw [natAbs_pos'], rfl⟩
                    case rest =>
                      obtain ⟨rfl, rfl⟩ := hcut
                      have hrl := reason_len hok (la.natAbs : Int)
                      have hcl := conflict_len hok
                      have cR := fun w' (h : Eng w' b G2 S1) => reason_any b G2 S1 (la.natAbs : Int) w' h hok
                      have cC := fun w' (h : Eng w' b G2 S1) => conflict_any b G2 S1 w' h hok
                      have cL := fun w' (h : Eng w' b G2 S1) => levelOf_any b G2 S1 (la.natAbs : Int) w' h hok.dim
                      rw [HT.out.lev_eq] at cL
                      have Hwhy := Lib.hid HT.out.why
                      generalize S1.reason (la.natAbs : Int) = r at *
                      generalize S1.conflict = cf at *
                      generalize la.natAbs = va at *
                      have CR := Lib.hid cR
                      have CC := Lib.hid cC
                      have CL := Lib.hid cL
                      have Hrl := Lib.hid hrl
                      have Hcl := Lib.hid hcl
                      have H9h := Lib.hid H9
                      have HEW9 := Lib.hid eW
                      clear cR cC cL hrl hcl H9 eW hidx HT
                      go_wp2_with fail
                      refine (CR.out _ H9h.out.eng).mono ?_
                      rintro e w10 ⟨d1, rfl, rw1, h1n, h1x, h1g, hbl1⟩
                      have H10 := Lib.hid (H9h.out.grown hbl1)
                      have RW10 := Lib.hid (RW9.out.below hbl1)
                      have R1 := Lib.hid rw1
                      have H1n := Lib.hid h1n
                      have H1g := Lib.hid (new_ge h1g)
                      have H1f := Lib.hid (fun k (hk : d1.g = some k) => H9h.out.fresh (new_ge h1g k hk))
                      have HWlt := Lib.hid (fun g (hg : dW.g = some g) => RW9.out.lt hg)
                      clear rw1 h1n h1x h1g hbl1
                      go_wp2_with fail
                      refine (CR.out _ H10.out.eng).mono ?_
                      rintro e w11 ⟨d2, rfl, rw2, h2n, h2x, h2g, hbl2⟩
                      have H11 := Lib.hid (H10.out.grown hbl2)
                      have RW11 := Lib.hid (RW10.out.below hbl2)
                      have R1b := Lib.hid (R1.out.below hbl2)
                      have hne : ∀ g, d1.g = some g → d2.g ≠ some g := fun g hg hg2 => by have h1 := R1.out.lt hg; have h2 := new_ge h2g g hg2; omega
                      have cAl := alone_any d1 d2 r w11 R1b.out (by rw [H1n.out]; exact Hrl.out) rw2 h2n h2x Hrl.out hne
                      clear rw2 h2n h2x h2g hbl2 hne
                      go_wp2_with fail
                      refine cAl.mono ?_
                      rintro e w12 ⟨rfl, F12, T12⟩
                      have H12 := Lib.hid (H11.out.other T12 H1f.out)
                      have RW12 : Hid (Rw w12 3 1 dW) := RW11.out.other T12 (fun g hg hF => by have h1 := H1g.out g hF; have h2 := HWlt.out g hg; omega)
                      clear cAl T12
                      go_wp2_with fail
                      refine (CC.out _ H12.out.eng).mono ?_
                      rintro e w13 ⟨d3, rfl, rw3, h3n, h3x, h3g, hbl3⟩
                      have H13 := Lib.hid (H12.out.grown hbl3)
                      have RW13 := Lib.hid (RW12.out.below hbl3)
                      have R3 := Lib.hid rw3
                      have H3n := Lib.hid h3n
                      have H3f := Lib.hid (fun k (hk : d3.g = some k) => H12.out.fresh (new_ge h3g k hk))
                      have H3g := Lib.hid (new_ge h3g)
                      have HWlt2 := Lib.hid (fun g (hg : dW.g = some g) => RW12.out.lt hg)
                      clear rw3 h3n h3x h3g hbl3
                      go_wp2_with fail
                      refine (CC.out _ H13.out.eng).mono ?_
                      rintro e w14 ⟨d4, rfl, rw4, h4n, h4x, h4g, hbl4⟩
                      have H14 := Lib.hid (H13.out.grown hbl4)
                      have RW14 := Lib.hid (RW13.out.below hbl4)
                      have R3b := Lib.hid (R3.out.below hbl4)
                      have hne : ∀ g, d3.g = some g → d4.g ≠ some g := fun g hg hg2 => by have h1 := R3.out.lt hg; have h2 := new_ge h4g g hg2; omega
                      have cAl := alone_any d3 d4 cf w14 R3b.out (by rw [H3n.out]; exact Hcl.out) rw4 h4n h4x Hcl.out hne
                      clear rw4 h4n h4x h4g hbl4 hne
                      go_wp2_with fail
                      refine cAl.mono ?_
                      rintro e w15 ⟨rfl, F15, T15⟩
                      have H15 := H14.out.other T15 H3f.out
                      have RW15 : Rw w15 3 1 dW := RW14.out.other T15 (fun g hg hF => by have h1 := H3g.out g hF; have h2 := HWlt2.out g hg; omega)
                      clear cAl T15
                      go_wp2_with fail
                      refine (CL.out _ H15.eng).mono ?_
                      rintro e w16 ⟨rfl, rfl⟩
                      have f1 := H15.book.field (i := 1) (u := sv (GB2.g (.inl 3)) B1.dc.length (GB2.c (.inl 3))) rfl
                      unfold sv at f1
                      have hdc : B1.dc.length ≤ 1048576 := by rw [HA2.out.dc, ES.decs_len]; have := hok.mks_len; omega
                      have hdc2 : (B1.dc.length : Int) ≤ 1048576 := by omega
                      have eW := HEW.out w15 RW15
                      have hidx := Hidx.out
                      rcases Hwhy.out with ⟨j, hj1, hj2, hj3, hj4⟩ | ⟨hlev, hin, hmem, hoth⟩
                      · subst hj1
                        obtain ⟨g2, hg2⟩ := H15.book.l2 (by omega)
                        have f1' : w15.cell? ⟨w1.heap.size, 1, none⟩ = some (.slice (some ⟨g2, 0, none⟩) B1.dc.length (GB2.c (.inl 3))) := f1.trans (by rw [hg2]; rfl)
                        have ej : w15.cell? ⟨g2, j, none⟩ = some (i64 la) := by rw [H15.book.e2 hg2 (k := j) (u := i64 (B1.dc.getD j 0)) (by simp [ints, List.getD, hj2]), hj3]
                        have hj0 : 0 ≤ (j : Int) := by omega
                        have hj5 : (j : Int) < (B1.dc.length : Int) := by omega
                        have hj6 : (j : Int) + 1 ≤ (B1.dc.length : Int) := by omega
                        have HD := fun k => H15.drewN k
                        have hge1 : decide (1 ≤ (j : Int) + 1) = true := by simp; omega
                        have hw2 : IntKind.i64.wrap ((S1.tr.length : Int) - 1) = (S1.tr.length : Int) - 1 := IntWalk.i64_in _ (by omega)
                        have hw1 : IntKind.i64.wrap (j : Int) = (j : Int) := IntWalk.i64_in _ (by omega)
                        clear f1 hj3 hj2 hj4 H15 RW15 hdc
                        go_wp2_with fail
                        go_quiet (fail)
                        clear hw1 hw2 hidx
                        go_wp2_with fail
                        go_roundg (ops.length - (i + 1))
                        case measure => omega
                        case rel => exact ⟨i + 1, G2, GB2, S1, B1, rfl, by omega, by go_num, HD _, L2.more (by omega), HA2.out, K2⟩
                      · rcases hlev with hlev | ⟨j, hlev, hj2, hj3⟩
                        · subst hlev
                          have HD := fun k => H15.drewN k
                          clear f1 H15 RW15 hdc hin hmem hoth
                          go_wp2_with fail
                          go_quiet (fail)
                          go_wp2_with fail
                          go_roundg (ops.length - (i + 1))
                          case measure => omega
                          case rel => exact ⟨i + 1, G2, GB2, S1, B1, rfl, by omega, by go_num, HD _, L2.more (by omega), HA2.out, K2⟩
                        · subst hlev
                          obtain ⟨g2, hg2⟩ := H15.book.l2 (by omega)
                          have f1' : w15.cell? ⟨w1.heap.size, 1, none⟩ = some (.slice (some ⟨g2, 0, none⟩) B1.dc.length (GB2.c (.inl 3))) := f1.trans (by rw [hg2]; rfl)
                          have ej : w15.cell? ⟨g2, j, none⟩ = some (i64 (B1.dc.getD j 0)) := H15.book.e2 hg2 (k := j) (u := i64 (B1.dc.getD j 0)) (by simp [ints, List.getD, hj2])
                          have hjb : (B1.dc.getD j 0 != la) = true := by simpa using hj3
                          generalize B1.dc.getD j 0 = y at *
                          have hj0 : 0 ≤ (j : Int) := by omega
                          have hj5 : (j : Int) < (B1.dc.length : Int) := by omega
                          have hj6 : (j : Int) + 1 ≤ (B1.dc.length : Int) := by omega
                          have hge1 : decide (1 ≤ (j : Int) + 1) = true := by simp; omega
                          have hw2 : IntKind.i64.wrap ((S1.tr.length : Int) - 1) = (S1.tr.length : Int) - 1 := IntWalk.i64_in _ (by omega)
                          have hw1 : IntKind.i64.wrap (j : Int) = (j : Int) := IntWalk.i64_in _ (by omega)
                          have cR := CR.out _ H15.drew.eng
                          have H15h := Lib.hid H15
                          have RW15h := Lib.hid RW15
                          have Hin := Lib.hid hin
                          clear f1 hj3 hj2 H15 RW15 hdc hin hmem hoth
                          go_wp2_with fail
                          have hS17 : ∀ w', Below w15.drew.heap.size w15.drew w' → w'.cell? ⟨w1.heap.size, 1, none⟩ = some (.slice (some ⟨g2, 0, none⟩) B1.dc.length (GB2.c (.inl 3))) ∧ w'.cell? ⟨g2, j, none⟩ = some (i64 y) ∧ w'.cell? ⟨gW, n, none⟩ = some (i64 la) := fun w' hb =>
                            ⟨(hb.cell (p := ⟨w1.heap.size, 1, none⟩) (World.block_lt_of_cell? w15 _ f1')).trans f1', (hb.cell (p := ⟨g2, j, none⟩) (World.block_lt_of_cell? w15 _ ej)).trans ej, (hb.cell (p := ⟨gW, n, none⟩) (World.block_lt_of_cell? w15 _ eW)).trans eW⟩
                          have HS17 := Lib.hid hS17
                          have hib3 : (S1.tr.length : Int) - 1 < (S1.tr.length : Int) := by have := Hn1.out; omega
                          clear hS17
                          go_region_held3 (fun w' => w'.cell? ⟨w1.heap.size, 1, none⟩ = some (.slice (some ⟨g2, 0, none⟩) B1.dc.length (GB2.c (.inl 3))) ∧ w'.cell? ⟨g2, j, none⟩ = some (i64 y) ∧ w'.cell? ⟨gW, n, none⟩ = some (i64 la))
                            (first | go_keep | exact HS17b.out)
                            (first
                              | (go_at_call 27; refine cR.mono ?_; rintro e w17 ⟨d5, rfl, rw5, h5n, h5x, h5g, hbl5⟩; have H17 := Lib.hid (H15h.out.drew.grown hbl5); have HS17b := Lib.hid (HS17.out w17 hbl5); have cH := has_any d5.v r la w17 (rw5.reads h5n h5x); rw [decide_eq_true Hin.out] at cH; clear rw5 h5n h5x h5g hbl5)
                              | (go_at_call 29; refine cH.mono ?_; rintro e w18 ⟨rfl, rfl⟩))
                          all_goals
                            clear hw1 hw2 hidx
                            go_wp2_with fail
                            go_roundg (ops.length - (i + 1))
                            case measure => omega
                            case rel => exact ⟨i + 1, G2, GB2, S1, B1, rfl, by omega, by go_num, H17.out, L2.more (by omega), HA2.out, K2⟩
      · have hlt' : ¬ ((i : Int) < (ops.length : Int)) := by omega
        have hbl := Lib.hid Hg.stand.below
        clear Hg
        go_wp2_with fail
        go_ret
        exact ⟨rfl, hbl.out⟩
  · have c13 := first_bad v w (by omega)
    clear hv hcells
    go_enter Try.func11, Try.ntmps11
    go_wp2_with fail
    refine c13.mono ?_
    rintro e w1 ⟨rfl, rfl⟩
    go_wp2_with fail
    go_ret
    exact ⟨rfl, Below.refl _ _⟩
end Go.Proofs.Ytaileihnkmjfiaa
