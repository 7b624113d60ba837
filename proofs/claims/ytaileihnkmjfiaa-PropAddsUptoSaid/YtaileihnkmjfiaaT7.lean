/-
  Propagate of the engine empties its queues. Conditions: the engine lies in the world, and what each theorem names.
-/
import Derived.Test.YtaileihnkmjfiaaT6
namespace Go.Proofs.Ytaileihnkmjfiaa
open Go.RowKit

namespace ES
def pop (S : ES) : ES := { S with fr := S.fr.dropLast }
def lastFr (S : ES) : Nat := S.fr.getD (S.fr.length - 1) 0
def popGo : Nat → ES → ES × Bool
  | 0, S => (S, true)
  | n + 1, S => if (S.pop.settle S.lastFr).2 then popGo n (S.pop.settle S.lastFr).1 else ((S.pop.settle S.lastFr).1, false)
def PopOk : Nat → ES → Prop
  | 0, S => S.fr.length = 0
  | n + 1, S => S.fr.length = n + 1 ∧ S.fr.length ≤ 8796093022208 ∧ S.pop.Ok ∧ S.pop.Room 2 ∧ S.lastFr < S.cs.length ∧ ((S.pop.settle S.lastFr).2 = true → PopOk n (S.pop.settle S.lastFr).1)
def step1 (S : ES) : ES := { S with head := S.head + 1 }
def nextL (S : ES) : Int := -(S.tr.getD S.head 0)
def headGo : Nat → ES → ES × Bool
  | 0, S => (S, true)
  | f + 1, S =>
    if S.head < S.tr.length then
      if (S.step1.visit S.nextL).2 then headGo f (S.step1.visit S.nextL).1
      else ({ (S.step1.visit S.nextL).1 with head := (S.step1.visit S.nextL).1.head - 1 }, false)
    else (S, true)
def HeadOk : Nat → ES → Prop
  | 0, S => S.tr.length ≤ S.head ∧ S.head ≤ 1048577 ∧ S.tr.length ≤ 1048577
  | f + 1, S => S.head ≤ 1048577 ∧ S.tr.length ≤ 1048577 ∧ (S.head < S.tr.length →
      S.step1.Ok ∧ (S.nextL ≠ 0 ∧ S.nextL.natAbs ≤ S.n) ∧ S.turn ≤ 1152921504606846976 ∧ (∀ i, (S.wt.getD i []).length ≤ 8796093022208) ∧
      (pl S.nextL < S.wt.length → VOk S.nextL (S.wt.getD (pl S.nextL) []) (S.wt.getD (pl S.nextL) []) { S.step1 with turn := S.turn + 1 } []) ∧
      (1 ≤ (S.step1.visit S.nextL).1.head ∧ (S.step1.visit S.nextL).1.head ≤ 1048577) ∧
      ((S.step1.visit S.nextL).2 = true → HeadOk f (S.step1.visit S.nextL).1))
def propagate (S : ES) : ES × Bool :=
  if S.clash ≠ 0 then (S, false)
  else if (popGo S.fr.length S).2 then headGo (S.n + 1) (popGo S.fr.length S).1 else ((popGo S.fr.length S).1, false)
end ES

theorem Eng.cut9 {w : World} {b : Nat} {G : GH} {S : ES} (h : Eng w b G S) {g : Nat} (hg : G.g (.inl 9) = some g) (m : Nat) (hm : m ≤ S.tr.length) :
    Eng (w.setCell ⟨b, 9, none⟩ (.slice (some ⟨g, 0, none⟩) m (G.c (.inl 9)))) b G { S with tr := S.tr.take m } := by
  have r0 := (h.row (.inl 9)).cut m (by simpa [engD] using hm)
  have O := h.own.put (.inl 9) (D := engD G S) r0 (.inl rfl) ⟨rfl, rfl, rfl, Nat.le_refl _, fun _ _ _ => rfl⟩
  have O2 := O.set (.inl 16) (g := b) 9 (.slice (some ⟨g, 0, none⟩) m (G.c (.inl 9))) h.at_
  refine ⟨?_, h.at_, h.out0, h.out1, h.out2⟩
  refine Eq.mp (congrArg (Own engT _) ?_) O2
  have hmin : min m S.tr.length = m := Nat.min_eq_left hm
  refine engD_ext (fun f hf => by rw [upd_inl, if_neg (other_ne hf rfl), upd_inl, if_neg (other_ne hf rfl), engD_other G S f hf]) rfl rfl rfl rfl rfl rfl rfl ?_ rfl rfl rfl ?_ (fun _ => rfl) (fun _ => rfl) (fun _ => rfl) (fun _ _ => rfl)
  · show (⟨_, _, _, _⟩ : RD) = ⟨_, _, _, _⟩
    simp [engD, engT, ints, List.map_take, hmin]
  · show (⟨_, _, _, _⟩ : RD) = ⟨_, _, _, _⟩
    simp [engD, stc, sv, hg, upd, hmin]

theorem Eng.cut10 {w : World} {b : Nat} {G : GH} {S : ES} (h : Eng w b G S) {g : Nat} (hg : G.g (.inl 10) = some g) (m : Nat) (hm : m ≤ S.mks.length) :
    Eng (w.setCell ⟨b, 10, none⟩ (.slice (some ⟨g, 0, none⟩) m (G.c (.inl 10)))) b G { S with mks := S.mks.take m } := by
  have r0 := (h.row (.inl 10)).cut m (by simpa [engD] using hm)
  have O := h.own.put (.inl 10) (D := engD G S) r0 (.inl rfl) ⟨rfl, rfl, rfl, Nat.le_refl _, fun _ _ _ => rfl⟩
  have O2 := O.set (.inl 16) (g := b) 10 (.slice (some ⟨g, 0, none⟩) m (G.c (.inl 10))) h.at_
  refine ⟨?_, h.at_, h.out0, h.out1, h.out2⟩
  refine Eq.mp (congrArg (Own engT _) ?_) O2
  have hmin : min m S.mks.length = m := Nat.min_eq_left hm
  refine engD_ext (fun f hf => by rw [upd_inl, if_neg (other_ne hf rfl), upd_inl, if_neg (other_ne hf rfl), engD_other G S f hf]) rfl rfl rfl rfl rfl rfl rfl rfl ?_ rfl rfl ?_ (fun _ => rfl) (fun _ => rfl) (fun _ => rfl) (fun _ _ => rfl)
  · show (⟨_, _, _, _⟩ : RD) = ⟨_, _, _, _⟩
    simp [engD, engT, nats, List.map_take, hmin]
  · show (⟨_, _, _, _⟩ : RD) = ⟨_, _, _, _⟩
    simp [engD, stc, sv, hg, upd, hmin]

theorem Eng.cut13 {w : World} {b : Nat} {G : GH} {S : ES} (h : Eng w b G S) {g : Nat} (hg : G.g (.inl 13) = some g) (m : Nat) (hm : m ≤ S.fr.length) :
    Eng (w.setCell ⟨b, 13, none⟩ (.slice (some ⟨g, 0, none⟩) m (G.c (.inl 13)))) b G { S with fr := S.fr.take m } := by
  have r0 := (h.row (.inl 13)).cut m (by simpa [engD] using hm)
  have O := h.own.put (.inl 13) (D := engD G S) r0 (.inl rfl) ⟨rfl, rfl, rfl, Nat.le_refl _, fun _ _ _ => rfl⟩
  have O2 := O.set (.inl 16) (g := b) 13 (.slice (some ⟨g, 0, none⟩) m (G.c (.inl 13))) h.at_
  refine ⟨?_, h.at_, h.out0, h.out1, h.out2⟩
  refine Eq.mp (congrArg (Own engT _) ?_) O2
  have hmin : min m S.fr.length = m := Nat.min_eq_left hm
  refine engD_ext (fun f hf => by rw [upd_inl, if_neg (other_ne hf rfl), upd_inl, if_neg (other_ne hf rfl), engD_other G S f hf]) rfl rfl rfl rfl rfl rfl rfl rfl rfl ?_ rfl ?_ (fun _ => rfl) (fun _ => rfl) (fun _ => rfl) (fun _ _ => rfl)
  · show (⟨_, _, _, _⟩ : RD) = ⟨_, _, _, _⟩
    simp [engD, engT, nats, List.map_take, hmin]
  · show (⟨_, _, _, _⟩ : RD) = ⟨_, _, _, _⟩
    simp [engD, stc, sv, hg, upd, hmin]

theorem slice_to (g n m c : Nat) (h1 : m ≤ c) : ∀ w, (Instr.slice 28 (.slice (some ⟨g, 0, none⟩) n c) none (some (.int .i64 (m : Int))) none).run Try.prog w = .ok (.slice (some ⟨g, 0, none⟩) m c) w := by
  obtain ⟨i0, hi, hz0, hz1, hz2⟩ := info_parts Try.info3
  intro w
  have a2 : (m : Int) ≤ (c : Int) := by omega
  simp [Instr.slice, run_underlying Try.underlying28, Instr.sliceBounds, run_sliceBound, sizeOf, typeInfo, hi, a2, Addr.add]

set_option maxHeartbeats 4000000 in
set_option maxRecDepth 100000 in
theorem propagate_any (b : Nat) (G : GH) (S : ES) (w : World) (h : Eng w b G S) (_hcl : S.clash ≤ 1048577) (hP : S.clash = 0 → ES.PopOk S.fr.length S) (hH : S.clash = 0 → (ES.popGo S.fr.length S).2 = true → ES.HeadOk (S.n + 1) (ES.popGo S.fr.length S).1) :
    Calls Try.prog 15 #[.pointer (some ⟨b, 0, none⟩)] w fun e w' => e = .returned (.bool S.propagate.2) ∧ ∃ G', Eng w' b G' S.propagate.1 ∧ Turned (ft G) w (ft G') w' := by
  have c12 := h.f12
  have HPr : Hid (S.propagate = if S.clash ≠ 0 then (S, false) else if (ES.popGo S.fr.length S).2 then ES.headGo (S.n + 1) (ES.popGo S.fr.length S).1 else ((ES.popGo S.fr.length S).1, false)) := rfl
  by_cases hc : S.clash = 0
  · have b12 : ((S.clash : Int) != 0) = false := by simpa using hc
    have hP := hP hc
    have hH := hH hc
    go_enter Try.func15, Try.ntmps15
    go_wp2_with fail
    have HP := Lib.hid hP
    have HH := Lib.hid hH
    have HC := Lib.hid hc
    clear hP hH hc
    go_loopg [3] S.fr.length (fun m (_ : Value) wr => ∃ Si Gi, Eng wr b Gi Si ∧ Turned (ft G) w (ft Gi) wr ∧ ES.PopOk m Si ∧ ES.popGo m Si = ES.popGo S.fr.length S)
    case atStart => exact ⟨S, G, h, Turned.refl _ _, HP.out, rfl⟩
    case round =>
      obtain ⟨Si, Gi, E, T, hP, hres⟩ := hrel
      cases gk with
      | zero =>
        have hl0 : Si.fr.length = 0 := hP
        have c13 := E.f13
        unfold sv at c13
        rw [hl0] at c13
        have HRes := Lib.hid hres
        clear hres hP hl0
        go_wp2_with fail
        have hres1 : ES.popGo S.fr.length S = (Si, true) := HRes.out.symm
        have hHd : ES.HeadOk (S.n + 1) Si := by have := HH.out (by rw [hres1]); rw [hres1] at this; exact this
        have HPr2 : Hid (S.propagate = ES.headGo (S.n + 1) Si) := by show _ = _; rw [HPr.out, if_neg (by simp [HC.out]), hres1]; simp
        have HHd := Lib.hid hHd
        clear hres1 hHd HRes HP HH c13
        go_loopg [45] (S.n + 1) (fun m (_ : Value) wx => ∃ Sj Gj, Eng wx b Gj Sj ∧ Turned (ft G) w (ft Gj) wx ∧ ES.HeadOk m Sj ∧ ES.headGo m Sj = ES.headGo (S.n + 1) Si)
        case atStart => exact ⟨Si, Gi, E, T, HHd.out, rfl⟩
        case round =>
          obtain ⟨Sj, Gj, Ej, Tj, hHj, hrj⟩ := hrel
          have f11 := Ej.f11
          have f9 := Ej.f9
          unfold sv at f9
          have exitW : Sj.tr.length ≤ Sj.head → ES.headGo gk Sj = (Sj, true) := by
            intro hle
            cases gk with
            | zero => rfl
            | succ f => rw [ES.headGo, if_neg (by omega)]
          have hb1 : Sj.head ≤ 1048577 ∧ Sj.tr.length ≤ 1048577 := by
            cases gk with
            | zero => exact ⟨hHj.2.1, hHj.2.2⟩
            | succ f => exact ⟨hHj.1, hHj.2.1⟩
          by_cases hlt : Sj.head < Sj.tr.length
          · cases gk with
            | zero => exact absurd hHj.1 (by omega)
            | succ f =>
              obtain ⟨_, _, hstep⟩ := hHj
              obtain ⟨hOk, hL, htu, hlen, hV, hhd, hnx⟩ := hstep hlt
              obtain ⟨ta, hta⟩ := Ej.lies (.inl 9) (by simp only [engD]; omega)
              have hta : Gj.g (.inl 9) = some ta := hta
              have hlt' : ((Sj.head : Int) < (Sj.tr.length : Int)) := by omega
              have hvis : ES.headGo (f + 1) Sj = if (Sj.step1.visit Sj.nextL).2 then ES.headGo f (Sj.step1.visit Sj.nextL).1
                  else ({ (Sj.step1.visit Sj.nextL).1 with head := (Sj.step1.visit Sj.nextL).1.head - 1 }, false) := by rw [ES.headGo, if_pos hlt]
              rw [hrj] at hvis
              have Hvis := Lib.hid hvis
              have Hnx := Lib.hid hnx
              have hnn := hOk.n_le
              have hnn2 : Sj.step1.n = Sj.n := rfl
              rw [hnn2] at hnn
              clear hvis hnx hrj exitW hstep hnn2
              have hlt2 := Lib.hid hlt
              go_wp2_with fail
              go_quiet (fail)
              obtain ⟨n1, rfl⟩ : ∃ m, m = nq := ⟨_, rfl⟩
              have E1 := Ej.drewN (k := n1)
              have T1 := Tj.trans (Turned.drewN (ft Gj) wr n1)
              generalize wr.drewN n1 = w1 at *
              clear f9 f11
              have f11 := E1.f11
              have y11 := E1.ff 11
              have hb2 : (Sj.head : Int) ≤ 1048577 := by omega
              have E2 : Eng (w1.setCell ⟨b, 11, none⟩ (.int .i64 ((Sj.head : Int) + 1))) b Gj Sj.step1 := E1.set_head (Sj.head + 1)
              have T2 := T1.trans (Turned.setCell w1 ⟨b, 11, none⟩ (.int .i64 ((Sj.head : Int) + 1)) E1.foot_b)
              go_upto_region 10 with (fail)
              generalize w1.setCell ⟨b, 11, none⟩ (.int .i64 ((Sj.head : Int) + 1)) = w2 at *
              have f11 : w2.cell? ⟨b, 11, none⟩ = some (.int .i64 ((Sj.head : Int) + 1)) := E2.f11
              have f9 : w2.cell? ⟨b, 9, none⟩ = some (.slice (some ⟨ta, 0, none⟩) Sj.tr.length (Gj.c (.inl 9))) := E2.s9 hta
              have e9 : w2.cell? ⟨ta, Sj.head, none⟩ = some (i64 (Sj.tr.getD Sj.head 0)) := E2.e9 hta (k := Sj.head) hlt
              have hcall := visit_any b Gj Sj.step1 Sj.nextL w2.drew E2.drew hOk hL htu hlen hV
              have hnl2 : Sj.nextL = -(Sj.tr.getD Sj.head 0) := rfl
              generalize Sj.step1.visit Sj.nextL = R at *
              obtain ⟨R, good⟩ := R
              generalize Sj.tr.getD Sj.head 0 = x at *
              rw [hnl2] at hcall hL
              have HNl := Lib.hid hnl2
              clear hnl2 hV
              have hx1 : -1048576 ≤ x := by omega
              have hx2 : x ≤ 1048576 := by omega
              have hwr : IntKind.i64.wrap (Sj.head : Int) = (Sj.head : Int) := IntWalk.i64_in _ (by omega)
              have hwn : IntKind.i64.wrap (-x) = -x := IntWalk.i64_in _ (by omega)
              go_still_tail 13, (by kernel_rfl)
              change wpList _ _ _ _ _ w2.drew
              simp only at hhd hcall
              have hhd2 := Hnx.out
              have hvis2 := Hvis.out
              simp only at hhd2 hvis2
              have Hnx2 := Lib.hid hhd2
              have Hvis2 := Lib.hid hvis2
              clear hhd2 hvis2 Hnx Hvis
              cases good with
              | true =>
                go_wp2_with (go_at_call 39; refine hcall.mono ?_; rintro e w4 ⟨rfl, G4, E4, T4⟩)
                go_roundg f
                case measure => omega
                case rel => exact ⟨R, G4, E4, (T2.trans (Turned.drew _ _)).trans T4, (by have := Hnx2.out; simpa using this), by rw [Hvis2.out]; simp⟩
              | false =>
                go_upto_region 11 with (go_at_call 39; refine hcall.mono ?_; rintro e w4 ⟨rfl, G4, E4, T4⟩)
                obtain ⟨r, hr⟩ : ∃ r, R.head = r + 1 := ⟨R.head - 1, by omega⟩
                have g11 : w4.cell? ⟨b, 11, none⟩ = some (.int .i64 ((r : Int) + 1)) := by rw [E4.f11, hr]; rfl
                have z11 := E4.ff 11
                have hr2 : (r : Int) ≤ 1048577 := by omega
                have hr3 : 0 ≤ (r : Int) := by omega
                have E5 := E4.set_head r
                have T5 := ((T2.trans (Turned.drew _ _)).trans T4).trans (Turned.setCell w4 ⟨b, 11, none⟩ (i64 (r : Nat)) E4.foot_b)
                have hfin : S.propagate = ({ R with head := r }, false) := by rw [HPr2.out, Hvis2.out, hr]; simp
                have Hfin := Lib.hid hfin
                clear hfin hr f11 f9 e9 hhd hwr hwn
                go_wp2
                go_ret
                exact ⟨by rw [Hfin.out]; rfl, G4, by rw [Hfin.out]; exact E5, T5⟩
          · have hfin : S.propagate = (Sj, true) := by rw [HPr2.out, ← hrj]; exact exitW (by omega)
            have Hfin := Lib.hid hfin
            clear hfin hrj exitW hHj
            have hlt' : ¬ ((Sj.head : Int) < (Sj.tr.length : Int)) := by omega
            go_wp2_with fail
            go_quiet (fail)
            go_wp2
            go_ret
            exact ⟨by rw [Hfin.out]; rfl, Gj, by rw [Hfin.out]; exact Ej.drewN, Tj.trans (Turned.drewN _ _ _)⟩
      | succ n =>
        obtain ⟨hl, hbd, hOk, hRoom, hk, hnext⟩ := hP
        obtain ⟨fa, hfa⟩ := E.lies (.inl 13) (by simp only [engD]; omega)
        have hfa : Gi.g (.inl 13) = some fa := hfa
        have c13 := E.s13 hfa
        have e13 := E.e13 hfa (k := n) (by omega)
        have hlast : Si.fr.getD n 0 = Si.lastFr := by unfold ES.lastFr; rw [hl]; rfl
        rw [hlast] at e13
        rw [hl] at c13
        have y13 := E.ff 13
        have hbd' : (n : Int) + 1 ≤ 8796093022208 := by omega
        have HL := Lib.hid hl
        have HRes := Lib.hid hres
        have HNext := Lib.hid hnext
        clear hl hres hnext hlast
        go_wp2_with fail
        go_quiet (fail)
        obtain ⟨n1, rfl⟩ : ∃ m, m = nq := ⟨_, rfl⟩
        have E1 := E.drewN (k := n1)
        have T1 := T.trans (Turned.drewN (ft Gi) wr n1)
        generalize wr.drewN n1 = w1 at *
        have c13 := E1.s13 hfa
        rw [HL.out] at c13
        have y13 := E1.ff 13
        have hle := (E1.row (.inl 13)).le
        simp only [engD] at hle
        rw [HL.out] at hle
        have hsl := slice_to fa (n + 1) n (Gi.c (.inl 13)) (by omega)
        have hwr : IntKind.i64.wrap (n : Int) = (n : Int) := IntWalk.i64_in _ (by omega)
        have E2 := E1.drew.cut13 hfa n (by rw [HL.out]; omega)
        have T2 := T1.trans ((Turned.drew (ft Gi) w1).trans (Turned.setCell w1.drew ⟨b, 13, none⟩ (.slice (some ⟨fa, 0, none⟩) n (Gi.c (.inl 13))) E1.foot_b))
        have hpop : { Si with fr := Si.fr.take n } = Si.pop := by unfold ES.pop; rw [List.dropLast_eq_take, HL.out]; rfl
        rw [hpop] at E2
        clear hle hpop
        go_wp2_with fail
        go_still_tail 14, (by kernel_rfl)
        change wpList _ _ _ _ _ w1.drew
        have hcall := settle_any b Gi Si.pop Si.lastFr _ E2 hOk hk hRoom
        have hres2 : ES.popGo (n + 1) Si = if (Si.pop.settle Si.lastFr).2 then ES.popGo n (Si.pop.settle Si.lastFr).1 else ((Si.pop.settle Si.lastFr).1, false) := rfl
        have hnext := HNext.out
        rw [HRes.out] at hres2
        generalize Si.pop.settle Si.lastFr = R at *
        obtain ⟨R, good⟩ := R
        simp only at hnext hres2 hcall
        have HNext2 := Lib.hid hnext
        have HRes2 := Lib.hid hres2
        clear hnext hres2 HNext
        cases good with
        | true =>
          go_wp2_with (go_at_call 38; refine hcall.mono ?_; rintro e w4 ⟨rfl, G4, E4, T4, _⟩)
          go_roundg n
          case measure => omega
          case rel => exact ⟨R, G4, E4, T2.trans T4, (by have := HNext2.out; simpa using this), by rw [HRes2.out]; simp⟩
        | false =>
          go_wp2_with (go_at_call 38; refine hcall.mono ?_; rintro e w4 ⟨rfl, G4, E4, T4, _⟩)
          go_ret
          have hfin : S.propagate = (R, false) := by rw [HPr.out, if_neg (by simp [HC.out]), HRes2.out]; simp
          exact ⟨by rw [hfin]; rfl, G4, by rw [hfin]; exact E4, T2.trans T4⟩
  · have b12 : ((S.clash : Int) != 0) = true := by simpa using hc
    go_enter Try.func15, Try.ntmps15
    go_wp2
    go_ret
    exact ⟨by rw [HPr.out, if_pos hc]; rfl, G, by rw [HPr.out, if_pos hc]; exact h, Turned.refl _ _⟩

end Go.Proofs.Ytaileihnkmjfiaa
