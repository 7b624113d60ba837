/-
  visit of the engine goes through one list. Conditions: the engine lies in the world, and what each theorem names.
-/
import Derived.Test.YtaileihnkmjfiaaEng4
import Derived.IntWalk
namespace Go.Proofs.Ytaileihnkmjfiaa
open Go.RowKit

theorem drop_getD (list : List Nat) (i : Nat) (h : i < list.length) : list.drop i = list.getD i 0 :: list.drop (i + 1) := by
  rw [List.drop_eq_getElem_cons h]; simp [List.getD, h]

theorem content_getD (keep list : List Nat) (i : Nat) (hk : keep.length ≤ i) (_hi : i < list.length) : (keep ++ list.drop keep.length).getD i 0 = list.getD i 0 := by
  simp only [List.getD]
  rw [List.getElem?_append_right hk, List.getElem?_drop, show keep.length + (i - keep.length) = i by omega]
theorem content_len (keep list : List Nat) (hk : keep.length ≤ list.length) : (keep ++ list.drop keep.length).length = list.length := by simp; omega

theorem content_set (keep list : List Nat) (k : Nat) (h : keep.length < list.length) : (keep ++ list.drop keep.length).set keep.length k = keep ++ [k] ++ list.drop (keep.length + 1) := by
  rw [List.set_append_right _ _ (Nat.le_refl _), Nat.sub_self, List.drop_eq_getElem_cons h, List.set_cons_zero, List.append_assoc]
  rfl
theorem ES.kept_len (l : Int) (list : List Nat) (k : Nat) (R : ES) (keep : List Nat) : (ES.kept l list k R keep).2.length ≤ keep.length + 1 := by
  unfold ES.kept; split <;> simp

theorem ES.kept_content (l : Int) (list : List Nat) (k : Nat) (R : ES) (keep : List Nat) (hi : pl l < R.wt.length) (hc : R.wt.getD (pl l) [] = keep ++ list.drop keep.length) :
    (ES.kept l list k R keep).1.wt.getD (pl l) [] = (ES.kept l list k R keep).2 ++ list.drop (ES.kept l list k R keep).2.length ∧ pl l < (ES.kept l list k R keep).1.wt.length := by
  unfold ES.kept
  split
  · exact ⟨by rw [putW_getD _ _ _ hi]; simp, by simpa [ES.putW] using hi⟩
  · exact ⟨hc, hi⟩

theorem slice_from (g i n c : Nat) (h1 : i + 1 ≤ n) (h2 : n ≤ c) (_h3 : n ≤ 8796093022208) : ∃ ad, (∀ w, (Instr.slice 28 (.slice (some ⟨g, 0, none⟩) n c) (some (.int .i64 ((i : Int) + 1))) none none).run Try.prog w = .ok (.slice (some ad) (n - (i + 1)) (c - (i + 1))) w) ∧ (i + 1 < n → ad = ⟨g, i + 1, none⟩) := by
  obtain ⟨i0, hi, hz0, hz1, hz2⟩ := info_parts Try.info3
  have a1 : (0 : Int) ≤ (i : Int) + 1 := by omega
  have a2 : (i : Int) + 1 ≤ (n : Int) := by omega
  have a3 : ((i : Int) + 1).toNat = i + 1 := by omega
  by_cases hc : c = i + 1
  · refine ⟨⟨g, 0, none⟩, fun w => ?_, fun h => by omega⟩
    simp [Instr.slice, run_underlying Try.underlying28, Instr.sliceBounds, run_sliceBound, sizeOf, typeInfo, hi, a1, a2, a3, hc]
  · refine ⟨⟨g, i + 1, none⟩, fun w => ?_, fun _ => rfl⟩
    simp [Instr.slice, run_underlying Try.underlying28, Instr.sliceBounds, run_sliceBound, sizeOf, typeInfo, hi, hz1, a1, a2, a3, hc, Addr.add]

set_option maxHeartbeats 8000000 in
set_option maxRecDepth 100000 in
theorem visit_any (b : Nat) (G : GH) (S : ES) (l : Int) (w : World) (h : Eng w b G S) (hS : S.Ok) (hl : l ≠ 0 ∧ l.natAbs ≤ S.n) (ht : S.turn ≤ 1152921504606846976)
    (hlen : ∀ i, (S.wt.getD i []).length ≤ 8796093022208)
    (hV : pl l < S.wt.length → ES.VOk l (S.wt.getD (pl l) []) (S.wt.getD (pl l) []) { S with turn := S.turn + 1 } []) :
    Calls Try.prog 39 #[.pointer (some ⟨b, 0, none⟩), i64 l] w fun e w' => e = .returned (.bool (S.visit l).2) ∧ ∃ G', Eng w' b G' (S.visit l).1 ∧ Turned (ft G) w (ft G') w' := by
  have hnl := hS.n_le
  have hpl := pl_lt hl.2
  have cPl := fun w => place_any l w (by omega)
  have c4 := h.f4
  unfold sv at c4
  by_cases hle : S.wt.length ≤ pl l
  · have hle' : (S.wt.length : Int) ≤ (pl l : Int) := by omega
    go_enter Try.func39, Try.ntmps39
    go_wp2_with fail
    go_step3
    go_wp2_with fail
    go_quiet ((go_at_call 55; exact quiet_l (cPl _)))
    go_wp2
    rw [Exit.noGoto_ret]
    go_ret
    refine ⟨by unfold ES.visit; rw [if_pos hle]; rfl, G, ?_, Turned.drewN _ _ _⟩
    unfold ES.visit; rw [if_pos hle]; exact h.drewN
  · have hlt : pl l < S.wt.length := by omega
    have hV := hV hlt
    have hle' : ¬ ((S.wt.length : Int) ≤ (pl l : Int)) := by omega
    have hlt' : (pl l : Int) < (S.wt.length : Int) := by omega
    have HVis : Hid (S.visit l = ES.visitGo l (S.wt.getD (pl l) []) (S.wt.getD (pl l) []) { S with turn := S.turn + 1 } []) := by
      show _ = _
      unfold ES.visit; rw [if_neg hle]
    obtain ⟨go, hgo⟩ := h.lies (.inl 4) (by simp only [engD]; omega)
    have hgo : G.g (.inl 4) = some go := hgo
    clear c4
    have d4 := h.s4 hgo
    have e4 := h.e4 hgo hlt
    have hgr := fun hg => (h.row (.inr (1, pl l))).nil hg
    have hcm := (h.row (.inr (1, pl l))).max
    have hcl := (h.row (.inr (1, pl l))).le
    have hll := hlen (pl l)
    simp only [engD] at hgr hcm hcl
    have y15 := h.ff 15
    have c15 := h.f15
    obtain ⟨list, hlist⟩ : ∃ list, list = S.wt.getD (pl l) [] := ⟨_, rfl⟩
    rw [← hlist] at hV HVis e4 hcl hll
    have Hlist := Lib.hid hlist
    clear hle
    unfold maxLen at hcm
    cases hg : G.g (.inr (1, pl l)) with
    | none =>
      have hc0 := hgr hg
      have hl0 : list = [] := List.eq_nil_of_length_eq_zero (by omega)
      subst hl0
      rw [hg, hc0] at e4
      change w.cell? ⟨go, pl l, none⟩ = some (.slice none 0 0) at e4
      clear hlist hgr hcm hcl hll hV
      have z4 := h.z4 hgo (pl l)
      have n4 := h.n4 hgo
      go_enter Try.func39, Try.ntmps39
      go_wp2_with fail
      go_step3
      go_wp2_with fail
      go_quiet ((go_at_call 55; exact quiet_l (cPl _)))
      obtain ⟨n1, rfl⟩ : ∃ m, m = nq := ⟨_, rfl⟩
      go_wp2_with fail
      go_quiet ((go_at_call 55; exact quiet_al (cPl _)))
      obtain ⟨n2, rfl⟩ : ∃ m, m = nq := ⟨_, rfl⟩
      go_wp2_with fail
      go_step3
      have E1 := (h.drewN (k := n1 + n2)).set_turn (S.turn + 1)
      have T1 := (Turned.drewN (ft G) w (n1 + n2)).trans (Turned.setCell _ ⟨b, 15, none⟩ (i64 ((S.turn + 1 : Nat) : Int)) h.foot_b)
      have x4 := E1.s4 hgo
      have xe : ((w.drewN (n1 + n2)).setCell ⟨b, 15, none⟩ (i64 ((S.turn + 1 : Nat) : Int))).cell? ⟨go, pl l, none⟩ = some (.slice none 0 0) := by
        rw [E1.e4 hgo hlt, hg, hc0]; simp only; rw [← Hlist.out]; rfl
      go_wp2_with fail
      go_loopg [6, 39] 0 (fun _ s6 s39 wr => s6 = .slice none 0 0 ∧ s39 = .int .i64 0 ∧ (w.drewN (n1 + n2)).setCell ⟨b, 15, none⟩ (i64 ((S.turn + 1 : Nat) : Int)) = wr)
      case atStart => exact ⟨rfl, rfl, rfl⟩
      case round =>
        obtain ⟨rfl, rfl, rfl⟩ := hrel
        generalize hW : (w.drewN (n1 + n2)).setCell ⟨b, 15, none⟩ (i64 ((S.turn + 1 : Nat) : Int)) = w1 at *
        clear hW
        have z5 := E1.z4 hgo (pl l)
        go_wp2_with fail
        go_region_held3 (fun w' => w'.cell? ⟨b, 4, none⟩ = some (.slice (some ⟨go, 0, none⟩) S.wt.length (G.c (.inl 4)))) (go_keep) ((go_at_call 55; refine (cPl _).mono ?_; rintro e w' ⟨rfl, rfl⟩))
        go_wp2
        rw [Exit.noGoto_ret]
        go_ret
        obtain ⟨E2, T2, _, _⟩ := E1.drew.rowWt (d := ⟨none, 0, 0, []⟩) [] hlt hgo (Rw.empty _ _ _) rfl rfl (.inl hg.symm) ⟨rfl, rfl, rfl, Nat.le_refl _, fun _ _ _ => rfl⟩
        refine ⟨by rw [HVis.out]; rfl, _, ?_, (T1.trans (Turned.drew _ _)).trans T2⟩
        rw [HVis.out]
        exact E2
    | some g0 =>
      rw [hg] at e4
      change w.cell? ⟨go, pl l, none⟩ = some (.slice (some ⟨g0, 0, none⟩) list.length (G.c (.inr (1, pl l)))) at e4
      have hll2 : (list.length : Int) ≤ 8796093022208 := by omega
      have hcl2 : (list.length : Int) ≤ (G.c (.inr (1, pl l)) : Int) := by omega
      have hpre : (S.wt.getD (pl l) []) = [] ++ list.drop 0 := by rw [← hlist]; rfl
      clear hlist hgr
      have hdec : decide (S.wt.length ≤ pl l) = false := by simp; omega
      obtain ⟨i0, hi0, hz0, hz1, hz2⟩ := info_parts Try.info3
      go_enter Try.func39, Try.ntmps39
      go_wp2_with fail
      go_step3
      go_wp2_with fail
      go_quiet ((go_at_call 55; exact quiet_l (cPl _)))
      obtain ⟨n1, rfl⟩ : ∃ m, m = nq := ⟨_, rfl⟩
      go_wp2_with fail
      go_quiet ((go_at_call 55; exact quiet_al (cPl _)))
      obtain ⟨n2, rfl⟩ : ∃ m, m = nq := ⟨_, rfl⟩
      have E1 := (h.drewN (k := n1 + n2)).set_turn (S.turn + 1)
      have T1 := (Turned.drewN (ft G) w (n1 + n2)).trans (Turned.setCell _ ⟨b, 15, none⟩ (i64 ((S.turn + 1 : Nat) : Int)) h.foot_b)
      go_wp2_with fail
      go_step3
      go_wp2_with fail
      go_loopg [6, 39] list.length (fun m s6 s39 wr => ∃ i keep Si Gi, m = list.length - i ∧ i ≤ list.length ∧ keep.length ≤ i ∧ s6 = .slice (some ⟨g0, 0, none⟩) (List.length (α := Nat) keep) list.length ∧ s39 = i64 (i : Nat) ∧
        Eng wr b Gi Si ∧ Turned (ft G) w (ft Gi) wr ∧ Gi.g (.inr (1, pl l)) = some g0 ∧ list.length ≤ Gi.c (.inr (1, pl l)) ∧ ES.VOk l list (list.drop i) Si keep ∧
        ES.visitGo l list (list.drop i) Si keep = ES.visitGo l list list { S with turn := S.turn + 1 } [] ∧ pl l < Si.wt.length ∧ Si.wt.getD (pl l) [] = keep ++ list.drop keep.length)
      case atStart => exact ⟨0, [], _, G, rfl, Nat.zero_le _, Nat.le_refl _, rfl, rfl, E1, T1, hg, hcl, hV, rfl, hlt, hpre⟩
      case round =>
        obtain ⟨i, keep, Si, Gi, rfl, hi, hki, rfl, rfl, E, T, hgi, hci, hv, hres, hltw, hcont⟩ := hrel
        have hll3 : (list.length : Int) ≤ 8796093022208 := hll2
        by_cases hil : i < list.length
        · have hil' : (i : Int) < (list.length : Int) := by omega
          rw [drop_getD list i hil] at hv hres
          have ek : w.drew = w.drew := rfl
          have hcell := E.i1 hgi (k := i) (by rw [hcont, content_len _ _ (by omega)]; exact hil)
          rw [hcont, content_getD keep list i hki hil] at hcell
          generalize hkv : list.getD i 0 = k at *
          have Hkv := Lib.hid hkv
          clear hkv ek
          obtain ⟨_, hks, hkp, hskip, hstep⟩ := hv
          have Hres := Lib.hid hres
          have Hskip := Lib.hid hskip
          have Hstep := Lib.hid hstep
          have Hcont := Lib.hid hcont
          clear hres hskip hstep hcont hV hpre c15 d4 e4
          obtain ⟨sa, hsa⟩ := E.lies (.inl 14) (by simp only [engD]; omega)
          have hsa : Gi.g (.inl 14) = some sa := hsa
          obtain ⟨pa, hpa⟩ := E.lies (.inl 3) (by simp only [engD]; omega)
          have hpa : Gi.g (.inl 3) = some pa := hpa
          have f14 := E.s14 hsa
          have e14 := E.e14 hsa hks
          have f15 := E.f15
          have f3 := E.s3 hpa
          have e3a := E.e3a hpa hkp
          have e3b := E.e3b hpa hkp
          have hks' : (k : Int) < (Si.stp.length : Int) := by omega
          have hkp' : (k : Int) < (Si.pr.length : Int) := by omega
          have HSk : Hid (Si.skips l k = (Si.stp.getD k 0 = Si.turn ∨ ((Si.pr.getD k (0, 0)).1 ≠ l ∧ (Si.pr.getD k (0, 0)).2 ≠ l))) := rfl
          generalize hst : Si.stp.getD k 0 = st at *
          generalize htn : Si.turn = tn at *
          generalize hq : Si.pr.getD k (0, 0) = q at *
          obtain ⟨q1, q2⟩ := q
          have Hst := Lib.hid hst
          have Htn := Lib.hid htn
          have Hq := Lib.hid hq
          clear hst htn hq
          simp only at e3a e3b
          go_upto_region 9 with (fail)
          go_cut [79] (fun s79 wx => s79 = .bool (decide (Si.skips l k)) ∧ ∃ n, wr.drewN n = wx)
          case first =>
            by_cases a1 : st = tn
            · have b1 : ((st : Int) == (tn : Int)) = true := by rw [a1]; simp
              have A1 := Lib.hid a1
              clear a1
              go_quiet (fail)
              go_wp2_with fail
              go_meet
              exact ⟨by simp [HSk.out, A1.out], _, rfl⟩
            · have b1 : ((st : Int) == (tn : Int)) = false := by simpa using (fun h => a1 (by omega))
              by_cases a2 : q1 = l
              · have b2 : (q1 != l) = false := by simpa using a2
                have A2 := Lib.hid a2
                clear a2
                go_quiet (fail)
                go_wp2_with fail
                go_meet
                exact ⟨by simp [HSk.out, A2.out, a1], _, rfl⟩
              · have b2 : (q1 != l) = true := by simpa using a2
                by_cases a3 : q2 = l
                · have b3 : (q2 != l) = false := by simpa using a3
                  have A3 := Lib.hid a3
                  clear a3
                  go_quiet (fail)
                  go_wp2_with fail
                  go_meet
                  exact ⟨by simp [HSk.out, A3.out, a1], _, rfl⟩
                · have b3 : (q2 != l) = true := by simpa using a3
                  go_quiet (fail)
                  go_wp2_with fail
                  go_meet
                  exact ⟨by simp [HSk.out, a1, a2, a3], _, rfl⟩
          case rest =>
            obtain ⟨rfl, n3, rfl⟩ := hcut
            clear e3a e3b
            by_cases hsk : Si.skips l k
            · have hd : decide (Si.skips l k) = true := by simpa using hsk
              have hv' := Hskip.out hsk
              have hr' : ES.visitGo l list (list.drop (i + 1)) Si keep = ES.visitGo l list list { S with turn := S.turn + 1 } [] := by rw [← Hres.out, ES.visitGo, if_pos hsk]
              have Hv' := Lib.hid hv'
              have Hr' := Lib.hid hr'
              clear hv' hr'
              go_wp2_with fail
              go_roundg (list.length - (i + 1))
              case measure => omega
              case rel => exact ⟨i + 1, keep, Si, Gi, rfl, by omega, by omega, rfl, by simp, E.drewN, T.trans (Turned.drewN _ _ _), hgi, hci, Hv'.out, Hr'.out, hltw, Hcont.out⟩
            · have hd : decide (Si.skips l k) = false := by simpa using hsk
              obtain ⟨hOk, hRoom, hkc, hkp2, hcont2, hgood⟩ := Hstep.out hsk
              have y14 := E.z14 hsa k
              have n14 := E.n14 hsa
              have E2 := E.drewN (k := n3)
              have T2 := T.trans (Turned.drewN (ft Gi) wr n3)
              generalize wr.drewN n3 = w2 at *
              have f14 := E2.s14 hsa
              have e14 := E2.e14 hsa hks
              have f15 := E2.f15
              rw [Htn.out] at f15
              have y14 := E2.z14 hsa k
              go_wp2_with fail
              go_region_held3 (fun w' => w'.cell? ⟨b, 14, none⟩ = some (.slice (some ⟨sa, 0, none⟩) Si.stp.length (Gi.c (.inl 14))) ∧ w'.cell? ⟨b, 15, none⟩ = some (i64 tn)) (go_keep) ((fail))
              have E3 := (E2.setStp hsa k tn).drew
              have T3 := T2.trans ((Turned.setCell w2 ⟨sa, k, none⟩ (i64 (tn : Nat)) (E2.t14 hsa)).trans (Turned.drew _ _))
              have hmk : { Si with stp := Si.stp.set k tn } = Si.mark k := by unfold ES.mark; rw [Htn.out]
              rw [hmk] at E3
              clear hmk f14 e14 f15 y14
              have hres : ES.visitGo l list (k :: list.drop (i + 1)) Si keep = (if ((Si.mark k).settle k).2 then ES.visitGo l list (list.drop (i + 1)) (ES.kept l list k ((Si.mark k).settle k).1 keep).1 (ES.kept l list k ((Si.mark k).settle k).1 keep).2
                  else ((ES.kept l list k ((Si.mark k).settle k).1 keep).1.putW (pl l) ((ES.kept l list k ((Si.mark k).settle k).1 keep).2 ++ list.drop (i + 1)), false)) := by
                rw [ES.visitGo, if_neg hsk]
              rw [Hres.out] at hres
              have hset := settle_any b Gi (Si.mark k) k _ E3 hOk hkc hRoom
              generalize (w2.setCell ⟨sa, k, none⟩ (i64 (tn : Nat))).drew = w3 at *
              generalize (Si.mark k).settle k = R at *
              obtain ⟨R, good⟩ := R
              simp only at hkp2 hcont2 hgood hset hres
              have Hgood := Lib.hid hgood
              have Hcont2 := Lib.hid hcont2
              have Hres2 := Lib.hid hres
              clear hgood hcont2 hres
              go_upto_region 12 with (go_at_call 38; refine hset.mono ?_; rintro e w4 ⟨rfl, G4, E4, T4, K4⟩)
              have T4' := T3.trans T4
              obtain ⟨hk1, hk2⟩ := (K4 (pl l)).2 (by rw [Hcont2.out]; exact congrArg List.length Hcont.out)
              have hgi4 : G4.g (.inr (1, pl l)) = some g0 := hk1.trans hgi
              have hci4 : list.length ≤ G4.c (.inr (1, pl l)) := by rw [hk2]; exact hci
              have hltw4 : pl l < R.wt.length := by
                rcases Nat.lt_or_ge (pl l) R.wt.length with h' | h'
                · exact h'
                · rw [E4.out1 _ h'] at hgi4; cases hgi4
              clear K4 hset hk1 hk2
              obtain ⟨pb, hpb⟩ := E4.lies (.inl 3) (by simp only [engD]; omega)
              have hpb : G4.g (.inl 3) = some pb := hpb
              have f3 := E4.s3 hpb
              have e3a := E4.e3a hpb hkp2
              have e3b := E4.e3b hpb hkp2
              have hkp3 : (k : Int) < (R.pr.length : Int) := by omega
              have HHo : Hid (R.holdsB l k = ((R.pr.getD k (0, 0)).1 = l ∨ (R.pr.getD k (0, 0)).2 = l)) := rfl
              generalize R.pr.getD k (0, 0) = r at *
              obtain ⟨r1, r2⟩ := r
              simp only at e3a e3b
              go_cut [114] (fun s wx => s = .bool (decide (R.holdsB l k)) ∧ w4 = wx)
              case first =>
                by_cases a1 : r1 = l
                · have b1 : (r1 == l) = true := by simpa using a1
                  have A1 := Lib.hid a1
                  clear a1
                  go_wp2_with fail
                  go_meet
                  exact ⟨by simp [HHo.out, A1.out], rfl⟩
                · have b1 : (r1 == l) = false := by simpa using a1
                  by_cases a2 : r2 = l
                  · have b2 : (r2 == l) = true := by simpa using a2
                    have A2 := Lib.hid a2
                    clear a2
                    go_wp2_with fail
                    go_meet
                    exact ⟨by simp [HHo.out, A2.out], rfl⟩
                  · have b2 : (r2 == l) = false := by simpa using a2
                    go_wp2_with fail
                    go_meet
                    exact ⟨by simp [HHo.out, a1, a2], rfl⟩
              case rest =>
                obtain ⟨rfl, rfl⟩ := hcut
                clear e3a e3b f3
                go_upto_if 114 with (fail)
                go_cut [6] (fun s6 wx => s6 = .slice (some ⟨g0, 0, none⟩) (ES.kept l list k R keep).2.length list.length ∧ Eng wx b G4 (ES.kept l list k R keep).1 ∧ Turned (ft G) w (ft G4) wx)
                case first =>
                  by_cases hh : R.holdsB l k
                  · have hd2 : decide (R.holdsB l k) = true := by simpa using hh
                    have E5 := E4.alloc (.cells #[i64 k] 3)
                    have T5 := T4'.trans (Turned.alloc _ w4 (.cells #[i64 k] 3))
                    have hkl : keep.length < (R.wt.getD (pl l) []).length := by rw [Hcont2.out, content_len _ _ (by omega)]; omega
                    have hsome : ((w4.alloc (.cells #[i64 k] 3)).cell? ⟨g0, keep.length, none⟩).isSome = true := by rw [E5.i1 hgi4 hkl]; rfl
                    have hfz := E5.iz1 hgi4 keep.length
                    go_wp2_with (at_builtin; (refine wpList_append_room rfl (.tmp 115) (.tmp 117) 28 rfl 3 i0 Try.underlying28 hi0 hz1 g0 keep.length list.length rfl ⟨w4.heap.size, 0, none⟩ 1 1 [i64 k] rfl rfl (new_one w4 _ 3 _ rfl) (one_i64 _) (by omega) (by intro j hj; match j, hj with | 0, _ => exact hsome) (by intro j hj; match j, hj with | 0, _ => exact hfz) ?_))
                    have E6 := E5.innerSet hgi4 keep.length k
                    rw [Hcont2.out, content_set _ _ _ (by omega)] at E6
                    go_meet
                    refine ⟨by unfold ES.kept; rw [if_pos hh]; simp, ?_, T5.trans (Turned.setCells g0 (E5.it1 hgi4) _ _ _)⟩
                    unfold ES.kept; rw [if_pos hh]; exact E6
                  · have hd2 : decide (R.holdsB l k) = false := by simpa using hh
                    go_wp2_with fail
                    go_meet
                    refine ⟨by unfold ES.kept; rw [if_neg hh], ?_, T4'⟩
                    unfold ES.kept; rw [if_neg hh]; exact E4
                case rest =>
                  obtain ⟨rfl, E5, T5⟩ := hcut
                  clear T4' T4 E4 E3 T3
                  have hk2 := ES.kept_len l list k R keep
                  obtain ⟨hc5, hlt5⟩ := ES.kept_content l list k R keep hltw4 Hcont2.out
                  have hgood := Hgood.out
                  have hres2 := Hres2.out
                  generalize ES.kept l list k R keep = KK at *
                  obtain ⟨R', keep2⟩ := KK
                  simp only at E5 hk2 hc5 hlt5 hgood hres2
                  have Hgood2 := Lib.hid hgood
                  have Hres3 := Lib.hid hres2
                  have Hc5 := Lib.hid hc5
                  clear hgood hres2 hc5 Hgood Hres2
                  cases good with
                  | true =>
                    go_wp2_with fail
                    go_roundg (list.length - (i + 1))
                    case measure => omega
                    case rel => exact ⟨i + 1, keep2, R', G4, rfl, by omega, by omega, rfl, by simp, E5, T5, hgi4, hci4, (by have := Hgood2.out; simpa using this), by rw [Hres3.out]; simp, hlt5, Hc5.out⟩
                  | false =>
                    have hfin : S.visit l = (R'.putW (pl l) (keep2 ++ list.drop (i + 1)), false) := by rw [HVis.out, Hres3.out]; simp
                    have Hfin := Lib.hid hfin
                    clear hfin
                    obtain ⟨ga, hga⟩ := E5.lies (.inl 4) (by simp only [engD]; omega)
                    have hga : G4.g (.inl 4) = some ga := hga
                    have q4 := E5.s4 hga
                    have n4 := E5.n4 hga
                    have ni := E5.in1 hgi4
                    have hltR : (pl l : Int) < (R'.wt.length : Int) := by omega
                    have hlen5 : (R'.wt.getD (pl l) []).length = list.length := by rw [Hc5.out, content_len _ _ (by omega)]
                    have E6 := E5.drew.innerCells (list.drop (i + 1)) hgi4 keep2.length
                    rw [Hc5.out] at E6
                    have hl6 : (setFrom (keep2 ++ list.drop keep2.length) keep2.length (list.drop (i + 1))).length = list.length := by rw [setFrom_length, content_len _ _ (by omega)]
                    have ht6 : (setFrom (keep2 ++ list.drop keep2.length) keep2.length (list.drop (i + 1))).take (keep2.length + (list.length - (i + 1))) = keep2 ++ list.drop (i + 1) := by
                      have := setFrom_take (keep2 ++ list.drop keep2.length) keep2.length (list.drop (i + 1)) (by rw [content_len _ _ (by omega), List.length_drop]; omega)
                      rw [List.length_drop] at this
                      rw [this]; simp
                    have X6 := E6.cutRow hgi4 hga (keep2.length + (list.length - (i + 1))) list.length (by rw [putW_getD _ _ _ hlt5, hl6]; omega) (by omega) hci4
                    rw [putW_getD _ _ _ hlt5, putW_putW, ht6] at X6
                    obtain ⟨E7, T7, x7, y7⟩ := X6
                    have T6 := (T5.trans (Turned.drew _ _)).trans (Turned.setCells g0 (E5.it1 hgi4) (nats (list.drop (i + 1))) wc.drew keep2.length)
                    have q5 : (wc.drew.setCells g0 keep2.length (nats (list.drop (i + 1)))).cell? ⟨b, 4, none⟩ = some (.slice (some ⟨ga, 0, none⟩) R'.wt.length (G4.c (.inl 4))) := by
                      have := E6.s4 hga
                      simpa [ES.putW] using this
                    have hnews : ∀ j u, (nats (list.drop (i + 1)))[j]? = some u → wc.drew.cell? ⟨g0, i + 1 + j, none⟩ = some u := by
                      intro j u hu
                      have hj : i + 1 + j < list.length := by
                        have := (List.getElem?_eq_some_iff.1 hu).1
                        simp [nats] at this; omega
                      have c := E5.drew.i1 hgi4 (k := i + 1 + j) (by rw [hlen5]; exact hj)
                      rw [Hc5.out, content_getD keep2 list _ (by omega) hj] at c
                      rw [c]
                      simp only [nats, List.getElem?_map, List.getElem?_drop, Option.map_eq_some_iff] at hu
                      obtain ⟨z, hz, rfl⟩ := hu
                      simp [List.getD, hz]
                    have hsome : ∀ j, j < (nats (list.drop (i + 1))).length → (wc.drew.cell? ⟨g0, keep2.length + j, none⟩).isSome = true := by
                      intro j hj
                      simp [nats] at hj
                      rw [E5.drew.i1 hgi4 (k := keep2.length + j) (by rw [hlen5]; omega)]; rfl
                    have hfz : ∀ j, j < (nats (list.drop (i + 1))).length → wc.drew.frozen? ⟨g0, keep2.length + j, none⟩ = false := fun j _ => E5.drew.iz1 hgi4 _
                    have hii : (0 : Int) ≤ (i : Int) + 1 := by omega
                    have hii2 : ((i : Int) + 1) ≤ (list.length : Int) := by omega
                    have hii3 : ((i : Int) + 1) ≤ (G.c (.inr (1, pl l)) : Int) := by omega
                    obtain ⟨ad, hsl, had⟩ := slice_from g0 i list.length (G.c (.inr (1, pl l))) (by omega) hcl (by omega)
                    have hnews2 : ∀ j u, (nats (list.drop (i + 1)))[j]? = some u → wc.drew.cell? (ad.add j) = some u := by
                      intro j u hu
                      have hj : i + 1 + j < list.length := by
                        have := (List.getElem?_eq_some_iff.1 hu).1
                        simp [nats] at this; omega
                      rw [had (by omega), Addr.add_lit]
                      exact hnews j u hu
                    have hone : ∀ u ∈ nats (list.drop (i + 1)), u.oneCell' = true := by
                      intro u hu
                      simp only [nats, List.mem_map] at hu
                      obtain ⟨z, _, rfl⟩ := hu
                      rfl
                    have hnl3 : (nats (list.drop (i + 1))).length = list.length - (i + 1) := by simp [nats]
                    have hroom2 : keep2.length + (list.length - (i + 1)) ≤ list.length := by omega
                    have hwr : IntKind.i64.wrap ((i : Int) + 1) = (i : Int) + 1 := IntWalk.i64_in _ (by omega)
                    clear had hnews
                    go_wp2_with fail
                    go_region_held3 (fun w' => w'.cell? ⟨b, 4, none⟩ = some (.slice (some ⟨ga, 0, none⟩) R'.wt.length (G4.c (.inl 4)))) (first | go_keep | exact q5)
                        (first | (go_at_call 55; refine (cPl _).mono ?_; rintro e w' ⟨rfl, rfl⟩) | ((refine step_append_room_rw rfl (.tmp 127) (.tmp 131) 28 rfl 3 i0 Try.underlying28 hi0 hz1 g0 keep2.length list.length rfl ad (list.length - (i + 1)) _ (nats (list.drop (i + 1))) rfl hnl3 hnews2 hone hroom2 hsome hfz ?_)))
                    go_wp2
                    rw [Exit.noGoto_ret]
                    go_ret
                    refine ⟨by rw [Hfin.out]; rfl, _, ?_, T6.trans T7⟩
                    rw [Hfin.out]
                    exact E7
        · have hie : i = list.length := by omega
          subst hie
          have hil' : ¬ ((list.length : Int) < (list.length : Int)) := by omega
          rw [List.drop_length] at hres
          have hfin : S.visit l = (Si.putW (pl l) keep, true) := by rw [HVis.out, ← hres]; rfl
          have Hfin := Lib.hid hfin
          have Hcont := Lib.hid hcont
          clear hfin hres hv hcont hV hpre c15 d4 e4
          obtain ⟨ga, hga⟩ := E.lies (.inl 4) (by simp only [engD]; omega)
          have hga : Gi.g (.inl 4) = some ga := hga
          have q4 := E.s4 hga
          have n4 := E.n4 hga
          have hltR : (pl l : Int) < (Si.wt.length : Int) := by omega
          have X6 := E.drew.cutRow hgi hga keep.length list.length (by rw [Hcont.out, content_len _ _ (by omega)]; omega) hki hci
          rw [Hcont.out, List.take_left] at X6
          obtain ⟨E7, T7, x7, y7⟩ := X6
          go_wp2_with fail
          go_region_held3 (fun w' => w'.cell? ⟨b, 4, none⟩ = some (.slice (some ⟨ga, 0, none⟩) Si.wt.length (Gi.c (.inl 4)))) (go_keep) ((go_at_call 55; refine (cPl _).mono ?_; rintro e w' ⟨rfl, rfl⟩))
          go_wp2
          rw [Exit.noGoto_ret]
          go_ret
          refine ⟨by rw [Hfin.out]; rfl, _, ?_, (T.trans (Turned.drew _ _)).trans T7⟩
          rw [Hfin.out]
          exact E7
end Go.Proofs.Ytaileihnkmjfiaa
