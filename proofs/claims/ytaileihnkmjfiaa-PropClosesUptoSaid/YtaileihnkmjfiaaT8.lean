/-
  Back of the engine undoes to a level. Conditions: the engine lies in the world, and what each theorem names.
-/
import Derived.Test.YtaileihnkmjfiaaT7
namespace Go.Proofs.Ytaileihnkmjfiaa
open Go.RowKit

namespace ES
def undoV (S : ES) (v : Nat) : ES := { S with val := S.val.set v 0, lev := S.lev.set v 0, rsn := S.rsn.set v 0 }
def undoH (S : ES) (v : Nat) : ES := if v < S.hl.length then { S with fr := S.fr ++ S.hl.getD v [], hl := S.hl.set v [] } else S
def undoOne (S : ES) (l : Int) : ES := (S.undoV l.natAbs).undoH l.natAbs
def undo (S : ES) (ls : List Int) : ES := ls.foldl undoOne S
def backTo (S : ES) (m level : Nat) : ES :=
  let S1 := S.undo (S.tr.drop m)
  { S1 with tr := S.tr.take m, mks := S.mks.take level, head := min S.head m }
def backC (S : ES) : ES := if S.clash ≠ 0 then { S with fr := S.fr ++ [S.clash - 1], clash := 0 } else S
def back (S : ES) (level : Int) : ES × Int :=
  if level < 0 ∨ (S.mks.length : Int) < level then (S, 32)
  else if level = S.mks.length then (S, 0)
  else ((S.backTo (S.mks.getD level.toNat 0) level.toNat).backC, 0)
end ES

theorem slice_low (g i n c : Nat) (h1 : i ≤ n) (h2 : n ≤ c) : ∃ ad, (∀ w, (Instr.slice 28 (.slice (some ⟨g, 0, none⟩) n c) (some (.int .i64 (i : Int))) none none).run Try.prog w = .ok (.slice (some ad) (n - i) (c - i)) w) ∧ (i < n → ad = ⟨g, i, none⟩) := by
  obtain ⟨i0, hi, hz0, hz1, hz2⟩ := info_parts Try.info3
  have a2 : (i : Int) ≤ (n : Int) := by omega
  by_cases hc : c = i
  · refine ⟨⟨g, 0, none⟩, fun w => ?_, fun h => by omega⟩
    simp [Instr.slice, run_underlying Try.underlying28, Instr.sliceBounds, run_sliceBound, sizeOf, typeInfo, hi, a2, hc]
  · refine ⟨⟨g, i, none⟩, fun w => ?_, fun _ => rfl⟩
    by_cases hi0 : i = 0
    · subst hi0
      simp [Instr.slice, run_underlying Try.underlying28, Instr.sliceBounds, run_sliceBound, sizeOf, typeInfo, hi, hz1, hc, Addr.add]
    · simp [Instr.slice, run_underlying Try.underlying28, Instr.sliceBounds, run_sliceBound, sizeOf, typeInfo, hi, hz1, a2, hc, Addr.add, hi0]

theorem slice_zero (ao : Option Addr) (n c : Nat) : ∀ w, (Instr.slice 28 (.slice ao n c) none (some (.int .i64 0)) none).run Try.prog w = .ok (.slice ao 0 c) w := by
  obtain ⟨i0, hi, hz0, hz1, hz2⟩ := info_parts Try.info3
  intro w
  cases ao <;> simp [Instr.slice, run_underlying Try.underlying28, Instr.sliceBounds, run_sliceBound, sizeOf, typeInfo, hi, Addr.add]

theorem Eng.clearH {w : World} {b : Nat} {G : GH} {S : ES} (h : Eng w b G S) {go v : Nat} (hgo : G.g (.inl 5) = some go) (hv : v < S.hl.length) :
    Eng (w.setCell ⟨go, v, none⟩ (.slice (Option.map (fun g => { block := g, off := 0 }) (G.g (.inr (2, v)))) 0 (G.c (.inr (2, v))))) b (G.upd (.inr (2, v)) ⟨G.g (.inr (2, v)), G.c (.inr (2, v)), 0, []⟩) { S with hl := S.hl.set v [] } ∧
    Turned (ft G) w (ft (G.upd (.inr (2, v)) ⟨G.g (.inr (2, v)), G.c (.inr (2, v)), 0, []⟩)) (w.setCell ⟨go, v, none⟩ (.slice (Option.map (fun g => { block := g, off := 0 }) (G.g (.inr (2, v)))) 0 (G.c (.inr (2, v))))) ∧
    w.frozen? ⟨go, v, none⟩ = false := by
  have r0 := (h.row (.inr (2, v))).cut 0 (Nat.zero_le _)
  have r1 : Rw w 3 1 ⟨G.g (.inr (2, v)), G.c (.inr (2, v)), 0, []⟩ := by simpa [engD, engT] using r0
  obtain ⟨a1, a2, a3, a4⟩ := h.rowHl (d := ⟨G.g (.inr (2, v)), G.c (.inr (2, v)), 0, []⟩) [] hv hgo r1 rfl rfl (.inl rfl) ⟨rfl, rfl, rfl, Nat.le_refl _, fun _ _ _ => rfl⟩
  exact ⟨a1, a2, a4⟩

theorem undo_snoc (S : ES) (ls : List Int) (j : Nat) (h : j < ls.length) : S.undo (ls.take (j + 1)) = (S.undo (ls.take j)).undoOne (ls.getD j 0) := by
  unfold ES.undo
  exact foldl_take_succ ES.undoOne S 0 ls j h

theorem getD_mem {α : Type} {z : α} (l : List α) {i : Nat} (h : i < l.length) : l.getD i z ∈ l := by simp [List.getD, h]

structure UndoSame (S S' : ES) : Prop where
  tr : S'.tr = S.tr
  mks : S'.mks = S.mks
  head : S'.head = S.head
  clash : S'.clash = S.clash
  val : S'.val.length = S.val.length
  lev : S'.lev.length = S.lev.length
  rsn : S'.rsn.length = S.rsn.length
  hl : S'.hl.length = S.hl.length
theorem undoOne_same (S : ES) (l : Int) : UndoSame S (S.undoOne l) := by
  unfold ES.undoOne ES.undoH
  split <;> exact ⟨rfl, rfl, rfl, rfl, by simp [ES.undoV], by simp [ES.undoV], by simp [ES.undoV], by simp [ES.undoV]⟩
theorem undo_same (S : ES) (ls : List Int) : UndoSame S (S.undo ls) := by
  induction ls generalizing S with
  | nil => exact ⟨rfl, rfl, rfl, rfl, rfl, rfl, rfl, rfl⟩
  | cons l ls ih =>
    have a := undoOne_same S l
    have b := ih (S.undoOne l)
    exact ⟨b.tr.trans a.tr, b.mks.trans a.mks, b.head.trans a.head, b.clash.trans a.clash, b.val.trans a.val, b.lev.trans a.lev, b.rsn.trans a.rsn, b.hl.trans a.hl⟩

set_option maxHeartbeats 8000000 in
set_option maxRecDepth 100000 in
theorem back_any (b : Nat) (G : GH) (S : ES) (level : Int) (w : World) (h : Eng w b G S) (hS : S.Ok)
    (hfr : ∀ m j, (S.undo ((S.tr.drop m).take j)).fr.length + 1 ≤ 8796093022208) :
    Calls Try.prog 37 #[.pointer (some ⟨b, 0, none⟩), i64 level] w fun e w' => e = .returned (i64 (S.back level).2) ∧ ∃ G', Eng w' b G' (S.back level).1 ∧ Turned (ft G) w (ft G') w' := by
  have c10 := h.f10
  have hml := hS.mks_len
  have htl := hS.tr_len
  have hnl := hS.n_le
  by_cases h1 : level < 0
  · unfold sv at c10
    go_enter Try.func37, Try.ntmps37
    go_wp2
    go_ret
    have e : S.back level = (S, 32) := by unfold ES.back; rw [if_pos (.inl h1)]
    exact ⟨by rw [e]; rfl, G, by rw [e]; exact h, Turned.refl _ _⟩
  · by_cases h2 : (S.mks.length : Int) < level
    · unfold sv at c10
      go_enter Try.func37, Try.ntmps37
      go_wp2
      go_ret
      have e : S.back level = (S, 32) := by unfold ES.back; rw [if_pos (.inr h2)]
      exact ⟨by rw [e]; rfl, G, by rw [e]; exact h, Turned.refl _ _⟩
    · obtain ⟨lv, rfl⟩ : ∃ lv : Nat, level = lv := ⟨level.toNat, by omega⟩
      by_cases h3 : lv = S.mks.length
      · have b3 : ((lv : Int) == (S.mks.length : Int)) = true := by rw [h3]; simp
        have e : S.back lv = (S, 0) := by unfold ES.back; rw [if_neg (by omega), if_pos (by omega)]
        have He := Lib.hid e
        clear h3 e
        unfold sv at c10
        go_enter Try.func37, Try.ntmps37
        go_wp2
        go_ret
        exact ⟨by rw [He.out]; rfl, G, by rw [He.out]; exact h, Turned.refl _ _⟩
      · have b3 : ((lv : Int) == (S.mks.length : Int)) = false := by simp; omega
        have hlt : lv < S.mks.length := by omega
        have hlt' : (lv : Int) < (S.mks.length : Int) := by omega
        obtain ⟨ma, hma⟩ := h.lies (.inl 10) (by simp only [engD]; omega)
        have hma : G.g (.inl 10) = some ma := hma
        obtain ⟨ta, hta⟩ := h.lies (.inl 9) (by simp only [engD]; omega)
        have hta : G.g (.inl 9) = some ta := hta
        clear c10
        have c10 := h.s10 hma
        have e10 := h.e10 hma hlt
        have c9 := h.s9 hta
        have hmr := hS.mks_rng (S.mks.getD lv 0) (by simp [List.getD, hlt])
        have HB : Hid (S.back lv = ((S.backTo (S.mks.getD lv 0) lv).backC, 0)) := by show _ = _; unfold ES.back; rw [if_neg (by omega), if_neg (by omega)]; simp
        have hfr2 := fun j => hfr (S.mks.getD lv 0) j
        generalize S.mks.getD lv 0 = m at *
        have hcap := (h.row (.inl 9)).le
        have hcmx := (h.row (.inl 9)).max
        simp only [engD] at hcap hcmx
        obtain ⟨ad, hsl, had⟩ := slice_low ta m S.tr.length (G.c (.inl 9)) hmr hcap
        clear h3 h2
        go_enter Try.func37, Try.ntmps37
        go_wp2_with fail
        have hll : (S.tr.drop m).length = S.tr.length - m := by simp
        have hNb : S.tr.length - m ≤ 1048576 := by omega
        obtain ⟨i0, hi0, hz0, hz1, hz2⟩ := info_parts Try.info3
        go_loopg [41] (S.tr.length - m) (fun gm s41 wr => ∃ j Gj, gm = (S.tr.length - m) - j ∧ j ≤ S.tr.length - m ∧ s41 = .int .i64 (j : Nat) ∧ Eng wr b Gj (S.undo ((S.tr.drop m).take j)) ∧ Turned (ft G) w (ft Gj) wr ∧ Gj.g (.inl 9) = some ta)
        case atStart => exact ⟨0, G, rfl, Nat.zero_le _, rfl, h, Turned.refl _ _, hta⟩
        case round =>
          obtain ⟨j, Gj, rfl, hj, rfl, E, T, hta1⟩ := hrel
          have U := undo_same S ((S.tr.drop m).take j)
          by_cases hjl : j < S.tr.length - m
          · obtain rfl := had (by omega)
            have hjl' : (j : Int) < ((S.tr.length - m : Nat) : Int) := by omega
            have hx := hS.tr_rng ((S.tr.drop m).getD j 0) (by
              exact List.mem_of_mem_drop (getD_mem _ (by omega)))
            have hsn := undo_snoc S (S.tr.drop m) j (by omega)
            have hfr3 := hfr2 (j + 1)
            rw [hsn] at hfr3
            have Hsn := Lib.hid hsn
            clear hsn
            have ecell := E.e9 hta1 (k := m + j) (by rw [U.tr]; omega)
            have exx : (S.undo ((S.tr.drop m).take j)).tr.getD (m + j) 0 = (S.tr.drop m).getD j 0 := by rw [U.tr]; simp [List.getD]
            rw [exx] at ecell
            have hv1 : (S.undo ((S.tr.drop m).take j)).val.length = S.n + 1 := U.val.trans hS.val_len
            have hv2 : (S.undo ((S.tr.drop m).take j)).lev.length = S.n + 1 := U.lev.trans hS.lev_len
            have hv3 : (S.undo ((S.tr.drop m).take j)).rsn.length = S.n + 1 := U.rsn.trans hS.rsn_len
            generalize (S.tr.drop m).getD j 0 = x at *
            generalize hSj : S.undo ((S.tr.drop m).take j) = Sj at *
            have HSj := Lib.hid hSj
            have Hv1 := Lib.hid hv1
            have Hv2 := Lib.hid hv2
            have Hv3 := Lib.hid hv3
            have HU := Lib.hid U
            clear hSj exx had hsl U c9 c10 e10
            go_upto_region 9 with (fail)
            go_cut [8] (fun s8 wx => s8 = .int .i64 (x.natAbs : Nat) ∧ wr = wx)
            case first =>
              by_cases hneg : x < 0
              · obtain ⟨y, rfl, hy0⟩ := nat_of_neg hneg
                have hy3 : (y : Int) ≤ 1048576 := by omega
                clear ecell hv1 hv2 hv3
                go_wp2_with fail
                go_meet
                exact ⟨by rw [natAbs_neg'], rfl⟩
              · obtain ⟨y, rfl⟩ := nat_of_pos hneg
                have hy3 : (y : Int) ≤ 1048576 := by omega
                have hy4 : 0 ≤ (y : Int) := by omega
                clear ecell hv1 hv2 hv3
                go_wp2_with fail
                go_meet
                exact ⟨by rw [natAbs_pos'], rfl⟩
            case rest =>
              obtain ⟨rfl, rfl⟩ := hcut
              have HO : Hid (Sj.undoOne x = (Sj.undoV x.natAbs).undoH x.natAbs) := rfl
              rw [HO.out] at hfr3
              have hvn : x.natAbs ≤ S.n := hx.2
              generalize x.natAbs = v at *
              obtain ⟨va, hva⟩ := E.lies (.inl 6) (by simp only [engD]; omega)
              have hva : Gj.g (.inl 6) = some va := hva
              obtain ⟨la, hla⟩ := E.lies (.inl 7) (by simp only [engD]; omega)
              have hla : Gj.g (.inl 7) = some la := hla
              obtain ⟨ra, hra⟩ := E.lies (.inl 8) (by simp only [engD]; omega)
              have hra : Gj.g (.inl 8) = some ra := hra
              have c6 := E.s6 hva
              have c7 := E.s7 hla
              have c8 := E.s8 hra
              have z6 := E.e6 hva (k := v) (by omega)
              have z7 := E.e7 hla (k := v) (by omega)
              have z8 := E.e8 hra (k := v) (by omega)
              have y6 := E.z6 hva v
              have y7 := E.z7 hla v
              have y8 := E.z8 hra v
              have n6 := E.n6 hva
              have n7 := E.n7 hla
              have n8 := E.n8 hra
              have m67 : va ≠ la := E.own.ne (D := engD Gj Sj) (r := .inl 6) (r' := .inl 7) hva hla (by simp)
              have m68 : va ≠ ra := E.own.ne (D := engD Gj Sj) (r := .inl 6) (r' := .inl 8) hva hra (by simp)
              have m78 : la ≠ ra := E.own.ne (D := engD Gj Sj) (r := .inl 7) (r' := .inl 8) hla hra (by simp)
              have k1 : (v : Int) < (Sj.val.length : Int) := by omega
              have k2 : (v : Int) < (Sj.lev.length : Int) := by omega
              have k3 : (v : Int) < (Sj.rsn.length : Int) := by omega
              have E1 : Eng (((wr.setCell ⟨va, v, none⟩ (.int .i8 0)).setCell ⟨la, v, none⟩ (.int .i64 0)).setCell ⟨ra, v, none⟩ (.int .i64 0)).drew b Gj (Sj.undoV v) := ((((E.setVal hva v 0).setLev hla v 0).setRsn hra v 0)).drew
              have T1 := (((T.trans (Turned.setCell wr ⟨va, v, none⟩ (.int .i8 0) (E.t6 hva))).trans (Turned.setCell _ ⟨la, v, none⟩ (.int .i64 0) (E.t7 hla))).trans (Turned.setCell _ ⟨ra, v, none⟩ (.int .i64 0) (E.t8 hra))).trans (Turned.drew _ _)
              clear hv1 hv2 hv3
              go_wp2_with fail
              go_region_held3 (fun w' => w'.cell? ⟨b, 6, none⟩ = some (.slice (some ⟨va, 0, none⟩) Sj.val.length (Gj.c (.inl 6))) ∧ w'.cell? ⟨b, 7, none⟩ = some (.slice (some ⟨la, 0, none⟩) Sj.lev.length (Gj.c (.inl 7))) ∧ w'.cell? ⟨b, 8, none⟩ = some (.slice (some ⟨ra, 0, none⟩) Sj.rsn.length (Gj.c (.inl 8)))) (go_keep) ((fail))
              go_upto_region 11 with (fail)
              generalize (((wr.setCell ⟨va, v, none⟩ (.int .i8 0)).setCell ⟨la, v, none⟩ (.int .i64 0)).setCell ⟨ra, v, none⟩ (.int .i64 0)).drew = w1 at *
              clear c6 c7 c8 z6 z7 z8 y6 y7 y8 k1 k2 k3 m67 m68 m78 ecell
              obtain ⟨S1, hS1⟩ : ∃ S1, S1 = Sj.undoV v := ⟨_, rfl⟩
              rw [← hS1] at E1 hfr3
              have HO2 : Hid (Sj.undoOne x = S1.undoH v) := by show _ = _; rw [HO.out, hS1]
              have HS1 := Lib.hid hS1
              clear hS1
              by_cases hvl : v < S1.hl.length
              · obtain ⟨ho, hho⟩ := E1.lies (.inl 5) (by simp only [engD]; omega)
                have hho : Gj.g (.inl 5) = some ho := hho
                have d5 := E1.s5 hho
                have e5 := E1.e5 hho hvl
                have f13 := E1.f13
                have R2 := E1.drew.row (.inr (2, v))
                have HU2 : Hid (S1.undoH v = { S1 with fr := S1.fr ++ S1.hl.getD v [], hl := S1.hl.set v [] }) := by show _ = _; unfold ES.undoH; rw [if_pos hvl]
                rw [HU2.out] at hfr3
                simp only [engD] at R2
                simp only at hfr3
                generalize S1.hl.getD v [] = q at *
                unfold sv at e5
                have hvl' : (v : Int) < (S1.hl.length : Int) := by omega
                have hao : Option.map (fun g => (⟨g, 0, none⟩ : Addr)) (Gj.g (.inr (2, v))) = none → q.length = 0 := by
                  intro hn
                  have := R2.nil (by simpa using hn)
                  have := R2.le
                  simp only at *; omega
                have hnews : ∀ a, Option.map (fun g => (⟨g, 0, none⟩ : Addr)) (Gj.g (.inr (2, v))) = some a → ∀ j u, (nats q)[j]? = some u → w1.drew.cell? (a.add j) = some u := by
                  intro a ha j u hj
                  obtain ⟨g, hg, rfl⟩ := Option.map_eq_some_iff.1 ha
                  rw [Addr.add_lit, Nat.zero_add]
                  exact R2.cellv hg hj
                have hone : ∀ u ∈ nats q, u.oneCell' = true := by
                  intro u hu
                  simp only [nats, List.mem_map] at hu
                  obtain ⟨z, _, rfl⟩ := hu
                  rfl
                have hnq : (nats q).length = q.length * 1 := by simp [nats]
                have hlen13 : S1.fr.length + q.length + 1 ≤ 8796093022208 := by simpa using hfr3
                have hb1 : (engD Gj S1 (.inl 13)).n + q.length ≤ maxLen := by simp only [engD, maxLen]; omega
                have hb2 : ((engD Gj S1 (.inl 13)).n + q.length) * 8 ≤ 140737488355328 := by simp only [engD]; omega
                go_upto_region 12 with (fail)
                go_cut [] (fun wx => ∃ G5, Eng wx b G5 { S1 with fr := S1.fr ++ q } ∧ Turned (ft G) w (ft G5) wx ∧ G5.g (.inl 9) = some ta ∧ G5.g (.inl 5) = some ho ∧ G5.g (.inr (2, v)) = Gj.g (.inr (2, v)) ∧ G5.c (.inr (2, v)) = Gj.c (.inr (2, v)))
                case first =>
                  go_region_law ((refine step_append_rw rfl (.tmp 78) (.tmp 85) 28 rfl 3 i0 (.int .i64 0) 1 8 Try.underlying28 hi0 hz0 hz1 hz2 rfl (by decide) (engD Gj S1 (.inl 13)) rfl (E1.drew.row (.inl 13)) _ q.length _ (nats q) rfl hnq hao hnews hone hb1 hb2 ?_; intro d' w5 rw1 en ex eg hgr; obtain ⟨E5, T5, x1, x2⟩ := E1.drew.pushFr (d := d') q rw1 en ex (le_of_new' eg rfl (Nat.le_refl _)) hgr; clear en ex eg))
                  all_goals
                    go_wp2_with fail
                    go_meet
                    exact ⟨_, E5, (T1.trans (Turned.drew _ _)).trans T5, hta1, hho, rfl, rfl⟩
                case rest =>
                  obtain ⟨G5, E5, T5, hta5, hho5, hg5, hc5⟩ := hcut
                  have d6 := E5.s5 hho5
                  have e6 := E5.e5 hho5 hvl
                  have hqq : ({ S1 with fr := S1.fr ++ q } : ES).hl.getD v [] = S1.hl.getD v [] := rfl
                  unfold sv at e6
                  rw [hg5, hc5] at e6
                  generalize ({ S1 with fr := S1.fr ++ q } : ES).hl.getD v [] = q2 at *
                  obtain ⟨E6, T6, z6⟩ := E5.drew.clearH hho5 hvl
                  rw [hg5, hc5] at E6 T6
                  have hsz := slice_zero (Option.map (fun g => (⟨g, 0, none⟩ : Addr)) (Gj.g (.inr (2, v)))) q2.length (Gj.c (.inr (2, v)))
                  have z6' : wc.frozen? ⟨ho, v, none⟩ = false := z6
                  clear d5 e5 f13 hqq hao hnews hone hg5 hc5
                  go_wp2_with fail
                  go_still_tail 14, (by kernel_rfl)
                  change wpList _ _ _ _ _ wc.drew
                  go_wp2_with fail
                  go_roundg (S.tr.length - m - (j + 1))
                  case measure => omega
                  case rel =>
                    refine ⟨j + 1, _, rfl, by omega, by simp, ?_, (T5.trans (Turned.drew _ _)).trans T6, ?_⟩
                    · rw [Hsn.out, HO2.out, HU2.out]; exact E6
                    · simpa [GH.upd] using hta5
              · have hvl' : ¬ ((v : Int) < (S1.hl.length : Int)) := by omega
                have f5 := E1.f5
                unfold sv at f5
                have HU2 : Hid (S1.undoH v = S1) := by show _ = _; unfold ES.undoH; rw [if_neg hvl]
                go_wp2_with fail
                go_roundg (S.tr.length - m - (j + 1))
                case measure => omega
                case rel => exact ⟨j + 1, Gj, rfl, by omega, by simp, by rw [Hsn.out, HO2.out, HU2.out]; exact E1, T1, hta1⟩
          · have hjN : j = S.tr.length - m := by omega
            have hmj : m ≤ S.tr.length := hmr
            rw [List.take_of_length_le (show (S.tr.drop m).length ≤ j by omega)] at E U
            have hfr3 := hfr2 j
            rw [List.take_of_length_le (show (S.tr.drop m).length ≤ j by omega)] at hfr3
            subst hjN
            have hjl' : ¬ (((S.tr.length - m : Nat) : Int) < ((S.tr.length - m : Nat) : Int)) := by omega
            obtain ⟨S1, hS1⟩ : ∃ S1, S1 = S.undo (S.tr.drop m) := ⟨_, rfl⟩
            rw [← hS1] at E U hfr3
            have HBk : Hid (S.backTo m lv = { S1 with tr := S.tr.take m, mks := S.mks.take lv, head := min S.head m }) := by show _ = _; unfold ES.backTo; rw [hS1]
            have htr1 := U.tr
            have hmk1 := U.mks
            have hhd1 := U.head
            have hcl1 := U.clash
            clear hS1 had hsl c9 c10 e10 U hcap hcmx
            have hmax := S.head
            have hheadle := hS.head_le
            have hclashle := hS.clash_le
            have hcsle := hS.cs_len
            -- trail
            have c9 := E.s9 hta1
            rw [htr1] at c9
            have y9 := E.ff 9
            have hcap9 := (E.row (.inl 9)).le
            simp only [engD] at hcap9
            rw [htr1] at hcap9
            have hsl9 := slice_to ta S.tr.length m (Gj.c (.inl 9)) (by omega)
            have E2 := E.cut9 hta1 m (by rw [htr1]; exact hmr)
            have T2 := T.trans (Turned.setCell wr ⟨b, 9, none⟩ (.slice (some ⟨ta, 0, none⟩) m (Gj.c (.inl 9))) E.foot_b)
            have Htr1 := Lib.hid htr1
            have Hmk1 := Lib.hid hmk1
            have Hhd1 := Lib.hid hhd1
            have Hcl1 := Lib.hid hcl1
            clear htr1 hmk1 hhd1 hcl1 hcap9
            go_upto_region 16 with (fail)
            generalize wr.setCell ⟨b, 9, none⟩ (.slice (some ⟨ta, 0, none⟩) m (Gj.c (.inl 9))) = w2 at *
            clear c9 y9 hsl9
            obtain ⟨mb, hmb⟩ := E2.lies (.inl 10) (by simp only [engD, Hmk1.out]; omega)
            have hmb : Gj.g (.inl 10) = some mb := hmb
            have c10 : w2.cell? ⟨b, 10, none⟩ = some (.slice (some ⟨mb, 0, none⟩) S.mks.length (Gj.c (.inl 10))) := by
              have := E2.s10 hmb
              simp only [Hmk1.out] at this; exact this
            have y10 := E2.ff 10
            have hcap10 := (E2.row (.inl 10)).le
            simp only [engD, Hmk1.out] at hcap10
            have hsl10 := slice_to mb S.mks.length lv (Gj.c (.inl 10)) (by omega)
            have E3 := E2.cut10 hmb lv (by simp only [Hmk1.out]; omega)
            have T3 := T2.trans (Turned.setCell w2 ⟨b, 10, none⟩ (.slice (some ⟨mb, 0, none⟩) lv (Gj.c (.inl 10))) E2.foot_b)
            clear hcap10
            go_upto_region 17 with (fail)
            generalize w2.setCell ⟨b, 10, none⟩ (.slice (some ⟨mb, 0, none⟩) lv (Gj.c (.inl 10))) = w3 at *
            clear c10 y10 hsl10
            have E4 := E3.set_head (min S.head m)
            simp only [Htr1.out, Hmk1.out] at E4
            have T4 := T3.trans (Turned.setCell w3 ⟨b, 11, none⟩ (i64 ((min S.head m : Nat) : Int)) E3.foot_b)
            have f11 : w3.cell? ⟨b, 11, none⟩ = some (i64 (S.head : Nat)) := by have := E3.f11; simp only [Hhd1.out] at this; exact this
            have y11 := E3.ff 11
            go_cut [] (fun wx => w3.setCell ⟨b, 11, none⟩ (i64 ((min S.head m : Nat) : Int)) = wx)
            case first =>
              by_cases hmin : S.head ≤ m
              · have hmin' : (S.head : Int) ≤ (m : Int) := by omega
                have hmin2 : min S.head m = S.head := Nat.min_eq_left hmin
                go_wp2_with fail
                go_meet
                first | rw [hmin2] | (refine ⟨?_, rfl⟩; rw [hmin2])
              · have hmin' : ¬ ((S.head : Int) ≤ (m : Int)) := by omega
                have hmin3 : ((m : Int)) < (S.head : Int) := by omega
                have hmin2 : min S.head m = m := Nat.min_eq_right (by omega)
                go_wp2_with fail
                go_meet
                first | rw [hmin2] | (refine ⟨?_, rfl⟩; rw [hmin2])
            case rest =>
              subst hcut
              have HBk2 : Hid (S.backTo m lv = { S1 with tr := S.tr.take m, mks := S.mks.take lv, head := min S.head m }) := HBk
              obtain ⟨S4, hS4⟩ : ∃ S4, S4 = { S1 with tr := S.tr.take m, mks := S.mks.take lv, head := min S.head m } := ⟨_, rfl⟩
              rw [← hS4] at E4
              have hbk : S.backTo m lv = S4 := by rw [HBk.out, hS4]
              have hcl4 : S4.clash = S.clash := by rw [hS4]; exact Hcl1.out
              have hfr4 : S4.fr = S1.fr := by rw [hS4]
              have HB2 : Hid (S.back lv = (S4.backC, 0)) := by show _ = _; rw [HB.out, hbk]
              rw [← hfr4] at hfr3
              clear hS4 hbk hfr4
              generalize w3.setCell ⟨b, 11, none⟩ (i64 ((min S.head m : Nat) : Int)) = w4 at *
              clear f11 y11
              have f12 := E4.f12
              rw [hcl4] at f12
              have y12 := E4.ff 12
              by_cases hc0 : S.clash = 0
              · have b0 : ((S.clash : Int) != 0) = false := by simpa using hc0
                have e : S4.backC = S4 := by unfold ES.backC; rw [if_neg (by rw [hcl4]; simp [hc0])]
                have He := Lib.hid e
                have Hcl4 := Lib.hid hcl4
                clear e hc0 hcl4
                go_wp2
                go_ret
                exact ⟨by rw [HB2.out]; rfl, Gj, by rw [HB2.out, He.out]; exact E4, T4⟩
              · have b0 : ((S.clash : Int) != 0) = true := by simpa using hc0
                obtain ⟨k, hk⟩ : ∃ k, S.clash = k + 1 := ⟨S.clash - 1, by omega⟩
                have e : S4.backC = { S4 with fr := S4.fr ++ [k], clash := 0 } := by unfold ES.backC; rw [if_pos (by rw [hcl4]; exact hc0), hcl4, hk]; rfl
                have hk2 : (k : Int) ≤ 1048576 := by omega
                have hk3 : 0 ≤ (k : Int) := by omega
                have hwr : IntKind.i64.wrap (k : Int) = (k : Int) := IntWalk.i64_in _ (by omega)
                have f12' : w4.cell? ⟨b, 12, none⟩ = some (.int .i64 ((k : Int) + 1)) := by rw [f12, hk]; rfl
                have b1 : ((k : Int) + 1 != 0) = true := by simp; omega
                have f13 := E4.f13
                have He := Lib.hid e
                have Hcl4 := Lib.hid hcl4
                clear e hc0 hcl4 f12 b0 hk
                have E5 := (E4.alloc (.cells #[i64 k] 3)).drew
                have T5 := T4.trans ((Turned.alloc _ w4 (.cells #[i64 k] 3)).trans (Turned.drew _ _))
                have f13a : (w4.alloc (.cells #[i64 k] 3)).cell? ⟨b, 13, none⟩ = _ := E5.f13
                have hb1 : (engD Gj S4 (.inl 13)).n + 1 ≤ maxLen := by simp only [engD, maxLen]; omega
                have hb2 : ((engD Gj S4 (.inl 13)).n + 1) * 8 ≤ 140737488355328 := by simp only [engD]; omega
                go_upto_region 19 with (fail)
                go_region_law ((refine step_append_rw rfl (.tmp 140) (.tmp 146) 28 rfl 3 i0 (.int .i64 0) 1 8 Try.underlying28 hi0 hz0 hz1 hz2 rfl (by decide) (engD Gj S4 (.inl 13)) rfl (E5.row (.inl 13)) (some ⟨w4.heap.size, 0, none⟩) 1 1 [i64 k] rfl rfl (fun h => by cases h) (new_one w4 _ 3) (one_i64 _) hb1 hb2 ?_; intro d' w5 rw1 en ex eg hgr; obtain ⟨E6, T6, x1, x2⟩ := E5.pushFr (d := d') [k] rw1 en ex (le_of_new' eg rfl (by simp)) hgr; clear en ex eg))
                all_goals
                  go_upto_region 20 with (fail)
                  have E6' : Eng (w5.setCell ⟨b, 13, none⟩ (.slice (Option.map (fun g => { block := g, off := 0 }) d'.g) d'.n d'.cap)) b _ _ := E6
                  have T6' : Turned (ft Gj) _ (ft (Gj.upd (.inl 13) d')) (w5.setCell ⟨b, 13, none⟩ (.slice (Option.map (fun g => { block := g, off := 0 }) d'.g) d'.n d'.cap)) := T6
                  generalize w5.setCell ⟨b, 13, none⟩ (.slice (Option.map (fun g => { block := g, off := 0 }) d'.g) d'.n d'.cap) = w6 at *
                  have y12 := E6'.ff 12
                  have f12 := E6'.f12
                  have E7 := E6'.set_clash 0
                  have T7 := (T5.trans T6').trans (Turned.setCell w6 ⟨b, 12, none⟩ (i64 ((0 : Nat) : Int)) E6'.foot_b)
                  go_wp2
                  go_ret
                  exact ⟨by rw [HB2.out]; rfl, _, by rw [HB2.out, He.out]; exact E7, T7⟩
end Go.Proofs.Ytaileihnkmjfiaa
