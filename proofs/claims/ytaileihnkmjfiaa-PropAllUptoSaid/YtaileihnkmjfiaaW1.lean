/-
  Lists that are held against one another: same, alone. Conditions: those each theorem names.
-/
import Derived.Test.YtaileihnkmjfiaaN4
namespace Go.Proofs.Ytaileihnkmjfiaa
open Go.RowKit

set_option maxHeartbeats 2000000 in
theorem same_any (v1 v2 : Value) (c : List Int) (w : World) (h1 : IntsAt w v1 c) (h2 : IntsAt w v2 c) :
    Calls Try.prog 25 #[v1, v2] w fun e w' => e = .returned (.bool true) ∧ Drawn w w' := by
  obtain ⟨ao, cap, rfl, l2, l3, l4⟩ := h1
  obtain ⟨bo, cap2, rfl, k2, k3, k4⟩ := h2
  unfold maxLen at l3 k3
  have L4 := Lib.hid l4
  have K4 := Lib.hid k4
  clear l4 k4
  go_enter Try.func25, Try.ntmps25
  go_wp2_with fail
  go_loopg [5] c.length (fun gm s5 wr => ∃ k : Nat, gm = c.length - k ∧ k ≤ c.length ∧ s5 = .int .i64 (k : Nat) ∧ Drawn w wr)
  case atStart => exact ⟨0, rfl, Nat.zero_le _, rfl, Drawn.refl _⟩
  case round =>
    obtain ⟨k, rfl, hk, rfl, Dr⟩ := hrel
    by_cases hkl : k < c.length
    · obtain ⟨cb, co, rfl, hc⟩ := L4.out (by omega)
      obtain ⟨db, do_, rfl, hd⟩ := K4.out (by omega)
      have e1 : wr.cell? ⟨cb, co + k, none⟩ = some (i64 (c.getD k 0)) := by obtain ⟨m, rfl⟩ := Dr; exact hc k hkl
      have e2 : wr.cell? ⟨db, do_ + k, none⟩ = some (i64 (c.getD k 0)) := by obtain ⟨m, rfl⟩ := Dr; exact hd k hkl
      have hkl' : (k : Int) < (c.length : Int) := by omega
      have Dn := Lib.hid (fun n => Dr.on n)
      have Hc := Lib.hid hc
      have Hd := Lib.hid hd
      generalize c.getD k 0 = x at *
      clear hc hd Dr
      go_wp2_with fail
      go_quiet (fail)
      go_wp2_with fail
      go_roundg (c.length - (k + 1))
      case measure => omega
      case rel => exact ⟨k + 1, rfl, by omega, by go_num, Dn.out _⟩
    · obtain rfl : k = c.length := by omega
      have hkl' : ¬ ((c.length : Int) < (c.length : Int)) := by omega
      have HD := Lib.hid Dr
      clear Dr
      go_wp2_with fail
      go_ret
      exact ⟨rfl, HD.out⟩

/-- nothing but a row of one's own has turned -/
abbrev onlyAt (g : Option Nat) (k : Nat) : Prop := g = some k

theorem Turned.aside {w w' : World} {g g' : Option Nat} (hgr : w.grownBy w' g) (hg : g' = g ∨ g' = some w.heap.size) : Turned (onlyAt g) w (onlyAt g') w' :=
  ⟨hgr.os, hgr.tape, hgr.output, hgr.size, fun k hk hF => hgr.block k hk (fun e => hF e.symm), fun k hk => by
    rcases hg with e | e
    · exact .inl (e ▸ hk)
    · right
      have hk : g' = some k := hk
      rw [e] at hk
      cases hk
      exact Nat.le_refl _⟩

theorem Rw.other {w w' : World} {T sz : Nat} {d : RD} {F F' : Nat → Prop} (h : Rw w T sz d) (t : Turned F w F' w') (hn : ∀ g, d.g = some g → ¬ F g) : Rw w' T sz d :=
  h.of_heap fun g hg => t.block g (h.lt hg) (hn g hg)

set_option maxHeartbeats 8000000 in
set_option maxRecDepth 100000 in
theorem alone_any (dA dB : RD) (c : List Int) (w : World) (hA : Rw w 3 1 dA) (hAn : dA.n ≤ 65536) (hB : Rw w 3 1 dB) (hBn : dB.n = c.length) (hBx : dB.xs = ints c) (hcl : c.length ≤ 65536) (hne : ∀ g, dA.g = some g → dB.g ≠ some g) :
    Calls Try.prog 26 #[dA.v, dB.v] w fun e w' => e = .returned (.bool true) ∧ ∃ F', Turned (onlyAt dA.g) w F' w' := by
  obtain ⟨i0, hi0, hz0, hz1, hz2⟩ := info_parts Try.info3
  have hdb : dB.v = .slice (Option.map (fun g => { block := g, off := 0 }) dB.g) c.length dB.cap := by unfold RD.v sv; rw [hBn]
  obtain ⟨aA, haA⟩ : ∃ aA, aA = Option.map (fun g => (⟨g, 0, none⟩ : Addr)) dA.g := ⟨_, rfl⟩
  have hda : dA.v = .slice aA dA.n dA.cap := by rw [haA]; rfl
  have HaA := Lib.hid haA
  clear haA
  have RM : Rw (w.alloc (.cells #[] 3)) 3 1 ⟨some w.heap.size, 0, 0, []⟩ := Rw.new (n := 0) (sz := 1) (heap_alloc_new w (.cells #[] 3)) rfl (by simp [maxLen])
  have hB1 := hB.alloc (.cells #[] 3)
  have hb1 : 0 + c.length ≤ maxLen := by simp only [maxLen]; omega
  have hb2 : (0 + c.length) * 8 ≤ 140737488355328 := by omega
  have hao : Option.map (fun g => (⟨g, 0, none⟩ : Addr)) dB.g = none → c.length = 0 := fun hn => hBn ▸ hB.news0 hn
  have hnews : ∀ a, Option.map (fun g => (⟨g, 0, none⟩ : Addr)) dB.g = some a → ∀ j u, (ints c)[j]? = some u → (w.alloc (.cells #[] 3)).cell? (a.add j) = some u := by rw [← hBx]; exact hB1.news
  have hAc := hA.le
  have hAm := hA.max
  unfold maxLen at hAm
  have hal : (ints c).length = c.length * 1 := by simp [ints]
  have HAo := Lib.hid hA
  have HBo := Lib.hid hB
  have HBn := Lib.hid hBn
  have HBx := Lib.hid hBx
  have Hne := Lib.hid hne
  rw [hda, hdb]
  clear hA hB hBn hBx hne hda hB1
  go_enter Try.func26, Try.ntmps26
  go_wp2_with (at_builtin; (refine wpList_append_rw rfl (.tmp 8) (.tmp 9) 28 rfl 3 i0 (.int .i64 0) 1 8 Try.underlying28 hi0 hz0 hz1 hz2 rfl (by decide) ⟨some w.heap.size, 0, 0, []⟩ rfl RM (Option.map (fun g => ⟨g, 0, none⟩) dB.g) c.length dB.cap (ints c) rfl hal hao hnews (ints_one c) hb1 hb2 ?go))
  case go =>
    intro dK w1 rw1 en ex eg hgr
    have hbl : Below w.heap.size w w1 := (((Below.refl _ w).alloc (Nat.le_refl _) (.cells #[] 3))).grown hgr (by simp) (fun k e => by cases e; exact Nat.le_refl _)
    have hKn : dK.n = c.length := by simpa using en
    have hKx : dK.xs = ints c := by simpa using ex
    have hKg : ∀ g, dK.g = some g → w.heap.size ≤ g := by
      intro g hg
      rcases eg with e | e
      · rw [e] at hg; cases hg; exact Nat.le_refl _
      · rw [e] at hg; cases hg; simp
    have hKv : Value.slice (Option.map (fun g => { block := g, off := 0 }) dK.g) dK.n dK.cap = .slice (Option.map (fun g => { block := g, off := 0 }) dK.g) c.length dK.cap := by rw [hKn]
    rw [hKv]
    have T1 := Lib.hid (Turned.of_below (onlyAt dA.g) hbl)
    have RA1 := Lib.hid (HAo.out.below hbl)
    have RB1 := Lib.hid (HBo.out.below hbl)
    have RK1 := Lib.hid rw1
    have HKn := Lib.hid hKn
    have HKx := Lib.hid hKx
    have HKg := Lib.hid hKg
    clear en ex eg hgr hbl hKn hKx hKg hKv RM hnews hao
    go_wp2_with fail
    go_loopg [6] dA.n (fun gm s6 wr => ∃ (k : Nat) (xs : List Value), gm = dA.n - k ∧ k ≤ dA.n ∧ s6 = .int .i64 (k : Nat) ∧ Rw wr 3 1 { dA with xs := xs } ∧ Turned (onlyAt dA.g) w1 (onlyAt dA.g) wr)
    case atStart => exact ⟨0, dA.xs, rfl, Nat.zero_le _, rfl, RA1.out, Turned.refl _ _⟩
    case round =>
      obtain ⟨k, xs, rfl, hk, rfl, RA, TA⟩ := hrel
      by_cases hkl : k < dA.n
      · have hkl' : (k : Int) < (dA.n : Int) := by omega
        obtain ⟨g, hg⟩ := RA.isome (by show 0 < dA.n; omega)
        have hg : dA.g = some g := hg
        have hlen : xs.length = dA.n * 1 := RA.len
        have ec : wr.cell? ⟨g, k, none⟩ = xs[k]? := RA.cell (i := k) hg (by show k < xs.length; omega)
        obtain ⟨x, hx⟩ : ∃ x, xs[k]? = some x := ⟨xs[k]'(by omega), by simp⟩
        rw [hx] at ec
        have fz := RA.frozen (i := k) hg
        have RA2 := Lib.hid (RA.set (i := k) hg (.int .i64 9999999))
        have TA2 := Lib.hid (TA.trans (Turned.setCell wr ⟨g, k, none⟩ (.int .i64 9999999) (show onlyAt dA.g g from hg)))
        have Hg := Lib.hid hg
        obtain rfl : aA = some ⟨g, 0, none⟩ := by rw [HaA.out, hg]; rfl
        clear RA TA hg hx
        go_wp2_with fail
        go_roundg (dA.n - (k + 1))
        case measure => omega
        case rel => exact ⟨k + 1, xs.set k (.int .i64 9999999), rfl, by omega, by go_num, RA2.out, TA2.out⟩
      · obtain rfl : k = dA.n := by omega
        have hkl' : ¬ ((dA.n : Int) < (dA.n : Int)) := by omega
        have RA3 := Lib.hid RA
        have TA3 := Lib.hid TA
        clear RA TA
        go_wp2_with fail
        go_loopg [0, 7] 16 (fun gm s0 s7 wx => ∃ (k : Nat) (d : RD), gm = 16 - k ∧ k ≤ 16 ∧ s7 = .int .i64 (k : Nat) ∧ s0 = .slice (Option.map (fun g => { block := g, off := 0 }) d.g) (dA.n + k) d.cap ∧ d.n = dA.n + k ∧ Rw wx 3 1 d ∧ Turned (onlyAt dA.g) w1 (onlyAt d.g) wx)
        case atStart => exact ⟨0, { dA with xs := xs }, rfl, Nat.zero_le _, rfl, by rw [HaA.out]; rfl, rfl, RA3.out, TA3.out⟩
        case round =>
          obtain ⟨k, d, rfl, hk, rfl, rfl, hdn, RD_, TD⟩ := hrel
          by_cases hkl : k < 16
          · have hkl' : (k : Int) < 16 := by omega
            have R2 := RD_.alloc (.cells #[.int .i64 6666666] 3)
            have T2 := Lib.hid (TD.trans (Turned.alloc (onlyAt d.g) wr (.cells #[.int .i64 6666666] 3)))
            have hq1 : d.n + 1 ≤ maxLen := by simp only [maxLen]; omega
            have hq2 : (d.n + 1) * 8 ≤ 140737488355328 := by omega
            have hdv2 : Value.slice (Option.map (fun g => { block := g, off := 0 }) d.g) (dA.n + k) d.cap = d.v := by unfold RD.v sv; rw [hdn]
            have Hdv2 := Lib.hid hdv2
            have Hdn := Lib.hid hdn
            clear hdv2 hdn RD_ TD
            go_wp2_with (at_builtin; (refine wpList_append_rw rfl (.tmp 24) (.tmp 25) 28 rfl 3 i0 (.int .i64 0) 1 8 Try.underlying28 hi0 hz0 hz1 hz2 rfl (by decide) d Hdv2.out R2 (some ⟨wr.heap.size, 0, none⟩) 1 1 [.int .i64 6666666] rfl rfl (fun h => by cases h) (new_one wr _ 3) (one_i64 _) hq1 hq2 ?go))
            case go =>
              intro d' w5 rw5 en ex eg hgr
              have hdv5 : Value.slice (Option.map (fun g => { block := g, off := 0 }) d'.g) d'.n d'.cap = Value.slice (Option.map (fun g => { block := g, off := 0 }) d'.g) (dA.n + (k + 1)) d'.cap := by rw [en, Hdn.out]; rfl
              rw [hdv5]
              have T5 := Lib.hid (T2.out.trans (Turned.aside (g' := d'.g) hgr (by simpa using eg)))
              have En := Lib.hid en
              have R5 := Lib.hid rw5
              clear en ex eg hgr hdv5 rw5
              go_wp2_with fail
              go_roundg (16 - (k + 1))
              case measure => omega
              case rel => exact ⟨k + 1, d', rfl, by omega, by go_num, rfl, by rw [En.out, Hdn.out]; omega, R5.out, T5.out⟩
          · obtain rfl : k = 16 := by omega
            have hlk := TD
            have RB : Rw wr 3 1 dB := RB1.out.other TD (fun g hg hF => Hne.out g hF hg)
            have RK : Rw wr 3 1 dK := RK1.out.other TD (fun g hg hF => by
              have h1 := HKg.out g hg
              have h2 := HAo.out.lt (show dA.g = some g from hF)
              omega)
            have i1 := RB.reads HBn.out HBx.out
            have i2 := RK.reads HKn.out HKx.out
            rw [hdb] at i1
            have hkv : dK.v = .slice (Option.map (fun g => { block := g, off := 0 }) dK.g) c.length dK.cap := by unfold RD.v sv; rw [HKn.out]
            rw [hkv] at i2
            have cS := same_any _ _ c wr i1 i2
            have TF := Lib.hid (T1.out.trans TD)
            have hlen : (16 : Int) ≤ ((dA.n + 16 : Nat) : Int) := by omega
            have hlen2 : (16 : Int) ≤ (dA.n : Int) + 16 := by omega
            clear RB RK i1 i2 hkv hlk TD hdn RD_ hdb
            go_wp2_with fail
            refine cS.mono ?_
            rintro e w6 ⟨rfl, hdr⟩
            have HT : Hid (∃ F', Turned (onlyAt dA.g) w F' w6) := by
              obtain ⟨m, rfl⟩ := hdr
              exact ⟨_, TF.out.trans (Turned.drewN _ _ _)⟩
            clear hdr cS
            go_wp2_with fail
            go_ret
            exact ⟨rfl, HT.out⟩
end Go.Proofs.Ytaileihnkmjfiaa
