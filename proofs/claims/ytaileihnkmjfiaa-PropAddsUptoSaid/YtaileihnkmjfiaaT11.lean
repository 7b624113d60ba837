/-
  Add of the engine returns its number and lays the clause. Conditions: the engine lies in the world, and what each theorem names.
-/
import Derived.Test.YtaileihnkmjfiaaT10
namespace Go.Proofs.Ytaileihnkmjfiaa
open Go.RowKit

theorem ints_get (c : List Int) (j : Nat) (u : Value) (h : (ints c)[j]? = some u) : u = i64 (c.getD j 0) ∧ j < c.length := by
  simp only [ints, List.getElem?_map, Option.map_eq_some_iff] at h
  obtain ⟨z, hz, rfl⟩ := h
  exact ⟨by simp [List.getD, hz], (List.getElem?_eq_some_iff.1 hz).1⟩
theorem ints_one (c : List Int) : ∀ u ∈ ints c, u.oneCell' = true := by
  intro u hu
  simp only [ints, List.mem_map] at hu
  obtain ⟨z, _, rfl⟩ := hu
  rfl
theorem Rw.made (w : World) (T sz n : Nat) (cur : Array Value) (hs : cur.size = n * sz) (hn : n ≤ maxLen) : Rw (w.alloc (.cells cur T)) T sz ⟨some w.heap.size, n, 0, []⟩ := by
  have h := (Rw.new (w := w.alloc (.cells cur T)) (heap_alloc_new w (.cells cur T)) hs hn).cut 0 (Nat.zero_le _)
  simpa using h
theorem new_two (w : World) (x y : Value) (T : TypeId) : ∀ a, some (⟨w.heap.size, 0, none⟩ : Addr) = some a → ∀ j u, [x, y][j]? = some u → ((w.alloc (.cells #[x, y] T))).cell? (a.add j) = some u := by
  intro a ha j u hj
  obtain rfl := Option.some.inj ha
  match j, hj with
  | 0, hj => simp at hj; subst hj; simp [Addr.add]
  | 1, hj => simp at hj; subst hj; simp [Addr.add]

set_option maxHeartbeats 8000000 in
set_option maxRecDepth 100000 in
theorem add_any (b : Nat) (G : GH) (S : ES) (c : List Int) (ao : Option Addr) (cb co cap : Nat) (w : World) (h : Eng w b G S) (hS : S.Ok) (hfr : S.fr.length ≤ 8796093022207)
    (hao : 0 < c.length → ao = some ⟨cb, co, none⟩) (hcl : c.length ≤ 140737488351232) (hcells : ∀ k, k < c.length → w.cell? ⟨cb, co + k, none⟩ = some (i64 (c.getD k 0))) :
    Calls Try.prog 34 #[.pointer (some ⟨b, 0, none⟩), .slice ao c.length cap] w fun e w' => e = .returned (i64 (S.add c).2) ∧ ∃ G', Eng w' b G' (S.add c).1 ∧ Turned (ft G) w (ft G') w' := by
  have hD := hS.dim
  obtain ⟨i0, hi0, hz0, hz1, hz2⟩ := info_parts Try.info3
  obtain ⟨j0, hj0, jz0, jz1, jz2⟩ := info_parts Try.info28
  obtain ⟨k0, hk0, kz0, kz1, kz2⟩ := info_parts Try.info72
  go_enter Try.func34, Try.ntmps34
  go_wp2_with fail
  go_loopg [10] c.length (fun m s10 wr => ∃ k, m = c.length - k ∧ k ≤ c.length ∧ s10 = .int .i64 (k : Nat) ∧ w = wr ∧ ∀ j, j < k → S.isLit (c.getD j 0))
  case atStart => exact ⟨0, rfl, Nat.zero_le _, rfl, rfl, fun j hj => by omega⟩
  case round =>
    obtain ⟨k, rfl, hk, rfl, rfl, hgood⟩ := hrel
    by_cases hlt : k < c.length
    · obtain rfl := hao (by omega)
      have hcell := hcells k hlt
      have cIs := is_any b G S (c.getD k 0) w h hD
      have hlt' : (k : Int) < (c.length : Int) := by omega
      have hcl' : (c.length : Int) ≤ 140737488351232 := by omega
      by_cases hl : S.isLit (c.getD k 0)
      · rw [show decide (c.getD k 0 ≠ 0 ∧ (c.getD k 0).natAbs ≤ S.n) = true from by simpa [ES.isLit] using hl] at cIs
        have Hl := Lib.hid hl
        have Hg := Lib.hid hgood
        have Hcells := Lib.hid hcells
        clear hl hgood hcells hao
        generalize hx : c.getD k 0 = x at *
        have Hx := Lib.hid hx
        clear hx
        go_wp2_with (go_at_call 50; refine cIs.mono ?_; rintro e w' ⟨rfl, rfl⟩)
        go_roundg (c.length - (k + 1))
        case measure => omega
        case rel =>
          refine ⟨k + 1, rfl, by omega, by simp, rfl, fun j hj => ?_⟩
          by_cases e : j = k
          · subst e; rw [Hx.out]; exact Hl.out
          · exact Hg.out j (by omega)
      · rw [show decide (c.getD k 0 ≠ 0 ∧ (c.getD k 0).natAbs ≤ S.n) = false from by simpa [ES.isLit] using hl] at cIs
        have HA : Hid (S.add c = (S, 20)) := by
          show _ = _
          unfold ES.add
          rw [if_pos (fun hall => hl (hall _ (getD_mem c hlt)))]
        clear hl hgood hcells hao
        generalize hx : c.getD k 0 = x at *
        clear hx
        go_wp2_with (go_at_call 50; refine cIs.mono ?_; rintro e w' ⟨rfl, rfl⟩)
        go_ret
        exact ⟨by rw [HA.out]; rfl, G, by rw [HA.out]; exact h, Turned.refl _ _⟩
    · have hkc : k = c.length := by omega
      subst hkc
      have hlt' : ¬ ((c.length : Int) < (c.length : Int)) := by omega
      have hall : ∀ l ∈ c, S.isLit l := by
        intro l hl
        obtain ⟨j, hj, rfl⟩ := List.getElem_of_mem hl
        have := hgood j hj
        simpa [List.getD, hj] using this
      have HA0 : Hid (S.add c = if 65536 < c.length then (S, 22) else if 1048576 ≤ S.cs.length ∨ 4194304 < S.lits + c.length then (S, 23) else (S.addOk c, 0)) := by
        show _ = _
        unfold ES.add
        rw [if_neg (by simpa using hall)]
      have hcl' : (c.length : Int) ≤ 140737488351232 := by omega
      clear hgood hall
      by_cases h1 : 65536 < c.length
      · have h1' : (65536 : Int) < (c.length : Int) := by omega
        have HA : Hid (S.add c = (S, 22)) := by show _ = _; rw [HA0.out, if_pos h1]
        have Hcells := Lib.hid hcells
        clear hcells hao
        go_wp2
        go_ret
        exact ⟨by rw [HA.out]; rfl, G, by rw [HA.out]; exact h, Turned.refl _ _⟩
      · have h1' : ¬ ((65536 : Int) < (c.length : Int)) := by omega
        have f1 := h.f1
        have f2 := h.f2
        unfold sv at f1
        have hcs := hS.cs_len
        have hli := hS.lits_le
        have hcs' : (S.cs.length : Int) ≤ 1048576 := by omega
        have hli' : (S.lits : Int) ≤ 4194304 := by omega
        have Hcells := Lib.hid hcells
        have Hao := Lib.hid hao
        clear hcells hao
        by_cases h2 : 1048576 ≤ S.cs.length
        · have h2' : (1048576 : Int) ≤ (S.cs.length : Int) := by omega
          have HA : Hid (S.add c = (S, 23)) := by show _ = _; rw [HA0.out, if_neg h1, if_pos (.inl h2)]
          go_wp2
          go_ret
          exact ⟨by rw [HA.out]; rfl, G, by rw [HA.out]; exact h, Turned.refl _ _⟩
        · have h2' : ¬ ((1048576 : Int) ≤ (S.cs.length : Int)) := by omega
          by_cases h3 : 4194304 < S.lits + c.length
          · have h3' : (4194304 : Int) < (S.lits : Int) + (c.length : Int) := by omega
            have HA : Hid (S.add c = (S, 23)) := by show _ = _; rw [HA0.out, if_neg h1, if_pos (.inr h3)]
            go_wp2
            go_ret
            exact ⟨by rw [HA.out]; rfl, G, by rw [HA.out]; exact h, Turned.refl _ _⟩
          · have h3' : ¬ ((4194304 : Int) < (S.lits : Int) + (c.length : Int)) := by omega
            have HA : Hid (S.add c = (S.addOk c, 0)) := by show _ = _; rw [HA0.out, if_neg h1, if_neg (by omega)]
            have hmk : ∀ w : World, (Instr.makeSlice 28 (.int .i64 0) (.int .i64 (c.length : Int))).run Try.prog w = .ok (.slice (some ⟨w.heap.size, 0, none⟩) 0 c.length) (w.alloc (.cells (madeCells #[Value.int .i64 0] c.length) 3)) := by
              intro w
              have hr := run_make (P := Try.prog) w 28 3 i0 (.int .i64 0) Try.underlying28 hi0 hz0 .i64 .i64 0 c.length (Int.le_refl _) (by omega) (by rw [hz2]; omega) (by omega)
              rw [hz1] at hr
              simpa [Value.cells] using hr
            have RM := Rw.made w 3 1 c.length (madeCells #[Value.int .i64 0] c.length) (by rw [size_madeCells, Nat.mul_one]) (by simp only [maxLen]; omega)
            have hao' : ao = none → c.length = 0 := by
              intro e
              rcases Nat.eq_zero_or_pos c.length with h0 | h0
              · exact h0
              · rw [Hao.out h0] at e; cases e
            have hnews : ∀ a, ao = some a → ∀ j u, (ints c)[j]? = some u → (w.alloc (.cells (madeCells #[Value.int .i64 0] c.length) 3)).cell? (a.add j) = some u := by
              intro a ha j u hu
              obtain ⟨rfl, hj⟩ := ints_get c j u hu
              have e := Hao.out (by omega)
              rw [ha] at e
              obtain rfl := Option.some.inj e
              rw [Addr.add_lit]
              have hc := Hcells.out j hj
              rw [← hc]
              exact World.cell?_alloc_lt _ _ _ (World.block_lt_of_cell? w _ hc)
            have hb1 : 0 + c.length ≤ maxLen := by simp only [maxLen]; omega
            have hb2 : (0 + c.length) * 8 ≤ 140737488355328 := by omega
            go_upto_region 12 with (at_builtin; (refine wpList_append_rw rfl (.tmp 40) (.tmp 41) 28 rfl 3 i0 (.int .i64 0) 1 8 Try.underlying28 hi0 hz0 hz1 hz2 rfl (by decide) ⟨some w.heap.size, c.length, 0, []⟩ rfl RM ao c.length cap (ints c) rfl (by simp [ints]) hao' hnews (ints_one c) hb1 hb2 ?go))
            case go =>
              intro dO w1 rwO en ex eg hgr
              have hb : Below w.heap.size w w1 := ((Below.refl _ _).alloc (Nat.le_refl _) _).grown hgr (by simp) (fun k e => by cases e; exact Nat.le_refl _)
              have E1 := h.below hb
              have T1 := Turned.of_below (ft G) hb
              have hOge : ∀ g, dO.g = some g → w.heap.size ≤ g := by
                intro g hg
                rcases eg with e | e
                · rw [e] at hg; cases hg; exact Nat.le_refl _
                · rw [e] at hg; cases hg; simp
              have hOnf : ∀ g, dO.g = some g → ¬ ft G g := fun g hg hf => by have := h.flt hf; have := hOge g hg; omega
              have hOn : dO.n = c.length := by simpa using en
              have hOx : dO.xs = ints c := by simpa using ex
              have HOn := Lib.hid hOn
              have HOx := Lib.hid hOx
              have HOge := Lib.hid hOge
              clear en ex eg hgr hOn hOx hOge hnews hao' hmk RM hb
              have f13 := E1.f13
              have f1 := E1.f1
              unfold sv at f1
              have E2 := (E1.alloc (.cells #[i64 S.cs.length] 3)).drew
              have T2 := T1.trans ((Turned.alloc (ft G) w1 (.cells #[i64 S.cs.length] 3)).trans (Turned.drew _ _))
              have R2 := (rwO.alloc (.cells #[i64 S.cs.length] 3)).drew
              have f13a : (w1.alloc (.cells #[i64 S.cs.length] 3)).cell? ⟨b, 13, none⟩ = _ := E2.f13
              have f1a : (w1.alloc (.cells #[i64 S.cs.length] 3)).cell? ⟨b, 1, none⟩ = some (.slice (Option.map (fun g => { block := g, off := 0 }) (G.g (.inl 1))) S.cs.length (G.c (.inl 1))) := E2.f1
              have hb3 : (engD G S (.inl 13)).n + 1 ≤ maxLen := by simp only [engD, maxLen]; omega
              have hb4 : ((engD G S (.inl 13)).n + 1) * 8 ≤ 140737488355328 := by simp only [engD]; omega
              go_upto_region 12 with (fail)
              go_cut [] (fun wx => ∃ G2, Eng wx b G2 { S with fr := S.fr ++ [S.cs.length] } ∧ Turned (ft G) w (ft G2) wx ∧ Rw wx 3 1 dO ∧ ∀ g, dO.g = some g → ¬ ft G2 g)
              case first =>
                go_region_law ((refine step_append_rw rfl (.tmp 47) (.tmp 53) 28 rfl 3 i0 (.int .i64 0) 1 8 Try.underlying28 hi0 hz0 hz1 hz2 rfl (by decide) (engD G S (.inl 13)) rfl (E2.row (.inl 13)) (some ⟨w1.heap.size, 0, none⟩) 1 1 [i64 S.cs.length] rfl rfl (fun h => by cases h) (new_one w1 _ 3) (one_i64 _) hb3 hb4 ?_; intro d' w5 rw1 en ex eg hgr; have R5 := R2.grown hgr (fun g hg e => hOnf g hg ⟨.inl 13, rfl, e⟩); obtain ⟨E6, T6, x1, x2⟩ := E2.pushFr (d := d') [S.cs.length] rw1 en ex (le_of_new' eg rfl (by simp)) hgr; clear en ex eg))
                all_goals
                  go_wp2_with fail
                  go_meet
                  refine ⟨_, E6, T2.trans T6, R5.setFar (fun e => hOnf b e E1.foot_b) _, fun g hg hf => ?_⟩
                  rcases T6.foot g hf with h1 | h1
                  · exact hOnf g hg h1
                  · have := R2.lt hg
                    omega
              case rest =>
                obtain ⟨G2, E3, T3, R3, hOnf3⟩ := hcut
                have hcs2 := hS.cs_len
                have hprl := hS.pr_len
                have hstl := hS.stp_len
                clear f13 f1 f13a f1a f2 E2 T2 R2 hb3 hb4
                -- the clause's row
                have E4 := E3.alloc (.cells #[.slice (Option.map (fun g => { block := g, off := 0 }) dO.g) dO.n dO.cap] 28)
                have R4 := R3.alloc (.cells #[.slice (Option.map (fun g => { block := g, off := 0 }) dO.g) dO.n dO.cap] 28)
                have T4 := T3.trans (Turned.alloc (ft G2) wc (.cells #[.slice (Option.map (fun g => { block := g, off := 0 }) dO.g) dO.n dO.cap] 28))
                have f1 := E3.f1
                have q1 : (engD G2 { S with fr := S.fr ++ [S.cs.length] } (.inl 1)).n + 1 ≤ maxLen := by simp only [engD, maxLen]; omega
                have q2 : ((engD G2 { S with fr := S.fr ++ [S.cs.length] } (.inl 1)).n + 1) * 24 ≤ 140737488355328 := by simp only [engD]; omega
                go_upto_region 14 with (at_builtin; (refine wpList_append_rw rfl (.tmp 61) (.tmp 63) 27 rfl 28 j0 (.slice none 0 0) 1 24 Try.underlying27 hj0 jz0 jz1 jz2 rfl (by decide) (engD G2 { S with fr := S.fr ++ [S.cs.length] } (.inl 1)) rfl (E4.row (.inl 1)) (some ⟨wc.heap.size, 0, none⟩) 1 1 [.slice (Option.map (fun g => { block := g, off := 0 }) dO.g) dO.n dO.cap] rfl rfl (fun h => by cases h) (new_one wc _ 28) (one_slice _ _ _) q1 q2 ?go))
                case go =>
                  intro d' w5 rw1 en ex eg hgr
                  obtain ⟨E5, T5, F5, x1, x2⟩ := E4.pushCs (d := d') c R4 HOn.out HOx.out hOnf3 rw1 en ex (le_of_new' eg rfl (by simp)) hgr
                  have E5' : Eng (w5.setCell ⟨b, 1, none⟩ (.slice (Option.map (fun g => { block := g, off := 0 }) d'.g) d'.n d'.cap)) b _ _ := E5
                  have T5' : Turned (ft G) w (ft ((G2.upd (.inl 1) d').upd (.inr (0, S.cs.length)) dO)) (w5.setCell ⟨b, 1, none⟩ (.slice (Option.map (fun g => { block := g, off := 0 }) d'.g) d'.n d'.cap)) :=
                    (T4.trans T5).wider (fun k hk => by
                      rcases F5 k hk with h1 | h1 | h1
                      · exact .inl (.inl h1)
                      · exact .inl (.inr h1)
                      · exact .inr (HOge.out k h1))
                  clear en ex eg hgr E5 T5 F5
                  go_upto_region 14 with (fail)
                  generalize w5.setCell ⟨b, 1, none⟩ (.slice (Option.map (fun g => { block := g, off := 0 }) d'.g) d'.n d'.cap) = w6 at *
                  generalize (G2.upd (.inl 1) d').upd (.inr (0, S.cs.length)) dO = G3 at *
                  clear f1 x1 x2 q1 q2 E4 R4 T4 rw1
                  obtain ⟨S3, hS3⟩ : ∃ S3, S3 = { S with fr := S.fr ++ [S.cs.length], cs := S.cs ++ [c] } := ⟨_, rfl⟩
                  rw [← hS3] at E5'
                  have hp3 : S3.pr = S.pr := by rw [hS3]
                  have ht3 : S3.stp = S.stp := by rw [hS3]
                  have hl3 : S3.lits = S.lits := by rw [hS3]
                  have E6 := E5'.alloc (.cells #[.int .i64 0, .int .i64 0] 72)
                  have T6 := T5'.trans (Turned.alloc (ft G3) w6 (.cells #[.int .i64 0, .int .i64 0] 72))
                  have f3 := E5'.f3
                  have q1 : (engD G3 S3 (.inl 3)).n + 1 ≤ maxLen := by simp only [engD, maxLen, hp3]; omega
                  have q2 : ((engD G3 S3 (.inl 3)).n + 1) * 16 ≤ 140737488355328 := by simp only [engD, hp3]; omega
                  have HS3 := Lib.hid hS3
                  have Hp3 := Lib.hid hp3
                  have Ht3 := Lib.hid ht3
                  have Hl3 := Lib.hid hl3
                  clear hS3 hp3 ht3 hl3
                  go_upto_region 15 with (at_builtin; (refine wpList_append_rw rfl (.tmp 71) (.tmp 73) 63 rfl 72 k0 (.agg #[.int .i64 0, .int .i64 0]) 2 16 Try.underlying63 hk0 kz0 kz1 kz2 rfl (by decide) (engD G3 S3 (.inl 3)) rfl (E6.row (.inl 3)) (some ⟨w6.heap.size, 0, none⟩) 1 1 [.int .i64 0, .int .i64 0] rfl rfl (fun h => by cases h) (new_two w6 _ _ 72) (by simp [Value.oneCell']) q1 q2 ?go))
                  case go =>
                    intro d' w7 rw1 en ex eg hgr
                    obtain ⟨E7, T7, x1, x2⟩ := E6.pushPr (d := d') [(0, 0)] rw1 en ex (le_of_new' eg rfl (by simp)) hgr
                    have E7' : Eng (w7.setCell ⟨b, 3, none⟩ (.slice (Option.map (fun g => { block := g, off := 0 }) d'.g) d'.n d'.cap)) b _ _ := E7
                    have T7' : Turned (ft G) w (ft (G3.upd (.inl 3) d')) (w7.setCell ⟨b, 3, none⟩ (.slice (Option.map (fun g => { block := g, off := 0 }) d'.g) d'.n d'.cap)) := T6.trans T7
                    clear en ex eg hgr E7 T7
                    go_upto_region 15 with (fail)
                    generalize w7.setCell ⟨b, 3, none⟩ (.slice (Option.map (fun g => { block := g, off := 0 }) d'.g) d'.n d'.cap) = w8 at *
                    generalize G3.upd (.inl 3) d' = G4 at *
                    clear f3 x1 x2 q1 q2 E6 T6 rw1
                    have E8 := E7'.alloc (.cells #[.int .i64 0] 3)
                    have T8 := T7'.trans (Turned.alloc (ft G4) w8 (.cells #[.int .i64 0] 3))
                    have f14 := E7'.f14
                    have q1 : (engD G4 { S3 with pr := S3.pr ++ [(0, 0)] } (.inl 14)).n + 1 ≤ maxLen := by simp only [engD, maxLen, Ht3.out]; omega
                    have q2 : ((engD G4 { S3 with pr := S3.pr ++ [(0, 0)] } (.inl 14)).n + 1) * 8 ≤ 140737488355328 := by simp only [engD, Ht3.out]; omega
                    go_upto_region 16 with (at_builtin; (refine wpList_append_rw rfl (.tmp 81) (.tmp 82) 28 rfl 3 i0 (.int .i64 0) 1 8 Try.underlying28 hi0 hz0 hz1 hz2 rfl (by decide) (engD G4 { S3 with pr := S3.pr ++ [(0, 0)] } (.inl 14)) rfl (E8.row (.inl 14)) (some ⟨w8.heap.size, 0, none⟩) 1 1 [.int .i64 0] rfl rfl (fun h => by cases h) (new_one w8 _ 3) (one_i64 0) q1 q2 ?go))
                    case go =>
                      intro d' w9 rw1 en ex eg hgr
                      obtain ⟨E9, T9, x1, x2⟩ := E8.pushStp (d := d') [0] rw1 en ex (le_of_new' eg rfl (by simp)) hgr
                      have E9' : Eng (w9.setCell ⟨b, 14, none⟩ (.slice (Option.map (fun g => { block := g, off := 0 }) d'.g) d'.n d'.cap)) b _ _ := E9
                      have T9' : Turned (ft G) w (ft (G4.upd (.inl 14) d')) (w9.setCell ⟨b, 14, none⟩ (.slice (Option.map (fun g => { block := g, off := 0 }) d'.g) d'.n d'.cap)) := T8.trans T9
                      clear en ex eg hgr E9 T9
                      go_upto_region 16 with (fail)
                      generalize w9.setCell ⟨b, 14, none⟩ (.slice (Option.map (fun g => { block := g, off := 0 }) d'.g) d'.n d'.cap) = w10 at *
                      clear f14 x1 x2 q1 q2 E8 T8 rw1
                      have f2 : w10.cell? ⟨b, 2, none⟩ = some (.int .i64 (S.lits : Nat)) := by rw [E9'.f2]; simp only [Hl3.out]
                      have y2 := E9'.ff 2
                      have EA : Eng (w10.setCell ⟨b, 2, none⟩ (.int .i64 ((S.lits : Int) + (c.length : Int)))) b _ _ := E9'.set_lits (S.lits + c.length)
                      have TA := T9'.trans (Turned.setCell w10 ⟨b, 2, none⟩ (.int .i64 ((S.lits : Int) + (c.length : Int))) E9'.foot_b)
                      have hc5 : (c.length : Int) ≤ 65536 := by omega
                      have hl5 : 0 ≤ (S.lits : Int) := by omega
                      go_wp2
                      go_ret
                      refine ⟨by rw [HA.out]; rfl, _, ?_, TA⟩
                      rw [HA.out]
                      simp only [HS3.out] at EA
                      exact EA
end Go.Proofs.Ytaileihnkmjfiaa
