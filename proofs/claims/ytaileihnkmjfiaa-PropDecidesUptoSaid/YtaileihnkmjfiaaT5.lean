/-
  settle of the engine lays a clause where it belongs. Conditions: the engine lies in the world, and what each theorem names.
-/
import Derived.Test.YtaileihnkmjfiaaT4
namespace Go.Proofs.Ytaileihnkmjfiaa
open Go.RowKit

/-- room for m more in each list of the lists -/
def ES.Room (S : ES) (m : Nat) : Prop := (∀ i, (S.wt.getD i []).length + m ≤ 8796093022208) ∧ (∀ i, (S.hl.getD i []).length + m ≤ 8796093022208)

theorem lay_len (L : List (List Nat)) (i k j : Nat) : ((ES.lay L i k).getD j []).length ≤ (L.getD j []).length + 1 := by
  unfold ES.lay
  have hg : ∀ j, (ES.grow L i).getD j [] = L.getD j [] := fun j => getD_grow L i j
  by_cases e : j = i
  · subst e
    rw [getD_set_same _ _ _ (by unfold ES.grow; simp; omega), hg]
    simp
  · rw [getD_set_ne _ _ _ e, hg]; omega
theorem lay_length (L : List (List Nat)) (i k m : Nat) (h : L.length ≤ m) (hi : i < m) : (ES.lay L i k).length ≤ m := by
  unfold ES.lay ES.grow
  simp; omega

theorem ES.watchOne_wt {S : ES} {k : Nat} {q : Int × Int} {l : Int} : (S.watchOne k q l).wt = if l ≠ 0 ∧ l ≠ q.1 ∧ l ≠ q.2 then ES.lay S.wt (pl l) k else S.wt := by
  unfold ES.watchOne ES.layW; split <;> rfl
theorem ES.watchOne_eq {S : ES} {k : Nat} {q : Int × Int} {l : Int} : S.watchOne k q l = { S with wt := (S.watchOne k q l).wt } := by
  unfold ES.watchOne ES.layW; split <;> rfl

theorem pl_lt {l : Int} {n : Nat} (h : l.natAbs ≤ n) : pl l ≤ 2 * n + 1 := by unfold pl; split <;> omega

theorem best_fst_rng {S : ES} {c : List Int} {n : Nat} (hc : ∀ l ∈ c, l ≠ 0 ∧ l.natAbs ≤ n) : (S.best c).1.natAbs ≤ n ∧ (S.best c).2.natAbs ≤ n := by
  have := best_rng (S := S) hc c.length
  rwa [List.take_length] at this

theorem Two.turned {w w' : World} {pb : Nat} {p : Int × Int} {F F' : Nat → Prop} (h : Two w pb p) (t : Turned F w F' w') (hn : ¬ F pb) : Two w' pb p := by
  unfold Two at *; rw [t.block pb (Array.getElem?_eq_some_iff.1 h).1 hn, h]
theorem Two.apart {w w' : World} {pb : Nat} {p : Int × Int} {F F' : Nat → Prop} (h : Two w pb p) (t : Turned F w F' w') (hn : ¬ F pb) : ¬ F' pb := fun hf => by
  have hlt := h.lt
  rcases t.foot pb hf with h1 | h1
  · exact hn h1
  · omega
theorem idx0 (x y : Int) (w : World) : (Instr.index 72 (.agg #[.int .i64 x, .int .i64 y]) (.int .i64 0)).run Try.prog w = .ok (.int .i64 x) w := by kernel_rfl
theorem idx1 (x y : Int) (w : World) : (Instr.index 72 (.agg #[.int .i64 x, .int .i64 y]) (.int .i64 1)).run Try.prog w = .ok (.int .i64 y) w := by kernel_rfl

set_option maxHeartbeats 4000000 in
set_option maxRecDepth 100000 in
theorem settle_any (b : Nat) (G : GH) (S : ES) (k : Nat) (w : World) (h : Eng w b G S) (hS : S.Ok) (hk : k < S.cs.length) (hroom : S.Room 2) :
    Calls Try.prog 38 #[.pointer (some ⟨b, 0, none⟩), i64 k] w fun e w' => e = .returned (.bool (S.settle k).2) ∧ ∃ G', Eng w' b G' (S.settle k).1 ∧ Turned (ft G) w (ft G') w' ∧ WKeep G S.wt G' (S.settle k).1.wt := by
  have hcs := hS.cs_len
  have hD := hS.dim
  obtain ⟨ca, hca⟩ := h.lies (.inl 1) (by simp only [engD]; omega)
  have hca : G.g (.inl 1) = some ca := hca
  have c1 := h.s1 hca
  have hlit := hS.lits (S.cs.getD k []) (by simp [List.getD, hk])
  have hclen := hS.cl_len (S.cs.getD k []) (by simp [List.getD, hk])
  have hk' : (k : Int) < (S.cs.length : Int) := by omega
  have hk1 : (S.cs.length : Int) ≤ 1048576 := by omega
  -- the call of best
  have hbest : ∃ v, w.cell? ⟨ca, k, none⟩ = some v ∧ Calls Try.prog 53 #[.pointer (some ⟨b, 0, none⟩), v] w fun e w' => e = .returned (.agg #[i64 (S.best (S.cs.getD k [])).1, i64 (S.best (S.cs.getD k [])).2]) ∧ Below w.heap.size w w' := by
    refine ⟨_, h.e1 hca hk, ?_⟩
    cases hg : G.g (.inr (0, k)) with
    | none =>
      have hz : (S.cs.getD k []).length = 0 := by have h1 := (h.row (.inr (0, k))).nil hg; have h2 := (h.row (.inr (0, k))).le; simp only [engD] at h1 h2; omega
      exact best_any b G S _ none 0 _ w h hD (fun h0 => by omega) hlit hclen (fun h0 => by omega) (fun j hj => by omega)
    | some cb =>
      exact best_any b G S _ (some ⟨cb, 0, none⟩) cb _ w h hD (fun _ => rfl) hlit hclen (fun _ => (h.row (.inr (0, k))).lt hg) (fun j hj => h.i0 hg hj)
  obtain ⟨v, hv, hcall⟩ := hbest
  have hpr := best_fst_rng (S := S) hlit
  have hqr := hS.pr_rng k
  have hprl : S.pr.length = S.cs.length := hS.pr_len
  have hgpr := h.lies (.inl 3) (by simp only [engD]; omega)
  generalize hp : S.best (S.cs.getD k []) = p at *
  have Hp := Lib.hid hp
  clear hp hlit hclen
  obtain ⟨p1, p2⟩ := p
  simp only at hpr hcall
  go_enter Try.func38, Try.ntmps38
  go_wp2_with (go_at_call 53; refine hcall.mono ?_; rintro e w1 ⟨rfl, hb1⟩)
  have E0 := (h.below hb1).alloc (.cells #[i64 p1, i64 p2] 72)
  have T0 := (Turned.of_below (ft G) hb1).trans (Turned.alloc _ w1 (.cells #[i64 p1, i64 p2] 72))
  have P0 : Two (w1.alloc (.cells #[i64 p1, i64 p2] 72)) w1.heap.size (p1, p2) := heap_alloc_new w1 _
  have N0 : ¬ ft G w1.heap.size := fun hf => by have h1 := h.flt hf; have h2 := hb1.size; omega
  clear hcall c1 hv
  generalize w1.alloc (.cells #[i64 p1, i64 p2] 72) = w2 at *
  clear hb1
  generalize w1.heap.size = pb at *
  generalize hq : S.pr.getD k (0, 0) = q at *
  obtain ⟨q1, q2⟩ := q
  have Hq := Lib.hid hq
  clear hq
  simp only at hqr
  go_loopg [19] 2 (fun m s19 wr => ∃ G', Turned (ft G) w (ft G') wr ∧ ¬ ft G' pb ∧ Two wr pb (p1, p2) ∧ ((m = 2 ∧ s19 = .int .i64 0 ∧ Eng wr b G' S ∧ WKeep G S.wt G' S.wt) ∨ (m = 1 ∧ s19 = .int .i64 1 ∧ Eng wr b G' (S.watchOne k (q1, q2) p1) ∧ WKeep G S.wt G' (S.watchOne k (q1, q2) p1).wt) ∨ (m = 0 ∧ s19 = .int .i64 2 ∧ Eng wr b G' ((S.watchOne k (q1, q2) p1).watchOne k (q1, q2) p2) ∧ WKeep G S.wt G' ((S.watchOne k (q1, q2) p1).watchOne k (q1, q2) p2).wt)))
  case atStart => exact ⟨G, T0, N0, P0, .inl ⟨rfl, rfl, E0, WKeep.refl _ _⟩⟩
  case round =>
    obtain ⟨G1, T1, N1, P1, hcase⟩ := hrel
    rcases hcase with ⟨rfl, rfl, E1, K1⟩ | ⟨rfl, rfl, E1, K1⟩ | ⟨rfl, rfl, E1, K1⟩
    · obtain ⟨St, hSt⟩ : ∃ St, St = S := ⟨_, rfl⟩
      rw [← hSt] at E1 K1
      have hsp : St.pr = S.pr := by rw [hSt]
      have hsn : St.n = S.n := by rw [hSt]
      have hswl : St.wt.length ≤ 2097154 := by
        rw [hSt]
        exact hS.wt_len
      have hsr : ∀ i, (St.wt.getD i []).length ≤ 8796093022207 := by
        intro i
        have h1 := hroom.1 i
        rw [hSt]
        omega
      have HSt := Lib.hid hSt
      clear hSt
      obtain ⟨pa, hpa⟩ := E1.lies (.inl 3) (by simp only [engD, hsp]; omega)
      have hpa : G1.g (.inl 3) = some pa := hpa
      have c3 := E1.s3 hpa
      have e3a := E1.e3a hpa (k := k) (by rw [hsp]; omega)
      have e3b := E1.e3b hpa (k := k) (by rw [hsp]; omega)
      rw [hsp, Hq.out] at e3a e3b
      simp only at e3a e3b
      have hkp : (k : Int) < (St.pr.length : Int) := by rw [hsp]; omega
      have Hsp := Lib.hid hsp
      clear hsp
      have hnl := hS.n_le
      have hi0 := idx0 p1 p2
      by_cases t0 : p1 = 0
      · have b0 : (p1 != 0) = false := by simpa using t0
        have W0 : Hid (St.watchOne k (q1, q2) p1 = St) := by show _ = _; unfold ES.watchOne; rw [if_neg (by simp [t0])]
        clear t0
        go_wp2
        go_roundg 1
        case measure => omega
        case rel => exact ⟨G1, T1, N1, P1, .inr (.inl ⟨rfl, rfl, by rw [← HSt.out, W0.out]; exact ⟨E1, K1⟩⟩)⟩
      · have b0 : (p1 != 0) = true := by simpa using t0
        by_cases t1 : p1 = q1
        · have b1 : (p1 != q1) = false := by simpa using t1
          have W0 : Hid (St.watchOne k (q1, q2) p1 = St) := by show _ = _; unfold ES.watchOne; rw [if_neg (by simp [t1])]
          clear t1
          go_wp2
          go_roundg 1
          case measure => omega
          case rel => exact ⟨G1, T1, N1, P1, .inr (.inl ⟨rfl, rfl, by rw [← HSt.out, W0.out]; exact ⟨E1, K1⟩⟩)⟩
        · have b1 : (p1 != q1) = true := by simpa using t1
          by_cases t2 : p1 = q2
          · have b2 : (p1 != q2) = false := by simpa using t2
            have W0 : Hid (St.watchOne k (q1, q2) p1 = St) := by show _ = _; unfold ES.watchOne; rw [if_neg (by simp [t2])]
            clear t2
            go_wp2
            go_roundg 1
            case measure => omega
            case rel => exact ⟨G1, T1, N1, P1, .inr (.inl ⟨rfl, rfl, by rw [← HSt.out, W0.out]; exact ⟨E1, K1⟩⟩)⟩
          · have b2 : (p1 != q2) = true := by simpa using t2
            have W0 : Hid (St.watchOne k (q1, q2) p1 = St.layW (pl p1) k) := by show _ = _; unfold ES.watchOne; rw [if_pos ⟨t0, t1, t2⟩]
            have hpl := pl_lt hpr.1
            have cPl := place_any p1
            go_wp2_with fail
            go_region_with (first | (go_at_call 55; refine (place_any p1 _ (by omega)).mono ?_; rintro e w5 ⟨rfl, rfl⟩) | (go_at_call 54; refine (layW_any b G1 St (pl p1) k _ E1.drew (by omega) hswl (hsr _)).mono ?_; rintro e w6 ⟨rfl, G2, E2, T2, K2⟩))
            have T2' := (Turned.drew (ft G1) wr).trans T2
            go_wp2
            go_roundg 1
            case measure => omega
            case rel => exact ⟨G2, T1.trans T2', P1.apart T2' N1, P1.turned T2' N1, .inr (.inl ⟨rfl, rfl, by rw [← HSt.out, W0.out]; exact ⟨E2, K1.trans K2⟩⟩)⟩
    · obtain ⟨St, hSt⟩ : ∃ St, St = S.watchOne k (q1, q2) p1 := ⟨_, rfl⟩
      rw [← hSt] at E1 K1
      have hsp : St.pr = S.pr := by rw [hSt, ES.watchOne_eq]
      have hsn : St.n = S.n := by rw [hSt, ES.watchOne_eq]
      have hswl : St.wt.length ≤ 2097154 := by
        rw [hSt]
        rw [ES.watchOne_wt]; split
        · exact lay_length _ _ _ _ hS.wt_len (by have := pl_lt hpr.1; have := hS.n_le; omega)
        · exact hS.wt_len
      have hsr : ∀ i, (St.wt.getD i []).length ≤ 8796093022207 := by
        intro i
        have h1 := hroom.1 i
        rw [hSt, ES.watchOne_wt]
        split
        · have h2 := lay_len S.wt (pl p1) k i; omega
        · omega
      have HSt := Lib.hid hSt
      clear hSt
      obtain ⟨pa, hpa⟩ := E1.lies (.inl 3) (by simp only [engD, hsp]; omega)
      have hpa : G1.g (.inl 3) = some pa := hpa
      have c3 := E1.s3 hpa
      have e3a := E1.e3a hpa (k := k) (by rw [hsp]; omega)
      have e3b := E1.e3b hpa (k := k) (by rw [hsp]; omega)
      rw [hsp, Hq.out] at e3a e3b
      simp only at e3a e3b
      have hkp : (k : Int) < (St.pr.length : Int) := by rw [hsp]; omega
      have Hsp := Lib.hid hsp
      clear hsp
      have hnl := hS.n_le
      have hi0 := idx1 p1 p2
      by_cases t0 : p2 = 0
      · have b0 : (p2 != 0) = false := by simpa using t0
        have W0 : Hid (St.watchOne k (q1, q2) p2 = St) := by show _ = _; unfold ES.watchOne; rw [if_neg (by simp [t0])]
        clear t0
        go_wp2
        go_roundg 0
        case measure => omega
        case rel => exact ⟨G1, T1, N1, P1, .inr (.inr ⟨rfl, rfl, by rw [← HSt.out, W0.out]; exact ⟨E1, K1⟩⟩)⟩
      · have b0 : (p2 != 0) = true := by simpa using t0
        by_cases t1 : p2 = q1
        · have b1 : (p2 != q1) = false := by simpa using t1
          have W0 : Hid (St.watchOne k (q1, q2) p2 = St) := by show _ = _; unfold ES.watchOne; rw [if_neg (by simp [t1])]
          clear t1
          go_wp2
          go_roundg 0
          case measure => omega
          case rel => exact ⟨G1, T1, N1, P1, .inr (.inr ⟨rfl, rfl, by rw [← HSt.out, W0.out]; exact ⟨E1, K1⟩⟩)⟩
        · have b1 : (p2 != q1) = true := by simpa using t1
          by_cases t2 : p2 = q2
          · have b2 : (p2 != q2) = false := by simpa using t2
            have W0 : Hid (St.watchOne k (q1, q2) p2 = St) := by show _ = _; unfold ES.watchOne; rw [if_neg (by simp [t2])]
            clear t2
            go_wp2
            go_roundg 0
            case measure => omega
            case rel => exact ⟨G1, T1, N1, P1, .inr (.inr ⟨rfl, rfl, by rw [← HSt.out, W0.out]; exact ⟨E1, K1⟩⟩)⟩
          · have b2 : (p2 != q2) = true := by simpa using t2
            have W0 : Hid (St.watchOne k (q1, q2) p2 = St.layW (pl p2) k) := by show _ = _; unfold ES.watchOne; rw [if_pos ⟨t0, t1, t2⟩]
            have hpl := pl_lt hpr.2
            have cPl := place_any p2
            go_wp2_with fail
            go_region_with (first | (go_at_call 55; refine (place_any p2 _ (by omega)).mono ?_; rintro e w5 ⟨rfl, rfl⟩) | (go_at_call 54; refine (layW_any b G1 St (pl p2) k _ E1.drew (by omega) hswl (hsr _)).mono ?_; rintro e w6 ⟨rfl, G2, E2, T2, K2⟩))
            have T2' := (Turned.drew (ft G1) wr).trans T2
            go_wp2
            go_roundg 0
            case measure => omega
            case rel => exact ⟨G2, T1.trans T2', P1.apart T2' N1, P1.turned T2' N1, .inr (.inr ⟨rfl, rfl, by rw [← HSt.out, W0.out]; exact ⟨E2, K1.trans K2⟩⟩)⟩
    · obtain ⟨S2, hS2⟩ : ∃ S2, S2 = (S.watchOne k (q1, q2) p1).watchOne k (q1, q2) p2 := ⟨_, rfl⟩
      rw [← hS2] at E1 K1
      have hS2' : S2 = { S with wt := S2.wt } := by rw [hS2, ES.watchOne_eq, ES.watchOne_eq (S := S)]
      have HSet : Hid (S.settle k = (let S3 := { S2 with pr := S.pr.set k (p1, p2) }
          if p1 = 0 ∨ S.of p1 = -1 then ({ S3 with clash := k + 1 }, false)
          else if p2 ≠ 0 ∧ S.of p2 ≠ -1 then (S3, true)
          else
            let S4 := if S.of p1 = 0 then S3.set p1 (k + 1) else S3
            (if 0 < S4.lv p1 ∧ (p2 = 0 ∨ S4.lv p2 < S4.lv p1) then S4.layH p1.natAbs k else S4, true))) := by
        show _ = _
        unfold ES.settle
        rw [Hp.out, Hq.out, hS2]
      clear hS2
      obtain ⟨pa, hpa⟩ := E1.lies (.inl 3) (by simp only [engD]; rw [hS2']; simp only; omega)
      have hpa : G1.g (.inl 3) = some pa := hpa
      have hsp : S2.pr = S.pr := by rw [hS2']
      have c3 := E1.s3 hpa
      have e3a := E1.e3a hpa (k := k) (by rw [hsp]; omega)
      have e3b := E1.e3b hpa (k := k) (by rw [hsp]; omega)
      have z3a := E1.z3 hpa (k * 2)
      have z3b := E1.z3 hpa (k * 2 + 1)
      have n3 := E1.n3 hpa
      have n3' : pa ≠ pb := fun e => N1 (e ▸ E1.t3 hpa)
      have hkp : (k : Int) < (S2.pr.length : Int) := by rw [hsp]; omega
      have u0 := P1.c0
      have u1 := P1.c1
      have nb : b ≠ pb := fun e => N1 (e ▸ E1.foot_b)
      simp only at u0 u1
      have HS2 := Lib.hid hS2'
      have Hsp := Lib.hid hsp
      clear hS2' hsp
      go_wp2_with fail
      go_region_held3 (fun w' => w'.cell? ⟨b, 3, none⟩ = some (.slice (some ⟨pa, 0, none⟩) S2.pr.length (G1.c (.inl 3))) ∧ w'.cell? ⟨pb, 0, none⟩ = some (i64 p1) ∧ w'.cell? ⟨pb, 1, none⟩ = some (i64 p2)) (go_keep) ((fail))
      go_upto_region 9 with (fail)
      have E3 := (E1.setPr hpa k (p1, p2)).drew
      have T3 := T1.trans ((Turned.setCell wr ⟨pa, k * 2, none⟩ (i64 p1) (E1.t3 hpa)).trans ((Turned.setCell _ ⟨pa, k * 2 + 1, none⟩ (i64 p2) (E1.t3 hpa)).trans (Turned.drew _ _)))
      have P3 : Two ((wr.setCell ⟨pa, k * 2, none⟩ (i64 p1)).setCell ⟨pa, k * 2 + 1, none⟩ (i64 p2)).drew pb (p1, p2) := (P1.far (fun e => n3' e.symm)).far (fun e => n3' e.symm)
      simp only at E3
      rw [Hsp.out] at E3
      obtain ⟨S3, hS3⟩ : ∃ S3, S3 = { S2 with pr := S.pr.set k (p1, p2) } := ⟨_, rfl⟩
      rw [← hS3] at E3
      have K3 : WKeep G S.wt G1 S3.wt := by rw [hS3]; exact K1
      have HSet3 : Hid (S.settle k = (
          if p1 = 0 ∨ S.of p1 = -1 then ({ S3 with clash := k + 1 }, false)
          else if p2 ≠ 0 ∧ S.of p2 ≠ -1 then (S3, true)
          else
            let S4 := if S.of p1 = 0 then S3.set p1 (k + 1) else S3
            (if 0 < S4.lv p1 ∧ (p2 = 0 ∨ S4.lv p2 < S4.lv p1) then S4.layH p1.natAbs k else S4, true))) := by
        rw [hS3]; exact HSet
      clear HSet
      have hv3 : S3 = { S with wt := S2.wt, pr := S.pr.set k (p1, p2) } := by rw [hS3, HS2.out]
      have D3 : S3.Dim := by rw [hv3]; exact ⟨hD.1, hD.2, hD.3, hD.4, hD.5, hD.6, hD.7⟩
      have hn3 : S3.n = S.n := by rw [hv3]
      have of1 : S3.of p1 = S.of p1 := by rw [hv3]; rfl
      have of2 : S3.of p2 = S.of p2 := by rw [hv3]; rfl
      have hh3 : S3.hl = S.hl := by rw [hv3]
      clear hS3 HS2
      have Hv3 := Lib.hid hv3
      clear hv3 c3 e3a e3b z3a z3b u0 u1
      generalize ((wr.setCell ⟨pa, k * 2, none⟩ (i64 p1)).setCell ⟨pa, k * 2 + 1, none⟩ (i64 p2)).drew = w3 at *
      have u0 := P3.c0
      have u1 := P3.c1
      simp only at u0 u1
      have call1 := of_any b G1 S3 p1 w3 E3 D3 (by omega)
      have call2 := of_any b G1 S3 p2 w3 E3 D3 (by omega)
      rw [of1] at call1
      rw [of2] at call2
      have r1 := int_cases3 (ES.of_rng hD p1)
      have r2 := int_cases3 (ES.of_rng hD p2)
      have callS : Calls Try.prog 52 #[.pointer (some ⟨b, 0, none⟩), i64 p1, .int .i64 ((k : Int) + 1)] w3 _ := set_any b G1 S3 p1 (k + 1) w3 E3 D3 (by omega) (by omega)
      have y12 := E3.ff 12
      have c12 := E3.f12
      have EC : Eng (w3.setCell ⟨b, 12, none⟩ (.int .i64 ((k : Int) + 1))) b G1 { S3 with clash := k + 1 } := E3.set_clash (k + 1)
      have TC := T3.trans (Turned.setCell w3 ⟨b, 12, none⟩ (.int .i64 ((k : Int) + 1)) E3.foot_b)
      have Hh3 := Lib.hid hh3
      have Hn3 := Lib.hid hn3
      have Hof1 := Lib.hid of1
      have Hof2 := Lib.hid of2
      clear hh3 hn3 of1 of2
      generalize ho1 : S.of p1 = o1 at *
      generalize ho2 : S.of p2 = o2 at *
      have Ho1 := Lib.hid ho1
      have Ho2 := Lib.hid ho2
      clear ho1 ho2
      by_cases t1 : p1 = 0
      · have b1 : (p1 == 0) = true := by simpa using t1
        have T1' := Lib.hid t1
        clear t1
        go_wp2
        go_ret
        refine ⟨?_, _, ?_, TC, ?_⟩
        · rw [HSet3.out, if_pos (.inl T1'.out)]; rfl
        · rw [HSet3.out, if_pos (.inl T1'.out)]; exact EC
        · rw [HSet3.out, if_pos (.inl T1'.out)]; exact K3
      · have b1 : (p1 == 0) = false := by simpa using t1
        by_cases t2 : o1 = -1
        · subst t2
          go_wp2_with (go_at_call 51; refine call1.mono ?_; rintro e w' ⟨rfl, rfl⟩)
          go_ret
          refine ⟨?_, _, ?_, TC, ?_⟩
          · rw [HSet3.out, if_pos (.inr trivial)]; rfl
          · rw [HSet3.out, if_pos (.inr trivial)]; exact EC
          · rw [HSet3.out, if_pos (.inr trivial)]; exact K3
        · have bo1 : (o1 == -1) = false := by simpa using t2
          by_cases t3 : p2 ≠ 0 ∧ o2 ≠ -1
          · have b3 : (p2 != 0) = true := by simpa using t3.1
            have bo2 : (o2 != -1) = true := by simpa using t3.2
            have T3' := Lib.hid t3
            have T2' := Lib.hid t2
            clear t3 t2
            go_wp2_with (first | (go_at_call_of 51 (i64 p1); refine call1.mono ?_; rintro e w' ⟨rfl, rfl⟩) | (go_at_call_of 51 (i64 p2); refine call2.mono ?_; rintro e w' ⟨rfl, rfl⟩))
            go_ret
            refine ⟨?_, _, ?_, T3, ?_⟩
            · rw [HSet3.out, if_neg (by simp [t1, T2'.out]), if_pos T3'.out]; rfl
            · rw [HSet3.out, if_neg (by simp [t1, T2'.out]), if_pos T3'.out]; exact E3
            · rw [HSet3.out, if_neg (by simp [t1, T2'.out]), if_pos T3'.out]; exact K3
          · have hS4 : Hid (S.settle k = (
                let S4 := if o1 = 0 then S3.set p1 (k + 1) else S3
                (if 0 < S4.lv p1 ∧ (p2 = 0 ∨ S4.lv p2 < S4.lv p1) then S4.layH p1.natAbs k else S4, true))) := by
              show _ = _
              rw [HSet3.out, if_neg (by simp [t1, t2]), if_neg t3]
            have r1' : o1 = 0 ∨ o1 = 1 := by omega
            by_cases t4 : p2 = 0
            · have b4 : (p2 != 0) = false := by simpa using t4
              have b4' : (p2 == 0) = true := by simpa using t4
              have T4' := Lib.hid t4
              clear t4 t3 t2
              go_upto_if 92 with (first | (go_at_call_of 51 (i64 p1); refine call1.mono ?_; rintro e w' ⟨rfl, rfl⟩) | (go_at_call_of 51 (i64 p2); refine call2.mono ?_; rintro e w' ⟨rfl, rfl⟩))
              go_cut [] (fun wx => ∃ G4 S4, Eng wx b G4 S4 ∧ Turned (ft G) w (ft G4) wx ∧ Two wx pb (p1, p2) ∧ ¬ ft G4 pb ∧ S4 = (if o1 = 0 then S3.set p1 (k + 1) else S3) ∧ WKeep G S.wt G4 S4.wt)
              case first =>
                rcases r1' with r0 | r0
                · subst r0
                  go_wp2_with (go_at_call 52; refine callS.mono ?_; rintro e w4 ⟨rfl, G4, E4, T4, K4⟩)
                  go_meet
                  exact ⟨G4, _, E4, T3.trans T4, P3.turned T4 N1, P3.apart T4 N1, by simp, K3.trans K4⟩
                · subst r0
                  go_wp2
                  go_meet
                  exact ⟨G1, _, E3, T3, P3, N1, by simp, K3⟩
              case rest =>
                obtain ⟨G4, S4, E4, T4, P4, N4, hS4e, K4⟩ := hcut
                have hl4 : S4.lev.length = S.n + 1 := by rw [hS4e]; split <;> simp [ES.set, Hv3.out, hD.lev_len]
                have hh4 : S4.hl = S.hl := by rw [hS4e]; split <;> simp [ES.set, Hv3.out]
                have hS5 : Hid (S.settle k = (if 0 < S4.lv p1 ∧ (p2 = 0 ∨ S4.lv p2 < S4.lv p1) then S4.layH p1.natAbs k else S4, true)) := by
                  show _ = _
                  rw [hS4.out, hS4e]
                clear hS4e
                obtain ⟨la, hla⟩ := E4.lies (.inl 7) (by simp only [engD]; omega)
                have hla : G4.g (.inl 7) = some la := hla
                have hl5 : (p1.natAbs : Int) < (S4.lev.length : Int) := by omega
                have c7 := E4.s7 hla
                have e7 := E4.e7 hla (k := p1.natAbs) (by omega)
                have v0 := P4.c0
                have v1 := P4.c1
                simp only at v0 v1
                have Hl4 := Lib.hid hl4
                clear hl4
                go_upto_region 16 with (fail)
                go_cut [8] (fun s8 wx => s8 = .int .i64 (p1.natAbs : Nat) ∧ wc = wx)
                case first =>
                  have hnl := hS.n_le
                  by_cases hneg : p1 < 0
                  · obtain ⟨m, rfl, hm0⟩ := nat_of_neg hneg
                    have hm3 : (m : Int) ≤ 1048576 := by omega
                    clear hl5 e7 t1 b1 call1 call2 callS
                    go_wp2
                    go_meet
                    exact ⟨by rw [natAbs_neg'], rfl⟩
                  · obtain ⟨m, rfl⟩ := nat_of_pos hneg
                    have hm3 : (m : Int) ≤ 1048576 := by omega
                    have hm4 : 0 ≤ (m : Int) := by omega
                    clear hl5 e7 t1 b1 call1 call2 callS
                    go_wp2
                    go_meet
                    exact ⟨by rw [natAbs_pos'], rfl⟩
                case rest =>
                  obtain ⟨rfl, rfl⟩ := hcut
                  clear call1 call2 callS
                  have hS6 : Hid (S.settle k = (if 0 < S4.lev.getD p1.natAbs 0 ∧ (p2 = 0 ∨ S4.lv p2 < S4.lev.getD p1.natAbs 0) then S4.layH p1.natAbs k else S4, true)) := hS5
                  have cH := layH_any b G4 S4 p1.natAbs k
                  have hm5 : p1.natAbs ≤ 1048576 := by have := hS.n_le; omega
                  have hhl : S4.hl.length ≤ 1048577 := by rw [hh4]; exact hS.hl_len
                  have hhr : (S4.hl.getD p1.natAbs []).length ≤ 8796093022207 := by rw [hh4]; have := hroom.2 p1.natAbs; omega
                  have Hh4 := Lib.hid hh4
                  clear hh4
                  generalize hx : S4.lev.getD p1.natAbs 0 = x at *
                  have Hx := Lib.hid hx
                  clear hx
                  generalize hm : p1.natAbs = m at *
                  have Hm := Lib.hid hm
                  clear hm
                  by_cases hx0 : 0 < x
                  · have hx1 : (0 : Int) < (x : Int) := by omega
                    go_wp2_with fail
                    go_quiet (fail)
                    go_wp2_with (go_at_call 54; go_loud (refine (cH _ E4.drewN hm5 hhl hhr).mono ?_); rintro e w6 ⟨rfl, G6, E6, T6, K6⟩)
                    go_ret
                    refine ⟨?_, _, ?_, (T4.trans (Turned.drewN _ _ _)).trans T6, ?_⟩
                    · rw [hS6.out]; rfl
                    · rw [hS6.out, if_pos ⟨hx0, .inl T4'.out⟩]; exact E6
                    · rw [hS6.out, if_pos ⟨hx0, .inl T4'.out⟩]; exact K4.trans K6
                  · have hx1 : x = 0 := by omega
                    subst hx1
                    go_wp2_with fail
                    go_quiet (fail)
                    go_wp2
                    go_ret
                    refine ⟨?_, _, ?_, T4.trans (Turned.drewN _ _ _), ?_⟩
                    · rw [hS6.out]; rfl
                    · rw [hS6.out, if_neg (by omega)]; exact E4.drewN
                    · rw [hS6.out, if_neg (by omega)]; exact K4
            · have b4 : (p2 != 0) = true := by simpa using t4
              have b4' : (p2 == 0) = false := by simpa using t4
              obtain rfl : o2 = -1 := by omega
              have T4' := Lib.hid t4
              clear t4 t3 t2
              go_upto_if 92 with (first | (go_at_call_of 51 (i64 p1); refine call1.mono ?_; rintro e w' ⟨rfl, rfl⟩) | (go_at_call_of 51 (i64 p2); refine call2.mono ?_; rintro e w' ⟨rfl, rfl⟩))
              go_cut [] (fun wx => ∃ G4 S4, Eng wx b G4 S4 ∧ Turned (ft G) w (ft G4) wx ∧ Two wx pb (p1, p2) ∧ ¬ ft G4 pb ∧ S4 = (if o1 = 0 then S3.set p1 (k + 1) else S3) ∧ WKeep G S.wt G4 S4.wt)
              case first =>
                rcases r1' with r0 | r0
                · subst r0
                  go_wp2_with (go_at_call 52; refine callS.mono ?_; rintro e w4 ⟨rfl, G4, E4, T4, K4⟩)
                  go_meet
                  exact ⟨G4, _, E4, T3.trans T4, P3.turned T4 N1, P3.apart T4 N1, by simp, K3.trans K4⟩
                · subst r0
                  go_wp2
                  go_meet
                  exact ⟨G1, _, E3, T3, P3, N1, by simp, K3⟩
              case rest =>
                obtain ⟨G4, S4, E4, T4, P4, N4, hS4e, K4⟩ := hcut
                have hl4 : S4.lev.length = S.n + 1 := by rw [hS4e]; split <;> simp [ES.set, Hv3.out, hD.lev_len]
                have hh4 : S4.hl = S.hl := by rw [hS4e]; split <;> simp [ES.set, Hv3.out]
                have hS5 : Hid (S.settle k = (if 0 < S4.lv p1 ∧ (p2 = 0 ∨ S4.lv p2 < S4.lv p1) then S4.layH p1.natAbs k else S4, true)) := by
                  show _ = _
                  rw [hS4.out, hS4e]
                clear hS4e
                obtain ⟨la, hla⟩ := E4.lies (.inl 7) (by simp only [engD]; omega)
                have hla : G4.g (.inl 7) = some la := hla
                have hl5 : (p1.natAbs : Int) < (S4.lev.length : Int) := by omega
                have hl6 : p2.natAbs < S4.lev.length := by omega
                have c7 := E4.s7 hla
                have e7b := E4.e7 hla (k := p2.natAbs) hl6
                have e7 := E4.e7 hla (k := p1.natAbs) (by omega)
                have v0 := P4.c0
                have v1 := P4.c1
                simp only at v0 v1
                have Hl4 := Lib.hid hl4
                clear hl4
                go_upto_region 16 with (fail)
                go_cut [8] (fun s8 wx => s8 = .int .i64 (p1.natAbs : Nat) ∧ wc = wx)
                case first =>
                  have hnl := hS.n_le
                  by_cases hneg : p1 < 0
                  · obtain ⟨m, rfl, hm0⟩ := nat_of_neg hneg
                    have hm3 : (m : Int) ≤ 1048576 := by omega
                    clear hl5 e7 e7b t1 b1 call1 call2 callS
                    go_wp2
                    go_meet
                    exact ⟨by rw [natAbs_neg'], rfl⟩
                  · obtain ⟨m, rfl⟩ := nat_of_pos hneg
                    have hm3 : (m : Int) ≤ 1048576 := by omega
                    have hm4 : 0 ≤ (m : Int) := by omega
                    clear hl5 e7 e7b t1 b1 call1 call2 callS
                    go_wp2
                    go_meet
                    exact ⟨by rw [natAbs_pos'], rfl⟩
                case rest =>
                  obtain ⟨rfl, rfl⟩ := hcut
                  clear call1 call2 callS
                  have hS6 : Hid (S.settle k = (if 0 < S4.lev.getD p1.natAbs 0 ∧ (p2 = 0 ∨ S4.lev.getD p2.natAbs 0 < S4.lev.getD p1.natAbs 0) then S4.layH p1.natAbs k else S4, true)) := hS5
                  have cH := layH_any b G4 S4 p1.natAbs k
                  have hm5 : p1.natAbs ≤ 1048576 := by have := hS.n_le; omega
                  have hhl : S4.hl.length ≤ 1048577 := by rw [hh4]; exact hS.hl_len
                  have hhr : (S4.hl.getD p1.natAbs []).length ≤ 8796093022207 := by rw [hh4]; have := hroom.2 p1.natAbs; omega
                  have Hh4 := Lib.hid hh4
                  clear hh4
                  generalize hx : S4.lev.getD p1.natAbs 0 = x at *
                  have Hx := Lib.hid hx
                  clear hx
                  generalize hm : p1.natAbs = m at *
                  have Hm := Lib.hid hm
                  clear hm
                  generalize hy : S4.lev.getD p2.natAbs 0 = y at *
                  have Hy := Lib.hid hy
                  clear hy
                  by_cases hx0 : 0 < x
                  · have hx1 : (0 : Int) < (x : Int) := by omega
                    have hnl := hS.n_le
                    by_cases hneg : p2 < 0
                    · obtain ⟨j, rfl, hj0⟩ := nat_of_neg hneg
                      rw [natAbs_neg'] at *
                      have hj3 : (j : Int) ≤ 1048576 := by omega
                      have hl7 : (j : Int) < (S4.lev.length : Int) := by omega
                      by_cases hyx : y < x
                      · have hyx' : (y : Int) < (x : Int) := by omega
                        go_wp2_with fail
                        go_quiet (fail)
                        go_wp2_with (go_at_call 54; go_loud (refine (cH _ E4.drewN hm5 hhl hhr).mono ?_); rintro e w6 ⟨rfl, G6, E6, T6, K6⟩)
                        go_ret
                        refine ⟨?_, _, ?_, (T4.trans (Turned.drewN _ _ _)).trans T6, ?_⟩
                        · rw [hS6.out]; rfl
                        · rw [hS6.out, if_pos ⟨hx0, .inr hyx⟩]; exact E6
                        · rw [hS6.out, if_pos ⟨hx0, .inr hyx⟩]; exact K4.trans K6
                      · have hyx' : ¬ ((y : Int) < (x : Int)) := by omega
                        go_wp2_with fail
                        go_quiet (fail)
                        go_wp2
                        go_ret
                        refine ⟨?_, _, ?_, T4.trans (Turned.drewN _ _ _), ?_⟩
                        · rw [hS6.out]; rfl
                        · rw [hS6.out, if_neg (by have := T4'.out; omega)]; exact E4.drewN
                        · rw [hS6.out, if_neg (by have := T4'.out; omega)]; exact K4
                    · obtain ⟨j, rfl⟩ := nat_of_pos hneg
                      rw [natAbs_pos'] at *
                      have hj3 : (j : Int) ≤ 1048576 := by omega
                      have hj4 : 0 ≤ (j : Int) := by omega
                      have hl7 : (j : Int) < (S4.lev.length : Int) := by omega
                      by_cases hyx : y < x
                      · have hyx' : (y : Int) < (x : Int) := by omega
                        go_wp2_with fail
                        go_quiet (fail)
                        go_wp2_with (go_at_call 54; go_loud (refine (cH _ E4.drewN hm5 hhl hhr).mono ?_); rintro e w6 ⟨rfl, G6, E6, T6, K6⟩)
                        go_ret
                        refine ⟨?_, _, ?_, (T4.trans (Turned.drewN _ _ _)).trans T6, ?_⟩
                        · rw [hS6.out]; rfl
                        · rw [hS6.out, if_pos ⟨hx0, .inr hyx⟩]; exact E6
                        · rw [hS6.out, if_pos ⟨hx0, .inr hyx⟩]; exact K4.trans K6
                      · have hyx' : ¬ ((y : Int) < (x : Int)) := by omega
                        go_wp2_with fail
                        go_quiet (fail)
                        go_wp2
                        go_ret
                        refine ⟨?_, _, ?_, T4.trans (Turned.drewN _ _ _), ?_⟩
                        · rw [hS6.out]; rfl
                        · rw [hS6.out, if_neg (by have := T4'.out; omega)]; exact E4.drewN
                        · rw [hS6.out, if_neg (by have := T4'.out; omega)]; exact K4
                  · have hx1 : x = 0 := by omega
                    subst hx1
                    go_wp2_with fail
                    go_quiet (fail)
                    go_wp2
                    go_ret
                    refine ⟨?_, _, ?_, T4.trans (Turned.drewN _ _ _), ?_⟩
                    · rw [hS6.out]; rfl
                    · rw [hS6.out, if_neg (by omega)]; exact E4.drewN
                    · rw [hS6.out, if_neg (by omega)]; exact K4

end Go.Proofs.Ytaileihnkmjfiaa
