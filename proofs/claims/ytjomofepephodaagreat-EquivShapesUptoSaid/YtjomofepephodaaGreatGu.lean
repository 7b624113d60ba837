/-
  The document's in, Decl, fits, names and List. Conditions: what each theorem names.
-/
import Derived.Test.YtjomofepephodaaGreatGt
import Derived.Test.YtjomofepephodaaGreatGo
set_option linter.unusedVariables false
set_option linter.unusedSimpArgs false
namespace Go.Proofs.YtjomofepephodaaGreat.PEquivShapes
open Go.RowKit
open Go.Proofs.YtjomofepephodaaGreatW.PrintWords Go.Proofs.YtjomofepephodaaGreatW.PrintLast Go.Proofs.YtjomofepephodaaGreatW.PrintMore
theorem hasB_reverse (ls : List ByteArray) (s : ByteArray) : hasB ls.reverse s = hasB ls s := by
  unfold hasB
  rw [List.any_reverse]
theorem hasB_succ {r : List ByteArray} {i : Nat} {x : ByteArray} (h : r[i]? = some x) (s : ByteArray) : hasB (r.take (i + 1)) s = (hasB (r.take i) s || decide (x.toList = s.toList)) := by
  obtain ⟨hi, rfl⟩ := List.getElem?_eq_some_iff.1 h
  unfold hasB
  rw [List.take_succ_eq_append_getElem hi, List.any_append]
  simp
theorem hasB_at {r : List ByteArray} {i : Nat} {x : ByteArray} (h : r[i]? = some x) {s : ByteArray} (he : x.toList = s.toList) : hasB r s = true := by
  obtain ⟨hi, rfl⟩ := List.getElem?_eq_some_iff.1 h
  unfold hasB
  rw [List.any_eq_true]
  exact ⟨_, List.getElem_mem hi, by simpa using he⟩
theorem ls_get {w : World} {A : Option Addr} {c : Nat} {ls : List ByteArray} (h : LsAt w A c ls) {i : Nat} (hi : i < ls.length) : ∃ b x, A = some ⟨b, 0, none⟩ ∧ ls.reverse[i]? = some x ∧ w.cell? ⟨b, i, none⟩ = some (.string x) := by
  rcases h.2 with ⟨_, rfl, _⟩ | ⟨b, cur, _, e, h1, h2⟩
  · simp at hi
  · have hr : i < ls.reverse.length := by simpa using hi
    refine ⟨b, ls.reverse[i], e, List.getElem?_eq_getElem hr, ?_⟩
    rw [cell_of_row w b i cur 9 (0, 0) h1]
    have : (cur.toList.take ls.length)[i]? = (ls.reverse.map Value.string)[i]? := by rw [h2]
    rw [List.getElem?_take_of_lt hi, List.getElem?_map, List.getElem?_eq_getElem hr] at this
    simpa using this
set_option maxHeartbeats 1000000 in
theorem rin_any (A : Option Addr) (c : Nat) (ls : List ByteArray) (s : ByteArray) (w : World) (h : LsAt w A c ls) (hn : ls.length ≤ 4194304) : Calls Tryz.prog 73 #[.slice A ls.length c, .string s] w fun e w' => e = .returned (.bool (hasB ls s)) ∧ w' = w := by
  have hu := Tryz.underlying77
  have hll : (ls.length : Int) ≤ 9223372036854775807 := by omega
  have HR := Aside0.mk (hasB_reverse ls s)
  have HL := Aside0.mk h
  clear h hn
  go_enter Tryz.func73, Tryz.ntmps73
  go_wp2_with fail
  go_loopg [5] (ls.length) (fun m v wr => ∃ i : Nat, v = .int .i64 i ∧ m = ls.length - i ∧ i ≤ ls.length ∧ hasB (ls.reverse.take i) s = false ∧ wr = w)
  case atStart => exact ⟨0, rfl, by omega, by omega, rfl, rfl⟩
  case round =>
    obtain ⟨i, rfl, rfl, hi, hr, rfl⟩ := hrel
    by_cases hlt : i < ls.length
    · obtain ⟨b, x, rfl, hx, hc⟩ := ls_get HL.out hlt
      have hlt' : (i : Int) < (ls.length : Int) := by omega
      have HX := Aside0.mk hx
      have H0 := Aside0.mk hr
      clear hx hr
      by_cases he : x.toList = s.toList
      · have hb : (x.toList == s.toList) = true := beq_iff_eq.mpr he
        have HE := Aside0.mk he
        clear he
        go_wp2_with fail
        go_ret
        exact ⟨by rw [← HR.out, hasB_at HX.out HE.out]; rfl, rfl⟩
      · have hb : (x.toList == s.toList) = false := beq_eq_false_iff_ne.mpr he
        have HE := Aside0.mk he
        clear he
        go_wp2_with fail
        go_roundg (ls.length - (i + 1))
        case measure => omega
        case rel => exact ⟨i + 1, by simp, rfl, by omega, by rw [hasB_succ HX.out, H0.out]; simpa using HE.out, rfl⟩
    · have hlt' : ¬ ((i : Int) < (ls.length : Int)) := by omega
      have hie : i = ls.length := by omega
      subst hie
      have H0 := Aside0.mk hr
      clear hr
      go_wp2_with fail
      go_ret
      exact ⟨by rw [← HR.out]; have h := H0.out; rw [List.take_of_length_le (by simp)] at h; rw [h]; rfl, rfl⟩
theorem rdecl_any (p : PR) (A3 : Option Addr) (c3 : Nat) (A4 : Option Addr) (c4 : Nat) (s : ByteArray) (w : World) (hp : p.At w A3 c3 A4 c4) (hb : p.decls.length ≤ 1048576) :
    Calls Tryz.prog 68 #[p.cells A3 c3 A4 c4, .string s] w fun e w' => e = .returned (.int .i64 (match findI p.decls s with | some j => (j : Int) | none => -1)) ∧ Below w.heap.size w w' := by
  obtain ⟨hl3, h3, hl4, h4⟩ := hp
  exact cadenceref16_Decl.calls (p.decls.length + 1) p.name p.width p.line A3 c3 p.decls A4 c4 p.body s _ w h3 hl3 h4 hl4 (ref_Decl p s hb (p.decls.length + 1) 0 (by omega) (by omega) (fun j h => absurd h (by omega)))
theorem rfits_any (k x : Int) (h0 : 0 ≤ k) (hx : U64 x) (w : World) : Calls Tryz.prog 69 #[.int .i64 k, .int .u64 x] w fun e w' => e = .returned (.bool (fitB k x)) ∧ Drawn0 w w' :=
  cadenceref16_fits.calls k x _ w (ref_fits k x h0 hx)
end Go.Proofs.YtjomofepephodaaGreat.PEquivShapes
namespace Go.Proofs.YtjomofepephodaaGreat.PEquivShapes
open Go.RowKit
open Go.Proofs.YtjomofepephodaaGreatW.PrintWords Go.Proofs.YtjomofepephodaaGreatW.PrintLast Go.Proofs.YtjomofepephodaaGreatW.PrintMore
/-- the kinds of a thing are of the form -/
def TH.ok : TH → Prop
  | .stmt s _ => 1 ≤ s.f0 ∧ s.f0 ≤ 5
  | _ => True
set_option maxHeartbeats 2000000 in
set_option maxRecDepth 100000 in
theorem rnames_any (w0 w : World) (t : TH) (ls : List ByteArray) (cs : List Value) (h : ThIn w0 w (t, ls) cs) (hk : t.ok) :
    Calls Tryz.prog 72 #[.agg cs.toArray] w fun e w' => e = .returned (.tuple #[.string t.use.1, .bool t.use.2]) ∧ Below w.heap.size w w' := by
  have BB := Aside0.mk (fun o => below_alloc (Below.refl w.heap.size w) o)
  cases t with
  | decl =>
    obtain ⟨i, rfl⟩ := h
    unfold zS zE
    go_enter Tryz.func72, Tryz.ntmps72
    go_wp2_with fail
    go_ret2
    exact ⟨rfl, BB.out _⟩
  | stmt s deep =>
    obtain ⟨A5, c5, A9, c9, A12, c12, A13, c13, LA, lc, rfl, _⟩ := h
    obtain ⟨k1, k5⟩ := hk
    unfold zE
    unfold TH.use
    by_cases e3 : s.f0 = 3 ∨ s.f0 = 4
    · have a1 : (s.f0 == 1) = false := by simp; omega
      have a2 : (s.f0 == 2) = false := by simp; omega
      have a5 : (s.f0 == 5) = false := by simp; omega
      have HE : Aside0 ((if s.f0 = 3 ∨ s.f0 = 4 then ((⟨#[]⟩ : ByteArray), false) else (s.f1, true)) = (⟨#[]⟩, false)) := ⟨if_pos e3⟩
      clear e3 k1 k5
      dsimp only
      rw [HE.out]
      go_enter Tryz.func72, Tryz.ntmps72
      go_wp2_with fail
      go_ret2
      exact ⟨rfl, BB.out _⟩
    · have HE : Aside0 ((if s.f0 = 3 ∨ s.f0 = 4 then ((⟨#[]⟩ : ByteArray), false) else (s.f1, true)) = (s.f1, true)) := ⟨if_neg e3⟩
      dsimp only
      rw [HE.out]
      by_cases q1 : s.f0 = 1
      · have a1 : (s.f0 == 1) = true := by simp; omega
        clear e3 k1 k5 q1
        go_enter Tryz.func72, Tryz.ntmps72
        go_wp2_with fail
        go_ret2
        exact ⟨rfl, BB.out _⟩
      · have a1 : (s.f0 == 1) = false := by simp; omega
        by_cases q2 : s.f0 = 2
        · have a2 : (s.f0 == 2) = true := by simp; omega
          clear e3 k1 k5 q1 q2
          go_enter Tryz.func72, Tryz.ntmps72
          go_wp2_with fail
          go_ret2
          exact ⟨rfl, BB.out _⟩
        · have a2 : (s.f0 == 2) = false := by simp; omega
          have a5 : (s.f0 == 5) = true := by simp; omega
          clear e3 k1 k5 q1 q2
          go_enter Tryz.func72, Tryz.ntmps72
          go_wp2_with fail
          go_ret2
          exact ⟨rfl, BB.out _⟩
  | expr e =>
    obtain ⟨A, c, LA, lc, rfl, _⟩ := h
    unfold zS
    unfold TH.use
    by_cases q2 : e.f0 = 2
    · have a2 : (e.f0 == 2) = true := by simp [q2]
      have HE : Aside0 ((if e.f0 = 2 ∨ e.f0 = 3 then (e.f2, true) else ((⟨#[]⟩ : ByteArray), false)) = (e.f2, true)) := ⟨if_pos (.inl q2)⟩
      clear q2 hk
      dsimp only
      rw [HE.out]
      go_enter Tryz.func72, Tryz.ntmps72
      go_wp2_with fail
      go_ret2
      exact ⟨rfl, BB.out _⟩
    · have a2 : (e.f0 == 2) = false := by simp [q2]
      by_cases q3 : e.f0 = 3
      · have a3 : (e.f0 == 3) = true := by simp [q3]
        have HE : Aside0 ((if e.f0 = 2 ∨ e.f0 = 3 then (e.f2, true) else ((⟨#[]⟩ : ByteArray), false)) = (e.f2, true)) := ⟨if_pos (.inr q3)⟩
        clear q2 hk q3
        dsimp only
        rw [HE.out]
        go_enter Tryz.func72, Tryz.ntmps72
        go_wp2_with fail
        go_ret2
        exact ⟨rfl, BB.out _⟩
      · have a3 : (e.f0 == 3) = false := by simp [q3]
        have HE : Aside0 ((if e.f0 = 2 ∨ e.f0 = 3 then (e.f2, true) else ((⟨#[]⟩ : ByteArray), false)) = (⟨#[]⟩, false)) := ⟨if_neg (by rintro (h | h); exact q2 h; exact q3 h)⟩
        clear q2 hk q3
        dsimp only
        rw [HE.out]
        go_enter Tryz.func72, Tryz.ntmps72
        go_wp2_with fail
        go_ret2
        exact ⟨rfl, BB.out _⟩
end Go.Proofs.YtjomofepephodaaGreat.PEquivShapes
namespace Go.Proofs.YtjomofepephodaaGreat.PEquivShapes
open Go.RowKit
open Go.Proofs.YtjomofepephodaaGreatW.PrintWords Go.Proofs.YtjomofepephodaaGreatW.PrintLast Go.Proofs.YtjomofepephodaaGreatW.PrintMore
def declL (i : Nat) : List TL := List.replicate i (TH.decl, [])
theorem declL_map (l : List S38) : l.map (fun _ => ((TH.decl, []) : TL)) = declL l.length := by
  unfold declL
  exact List.map_const'
set_option maxHeartbeats 4000000 in
set_option maxRecDepth 100000 in
theorem rlist_any (p : PR) (A3 : Option Addr) (c3 : Nat) (A4 : Option Addr) (c4 : Nat) (w : World) (hp : p.At w A3 c3 A4 c4) (hform : S52.formsB p.body = true) (hd : p.decls.length ≤ 1048576) (hb : S52.bulks p.body ≤ 1048576) :
    Calls Tryz.prog 33 #[p.cells A3 c3 A4 c4] w fun e w' => ∃ v, e = .returned v ∧ ThL w.heap.size w w' v p.ths ∧ Below w.heap.size w w' := by
  obtain ⟨hl3, h3, hl4, h4⟩ := hp
  have hu74 := Tryz.underlying74
  have hu22 := Tryz.underlying22
  obtain ⟨i0, hi0, hz0, hz1, hz2⟩ := info_parts Tryz.info79
  have hll : (p.decls.length : Int) ≤ 9223372036854775807 := by omega
  obtain ⟨w1, hw1⟩ : ∃ w1, w.alloc (.cells #[.string p.name, .int .i64 p.width, .int .i64 p.line, .slice A3 p.decls.length c3, .slice A4 p.body.length c4] 25) = w1 := ⟨_, rfl⟩
  have B1 : Below w.heap.size w w1 := by rw [← hw1]; exact below_alloc (Below.refl _ _) _
  have hbox : w1.heap[w.heap.size]? = some (.cells #[.string p.name, .int .i64 p.width, .int .i64 p.line, .slice A3 p.decls.length c3, .slice A4 p.body.length c4] 25 (0, 0)) := by rw [← hw1]; show (w.heap.push _)[w.heap.size]? = _; simp
  have HK : Aside0 (∀ w' : World, w'.heap[w.heap.size]? = some (.cells #[.string p.name, .int .i64 p.width, .int .i64 p.line, .slice A3 p.decls.length c3, .slice A4 p.body.length c4] 25 (0, 0)) → w'.cell? ⟨w.heap.size, 3, none⟩ = some (.slice A3 p.decls.length c3) ∧ w'.cell? ⟨w.heap.size, 4, none⟩ = some (.slice A4 p.body.length c4)) := ⟨fun w' h => by simp [World.cell?, h]⟩
  have HI0 := Aside0.mk (⟨hi0, hz0, hz1, hz2⟩ : _ ∧ _ ∧ _ ∧ _)
  have HB1 := Aside0.mk B1
  have HX1 := Aside0.mk hbox
  have HW := Aside0.mk hw1
  have HP := Aside0.mk (⟨hl4, h4, hform, hd, hb⟩ : _ ∧ _ ∧ _ ∧ _ ∧ _)
  have HT : Aside0 (p.ths = declL p.decls.length ++ S52.thss 1 [] p.body) := ⟨by unfold PR.ths; rw [declL_map]⟩
  unfold PR.cells
  generalize p.decls = ds at *
  clear hl3 h3 hl4 h4 hform hd hb hi0 hz0 hz1 hz2 B1 hbox hw1
  go_enter Tryz.func33, Tryz.ntmps33
  go_upto_region 1 with (fail)
  rw [HW.out]
  go_wp2_with fail
  go_loopg [3, 4] (ds.length) (fun m v3 v4 wr => ∃ (i : Nat) (lv : Value), lv = v3 ∧ v4 = .int .i64 i ∧ m = ds.length - i ∧ i ≤ ds.length ∧ ThL w.heap.size w wr lv (declL i) ∧ Below w.heap.size w wr ∧ wr.heap[w.heap.size]? = some (.cells #[.string p.name, .int .i64 p.width, .int .i64 p.line, .slice A3 ds.length c3, .slice A4 p.body.length c4] 25 (0, 0)))
  case atStart => exact ⟨0, _, rfl, rfl, by omega, by omega, ⟨[], World.ownsRow_nil _ _ _ _, .nil⟩, HB1.out, HX1.out⟩
  case round =>
    obtain ⟨i, lv, rfl, rfl, rfl, hi, hl, hb, hx⟩ := hrel
    obtain ⟨z3, z4⟩ := HK.out _ hx
    by_cases hlt : i < ds.length
    · have hlt' : (i : Int) < (ds.length : Int) := by omega
      obtain ⟨xss, ho, hxs⟩ := hl
      have HO := Aside0.mk ho
      have HXs := Aside0.mk hxs
      have HB := Aside0.mk hb
      have HX := Aside0.mk hx
      have HBs : Aside0 (w.heap.size ≤ wr.heap.size) := ⟨hb.size⟩
      have HS63 : Aside0 ((declL i).length + 1 ≤ maxLen) := ⟨by unfold maxLen declL; rw [List.length_replicate]; have := HP.out.2.2.2.1; omega⟩
      have HSby : Aside0 (((declL i).length + 1) * 304 ≤ 140737488355328) := ⟨by unfold declL; rw [List.length_replicate]; have := HP.out.2.2.2.1; omega⟩
      have HOA := Aside0.mk (ho.alloc (.cells #[.int .i64 0, .int .i64 i, .int .i64 0, .string ⟨#[]⟩, .int .i64 0, .int .u64 0, .string ⟨#[]⟩, .slice none 0 0, .int .i64 0, .int .u64 0, .string ⟨#[]⟩, .slice none 0 0, .int .u64 0, .int .u64 0, .slice none 0 0, .slice none 0 0, .int .i64 0, .int .u64 0, .string ⟨#[]⟩, .slice none 0 0, .int .i64 0, .slice none 0 0] 79))
      clear ho hxs hb hx
      generalize hDL : declL i = DL at *
      have HDL := Aside0.mk hDL
      clear hDL
      go_wp2_with (refine wpList_append_lies _ rfl (.tmp 12) (.tmp 15) 74 rfl w.heap.size 79 i0 _ 22 304 Tryz.underlying74 HI0.out.1 HI0.out.2.1 HI0.out.2.2.1 HI0.out.2.2.2 rfl (by decide) lv DL.length xss.flatten rfl HOA.out ⟨wr.heap.size, 0, none⟩ 1 1 ([.int .i64 0, .int .i64 i] ++ zS ++ zE ++ [.int .i64 0, .slice none 0 0]) rfl rfl (World.news_of_block (B := wr.heap.size) (t := 79) (fr := (0, 0)) (by show (wr.heap.push _)[wr.heap.size]? = _; simp; rfl)) (one_cells _ rfl) (by decide) HS63.out HSby.out (by have := HBs.out; simp; omega) _ rfl ?_; intro g5 cap5 w5 ho5 hg5 _ _; have HO5 := Aside0.mk ho5; have HB5 := Aside0.mk hg5; clear ho5 hg5)
      have hBa := below_alloc (Below.refl wr.heap.size wr) (.cells #[.int .i64 0, .int .i64 i, .int .i64 0, .string ⟨#[]⟩, .int .i64 0, .int .u64 0, .string ⟨#[]⟩, .slice none 0 0, .int .i64 0, .int .u64 0, .string ⟨#[]⟩, .slice none 0 0, .int .u64 0, .int .u64 0, .slice none 0 0, .slice none 0 0, .int .i64 0, .int .u64 0, .string ⟨#[]⟩, .slice none 0 0, .int .i64 0, .slice none 0 0] 79)
      have hG : Grows w.heap.size wr w5 := (Grows.below hBa).trans (grown_grows HOA.out HB5.out)
      have hBB : Below w.heap.size w w5 := grown_below (below_weaken' HB.out HBs.out hBa) (Nat.le_trans HBs.out hBa.size) HOA.out HB5.out
      have hXX := hG _ _ _ _ (by decide) HX.out
      have hTT : ThL w.heap.size w w5 _ (DL ++ [(.decl, [])]) := ThL.add HXs.out ⟨(i : Int), rfl⟩ hG HO5.out
      have HG := Aside0.mk (⟨hBB, hXX, hTT⟩ : _ ∧ _ ∧ _)
      clear hBa hG hBB hXX hTT
      go_roundg (ds.length - (i + 1))
      case measure => omega
      case rel => exact ⟨i + 1, _, rfl, by simp, rfl, by omega, by rw [show declL (i + 1) = DL ++ [(TH.decl, [])] by rw [← HDL.out]; unfold declL; rw [List.replicate_succ']]; exact HG.out.2.2, HG.out.1, HG.out.2.1⟩
    · have hlt' : ¬ ((i : Int) < (ds.length : Int)) := by omega
      have hie : i = ds.length := by omega
      subst hie
      have hdl : (declL ds.length).length = ds.length := by unfold declL; rw [List.length_replicate]
      have HC := Aside0.mk (rstmts_any w w.heap.size rfl (S52.bulks p.body) p.body A4 c4 1 [] none 0 lv (declL ds.length) wr (Nat.le_refl _) HP.out.2.2.2.2 (by have := HP.out.2.2.2.2; have := HP.out.2.2.2.1; omega) (by have := HP.out.2.2.2.2; simp; omega) HP.out.2.2.1 HP.out.2.1 HP.out.1 hl ⟨Nat.le_refl _, .inl ⟨rfl, rfl, rfl⟩⟩ hb)
      simp only [List.length_nil] at HC
      clear hl hb hx hdl
      go_wp2_with (go_at_call 71; refine HC.out.mono ?_; rintro x' w6 ⟨v6, rfl, hl6, hb6, hg6⟩)
      go_ret
      exact ⟨_, rfl, by rw [HT.out]; exact hl6, hb6⟩
end Go.Proofs.YtjomofepephodaaGreat.PEquivShapes
