/-
  The walk over statements. Conditions: what each theorem names.
-/
import Derived.Test.YtjomofepephodaaGreatGf
set_option linter.unusedVariables false
set_option linter.unusedSimpArgs false
namespace Go.Proofs.YtjomofepephodaaGreat.PEquivShapes
open Go.RowKit
open Go.Proofs.YtjomofepephodaaGreatW.PrintWords Go.Proofs.YtjomofepephodaaGreatW.PrintLast Go.Proofs.YtjomofepephodaaGreatW.PrintMore
mutual
/-- the things of a statement -/
def S52.ths (deep : Int) (ls : List ByteArray) : S52 → List TL
  | ⟨k, s, a, e, lo, hi, t, u⟩ => (.stmt ⟨k, s, a, e, lo, hi, t, u⟩ deep, ls) ::
      (if k = 2 then S50.ths ls a ++ S50.ths ls e else if k = 1 then S50.ths ls e
        else if k = 3 then S50.ths ls e ++ (S52.thss (wrap64 (deep + 1)) ls t ++ S52.thss (wrap64 (deep + 1)) ls u)
        else if k = 4 then S52.thss (wrap64 (deep + 1)) (s :: ls) t else [])
def S52.thss (deep : Int) (ls : List ByteArray) : List S52 → List TL
  | [] => []
  | x :: r => S52.ths deep ls x ++ S52.thss deep ls r
end
theorem S52.ths_eq (deep : Int) (ls : List ByteArray) (x : S52) : S52.ths deep ls x = (.stmt x deep, ls) ::
      (if x.f0 = 2 then S50.ths ls x.f2 ++ S50.ths ls x.f3 else if x.f0 = 1 then S50.ths ls x.f3
        else if x.f0 = 3 then S50.ths ls x.f3 ++ (S52.thss (wrap64 (deep + 1)) ls x.f6 ++ S52.thss (wrap64 (deep + 1)) ls x.f7)
        else if x.f0 = 4 then S52.thss (wrap64 (deep + 1)) (x.f1 :: ls) x.f6 else []) := by
  obtain ⟨k, s, a, e, lo, hi, t, u⟩ := x
  rw [S52.ths]
theorem S52.thss_eq (deep : Int) (ls : List ByteArray) (l : List S52) : S52.thss deep ls l = l.flatMap (S52.ths deep ls) := by
  induction l with
  | nil => rfl
  | cons x l ih => rw [S52.thss, ih, List.flatMap_cons]
theorem S52.any_succ (deep : Int) (ls : List ByteArray) (bad : TL → Bool) (l : List S52) (i : Nat) (h : i < l.length) : (S52.thss deep ls (l.take (i + 1))).any bad = ((S52.thss deep ls (l.take i)).any bad || (S52.ths deep ls (rd_T52 l i)).any bad) := by
  have hd : rd_T52 l i = l[i] := by simp [rd_T52, h]
  rw [List.take_succ_eq_append_getElem h, S52.thss_eq, List.flatMap_append, List.any_append, ← S52.thss_eq, hd]
  simp
theorem S52.any_more (deep : Int) (ls : List ByteArray) (bad : TL → Bool) (l : List S52) (i : Nat) (h : i < l.length) (hb : (S52.ths deep ls (rd_T52 l i)).any bad = true) : (S52.thss deep ls l).any bad = true := by
  have hd : rd_T52 l i = l[i] := by simp [rd_T52, h]
  rw [hd] at hb
  rw [S52.thss_eq, List.any_flatMap, List.any_eq_true]
  exact ⟨l[i], List.getElem_mem h, hb⟩
theorem S52.pre_kid {deep : Int} {ls : List ByteArray} {l : List S52} {i : Nat} (h : i < l.length) {x : TL} (hx : x ∈ S52.ths deep ls (rd_T52 l i)) : x ∈ S52.thss deep ls l := by
  have hd : rd_T52 l i = l[i] := by simp [rd_T52, h]
  rw [hd] at hx
  rw [S52.thss_eq, List.mem_flatMap]
  exact ⟨l[i], List.getElem_mem h, hx⟩
theorem S52.bulk_eq (s : S52) : s.bulk = s.f1.size + s.f2.bulk + s.f3.bulk + S52.bulks s.f6 + S52.bulks s.f7 + 7 := by
  obtain ⟨k, s, a, e, lo, hi, t, u⟩ := s
  rw [S52.bulk]
theorem wrap64_of (n : Int) : IntKind.i64.wrap n = wrap64 n := by rw [IntKind.wrap_i64, wrap64]
/-- where the walk stands -/
def St (g cap : Nat) (w0 W w : World) : Prop := Below g w0 w ∧ (∃ v, WkAt g cap v w) ∧ Keeps g W w
/-- a step of the walk, from wherever it stands -/
def Stp (g cap : Nat) (w0 W : World) (F : Nat) (args : Array Value) (b : Bool) : Prop := ∀ w, St g cap w0 W w → Calls Tryz.prog F args w fun e w' => Went g cap w0 W b e w'
theorem Went.base {g cap : Nat} {w0 W w : World} (hk : Keeps g W w) {b : Bool} {e : Ending} {w' : World} (h : Went g cap w0 w b e w') : Went g cap w0 W b e w' := by
  obtain ⟨h1, h2⟩ := h
  cases b with
  | false => exact ⟨h1, h2.1, h2.2.1, hk.trans h2.2.2⟩
  | true => exact ⟨h1, h2⟩
theorem Went.dead {g cap : Nat} {w0 W w' : World} {b : Bool} {u : Int} (hb : b = true) (h : Below g w0 w') : Went g cap w0 W b (.panicked [{ v := .iface 119 (.agg #[.int .i64 u]), recovered := false }]) w' := by
  subst hb
  exact ⟨h, u, rfl⟩
theorem St.below {g cap : Nat} {w0 W w w' : World} (h : St g cap w0 W w) (hb : Below w.heap.size w w') : St g cap w0 W w' := by
  obtain ⟨h1, ⟨v, h2⟩, h3⟩ := h
  exact ⟨h1.trans ⟨hb.os, hb.tape, hb.output, hb.size, fun i hi => hb.block i (by have := h2.lt; omega)⟩, ⟨v, h2.below hb⟩, h3.trans (Keeps.below hb)⟩
section
variable {g cap : Nat} {w0 : World} {pre bad : TL → Bool}
theorem tell_stp (hS : Sees g w0 cap pre bad) (hg : g = w0.heap.size) {W : World} {v : Int} (hk : WkAt g cap v W) {t : TH} {ls : List ByteArray} {n : Int} {pd ps pe : Option Addr} {d : Int} {pl : Option Addr} (hp : pre (t, ls) = true) (ht : ThAt w0 t ps pe d) (hl : ScAt W pl ls) :
    Stp g cap w0 W 105 #[.pointer (some ⟨g, 0, none⟩), thV n pd ps pe d pl] (bad (t, ls)) := fun w ⟨h1, ⟨u, h2⟩, h3⟩ =>
  (tell_any g cap w0 pre bad hS hg u w h1 h2 t ls n pd ps pe d pl hp ht (ScAt.keeps hk h3 hl)).mono fun _ _ hq => hq.base h3
theorem expr_stp (hS : Sees g w0 cap pre bad) (hg : g = w0.heap.size) {W : World} {v : Int} (hk : WkAt g cap v W) {e : S50} {b o : Nat} {ls : List ByteArray} {pl : Option Addr} (hE : ExAt w0 b o e) (hp : ∀ x, x ∈ S50.ths ls e → pre x = true) (hl : ScAt W pl ls) :
    Stp g cap w0 W 111 #[.pointer (some ⟨g, 0, none⟩), .pointer (some ⟨b, o, none⟩), .pointer pl] ((S50.ths ls e).any bad) := fun w ⟨h1, ⟨u, h2⟩, h3⟩ =>
  (expr_any g cap w0 pre bad hS hg e.bulk e b o ls pl w u (Nat.le_refl _) hE hp h1 h2 (ScAt.keeps hk h3 hl)).mono fun _ _ hq => hq.base h3
end
set_option maxHeartbeats 16000000 in
set_option maxRecDepth 100000 in
theorem stmts_any (g cap : Nat) (w0 : World) (pre bad : TL → Bool) (hS : Sees g w0 cap pre bad) (hg : g = w0.heap.size) (N : Nat) : ∀ (l : List S52) (A : Option Addr) (c : Nat) (deep : Int) (ls : List ByteArray) (pl : Option Addr) (W : World) (v : Int), S52.bulks l ≤ N → k52.C w0 A l.length l → l.length ≤ c →
    (∀ x, x ∈ S52.thss deep ls l → pre x = true) → Below g w0 W → WkAt g cap v W → ScAt W pl ls →
    Calls Tryz.prog 106 #[.pointer (some ⟨g, 0, none⟩), .slice A l.length c, .int .i64 deep, .pointer pl] W fun x w' => Went g cap w0 W ((S52.thss deep ls l).any bad) x w' := by
  induction N using Nat.strongRecOn with
  | _ N ih =>
  intro l A c deep ls pl W v hN hK hc hp hb hk hl
  have hu := Tryz.underlying23
  have hll : (l.length : Int) ≤ 9223372036854775807 := by have := hK.2.1; omega
  have HG := Aside0.mk hg
  have HSe := Aside0.mk hS
  have HL := Aside0.mk hl
  have HP := Aside0.mk hp
  have IH := Aside0.mk ih
  have HW := Aside0.mk hk
  have HN := Aside0.mk hN
  have HST := Aside0.mk (show St g cap w0 W W from ⟨hb, ⟨v, hk⟩, Keeps.refl _ _⟩)
  clear hg hS hl hp ih hk hN hb
  go_enter Tryz.func106, Tryz.ntmps106
  go_wp2_with fail
  go_loopg [12] (l.length) (fun m v12 wr => ∃ i : Nat, v12 = .int .i64 i ∧ m = l.length - i ∧ i ≤ l.length ∧ (S52.thss deep ls (l.take i)).any bad = false ∧ St g cap w0 W wr)
  case atStart => exact ⟨0, rfl, by omega, by omega, by simp [S52.thss], HST.out⟩
  case round =>
    obtain ⟨i, rfl, rfl, hi, hs0, hst⟩ := hrel
    clear HST
    have HST := Aside0.mk hst
    clear hst
    by_cases hlt : i < l.length
    · obtain ⟨ad, A5, c5, A9, c9, A12, c12, A13, c13, rfl, x0, x1, x2, x3, x4, x5, x6, x7, x8, x9, x10, x11, x12, x13, l5, g5, l9, g9, l12, g12, l13, g13⟩ := at_T52 hK (i : Int) (by omega) (by omega)
      have hbk := S52.bulk_in hlt
      have hbe := S52.bulk_eq (rd_T52 l i)
      simp only [Int.toNat_natCast] at x0 x1 x2 x3 x4 x5 x6 x7 x8 x9 x10 x11 x12 x13
      have hq := addr_plain x0
      have hpk : ∀ x, x ∈ S52.ths deep ls (rd_T52 l i) → pre x = true := fun x hx => HP.out x (S52.pre_kid hlt hx)
      have hsu := S52.any_succ deep ls bad l i hlt
      rw [hs0, Bool.false_or] at hsu
      have HM := Aside0.mk (S52.any_more deep ls bad l i hlt)
      have hlt' : (i : Int) < (l.length : Int) := by omega
      generalize rd_T52 l i = s at *
      have hStm : StAt w0 (ad.add (i * 14)).block (ad.add (i * 14)).off s := ⟨by rw [← hq]; exact x0, x1, x10, x11⟩
      have hEa : ExAt w0 (ad.add (i * 14)).block ((ad.add (i * 14)).off + 2) s.f2 := ⟨A5, c5, x2, x3, x4, x5, l5, g5⟩
      have hEe : ExAt w0 (ad.add (i * 14)).block ((ad.add (i * 14)).off + 6) s.f3 := ⟨A9, c9, x6, x7, x8, x9, l9, g9⟩
      have HT := Aside0.mk (tell_stp HSe.out HG.out HW.out (t := .stmt s deep) (ls := ls) (n := 0) (pd := none) (ps := some ⟨(ad.add (i * 14)).block, (ad.add (i * 14)).off, none⟩) (pe := none) (d := deep) (pl := pl) (hpk _ (by rw [S52.ths_eq]; simp)) ⟨⟨_, _, rfl, hStm⟩, rfl, rfl⟩ HL.out)
      unfold thV at HT
      rw [← hq] at HT
      clear hq
      clear x2 x3 x4 x5 x6 x7 x8 x9 x10 x11 l5 g5 l9 g9 hStm hs0
      rw [S52.ths_eq] at hpk hsu
      have HM2 : Aside0 ((S52.ths deep ls s).any bad = true → (S52.thss deep ls l).any bad = true) := HM
      rw [S52.ths_eq] at HM2
      rw [List.any_cons] at HM2 hsu
      clear HM
      have HX0 := Aside0.mk x0
      have HX1 := Aside0.mk x1
      have HX12 := Aside0.mk x12
      have HX13 := Aside0.mk x13
      clear x0 x1 x12 x13
      generalize bad (TH.stmt s deep, ls) = bt at *
      obtain ⟨hg12, hg13⟩ : k52.C w0 A12 s.f6.length s.f6 ∧ k52.C w0 A13 s.f7.length s.f7 := ⟨g12, g13⟩
      by_cases k2 : s.f0 = 2
      · rw [if_pos k2] at hpk hsu HM2
        rw [List.any_append] at hsu HM2
        have HA := Aside0.mk (expr_stp HSe.out HG.out HW.out hEa (fun x hx => hpk x (by simp [hx])) HL.out)
        have HE := Aside0.mk (expr_stp HSe.out HG.out HW.out hEe (fun x hx => hpk x (by simp [hx])) HL.out)
        generalize (S50.ths ls s.f2).any bad = ba at *
        generalize (S50.ths ls s.f3).any bad = be at *
        rw [k2] at HX0
        have HU := Aside0.mk hsu
        clear hpk hsu hEa hEe hbk hbe k2 g12 g13 hg12 hg13 l12 l13
        cases bt with
        | true =>
          go_wp2_with (first | (go_at_call 105; refine (HT.out _ HST.out).mono ?_; rintro x w1 ⟨hb1, u, rfl⟩))
          exact ⟨rfl, Went.dead (HM2.out (by first | rfl | simp)) hb1⟩
        | false =>
          cases ba with
          | true =>
            have T1 := Aside0.mk trivial
            go_wp2_with (first | (go_at_call 105; refine (HT.out _ HST.out).mono ?_; rintro x w1 ⟨hb1, rfl, hk1, hK1⟩; have S1 := Aside0.mk (show St g cap w0 W w1 from ⟨hb1, hk1, hK1⟩); have z0_1 := kept0 HG.out hb1 HX0.out; clear hk1 hK1) | (clear T1; go_at_call 111; refine (HA.out _ S1.out).mono ?_; rintro x w2 ⟨hb2, u, rfl⟩))
            exact ⟨rfl, Went.dead (HM2.out (by first | rfl | simp)) hb2⟩
          | false =>
            cases be with
            | true =>
              have T1 := Aside0.mk trivial
              go_wp2_with (first | (go_at_call 105; refine (HT.out _ HST.out).mono ?_; rintro x w1 ⟨hb1, rfl, hk1, hK1⟩; have S1 := Aside0.mk (show St g cap w0 W w1 from ⟨hb1, hk1, hK1⟩); have z0_1 := kept0 HG.out hb1 HX0.out; clear hk1 hK1) | (clear T1; go_at_call 111; refine (HA.out _ S1.out).mono ?_; rintro x w2 ⟨hb2, rfl, hk2, hK2⟩; have S2 := Aside0.mk (show St g cap w0 W w2 from ⟨hb2, hk2, hK2⟩); clear hk2 hK2) | (go_at_call 111; refine (HE.out _ S2.out).mono ?_; rintro x w3 ⟨hb3, u, rfl⟩))
              exact ⟨rfl, Went.dead (HM2.out (by first | rfl | simp)) hb3⟩
            | false =>
              have T1 := Aside0.mk trivial
              go_wp2_with (first | (go_at_call 105; refine (HT.out _ HST.out).mono ?_; rintro x w1 ⟨hb1, rfl, hk1, hK1⟩; have S1 := Aside0.mk (show St g cap w0 W w1 from ⟨hb1, hk1, hK1⟩); have z0_1 := kept0 HG.out hb1 HX0.out; clear hk1 hK1) | (clear T1; go_at_call 111; refine (HA.out _ S1.out).mono ?_; rintro x w2 ⟨hb2, rfl, hk2, hK2⟩; have S2 := Aside0.mk (show St g cap w0 W w2 from ⟨hb2, hk2, hK2⟩); clear hk2 hK2) | (go_at_call 111; refine (HE.out _ S2.out).mono ?_; rintro x w3 ⟨hb3, rfl, hk3, hK3⟩; have S3 := Aside0.mk (show St g cap w0 W w3 from ⟨hb3, hk3, hK3⟩); clear hk3 hK3))
              go_roundg (l.length - (i + 1))
              case measure => omega
              case rel => exact ⟨i + 1, by simp, rfl, by omega, by rw [HU.out]; first | rfl | simp, S3.out⟩
      rw [if_neg k2] at hpk hsu HM2
      by_cases k1 : s.f0 = 1
      · rw [if_pos k1] at hpk hsu HM2
        have HE := Aside0.mk (expr_stp HSe.out HG.out HW.out hEe (fun x hx => hpk x (by simp [hx])) HL.out)
        generalize (S50.ths ls s.f3).any bad = be at *
        rw [k1] at HX0
        have HU := Aside0.mk hsu
        clear hpk hsu hEa hEe hbk hbe k2 k1 g12 g13 hg12 hg13 l12 l13
        cases bt with
        | true =>
          go_wp2_with (first | (go_at_call 105; refine (HT.out _ HST.out).mono ?_; rintro x w1 ⟨hb1, u, rfl⟩))
          exact ⟨rfl, Went.dead (HM2.out (by first | rfl | simp)) hb1⟩
        | false =>
          cases be with
          | true =>
            go_wp2_with (first | (go_at_call 105; refine (HT.out _ HST.out).mono ?_; rintro x w1 ⟨hb1, rfl, hk1, hK1⟩; have S1 := Aside0.mk (show St g cap w0 W w1 from ⟨hb1, hk1, hK1⟩); have z0_1 := kept0 HG.out hb1 HX0.out; clear hk1 hK1) | (go_at_call 111; refine (HE.out _ S1.out).mono ?_; rintro x w2 ⟨hb2, u, rfl⟩))
            exact ⟨rfl, Went.dead (HM2.out (by first | rfl | simp)) hb2⟩
          | false =>
            go_wp2_with (first | (go_at_call 105; refine (HT.out _ HST.out).mono ?_; rintro x w1 ⟨hb1, rfl, hk1, hK1⟩; have S1 := Aside0.mk (show St g cap w0 W w1 from ⟨hb1, hk1, hK1⟩); have z0_1 := kept0 HG.out hb1 HX0.out; clear hk1 hK1) | (go_at_call 111; refine (HE.out _ S1.out).mono ?_; rintro x w2 ⟨hb2, rfl, hk2, hK2⟩; have S2 := Aside0.mk (show St g cap w0 W w2 from ⟨hb2, hk2, hK2⟩); clear hk2 hK2))
            go_roundg (l.length - (i + 1))
            case measure => omega
            case rel => exact ⟨i + 1, by simp, rfl, by omega, by rw [HU.out]; first | rfl | simp, S2.out⟩
      rw [if_neg k1] at hpk hsu HM2
      by_cases k3 : s.f0 = 3
      · rw [if_pos k3] at hpk hsu HM2
        rw [List.any_append, List.any_append] at hsu HM2
        have HE := Aside0.mk (expr_stp HSe.out HG.out HW.out hEe (fun x hx => hpk x (by simp [hx])) HL.out)
        have HTh : Aside0 (Stp g cap w0 W 106 #[.pointer (some ⟨g, 0, none⟩), .slice A12 s.f6.length c12, .int .i64 (wrap64 (deep + 1)), .pointer pl] ((S52.thss (wrap64 (deep + 1)) ls s.f6).any bad)) := ⟨fun w ⟨h1, ⟨u, h2⟩, h3⟩ =>
          (IH.out (S52.bulks s.f6) (by have := HN.out; omega) s.f6 A12 c12 (wrap64 (deep + 1)) ls pl w u (Nat.le_refl _) hg12 l12 (fun x hx => hpk x (by simp [hx])) h1 h2 (ScAt.keeps HW.out h3 HL.out)).mono fun _ _ hq => hq.base h3⟩
        have HEl : Aside0 (Stp g cap w0 W 106 #[.pointer (some ⟨g, 0, none⟩), .slice A13 s.f7.length c13, .int .i64 (wrap64 (deep + 1)), .pointer pl] ((S52.thss (wrap64 (deep + 1)) ls s.f7).any bad)) := ⟨fun w ⟨h1, ⟨u, h2⟩, h3⟩ =>
          (IH.out (S52.bulks s.f7) (by have := HN.out; omega) s.f7 A13 c13 (wrap64 (deep + 1)) ls pl w u (Nat.le_refl _) hg13 l13 (fun x hx => hpk x (by simp [hx])) h1 h2 (ScAt.keeps HW.out h3 HL.out)).mono fun _ _ hq => hq.base h3⟩
        generalize (S50.ths ls s.f3).any bad = be at *
        generalize (S52.thss (wrap64 (deep + 1)) ls s.f6).any bad = bh at *
        generalize (S52.thss (wrap64 (deep + 1)) ls s.f7).any bad = bl at *
        rw [k3] at HX0
        have HU := Aside0.mk hsu
        clear hpk hsu hEa hEe hbk hbe k2 k1 k3 g12 g13 hg12 hg13 l12 l13
        cases bt with
        | true =>
          go_wp2_with (first | (go_at_call 105; refine (HT.out _ HST.out).mono ?_; rintro x w1 ⟨hb1, u, rfl⟩))
          exact ⟨rfl, Went.dead (HM2.out (by first | rfl | simp)) hb1⟩
        | false =>
          cases be with
          | true =>
            go_wp2_with (first | (go_at_call 105; refine (HT.out _ HST.out).mono ?_; rintro x w1 ⟨hb1, rfl, hk1, hK1⟩; have S1 := Aside0.mk (show St g cap w0 W w1 from ⟨hb1, hk1, hK1⟩); have z0_1 := kept0 HG.out hb1 HX0.out; clear hk1 hK1) | (go_at_call 111; refine (HE.out _ S1.out).mono ?_; rintro x w2 ⟨hb2, u, rfl⟩))
            exact ⟨rfl, Went.dead (HM2.out (by first | rfl | simp)) hb2⟩
          | false =>
            cases bh with
            | true =>
              have T2 := Aside0.mk trivial
              go_wp2_with (first | (go_at_call 105; refine (HT.out _ HST.out).mono ?_; rintro x w1 ⟨hb1, rfl, hk1, hK1⟩; have S1 := Aside0.mk (show St g cap w0 W w1 from ⟨hb1, hk1, hK1⟩); have z0_1 := kept0 HG.out hb1 HX0.out; clear hk1 hK1) | (go_at_call 111; refine (HE.out _ S1.out).mono ?_; rintro x w2 ⟨hb2, rfl, hk2, hK2⟩; have S2 := Aside0.mk (show St g cap w0 W w2 from ⟨hb2, hk2, hK2⟩); have z12_2 := kept0 HG.out hb2 HX12.out; clear hk2 hK2) | (clear T2; go_at_call 106; refine (HTh.out _ S2.out).mono ?_; rintro x w3 ⟨hb3, u, rfl⟩))
              exact ⟨rfl, Went.dead (HM2.out (by first | rfl | simp)) hb3⟩
            | false =>
              cases bl with
              | true =>
                have T2 := Aside0.mk trivial
                go_wp2_with (first | (go_at_call 105; refine (HT.out _ HST.out).mono ?_; rintro x w1 ⟨hb1, rfl, hk1, hK1⟩; have S1 := Aside0.mk (show St g cap w0 W w1 from ⟨hb1, hk1, hK1⟩); have z0_1 := kept0 HG.out hb1 HX0.out; clear hk1 hK1) | (go_at_call 111; refine (HE.out _ S1.out).mono ?_; rintro x w2 ⟨hb2, rfl, hk2, hK2⟩; have S2 := Aside0.mk (show St g cap w0 W w2 from ⟨hb2, hk2, hK2⟩); have z12_2 := kept0 HG.out hb2 HX12.out; clear hk2 hK2) | (clear T2; go_at_call 106; refine (HTh.out _ S2.out).mono ?_; rintro x w3 ⟨hb3, rfl, hk3, hK3⟩; have S3 := Aside0.mk (show St g cap w0 W w3 from ⟨hb3, hk3, hK3⟩); have z13_3 := kept0 HG.out hb3 HX13.out; clear hk3 hK3) | (go_at_call 106; refine (HEl.out _ S3.out).mono ?_; rintro x w4 ⟨hb4, u, rfl⟩))
                exact ⟨rfl, Went.dead (HM2.out (by first | rfl | simp)) hb4⟩
              | false =>
                have T2 := Aside0.mk trivial
                go_wp2_with (first | (go_at_call 105; refine (HT.out _ HST.out).mono ?_; rintro x w1 ⟨hb1, rfl, hk1, hK1⟩; have S1 := Aside0.mk (show St g cap w0 W w1 from ⟨hb1, hk1, hK1⟩); have z0_1 := kept0 HG.out hb1 HX0.out; clear hk1 hK1) | (go_at_call 111; refine (HE.out _ S1.out).mono ?_; rintro x w2 ⟨hb2, rfl, hk2, hK2⟩; have S2 := Aside0.mk (show St g cap w0 W w2 from ⟨hb2, hk2, hK2⟩); have z12_2 := kept0 HG.out hb2 HX12.out; clear hk2 hK2) | (clear T2; go_at_call 106; refine (HTh.out _ S2.out).mono ?_; rintro x w3 ⟨hb3, rfl, hk3, hK3⟩; have S3 := Aside0.mk (show St g cap w0 W w3 from ⟨hb3, hk3, hK3⟩); have z13_3 := kept0 HG.out hb3 HX13.out; clear hk3 hK3) | (go_at_call 106; refine (HEl.out _ S3.out).mono ?_; rintro x w4 ⟨hb4, rfl, hk4, hK4⟩; have S4 := Aside0.mk (show St g cap w0 W w4 from ⟨hb4, hk4, hK4⟩); clear hk4 hK4))
                go_roundg (l.length - (i + 1))
                case measure => omega
                case rel => exact ⟨i + 1, by simp, rfl, by omega, by rw [HU.out]; first | rfl | simp, S4.out⟩
      rw [if_neg k3] at hpk hsu HM2
      by_cases k4 : s.f0 = 4
      · rw [if_pos k4] at hpk hsu HM2
        have HF : Aside0 (∀ w w2 n x, w2 = (w.alloc (.cells #[.string s.f1, .pointer pl] 113)).drew → n = w.heap.size → x = wrap64 (deep + 1) → St g cap w0 W w → Calls Tryz.prog 106 #[.pointer (some ⟨g, 0, none⟩), .slice A12 s.f6.length c12, .int .i64 x, .pointer (some ⟨n, 0, none⟩)] w2 fun e w' => Went g cap w0 W ((S52.thss (wrap64 (deep + 1)) (s.f1 :: ls) s.f6).any bad) e w') := ⟨fun w w2 n x hw2 hn hx ⟨h1, ⟨u, h2⟩, h3⟩ => by
          subst hw2 hn hx
          have hB := below_drew1 (below_alloc (Below.refl w.heap.size w) (.cells #[.string s.f1, .pointer pl] 113))
          obtain ⟨h4, ⟨u', h5⟩, h6⟩ := St.below (show St g cap w0 W w from ⟨h1, ⟨u, h2⟩, h3⟩) hB
          refine (IH.out (S52.bulks s.f6) (by have := HN.out; omega) s.f6 A12 c12 (wrap64 (deep + 1)) (s.f1 :: ls) (some ⟨w.heap.size, 0, none⟩) _ u' (Nat.le_refl _) hg12 l12 (fun x hx => hpk x (by simp [hx])) h4 h5 ⟨w.heap.size, pl, rfl, by simp [go_sem], by simp [go_sem], ScAt_below (ScAt.keeps HW.out h3 HL.out) hB⟩).mono fun _ _ hq => hq.base h6⟩
        generalize (S52.thss (wrap64 (deep + 1)) (s.f1 :: ls) s.f6).any bad = bh at *
        rw [k4] at HX0
        have HU := Aside0.mk hsu
        clear hpk hsu hEa hEe hbk hbe k2 k1 k3 k4 g12 g13 hg12 hg13 l12 l13
        cases bt with
        | true =>
          go_wp2_with (first | (go_at_call 105; refine (HT.out _ HST.out).mono ?_; rintro x w1 ⟨hb1, u, rfl⟩))
          exact ⟨rfl, Went.dead (HM2.out (by first | rfl | simp)) hb1⟩
        | false =>
          cases bh with
          | true =>
            go_wp2_with (first | (go_at_call 105; refine (HT.out _ HST.out).mono ?_; rintro x w1 ⟨hb1, rfl, hk1, hK1⟩; have S1 := Aside0.mk (show St g cap w0 W w1 from ⟨hb1, hk1, hK1⟩); have z0_1 := kept0 HG.out hb1 HX0.out; have z1_1 := kept0 HG.out hb1 HX1.out; have z12_1 := kept0 HG.out hb1 HX12.out; clear hk1 hK1))
            have y12 := kept_cell (below_alloc (Below.refl w1.heap.size w1) (.cells #[.string s.f1, .pointer pl] 113)) z12_1
            go_region_with (go_at_call 106; refine (HF.out w1 _ _ _ ?hw ?hn ?hx ?hs).mono ?_; (case hw => rfl); (case hn => rfl); (case hx => exact wrap64_of _); (case hs => exact S1.out); rintro x w2 ⟨hb2, u, rfl⟩; refine (fun (_ : wpAny Tryz.prog Region.Mode.any #[] (fun _ _ _ => True) 0 #[] { tmps := #[], defers := [] } w2) => ⟨rfl, Went.dead (HM2.out (by first | rfl | simp)) hb2⟩) ?_)
            all_goals trivial
          | false =>
            go_wp2_with (first | (go_at_call 105; refine (HT.out _ HST.out).mono ?_; rintro x w1 ⟨hb1, rfl, hk1, hK1⟩; have S1 := Aside0.mk (show St g cap w0 W w1 from ⟨hb1, hk1, hK1⟩); have z0_1 := kept0 HG.out hb1 HX0.out; have z1_1 := kept0 HG.out hb1 HX1.out; have z12_1 := kept0 HG.out hb1 HX12.out; clear hk1 hK1))
            have y12 := kept_cell (below_alloc (Below.refl w1.heap.size w1) (.cells #[.string s.f1, .pointer pl] 113)) z12_1
            go_region_with (go_at_call 106; refine (HF.out w1 _ _ _ ?hw ?hn ?hx ?hs).mono ?_; (case hw => rfl); (case hn => rfl); (case hx => exact wrap64_of _); (case hs => exact S1.out); rintro x w2 ⟨hb2, rfl, hk2, hK2⟩; have S2 := Aside0.mk (show St g cap w0 W w2 from ⟨hb2, hk2, hK2⟩); clear hb2 hk2 hK2)
            all_goals go_wp2_with fail
            all_goals (go_roundg (l.length - (i + 1)); (case measure => omega); (case rel => exact ⟨i + 1, by simp, rfl, by omega, by rw [HU.out]; first | rfl | simp, S2.out⟩))
      rw [if_neg k4] at hpk hsu HM2
      have e2 : (s.f0 == 2) = false := by simpa using k2
      have e1 : (s.f0 == 1) = false := by simpa using k1
      have e3 : (s.f0 == 3) = false := by simpa using k3
      have e4 : (s.f0 == 4) = false := by simpa using k4
      have HU := Aside0.mk hsu
      clear hpk hsu hEa hEe hbk hbe k2 k1 k3 k4 g12 g13 hg12 hg13 l12 l13
      cases bt with
      | true =>
        go_wp2_with (first | (go_at_call 105; refine (HT.out _ HST.out).mono ?_; rintro x w1 ⟨hb1, u, rfl⟩))
        exact ⟨rfl, Went.dead (HM2.out (by first | rfl | simp)) hb1⟩
      | false =>
        go_wp2_with (first | (go_at_call 105; refine (HT.out _ HST.out).mono ?_; rintro x w1 ⟨hb1, rfl, hk1, hK1⟩; have S1 := Aside0.mk (show St g cap w0 W w1 from ⟨hb1, hk1, hK1⟩); have z0_1 := kept0 HG.out hb1 HX0.out; clear hk1 hK1))
        go_roundg (l.length - (i + 1))
        case measure => omega
        case rel => exact ⟨i + 1, by simp, rfl, by omega, by rw [HU.out]; first | rfl | simp, S1.out⟩
    · have hlt' : ¬ ((i : Int) < (l.length : Int)) := by omega
      have hie : i = l.length := by omega
      subst hie
      rw [List.take_length] at hs0
      have H2 := Aside0.mk hs0
      clear hs0
      go_wp2_with fail
      refine bodyPost_end (results_none rfl _ _ _) rfl ?_
      rw [H2.out]
      obtain ⟨h1, h2, h3⟩ := HST.out
      exact ⟨h1, rfl, h2, h3⟩
end Go.Proofs.YtjomofepephodaaGreat.PEquivShapes
