/-
  The book's look at one literal of the trail: reasoned answers true. Conditions: those each theorem names.
-/
import Derived.Test.YtaileihnkmjfiaaN2
namespace Go.Proofs.Ytaileihnkmjfiaa
open Go.RowKit

/-- true, and nothing that was there has turned -/
def StillGrown (w : World) (e : Ending) (w' : World) : Prop := e = .returned (.bool true) ∧ Below w.heap.size w w'

set_option maxHeartbeats 8000000 in
set_option maxRecDepth 100000 in
theorem book_reasoned {base : Nat} {w0 w : World} {b bb : Nat} {G GB : GH} {S : ES} {B : BK} {i lev : Nat} {l : Int} {v : Nat} (h : Stand base w0 w b bb G GB S B) (hg : S.Good) (ht : Told S B i l v lev) (vs : Value) (hv : IntsAt w vs (S.tr.take i)) (ha : ES.Agree S B) :
    Calls Try.prog 30 #[.pointer (some ⟨bb, 0, none⟩), .pointer (some ⟨b, 0, none⟩), i64 l, vs] w (StillGrown w) := by
  have hok := hg.inv.ok
  have hdl : B.dc.length = S.mks.length := by rw [ha.dc, ES.decs_len]
  have HA := Lib.hid ha
  clear ha
  have hnl := hok.n_le
  have hd1 : decide (l ∈ S.tr.take i) = false := by simpa using ht.new1
  have hd2 : decide (-l ∈ S.tr.take i) = false := by simpa using ht.new2
  generalize hsl : S.tr.take i = sl at *
  have cH := fun (x : Int) n => quiet_l (has_any vs sl x (w.drewN n) (hv.drewN n))
  have cV := fun n => quiet_l (value_any b G S (v : Int) (w.drewN n) (h.eng.drewN (k := n)) hok.dim)
  rw [ht.val] at cV
  have hpos := ht.pos
  have hrng := ht.rng
  have habs := ht.abs
  have Ht := Lib.hid ht
  have Hsl := Lib.hid hsl
  clear ht hsl
  have hv1 : 1 ≤ (v : Int) := by omega
  have hv2 : (v : Int) ≤ 1048576 := by omega
  have hnz : (l == 0) = false := by simp; exact Ht.out.nz
  have hq : l.tdiv (v : Int) = ES.sg l := by
    rcases sg_cases Ht.out.nz with ⟨a, b, c⟩ | ⟨a, b, c⟩
    · rw [b, show l = (v : Int) by omega]; exact Int.tdiv_self (by omega)
    · rw [b, show l = -(v : Int) by omega, Int.neg_tdiv]
      rw [Int.tdiv_self (by omega)]
  have hsgr : -1 ≤ ES.sg l ∧ ES.sg l ≤ 1 := by rcases sg_cases Ht.out.nz with ⟨a, b, c⟩ | ⟨a, b, c⟩ <;> rw [b] <;> decide
  have hlr : -1048576 ≤ l ∧ l ≤ 1048576 := by omega
  have Habs := Lib.hid habs
  clear habs hpos
  go_enter Try.func30, Try.ntmps30
  go_upto_if 15 with (fail)
  go_cut [9] (fun s9 wx => s9 = .int .i64 (v : Nat) ∧ w = wx)
  case first =>
    by_cases hneg : l < 0
    · have hl : l = -(v : Int) := by have := Habs.out; omega
      clear hq hsgr hnz hd1 hd2 hlr hneg
      subst hl
      go_wp2_with fail
      go_meet
      exact ⟨rfl, rfl⟩
    · have hl : l = (v : Int) := by have := Habs.out; omega
      clear hq hsgr hnz hd1 hd2 hlr hneg
      subst hl
      go_wp2_with fail
      go_meet
      exact ⟨rfl, rfl⟩
  case rest =>
    obtain ⟨rfl, rfl⟩ := hcut
    have HD := fun k => h.drewN k
    have HVn := fun k => hv.drewN k
    have Hv0 := Lib.hid hv
    go_wp2_with fail
    go_quiet ((first | (go_at_call 29; exact cH _ _) | (go_at_call 36; exact cV _)))
    obtain ⟨n1, rfl⟩ : ∃ m, m = nq := ⟨_, rfl⟩
    have H1 := HD n1
    have hv1' := HVn n1
    have hb1 : Below w.heap.size w (w.drewN n1) := bdrewN (Below.refl _ _)
    clear HD HVn cH cV hq hv Hv0 hd1 hd2 h
    generalize w.drewN n1 = w1 at *
    have HVs := Lib.hid hv1'
    have cL := levelOf_any b G S (v : Int) w1 H1.eng hok.dim
    rw [Ht.out.lev_eq] at cL
    have cV2 := level_any b G S w1 H1.eng
    have hll : (lev : Int) ≤ (S.mks.length : Int) := by have := Ht.out.lev_le; omega
    have hml := hok.mks_len
    have htl := hok.tr_len
    have hdl' : (B.dc.length : Int) = (S.mks.length : Int) := by omega
    have f1 := H1.book.field (i := 1) (u := sv (GB.g (.inl 3)) B.dc.length (GB.c (.inl 3))) rfl
    unfold sv at f1
    have hll2 : (lev : Int) ≤ (B.dc.length : Int) := by omega
    have hdc2 : (B.dc.length : Int) ≤ 1048576 := by omega
    have hm2 : (S.mks.length : Int) ≤ 1048576 := by omega
    have HDL := Lib.hid hdl
    have cR := reason_any b G S (v : Int) w1 H1.eng hok
    have Hwhy := Lib.hid Ht.out.why
    generalize S.reason (v : Int) = r at *
    clear hdl hdl' hv1' hsgr
    go_wp2_with (first | (go_at_call 28; refine cL.mono ?_; rintro e w' ⟨rfl, rfl⟩) | (go_at_call 47; refine cV2.mono ?_; rintro e w' ⟨rfl, rfl⟩))
    refine cR.mono ?_
    rintro e w2 ⟨d, rfl, rw1, hdn, hdx, hdg, hbl⟩
    have H2 := H1.grown hbl
    have Hb2 := Lib.hid (hb1.trans (hbl.mono hb1.size))
    clear hb1
    have hvs2 := Lib.hid (HVs.out.below hbl)
    have f1b := H2.book.field (i := 1) (u := sv (GB.g (.inl 3)) B.dc.length (GB.c (.inl 3))) rfl
    unfold sv at f1b
    have hI := rw1.reads hdn hdx
    have HI := Lib.hid hI
    obtain ⟨bo, dcap, hdv, k2, k3, k4⟩ := hI
    unfold maxLen at k3
    rw [hdv] at HI ⊢
    have K4 := Lib.hid k4
    clear cL cV2 cR f1 k4 hdn hdx hdg hbl rw1 hdv HVs
    rcases Hwhy.out with ⟨j, hj1, hj2, hj3, hj4⟩ | ⟨hlev, hin, hmem, hoth⟩
    · subst hj4
      subst hj1
      obtain ⟨g2, hg2⟩ := H2.book.l2 (by omega)
      have f1' : w2.cell? ⟨bb, 1, none⟩ = some (.slice (some ⟨g2, 0, none⟩) B.dc.length (GB.c (.inl 3))) := f1b.trans (by rw [hg2]; rfl)
      have ej : w2.cell? ⟨g2, j, none⟩ = some (i64 l) := by rw [H2.book.e2 hg2 (k := j) (u := i64 (B.dc.getD j 0)) (by simp [ints, List.getD, hj2]), hj3]
      have hj0 : 0 ≤ (j : Int) := by omega
      have hj5 : (j : Int) < (B.dc.length : Int) := by omega
      clear f1b hj3 hj2 H1 H2
      go_wp2_with fail
      go_ret
      exact ⟨rfl, Hb2.out⟩
    · have Hin := Lib.hid hin
      have Hmem := Lib.hid hmem
      have Hoth := Lib.hid hoth
      have hrl : ∀ x, x ∈ r → -1048576 ≤ x ∧ x ≤ 1048576 := by
        intro x hx
        have := hok.lits r (by rw [← HA.out.cl]; exact hmem) x hx
        omega
      have Hrl := Lib.hid hrl
      have cHr := has_any (.slice bo r.length dcap) r l w2 HI.out
      rw [decide_eq_true hin] at cHr
      have f0b := H2.book.field (i := 0) (u := sv (GB.g (.inl 1)) B.cl.length (GB.c (.inl 1))) rfl
      unfold sv at f0b
      have hrow : RowsAt w2 (.slice (Option.map (fun g => { block := g, off := 0 }) (GB.g (.inl 1))) B.cl.length (GB.c (.inl 1))) B.cl := H2.book.reads
      have cO := one_any _ _ B.cl r w2 hrow HI.out
      rw [oneB_of_mem hmem] at cO
      have hrlen : (r.length : Int) ≤ 65536 := by have := hok.cl_len r (by rw [← HA.out.cl]; exact hmem); omega
      have HH := Lib.hid H2
      clear hin hmem hoth hrl hrow H1
      rcases hlev with hlev | ⟨j, hlev, hj2, hj3⟩
      case' inl =>
        subst hlev
        clear H2
        go_wp2_with fail
      case' inr =>
        subst hlev
        obtain ⟨g2, hg2⟩ := H2.book.l2 (by omega)
        have f1' : w2.cell? ⟨bb, 1, none⟩ = some (.slice (some ⟨g2, 0, none⟩) B.dc.length (GB.c (.inl 3))) := f1b.trans (by rw [hg2]; rfl)
        have ej : w2.cell? ⟨g2, j, none⟩ = some (i64 (B.dc.getD j 0)) := H2.book.e2 hg2 (k := j) (u := i64 (B.dc.getD j 0)) (by simp [ints, List.getD, hj2])
        have hjb : (B.dc.getD j 0 == l) = false := by simpa using hj3
        generalize B.dc.getD j 0 = y at *
        have hj0 : 0 ≤ (j : Int) := by omega
        have hj5 : (j : Int) < (B.dc.length : Int) := by omega
        clear f1b hj3 hj2 H2
        go_wp2_with fail
      all_goals
        refine cHr.mono ?_
        rintro e w' ⟨rfl, rfl⟩
        go_wp2_with fail
        refine cO.mono ?_
        rintro e w3 ⟨rfl, hdr⟩
        have H3 := Lib.hid (HH.out.drawn hdr)
        have hvs3 := Lib.hid (hdr.ints hvs2.out)
        have Hdr := Lib.hid hdr
        clear hdr cO cHr
        go_wp2_with fail
        go_loop [12] (fun s12 => ∃ k : Nat, k ≤ r.length ∧ s12 = .int .i64 (k : Nat)) (fun s12 => r.length - (intOf s12).toNat)
        case atStart => exact ⟨0, Nat.zero_le _, rfl⟩
        case round =>
          obtain ⟨k, hk, rfl⟩ := hrel
          by_cases hkl : k < r.length
          · obtain ⟨cb, co, rfl, hc⟩ := K4.out (by omega)
            have e : w3.cell? ⟨cb, co + k, none⟩ = some (i64 (r.getD k 0)) := by obtain ⟨m, rfl⟩ := Hdr.out; exact hc k hkl
            have hkl' : (k : Int) < (r.length : Int) := by omega
            have hmx := getD_mem' (0 : Int) hkl
            have hx := Hrl.out _ hmx
            have hf := Hoth.out _ hmx
            have cH := has_any vs sl (-(r.getD k 0)) w3 hvs3.out
            have Hc := Lib.hid hc
            generalize r.getD k 0 = x at *
            clear hc hmx
            by_cases hxl : x = l
            · have hxb : (x != l) = false := by simpa using hxl
              clear hxl hf
              go_wp2_with fail
              go_round
              case rel => exact ⟨k + 1, by omega, by go_num⟩
              case measure => simp [intOf]; omega
            · have hxb : (x != l) = true := by simpa using hxl
              have hf2 := hf hxl
              rw [Hsl.out] at hf2
              rw [decide_eq_true hf2] at cH
              clear hxl hf hf2
              go_wp2_with (go_at_call 29; refine cH.mono ?_; rintro e w' ⟨rfl, rfl⟩)
              go_round
              case rel => exact ⟨k + 1, by omega, by go_num⟩
              case measure => simp [intOf]; omega
          · obtain rfl : k = r.length := by omega
            have hkl' : ¬ ((r.length : Int) < (r.length : Int)) := by omega
            go_wp2_with fail
            go_ret
            exact ⟨rfl, by obtain ⟨m, rfl⟩ := Hdr.out; exact bdrewN Hb2.out⟩
end Go.Proofs.Ytaileihnkmjfiaa
