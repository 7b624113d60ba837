/-
  The book's looks at an engine: conflict and reasoned answer true. Conditions: those each theorem names.
-/
import Derived.Test.YtaileihnkmjfiaaN1
import Derived.Test.YtaileihnkmjfiaaD5
namespace Go.Proofs.Ytaileihnkmjfiaa
open Go.RowKit

theorem Stand.drawn {base : Nat} {w0 w w' : World} {b bb : Nat} {G GB : GH} {S : ES} {B : BK} (h : Stand base w0 w b bb G GB S B) (d : Drawn w w') : Stand base w0 w' b bb G GB S B := by
  obtain ⟨m, rfl⟩ := d
  exact h.drewN m

def StillStand (base : Nat) (w0 : World) (b bb : Nat) (GB : GH) (S : ES) (B : BK) (e : Ending) (w' : World) : Prop := e = .returned (.bool true) ∧ ∃ G', Stand base w0 w' b bb G' GB S B

set_option maxHeartbeats 4000000 in
theorem book_conflict {A t base : Nat} {w0 w : World} {b bb : Nat} {G GB : GH} {S : ES} {B : BK} (h : Stand base w0 w b bb G GB S B) (hS : S.Live A t) (ha : ES.Agree S B) (v : Value) (hv : IntsAt w v S.tr) :
    Calls Try.prog 31 #[.pointer (some ⟨bb, 0, none⟩), .pointer (some ⟨b, 0, none⟩), v] w (StillStand base w0 b bb GB S B) := by
  have hok := hS.good.inv.ok
  have cC := conflict_any b G S w h.eng hok
  by_cases hcl0 : S.conflict.length = 0
  · have HCL := Lib.hid hcl0
    clear hcl0
    go_enter Try.func31, Try.ntmps31
    go_wp2_with fail
    refine cC.mono ?_
    rintro e w1 ⟨d, rfl, rw1, hdn, hdx, hdg, hbl⟩
    have H1 := Lib.hid (h.grown hbl)
    have hdv : d.v = .slice (Option.map (fun g => { block := g, off := 0 }) d.g) 0 d.cap := by unfold RD.v sv; rw [hdn, HCL.out]
    rw [hdv]
    clear cC hdn hdx hdg hbl rw1 hdv
    go_wp2_with fail
    go_ret
    exact ⟨rfl, G, H1.out⟩
  · have hne : S.clash ≠ 0 := by
      intro hc
      apply hcl0
      unfold ES.conflict
      rw [if_pos hc]; rfl
    have hcf : S.conflict = S.cs.getD (S.clash - 1) [] := by unfold ES.conflict; rw [if_neg hne]
    have hle := hok.clash_le
    have hmem : S.conflict ∈ B.cl := by rw [hcf, ha.cl]; exact getD_mem' [] (by omega)
    have hlen : S.conflict.length ≤ 65536 := hok.cl_len _ (by rw [← ha.cl]; exact hmem)
    have hfalse : ∀ l, l ∈ S.conflict → -l ∈ S.tr := by rw [hcf]; exact hS.good.inv.clash_false hne
    have hlit : ∀ l, l ∈ S.conflict → -1048576 ≤ l ∧ l ≤ 1048576 := by
      intro l hl
      have := hok.lits _ (by rw [← ha.cl]; exact hmem) l hl
      have := hok.n_le
      omega
    have hone := oneB_of_mem hmem
    have hdec : (S.decide' 1).1 = S ∧ ((S.decide' 1).2 != 0) = true := by
      unfold ES.decide'
      by_cases h1 : S.isLit 1
      · rw [if_neg (fun hh => hh h1), if_pos hne]; exact ⟨rfl, rfl⟩
      · rw [if_pos h1]; exact ⟨rfl, rfl⟩
    generalize S.conflict = c at *
    have Hfalse := Lib.hid hfalse
    have Hlit := Lib.hid hlit
    have Hone := Lib.hid hone
    have Hdec := Lib.hid hdec
    have hcl0' : ((c.length : Int) == 0) = false := by simpa using hcl0
    clear hfalse hlit hone hdec hcl0 hne hcf hmem
    go_enter Try.func31, Try.ntmps31
    go_wp2_with fail
    refine cC.mono ?_
    rintro e w1 ⟨d, rfl, rw1, hdn, hdx, hdg, hbl⟩
    have H1 := h.grown hbl
    obtain ⟨bo, dcap, hdv, k2, k3, k4⟩ := rw1.reads hdn hdx
    unfold maxLen at k3
    have hI : IntsAt w1 (.slice bo c.length dcap) c := ⟨bo, dcap, rfl, k2, k3, k4⟩
    have HI := Lib.hid hI
    have hv1 := Lib.hid (hv.below hbl)
    rw [hdv]
    have K4 := Lib.hid k4
    clear cC k4 hdn hdx hdg hbl rw1 hdv hI
    go_wp2_with fail
    go_loop [8] (fun s8 => ∃ k : Nat, k ≤ c.length ∧ s8 = .int .i64 (k : Nat)) (fun s8 => c.length - (intOf s8).toNat)
    case atStart => exact ⟨0, Nat.zero_le _, rfl⟩
    case round =>
      obtain ⟨k, hk, rfl⟩ := hrel
      by_cases hkl : k < c.length
      · obtain ⟨cb, co, rfl, hc⟩ := K4.out (by omega)
        have e := hc k hkl
        have hkl' : (k : Int) < (c.length : Int) := by omega
        have hx := Hlit.out _ (getD_mem' 0 hkl)
        have hf := Hfalse.out _ (getD_mem' 0 hkl)
        have cH := has_any v S.tr (-(c.getD k 0)) w1 hv1.out
        rw [decide_eq_true hf] at cH
        have Hc := Lib.hid hc
        generalize c.getD k 0 = x at *
        clear hc hf
        go_wp2_with (go_at_call 29; refine cH.mono ?_; rintro e w' ⟨rfl, rfl⟩)
        go_round
        case rel => exact ⟨k + 1, by omega, by go_num⟩
        case measure => simp [intOf]; omega
      · obtain rfl : k = c.length := by omega
        have hkl' : ¬ ((c.length : Int) < (c.length : Int)) := by omega
        have f0 := H1.book.field (i := 0) (u := sv (GB.g (.inl 1)) B.cl.length (GB.c (.inl 1))) rfl
        unfold sv at f0
        have hrow : RowsAt w1 (.slice (Option.map (fun g => { block := g, off := 0 }) (GB.g (.inl 1))) B.cl.length (GB.c (.inl 1))) B.cl := H1.book.reads
        have cO := one_any _ _ B.cl c w1 hrow HI.out
        rw [Hone.out] at cO
        clear hrow
        go_wp2_with fail
        refine cO.mono ?_
        rintro e w2 ⟨rfl, hdr⟩
        have H2 := H1.drawn hdr
        have cD := decide_live b G S 1 w2 H2.eng hS
        rw [Hdec.out.1] at cD
        have hd2 := Hdec.out.2
        generalize (S.decide' 1).2 = z at *
        clear cO hdr f0
        go_wp2_with fail
        refine cD.mono ?_
        rintro e w3 ⟨rfl, G3, E3, T3⟩
        have H3 := Lib.hid (H2.turned E3 T3)
        clear cD
        go_wp2_with fail
        go_ret
        exact ⟨rfl, G3, H3.out⟩
end Go.Proofs.Ytaileihnkmjfiaa
