/-
  A call of a script, noted in the book: Add; and every call. Conditions: those each theorem names.
-/
import Derived.Test.YtaileihnkmjfiaaD4
namespace Go.Proofs.Ytaileihnkmjfiaa
open Go.RowKit

/-- the book's clauses, longer by one -/
theorem Stand.pushCl {base : Nat} {w0 w w1 : World} {b bb : Nat} {G GB : GH} {S : ES} {B : BK} {d dO : RD} (h : Stand base w0 w b bb G GB S B) (c : List Int) (hO : Rw w 3 1 dO) (hOn : dO.n = c.length) (hOx : dO.xs = Go.Proofs.Ytaileihnkmjfiaa.ints c)
    (hOg : ∀ g, dO.g = some g → ¬ ft G g ∧ ¬ fo GB g ∧ base ≤ g)
    (hrw : Rw w1 28 1 d) (hn : d.n = B.cl.length + 1) (hx : d.xs = rowsOf GB 0 B.cl ++ [sv dO.g dO.n dO.cap]) (hg : d.g = GB.g (.inl 1) ∨ ∀ k, d.g = some k → w.heap.size ≤ k) (hgr : w.grownBy w1 (GB.g (.inl 1))) :
    Stand base w0 (w1.setCell ⟨bb, 0, none⟩ d.v) b bb G ((GB.upd (.inl 1) d).upd (.inr (0, B.cl.length)) dO) S { B with cl := B.cl ++ [c] } := by
  obtain ⟨E, T, F⟩ := h.book.push 0 c hO hOn hOx (fun g hg => (hOg g hg).2.1) hrw hn hx hg hgr rfl
  have sz := h.size
  refine ⟨h.eng.apart T h.apart, E, fun x hx hf => ?_, h.ge, fun x hx => ?_, h.below.trans (T.below h.geb h.size), Nat.le_trans h.size T.size⟩
  · rcases F x hf with h1 | h1 | h1
    · exact h.apart x hx h1
    · have := h.eng.flt hx; omega
    · exact (hOg x h1).1 hx
  · rcases F x hx with h1 | h1 | h1
    · exact h.geb x h1
    · omega
    · exact (hOg x h1).2.2

theorem ints_cells {w : World} {c : List Int} {ao : Option Addr} {cb co : Nat} (hao : 0 < c.length → ao = some ⟨cb, co, none⟩) (hcells : ∀ k, k < c.length → w.cell? ⟨cb, co + k, none⟩ = some (i64 (c.getD k 0))) :
    ∀ a, ao = some a → ∀ j u, (ints c)[j]? = some u → w.cell? (a.add j) = some u := by
  intro a ha j u hu
  obtain ⟨rfl, hj⟩ := ints_get c j u hu
  have e := hao (by omega)
  rw [ha] at e
  obtain rfl := Option.some.inj e
  rw [Addr.add_lit]
  exact hcells j hj

set_option maxHeartbeats 4000000 in
theorem does_add {A t base : Nat} {w0 w : World} {b bb : Nat} {G GB : GH} {S : ES} {B : BK} (num : Int) (v : Value) (c : List Int) (h : Stand base w0 w b bb G GB S B) (hS : S.Live A t) (hA : A ≤ 1048576) (ht : t ≤ 2097152)
    (hB : B.cl.length ≤ 1048576) (hb0 : w0.heap.size = base) (hv : IntsAt w0 v c) (hc : S.cs.length + S.lits + (c.length + 1) ≤ A) :
    Calls Try.prog 14 #[.pointer (some ⟨bb, 0, none⟩), .pointer (some ⟨b, 0, none⟩), .agg #[i64 1, i64 num, v]] w (DoesEnd base w0 b bb (S.add c).1 (if (S.add c).2 = 0 then { B with cl := B.cl ++ [c] } else B)) := by
  obtain ⟨i0, hi0, hz0, hz1, hz2⟩ := info_parts Try.info3
  obtain ⟨j0, hj0, jz0, jz1, jz2⟩ := info_parts Try.info28
  have H1 := h.alloc (.cells #[i64 1, i64 num, v] 33)
  obtain ⟨ao, cap, rfl, hcap, hmax, hcell⟩ := hv
  have hv : IntsAt w0 (.slice ao c.length cap) c := ⟨ao, cap, rfl, hcap, hmax, hcell⟩
  obtain ⟨cb, co, hao⟩ : ∃ cb co, 0 < c.length → ao = some ⟨cb, co, none⟩ := by
    by_cases h0 : 0 < c.length
    · obtain ⟨cb, co, e, _⟩ := hcell h0
      exact ⟨cb, co, fun _ => e⟩
    · exact ⟨0, 0, fun hh => absurd hh h0⟩
  have hcells : ∀ w', Stand base w0 w' b bb G GB S B → ∀ k, k < c.length → w'.cell? ⟨cb, co + k, none⟩ = some (i64 (c.getD k 0)) := by
    intro w' h' k hk
    obtain ⟨ao', cap', e', _, _, h4⟩ := h'.reads hb0 hv
    obtain ⟨cb', co', e2, h5⟩ := h4 (by omega)
    have e3 := hao (by omega)
    cases e'
    rw [e3] at e2
    cases e2
    exact h5 k hk
  have cA := add_live b G S c ao cb co cap _ H1.eng hS hA ht (by omega) hao (hcells _ H1)
  have hx2 : (w.alloc (.cells #[i64 1, i64 num, .slice ao c.length cap] 33)).cell? ⟨w.heap.size, 2, none⟩ = some (.slice ao c.length cap) := by rw [cell_of_row _ w.heap.size 2 _ _ _ (heap_alloc_new w _)]; rfl
  have hnf : ¬ ft G w.heap.size := fun hf => by have := h.eng.flt hf; omega
  have HC := Lib.hid hcell
  have HV := Lib.hid hv
  have HAo := Lib.hid hao
  clear hcell hv hao hcells
  by_cases hk : (S.add c).2 = 0
  · have HB : Hid ((if (S.add c).2 = 0 then { B with cl := B.cl ++ [c] } else B) = { B with cl := B.cl ++ [c] }) := by show _ = _; rw [if_pos hk]
    rw [hk] at cA
    rw [HB.out]
    clear hk
    go_enter Try.func14, Try.ntmps14
    go_wp2_with fail
    refine cA.mono ?_
    rintro e w' ⟨rfl, G', E', T'⟩
    have H2 := H1.turned E' T'
    have x2 : w'.cell? ⟨w.heap.size, 2, none⟩ = some (.slice ao c.length cap) := by rw [T'.cell (by simp) hnf]; exact hx2
    have f0 := H2.book.field (i := 0) (u := sv (GB.g (.inl 1)) B.cl.length (GB.c (.inl 1))) rfl
    unfold sv at f0
    clear cA hx2
    have hnb : w.heap.size < w'.heap.size := by have := T'.size; simp at this; omega
    have x2a : (w'.alloc (.cells #[] 3)).cell? ⟨w.heap.size, 2, none⟩ = some (.slice ao c.length cap) := (World.cell?_alloc_lt _ _ _ hnb).trans x2
    have H2a := H2.alloc (.cells #[] 3)
    have f0a : (w'.alloc (.cells #[] 3)).cell? ⟨bb, 0, none⟩ = some (.slice (Option.map (fun g => { block := g, off := 0 }) (GB.g (.inl 1))) B.cl.length (GB.c (.inl 1))) := H2a.book.field (i := 0) rfl
    have RM : Rw (w'.alloc (.cells #[] 3)).drew 3 1 ⟨some w'.heap.size, 0, 0, []⟩ := (Rw.new (n := 0) (sz := 1) (heap_alloc_new w' (.cells #[] 3)) rfl (by simp [maxLen])).drew
    have hcl : c.length ≤ 1048576 := by omega
    have hb1 : 0 + c.length ≤ maxLen := by simp only [maxLen]; omega
    have hb2 : (0 + c.length) * 8 ≤ 140737488355328 := by omega
    have hb3 : B.cl.length + 1 ≤ maxLen := by simp only [maxLen]; omega
    have hb4 : (B.cl.length + 1) * 24 ≤ 140737488355328 := by omega
    have hao0 : ao = none → c.length = 0 := by
      intro e
      rcases Nat.eq_zero_or_pos c.length with h0 | h0
      · exact h0
      · rw [HAo.out h0] at e; cases e
    have hnews : ∀ a, ao = some a → ∀ j u, (ints c)[j]? = some u → (w'.alloc (.cells #[] 3)).drew.cell? (a.add j) = some u := by
      refine ints_cells (cb := cb) (co := co) HAo.out fun k hk => ?_
      obtain ⟨ao', cap', e', _, _, h4⟩ := H2a.drew.reads hb0 HV.out
      obtain ⟨cb', co', e2, h5⟩ := h4 (by omega)
      have e3 := HAo.out (by omega)
      cases e'
      rw [e3] at e2
      cases e2
      exact h5 k hk
    go_upto_region 4 with (fail)
    go_region_law ((first
      | (refine step_append_rw rfl (.tmp 20) (.tmp 22) 28 rfl 3 i0 (.int .i64 0) 1 8 Try.underlying28 hi0 hz0 hz1 hz2 rfl (by decide) ⟨some w'.heap.size, 0, 0, []⟩ rfl RM ao c.length cap (ints c) rfl (by simp [ints]) hao0 hnews (ints_one c) hb1 hb2 ?_; intro d1 w1 rw1 en1 ex1 eg1 hgr1; have hbl := ((((Below.refl _ w').alloc (Nat.le_refl _) (.cells #[] 3)).drew).grown hgr1 (by simp) (fun k e => by cases e; exact Nat.le_refl _)); have H3 := H2.grown hbl; have H3a := H3.alloc (.cells #[.slice (Option.map (fun g => { block := g, off := 0 }) d1.g) d1.n d1.cap] 28); have R3a := rw1.alloc (.cells #[.slice (Option.map (fun g => { block := g, off := 0 }) d1.g) d1.n d1.cap] 28); have f0b : w1.cell? ⟨bb, 0, none⟩ = some (.slice (Option.map (fun g => { block := g, off := 0 }) (GB.g (.inl 1))) B.cl.length (GB.c (.inl 1))) := H3.book.field (i := 0) rfl; have f0c : (w1.alloc (.cells #[.slice (Option.map (fun g => { block := g, off := 0 }) d1.g) d1.n d1.cap] 28)).cell? ⟨bb, 0, none⟩ = some (.slice (Option.map (fun g => { block := g, off := 0 }) (GB.g (.inl 1))) B.cl.length (GB.c (.inl 1))) := H3a.book.field (i := 0) rfl; have En1 := Lib.hid en1; have Ex1 := Lib.hid ex1; have Eg1 := Lib.hid eg1; have Hbl := Lib.hid hbl; clear en1 ex1 eg1 hbl)
      | (refine step_append_rw rfl (.tmp 19) (.tmp 24) 27 rfl 28 j0 (.slice none 0 0) 1 24 Try.underlying27 hj0 jz0 jz1 jz2 rfl (by decide) ⟨GB.g (.inl 1), GB.c (.inl 1), B.cl.length, rowsOf GB 0 B.cl⟩ rfl H3a.book.row1 (some ⟨w1.heap.size, 0, none⟩) 1 1 [.slice (Option.map (fun g => { block := g, off := 0 }) d1.g) d1.n d1.cap] rfl rfl (fun h => by cases h) (new_one w1 _ 28) (one_slice _ _ _) hb3 hb4 ?_; intro d2 w2 rw2 en2 ex2 eg2 hgr2; have Rw2 := Lib.hid rw2; have En2 := Lib.hid en2; have Ex2 := Lib.hid ex2; have Eg2 := Lib.hid eg2; have Hgr2 := Lib.hid hgr2; obtain ⟨y1, y2⟩ := H3a.book.mid (r := .inl 1) (by simp) rfl hgr2 (i := 0) (u := sv (GB.g (.inl 1)) B.cl.length (GB.c (.inl 1))) rfl; clear en2 ex2 eg2 hgr2 rw2)))
    all_goals
      have hge : ∀ g, d1.g = some g → w'.heap.size ≤ g := by
        intro g hg
        rcases Eg1.out with e | e
        · rw [e] at hg; cases hg; exact Nat.le_refl _
        · rw [e] at hg; cases hg; simp
      have E := H3a.pushCl c R3a (by simpa using En1.out) (by simpa using Ex1.out)
        (fun g hg => ⟨fun hf => by have := H2.eng.flt hf; have := hge g hg; omega, fun hf => by have := H2.book.flt hf; have := hge g hg; omega, by have := H2.size; have := hge g hg; omega⟩)
        Rw2.out En2.out Ex2.out (le_of_new' Eg2.out rfl (Nat.le_refl _)) Hgr2.out
      clear hge
      go_wp2_with fail
      go_end0
      exact ⟨rfl, G', _, E⟩
  · have HB : Hid ((if (S.add c).2 = 0 then { B with cl := B.cl ++ [c] } else B) = B) := by show _ = _; rw [if_neg hk]
    rw [HB.out]
    have hk : ((S.add c).2 == 0) = false := by simpa using hk
    generalize (S.add c).2 = z at *
    go_enter Try.func14, Try.ntmps14
    go_wp2_with fail
    refine cA.mono ?_
    rintro e w' ⟨rfl, G', E', T'⟩
    have H2 := H1.turned E' T'
    go_wp2_with fail
    go_end0
    exact ⟨rfl, G', GB, H2⟩

/-- a call of a script -/
theorem does_any {A t base : Nat} {w0 w : World} {b bb : Nat} {G GB : GH} {S : ES} {B : BK} (o : OpD) (v : Value) (h : Stand base w0 w b bb G GB S B) (hS : S.Live A t) (hA : A ≤ 1048576) (ht : t ≤ 2097152)
    (hB : B.cl.length ≤ 1048576 ∧ B.dc.length ≤ 1048576) (hb0 : w0.heap.size = base) (hv : IntsAt w0 v o.lits) (hc : S.cs.length + S.lits + (o.lits.length + 1) ≤ A) :
    Calls Try.prog 14 #[.pointer (some ⟨bb, 0, none⟩), .pointer (some ⟨b, 0, none⟩), .agg #[i64 o.kind, i64 o.num, v]] w (DoesEnd base w0 b bb (S.doS o) (S.doB B o)) := by
  unfold ES.doS ES.doB
  by_cases k1 : o.kind = 1
  · rw [if_pos k1, if_pos k1, k1]
    exact does_add o.num v o.lits h hS hA ht hB.1 hb0 hv hc
  · rw [if_neg k1, if_neg k1]
    by_cases k2 : o.kind = 2
    · rw [if_pos k2, if_pos k2, k2]
      exact does_decide o.num v h hS hA ht hB.2
    · rw [if_neg k2, if_neg k2]
      by_cases k3 : o.kind = 3
      · rw [if_pos k3, if_pos k3, k3]
        exact does_prop o.num v h hS hA ht
      · rw [if_neg k3, if_neg k3]
        by_cases k4 : o.kind = 4
        · rw [if_pos k4, if_pos k4, k4]
          exact does_back o.num v h hS hA ht hB.2
        · rw [if_neg k4, if_neg k4]
          exact does_none o.kind o.num v h hS hA ht (by simpa using k1) (by simpa using k2) (by simpa using k3) (by simpa using k4)
end Go.Proofs.Ytaileihnkmjfiaa
