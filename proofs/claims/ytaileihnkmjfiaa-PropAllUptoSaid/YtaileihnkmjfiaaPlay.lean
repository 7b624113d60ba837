/-
  Each call of a script over both engines answers alike: step, play, named. Conditions: those each theorem names.
-/
import Derived.Test.YtaileihnkmjfiaaRef
import Derived.Test.YtaileihnkmjfiaaN2
import Derived.Test.YtaileihnkmjfiaaW1
import Derived.Test.YtaileihnkmjfiaaC2
import Derived.Test.YtaileihnkmjfiaaU2
import Derived.Test.YtaileihnkmjfiaaT13
namespace Go.Proofs.Ytaileihnkmjfiaa
open Go.RowKit

structure Pair (base : Nat) (w0 w : World) (b rb : Nat) (G GR : GH) (S : ES) (R : RS) : Prop where
  eng : Eng w b G S
  ref : Rf w rb GR R
  apart : ∀ x, ft G x → ¬ fo GR x
  ge : ∀ x, ft G x → base ≤ x
  ger : ∀ x, fo GR x → base ≤ x
  below : Below base w0 w
  size : base ≤ w.heap.size

section
variable {base : Nat} {w0 w : World} {b rb : Nat} {G GR : GH} {S : ES} {R : RS}
theorem Pair.drew (h : Pair base w0 w b rb G GR S R) : Pair base w0 w.drew b rb G GR S R := ⟨h.eng.drew, h.ref.drew, h.apart, h.ge, h.ger, h.below.drew, h.size⟩
theorem Pair.drewN (h : Pair base w0 w b rb G GR S R) (k : Nat) : Pair base w0 (w.drewN k) b rb G GR S R := ⟨h.eng.drewN, h.ref.drewN, h.apart, h.ge, h.ger, bdrewN h.below, h.size⟩
theorem Pair.drawn {w' : World} (h : Pair base w0 w b rb G GR S R) (d : Drawn w w') : Pair base w0 w' b rb G GR S R := by
  obtain ⟨m, rfl⟩ := d
  exact h.drewN m
theorem Pair.alloc (h : Pair base w0 w b rb G GR S R) (o : Obj) : Pair base w0 (w.alloc o) b rb G GR S R := ⟨h.eng.alloc o, h.ref.alloc o, h.apart, h.ge, h.ger, h.below.alloc h.size o, by have := h.size; simp; omega⟩
theorem Pair.grown (h : Pair base w0 w b rb G GR S R) {w' : World} (hb : Below w.heap.size w w') : Pair base w0 w' b rb G GR S R :=
  ⟨h.eng.below hb, h.ref.below hb, h.apart, h.ge, h.ger, h.below.trans (hb.mono h.size), Nat.le_trans h.size hb.size⟩
/-- behind a call on the engine -/
theorem Pair.turned (h : Pair base w0 w b rb G GR S R) {w' : World} {G' : GH} {S' : ES} (E : Eng w' b G' S') (T : Turned (ft G) w (ft G') w') : Pair base w0 w' b rb G' GR S' R :=
  ⟨E, h.ref.apart T (fun g h1 h2 => h.apart g h2 h1), fun x hx hf => (T.foot x hx).elim (fun h1 => h.apart x h1 hf) (fun h1 => by have := h.ref.flt hf; omega),
   fun x hx => (T.foot x hx).elim (h.ge x) (fun h1 => Nat.le_trans h.size h1), h.ger, h.below.trans (T.below h.ge h.size), Nat.le_trans h.size T.size⟩
/-- behind a call on the document's engine -/
theorem Pair.said (h : Pair base w0 w b rb G GR S R) {w' : World} {GR' : GH} {R' : RS} (E : Rf w' rb GR' R') (T : Turned (fo GR) w (fo GR') w') : Pair base w0 w' b rb G GR' S R' :=
  ⟨h.eng.apart T h.apart, E, fun x hx hf => (T.foot x hf).elim (fun h1 => h.apart x hx h1) (fun h1 => by have := h.eng.flt hx; omega),
   h.ge, fun x hx => (T.foot x hx).elim (h.ger x) (fun h1 => Nat.le_trans h.size h1), h.below.trans (T.below h.ger h.size), Nat.le_trans h.size T.size⟩
/-- behind a step that turns nobody's blocks -/
theorem Pair.other {w' : World} {F F' : Nat → Prop} (h : Pair base w0 w b rb G GR S R) (t : Turned F w F' w') (hF : ∀ k, F k → base ≤ k ∧ ¬ ft G k ∧ ¬ fo GR k) : Pair base w0 w' b rb G GR S R :=
  ⟨h.eng.apart t (fun g h1 h2 => (hF g h2).2.1 h1), h.ref.apart t (fun g h1 h2 => (hF g h2).2.2 h1), h.apart, h.ge, h.ger, h.below.trans (t.below (fun k hk => (hF k hk).1) h.size), Nat.le_trans h.size t.size⟩
theorem Pair.fresh (h : Pair base w0 w b rb G GR S R) {g : Nat} (hg : w.heap.size ≤ g) : base ≤ g ∧ ¬ ft G g ∧ ¬ fo GR g :=
  ⟨Nat.le_trans h.size hg, fun hf => by have := h.eng.flt hf; omega, fun hf => by have := h.ref.flt hf; omega⟩
/-- what came in reads as it did -/
theorem Pair.reads (h : Pair base w0 w b rb G GR S R) (hb : w0.heap.size = base) {v : Value} {c : List Int} (hc : IntsAt w0 v c) : IntsAt w v c := by
  subst hb
  exact hc.below h.below
end

/-- a call of the script has been made: it answered as the document's -/
def Stepped (base : Nat) (w0 : World) (b rb : Nat) (A t : Nat) (S : ES) (e : Ending) (w' : World) : Prop :=
  e = .returned (.bool true) ∧ ∃ G GR R, Pair base w0 w' b rb G GR S R ∧ Alike A t S R

/-- Propagate of the two engines answers alike -/
theorem Alike.propagate {A t : Nat} {S : ES} {R R' : RS} {gr : Bool} (h : Alike A t S R) (hA : A ≤ 1048576) (ht : t ≤ 2097152) (hp : RS.Prop_ R R' gr) : S.propagate.2 = gr ∧ Alike A (t + 1) S.propagate.1 R' := by
  obtain ⟨_, _, L, go, hy, hn⟩ := h.live.propagate hA ht
  cases hb : R.bad with
  | true =>
    obtain ⟨rfl, rfl⟩ := hp.bad hb
    have hc := h.sim.bad.1 hb
    have e : S.propagate = (S, false) := by unfold ES.propagate; rw [if_pos hc]
    rw [e]
    exact ⟨rfl, h.live.up, h.sim, hp.fit⟩
  | false =>
    obtain ⟨e, s⟩ := h.sim.propagate hb h.live.good L.good go hy hn hp
    exact ⟨e.symm, L, s, hp.fit⟩
end Go.Proofs.Ytaileihnkmjfiaa
namespace Go.Proofs.Ytaileihnkmjfiaa
open Go.RowKit

set_option maxHeartbeats 4000000 in
theorem step_none {A t base : Nat} {w0 w : World} {b rb : Nat} {G GR : GH} {S : ES} {R : RS} (kind num : Int) (v : Value) (h : Pair base w0 w b rb G GR S R) (ha : Alike A t S R)
    (k1 : (kind == 1) = false) (k2 : (kind == 2) = false) (k3 : (kind == 3) = false) (k4 : (kind == 4) = false) (k5 : (kind == 5) = false) (k6 : (kind == 6) = false) :
    Calls Try.prog 22 #[.pointer (some ⟨b, 0, none⟩), .pointer (some ⟨rb, 0, none⟩), .agg #[i64 kind, i64 num, v]] w (Stepped base w0 b rb A t S) := by
  have H1 := Lib.hid (h.alloc (.cells #[i64 kind, i64 num, v] 33))
  go_enter Try.func22, Try.ntmps22
  go_wp2_with fail
  go_ret
  exact ⟨rfl, G, GR, R, H1.out, ha⟩

set_option maxHeartbeats 4000000 in
theorem step_prop {A t base : Nat} {w0 w : World} {b rb : Nat} {G GR : GH} {S : ES} {R : RS} (num : Int) (v : Value) (h : Pair base w0 w b rb G GR S R) (ha : Alike A t S R) (hA : A ≤ 1048576) (ht : t ≤ 2097152) :
    Calls Try.prog 22 #[.pointer (some ⟨b, 0, none⟩), .pointer (some ⟨rb, 0, none⟩), .agg #[i64 3, i64 num, v]] w (Stepped base w0 b rb A (t + 1) S.propagate.1) := by
  have H1 := h.alloc (.cells #[i64 3, i64 num, v] 33)
  have cP := propagate_live b G S _ H1.eng ha.live hA ht
  obtain ⟨s1, s2, s3, s4, s5, s6⟩ := ha.small
  have Ha := Lib.hid ha
  go_enter Try.func22, Try.ntmps22
  go_wp2_with fail
  refine cP.mono ?_
  rintro e w' ⟨rfl, G', E', T'⟩
  have H2 := H1.turned E' T'
  have cR := propagate_ref rb GR R w' H2.ref ha.fit s1 s6 (by omega)
  clear cP H1 E' T' ha
  go_wp2_with fail
  refine cR.mono ?_
  rintro e w2 ⟨good, R', GR', rfl, E2, P2, T2⟩
  obtain ⟨hg, ha2⟩ := Ha.out.propagate hA ht P2
  have H3 := Lib.hid (H2.said E2 T2)
  have Hg := Lib.hid hg
  have Ha2 := Lib.hid ha2
  have hb : (S.propagate.2 == good) = true := by rw [hg]; simp
  generalize S.propagate = Q at *
  obtain ⟨Q1, Q2⟩ := Q
  simp only at hb
  clear cR H2 E2 T2 P2 hg ha2
  go_wp2_with fail
  go_ret
  exact ⟨rfl, G', GR', R', H3.out, Ha2.out⟩

set_option maxHeartbeats 8000000 in
theorem step_decide {A t base : Nat} {w0 w : World} {b rb : Nat} {G GR : GH} {S : ES} {R : RS} (num : Int) (v : Value) (h : Pair base w0 w b rb G GR S R) (ha : Alike A t S R) :
    Calls Try.prog 22 #[.pointer (some ⟨b, 0, none⟩), .pointer (some ⟨rb, 0, none⟩), .agg #[i64 2, i64 num, v]] w (Stepped base w0 b rb A (t + 1) (S.decide' num).1) := by
  have H1 := (h.alloc (.cells #[i64 2, i64 num, v] 33)).drew
  have cD := decide_live b G S num _ H1.eng ha.live
  obtain ⟨s1, s2, s3, s4, s5, s6⟩ := ha.small
  obtain ⟨e1, e2, e3⟩ := ha.sim.decideS ha.fit ha.live.good num
  have cR := fun w' (hr : Rf w' rb GR R) => decide_ref rb GR R num w' hr ha.fit (by omega)
  rw [e1] at cR
  have Ha2 : Hid (Alike A (t + 1) (S.decide' num).1 (R.decideR num).1) := ⟨ha.live.decide num, e2, e3⟩
  have hx1 : (w.alloc (.cells #[i64 2, i64 num, v] 33)).cell? ⟨w.heap.size, 1, none⟩ = some (i64 num) := by rw [cell_of_row _ w.heap.size 1 _ _ _ (heap_alloc_new w _)]; rfl
  have hnf : ¬ ft G w.heap.size := fun hf => by have := h.eng.flt hf; omega
  have hsz : w.heap.size < (w.alloc (.cells #[i64 2, i64 num, v] 33)).drew.heap.size := by simp
  generalize S.decide' num = Q at *
  obtain ⟨Q1, z⟩ := Q
  generalize (R.decideR num).1 = R2 at *
  simp only at cD cR Ha2
  clear e1 e2 e3 ha
  go_enter Try.func22, Try.ntmps22
  go_upto_region 11 with (fail)
  go_region_with ((first
    | (go_at_call 35; refine cD.mono ?_; rintro e w' ⟨rfl, G', E', T'⟩; have H2 := H1.turned E' T'; have x1 : w'.cell? ⟨w.heap.size, 1, none⟩ = some (i64 num) := (T'.cell hsz hnf).trans hx1; have cR2 := cR w' H2.ref; clear E' T')
    | (go_at_call 42; refine cR2.mono ?_; rintro e w2 ⟨rfl, GR', E2, T2⟩; have H3 := Lib.hid (H2.said E2 T2); clear E2 T2)))
  all_goals
    go_wp2_with fail
    go_ret
    exact ⟨rfl, G', GR', R2, H3.out, Ha2.out⟩

set_option maxHeartbeats 8000000 in
theorem step_back {A t base : Nat} {w0 w : World} {b rb : Nat} {G GR : GH} {S : ES} {R : RS} (num : Int) (v : Value) (h : Pair base w0 w b rb G GR S R) (ha : Alike A t S R) (hA : A ≤ 1048576) (ht : t ≤ 2097152) :
    Calls Try.prog 22 #[.pointer (some ⟨b, 0, none⟩), .pointer (some ⟨rb, 0, none⟩), .agg #[i64 4, i64 num, v]] w (Stepped base w0 b rb A (t + 1) (S.back num).1) := by
  have H1 := (h.alloc (.cells #[i64 4, i64 num, v] 33)).drew
  have cD := back_live b G S num _ H1.eng ha.live hA ht
  obtain ⟨s1, s2, s3, s4, s5, s6⟩ := ha.small
  obtain ⟨e1, e2, e3⟩ := ha.sim.backS ha.fit ha.live.good num
  have cR := fun w' (hr : Rf w' rb GR R) => back_ref rb GR R num w' hr ha.fit (by omega)
  rw [e1] at cR
  have Ha2 : Hid (Alike A (t + 1) (S.back num).1 (R.backR num).1) := ⟨ha.live.back num, e2, e3⟩
  have hx1 : (w.alloc (.cells #[i64 4, i64 num, v] 33)).cell? ⟨w.heap.size, 1, none⟩ = some (i64 num) := by rw [cell_of_row _ w.heap.size 1 _ _ _ (heap_alloc_new w _)]; rfl
  have hnf : ¬ ft G w.heap.size := fun hf => by have := h.eng.flt hf; omega
  have hsz : w.heap.size < (w.alloc (.cells #[i64 4, i64 num, v] 33)).drew.heap.size := by simp
  generalize S.back num = Q at *
  obtain ⟨Q1, z⟩ := Q
  generalize (R.backR num).1 = R2 at *
  simp only at cD cR Ha2
  clear e1 e2 e3 ha
  go_enter Try.func22, Try.ntmps22
  go_upto_region 15 with (fail)
  go_region_with ((first
    | (go_at_call 37; refine cD.mono ?_; rintro e w' ⟨rfl, G', E', T'⟩; have H2 := H1.turned E' T'; have x1 : w'.cell? ⟨w.heap.size, 1, none⟩ = some (i64 num) := (T'.cell hsz hnf).trans hx1; have cR2 := cR w' H2.ref; clear E' T')
    | (go_at_call 44; refine cR2.mono ?_; rintro e w2 ⟨rfl, GR', E2, T2⟩; have H3 := Lib.hid (H2.said E2 T2); clear E2 T2)))
  all_goals
    go_wp2_with fail
    go_ret
    exact ⟨rfl, G', GR', R2, H3.out, Ha2.out⟩
end Go.Proofs.Ytaileihnkmjfiaa
namespace Go.Proofs.Ytaileihnkmjfiaa
open Go.RowKit

set_option maxHeartbeats 8000000 in
set_option maxRecDepth 100000 in
theorem step_add {A t base : Nat} {w0 w : World} {b rb : Nat} {G GR : GH} {S : ES} {R : RS} (num : Int) (v : Value) (c : List Int) (h : Pair base w0 w b rb G GR S R) (ha : Alike A t S R) (hA : A ≤ 1048576) (ht : t ≤ 2097152)
    (hb0 : w0.heap.size = base) (hv : IntsAt w0 v c) (hc : S.cs.length + S.lits + (c.length + 1) ≤ A) :
    Calls Try.prog 22 #[.pointer (some ⟨b, 0, none⟩), .pointer (some ⟨rb, 0, none⟩), .agg #[i64 1, i64 num, v]] w (Stepped base w0 b rb A (t + 1) (S.add c).1) := by
  obtain ⟨i0, hi0, hz0, hz1, hz2⟩ := info_parts Try.info3
  have hvw := h.reads hb0 hv
  obtain ⟨ao, cap, rfl, hcap, hmax, hcell⟩ := hvw
  have H1 := h.alloc (.cells #[i64 1, i64 num, .slice ao c.length cap] 33)
  have H1a := H1.alloc (.cells #[] 3)
  have hx2 : (w.alloc (.cells #[i64 1, i64 num, .slice ao c.length cap] 33)).cell? ⟨w.heap.size, 2, none⟩ = some (.slice ao c.length cap) := by rw [cell_of_row _ w.heap.size 2 _ _ _ (heap_alloc_new w _)]; rfl
  have hcl : c.length ≤ 1048576 := by omega
  have hz1' : (w.alloc (.cells #[i64 1, i64 num, .slice ao c.length cap] 33)).heap.size = w.heap.size + 1 := by simp
  have RM : Rw ((w.alloc (.cells #[i64 1, i64 num, .slice ao c.length cap] 33)).alloc (.cells #[] 3)) 3 1 ⟨some (w.alloc (.cells #[i64 1, i64 num, .slice ao c.length cap] 33)).heap.size, 0, 0, []⟩ := Rw.new (n := 0) (sz := 1) (heap_alloc_new _ (.cells #[] 3)) rfl (by simp [maxLen])
  rw [hz1'] at RM
  have hb1 : 0 + c.length ≤ maxLen := by simp only [maxLen]; omega
  have hb2 : (0 + c.length) * 8 ≤ 140737488355328 := by omega
  have hal : (ints c).length = c.length * 1 := by simp [ints]
  have hao0 : ao = none → c.length = 0 := by
    intro e
    rcases Nat.eq_zero_or_pos c.length with h0 | h0
    · exact h0
    · obtain ⟨cb, co, e2, _⟩ := hcell h0
      rw [e2] at e; cases e
  have hnews : ∀ a, ao = some a → ∀ j u, (ints c)[j]? = some u → ((w.alloc (.cells #[i64 1, i64 num, .slice ao c.length cap] 33)).alloc (.cells #[] 3)).cell? (a.add j) = some u := by
    intro a ha2 j u hu
    obtain ⟨rfl, hj⟩ := ints_get c j u hu
    obtain ⟨ao', cap', e', _, _, h4⟩ := H1a.reads hb0 hv
    obtain ⟨ao0', cap0', e0, _, _, h40⟩ := h.reads hb0 hv
    rw [e0] at e'
    cases e'
    cases e0
    obtain ⟨cb, co, e2, h5⟩ := h4 (by omega)
    rw [ha2] at e2
    obtain rfl := Option.some.inj e2
    rw [Addr.add_lit]
    exact h5 j hj
  obtain ⟨s1, s2, s3, s4, s5, s6⟩ := ha.small
  obtain ⟨e1, e2, e3⟩ := ha.sim.addS ha.fit c
  have Ha2 : Hid (Alike A (t + 1) (S.add c).1 (R.addR c).1) := ⟨ha.live.add c (by omega), e2, e3⟩
  have Ha := Lib.hid ha
  have HV := Lib.hid hv
  have H1h := Lib.hid H1
  have E1 := Lib.hid e1
  have Hlt0 : w.heap.size < (w.alloc (.cells #[i64 1, i64 num, .slice ao c.length cap] 33)).heap.size := by simp
  clear hcell hv ha e1 e2 e3 H1 H1a hz1'
  go_enter Try.func22, Try.ntmps22
  go_wp2_with (at_builtin; (refine wpList_append_rw rfl (.tmp 14) (.tmp 16) 28 rfl 3 i0 (.int .i64 0) 1 8 Try.underlying28 hi0 hz0 hz1 hz2 rfl (by decide) ⟨some (w.heap.size + 1), 0, 0, []⟩ rfl RM ao c.length cap (ints c) rfl hal hao0 hnews (ints_one c) hb1 hb2 ?go))
  case go =>
    intro dM w1 rw1 en ex eg hgr
    have hbl : Below (w.alloc (.cells #[i64 1, i64 num, .slice ao c.length cap] 33)).heap.size (w.alloc (.cells #[i64 1, i64 num, .slice ao c.length cap] 33)) w1 := (((Below.refl _ _).alloc (Nat.le_refl _) (.cells #[] 3))).grown hgr (by simp) (fun k e => by cases e; simp)
    have hMn : dM.n = c.length := by simpa using en
    have hMx : dM.xs = ints c := by simpa using ex
    have hMg : ∀ g, dM.g = some g → (w.alloc (.cells #[i64 1, i64 num, .slice ao c.length cap] 33)).heap.size ≤ g := by
      intro g hg
      rcases eg with e | e
      · rw [e] at hg; cases hg; simp
      · rw [e] at hg; cases hg; simp
    have H2 := H1h.out.grown hbl
    have hMf : ∀ k, dM.g = some k → base ≤ k ∧ ¬ ft G k ∧ ¬ fo GR k := fun k hk => H1h.out.fresh (hMg k hk)
    have x2 : w1.cell? ⟨w.heap.size, 2, none⟩ = some (.slice ao c.length cap) := (hbl.cell (p := ⟨w.heap.size, 2, none⟩) Hlt0).trans hx2
    have hMw : w.heap.size ≠ dM.g.getD (w.heap.size + 1) := by
      intro he
      cases hg : dM.g with
      | none => rw [hg] at he; simp at he
      | some g => rw [hg] at he; have := hMg g hg; simp at he this; omega
    have hMl : ∀ g, dM.g = some g → g < w1.heap.size := fun g hg => rw1.lt hg
    have hBl : w.heap.size < w1.heap.size := by have := hbl.size; omega
    obtain ⟨aM, haM⟩ : ∃ aM, aM = Option.map (fun g => (⟨g, 0, none⟩ : Addr)) dM.g := ⟨_, rfl⟩
    have hMv : Value.slice (Option.map (fun g => { block := g, off := 0 }) dM.g) dM.n dM.cap = .slice aM c.length dM.cap := by rw [hMn, haM]
    rw [hMv]
    have hMle := rw1.le
    have hMmx := rw1.max
    unfold maxLen at hMmx
    rw [hMn] at hMle
    -- the engine's Add
    have iM := rw1.reads hMn hMx
    have hMv2 : dM.v = .slice aM c.length dM.cap := by unfold RD.v sv; rw [hMn, haM]
    rw [hMv2] at iM
    obtain ⟨aM', capM', eM, _, _, hMc⟩ := iM
    cases eM
    obtain ⟨cb, co, haoM⟩ : ∃ cb co, 0 < c.length → aM = some ⟨cb, co, none⟩ := by
      by_cases h0 : 0 < c.length
      · obtain ⟨cb, co, e, _⟩ := hMc h0
        exact ⟨cb, co, fun _ => e⟩
      · exact ⟨0, 0, fun hh => absurd hh h0⟩
    have hcellsM : ∀ k, k < c.length → w1.cell? ⟨cb, co + k, none⟩ = some (i64 (c.getD k 0)) := by
      intro k hk
      obtain ⟨cb', co', e, h5⟩ := hMc (by omega)
      have e2 := haoM (by omega)
      rw [e] at e2
      cases e2
      exact h5 k hk
    have cA := add_live b G S c aM cb co dM.cap w1 H2.eng Ha.out.live hA ht (by omega) haoM hcellsM
    have HaM := Lib.hid haM
    have HMn := Lib.hid hMn
    have HMg := Lib.hid hMg
    have HMf := Lib.hid hMf
    have HMl := Lib.hid hMl
    have RM1 := Lib.hid rw1
    have H2h := Lib.hid H2
    have HMw := Lib.hid hMw
    clear en ex eg hgr hbl hMn hMx hMg hMf hMl hMv hMv2 rw1 RM hnews hao0 hMc haoM hcellsM H2 hx2 hMw haM
    generalize (S.add c).2 = z at *
    go_wp2_with fail
    refine cA.mono ?_
    rintro e w2 ⟨rfl, G', E', T'⟩
    have H3 := Lib.hid (H2h.out.turned E' T')
    have RM2 := Lib.hid (RM1.out.other T' (fun g hg => (HMf.out g hg).2.1))
    have HMf2 : Hid (∀ k, dM.g = some k → base ≤ k ∧ ¬ ft G' k ∧ ¬ fo GR k) := fun k hk => ⟨(HMf.out k hk).1, fun hf => (T'.foot k hf).elim (HMf.out k hk).2.1 (fun hge => by have := HMl.out k hk; omega), (HMf.out k hk).2.2⟩
    have x3 : w2.cell? ⟨w.heap.size, 2, none⟩ = some (.slice ao c.length cap) := (T'.cell (p := ⟨w.heap.size, 2, none⟩) hBl (fun hf => by have := h.eng.flt hf; simp at this)).trans x2
    have X3 := Lib.hid x3
    have hB2 : w.heap.size < w2.heap.size := by have := T'.size; omega
    clear cA E' T' x2 x3
    go_wp2_with fail
    go_loopg [9] c.length (fun gm s9 wr => ∃ (k : Nat) (xs : List Value), gm = c.length - k ∧ k ≤ c.length ∧ s9 = .int .i64 (k : Nat) ∧ Rw wr 3 1 { dM with xs := xs } ∧ Turned (onlyAt dM.g) w2 (onlyAt dM.g) wr)
    case atStart => exact ⟨0, dM.xs, rfl, Nat.zero_le _, rfl, RM2.out, Turned.refl _ _⟩
    case round =>
      obtain ⟨k, xs, rfl, hk, rfl, RA, TA⟩ := hrel
      by_cases hkl : k < c.length
      · have hkl' : (k : Int) < (c.length : Int) := by omega
        obtain ⟨g, hg⟩ := RA.isome (by show 0 < dM.n; have := HMn.out; omega)
        have hg : dM.g = some g := hg
        have hlenx : xs.length = dM.n * 1 := RA.len
        have hkx : k < xs.length := by have := HMn.out; omega
        have ec : wr.cell? ⟨g, k, none⟩ = xs[k]? := RA.cell (i := k) hg hkx
        obtain ⟨x, hx⟩ : ∃ x, xs[k]? = some x := ⟨xs[k]'(by omega), by simp⟩
        rw [hx] at ec
        have fz := RA.frozen (i := k) hg
        have RA2 := Lib.hid (RA.set (i := k) hg (.int .i64 1))
        have TA2 := Lib.hid (TA.trans (Turned.setCell wr ⟨g, k, none⟩ (.int .i64 1) (show onlyAt dM.g g from hg)))
        have Hg := Lib.hid hg
        obtain rfl : aM = some ⟨g, 0, none⟩ := by rw [HaM.out, hg]; rfl
        clear RA TA hg hx hlenx
        go_wp2_with fail
        go_roundg (c.length - (k + 1))
        case measure => omega
        case rel => exact ⟨k + 1, xs.set k (.int .i64 1), rfl, by omega, by go_num, RA2.out, TA2.out⟩
      · obtain rfl : k = c.length := by omega
        have hkl' : ¬ ((c.length : Int) < (c.length : Int)) := by omega
        have H4 := H3.out.other TA HMf2.out
        have x4 : wr.cell? ⟨w.heap.size, 2, none⟩ = some (.slice ao c.length cap) := (TA.cell (p := ⟨w.heap.size, 2, none⟩) hB2 (fun hf => HMw.out (by
          have hf : dM.g = some w.heap.size := hf
          rw [hf]; rfl))).trans X3.out
        have hvr := H4.reads hb0 HV.out
        have hve : IntsAt wr (.slice ao c.length cap) c := hvr
        have cR := add_ref rb GR R (.slice ao c.length cap) c wr H4.ref Ha.out.fit hve hcl s1 s2 s3
        rw [E1.out] at cR
        have H4h := Lib.hid H4
        clear RA TA hvr hve H4 E1
        go_wp2_with fail
        refine cR.mono ?_
        rintro e w5 ⟨rfl, GR', E5, T5⟩
        have H5 := Lib.hid (H4h.out.said E5 T5)
        clear cR E5 T5
        go_wp2_with fail
        go_ret
        exact ⟨rfl, G', GR', _, H5.out, Ha2.out⟩
end Go.Proofs.Ytaileihnkmjfiaa
namespace Go.Proofs.Ytaileihnkmjfiaa
open Go.RowKit

set_option maxHeartbeats 8000000 in
theorem step_look5 {A t base : Nat} {w0 w : World} {b rb : Nat} {G GR : GH} {S : ES} {R : RS} (num : Int) (v : Value) (h : Pair base w0 w b rb G GR S R) (ha : Alike A t S R) (hn : num ≤ 9223372036854775807) :
    Calls Try.prog 22 #[.pointer (some ⟨b, 0, none⟩), .pointer (some ⟨rb, 0, none⟩), .agg #[i64 5, i64 num, v]] w (StillGrown w) := by
  have H1 := h.alloc (.cells #[i64 5, i64 num, v] 33)
  have hx1 : (w.alloc (.cells #[i64 5, i64 num, v] 33)).cell? ⟨w.heap.size, 1, none⟩ = some (i64 num) := by rw [cell_of_row _ w.heap.size 1 _ _ _ (heap_alloc_new w _)]; rfl
  have r5 := H1.ref.r5
  have Ha := Lib.hid ha
  cases hb : R.bad with
  | true =>
    rw [hb] at r5
    clear hb ha
    go_enter Try.func22, Try.ntmps22
    go_wp2_with fail
    go_quiet (fail)
    go_wp2_with fail
    go_ret
    exact ⟨rfl, bdrewN ((Below.refl _ w).alloc (Nat.le_refl _) _)⟩
  | false =>
    rw [hb] at r5
    have e1 := ha.sim.valueS hb ha.fit ha.live.good num
    have e2 := ha.sim.levelS hb ha.fit ha.live.good num
    have hok := ha.live.good.inv.ok.dim
    have hfit := ha.fit
    have c1 := fun n => quiet_l (value_any b G S num _ (H1.eng.drewN (k := n)) hok)
    have c2 := fun n => quiet_l (value_ref rb GR R num _ (H1.ref.drewN (k := n)) hfit)
    have c3 := fun n => quiet_l (levelOf_any b G S num _ (H1.eng.drewN (k := n)) hok)
    have c4 := fun n => quiet_l (levelOf_ref rb GR R num _ (H1.ref.drewN (k := n)) hfit hn)
    rw [← e1] at c2
    rw [← e2] at c4
    clear e1 e2 hb ha hok hfit H1 h
    generalize S.value num = x at *
    generalize S.levelOf num = y at *
    go_enter Try.func22, Try.ntmps22
    go_wp2_with fail
    go_quiet ((first | (go_at_call 36; exact c1 _) | (go_at_call 45; exact c2 _) | (go_at_call 28; exact c3 _) | (go_at_call 46; exact c4 _)))
    go_wp2_with fail
    go_ret
    exact ⟨rfl, bdrewN ((Below.refl _ w).alloc (Nat.le_refl _) _)⟩

set_option maxHeartbeats 8000000 in
theorem step_look6 {A t base : Nat} {w0 w : World} {b rb : Nat} {G GR : GH} {S : ES} {R : RS} (num : Int) (v : Value) (h : Pair base w0 w b rb G GR S R) (ha : Alike A t S R) :
    Calls Try.prog 22 #[.pointer (some ⟨b, 0, none⟩), .pointer (some ⟨rb, 0, none⟩), .agg #[i64 6, i64 num, v]] w (StillGrown w) := by
  have H1 := h.alloc (.cells #[i64 6, i64 num, v] 33)
  have Ha := Lib.hid ha
  have r0 := H1.ref.r0
  have r1 := H1.ref.r1
  have r3 := H1.ref.r3
  rw [ha.sim.n] at r0
  rw [ha.sim.level] at r1
  rw [ha.sim.all] at r3
  have c1 := fun n => quiet_l (level_any b G S _ (H1.eng.drewN (k := n)))
  have c2 := fun n => quiet_l (vars_any b G S _ (H1.eng.drewN (k := n)))
  have c3 := fun n => quiet_l (clauses_any b G S _ (H1.eng.drewN (k := n)))
  clear ha H1 h
  go_enter Try.func22, Try.ntmps22
  go_wp2_with fail
  go_quiet ((first | (go_at_call 47; exact c1 _) | (go_at_call 48; exact c2 _) | (go_at_call 49; exact c3 _)))
  go_wp2_with fail
  go_ret
  exact ⟨rfl, bdrewN ((Below.refl _ w).alloc (Nat.le_refl _) _)⟩

theorem Stepped.up {base : Nat} {w0 : World} {b rb A t : Nat} {S : ES} {e : Ending} {w' : World} (h : Stepped base w0 b rb A t S e w') : Stepped base w0 b rb A (t + 1) S e w' := by
  obtain ⟨h1, G, GR, R, h2, h3⟩ := h
  exact ⟨h1, G, GR, R, h2, h3.more (Nat.le_succ t)⟩

/-- a call of a script -/
theorem step_any {A t base : Nat} {w0 w : World} {b rb : Nat} {G GR : GH} {S : ES} {R : RS} (o : OpD) (v : Value) (h : Pair base w0 w b rb G GR S R) (ha : Alike A t S R) (hA : A ≤ 1048576) (ht : t ≤ 2097152)
    (hb0 : w0.heap.size = base) (hv : IntsAt w0 v o.lits) (hc : S.cs.length + S.lits + (o.lits.length + 1) ≤ A) (hn : o.num ≤ 9223372036854775807) :
    Calls Try.prog 22 #[.pointer (some ⟨b, 0, none⟩), .pointer (some ⟨rb, 0, none⟩), .agg #[i64 o.kind, i64 o.num, v]] w (Stepped base w0 b rb A (t + 1) (S.doS o)) := by
  unfold ES.doS
  by_cases k1 : o.kind = 1
  · rw [if_pos k1, k1]; exact step_add o.num v o.lits h ha hA ht hb0 hv hc
  · rw [if_neg k1]
    by_cases k2 : o.kind = 2
    · rw [if_pos k2, k2]; exact step_decide o.num v h ha
    · rw [if_neg k2]
      by_cases k3 : o.kind = 3
      · rw [if_pos k3, k3]; exact step_prop o.num v h ha hA ht
      · rw [if_neg k3]
        by_cases k4 : o.kind = 4
        · rw [if_pos k4, k4]; exact step_back o.num v h ha hA ht
        · rw [if_neg k4]
          by_cases k5 : o.kind = 5
          · rw [k5]; exact (step_look5 o.num v h ha hn).mono fun _ _ hh => ⟨hh.1, G, GR, R, h.grown hh.2, ha.more (Nat.le_succ t)⟩
          · by_cases k6 : o.kind = 6
            · rw [k6]; exact (step_look6 o.num v h ha).mono fun _ _ hh => ⟨hh.1, G, GR, R, h.grown hh.2, ha.more (Nat.le_succ t)⟩
            · exact (step_none o.kind o.num v h ha (by simpa using k1) (by simpa using k2) (by simpa using k3) (by simpa using k4) (by simpa using k5) (by simpa using k6)).mono fun _ _ hh => hh.up
end Go.Proofs.Ytaileihnkmjfiaa
namespace Go.Proofs.Ytaileihnkmjfiaa
open Go.RowKit

/-- the two engines, new -/
theorem Pair.new {v : Int} {w w1 : World} {b rb : Nat} {G : GH} (hv : 0 ≤ v ∧ v ≤ 1048576) (E : Eng w1 b G (ES.new v.toNat)) (hr : w1.heap[rb]? = some (.cells #[i64 v, .int .i64 0, .int .i64 0, .slice none 0 0, .slice none 0 0, .bool false] 50 (0, 0)))
    (hb : Below w.heap.size w w1) (hft : ∀ x, ft G x → w.heap.size ≤ x) (hrb : w.heap.size ≤ rb) (hn : ¬ ft G rb) :
    Pair w.heap.size w w1 b rb G (obG rb) (ES.new v.toNat) ⟨v, 0, 0, [], [], false⟩ ∧ ∀ A, Alike A 0 (ES.new v.toNat) ⟨v, 0, 0, [], [], false⟩ := by
  have e : v = (v.toNat : Int) := by omega
  refine ⟨⟨E, Ob.new hr rfl rfl, fun x h1 h2 => ?_, hft, fun x h => ?_, hb, hb.size⟩, fun A => ⟨ES.Live.new (by omega), ?_, ?_⟩⟩
  · have := fo_obG h2
    subst this
    exact hn h1
  · have := fo_obG h
    omega
  · have := Sim.new (n := v.toNat)
    rw [← e] at this
    exact this
  · have := RS.Fit.new (n := v.toNat) (by omega)
    rw [← e] at this
    exact this

/-- what holds at the head of a script's loop -/
structure Playing (base : Nat) (w0 w : World) (b rb : Nat) (G GR : GH) (S : ES) (R : RS) (A : Nat) (ops : List OpD) (i : Nat) : Prop where
  pair : Pair base w0 w b rb G GR S R
  alike : Alike A i S R
  cost : S.cs.length + S.lits ≤ weigh (ops.take i)

theorem Playing.next {base : Nat} {w0 w w' : World} {b rb : Nat} {G GR G' GR' : GH} {S : ES} {R R' : RS} {ops : List OpD} {i : Nat} (h : Playing base w0 w b rb G GR S R (weigh ops) ops i) (hA : weigh ops ≤ 1048576) {o : OpD} (ho : ops[i]? = some o)
    (h2 : Pair base w0 w' b rb G' GR' (S.doS o) R') (ha : Alike (weigh ops) (i + 1) (S.doS o) R') : Playing base w0 w' b rb G' GR' (S.doS o) R' (weigh ops) ops (i + 1) := by
  have hlt : i < ops.length := (List.getElem?_eq_some_iff.1 ho).1
  have hwt := weigh_take ops i o ho
  have hcost := h.cost
  have hlen := weigh_len ops
  refine ⟨h2, ha, ?_⟩
  have := h.alike.live.cost hA (by omega) o
  omega

set_option maxHeartbeats 4000000 in
set_option maxRecDepth 100000 in
theorem play_any (v : Int) (ops : List OpD) (a : Value) (lo hi : Int) (w : World) (hs : ScrAt w a ops) (hF : ∀ o, o ∈ ops → OpFits o) (hA : weigh ops ≤ 1048576) :
    Calls Try.prog 23 #[i64 v, a, i64 lo, i64 hi] w fun e w' => e = .returned (.bool true) ∧ Below w.heap.size w w' := by
  obtain ⟨ao, cap, rfl, hcap, hmax, hcells⟩ := hs
  have hlen := weigh_len ops
  by_cases hv : 0 ≤ v ∧ v ≤ 1048576
  · have c21 := both_any v w hv
    have HC := Lib.hid hcells
    have Hv := Lib.hid hv
    have HF := Lib.hid hF
    clear hv hcells hF
    go_enter Try.func23, Try.ntmps23
    go_wp2_with fail
    refine c21.mono ?_
    rintro e w1 ⟨b, G, rb, rfl, E, hr, hb, hft, hrb, hnf⟩
    obtain ⟨P0, A0⟩ := Pair.new Hv.out E hr hb hft hrb hnf
    have HP0 := Lib.hid P0
    have HA0 := Lib.hid (A0 (weigh ops))
    clear c21 E hr hb hft hrb hnf P0 A0
    go_wp2_with fail
    go_loopg [12] ops.length (fun gm s12 wr => ∃ i G GR S R, gm = ops.length - i ∧ i ≤ ops.length ∧ s12 = .int .i64 (i : Nat) ∧ Playing w.heap.size w wr b rb G GR S R (weigh ops) ops i)
    case atStart => exact ⟨0, G, obG rb, ES.new v.toNat, _, rfl, Nat.zero_le _, rfl, HP0.out, HA0.out, Nat.zero_le _⟩
    case round =>
      obtain ⟨i, Gi, GR, S, R, rfl, hi', rfl, Hg⟩ := hrel
      by_cases hlt : i < ops.length
      · obtain ⟨sb, so, o, lv, rfl, ho, hl, hcell⟩ := script_op HC.out hlt
        have hlt' : (i : Int) < (ops.length : Int) := by omega
        obtain ⟨r0, r1, r2⟩ := hcell wr Hg.pair.below
        have hwt := weigh_take ops i o ho
        have hwl := weigh_take_le ops (i + 1)
        have hcost := Hg.cost
        have hmem : o ∈ ops := List.mem_of_getElem? ho
        have cS := step_any o lv Hg.pair Hg.alike hA (by omega) rfl hl (by omega) (HF.out o hmem).1
        have HCell := Lib.hid hcell
        have Hwt := Lib.hid hwt
        have Ho := Lib.hid ho
        have HHg := Lib.hid Hg
        clear hcell hwt ho hcost hl hmem Hg
        go_wp2_with fail
        refine cS.mono ?_
        rintro e w2 ⟨rfl, G2, GR2, R2, H2, A2⟩
        have HN := Lib.hid (HHg.out.next hA Ho.out H2 A2)
        clear cS H2 A2
        go_wp2_with fail
        go_roundg (ops.length - (i + 1))
        case measure => omega
        case rel => exact ⟨i + 1, G2, GR2, S.doS o, R2, rfl, by omega, by go_num, HN.out⟩
      · have hlt' : ¬ ((i : Int) < (ops.length : Int)) := by omega
        have hbl := Lib.hid Hg.pair.below
        clear Hg
        go_wp2_with fail
        go_ret
        exact ⟨rfl, hbl.out⟩
  · have c21 := both_bad v w (by omega)
    clear hv hcells
    go_enter Try.func23, Try.ntmps23
    go_wp2_with fail
    refine c21.mono ?_
    rintro e w1 ⟨rfl, rfl⟩
    go_wp2_with fail
    go_ret
    exact ⟨rfl, Below.refl _ _⟩

theorem adds_walk : WalkedF 6 := by
  intro v ops a w hs hF hA
  have cP := play_any v ops a 1 1 w hs hF hA
  go_enter Try.func6, Try.ntmps6
  go_wp2_with (go_at_call 23; refine cP.mono ?_; rintro e w' ⟨rfl, hb⟩)
  go_ret
  exact ⟨rfl, hb⟩
theorem closes_walk : WalkedF 8 := by
  intro v ops a w hs hF hA
  have cP := play_any v ops a 3 3 w hs hF hA
  go_enter Try.func8, Try.ntmps8
  go_wp2_with (go_at_call 23; refine cP.mono ?_; rintro e w' ⟨rfl, hb⟩)
  go_ret
  exact ⟨rfl, hb⟩
theorem looks_walk : WalkedF 9 := by
  intro v ops a w hs hF hA
  have cP := play_any v ops a 5 6 w hs hF hA
  go_enter Try.func9, Try.ntmps9
  go_wp2_with (go_at_call 23; refine cP.mono ?_; rintro e w' ⟨rfl, hb⟩)
  go_ret
  exact ⟨rfl, hb⟩

theorem ScrAt.below {w w' : World} {v : Value} {ops : List OpD} (h : ScrAt w v ops) (hb : Below w.heap.size w w') : ScrAt w' v ops := by
  obtain ⟨ao, cap, h1, h2, h3, h4⟩ := h
  refine ⟨ao, cap, h1, h2, h3, fun h0 => ?_⟩
  obtain ⟨sb, so, e, h5⟩ := h4 h0
  refine ⟨sb, so, e, fun i hi o ho => ?_⟩
  obtain ⟨q0, q1, lv, q2, hl⟩ := h5 i hi o ho
  have hsb : sb < w.heap.size := World.block_lt_of_cell? w _ q0
  exact ⟨(hb.cell (p := ⟨sb, so + 3 * i, none⟩) hsb).trans q0, (hb.cell (p := ⟨sb, so + 3 * i + 1, none⟩) hsb).trans q1, lv, (hb.cell (p := ⟨sb, so + 3 * i + 2, none⟩) hsb).trans q2, hl.below hb⟩

theorem decides_walk : WalkedF 7 := by
  intro v ops a w hs hF hA
  have cP := play_any v ops a 2 2 w hs hF hA
  have cQ := fun w' hb => play_any v ops a 4 4 w' (hs.below hb) hF hA
  clear hF
  go_enter Try.func7, Try.ntmps7
  go_wp2_with fail
  refine cP.mono ?_
  rintro e w' ⟨rfl, hb⟩
  have cQ := cQ w' hb
  have Hb := Lib.hid hb
  clear cP hb
  go_wp2_with fail
  refine cQ.mono ?_
  rintro e w2 ⟨rfl, hb2⟩
  have Hb2 := Lib.hid hb2
  clear cQ hb2
  go_wp2_with fail
  go_ret
  exact ⟨rfl, Hb.out.trans (Hb2.out.mono Hb.out.size)⟩
end Go.Proofs.Ytaileihnkmjfiaa
namespace Go.Proofs.Ytaileihnkmjfiaa
open Go.RowKit

theorem wrap_le (x : Int) : wrap64 x ≤ 9223372036854775807 := by unfold wrap64; omega

set_option maxHeartbeats 8000000 in
set_option maxRecDepth 100000 in
theorem named_any {A t base : Nat} {w0 w : World} {b rb : Nat} {G GR : GH} {S : ES} {R : RS} (kind num : Int) (v : Value) (c : List Int) (h : Pair base w0 w b rb G GR S R) (ha : Alike A t S R)
    (hb0 : w0.heap.size = base) (hv : IntsAt w0 v c) (hn : num ≤ 9223372036854775807) (hc : ∀ l, l ∈ c → l ≤ 9223372036854775807) :
    Calls Try.prog 24 #[.pointer (some ⟨b, 0, none⟩), .pointer (some ⟨rb, 0, none⟩), .agg #[i64 kind, i64 num, v]] w (StillGrown w) := by
  have hvw := h.reads hb0 hv
  obtain ⟨ao, cap, rfl, hcap, hmax, hcell⟩ := hvw
  unfold maxLen at hmax
  have H1 := h.alloc (.cells #[i64 kind, i64 num, .slice ao c.length cap] 33)
  have hx1 : (w.alloc (.cells #[i64 kind, i64 num, .slice ao c.length cap] 33)).cell? ⟨w.heap.size, 1, none⟩ = some (i64 num) := by rw [cell_of_row _ w.heap.size 1 _ _ _ (heap_alloc_new w _)]; rfl
  have hx2 : (w.alloc (.cells #[i64 kind, i64 num, .slice ao c.length cap] 33)).cell? ⟨w.heap.size, 2, none⟩ = some (.slice ao c.length cap) := by rw [cell_of_row _ w.heap.size 2 _ _ _ (heap_alloc_new w _)]; rfl
  have hsz : w.heap.size < (w.alloc (.cells #[i64 kind, i64 num, .slice ao c.length cap] 33)).heap.size := by simp
  have cL := fun (x : Int) (hx : x ≤ 9223372036854775807) (w' : World) (hb : Below (w.alloc (.cells #[i64 kind, i64 num, .slice ao c.length cap] 33)).heap.size (w.alloc (.cells #[i64 kind, i64 num, .slice ao c.length cap] 33)) w') => step_look5 x (.slice none 0 0) (H1.grown hb) ha hx
  have hcl : ∀ k, k < c.length → ∀ w', Below (w.alloc (.cells #[i64 kind, i64 num, .slice ao c.length cap] 33)).heap.size (w.alloc (.cells #[i64 kind, i64 num, .slice ao c.length cap] 33)) w' → ∃ cb co, ao = some ⟨cb, co, none⟩ ∧ w'.cell? ⟨cb, co + k, none⟩ = some (i64 (c.getD k 0)) := by
    intro k hk w' hb
    obtain ⟨ao', cap', e', _, _, h4⟩ := (H1.grown hb).reads hb0 hv
    cases e'
    obtain ⟨cb, co, e2, h5⟩ := h4 (by omega)
    exact ⟨cb, co, e2, h5 k hk⟩
  have hbw : Below w.heap.size w (w.alloc (.cells #[i64 kind, i64 num, .slice ao c.length cap] 33)) := (Below.refl _ w).alloc (Nat.le_refl _) _
  have HCL := Lib.hid hcl
  have CL := Lib.hid cL
  have HC := Lib.hid hc
  have Hbw := Lib.hid hbw
  have HX1 := Lib.hid hx1
  have HX2 := Lib.hid hx2
  clear hcell cL hcl hc hbw hx2 H1 ha h hv
  go_enter Try.func24, Try.ntmps24
  go_wp2_with fail
  refine (CL.out num hn _ (Below.refl _ _)).mono ?_
  rintro e w2 ⟨rfl, hb2⟩
  have x1 : w2.cell? ⟨w.heap.size, 1, none⟩ = some (i64 num) := (hb2.cell (p := ⟨w.heap.size, 1, none⟩) hsz).trans HX1.out
  have Hb2 := Lib.hid hb2
  clear hb2 hx1
  go_wp2_with fail
  refine (CL.out _ (wrap_le _) _ Hb2.out).mono ?_
  rintro e w3 ⟨rfl, hb3⟩
  have Hb3 := Lib.hid (Hb2.out.trans (hb3.mono Hb2.out.size))
  clear hb3 x1
  go_wp2_with fail
  go_loopg [7, 8] c.length (fun gm s7 s8 wx => ∃ k : Nat, gm = c.length - k ∧ k ≤ c.length ∧ s8 = .int .i64 (k : Nat) ∧ s7 = .bool true ∧ Below (w.alloc (.cells #[i64 kind, i64 num, .slice ao c.length cap] 33)).heap.size (w.alloc (.cells #[i64 kind, i64 num, .slice ao c.length cap] 33)) wx)
  case atStart => exact ⟨0, rfl, Nat.zero_le _, rfl, rfl, Hb3.out⟩
  case round =>
    obtain ⟨k, rfl, hk, rfl, rfl, hbx⟩ := hrel
    have x2 : wr.cell? ⟨w.heap.size, 2, none⟩ = some (.slice ao c.length cap) := (hbx.cell (p := ⟨w.heap.size, 2, none⟩) hsz).trans HX2.out
    have Hfin := Lib.hid (Hbw.out.trans (hbx.mono (Nat.le_of_lt hsz)))
    have Hbx := Lib.hid hbx
    clear hbx
    by_cases hkl : k < c.length
    · have hkl' : (k : Int) < (c.length : Int) := by omega
      by_cases h64 : k < 64
      · have h64' : (k : Int) < 64 := by omega
        obtain ⟨cb, co, rfl, e⟩ := HCL.out k hkl wr Hbx.out
        have hx := HC.out _ (getD_mem' 0 hkl)
        have HCk := Lib.hid (fun w' hb => (HCL.out k hkl w' hb))
        have Hkl := Lib.hid hkl
        generalize c.getD k 0 = x at *
        go_wp2_with fail
        refine (CL.out x hx _ Hbx.out).mono ?_
        rintro e w4 ⟨rfl, hb4⟩
        have Hb4 := Lib.hid (Hbx.out.trans (hb4.mono Hbx.out.size))
        have e4 : w4.cell? ⟨cb, co + k, none⟩ = some (i64 x) := by
          obtain ⟨cb', co', e1, e2⟩ := HCk.out w4 Hb4.out
          cases e1
          exact e2
        have x4 : w4.cell? ⟨w.heap.size, 2, none⟩ = some (.slice (some ⟨cb, co, none⟩) c.length cap) := (Hb4.out.cell (p := ⟨w.heap.size, 2, none⟩) hsz).trans HX2.out
        clear hb4 e x2
        go_wp2_with fail
        refine (CL.out _ (wrap_le _) _ Hb4.out).mono ?_
        rintro e w5 ⟨rfl, hb5⟩
        have Hb5 := Lib.hid (Hb4.out.trans (hb5.mono Hb4.out.size))
        clear hb5 e4 x4
        go_wp2_with fail
        go_roundg (c.length - (k + 1))
        case measure => omega
        case rel => exact ⟨k + 1, rfl, by omega, by go_num, rfl, Hb5.out⟩
      · have h64' : ¬ ((k : Int) < 64) := by omega
        go_wp2_with fail
        go_ret
        exact ⟨rfl, Hfin.out⟩
    · obtain rfl : k = c.length := by omega
      have hkl' : ¬ ((c.length : Int) < (c.length : Int)) := by omega
      go_wp2_with fail
      go_ret
      exact ⟨rfl, Hfin.out⟩
end Go.Proofs.Ytaileihnkmjfiaa
namespace Go.Proofs.Ytaileihnkmjfiaa
open Go.RowKit

theorem nodup_sub_len {α : Type} [DecidableEq α] : ∀ (L M : List α), L.Nodup → (∀ x, x ∈ L → x ∈ M) → L.length ≤ M.length
  | [], M, _, _ => Nat.zero_le _
  | x :: L, M, hn, hs => by
    rw [List.nodup_cons] at hn
    have hx := hs x (by simp)
    have := nodup_sub_len L (M.erase x) hn.2 (fun y hy => by
      have hne : y ≠ x := fun e => hn.1 (e ▸ hy)
      exact (List.mem_erase_of_ne hne).2 (hs y (List.mem_cons_of_mem _ hy)))
    rw [List.length_erase_of_mem hx] at this
    have hpos : 0 < M.length := List.length_pos_of_mem hx
    simp only [List.length_cons]
    omega

theorem nodup_of_map {α β : Type} {f : α → β} {L : List α} (h : (L.map f).Nodup) : L.Nodup := by
  refine List.Pairwise.imp ?_ (List.pairwise_map.1 h)
  intro a b hab e
  exact hab (by rw [e])

/-- of engines that say the same the trails are of one length -/
theorem Sim.len {S : ES} {R : RS} (h : Sim S R) (hb : R.bad = false) (hg : S.Good) (hf : R.Fit) : R.tr.length = S.tr.length := by
  have n1 : S.tr.Nodup := nodup_of_map hg.inv.core.tr_nd
  have n2 : (R.tr.map fun p => p.1).Nodup := by
    have e : (R.tr.map fun p => p.1.natAbs) = (R.tr.map fun p => p.1).map Int.natAbs := by rw [List.map_map]; rfl
    have := hf.nd
    rw [e] at this
    exact nodup_of_map this
  have a := nodup_sub_len S.tr (R.tr.map fun p => p.1) n1 (fun l hl => by
    obtain ⟨p, hp, e⟩ := (h.has hb l).2 hl
    exact List.mem_map.2 ⟨p, hp, e⟩)
  have b := nodup_sub_len (R.tr.map fun p => p.1) S.tr n2 (fun l hl => by
    obtain ⟨p, hp, e⟩ := List.mem_map.1 hl
    exact (h.has hb l).1 ⟨p, hp, e⟩)
  rw [List.length_map] at a b
  omega

set_option maxHeartbeats 8000000 in
set_option maxRecDepth 100000 in
theorem all_walk : WalkedF 10 := by
  intro v ops a w hs hF hA
  obtain ⟨ao, cap, rfl, hcap, hmax, hcells⟩ := hs
  have hlen := weigh_len ops
  by_cases hv : 0 ≤ v ∧ v ≤ 1048576
  · have c21 := both_any v w hv
    have HC := Lib.hid hcells
    have Hv := Lib.hid hv
    have HF := Lib.hid hF
    clear hv hcells hF
    go_enter Try.func10, Try.ntmps10
    go_wp2_with fail
    refine c21.mono ?_
    rintro e w1 ⟨b, G, rb, rfl, E, hr, hb, hft, hrb, hnf⟩
    obtain ⟨P0, A0⟩ := Pair.new Hv.out E hr hb hft hrb hnf
    have HP0 := Lib.hid P0
    have HA0 := Lib.hid (A0 (weigh ops))
    clear c21 E hr hb hft hrb hnf P0 A0
    go_wp2_with fail
    go_loopg [8] ops.length (fun gm s8 wr => ∃ i G GR S R, gm = ops.length - i ∧ i ≤ ops.length ∧ s8 = .int .i64 (i : Nat) ∧ Playing w.heap.size w wr b rb G GR S R (weigh ops) ops i)
    case atStart => exact ⟨0, G, obG rb, ES.new v.toNat, _, rfl, Nat.zero_le _, rfl, HP0.out, HA0.out, Nat.zero_le _⟩
    case round =>
      obtain ⟨i, Gi, GR, S, R, rfl, hi', rfl, Hg⟩ := hrel
      by_cases hlt : i < ops.length
      · obtain ⟨sb, so, o, lv, rfl, ho, hl, hcell⟩ := script_op HC.out hlt
        have hlt' : (i : Int) < (ops.length : Int) := by omega
        obtain ⟨r0, r1, r2⟩ := hcell wr Hg.pair.below
        have hwt := weigh_take ops i o ho
        have hwl := weigh_take_le ops (i + 1)
        have hcost := Hg.cost
        have hmem : o ∈ ops := List.mem_of_getElem? ho
        have cS := step_any o lv Hg.pair Hg.alike hA (by omega) rfl hl (by omega) (HF.out o hmem).1
        have Hwt := Lib.hid hwt
        have Ho := Lib.hid ho
        have HHg := Lib.hid Hg
        clear hcell hwt ho hcost hl hmem Hg
        go_wp2_with fail
        refine cS.mono ?_
        rintro e w2 ⟨rfl, G2, GR2, R2, H2, A2⟩
        have HN := Lib.hid (HHg.out.next hA Ho.out H2 A2).cost
        have c6 := step_look6 0 (.slice none 0 0) H2 A2
        have H2h := Lib.hid H2
        have A2h := Lib.hid A2
        generalize S.doS o = S1 at *
        clear cS H2 A2 r0 r1 r2
        go_wp2_with fail
        refine c6.mono ?_
        rintro e w3 ⟨rfl, hb3⟩
        have H3 := Lib.hid (H2h.out.grown hb3)
        clear c6 hb3
        go_wp2_with fail
        go_loopg [9] (i + 1) (fun gm s9 wx => ∃ k : Nat, gm = i + 1 - k ∧ k ≤ i + 1 ∧ s9 = .int .i64 (k : Nat) ∧ Below w3.heap.size w3 wx)
        case atStart => exact ⟨0, rfl, Nat.zero_le _, rfl, Below.refl _ _⟩
        case round =>
          obtain ⟨k, rfl, hk, rfl, hbx⟩ := hrel
          have Hx := H3.out.grown hbx
          by_cases hki : k ≤ i
          · have hki' : (k : Int) ≤ (i : Int) := by omega
            have hkl : k < ops.length := by omega
            have hkl' : (k : Int) < (ops.length : Int) := by omega
            obtain ⟨sb', so', o', lv', e', ho', hl', hcell'⟩ := script_op HC.out hkl
            cases e'
            obtain ⟨q0, q1, q2⟩ := hcell' wr Hx.below
            have hof := HF.out o' (List.mem_of_getElem? ho')
            have cN := named_any o'.kind o'.num lv' o'.lits Hx A2h.out rfl hl' hof.1 hof.2
            have Hbx := Lib.hid hbx
            clear Hx hbx hcell' ho' hl' hof
            go_wp2_with fail
            refine cN.mono ?_
            rintro e w4 ⟨rfl, hb4⟩
            have Hb4 := Lib.hid (Hbx.out.trans (hb4.mono Hbx.out.size))
            clear cN hb4 q0 q1 q2
            go_wp2_with fail
            go_roundg (i + 1 - (k + 1))
            case measure => omega
            case rel => exact ⟨k + 1, rfl, by omega, by go_num, Hb4.out⟩
          · have hki' : ¬ ((k : Int) ≤ (i : Int)) := by omega
            have r5 := Hx.ref.r5
            have HHx := Lib.hid Hx
            have HD := fun n => Hx.drewN n
            cases hbad : R2.bad with
            | true =>
              rw [hbad] at r5
              clear hbad Hx hbx
              go_wp2_with fail
              go_quiet (fail)
              go_wp2_with fail
              go_roundg (ops.length - (i + 1))
              case measure => omega
              case rel => exact ⟨i + 1, G2, GR2, S1, R2, rfl, by omega, by go_num, HD _, A2h.out, HN.out⟩
            | false =>
              have hln := A2h.out.sim.len hbad A2h.out.live.good A2h.out.fit
              have r4 := Hx.ref.r4
              rw [hln] at r4
              rw [hbad] at r5
              have hok := A2h.out.live.good.inv.ok
              have cT := trail_any b G2 S1 wr.drew Hx.eng.drew hok
              have hlr : rb < wr.heap.size := Hx.ref.lt
              clear hbad Hx hbx HD hln
              go_wp2_with fail
              go_region_with ((go_at_call 18; refine cT.mono ?_; rintro e w5 ⟨d, rfl, rwT, hTn, hTx, hTg, hbT⟩; have r4b : w5.cell? ⟨rb, 4, none⟩ = _ := (hbT.cell (p := ⟨rb, 4, none⟩) hlr).trans r4; have HdT := Lib.hid hTn; have hdv : d.v = .slice (Option.map (fun g => { block := g, off := 0 }) d.g) S1.tr.length d.cap := (by unfold RD.v sv; rw [hTn]); have H5 := Lib.hid (HHx.out.drew.grown hbT); rw [hdv]; clear hTn hTx hTg hbT rwT hdv))
              all_goals
                go_wp2_with fail
                go_roundg (ops.length - (i + 1))
                case measure => omega
                case rel => exact ⟨i + 1, G2, GR2, S1, R2, rfl, by omega, by go_num, H5.out, A2h.out, HN.out⟩
      · have hlt' : ¬ ((i : Int) < (ops.length : Int)) := by omega
        have hbl := Lib.hid Hg.pair.below
        clear Hg
        go_wp2_with fail
        go_ret
        exact ⟨rfl, hbl.out⟩
  · have c21 := both_bad v w (by omega)
    clear hv hcells
    go_enter Try.func10, Try.ntmps10
    go_wp2_with fail
    refine c21.mono ?_
    rintro e w1 ⟨rfl, rfl⟩
    go_wp2_with fail
    go_ret
    exact ⟨rfl, Below.refl _ _⟩
end Go.Proofs.Ytaileihnkmjfiaa
