/-
  Where a statement stands between two calls: the engine and the book, apart from one another and from all that came in. Conditions: those each theorem names.
-/
import Derived.Test.YtaileihnkmjfiaaO1
import Derived.Test.YtaileihnkmjfiaaD1
import Derived.Test.YtaileihnkmjfiaaS4
namespace Go.Proofs.Ytaileihnkmjfiaa
open Go.RowKit

/-- the book at block b -/
abbrev Bk (w : World) (b : Nat) (G : GH) (B : BK) : Prop := Ob 30 2 3 1 w b G (fun c d => [c, d]) B.cl B.dc.length (ints B.dc)

structure Stand (base : Nat) (w0 w : World) (b bb : Nat) (G GB : GH) (S : ES) (B : BK) : Prop where
  eng : Eng w b G S
  book : Bk w bb GB B
  apart : ∀ x, ft G x → ¬ fo GB x
  ge : ∀ x, ft G x → base ≤ x
  geb : ∀ x, fo GB x → base ≤ x
  below : Below base w0 w
  size : base ≤ w.heap.size

section
variable {base : Nat} {w0 w : World} {b bb : Nat} {G GB : GH} {S : ES} {B : BK}
theorem Stand.drew (h : Stand base w0 w b bb G GB S B) : Stand base w0 w.drew b bb G GB S B := ⟨h.eng.drew, h.book.drew, h.apart, h.ge, h.geb, h.below.drew, h.size⟩
theorem Stand.drewN (h : Stand base w0 w b bb G GB S B) (k : Nat) : Stand base w0 (w.drewN k) b bb G GB S B := ⟨h.eng.drewN, h.book.drewN, h.apart, h.ge, h.geb, bdrewN h.below, h.size⟩
theorem Stand.alloc (h : Stand base w0 w b bb G GB S B) (o : Obj) : Stand base w0 (w.alloc o) b bb G GB S B := ⟨h.eng.alloc o, h.book.alloc o, h.apart, h.ge, h.geb, h.below.alloc h.size o, by have := h.size; simp; omega⟩
/-- behind what only makes memory -/
theorem Stand.grown (h : Stand base w0 w b bb G GB S B) {w' : World} (hb : Below w.heap.size w w') : Stand base w0 w' b bb G GB S B :=
  ⟨h.eng.below hb, h.book.below hb, h.apart, h.ge, h.geb, h.below.trans (hb.mono h.size), Nat.le_trans h.size hb.size⟩
/-- behind a call on the engine -/
theorem Stand.turned (h : Stand base w0 w b bb G GB S B) {w' : World} {G' : GH} {S' : ES} (E : Eng w' b G' S') (T : Turned (ft G) w (ft G') w') : Stand base w0 w' b bb G' GB S' B :=
  ⟨E, h.book.apart T (fun g h1 h2 => h.apart g h2 h1), fun x hx hf => (T.foot x hx).elim (fun h1 => h.apart x h1 hf) (fun h1 => by have := h.book.flt hf; omega),
   fun x hx => (T.foot x hx).elim (h.ge x) (fun h1 => Nat.le_trans h.size h1), h.geb, h.below.trans (T.below h.ge h.size), Nat.le_trans h.size T.size⟩
/-- behind a step on the book -/
theorem Stand.noted (h : Stand base w0 w b bb G GB S B) {w' : World} {GB' : GH} {B' : BK} (E : Bk w' bb GB' B') (T : Turned (fo GB) w (fo GB') w') : Stand base w0 w' b bb G GB' S B' :=
  ⟨h.eng.apart T h.apart, E, fun x hx hf => (T.foot x hf).elim (fun h1 => h.apart x hx h1) (fun h1 => by have := h.eng.flt hx; omega),
   h.ge, fun x hx => (T.foot x hx).elim (h.geb x) (fun h1 => Nat.le_trans h.size h1), h.below.trans (T.below h.geb h.size), Nat.le_trans h.size T.size⟩
/-- what came in reads as it did -/
theorem Stand.reads (h : Stand base w0 w b bb G GB S B) (hb : w0.heap.size = base) {v : Value} {c : List Int} (hc : IntsAt w0 v c) : IntsAt w v c := by
  obtain ⟨ao, cap, h1, h2, h3, h4⟩ := hc
  refine ⟨ao, cap, h1, h2, h3, fun h0 => ?_⟩
  obtain ⟨cb, co, e, h5⟩ := h4 h0
  refine ⟨cb, co, e, fun j hj => ?_⟩
  rw [← h5 j hj]
  refine h.below.cell (p := ⟨cb, co + j, none⟩) ?_
  have := World.block_lt_of_cell? w0 _ (h5 j hj)
  exact hb ▸ this
end

theorem Turned.cell {F F' : Nat → Prop} {w w' : World} (T : Turned F w F' w') {p : Addr} (hp : p.block < w.heap.size) (hF : ¬ F p.block) : w'.cell? p = w.cell? p := World.cell?_of_block (w := w) (T.block p.block hp hF)

theorem sign_any (b : Nat) (G : GH) (S : ES) (l : Int) (w : World) (h : Eng w b G S) (hD : S.Dim) (hl : l ≠ 0 ∧ l.natAbs ≤ S.n) :
    Calls Try.prog 16 #[.pointer (some ⟨b, 0, none⟩), i64 l] w fun e w' => e = .returned (i64 (S.of l)) ∧ w = w' := by
  have cV := fun v => value_any b G S v w h hD
  have hn := hD.n_le
  have hr := hD.val_rng l.natAbs
  by_cases h0 : l < 0
  · have HV : Hid (S.value (-l) = S.val.getD l.natAbs 0 ∧ S.of l = - S.val.getD l.natAbs 0) := by
      refine ⟨?_, ?_⟩
      · unfold ES.value; rw [if_neg (by omega), show (-l).toNat = l.natAbs by omega]
      · unfold ES.of; rw [if_pos h0]
    have cV := cV (-l)
    rw [HV.out.1] at cV
    have h2 : -9223372036854775807 ≤ l := by omega
    generalize S.val.getD l.natAbs 0 = z at *
    go_enter Try.func16, Try.ntmps16
    go_wp2_with (go_at_call 36; refine cV.mono ?_; rintro e w' ⟨rfl, rfl⟩)
    go_ret
    exact ⟨by rw [HV.out.2]; rfl, rfl⟩
  · have HV : Hid (S.value l = S.of l) := by
      show _ = _
      unfold ES.value ES.of; rw [if_neg (by omega), if_neg h0, show l.toNat = l.natAbs by omega]
    have cV := cV l
    rw [HV.out] at cV
    go_enter Try.func16, Try.ntmps16
    go_wp2_with (go_at_call 36; refine cV.mono ?_; rintro e w' ⟨rfl, rfl⟩)
    go_ret
    exact ⟨rfl, rfl⟩
end Go.Proofs.Ytaileihnkmjfiaa
