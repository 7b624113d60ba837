/-
  An object of one struct, one list of lists of integers and one more list, in memory: what a store, an append or a new list does to it. Conditions: none; plain lemmas.
-/
import Derived.Test.YtaileihnkmjfiaaT10
import Derived.Test.YtaileihnkmjfiaaL0
namespace Go.Proofs.Ytaileihnkmjfiaa
open Go.RowKit

/-- its rows: the struct, the list of lists, the other list, the inner lists -/
def obD (G : GH) (cells : List Value) (L : List (List Int)) (n2 : Nat) (xs2 : List Value) : Ro → RD
  | .inl 1 => ⟨G.g (.inl 1), G.c (.inl 1), L.length, rowsOf G 0 L⟩
  | .inl 3 => ⟨G.g (.inl 3), G.c (.inl 3), n2, xs2⟩
  | .inl 16 => ⟨G.g (.inl 16), 1, 1, cells⟩
  | .inr (0, k) => ⟨G.g (.inr (0, k)), G.c (.inr (0, k)), (L.getD k []).length, ints (L.getD k [])⟩
  | _ => ⟨none, 0, 0, []⟩

def obT (T sz T2 sz2 : Nat) : Ro → Nat × Nat
  | .inl 1 => (28, 1)
  | .inl 3 => (T2, sz2)
  | .inl 16 => (T, sz)
  | _ => (3, 1)

def obB : Ro → Bool
  | .inl f => f == 1 || f == 3 || f == 16
  | .inr (t, _) => t == 0

/-- the object's blocks -/
def fo (G : GH) (x : Nat) : Prop := ∃ r, obB r = true ∧ G.g r = some x

theorem obD_other (G : GH) (cells : List Value) (L : List (List Int)) (n2 : Nat) (xs2 : List Value) (r : Ro) (h : obB r = false) : obD G cells L n2 xs2 r = ⟨none, 0, 0, []⟩ := by
  unfold obD
  split <;> first | rfl | (simp [obB] at h)

theorem ob_cases {P : Ro → Prop} (h0 : ∀ r, obB r = false → P r) (h1 : P (.inl 1)) (h3 : P (.inl 3)) (h16 : P (.inl 16)) (i0 : ∀ k, P (.inr (0, k))) : ∀ r, P r := by
  intro r
  by_cases h : obB r = true
  · rcases r with f | ⟨t, k⟩
    · simp only [obB, Bool.or_eq_true, beq_iff_eq] at h
      rcases h with (h | h) | h <;> subst h <;> assumption
    · simp only [obB, beq_iff_eq] at h
      subst h
      exact i0 k
  · exact h0 r (by simpa using h)

theorem obD_g (G : GH) (cells : List Value) (L : List (List Int)) (n2 : Nat) (xs2 : List Value) (r : Ro) : (obD G cells L n2 xs2 r).g = if obB r = true then G.g r else none :=
  ob_cases (P := fun r => (obD G cells L n2 xs2 r).g = if obB r = true then G.g r else none) (fun r h => by rw [obD_other G cells L n2 xs2 r h]; simp [h]) rfl rfl rfl (fun _ => rfl) r

theorem feet_ob (G : GH) (cells : List Value) (L : List (List Int)) (n2 : Nat) (xs2 : List Value) : feet (obD G cells L n2 xs2) = fo G := by
  funext x
  refine propext ⟨fun ⟨r, hr⟩ => ?_, fun ⟨r, hk, hr⟩ => ⟨r, by rw [obD_g, if_pos hk, hr]⟩⟩
  rw [obD_g] at hr
  by_cases hk : obB r = true
  · exact ⟨r, hk, by rwa [if_pos hk] at hr⟩
  · rw [if_neg hk] at hr; cases hr

/-- the struct's cells -/
abbrev obC (mk : Value → Value → List Value) (G : GH) (L : List (List Int)) (n2 : Nat) : List Value :=
  mk (sv (G.g (.inl 1)) L.length (G.c (.inl 1))) (sv (G.g (.inl 3)) n2 (G.c (.inl 3)))

structure Ob (T sz T2 sz2 : Nat) (w : World) (b : Nat) (G : GH) (mk : Value → Value → List Value) (L : List (List Int)) (n2 : Nat) (xs2 : List Value) : Prop where
  own : Own (obT T sz T2 sz2) w (obD G (obC mk G L n2) L n2 xs2)
  at_ : G.g (.inl 16) = some b
  out0 : ∀ k, L.length ≤ k → G.g (.inr (0, k)) = none

section
variable {T sz T2 sz2 : Nat} {w : World} {b : Nat} {G : GH} {mk : Value → Value → List Value} {L : List (List Int)} {n2 : Nat} {xs2 : List Value}

theorem Ob.field (h : Ob T sz T2 sz2 w b G mk L n2 xs2) {i : Nat} {u : Value} (hi : (obC mk G L n2)[i]? = some u) : w.cell? ⟨b, i, none⟩ = some u :=
  h.own.cell (.inl 16) (D := obD G _ L n2 xs2) h.at_ hi
theorem Ob.ff (h : Ob T sz T2 sz2 w b G mk L n2 xs2) (i : Nat) : w.frozen? ⟨b, i, none⟩ = false := h.own.frozen (.inl 16) (D := obD G _ L n2 xs2) i h.at_
theorem Ob.row1 (h : Ob T sz T2 sz2 w b G mk L n2 xs2) : Rw w 28 1 ⟨G.g (.inl 1), G.c (.inl 1), L.length, rowsOf G 0 L⟩ := h.own.row (.inl 1)
theorem Ob.row2 (h : Ob T sz T2 sz2 w b G mk L n2 xs2) : Rw w T2 sz2 ⟨G.g (.inl 3), G.c (.inl 3), n2, xs2⟩ := h.own.row (.inl 3)
theorem Ob.rowk (h : Ob T sz T2 sz2 w b G mk L n2 xs2) (k : Nat) : Rw w 3 1 ⟨G.g (.inr (0, k)), G.c (.inr (0, k)), (L.getD k []).length, ints (L.getD k [])⟩ := h.own.row (.inr (0, k))
theorem Ob.l1 (h : Ob T sz T2 sz2 w b G mk L n2 xs2) (hn : 0 < L.length) : ∃ g, G.g (.inl 1) = some g := h.row1.isome hn
theorem Ob.l2 (h : Ob T sz T2 sz2 w b G mk L n2 xs2) (hn : 0 < n2) : ∃ g, G.g (.inl 3) = some g := h.row2.isome hn
theorem Ob.lk (h : Ob T sz T2 sz2 w b G mk L n2 xs2) {k : Nat} (hn : 0 < (L.getD k []).length) : ∃ g, G.g (.inr (0, k)) = some g := (h.rowk k).isome hn
theorem Ob.e1 (h : Ob T sz T2 sz2 w b G mk L n2 xs2) {g k : Nat} (hg : G.g (.inl 1) = some g) (hk : k < L.length) : w.cell? ⟨g, k, none⟩ = some (sv (G.g (.inr (0, k))) (L.getD k []).length (G.c (.inr (0, k)))) :=
  h.row1.cellv hg (by simp [rowsOf, hk])
theorem Ob.e2 (h : Ob T sz T2 sz2 w b G mk L n2 xs2) {g k : Nat} {u : Value} (hg : G.g (.inl 3) = some g) (hu : xs2[k]? = some u) : w.cell? ⟨g, k, none⟩ = some u :=
  h.row2.cellv hg hu
theorem Ob.ek (h : Ob T sz T2 sz2 w b G mk L n2 xs2) {g k j : Nat} (hg : G.g (.inr (0, k)) = some g) (hj : j < (L.getD k []).length) : w.cell? ⟨g, j, none⟩ = some (i64 ((L.getD k []).getD j 0)) :=
  (h.rowk k).cellv hg (by simp only [ints, List.getElem?_map]; simp [List.getD] at *; simp [hj])

theorem Ob.drew (h : Ob T sz T2 sz2 w b G mk L n2 xs2) : Ob T sz T2 sz2 w.drew b G mk L n2 xs2 := ⟨h.own.drew, h.at_, h.out0⟩
theorem Ob.drewN {k : Nat} (h : Ob T sz T2 sz2 w b G mk L n2 xs2) : Ob T sz T2 sz2 (w.drewN k) b G mk L n2 xs2 := ⟨h.own.drewN, h.at_, h.out0⟩
theorem Ob.alloc (h : Ob T sz T2 sz2 w b G mk L n2 xs2) (o : Obj) : Ob T sz T2 sz2 (w.alloc o) b G mk L n2 xs2 := ⟨h.own.alloc o, h.at_, h.out0⟩
theorem Ob.apart {w' : World} {F F' : Nat → Prop} (h : Ob T sz T2 sz2 w b G mk L n2 xs2) (t : Turned F w F' w') (hd : ∀ g, fo G g → ¬ F g) : Ob T sz T2 sz2 w' b G mk L n2 xs2 :=
  ⟨h.own.apart t (feet_ob G _ L n2 xs2 ▸ hd), h.at_, h.out0⟩
theorem Ob.setFar (h : Ob T sz T2 sz2 w b G mk L n2 xs2) {p : Addr} (v : Value) (hp : ¬ fo G p.block) : Ob T sz T2 sz2 (w.setCell p v) b G mk L n2 xs2 := ⟨h.own.setFar v (feet_ob G _ L n2 xs2 ▸ hp), h.at_, h.out0⟩
theorem Ob.foot_b (h : Ob T sz T2 sz2 w b G mk L n2 xs2) : fo G b := ⟨.inl 16, rfl, h.at_⟩
theorem Ob.flt (h : Ob T sz T2 sz2 w b G mk L n2 xs2) {x : Nat} (hx : fo G x) : x < w.heap.size := h.own.lt (feet_ob G _ L n2 xs2 ▸ hx)
theorem Ob.lt (h : Ob T sz T2 sz2 w b G mk L n2 xs2) : b < w.heap.size := h.flt h.foot_b
theorem Ob.below {w' : World} (h : Ob T sz T2 sz2 w b G mk L n2 xs2) (hb : Below w.heap.size w w') : Ob T sz T2 sz2 w' b G mk L n2 xs2 :=
  ⟨h.own.of_heap fun g hg => hb.block g (h.own.lt hg), h.at_, h.out0⟩

/-- the struct is still there in the middle of a step on a list -/
theorem Ob.mid (h : Ob T sz T2 sz2 w b G mk L n2 xs2) {w1 : World} {r : Ro} (hr : r ≠ .inl 16) (ho : obB r = true) (hgr : w.grownBy w1 (G.g r)) {i : Nat} {u : Value} (hi : (obC mk G L n2)[i]? = some u) :
    w1.cell? ⟨b, i, none⟩ = some u ∧ w1.frozen? ⟨b, i, none⟩ = false := by
  have hb : w1.heap[b]? = w.heap[b]? := hgr.block b h.lt (fun e => hr (h.own.inj r (.inl 16) b (by rw [obD_g, if_pos ho, ← e]) h.at_))
  exact ⟨(World.cell?_of_block (a := ⟨b, i, none⟩) hb).trans (h.field hi), (World.frozen?_of_block (a := ⟨b, i, none⟩) hb).trans (h.ff i)⟩

/-- a store into a plain field -/
theorem Ob.setMk (h : Ob T sz T2 sz2 w b G mk L n2 xs2) (i : Nat) (v : Value) {mk' : Value → Value → List Value} (hm : (obC mk G L n2).set i v = obC mk' G L n2) : Ob T sz T2 sz2 (w.setCell ⟨b, i, none⟩ v) b G mk' L n2 xs2 := by
  have O := h.own.set (.inl 16) (D := obD G _ L n2 xs2) i v h.at_
  have e : upd (obD G (obC mk G L n2) L n2 xs2) (.inl 16) { obD G (obC mk G L n2) L n2 xs2 (.inl 16) with xs := (obD G (obC mk G L n2) L n2 xs2 (.inl 16)).xs.set i v } = obD G (obC mk' G L n2) L n2 xs2 := by
    funext r
    refine ob_cases (P := fun r => upd (obD G (obC mk G L n2) L n2 xs2) (.inl 16) { obD G (obC mk G L n2) L n2 xs2 (.inl 16) with xs := (obD G (obC mk G L n2) L n2 xs2 (.inl 16)).xs.set i v } r = obD G (obC mk' G L n2) L n2 xs2 r) (fun r hr => ?_) rfl rfl ?_ (fun _ => rfl) r
    · rw [upd_other _ _ (fun e => by subst e; cases hr), obD_other _ _ _ _ _ r hr, obD_other _ _ _ _ _ r hr]
    · rw [upd_same]
      show (⟨_, _, _, _⟩ : RD) = ⟨_, _, _, _⟩
      congr 1
  exact ⟨e ▸ O, h.at_, h.out0⟩

/-- the other list put anew: a longer one, a cut one, another one -/
theorem Ob.put2 (h : Ob T sz T2 sz2 w b G mk L n2 xs2) {w1 : World} {d : RD} (i : Nat) (hrw : Rw w1 T2 sz2 d) (hg : d.g = G.g (.inl 3) ∨ ∀ k, d.g = some k → w.heap.size ≤ k) (hgr : w.grownBy w1 (G.g (.inl 3)))
    (hm : (obC mk G L n2).set i d.v = mk (sv (G.g (.inl 1)) L.length (G.c (.inl 1))) d.v) :
    Ob T sz T2 sz2 (w1.setCell ⟨b, i, none⟩ d.v) b (G.upd (.inl 3) d) mk L d.n d.xs ∧ Turned (fo G) w (fo (G.upd (.inl 3) d)) (w1.setCell ⟨b, i, none⟩ d.v) := by
  have O := h.own.put (.inl 3) (D := obD G _ L n2 xs2) (d := d) hrw hg hgr
  have hu16 : upd (obD G (obC mk G L n2) L n2 xs2) (.inl 3) d (.inl 16) = obD G (obC mk G L n2) L n2 xs2 (.inl 16) := rfl
  have O2 := O.set (.inl 16) (g := b) i d.v h.at_
  have e : upd (upd (obD G (obC mk G L n2) L n2 xs2) (.inl 3) d) (.inl 16) { upd (obD G (obC mk G L n2) L n2 xs2) (.inl 3) d (.inl 16) with xs := (upd (obD G (obC mk G L n2) L n2 xs2) (.inl 3) d (.inl 16)).xs.set i d.v } = obD (G.upd (.inl 3) d) (obC mk (G.upd (.inl 3) d) L d.n) L d.n d.xs := by
    funext r
    refine ob_cases (P := fun r => upd (upd (obD G (obC mk G L n2) L n2 xs2) (.inl 3) d) (.inl 16) { upd (obD G (obC mk G L n2) L n2 xs2) (.inl 3) d (.inl 16) with xs := (upd (obD G (obC mk G L n2) L n2 xs2) (.inl 3) d (.inl 16)).xs.set i d.v } r = obD (G.upd (.inl 3) d) (obC mk (G.upd (.inl 3) d) L d.n) L d.n d.xs r) (fun r hr => ?_) ?_ ?_ ?_ (fun k => ?_) r
    · rw [upd_other _ _ (fun e => by subst e; cases hr), upd_other _ _ (fun e => by subst e; cases hr), obD_other _ _ _ _ _ r hr, obD_other _ _ _ _ _ r hr]
    · show (⟨_, _, _, _⟩ : RD) = ⟨_, _, _, _⟩
      rw [rowsOf_upd_far]
      rfl
    · show d = (⟨_, _, _, _⟩ : RD)
      simp [GH.upd]
    · rw [upd_same]
      show (⟨_, _, _, _⟩ : RD) = ⟨_, _, _, _⟩
      have e2 : (obC mk G L n2).set i d.v = obC mk (G.upd (.inl 3) d) L d.n := by
        rw [hm]
        unfold obC
        simp [GH.upd, RD.v]
      congr 1
    · show (⟨_, _, _, _⟩ : RD) = ⟨_, _, _, _⟩
      simp [GH.upd]
  refine ⟨⟨e ▸ O2, by simpa [GH.upd] using h.at_, fun k hk => by simpa [GH.upd] using h.out0 k hk⟩, ?_⟩
  have T1 := Turned.put (D := obD G (obC mk G L n2) L n2 xs2) (.inl 3) hg hgr
  rw [← feet_ob G (obC mk G L n2) L n2 xs2, ← feet_ob (G.upd (.inl 3) d) (obC mk (G.upd (.inl 3) d) L d.n) L d.n d.xs, ← e]
  refine T1.trans ?_
  exact ⟨rfl, rfl, rfl, by simp [World.setCell], fun k _ hF => Below.heap_setCell _ _ _ _ (fun e' => hF (e' ▸ ⟨.inl 16, h.at_⟩)), fun k hk => .inl (by
    rcases feet_upd hk with hk | hk
    · exact hk
    · exact ⟨.inl 16, hk⟩)⟩

/-- a list more, which was another's row until now -/
theorem Ob.push (h : Ob T sz T2 sz2 w b G mk L n2 xs2) {w1 : World} {d dO : RD} (i : Nat) (c : List Int) (hO : Rw w 3 1 dO) (hOn : dO.n = c.length) (hOx : dO.xs = ints c) (hOg : ∀ g, dO.g = some g → ¬ fo G g)
    (hrw : Rw w1 28 1 d) (hn : d.n = L.length + 1) (hx : d.xs = rowsOf G 0 L ++ [sv dO.g dO.n dO.cap]) (hg : d.g = G.g (.inl 1) ∨ ∀ k, d.g = some k → w.heap.size ≤ k) (hgr : w.grownBy w1 (G.g (.inl 1)))
    (hm : (obC mk G L n2).set i d.v = mk d.v (sv (G.g (.inl 3)) n2 (G.c (.inl 3)))) :
    Ob T sz T2 sz2 (w1.setCell ⟨b, i, none⟩ d.v) b ((G.upd (.inl 1) d).upd (.inr (0, L.length)) dO) mk (L ++ [c]) n2 xs2 ∧
    Turned (fo G) w (fun k => fo G k ∨ w.heap.size ≤ k) (w1.setCell ⟨b, i, none⟩ d.v) ∧ (∀ k, fo ((G.upd (.inl 1) d).upd (.inr (0, L.length)) dO) k → fo G k ∨ w.heap.size ≤ k ∨ dO.g = some k) := by
  have O := h.own.put (.inl 1) (D := obD G (obC mk G L n2) L n2 xs2) (d := d) hrw hg hgr
  have hOg' : ∀ g, dO.g = some g → ¬ feet (upd (obD G (obC mk G L n2) L n2 xs2) (.inl 1) d) g := by
    intro g hgo hf
    rcases feet_upd hf with hf | hf
    · exact hOg g hgo (feet_ob G _ _ _ _ ▸ hf)
    · rcases hg with hg | hg
      · exact hOg g hgo ⟨.inl 1, rfl, hg ▸ hf⟩
      · have h1 := hg g hf
        have h2 := hO.lt hgo
        omega
  have hO1 : Rw w1 3 1 dO := hO.grown hgr (fun g hgo e => hOg g hgo ⟨.inl 1, rfl, e⟩)
  have OA := O.adopt (.inr (0, L.length)) hO1 hOg'
  have hu16 : upd (upd (obD G (obC mk G L n2) L n2 xs2) (.inl 1) d) (.inr (0, L.length)) dO (.inl 16) = obD G (obC mk G L n2) L n2 xs2 (.inl 16) := by rw [upd_inr_inl]; rfl
  have O2 := OA.set (.inl 16) (g := b) i d.v (by rw [hu16]; exact h.at_)
  have e : upd (upd (upd (obD G (obC mk G L n2) L n2 xs2) (.inl 1) d) (.inr (0, L.length)) dO) (.inl 16) { upd (upd (obD G (obC mk G L n2) L n2 xs2) (.inl 1) d) (.inr (0, L.length)) dO (.inl 16) with xs := (upd (upd (obD G (obC mk G L n2) L n2 xs2) (.inl 1) d) (.inr (0, L.length)) dO (.inl 16)).xs.set i d.v } = obD ((G.upd (.inl 1) d).upd (.inr (0, L.length)) dO) (obC mk ((G.upd (.inl 1) d).upd (.inr (0, L.length)) dO) (L ++ [c]) n2) (L ++ [c]) n2 xs2 := by
    rw [hu16]
    funext r
    refine ob_cases (P := fun r => upd (upd (upd (obD G (obC mk G L n2) L n2 xs2) (.inl 1) d) (.inr (0, L.length)) dO) (.inl 16) { obD G (obC mk G L n2) L n2 xs2 (.inl 16) with xs := (obD G (obC mk G L n2) L n2 xs2 (.inl 16)).xs.set i d.v } r = obD ((G.upd (.inl 1) d).upd (.inr (0, L.length)) dO) (obC mk ((G.upd (.inl 1) d).upd (.inr (0, L.length)) dO) (L ++ [c]) n2) (L ++ [c]) n2 xs2 r) (fun r hr => ?_) ?_ ?_ ?_ (fun k => ?_) r
    · rw [upd_other _ _ (fun e => by subst e; cases hr), upd_other _ _ (fun e => by subst e; cases hr), upd_other _ _ (fun e => by subst e; cases hr), obD_other _ _ _ _ _ r hr, obD_other _ _ _ _ _ r hr]
    · rw [upd_inl, if_neg (by simp), upd_inr_inl, upd_same]
      obtain ⟨a1, a2, a3, a4⟩ := d
      simp only at hn hx
      simp only [obD]
      have := rowsOf_snoc_any (G.upd (.inl 1) ⟨a1, a2, a3, a4⟩) 0 L c dO hOn
      rw [this, rowsOf_upd_far, hn, hx]
      simp [GH.upd]
    · rw [upd_inl, if_neg (by simp), upd_inr_inl, upd_inl, if_neg (by simp)]; simp [obD, GH.upd]
    · rw [upd_inl, if_pos rfl]
      show (⟨_, _, _, _⟩ : RD) = ⟨_, _, _, _⟩
      have e2 : (obC mk G L n2).set i d.v = obC mk ((G.upd (.inl 1) d).upd (.inr (0, L.length)) dO) (L ++ [c]) n2 := by
        rw [hm]
        unfold obC
        simp [GH.upd, RD.v, hn]
      congr 1
    · rw [upd_inl_inr, upd_inr]
      by_cases ek : k = L.length
      · subst ek
        rw [if_pos ⟨rfl, rfl⟩]
        obtain ⟨a1, a2, a3, a4⟩ := dO
        simp only at hOn hOx
        simp only [obD]
        rw [getD_snoc_same, hOn, hOx]; simp [GH.upd]
      · rw [if_neg (fun h => ek h.2), upd_inl_inr]
        simp only [obD]
        rw [getD_snoc_other _ _ _ ek]; simp [GH.upd, ek]
  refine ⟨⟨e ▸ O2, by simpa [GH.upd] using h.at_, fun k hk => ?_⟩, ?_, ?_⟩
  · have hk : L.length + 1 ≤ k := by simpa using hk
    have hne : k ≠ L.length := by omega
    simpa [GH.upd, hne] using h.out0 k (by omega)
  · exact ⟨hgr.os, hgr.tape, hgr.output, by have := hgr.size; simpa [World.setCell] using this,
      fun k hk hF => (Below.heap_setCell w1 ⟨b, i, none⟩ d.v k (fun e' => hF (e' ▸ h.foot_b))).trans (hgr.block k hk (fun e' => hF ⟨.inl 1, rfl, e'.symm⟩)), fun k hk => hk⟩
  · rintro k ⟨r, hr, hk⟩
    by_cases e1 : r = .inr (0, L.length)
    · subst e1
      exact .inr (.inr (by simpa [GH.upd] using hk))
    · by_cases e2 : r = .inl 1
      · subst e2
        have hk : d.g = some k := by simpa [GH.upd] using hk
        rcases hg with hg | hg
        · exact .inl ⟨.inl 1, rfl, hg ▸ hk⟩
        · exact .inr (.inl (hg k hk))
      · exact .inl ⟨r, hr, by simpa [GH.upd, e1, e2] using hk⟩

/-- a new object: its struct alone, both lists nil -/
def obG (b : Nat) : GH := ⟨fun r => if r = .inl 16 then some b else none, fun r => if r = .inl 16 then 1 else 0⟩
theorem fo_obG {b x : Nat} (h : fo (obG b) x) : x = b := by
  obtain ⟨r, _, hr⟩ := h
  simp only [obG] at hr
  split at hr
  · exact (Option.some.inj hr).symm
  · cases hr
theorem Ob.new {cells : Array Value} (hb : w.heap[b]? = some (.cells cells T (0, 0))) (hs : cells.size = sz) (hm : mk (.slice none 0 0) (.slice none 0 0) = cells.toList) : Ob T sz T2 sz2 w b (obG b) mk [] 0 [] := by
  refine ⟨⟨?_, fun r r' g hr hr' => ?_⟩, rfl, fun _ _ => rfl⟩
  · have r16 := Rw.new (n := 1) (sz := sz) hb (by omega) (by simp [maxLen])
    refine ob_cases (P := fun r => Rw w (obT T sz T2 sz2 r).1 (obT T sz T2 sz2 r).2 (obD (obG b) (obC mk (obG b) [] 0) [] 0 [] r)) (fun r h => by rw [obD_other _ _ _ _ _ r h]; exact Rw.empty _ _ _) (Rw.empty _ _ _) (Rw.empty _ _ _) ?_ (fun k => ?_)
    · have e : obD (obG b) (obC mk (obG b) [] 0) [] 0 [] (.inl 16) = ⟨some b, 1, 1, cells.toList⟩ := by
        show (⟨_, _, _, _⟩ : RD) = _
        have e2 : obC mk (obG b) [] 0 = cells.toList := hm
        rw [e2]
        rfl
      rw [e]
      exact r16
    · have e : obD (obG b) (obC mk (obG b) [] 0) [] 0 [] (.inr (0, k)) = ⟨none, 0, 0, []⟩ := rfl
      rw [e]
      exact Rw.empty _ _ _
  · rw [obD_g] at hr hr'
    have a : ∀ r, (if obB r = true then (obG b).g r else none) = some g → r = .inl 16 := by
      intro r h
      split at h
      · simp only [obG] at h
        split at h
        · assumption
        · cases h
      · cases h
    rw [a r hr, a r' hr']
end
end Go.Proofs.Ytaileihnkmjfiaa
