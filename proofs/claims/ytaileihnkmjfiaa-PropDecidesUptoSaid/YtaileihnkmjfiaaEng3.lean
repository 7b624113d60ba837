/-
  Steps on an engine's lists of lists (watch, held). Conditions: none; plain lemmas.
-/
import Derived.Test.YtaileihnkmjfiaaT2
namespace Go.Proofs.Ytaileihnkmjfiaa
open Go.RowKit

theorem rowsOf_snoc {α : Type} (G : GH) (t : Nat) (L : List (List α)) (hg : G.g (.inr (t, L.length)) = none) (hc : G.c (.inr (t, L.length)) = 0) : rowsOf G t (L ++ [[]]) = rowsOf G t L ++ [.slice none 0 0] := by
  unfold rowsOf
  rw [List.length_append, List.length_singleton, List.range_succ, List.map_append]
  congr 1
  · refine List.map_congr_left fun k hk => ?_
    have hk : k < L.length := by simpa using hk
    simp [List.getD, List.getElem?_append_left hk]
  · simp [sv, hg, hc, List.getD]

theorem getD_snoc_nil {α : Type} (L : List (List α)) (k : Nat) : (L ++ [[]]).getD k [] = L.getD k [] := by
  by_cases hk : k < L.length
  · simp [List.getD, List.getElem?_append_left hk]
  · have h1 : L[k]? = none := List.getElem?_eq_none (by omega)
    by_cases e : k = L.length
    · subst e; simp [List.getD]
    · simp [List.getD, h1, List.getElem?_append_right (show L.length ≤ k by omega), List.getElem?_eq_none (l := [([] : List α)]) (i := k - L.length) (by simp; omega)]

theorem rowsOf_upd_far {α : Type} (G : GH) (t : Nat) (L : List (List α)) (f : Nat) (d : RD) : rowsOf (G.upd (.inl f) d) t L = rowsOf G t L := by
  simp [rowsOf, GH.upd]
theorem rowsOf_upd_other {α : Type} (G : GH) (t t' i : Nat) (L : List (List α)) (d : RD) (h : t ≠ t') : rowsOf (G.upd (.inr (t', i)) d) t L = rowsOf G t L := by
  simp [rowsOf, GH.upd, h]
theorem rowsOf_upd {α : Type} (G : GH) (t i : Nat) (L : List (List α)) (x : List α) (d : RD) (hn : d.n = x.length) : rowsOf (G.upd (.inr (t, i)) d) t (L.set i x) = (rowsOf G t L).set i d.v := by
  apply List.ext_getElem?
  intro k
  unfold rowsOf
  rw [List.length_set, List.getElem?_map, List.getElem?_set, List.getElem?_map]
  by_cases hk : k < L.length
  · by_cases e : i = k
    · subst e; simp [hk, GH.upd, RD.v, hn, List.getD]
    · have e' : ¬ k = i := fun h => e h.symm
      simp [hk, e, e', GH.upd, List.getD]
  · simp [hk]
    intro e; omega
theorem getD_set_ne {α : Type} (L : List α) (z x : α) {i k : Nat} (h : k ≠ i) : (L.set i x).getD k z = L.getD k z := by
  simp [List.getD, List.getElem?_set_ne (Ne.symm h)]
theorem getD_set_same {α : Type} (L : List α) (z x : α) {i : Nat} (h : i < L.length) : (L.set i x).getD i z = x := by
  simp [List.getD, h]

section
variable {w : World} {b : Nat} {G : GH} {S : ES}
theorem Eng.pushWt (h : Eng w b G S) {w1 : World} {d : RD} (hrw : Rw w1 28 1 d) (hn : d.n = S.wt.length + 1) (hx : d.xs = (engD G S (.inl 4)).xs ++ [.slice none 0 0]) (hg : d.g = G.g (.inl 4) ∨ ∀ k, d.g = some k → w.heap.size ≤ k) (hgr : w.grownBy w1 (G.g (.inl 4))) :
    Eng (w1.setCell ⟨b, 4, none⟩ d.v) b (G.upd (.inl 4) d) { S with wt := S.wt ++ [[]] } ∧ Turned (ft G) w (ft (G.upd (.inl 4) d)) (w1.setCell ⟨b, 4, none⟩ d.v) ∧ w1.cell? ⟨b, 4, none⟩ = some (sv (G.g (.inl 4)) S.wt.length (G.c (.inl 4))) ∧ w1.frozen? ⟨b, 4, none⟩ = false := by
  have O := h.own.put (.inl 4) (D := engD G S) (d := d) hrw hg hgr
  rw [← feet_eq G S]
  have T1 := Turned.put (D := engD G S) (.inl 4) hg hgr
  have c := O.cell (.inl 16) (g := b) (i := 4) (u := sv (G.g (.inl 4)) S.wt.length (G.c (.inl 4))) h.at_ rfl
  have O2 := O.set (.inl 16) (g := b) 4 d.v h.at_
  have hcz : G.c (.inr (1, S.wt.length)) = 0 := (h.row (.inr (1, S.wt.length))).nil (h.out1 _ (Nat.le_refl _))
  have e : upd (upd (engD G S) (.inl 4) d) (.inl 16) { engD G S (.inl 16) with xs := (engD G S (.inl 16)).xs.set 4 d.v } = engD (G.upd (.inl 4) d) { S with wt := S.wt ++ [[]] } :=
    engD_ext (fun f hf => by rw [upd_inl, if_neg (other_ne hf rfl), upd_inl, if_neg (other_ne hf rfl), engD_other G S f hf]) rfl rfl (by rw [show upd (upd (engD G S) (.inl 4) d) (.inl 16) _ (.inl 4) = d from rfl]; obtain ⟨a1, a2, a3, a4⟩ := d; simp only at hn hx; simp only [engD]; rw [rowsOf_upd_far, rowsOf_snoc G 1 S.wt (h.out1 _ (Nat.le_refl _)) hcz, hn, hx]; simp [GH.upd, engD]) rfl rfl rfl rfl rfl rfl rfl rfl (by show (⟨_, _, _, _⟩ : RD) = _; simp [engD, GH.upd, stc, RD.v, hn]) (fun _ => rfl) (fun k => by show (⟨_, _, _, _⟩ : RD) = ⟨_, _, _, _⟩; simp only [getD_snoc_nil, GH.upd]; rfl) (fun _ => rfl) (fun _ _ => rfl)
  refine ⟨⟨e ▸ O2, h.at_, h.out0, fun k hk => h.out1 k (by simp at hk; omega), h.out2⟩, ?_, c, O.frozen (.inl 16) (g := b) 4 h.at_⟩
  rw [← feet_eq _ { S with wt := S.wt ++ [[]] }, ← e]
  refine T1.trans ?_
  exact ⟨rfl, rfl, rfl, by simp [World.setCell], fun k _ hF => Below.heap_setCell _ _ _ _ (fun e' => hF (e' ▸ ⟨.inl 16, h.at_⟩)), fun k hk => .inl (by
    rcases feet_upd hk with hk | hk
    · exact hk
    · exact ⟨.inl 16, hk⟩)⟩
theorem Eng.rowWt (h : Eng w b G S) {w1 : World} {d : RD} {g i : Nat} (x : List Nat) (hi : i < S.wt.length) (hgo : G.g (.inl 4) = some g) (hrw : Rw w1 3 1 d) (hn : d.n = x.length) (hx : d.xs = nats x) (hg : d.g = G.g (.inr (1, i)) ∨ ∀ k, d.g = some k → w.heap.size ≤ k) (hgr : w.grownBy w1 (G.g (.inr (1, i)))) :
    Eng (w1.setCell ⟨g, i, none⟩ d.v) b (G.upd (.inr (1, i)) d) { S with wt := S.wt.set i x } ∧ Turned (ft G) w (ft (G.upd (.inr (1, i)) d)) (w1.setCell ⟨g, i, none⟩ d.v) ∧ w1.cell? ⟨g, i, none⟩ = some (sv (G.g (.inr (1, i))) (S.wt.getD i []).length (G.c (.inr (1, i)))) ∧ w1.frozen? ⟨g, i, none⟩ = false := by
  have O := h.own.put (.inr (1, i)) (D := engD G S) (d := d) hrw hg hgr
  rw [← feet_eq G S]
  have T1 := Turned.put (D := engD G S) (.inr (1, i)) hg hgr
  have hu : upd (engD G S) (.inr (1, i)) d (.inl 4) = engD G S (.inl 4) := upd_inr_inl
  have c := O.cell (.inl 4) (g := g) (i := i) (u := sv (G.g (.inr (1, i))) (S.wt.getD i []).length (G.c (.inr (1, i)))) (by rw [hu]; exact hgo) (by rw [hu]; simp [engD, rowsOf, hi])
  have O2 := O.set (.inl 4) (g := g) i d.v (by rw [hu]; exact hgo)
  have e : upd (upd (engD G S) (.inr (1, i)) d) (.inl 4) { upd (engD G S) (.inr (1, i)) d (.inl 4) with xs := (upd (engD G S) (.inr (1, i)) d (.inl 4)).xs.set i d.v } = engD (G.upd (.inr (1, i)) d) { S with wt := S.wt.set i x } :=
    engD_ext (fun f hf => by rw [upd_inl, if_neg (other_ne hf rfl), upd_inr_inl, engD_other G S f hf])
      (by rw [upd_inl, if_neg (by simp), upd_inr_inl]; simp only [engD]; rw [rowsOf_upd_other G 0 1 i _ d (by simp)]; simp [GH.upd])
      (by rw [upd_inl, if_neg (by simp), upd_inr_inl]; simp [engD, GH.upd])
      (by rw [upd_same]; simp only [hu]; simp only [engD]; rw [rowsOf_upd G 1 i S.wt x d hn]; simp [GH.upd])
      (by rw [upd_inl, if_neg (by simp), upd_inr_inl]; simp only [engD]; rw [rowsOf_upd_other G 2 1 i _ d (by simp)]; simp [GH.upd])
      (by rw [upd_inl, if_neg (by simp), upd_inr_inl]; simp [engD, GH.upd])
      (by rw [upd_inl, if_neg (by simp), upd_inr_inl]; simp [engD, GH.upd])
      (by rw [upd_inl, if_neg (by simp), upd_inr_inl]; simp [engD, GH.upd])
      (by rw [upd_inl, if_neg (by simp), upd_inr_inl]; simp [engD, GH.upd])
      (by rw [upd_inl, if_neg (by simp), upd_inr_inl]; simp [engD, GH.upd])
      (by rw [upd_inl, if_neg (by simp), upd_inr_inl]; simp [engD, GH.upd])
      (by rw [upd_inl, if_neg (by simp), upd_inr_inl]; simp [engD, GH.upd])
      (by rw [upd_inl, if_neg (by simp), upd_inr_inl]; simp [engD, GH.upd, stc])
      (fun k => by rw [upd_inl_inr, upd_inr, if_neg (by simp)]; simp [engD, GH.upd])
      (fun k => (Decidable.em (k = i)).elim (fun e => by subst e; rw [upd_inl_inr, upd_same]; obtain ⟨a1, a2, a3, a4⟩ := d; simp only at hn hx; simp only [engD, GH.upd]; rw [getD_set_same S.wt [] x hi, hn, hx]; simp) (fun e => by rw [upd_inl_inr, upd_inr, if_neg (fun h => e h.2)]; simp only [engD, getD_set_ne S.wt [] x e]; simp [GH.upd, e]))
      (fun k => by rw [upd_inl_inr, upd_inr, if_neg (by simp)]; simp [engD, GH.upd]) (fun t k => by rw [upd_inl_inr, upd_inr, if_neg (by omega)]; rfl)
  refine ⟨⟨e ▸ O2, by simpa [GH.upd] using h.at_, fun k hk => ?_, fun k hk => ?_, fun k hk => ?_⟩, ?_, c, O.frozen (.inl 4) (g := g) i (by rw [hu]; exact hgo)⟩
  · simpa [GH.upd] using h.out0 k hk
  · have hk : S.wt.length ≤ k := (by simpa using hk); have hne : k ≠ i := (by omega); simpa [GH.upd, hne] using h.out1 k hk
  · simpa [GH.upd] using h.out2 k hk
  rw [← feet_eq _ { S with wt := S.wt.set i x }, ← e]
  refine T1.trans ?_
  exact ⟨rfl, rfl, rfl, by simp [World.setCell], fun k _ hF => Below.heap_setCell _ _ _ _ (fun e' => hF (e' ▸ ⟨.inl 4, by rw [hu]; exact hgo⟩)), fun k hk => .inl (by
    rcases feet_upd hk with hk | hk
    · exact hk
    · exact ⟨.inl 4, hk⟩)⟩
theorem Eng.pushHl (h : Eng w b G S) {w1 : World} {d : RD} (hrw : Rw w1 28 1 d) (hn : d.n = S.hl.length + 1) (hx : d.xs = (engD G S (.inl 5)).xs ++ [.slice none 0 0]) (hg : d.g = G.g (.inl 5) ∨ ∀ k, d.g = some k → w.heap.size ≤ k) (hgr : w.grownBy w1 (G.g (.inl 5))) :
    Eng (w1.setCell ⟨b, 5, none⟩ d.v) b (G.upd (.inl 5) d) { S with hl := S.hl ++ [[]] } ∧ Turned (ft G) w (ft (G.upd (.inl 5) d)) (w1.setCell ⟨b, 5, none⟩ d.v) ∧ w1.cell? ⟨b, 5, none⟩ = some (sv (G.g (.inl 5)) S.hl.length (G.c (.inl 5))) ∧ w1.frozen? ⟨b, 5, none⟩ = false := by
  have O := h.own.put (.inl 5) (D := engD G S) (d := d) hrw hg hgr
  rw [← feet_eq G S]
  have T1 := Turned.put (D := engD G S) (.inl 5) hg hgr
  have c := O.cell (.inl 16) (g := b) (i := 5) (u := sv (G.g (.inl 5)) S.hl.length (G.c (.inl 5))) h.at_ rfl
  have O2 := O.set (.inl 16) (g := b) 5 d.v h.at_
  have hcz : G.c (.inr (2, S.hl.length)) = 0 := (h.row (.inr (2, S.hl.length))).nil (h.out2 _ (Nat.le_refl _))
  have e : upd (upd (engD G S) (.inl 5) d) (.inl 16) { engD G S (.inl 16) with xs := (engD G S (.inl 16)).xs.set 5 d.v } = engD (G.upd (.inl 5) d) { S with hl := S.hl ++ [[]] } :=
    engD_ext (fun f hf => by rw [upd_inl, if_neg (other_ne hf rfl), upd_inl, if_neg (other_ne hf rfl), engD_other G S f hf]) rfl rfl rfl (by rw [show upd (upd (engD G S) (.inl 5) d) (.inl 16) _ (.inl 5) = d from rfl]; obtain ⟨a1, a2, a3, a4⟩ := d; simp only at hn hx; simp only [engD]; rw [rowsOf_upd_far, rowsOf_snoc G 2 S.hl (h.out2 _ (Nat.le_refl _)) hcz, hn, hx]; simp [GH.upd, engD]) rfl rfl rfl rfl rfl rfl rfl (by show (⟨_, _, _, _⟩ : RD) = _; simp [engD, GH.upd, stc, RD.v, hn]) (fun _ => rfl) (fun _ => rfl) (fun k => by show (⟨_, _, _, _⟩ : RD) = ⟨_, _, _, _⟩; simp only [getD_snoc_nil, GH.upd]; rfl) (fun _ _ => rfl)
  refine ⟨⟨e ▸ O2, h.at_, h.out0, h.out1, fun k hk => h.out2 k (by simp at hk; omega)⟩, ?_, c, O.frozen (.inl 16) (g := b) 5 h.at_⟩
  rw [← feet_eq _ { S with hl := S.hl ++ [[]] }, ← e]
  refine T1.trans ?_
  exact ⟨rfl, rfl, rfl, by simp [World.setCell], fun k _ hF => Below.heap_setCell _ _ _ _ (fun e' => hF (e' ▸ ⟨.inl 16, h.at_⟩)), fun k hk => .inl (by
    rcases feet_upd hk with hk | hk
    · exact hk
    · exact ⟨.inl 16, hk⟩)⟩
theorem Eng.rowHl (h : Eng w b G S) {w1 : World} {d : RD} {g i : Nat} (x : List Nat) (hi : i < S.hl.length) (hgo : G.g (.inl 5) = some g) (hrw : Rw w1 3 1 d) (hn : d.n = x.length) (hx : d.xs = nats x) (hg : d.g = G.g (.inr (2, i)) ∨ ∀ k, d.g = some k → w.heap.size ≤ k) (hgr : w.grownBy w1 (G.g (.inr (2, i)))) :
    Eng (w1.setCell ⟨g, i, none⟩ d.v) b (G.upd (.inr (2, i)) d) { S with hl := S.hl.set i x } ∧ Turned (ft G) w (ft (G.upd (.inr (2, i)) d)) (w1.setCell ⟨g, i, none⟩ d.v) ∧ w1.cell? ⟨g, i, none⟩ = some (sv (G.g (.inr (2, i))) (S.hl.getD i []).length (G.c (.inr (2, i)))) ∧ w1.frozen? ⟨g, i, none⟩ = false := by
  have O := h.own.put (.inr (2, i)) (D := engD G S) (d := d) hrw hg hgr
  rw [← feet_eq G S]
  have T1 := Turned.put (D := engD G S) (.inr (2, i)) hg hgr
  have hu : upd (engD G S) (.inr (2, i)) d (.inl 5) = engD G S (.inl 5) := upd_inr_inl
  have c := O.cell (.inl 5) (g := g) (i := i) (u := sv (G.g (.inr (2, i))) (S.hl.getD i []).length (G.c (.inr (2, i)))) (by rw [hu]; exact hgo) (by rw [hu]; simp [engD, rowsOf, hi])
  have O2 := O.set (.inl 5) (g := g) i d.v (by rw [hu]; exact hgo)
  have e : upd (upd (engD G S) (.inr (2, i)) d) (.inl 5) { upd (engD G S) (.inr (2, i)) d (.inl 5) with xs := (upd (engD G S) (.inr (2, i)) d (.inl 5)).xs.set i d.v } = engD (G.upd (.inr (2, i)) d) { S with hl := S.hl.set i x } :=
    engD_ext (fun f hf => by rw [upd_inl, if_neg (other_ne hf rfl), upd_inr_inl, engD_other G S f hf])
      (by rw [upd_inl, if_neg (by simp), upd_inr_inl]; simp only [engD]; rw [rowsOf_upd_other G 0 2 i _ d (by simp)]; simp [GH.upd])
      (by rw [upd_inl, if_neg (by simp), upd_inr_inl]; simp [engD, GH.upd])
      (by rw [upd_inl, if_neg (by simp), upd_inr_inl]; simp only [engD]; rw [rowsOf_upd_other G 1 2 i _ d (by simp)]; simp [GH.upd])
      (by rw [upd_same]; simp only [hu]; simp only [engD]; rw [rowsOf_upd G 2 i S.hl x d hn]; simp [GH.upd])
      (by rw [upd_inl, if_neg (by simp), upd_inr_inl]; simp [engD, GH.upd])
      (by rw [upd_inl, if_neg (by simp), upd_inr_inl]; simp [engD, GH.upd])
      (by rw [upd_inl, if_neg (by simp), upd_inr_inl]; simp [engD, GH.upd])
      (by rw [upd_inl, if_neg (by simp), upd_inr_inl]; simp [engD, GH.upd])
      (by rw [upd_inl, if_neg (by simp), upd_inr_inl]; simp [engD, GH.upd])
      (by rw [upd_inl, if_neg (by simp), upd_inr_inl]; simp [engD, GH.upd])
      (by rw [upd_inl, if_neg (by simp), upd_inr_inl]; simp [engD, GH.upd])
      (by rw [upd_inl, if_neg (by simp), upd_inr_inl]; simp [engD, GH.upd, stc])
      (fun k => by rw [upd_inl_inr, upd_inr, if_neg (by simp)]; simp [engD, GH.upd])
      (fun k => by rw [upd_inl_inr, upd_inr, if_neg (by simp)]; simp [engD, GH.upd])
      (fun k => (Decidable.em (k = i)).elim (fun e => by subst e; rw [upd_inl_inr, upd_same]; obtain ⟨a1, a2, a3, a4⟩ := d; simp only at hn hx; simp only [engD, GH.upd]; rw [getD_set_same S.hl [] x hi, hn, hx]; simp) (fun e => by rw [upd_inl_inr, upd_inr, if_neg (fun h => e h.2)]; simp only [engD, getD_set_ne S.hl [] x e]; simp [GH.upd, e])) (fun t k => by rw [upd_inl_inr, upd_inr, if_neg (by omega)]; rfl)
  refine ⟨⟨e ▸ O2, by simpa [GH.upd] using h.at_, fun k hk => ?_, fun k hk => ?_, fun k hk => ?_⟩, ?_, c, O.frozen (.inl 5) (g := g) i (by rw [hu]; exact hgo)⟩
  · simpa [GH.upd] using h.out0 k hk
  · simpa [GH.upd] using h.out1 k hk
  · have hk : S.hl.length ≤ k := (by simpa using hk); have hne : k ≠ i := (by omega); simpa [GH.upd, hne] using h.out2 k hk
  rw [← feet_eq _ { S with hl := S.hl.set i x }, ← e]
  refine T1.trans ?_
  exact ⟨rfl, rfl, rfl, by simp [World.setCell], fun k _ hF => Below.heap_setCell _ _ _ _ (fun e' => hF (e' ▸ ⟨.inl 5, by rw [hu]; exact hgo⟩)), fun k hk => .inl (by
    rcases feet_upd hk with hk | hk
    · exact hk
    · exact ⟨.inl 5, hk⟩)⟩
/-- behind an append onto an inner row the struct's fields read as before -/
theorem Eng.far (h : Eng w b G S) {w1 : World} {r : Ro} (hr : r ≠ .inl 16) (hk : knownB r = true) (hgr : w.grownBy w1 (G.g r)) (i : Nat) : w1.cell? ⟨b, i, none⟩ = w.cell? ⟨b, i, none⟩ :=
  hgr.cell_far _ h.lt (fun e => hr (h.own.inj r (.inl 16) b (by rw [engD_g, if_pos hk]; exact e.symm) h.at_))
theorem Eng.far4 (h : Eng w b G S) {w1 : World} {i g : Nat} (hg : G.g (.inl 4) = some g) (hgr : w.grownBy w1 (G.g (.inr (1, i)))) : w1.cell? ⟨b, 4, none⟩ = some (.slice (some ⟨g, 0, none⟩) S.wt.length (G.c (.inl 4))) := by
  rw [h.far (r := .inr (1, i)) (by simp) rfl hgr]; exact h.s4 hg
theorem Eng.far5 (h : Eng w b G S) {w1 : World} {i g : Nat} (hg : G.g (.inl 5) = some g) (hgr : w.grownBy w1 (G.g (.inr (2, i)))) : w1.cell? ⟨b, 5, none⟩ = some (.slice (some ⟨g, 0, none⟩) S.hl.length (G.c (.inl 5))) := by
  rw [h.far (r := .inr (2, i)) (by simp) rfl hgr]; exact h.s5 hg
end
end Go.Proofs.Ytaileihnkmjfiaa
