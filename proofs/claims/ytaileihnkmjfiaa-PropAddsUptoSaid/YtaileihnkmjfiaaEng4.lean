/-
  Stores in place into a watching list, and an append that has room. Conditions: none; plain lemmas.
-/
import Derived.Test.YtaileihnkmjfiaaDat2
namespace Go.Proofs.Ytaileihnkmjfiaa
open Go.RowKit

section
variable {P : Program}
theorem wp_append_room {o : Oper} {a : Act} {w : World} {K : Act → World → Prop} {Q : Exit → Act → World → Prop} (s x : Operand) (t : TypeId)
    (ho : o.op = .call { callee := .builtin .append, args := #[s, x], argTypes := #[t, t] })
    (e : TypeId) (i : TypeInfo) (ht : P.underlying t = some (.slice e)) (hi : P.info? e = some i) (hsize : i.size = 1)
    (g n cap : Nat) (hs : a.eval s = .slice (some ⟨g, 0, none⟩) n cap)
    (ad : Addr) (m c : Nat) (news : List Value) (hx : a.eval x = .slice (some ad) m c) (hl : news.length = m) (hnews : ∀ j u, news[j]? = some u → w.cell? (ad.add j) = some u) (h1 : ∀ u ∈ news, u.oneCell' = true)
    (hroom : n + m ≤ cap) (hc : ∀ j, j < news.length → (w.cell? ⟨g, n + j, none⟩).isSome = true) (hf : ∀ j, j < news.length → w.frozen? ⟨g, n + j, none⟩ = false)
    (h : K (a.put o.dst (.slice (some ⟨g, 0, none⟩) (n + m) cap)) (w.setCells g n news)) : o.wp P a w K Q := by
  have hr := run_append_room_cells (P := P) w t o.type e i ht hi g 0 n cap ad m c news (by rw [hl, hsize, Nat.mul_one]) hnews h1 hroom
    (by intro j hj; have := hc j hj; simpa [hsize] using this) (by intro j hj; have := hf j hj; simpa [hsize] using this)
  simp only [hsize, Nat.mul_one, Nat.zero_add] at hr
  unfold Oper.wp execOp
  simp only [ho, resolve, invoke, builtin, Sem.run_bind, Sem.run_pure, Result.andThen_ok, List.map_toArray, List.map_cons, List.map_nil, hs, hx, hr]
  exact h

theorem wpList_append_room {ops : Array Oper} {rest : List Oper} {o : Oper} {a : Act} {w : World} {Q : Exit → Act → World → Prop} (hgd : o.guard = none) (s x : Operand) (t : TypeId)
    (ho : o.op = .call { callee := .builtin .append, args := #[s, x], argTypes := #[t, t] })
    (e : TypeId) (i : TypeInfo) (ht : P.underlying t = some (.slice e)) (hi : P.info? e = some i) (hsize : i.size = 1)
    (g n cap : Nat) (hs : a.eval s = .slice (some ⟨g, 0, none⟩) n cap)
    (ad : Addr) (m c : Nat) (news : List Value) (hx : a.eval x = .slice (some ad) m c) (hl : news.length = m) (hnews : ∀ j u, news[j]? = some u → w.cell? (ad.add j) = some u) (h1 : ∀ u ∈ news, u.oneCell' = true)
    (hroom : n + m ≤ cap) (hc : ∀ j, j < news.length → (w.cell? ⟨g, n + j, none⟩).isSome = true) (hf : ∀ j, j < news.length → w.frozen? ⟨g, n + j, none⟩ = false)
    (h : wpList P ops Q rest (a.put o.dst (.slice (some ⟨g, 0, none⟩) (n + m) cap)) (w.setCells g n news)) : wpList P ops Q (o :: rest) a w :=
  wpList_plain hgd fun _ hK => wp_append_room s x t ho e i ht hi hsize g n cap hs ad m c news hx hl hnews h1 hroom hc hf (hK _ _ h)

theorem step_append_room_rw {ops : Array Oper} {o : Oper} {a : Act} {w : World} {K : Act → World → Prop} {Q : Exit → Act → World → Prop} {E : Prop} (hgd : o.guard = none) (s x : Operand) (t : TypeId)
    (ho : o.op = .call { callee := .builtin .append, args := #[s, x], argTypes := #[t, t] })
    (e : TypeId) (i : TypeInfo) (ht : P.underlying t = some (.slice e)) (hi : P.info? e = some i) (hsize : i.size = 1)
    (g n cap : Nat) (hs : a.eval s = .slice (some ⟨g, 0, none⟩) n cap)
    (ad : Addr) (m c : Nat) (news : List Value) (hx : a.eval x = .slice (some ad) m c) (hl : news.length = m) (hnews : ∀ j u, news[j]? = some u → w.cell? (ad.add j) = some u) (h1 : ∀ u ∈ news, u.oneCell' = true)
    (hroom : n + m ≤ cap) (hc : ∀ j, j < news.length → (w.cell? ⟨g, n + j, none⟩).isSome = true) (hf : ∀ j, j < news.length → w.frozen? ⟨g, n + j, none⟩ = false)
    (h : K (a.put o.dst (.slice (some ⟨g, 0, none⟩) (n + m) cap)) (w.setCells g n news)) :
    if Region.wanted o (yielded ops a.tmps) = true then Oper.wp P o a w K Q else E := by
  have hw : Region.wanted o (yielded ops a.tmps) = true := by simp [Region.wanted, hgd]
  rw [if_pos hw]
  exact wp_append_room s x t ho e i ht hi hsize g n cap hs ad m c news hx hl hnews h1 hroom hc hf h
end

theorem rowsOf_set_len {α : Type} (G : GH) (t i : Nat) (L : List (List α)) (x : List α) (hx : x.length = (L.getD i []).length) : rowsOf G t (L.set i x) = rowsOf G t L := by
  unfold rowsOf
  rw [List.length_set]
  refine List.map_congr_left fun k hk => ?_
  have hk : k < L.length := by simpa using hk
  by_cases e : i = k
  · subst e; rw [getD_set_same L [] x hk, hx]
  · rw [getD_set_ne L [] x (fun h => e h.symm)]

section
variable {w : World} {b : Nat} {G : GH} {S : ES}

theorem Eng.innerSet (h : Eng w b G S) {g i : Nat} (hg : G.g (.inr (1, i)) = some g) (j x : Nat) : Eng (w.setCell ⟨g, j, none⟩ (i64 (x : Int))) b G (S.putW i ((S.wt.getD i []).set j x)) := by
  have hi : i < S.wt.length := by
    rcases Nat.lt_or_ge i S.wt.length with h' | h'
    · exact h'
    · rw [h.out1 i h'] at hg; cases hg
  have e : upd (engD G S) (.inr (1, i)) { engD G S (.inr (1, i)) with xs := (engD G S (.inr (1, i))).xs.set j (i64 (x : Int)) } = engD G (S.putW i ((S.wt.getD i []).set j x)) :=
    engD_ext (fun f hf => by rw [upd_inr_inl, engD_other G S f hf]) rfl rfl (by rw [upd_inr_inl]; simp only [engD, ES.putW]; rw [rowsOf_set_len G 1 i S.wt _ (by simp)]; simp) rfl rfl rfl rfl rfl rfl rfl rfl
      (by rw [upd_inr_inl]; simp [engD, ES.putW, stc])
      (fun k => by rw [upd_inr, if_neg (by simp)]; rfl)
      (fun k => (Decidable.em (k = i)).elim (fun e => by subst e; rw [upd_same]; simp only [engD, ES.putW]; rw [getD_set_same S.wt [] _ hi]; simp [nats, List.map_set]) (fun e => by rw [upd_inr, if_neg (fun h => e h.2)]; simp only [engD, ES.putW, getD_set_ne S.wt [] _ e]))
      (fun k => by rw [upd_inr, if_neg (by simp)]; rfl) (fun t k => by rw [upd_inr, if_neg (by omega)]; rfl)
  exact ⟨e ▸ h.own.set (.inr (1, i)) (D := engD G S) j (i64 (x : Int)) hg, h.at_, h.out0, fun k hk => h.out1 k (by simpa [ES.putW] using hk), h.out2⟩

/-- numbers laid one behind the other from j on -/
def setFrom : List Nat → Nat → List Nat → List Nat
  | c, _, [] => c
  | c, j, y :: ys => setFrom (c.set j y) (j + 1) ys
theorem setFrom_length (c : List Nat) (j : Nat) (ys : List Nat) : (setFrom c j ys).length = c.length := by
  induction ys generalizing c j with
  | nil => rfl
  | cons y ys ih => rw [setFrom, ih]; simp
theorem setFrom_take (c : List Nat) (j : Nat) (ys : List Nat) (h : j + ys.length ≤ c.length) : (setFrom c j ys).take (j + ys.length) = c.take j ++ ys := by
  induction ys generalizing c j with
  | nil => simp [setFrom]
  | cons y ys ih =>
    simp only [List.length_cons] at h ⊢
    rw [setFrom, show j + (ys.length + 1) = j + 1 + ys.length by omega, ih _ _ (by simp; omega)]
    rw [List.take_add_one]
    simp only [List.take_set, List.getElem?_set_self (show j < c.length by omega), Option.toList_some, List.append_assoc, List.cons_append, List.nil_append]
    rw [List.set_eq_of_length_le (by rw [List.length_take]; omega)]

theorem putW_putW (S : ES) (i : Nat) (x y : List Nat) : (S.putW i x).putW i y = S.putW i y := by unfold ES.putW; simp
theorem putW_getD (S : ES) (i : Nat) (x : List Nat) (hi : i < S.wt.length) : (S.putW i x).wt.getD i [] = x := getD_set_same S.wt [] x hi
theorem putW_self (S : ES) (i : Nat) (hi : i < S.wt.length) : S.putW i (S.wt.getD i []) = S := by
  unfold ES.putW
  rw [show S.wt.set i (S.wt.getD i []) = S.wt from by simp [List.getD, hi]]

theorem Eng.innerCells (ys : List Nat) : ∀ {w : World} {S : ES} (_ : Eng w b G S) {g i : Nat} (_ : G.g (.inr (1, i)) = some g) (j : Nat), Eng (w.setCells g j (nats ys)) b G (S.putW i (setFrom (S.wt.getD i []) j ys)) := by
  induction ys with
  | nil =>
    intro w S h g i hg j
    have hi : i < S.wt.length := by
      rcases Nat.lt_or_ge i S.wt.length with h' | h'
      · exact h'
      · rw [h.out1 i h'] at hg; cases hg
    simp only [nats, List.map_nil, World.setCells, setFrom]
    rw [putW_self S i hi]; exact h
  | cons y ys ih =>
    intro w S h g i hg j
    have hi : i < S.wt.length := by
      rcases Nat.lt_or_ge i S.wt.length with h' | h'
      · exact h'
      · rw [h.out1 i h'] at hg; cases hg
    have h1 := ih (h.innerSet hg j y) hg (j + 1)
    rw [putW_getD S i _ hi, putW_putW] at h1
    exact h1

theorem Turned.setCells {F : Nat → Prop} (g : Nat) (h : F g) (vs : List Value) : ∀ (w : World) (j : Nat), Turned F w F (w.setCells g j vs) := by
  induction vs with
  | nil => intro w j; exact Turned.refl _ _
  | cons v vs ih => intro w j; exact (Turned.setCell w ⟨g, j, none⟩ v h).trans (ih _ _)

/-- the header of a watching list cut to its first m, and its room cut -/
theorem Eng.cutRow (h : Eng w b G S) {g go i : Nat} (hg : G.g (.inr (1, i)) = some g) (hgo : G.g (.inl 4) = some go) (m c : Nat) (hm : m ≤ (S.wt.getD i []).length) (hmc : m ≤ c) (hc : c ≤ G.c (.inr (1, i))) :
    Eng (w.setCell ⟨go, i, none⟩ (.slice (some ⟨g, 0, none⟩) m c)) b (G.upd (.inr (1, i)) ⟨some g, c, m, nats ((S.wt.getD i []).take m)⟩) (S.putW i ((S.wt.getD i []).take m)) ∧
    Turned (ft G) w (ft (G.upd (.inr (1, i)) ⟨some g, c, m, nats ((S.wt.getD i []).take m)⟩)) (w.setCell ⟨go, i, none⟩ (.slice (some ⟨g, 0, none⟩) m c)) ∧
    w.cell? ⟨go, i, none⟩ = some (.slice (some ⟨g, 0, none⟩) (S.wt.getD i []).length (G.c (.inr (1, i)))) ∧ w.frozen? ⟨go, i, none⟩ = false := by
  have hi : i < S.wt.length := by
    rcases Nat.lt_or_ge i S.wt.length with h' | h'
    · exact h'
    · rw [h.out1 i h'] at hg; cases hg
  have r : Rw w 3 1 ⟨some g, c, m, nats ((S.wt.getD i []).take m)⟩ := by
    have r0 := (h.row (.inr (1, i)))
    have r1 := r0.cut m (by simpa [engD] using hm)
    have r2 := r1.clip c hmc (by simpa [engD] using hc)
    have e : nats ((S.wt.getD i []).take m) = (nats (S.wt.getD i [])).take (m * 1) := by simp [nats, List.map_take]
    rw [e]
    simp only [engD, engT] at r2
    rw [hg] at r2
    exact r2
  obtain ⟨a1, a2, a3, a4⟩ := h.rowWt (d := ⟨some g, c, m, nats ((S.wt.getD i []).take m)⟩) ((S.wt.getD i []).take m) hi hgo r (by rw [List.length_take]; show m = _; omega) rfl (.inl hg.symm) ⟨rfl, rfl, rfl, Nat.le_refl _, fun _ _ _ => rfl⟩
  exact ⟨a1, a2, by rw [a3, hg]; rfl, a4⟩
end
end Go.Proofs.Ytaileihnkmjfiaa
