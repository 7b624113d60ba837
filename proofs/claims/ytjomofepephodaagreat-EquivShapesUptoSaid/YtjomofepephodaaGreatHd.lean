/-
  A program in new memory is the same program. Conditions: what each theorem names.
-/
import Derived.Test.YtjomofepephodaaGreatHc
import Derived.Test.YtjomofepephodaaGreatKc
set_option linter.unusedVariables false
set_option linter.unusedSimpArgs false
namespace Go.Proofs.YtjomofepephodaaGreat.PEquivShapes
open Go.RowKit
open Go.Proofs.YtjomofepephodaaGreatW.PrintWords Go.Proofs.YtjomofepephodaaGreatW.PrintLast Go.Proofs.YtjomofepephodaaGreatW.PrintMore
theorem S50.eta (e : S50) : (⟨e.f0, e.f1, e.f2, e.f3⟩ : S50) = e := by
  cases e
  rfl
theorem S52.eta (e : S52) : (⟨e.f0, e.f1, e.f2, e.f3, e.f4, e.f5, e.f6, e.f7⟩ : S52) = e := by
  cases e
  rfl
theorem take_rd50 {l : List S50} {i : Nat} (h : i < l.length) : l.take i ++ [rd_T50 l i] = l.take (i + 1) := by
  have hd : rd_T50 l i = l[i] := by simp [rd_T50, h]
  rw [hd, List.take_succ_eq_append_getElem h]
theorem take_rd52 {l : List S52} {i : Nat} (h : i < l.length) : l.take i ++ [rd_T52 l i] = l.take (i + 1) := by
  have hd : rd_T52 l i = l[i] := by simp [rd_T52, h]
  rw [hd, List.take_succ_eq_append_getElem h]
set_option maxHeartbeats 2000000 in
theorem expr_copy (N : Nat) (hN : N ≤ 1048576) : ∀ (e : S50) (K : Nat), e.bulk ≤ N → 2 * e.bulk ≤ K → cadencelaw15_expr.f K e.f0 e.f1 e.f2 e.f3 = some (e.f0, e.f1, e.f2, e.f3) := by
  induction N with
  | zero =>
    intro e K hb
    have := S50.bulk_eq e
    omega
  | succ N ih =>
    intro e K hb hK
    have hbe := S50.bulk_eq e
    obtain ⟨K, rfl⟩ : ∃ K', K = K' + 1 := ⟨K - 1, by omega⟩
    rw [cadencelaw15_expr.f]
    have hle := len_bulks50 e.f3
    have hl20 : e.f3.length ≤ 1048576 := by omega
    have hN1 : N ≤ 1048576 := Nat.le_trans (Nat.le_succ N) hN
    have key : ∀ (r i k : Nat), e.f3.length - i = r → i ≤ e.f3.length → 2 * S50.bulks (e.f3.drop i) + 1 ≤ k →
        cadencelaw15_expr.l0 k (e.f3.take i) i e.f0 e.f1 e.f2 e.f3 = some (e.f0, e.f1, e.f2, e.f3) := by
      intro r
      induction r with
      | zero =>
        intro i k hr hi hk
        obtain ⟨k, rfl⟩ : ∃ k', k = k' + 1 := ⟨k - 1, (Nat.succ_pred_eq_of_pos (Nat.lt_of_lt_of_le (Nat.succ_pos _) hk)).symm⟩
        obtain rfl : i = e.f3.length := Nat.le_antisymm hi (Nat.le_of_sub_eq_zero hr)
        rw [cadencelaw15_expr.l0, if_neg (Int.lt_irrefl _), List.take_length]
      | succ r ihr =>
        intro i k hr hi hk
        have hlt : i < e.f3.length := Nat.lt_of_sub_pos (hr ▸ Nat.succ_pos r)
        obtain ⟨k, rfl⟩ : ∃ k', k = k' + 1 := ⟨k - 1, (Nat.succ_pred_eq_of_pos (Nat.lt_of_lt_of_le (Nat.succ_pos _) hk)).symm⟩
        have hbd := bulks50_drop hlt
        have hbk := S50.bulk_eq (rd_T50 e.f3 i)
        have hkid := S50.bulk_kid hlt
        obtain ⟨g1, g2⟩ := dep_parts hbe hbd hk (hbk ▸ Nat.succ_pos _)
        have w1 := ih hN1 (rd_T50 e.f3 i) k (Nat.le_of_lt_succ (Nat.lt_of_lt_of_le hkid hb)) g1
        have hw1 := wrap_next (show i ≤ 1048576 from Nat.le_trans (Nat.le_of_lt hlt) hl20)
        have hsz : (e.f3.take i).length < 2513169434916 := Nat.lt_of_le_of_lt (by rw [List.length_take]; exact Nat.min_le_right _ _) (Nat.lt_of_le_of_lt hl20 (by decide))
        rw [cadencelaw15_expr.l0, if_pos (Int.ofNat_lt.2 hlt), if_pos (Int.natCast_nonneg i), w1]
        simp only [Option.bind_some]
        rw [if_pos hsz, hw1, S50.eta (rd_T50 e.f3 i), take_rd50 hlt]
        exact ihr (i + 1) k (sub_step hr) hlt g2
    have h0 := key e.f3.length 0 K (Nat.sub_zero _) (Nat.zero_le _) (by simp only [List.drop_zero]; omega)
    simpa using h0
set_option maxHeartbeats 4000000 in
theorem body_copy (N : Nat) (hN : N ≤ 1048576) : ∀ (l : List S52) (K : Nat), S52.bulks l ≤ N → 2 * S52.bulks l + 3 ≤ K → cadencelaw15_body.f K l = some l := by
  induction N using Nat.strongRecOn with
  | _ N ih =>
  intro l K hb hK
  obtain ⟨K, rfl⟩ : ∃ K', K = K' + 1 := ⟨K - 1, (Nat.succ_pred_eq_of_pos (Nat.lt_of_lt_of_le (Nat.succ_pos _) hK)).symm⟩
  rw [cadencelaw15_body.f]
  have hle := len_bulks l
  have hl20 : l.length ≤ 1048576 := Nat.le_trans hle (Nat.le_trans hb hN)
  have key : ∀ (r i k : Nat), l.length - i = r → i ≤ l.length → 2 * S52.bulks (l.drop i) + 2 ≤ k → cadencelaw15_body.l0 k l (l.take i) i = some l := by
    intro r
    induction r with
    | zero =>
      intro i k hr hi hk
      obtain ⟨k, rfl⟩ : ∃ k', k = k' + 1 := ⟨k - 1, (Nat.succ_pred_eq_of_pos (Nat.lt_of_lt_of_le (Nat.succ_pos _) hk)).symm⟩
      obtain rfl : i = l.length := Nat.le_antisymm hi (Nat.le_of_sub_eq_zero hr)
      rw [cadencelaw15_body.l0, if_neg (Int.lt_irrefl _), List.take_length]
    | succ r ihr =>
      intro i k hr hi hk
      have hlt : i < l.length := Nat.lt_of_sub_pos (hr ▸ Nat.succ_pos r)
      obtain ⟨k, rfl⟩ : ∃ k', k = k' + 1 := ⟨k - 1, (Nat.succ_pred_eq_of_pos (Nat.lt_of_lt_of_le (Nat.succ_pos _) hk)).symm⟩
      have hbd := bulks52_drop hlt
      have hbe := S52.bulk_eq (rd_T52 l i)
      have hbi := S52.bulk_in hlt
      obtain ⟨pa, pe, pt, pu⟩ := parts_lt hbe hbi hb
      obtain ⟨ga, ge, gt, gu, gn⟩ := parts_gas hbe hbd hk
      have hw1 := wrap_next (show i ≤ 1048576 from Nat.le_trans (Nat.le_of_lt hlt) hl20)
      have wa := expr_copy N hN (rd_T52 l i).f2 k pa ga
      have we := expr_copy N hN (rd_T52 l i).f3 k pe ge
      have st := ih (S52.bulks (rd_T52 l i).f6) pt (Nat.le_trans (Nat.le_of_lt pt) hN) (rd_T52 l i).f6 k (Nat.le_refl _) gt
      have su := ih (S52.bulks (rd_T52 l i).f7) pu (Nat.le_trans (Nat.le_of_lt pu) hN) (rd_T52 l i).f7 k (Nat.le_refl _) gu
      have hsz : (l.take i).length < 703687441776 := Nat.lt_of_le_of_lt (by rw [List.length_take]; exact Nat.min_le_right _ _) (Nat.lt_of_le_of_lt hl20 (by decide))
      rw [cadencelaw15_body.l0, if_pos (Int.ofNat_lt.2 hlt), if_pos (Int.natCast_nonneg i), wa]
      simp only [Option.bind_some]
      rw [we]
      simp only [Option.bind_some]
      rw [st]
      simp only [Option.bind_some]
      rw [su]
      simp only [Option.bind_some]
      rw [if_pos hsz, hw1, S50.eta (rd_T52 l i).f2, S50.eta (rd_T52 l i).f3, S52.eta (rd_T52 l i), take_rd52 hlt]
      exact ihr (i + 1) k (sub_step hr) hlt gn
  have h0 := key l.length 0 K (Nat.sub_zero _) (Nat.zero_le _) (by simp only [List.drop_zero]; omega)
  simpa using h0
/-- the copy of a body, which lies in new memory alone -/
theorem body_own (p : PR) (A4 : Option Addr) (c4 : Nat) (w : World) (h4 : k52.C w A4 p.body.length p.body) (l4 : p.body.length ≤ c4) (hb : S52.bulks p.body ≤ 1048576) :
    Calls Tryz.prog 15 #[.slice A4 p.body.length c4] w fun e w' => ∃ A c, e = .returned (.slice A p.body.length c) ∧ p.body.length ≤ c ∧ (∀ W' : World, (∀ k, w.heap.size ≤ k → W'.heap[k]? = w'.heap[k]?) → k52.C W' A p.body.length p.body) ∧ Below w.heap.size w w' := by
  refine (cadencelaw15_body.calls (2 * S52.bulks p.body + 3) A4 c4 p.body p.body w h4 l4 (body_copy _ hb p.body _ (Nat.le_refl _) (Nat.le_refl _))).mono fun e w' ⟨v, he, hR, hB⟩ => ?_
  obtain ⟨A, c, hv, hc, _⟩ := Kd.R_reads hR
  subst hv
  exact ⟨A, c, he, hc, fun W' hW => (Kd.R_reads' (Kd.R_move (Kd.R_bound hR) fun k hk => hW k hk.2.1)).2.2, hB⟩
end Go.Proofs.YtjomofepephodaaGreat.PEquivShapes
namespace Go.Proofs.YtjomofepephodaaGreat.PEquivShapes
open Go.RowKit
open Go.Proofs.YtjomofepephodaaGreatW.PrintWords Go.Proofs.YtjomofepephodaaGreatW.PrintLast Go.Proofs.YtjomofepephodaaGreatW.PrintMore
theorem Tryz.info47 : (Tryz.prog.info? 47).map (fun i => (i.zero, i.size, i.bytes)) = some (some (.int .u64 0), 1, 8) := by kernel_rfl
theorem Tryz.info38 : (Tryz.prog.info? 38).map (fun i => (i.zero, i.size, i.bytes)) = some (some (.agg #[.int .i64 0, .string ⟨#[]⟩, .int .i64 0, .slice none 0 0]), 4, 56) := by kernel_rfl
/-- numbers lie in a row of their own -/
def ValsAt (N : Nat) (w : World) (A : Option Addr) (c : Nat) (vs : List Int) : Prop := vs.length ≤ c ∧ (vs = [] ∨ ∃ g cur, N ≤ g ∧ A = some ⟨g, 0, none⟩ ∧ w.heap[g]? = some (.cells cur 47 (0, 0)) ∧ cur.toList.take vs.length = vs.map (Value.int .u64))
/-- rows of numbers stay -/
def KeptV (N : Nat) (w w' : World) : Prop := ∀ (b : Nat) (cur : Array Value) (fr : Nat × Nat), N ≤ b → w.heap[b]? = some (Obj.cells cur 47 fr) → w'.heap[b]? = some (Obj.cells cur 47 fr)
theorem ValsAt.keep {N : Nat} {w w' : World} {A : Option Addr} {c : Nat} {vs : List Int} (h : ValsAt N w A c vs) (k : KeptV N w w') : ValsAt N w' A c vs := by
  obtain ⟨h1, h2 | ⟨g, cur, hN, e, h3, h4⟩⟩ := h
  · exact ⟨h1, .inl h2⟩
  · exact ⟨h1, .inr ⟨g, cur, hN, e, k _ _ _ hN h3, h4⟩⟩
theorem ValsAt.kd {N : Nat} {w : World} {A : Option Addr} {c : Nat} {vs : List Int} (h : ValsAt N w A c vs) (hn : vs.length ≤ 1048576) : (Kd.int .u64).C w A vs.length vs := by
  refine ⟨rfl, by omega, fun h0 => ?_⟩
  rcases h.2 with rfl | ⟨g, cur, _, rfl, hg, ht⟩
  · simp at h0
  · refine ⟨_, rfl, fun j p hj => ⟨[.int .u64 p], rfl, rfl, fun i u hi => ?_⟩⟩
    have hjl : j < vs.length := (List.getElem?_eq_some_iff.1 hj).1
    match i, hi with
    | 0, hi =>
      obtain rfl : Value.int .u64 p = u := by simpa using hi
      have h2 : (cur.toList.take vs.length)[j]? = some (.int .u64 p) := by rw [ht, List.getElem?_map, hj]; rfl
      rw [List.getElem?_take_of_lt hjl] at h2
      show w.cell? (({ block := g, off := 0 } : Addr).add (j * 1 + 0)) = _
      rw [Addr.add_lit, Nat.zero_add, Nat.mul_one, Nat.add_zero, cell_of_row w g j cur 47 (0, 0) hg]
      simpa using h2
    | i + 1, hi => simp at hi
theorem vals_src {w : World} {A : Option Addr} {n : Nat} {vs : List Int} (h : (Kd.int .u64).C w A n vs) (h0 : 0 < n) : ∃ a, A = some a ∧ ∀ (j : Nat) (u : Value), (vs.map (Value.int .u64))[j]? = some u → w.cell? (a.add j) = some u := by
  obtain ⟨hl, _, h2⟩ := h
  obtain ⟨a, ha, h3⟩ := h2 h0
  refine ⟨a, ha, fun j u hu => ?_⟩
  rw [List.getElem?_map] at hu
  obtain ⟨p, hp, rfl⟩ := Option.map_eq_some_iff.1 hu
  obtain ⟨c, _, hK, hc⟩ := h3 j p hp
  have hK' : c = [.int .u64 p] := hK
  subst hK'
  have := hc 0 _ rfl
  rwa [show j * (Kd.int .u64).sz + 0 = j from by show j * 1 + 0 = j; omega] at this
/-- append of numbers onto nothing -/
theorem wpList_vals {ops : Array Oper} {rest : List Oper} {o : Oper} {a : Act} {Q : Exit → Act → World → Prop} {w : World} (hgd : o.guard = none) (s x : Operand) (ho : o.op = .call { callee := .builtin .append, args := #[s, x], argTypes := #[36, 36] })
    {vs : List Int} {DA : Option Addr} {dc : Nat} (hs : a.eval s = .slice none 0 0) (hx : a.eval x = .slice DA vs.length dc) (hC : (Kd.int .u64).C w DA vs.length vs) (hn : vs.length ≤ 1048576) {N : Nat} (hN : N ≤ w.heap.size)
    (h : ∀ A c w', ValsAt N w' A c vs → w.grownBy w' none → wpList Tryz.prog ops Q rest (a.put o.dst (.slice A vs.length c)) w') : wpList Tryz.prog ops Q (o :: rest) a w := by
  obtain ⟨i0, hi, hz0, hz1, hz2⟩ := info_parts Tryz.info47
  by_cases h0 : vs.length = 0
  · obtain rfl : vs = [] := List.eq_nil_of_length_eq_zero h0
    refine wpList_plain hgd fun K hK => ?_
    have hsrc : Src Tryz.prog i0.size 36 (.slice DA 0 dc) 0 [] w := by
      cases DA with
      | none => exact Src.ofNil w Tryz.underlying36 dc
      | some ad => exact Src.ofSlice w Tryz.underlying36 ad 0 dc [] (by simp) (fun j u hu => by simp at hu) (fun u hu => by simp at hu)
    have hr := run_append_nothing (P := Tryz.prog) w 36 36 o.type 47 i0 Tryz.underlying36 hi none 0 0 (Nat.le_refl _) (.slice DA 0 dc) hsrc
    unfold Oper.wp execOp
    simp only [ho, resolve, invoke, builtin, Sem.run_bind, Sem.run_pure, Result.andThen_ok, List.map_toArray, List.map_cons, List.map_nil, hs, hx, List.length_nil, hr]
    exact hK _ _ (h none 0 w ⟨Nat.le_refl _, .inl rfl⟩ ⟨rfl, rfl, rfl, Nat.le_refl _, fun _ _ _ => rfl⟩)
  · obtain ⟨ad, rfl, hsrc⟩ := vals_src hC (by omega)
    refine wpList_append_lies w hgd s x 36 ho N 47 i0 _ 1 8 Tryz.underlying36 hi hz0 hz1 hz2 rfl (by decide) (.slice none 0 0) 0 [] hs (World.ownsRow_nil _ _ _ _) ad vs.length dc (vs.map (Value.int .u64)) hx (by simp) hsrc (fun u hu => by obtain ⟨p, _, rfl⟩ := List.mem_map.1 hu; rfl) (by omega) (by unfold maxLen; omega) (by omega) hN _ rfl fun g cap w' h1 h2 _ _ => ?_
    rw [Nat.zero_add] at h1 ⊢
    refine h _ cap w' ?_ h2
    rcases h1.2 with ⟨e, _⟩ | ⟨g', cap', cur, e, hgN, hg, hle, _, _, ht⟩
    · cases e
    · cases e
      exact ⟨hle, .inr ⟨g, cur, hgN, rfl, hg, by simpa using ht⟩⟩
/-- a declaration's cells in new memory -/
def DcIn (N : Nat) (w : World) (d : S38) (cs : List Value) : Prop := ∃ A c, cs = [.int .i64 d.f0, .string d.f1, .int .i64 d.f2, .slice A d.f3.length c] ∧ ValsAt N w A c d.f3
theorem DcIn.keep {N : Nat} {w w' : World} {d : S38} {cs : List Value} (h : DcIn N w d cs) (k : KeptV N w w') : DcIn N w' d cs := by
  obtain ⟨A, c, e, h⟩ := h
  exact ⟨A, c, e, h.keep k⟩
/-- declarations in new memory -/
def DRows (base : Nat) (w : World) (v : Value) (ds : List S38) : Prop := ∃ xss : List (List Value), w.ownsRow base 38 4 v ds.length xss.flatten ∧ Pairs (DcIn base w) ds xss
theorem pair_lens {N : Nat} {w : World} : ∀ {l : List S38} {m : List (List Value)}, Pairs (DcIn N w) l m → ∀ x, x ∈ m → x.length = 4
  | _, _, .nil, x, hx => by simp at hx
  | _, _, .cons h1 h2, x, hx => by
    rcases List.mem_cons.1 hx with rfl | hx
    · obtain ⟨A, c, rfl, _⟩ := h1; rfl
    · exact pair_lens h2 x hx
theorem DRows.kd {base : Nat} {w : World} {v : Value} {ds : List S38} (h : DRows base w v ds) (hn : ds.length ≤ 1048576) (hv : ∀ d, d ∈ ds → d.f3.length ≤ 1048576) : ∃ A c, v = .slice A ds.length c ∧ ds.length ≤ c ∧ k38.C w A ds.length ds := by
  obtain ⟨xss, ho, hx⟩ := h
  have hlen := pair_lens hx
  rcases ho.2 with ⟨rfl, h0⟩ | ⟨g, cap, cur, rfl, _, hg, hle, _, _, htake⟩
  · obtain rfl : ds = [] := List.eq_nil_of_length_eq_zero h0
    exact ⟨none, 0, rfl, Nat.le_refl _, Kd.C_nil _ _⟩
  · refine ⟨_, cap, rfl, hle, rfl, by omega, fun h0 => ⟨_, rfl, fun j p hj => ?_⟩⟩
    have hjl : j < ds.length := (List.getElem?_eq_some_iff.1 hj).1
    obtain ⟨cs, h1, h2⟩ := hx.get j hjl
    have hp : ds[j] = p := (List.getElem?_eq_some_iff.1 hj).2
    rw [hp] at h2
    obtain ⟨A, c, rfl, h3⟩ := h2
    have hm : p ∈ ds := hp ▸ List.getElem_mem hjl
    refine ⟨_, rfl, k38_mk w p h3.1 (h3.kd (hv p hm)), fun i u hi => ?_⟩
    have hi4 : i < 4 := by
      have := (List.getElem?_eq_some_iff.1 hi).1
      simpa using this
    have h4 := flat_at hlen h1 hi4
    rw [hi, ← htake, List.getElem?_take_of_lt (by omega)] at h4
    show w.cell? (({ block := g, off := 0 } : Addr).add (j * 4 + i)) = _
    rw [Addr.add_lit, Nat.zero_add, cell_of_row w g (j * 4 + i) cur 38 (0, 0) hg]
    simpa using h4
theorem DRows.nil (base : Nat) (w : World) : DRows base w (.slice none 0 0) [] := ⟨[], World.ownsRow_nil _ _ _ _, .nil⟩
/-- the program that is made, with the declarations so far -/
def qRow (p : PR) (v : Value) (A4 : Option Addr) (n c4 : Nat) : Obj := .cells #[.string p.name, .int .i64 p.width, .int .i64 p.line, v, .slice A4 n c4] 25
def zRow : Obj := .cells #[.string ⟨#[]⟩, .int .i64 0, .int .i64 0, .slice none 0 0, .slice none 0 0] 25
structure OSt (w : World) (p : PR) (A3 : Option Addr) (c3 : Nat) (A4 : Option Addr) (c4 : Nat) (v : Value) (ds : List S38) (W : World) : Prop where
  below : Below w.heap.size w W
  pb : W.heap[w.heap.size]? = some (p.row A3 c3 A4 c4)
  rb : W.heap[w.heap.size + 1]? = some zRow
  qb : W.heap[w.heap.size + 1 + 1]? = some (qRow p v A4 p.body.length c4)
  rows : DRows w.heap.size W v ds
/-- blocks but those of declarations stay -/
def Kept38 (w w' : World) : Prop := ∀ (b : Nat) (cur : Array Value) (t : TypeId) (fr : Nat × Nat), t ≠ 38 → w.heap[b]? = some (Obj.cells cur t fr) → w'.heap[b]? = some (Obj.cells cur t fr)
theorem Kept38.grown {base : Nat} {w w' : World} {v : Value} {n : Nat} {xs : List Value} (h : w.ownsRow base 38 4 v n xs) (hg : w.grownBy w' v.ownBlock) : Kept38 w w' := fun b cur t fr ht hh => by
  refine (hg.block b (Array.getElem?_eq_some_iff.1 hh).1 ?_).trans hh
  intro e
  rcases h.2 with ⟨rfl, _⟩ | ⟨g, cap, cur2, rfl, _, hg2, _⟩
  · cases e
  · simp only [Value.ownBlock, Option.some.injEq] at e
    subst e
    rw [hg2] at hh
    cases hh
    exact ht rfl
theorem own_blk {base : Nat} {w : World} {v : Value} {n : Nat} {xs : List Value} (h : w.ownsRow base 38 4 v n xs) : ∀ k, v.ownBlock = some k → base ≤ k ∧ ∃ cur, w.heap[k]? = some (.cells cur 38 (0, 0)) := fun k hk => by
  rcases h.2 with ⟨rfl, _⟩ | ⟨g, cap, cur2, rfl, hb, hg2, _⟩
  · cases hk
  · simp only [Value.ownBlock, Option.some.injEq] at hk
    subst hk
    exact ⟨hb, _, hg2⟩
section
variable {w W W' : World} {p : PR} {A3 : Option Addr} {c3 : Nat} {A4 : Option Addr} {c4 : Nat} {v : Value} {ds : List S38}
theorem OSt.keep (h : OSt w p A3 c3 A4 c4 v ds W) (hb : Below W.heap.size W W') : OSt w p A3 c3 A4 c4 v ds W' := by
  obtain ⟨h1, h2, h3, h4, xss, ho, hx⟩ := h
  have hk : ∀ b X, W.heap[b]? = some X → W'.heap[b]? = some X := fun b X h => (hb.block b (Array.getElem?_eq_some_iff.1 h).1).trans h
  exact ⟨below_weaken' h1 h1.size hb, hk _ _ h2, hk _ _ h3, hk _ _ h4, xss, ho.kept (grown_of_below hb none) (by cases v.ownBlock <;> simp), hx.imp fun _ _ h => h.keep fun b cur fr _ hh => hk _ _ hh⟩
theorem OSt.set {g j : Nat} {u : Value} {cur : Array Value} (h : OSt w p A3 c3 A4 c4 v ds W) (hg : W.heap[g]? = some (.cells cur 38 (0, 0))) (hn : w.heap.size + 1 + 1 < g) (hv : ∀ k, v.ownBlock = some k → k ≠ g) : OSt w p A3 c3 A4 c4 v ds (W.setCell ⟨g, j, none⟩ u) := by
  obtain ⟨h1, h2, h3, h4, xss, ho, hx⟩ := h
  have hk : ∀ b, b ≠ g → (W.setCell ⟨g, j, none⟩ u).heap[b]? = W.heap[b]? := fun b hb => heap_setCell_other W ⟨g, j, none⟩ b u hb
  refine ⟨h1.setCell (show w.heap.size ≤ g by omega) _, (hk _ (by omega)).trans h2, (hk _ (by omega)).trans h3, (hk _ (by omega)).trans h4, xss, own_move ho fun k hkk => hk k (hv k hkk), hx.imp fun _ _ h => h.keep fun b cur' fr _ hh => (hk b fun e => ?_).trans hh⟩
  subst e
  rw [hg] at hh
  cases hh
theorem OSt.step {W9 : World} {v' : Value} {d : S38} {cs : List Value} {xss : List (List Value)} (h : OSt w p A3 c3 A4 c4 v ds W) (ho : W.ownsRow w.heap.size 38 4 v ds.length xss.flatten) (hx : Pairs (DcIn w.heap.size W) ds xss) (hd : DcIn w.heap.size W d cs) (hg : W.grownBy W9 v.ownBlock)
    (ho' : W9.ownsRow w.heap.size 38 4 v' (ds.length + 1) (xss.flatten ++ cs)) : W9.heap[w.heap.size + 1 + 1]? = some (qRow p v A4 p.body.length c4) ∧ OSt w p A3 c3 A4 c4 v' (ds ++ [d]) (W9.setCell ⟨w.heap.size + 1 + 1, 3, none⟩ v') := by
  have hk := Kept38.grown ho hg
  have hq := hk _ _ _ _ (by decide) h.qb
  have hs : ∀ b, b ≠ w.heap.size + 1 + 1 → (W9.setCell ⟨w.heap.size + 1 + 1, 3, none⟩ v').heap[b]? = W9.heap[b]? := fun b hb => heap_setCell_other W9 ⟨w.heap.size + 1 + 1, 3, none⟩ b v' hb
  have hb9 : Below w.heap.size w W9 := pw_below_grown h.below v.ownBlock h.below.size hg fun k hkk => (own_blk ho k hkk).1
  refine ⟨hq, hb9.setCell (show w.heap.size ≤ w.heap.size + 1 + 1 by omega) _, (hs _ (by omega)).trans (hk _ _ _ _ (by decide) h.pb), (hs _ (by omega)).trans (hk _ _ _ _ (by decide) h.rb), heap_setCell_same W9 _ 3 _ 25 v' hq, xss ++ [cs], ?_, ?_⟩
  · rw [List.length_append, List.flatten_append]
    refine own_move (by simpa using ho') fun k hkk => hs k fun e => ?_
    obtain ⟨_, cur, hc⟩ := own_blk ho' k hkk
    rw [e, hq] at hc
    cases hc
  · have kv : KeptV w.heap.size W (W9.setCell ⟨w.heap.size + 1 + 1, 3, none⟩ v') := fun b cur fr _ hh => by
      have h9 := hk b cur 47 fr (by decide) hh
      refine (hs b fun e => ?_).trans h9
      rw [e, hq] at h9
      cases h9
    exact (hx.imp fun _ _ h => h.keep kv).append (.cons (hd.keep kv) .nil)
end
/-- what is left when the copy is handed out: it stays where new memory stays -/
theorem own_end {w w6 wf : World} {p : PR} {A3 : Option Addr} {c3 : Nat} {A4 : Option Addr} {c4 : Nat} {B3 : Option Addr} {d3 : Nat} {B4 : Option Addr} {d4 N : Nat} (h : OSt w p A3 c3 A4 c4 (.slice B3 p.decls.length d3) p.decls w6) (hsp : Fair p) (h4 : p.body.length ≤ d4 ∧ ∀ W' : World, (∀ k, N ≤ k → W'.heap[k]? = w6.heap[k]?) → k52.C W' B4 p.body.length p.body) (hN : w.heap.size + 1 + 1 < N)
    (hf : ∀ b, b ≠ w.heap.size + 1 → b ≠ w.heap.size + 1 + 1 → wf.heap[b]? = w6.heap[b]?) : ∀ W' : World, (∀ k, w.heap.size ≤ k → W'.heap[k]? = wf.heap[k]?) → p.At W' B3 d3 B4 d4 := by
  intro W' hW
  obtain ⟨_, _, h2, h3, xss, ho, hx⟩ := h
  have hr : DRows w.heap.size W' (.slice B3 p.decls.length d3) p.decls := by
    refine ⟨xss, own_move ho fun k hk => (hW k (own_blk ho k hk).1).trans (hf k (fun e => ?_) (fun e => ?_)), hx.imp fun _ _ h => h.keep fun b cur fr hb hh => (hW b hb).trans ((hf b (fun e => ?_) (fun e => ?_)).trans hh)⟩
    · obtain ⟨_, cur, hc⟩ := own_blk ho k hk
      rw [e, h2] at hc
      cases hc
    · obtain ⟨_, cur, hc⟩ := own_blk ho k hk
      rw [e, h3] at hc
      cases hc
    · rw [e, h2] at hh
      cases hh
    · rw [e, h3] at hh
      cases hh
  obtain ⟨A, c, he, hl, hC⟩ := hr.kd hsp.1 hsp.2.1
  cases he
  exact ⟨hl, hC, h4.1, h4.2 W' fun k hk => (hW k (by omega)).trans (hf k (by omega) (by omega))⟩
theorem five_other (W : World) (g : Nat) (u0 u1 u2 u3 u4 : Value) (b : Nat) (hb : b ≠ g) : (((((W.setCell ⟨g, 0, none⟩ u0).setCell ⟨g, 1, none⟩ u1).setCell ⟨g, 2, none⟩ u2).setCell ⟨g, 3, none⟩ u3).setCell ⟨g, 4, none⟩ u4).heap[b]? = W.heap[b]? :=
  (heap_setCell_other _ ⟨g, 4, none⟩ b u4 hb).trans ((heap_setCell_other _ ⟨g, 3, none⟩ b u3 hb).trans ((heap_setCell_other _ ⟨g, 2, none⟩ b u2 hb).trans ((heap_setCell_other _ ⟨g, 1, none⟩ b u1 hb).trans (heap_setCell_other _ ⟨g, 0, none⟩ b u0 hb))))
theorem five_below {w W : World} (g : Nat) (hg : w.heap.size ≤ g) (h : Below w.heap.size w W) (u0 u1 u2 u3 u4 : Value) : Below w.heap.size w (((((W.setCell ⟨g, 0, none⟩ u0).setCell ⟨g, 1, none⟩ u1).setCell ⟨g, 2, none⟩ u2).setCell ⟨g, 3, none⟩ u3).setCell ⟨g, 4, none⟩ u4) :=
  ((((h.setCell hg _).setCell hg _).setCell hg _).setCell hg _).setCell hg _
set_option maxHeartbeats 4000000 in
set_option maxRecDepth 100000 in
theorem own_any (p : PR) (A3 : Option Addr) (c3 : Nat) (A4 : Option Addr) (c4 : Nat) (w : World) (hp : p.At w A3 c3 A4 c4) (hsp : Fair p) :
    Calls Tryz.prog 10 #[p.cells A3 c3 A4 c4] w fun e w' => (∃ B3 d3 B4 d4, e = .returned (p.cells B3 d3 B4 d4) ∧ ∀ W' : World, (∀ k, w.heap.size ≤ k → W'.heap[k]? = w'.heap[k]?) → p.At W' B3 d3 B4 d4) ∧ Below w.heap.size w w' := by
  have hu := Tryz.underlying22
  have hu36 := Tryz.underlying36
  obtain ⟨i0, hi0, hz0, hz1, hz2⟩ := info_parts Tryz.info38
  have HI0 := Aside0.mk (⟨hi0, hz0, hz1, hz2⟩ : _ ∧ _ ∧ _ ∧ _)
  have hll : (p.decls.length : Int) ≤ 9223372036854775807 := by have := hsp.1; omega
  have HP := Aside0.mk hp
  have HSp := Aside0.mk hsp
  unfold PR.cells
  clear hp hsp hi0 hz0 hz1 hz2
  go_enter Tryz.func10, Tryz.ntmps10
  go_upto_region 3 with (fail)
  obtain ⟨W3, hW3⟩ : ∃ W3, ((w.alloc (.cells #[.string p.name, .int .i64 p.width, .int .i64 p.line, .slice A3 p.decls.length c3, .slice A4 p.body.length c4] 25)).alloc zRow).alloc (qRow p (.slice none 0 0) A4 p.body.length c4) = W3 := ⟨_, rfl⟩
  have HS0 : Aside0 (OSt w p A3 c3 A4 c4 (.slice none 0 0) [] W3) := ⟨by
    rw [← hW3]
    have hs1 : (w.alloc (.cells #[.string p.name, .int .i64 p.width, .int .i64 p.line, .slice A3 p.decls.length c3, .slice A4 p.body.length c4] 25)).heap.size = w.heap.size + 1 := by simp [go_sem]
    refine ⟨below_alloc (below_alloc (below_alloc (Below.refl _ _) _) _) _, ?_, ?_, ?_, DRows.nil _ _⟩
    · exact ((below_alloc (Below.refl _ (((w.alloc (.cells #[.string p.name, .int .i64 p.width, .int .i64 p.line, .slice A3 p.decls.length c3, .slice A4 p.body.length c4] 25)).alloc zRow))) (qRow p (.slice none 0 0) A4 p.body.length c4)).block _ (by simp [go_sem])).trans (two_b w _ _)
    · exact ((below_alloc (Below.refl _ (((w.alloc (.cells #[.string p.name, .int .i64 p.width, .int .i64 p.line, .slice A3 p.decls.length c3, .slice A4 p.body.length c4] 25)).alloc zRow))) (qRow p (.slice none 0 0) A4 p.body.length c4)).block _ (by simp [go_sem])).trans (two_a w _ _)
    · have h := one_a ((w.alloc (.cells #[.string p.name, .int .i64 p.width, .int .i64 p.line, .slice A3 p.decls.length c3, .slice A4 p.body.length c4] 25)).alloc zRow) (qRow p (.slice none 0 0) A4 p.body.length c4)
      rw [show ((w.alloc (.cells #[.string p.name, .int .i64 p.width, .int .i64 p.line, .slice A3 p.decls.length c3, .slice A4 p.body.length c4] 25)).alloc zRow).heap.size = w.heap.size + 1 + 1 by simp [go_sem]] at h
      exact h⟩
  unfold zRow qRow at hW3
  rw [hW3]
  clear hW3
  go_wp2_with fail
  go_loopg [4] (p.decls.length) (fun m v4 wr => ∃ (i : Nat) (v : Value), v4 = .int .i64 (i : Int) ∧ m = p.decls.length - i ∧ i ≤ p.decls.length ∧ OSt w p A3 c3 A4 c4 v (p.decls.take i) wr)
  case atStart => exact ⟨0, _, rfl, rfl, Nat.zero_le _, HS0.out⟩
  case round =>
    obtain ⟨i, v, rfl, rfl, hi, hst⟩ := hrel
    have HSt := Aside0.mk hst
    have z3 : wr.cell? ⟨w.heap.size, 3, none⟩ = some (.slice A3 p.decls.length c3) := (cellsOf hst.pb 3).trans rfl
    have z4 : wr.cell? ⟨w.heap.size, 4, none⟩ = some (.slice A4 p.body.length c4) := (cellsOf hst.pb 4).trans rfl
    clear hst HS0
    by_cases hlt : i < p.decls.length
    · have hlt' : (i : Int) < (p.decls.length : Int) := by omega
      obtain ⟨ad, DA, dc, rfl, x0, x1, x2, x3, hd1, hk1⟩ := at_T38 HP.out.2.1 (i : Int) (by omega) (by omega)
      simp only [Int.toNat_natCast] at x0 x1 x2 x3
      replace x0 := kept0 rfl HSt.out.below x0
      replace x1 := kept0 rfl HSt.out.below x1
      replace x2 := kept0 rfl HSt.out.below x2
      replace x3 := kept0 rfl HSt.out.below x3
      have hdi : rd_T38 p.decls i = p.decls[i] := by simp [rd_T38, hlt]
      have HDl : Aside0 ((rd_T38 p.decls i).f3.length ≤ 1048576 ∧ Kd.C (Kd.int .u64) w DA (rd_T38 p.decls i).f3.length (rd_T38 p.decls i).f3 ∧ p.decls.take (i + 1) = p.decls.take i ++ [rd_T38 p.decls i]) := ⟨⟨by rw [hdi]; exact HSp.out.2.1 _ (List.getElem_mem hlt), hk1, by rw [hdi, List.take_succ_eq_append_getElem hlt]⟩⟩
      have HIx : Aside0 (wrap64 ((i : Int) + 1) = ((i + 1 : Nat) : Int) ∧ i + 1 ≤ p.decls.length ∧ p.decls.length - (i + 1) < p.decls.length - i ∧ (p.decls.take i).length = i ∧ i + 1 ≤ 1048576) := ⟨by have := HSp.out.1; exact ⟨wrap_next (by omega), by omega, by omega, by rw [List.length_take]; omega, by omega⟩⟩
      clear hd1 hk1 hdi
      generalize rd_T38 p.decls i = d at *
      go_upto_region 7 with (fail)
      have HOb : Aside0 (∀ k, v.ownBlock = some k → k ≠ wr.heap.size) := ⟨fun k hk e => by
        obtain ⟨xss, ho, _⟩ := HSt.out.rows
        have := (ho.lt k hk).2
        omega⟩
      have HSz : Aside0 (w.heap.size + 1 + 1 < wr.heap.size) := ⟨(Array.getElem?_eq_some_iff.1 HSt.out.qb).1⟩
      obtain ⟨W6, hW6⟩ : ∃ W6, wr.alloc (.cells #[.int .i64 d.f0, .string d.f1, .int .i64 d.f2, .slice DA d.f3.length dc] 38) = W6 := ⟨_, rfl⟩
      have HSt6 : Aside0 (OSt w p (some ad) c3 A4 c4 v (p.decls.take i) W6 ∧ W6.heap[wr.heap.size]? = some (.cells #[.int .i64 d.f0, .string d.f1, .int .i64 d.f2, .slice DA d.f3.length dc] 38 (0, 0))) := ⟨by
        rw [← hW6]
        exact ⟨HSt.out.keep (below_alloc (Below.refl _ _) _), one_a wr _⟩⟩
      rw [hW6]
      clear hW6 x0 x1 x2 x3 z3 z4 HSt
      generalize wr.heap.size = gd at *
      have q3 : W6.cell? ⟨gd, 3, none⟩ = some (.slice DA d.f3.length dc) := (cellsOf HSt6.out.2 3).trans rfl
      go_upto_region 8 with (refine wpList_vals rfl (.const (.slice none 0 0)) (.tmp 21) rfl rfl rfl (Kd.C_below HDl.out.2.1 HSt6.out.1.below) HDl.out.1 HSt6.out.1.below.size ?_; intro A7 c7 w7 hv7 hg7; have hb7 := pw_below_grown (Below.refl W6.heap.size W6) none (Nat.le_refl _) hg7 (fun k hk => by cases hk); have HSt7 := Aside0.mk (HSt6.out.1.keep hb7); have HD7 := Aside0.mk ((hb7.block _ (Array.getElem?_eq_some_iff.1 HSt6.out.2).1).trans HSt6.out.2); have HV7 := Aside0.mk hv7; have y3 := (cellsOf HD7.out 3).trans rfl; have f3 := frozen_of_row w7 gd 3 _ 38 HD7.out; clear hv7 hg7 hb7)
      have HSt8 := Aside0.mk (HSt7.out.set (j := 3) (u := .slice A7 d.f3.length c7) HD7.out HSz.out HOb.out)
      have HD8 : Aside0 ((w7.setCell ⟨gd, 3, none⟩ (.slice A7 d.f3.length c7)).heap[gd]? = some (.cells #[.int .i64 d.f0, .string d.f1, .int .i64 d.f2, .slice A7 d.f3.length c7] 38 (0, 0))) := ⟨heap_setCell_same w7 gd 3 _ 38 _ HD7.out⟩
      have HV8 : Aside0 (ValsAt w.heap.size (w7.setCell ⟨gd, 3, none⟩ (.slice A7 d.f3.length c7)) A7 c7 d.f3) := ⟨HV7.out.keep fun b cur fr _ hh => (heap_setCell_other w7 ⟨gd, 3, none⟩ b _ (fun e => by
        have e' : b = gd := e
        rw [e', HD7.out] at hh
        cases hh)).trans hh⟩
      clear HSt6 HSt7 HD7 HV7 y3 f3 q3
      generalize w7.setCell ⟨gd, 3, none⟩ (.slice A7 d.f3.length c7) = W8 at *
      have HSt9 := Aside0.mk (HSt8.out.keep (below_alloc (Below.refl _ W8) (.cells #[.int .i64 d.f0, .string d.f1, .int .i64 d.f2, .slice A7 d.f3.length c7] 38)))
      obtain ⟨xss, ho, hx⟩ := HSt9.out.rows
      have HO := Aside0.mk ho
      have HX := Aside0.mk hx
      have HDc : Aside0 (DcIn w.heap.size (W8.alloc (.cells #[.int .i64 d.f0, .string d.f1, .int .i64 d.f2, .slice A7 d.f3.length c7] 38)) d [.int .i64 d.f0, .string d.f1, .int .i64 d.f2, .slice A7 d.f3.length c7]) := ⟨A7, c7, rfl, HV8.out.keep fun b cur fr _ hh => ((below_alloc (Below.refl W8.heap.size W8) (.cells #[.int .i64 d.f0, .string d.f1, .int .i64 d.f2, .slice A7 d.f3.length c7] 38)).block b (Array.getElem?_eq_some_iff.1 hh).1).trans hh⟩
      have HLen : Aside0 ((p.decls.take i).length + 1 ≤ maxLen ∧ ((p.decls.take i).length + 1) * 56 ≤ 140737488355328 ∧ w.heap.size ≤ (W8.alloc (.cells #[.int .i64 d.f0, .string d.f1, .int .i64 d.f2, .slice A7 d.f3.length c7] 38)).heap.size) := ⟨by
        have h1 := HIx.out.2.2.2.1
        have h2 := HIx.out.2.2.2.2
        rw [h1]
        unfold maxLen
        exact ⟨by omega, by omega, HSt9.out.below.size⟩⟩
      clear ho hx
      have zq : W8.cell? ⟨w.heap.size + 1 + 1, 3, none⟩ = some v := (cellsOf HSt8.out.qb 3).trans rfl
      have e0 : W8.cell? ⟨gd, 0, none⟩ = some (.int .i64 d.f0) := (cellsOf HD8.out 0).trans rfl
      have e1 : W8.cell? ⟨gd, 1, none⟩ = some (.string d.f1) := (cellsOf HD8.out 1).trans rfl
      have e2 : W8.cell? ⟨gd, 2, none⟩ = some (.int .i64 d.f2) := (cellsOf HD8.out 2).trans rfl
      have e3 : W8.cell? ⟨gd, 3, none⟩ = some (.slice A7 d.f3.length c7) := (cellsOf HD8.out 3).trans rfl
      go_wp2_with (refine wpList_append_lies _ rfl (.tmp 25) (.tmp 27) 22 rfl w.heap.size 38 i0 _ 4 56 Tryz.underlying22 HI0.out.1 HI0.out.2.1 HI0.out.2.2.1 HI0.out.2.2.2 rfl (by decide) v (p.decls.take i).length xss.flatten rfl HO.out ⟨W8.heap.size, 0, none⟩ 1 1 [.int .i64 d.f0, .string d.f1, .int .i64 d.f2, .slice A7 d.f3.length c7] rfl rfl (World.news_of_block (B := W8.heap.size) (t := 38) (fr := (0, 0)) (one_a W8 _)) (one_cells1 _ rfl) (by decide) HLen.out.1 HLen.out.2.1 HLen.out.2.2 _ rfl ?_; intro g9 cap9 w9 ho9 hg9 _ _; have hst := OSt.step HSt9.out HO.out HX.out HDc.out hg9 ho9; have HQ9 := Aside0.mk hst.1; have HS10 := Aside0.mk hst.2; have y3 := (cellsOf HQ9.out 3).trans rfl; have f3 := frozen_of_row w9 _ 3 _ 25 HQ9.out; clear hst ho9 hg9)
      go_roundg (p.decls.length - (i + 1))
      case measure => exact HIx.out.2.2.1
      case rel => exact ⟨i + 1, _, by first | rfl | rw [HIx.out.1], rfl, HIx.out.2.1, by have h := HS10.out; rw [HIx.out.2.2.2.1] at h; rw [HDl.out.2.2]; exact h⟩
    · have hlt' : ¬ ((i : Int) < (p.decls.length : Int)) := by omega
      have HTk : Aside0 (p.decls.take i = p.decls) := ⟨List.take_of_length_le (by omega)⟩
      rw [HTk.out] at HSt
      have HSz : Aside0 (w.heap.size + 1 + 1 < wr.heap.size) := ⟨(Array.getElem?_eq_some_iff.1 HSt.out.qb).1⟩
      obtain ⟨B3, d3, rfl, _, _⟩ := HSt.out.rows.kd HSp.out.1 HSp.out.2.1
      have HBd : Aside0 (∀ W, Below w.heap.size w W → Calls Tryz.prog 15 #[.slice A4 p.body.length c4] W fun e w' => ∃ A c, e = .returned (.slice A p.body.length c) ∧ p.body.length ≤ c ∧ (∀ W' : World, (∀ k, W.heap.size ≤ k → W'.heap[k]? = w'.heap[k]?) → k52.C W' A p.body.length p.body) ∧ Below W.heap.size W w') := ⟨fun W hW => body_own p A4 c4 W (Kd.C_below HP.out.2.2.2 hW) HP.out.2.2.1 HSp.out.2.2⟩
      clear hlt hi
      go_upto_region 10 with (go_at_call 15; refine (HBd.out _ HSt.out.below).mono ?_; rintro x' w6 ⟨B4, d4, rfl, hl4, hC4, hb6⟩; have HS6 := Aside0.mk (HSt.out.keep hb6); have HC4 := Aside0.mk (⟨hl4, hC4⟩ : _ ∧ _); have y4 := (cellsOf HS6.out.qb 4).trans rfl; have f4 := frozen_of_row w6 _ 4 _ 25 HS6.out.qb; clear hl4 hC4 hb6)
      have hne : w.heap.size + 1 ≠ w.heap.size + 1 + 1 := by omega
      have h7 : ∀ b, b ≠ w.heap.size + 1 + 1 → (w6.setCell ⟨w.heap.size + 1 + 1, 4, none⟩ (.slice B4 p.body.length d4)).heap[b]? = w6.heap[b]? := fun b hb => heap_setCell_other w6 ⟨w.heap.size + 1 + 1, 4, none⟩ b _ hb
      have HQ7 : Aside0 ((w6.setCell ⟨w.heap.size + 1 + 1, 4, none⟩ (.slice B4 p.body.length d4)).heap[w.heap.size + 1 + 1]? = some (.cells #[.string p.name, .int .i64 p.width, .int .i64 p.line, .slice B3 p.decls.length d3, .slice B4 p.body.length d4] 25 (0, 0))) := ⟨heap_setCell_same w6 _ 4 _ 25 _ HS6.out.qb⟩
      have HR7 : Aside0 ((w6.setCell ⟨w.heap.size + 1 + 1, 4, none⟩ (.slice B4 p.body.length d4)).heap[w.heap.size + 1]? = some zRow) := ⟨(h7 _ hne).trans HS6.out.rb⟩
      have HB7 : Aside0 (Below w.heap.size w (w6.setCell ⟨w.heap.size + 1 + 1, 4, none⟩ (.slice B4 p.body.length d4))) := ⟨HS6.out.below.setCell (show w.heap.size ≤ w.heap.size + 1 + 1 by omega) _⟩
      have H7 := Aside0.mk h7
      clear h7 hne y4 f4 z3 z4 HSt HBd
      generalize w6.setCell ⟨w.heap.size + 1 + 1, 4, none⟩ (.slice B4 p.body.length d4) = W7 at *
      have z0 := (cellsOf HQ7.out 0).trans rfl
      have z1 := (cellsOf HQ7.out 1).trans rfl
      have z2 := (cellsOf HQ7.out 2).trans rfl
      have z3 := (cellsOf HQ7.out 3).trans rfl
      have z4 := (cellsOf HQ7.out 4).trans rfl
      have y0 := (cellsOf HR7.out 0).trans rfl
      have y1 := (cellsOf HR7.out 1).trans rfl
      have y2 := (cellsOf HR7.out 2).trans rfl
      have y3 := (cellsOf HR7.out 3).trans rfl
      have y4 := (cellsOf HR7.out 4).trans rfl
      have f0 := frozen_of_row W7 _ 0 _ 25 HR7.out
      have f1 := frozen_of_row W7 _ 1 _ 25 HR7.out
      have f2 := frozen_of_row W7 _ 2 _ 25 HR7.out
      have f3 := frozen_of_row W7 _ 3 _ 25 HR7.out
      have f4 := frozen_of_row W7 _ 4 _ 25 HR7.out
      go_wp2_with fail
      refine bodyPost_ret (results_cell_row rfl _ _ (w.heap.size + 1) 25 #[.string p.name, .int .i64 p.width, .int .i64 p.line, .slice B3 p.decls.length d3, .slice B4 p.body.length d4] (0, 0) _ rfl (heap_setCell_same _ _ 4 _ 25 _ (heap_setCell_same _ _ 3 _ 25 _ (heap_setCell_same _ _ 2 _ 25 _ (heap_setCell_same _ _ 1 _ 25 _ (heap_setCell_same _ _ 0 _ 25 _ HR7.out))))) Tryz.underlying25 rfl (by kernel_rfl)) rfl ?_
      exact ⟨⟨B3, d3, B4, d4, rfl, own_end HS6.out HSp.out HC4.out HSz.out fun b h1 h2 => (five_other W7 (w.heap.size + 1) _ _ _ _ _ b h1).trans (H7.out b h2)⟩, five_below (w.heap.size + 1) (Nat.le_succ _) HB7.out _ _ _ _ _⟩
/-- a program that is asked: as it is, or in new memory -/
def OwnPost (p : PR) (w : World) (e : Ending) (w' : World) : Prop := (∃ B3 d3 B4 d4, e = .returned (p.cells B3 d3 B4 d4) ∧ p.At w' B3 d3 B4 d4) ∧ Below w.heap.size w w'
set_option maxHeartbeats 4000000 in
set_option maxRecDepth 100000 in
theorem lown_any (p : PR) (A3 : Option Addr) (c3 : Nat) (A4 : Option Addr) (c4 : Nat) (w : World) (hp : p.At w A3 c3 A4 c4) (hsp : Fair p) :
    Calls Tryz.prog 5 #[p.cells A3 c3 A4 c4] w fun e w' => OwnPost p w e w' := by
  obtain ⟨W2, hW2⟩ : ∃ W2, (w.alloc (.cells #[.string p.name, .int .i64 p.width, .int .i64 p.line, .slice A3 p.decls.length c3, .slice A4 p.body.length c4] 25)).alloc zRow = W2 := ⟨_, rfl⟩
  have B : Below w.heap.size w W2 := by rw [← hW2]; exact below_alloc (below_alloc (Below.refl _ _) _) _
  have HA : Aside0 (∀ W, Below W2.heap.size W2 W → W.heap[w.heap.size]? = some (.cells #[.string p.name, .int .i64 p.width, .int .i64 p.line, .slice A3 p.decls.length c3, .slice A4 p.body.length c4] 25 (0, 0)) ∧ W.heap[w.heap.size + 1]? = some zRow) := ⟨fun W h => by
    subst hW2
    exact ⟨(h.block _ (by simp [go_sem])).trans (two_b w _ _), (h.block _ (by simp [go_sem])).trans (two_a w _ _)⟩⟩
  have BB := Aside0.mk B
  have HP := Aside0.mk hp
  have HSp := Aside0.mk hsp
  have HGr := Aside0.mk (great_any p A3 c3 A4 c4 W2 (At_below hp B) hsp)
  have HOw : Aside0 (∀ W, Below w.heap.size w W → Calls Tryz.prog 10 #[.agg #[.string p.name, .int .i64 p.width, .int .i64 p.line, .slice A3 p.decls.length c3, .slice A4 p.body.length c4]] W fun e w' => (∃ B3 d3 B4 d4, e = .returned (p.cells B3 d3 B4 d4) ∧ ∀ W' : World, (∀ k, W.heap.size ≤ k → W'.heap[k]? = w'.heap[k]?) → p.At W' B3 d3 B4 d4) ∧ Below W.heap.size W w') := ⟨fun W hW => own_any p A3 c3 A4 c4 W (At_below hp hW) hsp⟩
  have HBx : Aside0 (∀ W, Below W2.heap.size W2 W → PBox W w.heap.size p A3 c3 A4 c4) := ⟨fun W h => by
    have h1 := (HA.out W h).1
    unfold PBox
    simp [World.cell?, h1]⟩
  obtain ⟨z0, z1, z2, z3, z4⟩ := HBx.out _ (Below.refl _ _)
  have HW := Aside0.mk (show (w.alloc (.cells #[.string p.name, .int .i64 p.width, .int .i64 p.line, .slice A3 p.decls.length c3, .slice A4 p.body.length c4] 25)).alloc (.cells #[.string ⟨#[]⟩, .int .i64 0, .int .i64 0, .slice none 0 0, .slice none 0 0] 25) = W2 from hW2)
  unfold PR.cells at *
  clear hp hsp hW2 B
  go_enter Tryz.func5, Tryz.ntmps5
  go_upto_region 1 with (fail)
  try rw [HW.out]
  go_upto_if 4 with (go_at_call 9; refine HGr.out.mono ?_; rintro x' w3 ⟨⟨b, rfl⟩, hb1⟩; have B3 := Aside0.mk hb1; clear hb1)
  clear z0 z1 z2 z3 z4
  obtain ⟨z0, z1, z2, z3, z4⟩ := HBx.out _ B3.out
  cases b with
  | true =>
    have HR := Aside0.mk (HA.out _ B3.out).2
    have y0 := (cellsOf HR.out 0).trans rfl
    have y1 := (cellsOf HR.out 1).trans rfl
    have y2 := (cellsOf HR.out 2).trans rfl
    have y3 := (cellsOf HR.out 3).trans rfl
    have y4 := (cellsOf HR.out 4).trans rfl
    have f0 := frozen_of_row w3 _ 0 _ 25 HR.out
    have f1 := frozen_of_row w3 _ 1 _ 25 HR.out
    have f2 := frozen_of_row w3 _ 2 _ 25 HR.out
    have f3 := frozen_of_row w3 _ 3 _ 25 HR.out
    have f4 := frozen_of_row w3 _ 4 _ 25 HR.out
    go_wp2_with fail
    refine bodyPost_ret (results_cell_row rfl _ _ (w.heap.size + 1) 25 #[.string p.name, .int .i64 p.width, .int .i64 p.line, .slice A3 p.decls.length c3, .slice A4 p.body.length c4] (0, 0) _ rfl (heap_setCell_same _ _ 4 _ 25 _ (heap_setCell_same _ _ 3 _ 25 _ (heap_setCell_same _ _ 2 _ 25 _ (heap_setCell_same _ _ 1 _ 25 _ (heap_setCell_same _ _ 0 _ 25 _ HR.out))))) Tryz.underlying25 rfl (by kernel_rfl)) rfl ?_
    have hbf := five_below (w := w) (W := w3) (w.heap.size + 1) (Nat.le_succ _) (below_step BB.out B3.out)
    exact ⟨⟨A3, c3, A4, c4, rfl, At_below HP.out (hbf _ _ _ _ _)⟩, hbf _ _ _ _ _⟩
  | false =>
    clear z0 z1 z2 z3 z4
    obtain ⟨z0, z1, z2, z3, z4⟩ := HBx.out _ B3.out
    go_wp2_with (go_at_call 10; refine (HOw.out _ (below_step BB.out B3.out)).mono ?_; rintro x' w4 ⟨⟨B3', d3, B4', d4, rfl, hat⟩, hb1⟩; have HAt := Aside0.mk hat; have B4 := Aside0.mk (below_step B3.out hb1); have HR4 := Aside0.mk (HA.out _ B4.out).2; have y0 := (cellsOf HR4.out 0).trans rfl; have y1 := (cellsOf HR4.out 1).trans rfl; have y2 := (cellsOf HR4.out 2).trans rfl; have y3 := (cellsOf HR4.out 3).trans rfl; have y4 := (cellsOf HR4.out 4).trans rfl; have f0 := frozen_of_row w4 _ 0 _ 25 HR4.out; have f1 := frozen_of_row w4 _ 1 _ 25 HR4.out; have f2 := frozen_of_row w4 _ 2 _ 25 HR4.out; have f3 := frozen_of_row w4 _ 3 _ 25 HR4.out; have f4 := frozen_of_row w4 _ 4 _ 25 HR4.out; clear hb1 hat)
    refine bodyPost_ret (results_cell_row rfl _ _ (w.heap.size + 1) 25 #[.string p.name, .int .i64 p.width, .int .i64 p.line, .slice B3' p.decls.length d3, .slice B4' p.body.length d4] (0, 0) _ rfl (heap_setCell_same _ _ 4 _ 25 _ (heap_setCell_same _ _ 3 _ 25 _ (heap_setCell_same _ _ 2 _ 25 _ (heap_setCell_same _ _ 1 _ 25 _ (heap_setCell_same _ _ 0 _ 25 _ HR4.out))))) Tryz.underlying25 rfl (by kernel_rfl)) rfl ?_
    have hlt3 : w.heap.size + 1 < w3.heap.size := (Array.getElem?_eq_some_iff.1 (HA.out _ B3.out).2).1
    exact ⟨⟨B3', d3, B4', d4, rfl, HAt.out _ fun k hk => five_other w4 (w.heap.size + 1) _ _ _ _ _ k (by omega)⟩, five_below (w := w) (W := w4) (w.heap.size + 1) (Nat.le_succ _) (below_step BB.out B4.out) _ _ _ _ _⟩
end Go.Proofs.YtjomofepephodaaGreat.PEquivShapes
