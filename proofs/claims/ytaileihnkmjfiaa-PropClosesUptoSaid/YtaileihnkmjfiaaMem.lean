/-
  Rows of memory that an object owns: what they hold, and what a store, an append or a new block does to them. Conditions: none; plain lemmas over any program.
-/
import Derived.Test.YtaileihnkmjfiaaRows
import Derived.WalkKit
import Derived.WalkSpells
import Derived.WalkLawsBesides
import Derived.ArgAppend
import Derived.Deep.AppendLies
import Derived.Deep.RegionHeld3
import Derived.Deep.QuietTactic
import Derived.BigQuiet
import Derived.StillTailTactics
import Derived.Lib.Hide
import Derived.Deep.CutBlock
import Derived.Deep.DeepCutAuto
import Derived.Deep.DeepFit
import Derived.Deep.LoopGhost
namespace Go.Proofs.Ytaileihnkmjfiaa
open Go.RowKit

/-- A row: its block (none: a nil slice), its capacity, how many elements, their cells. -/
structure RD where
  g : Option Nat
  cap : Nat
  n : Nat
  xs : List Value

/-- The slice value that names a row. -/
def sv (g : Option Nat) (n cap : Nat) : Value := .slice (g.map fun g => ⟨g, 0, none⟩) n cap
def RD.v (d : RD) : Value := sv d.g d.n d.cap

structure Rw (w : World) (T sz : Nat) (d : RD) : Prop where
  len : d.xs.length = d.n * sz
  le : d.n ≤ d.cap
  max : d.cap ≤ maxLen
  nil : d.g = none → d.cap = 0
  blk : ∀ g, d.g = some g → ∃ cur : Array Value, w.heap[g]? = some (.cells cur T (0, 0)) ∧ d.cap * sz ≤ cur.size ∧ cur.toList.take (d.n * sz) = d.xs

theorem Rw.of_heap {w w' : World} {T sz : Nat} {d : RD} (h : Rw w T sz d) (hk : ∀ g, d.g = some g → w'.heap[g]? = w.heap[g]?) : Rw w' T sz d :=
  ⟨h.len, h.le, h.max, h.nil, fun g hg => by rw [hk g hg]; exact h.blk g hg⟩

theorem Rw.lt {w : World} {T sz g : Nat} {d : RD} (h : Rw w T sz d) (hg : d.g = some g) : g < w.heap.size := by
  obtain ⟨cur, hc, _⟩ := h.blk g hg
  exact (Array.getElem?_eq_some_iff.1 hc).1

theorem Rw.cell {w : World} {T sz g i : Nat} {d : RD} (h : Rw w T sz d) (hg : d.g = some g) (hi : i < d.xs.length) : w.cell? ⟨g, i, none⟩ = d.xs[i]? := by
  obtain ⟨cur, hc, hs, ht⟩ := h.blk g hg
  rw [cell_of_row w g i cur T (0, 0) hc, ← ht]
  rw [h.len] at hi
  rw [List.getElem?_take_of_lt hi]
  simp

theorem Rw.cellv {w : World} {T sz g i : Nat} {d : RD} {u : Value} (h : Rw w T sz d) (hg : d.g = some g) (hi : d.xs[i]? = some u) : w.cell? ⟨g, i, none⟩ = some u := by
  rw [h.cell hg (List.getElem?_eq_some_iff.1 hi).1, hi]

theorem Rw.frozen {w : World} {T sz g i : Nat} {d : RD} (h : Rw w T sz d) (hg : d.g = some g) : w.frozen? ⟨g, i, none⟩ = false := by
  obtain ⟨cur, hc, hs, ht⟩ := h.blk g hg
  simp [World.frozen?, hc]

theorem Rw.isome {w : World} {T sz : Nat} {d : RD} (h : Rw w T sz d) (hn : 0 < d.n) : ∃ g, d.g = some g := by
  cases hg : d.g with
  | none => have := h.nil hg; have := h.le; omega
  | some g => exact ⟨g, rfl⟩

theorem heap_setCell_same (w : World) (g i : Nat) (v : Value) (cur : Array Value) (T : TypeId) (fr : Nat × Nat) (h : w.heap[g]? = some (.cells cur T fr)) :
    (w.setCell ⟨g, i, none⟩ v).heap[g]? = some (.cells (cur.setIfInBounds i v) T fr) := by
  simp [World.setCell, Array.getElem?_modify, h]

theorem Rw.set {w : World} {T sz g i : Nat} {d : RD} (h : Rw w T sz d) (hg : d.g = some g) (v : Value) : Rw (w.setCell ⟨g, i, none⟩ v) T sz { d with xs := d.xs.set i v } := by
  refine ⟨by simpa using h.len, h.le, h.max, h.nil, fun g' hg' => ?_⟩
  obtain ⟨cur, hc, hs, ht⟩ := h.blk g' hg'
  obtain rfl : g = g' := by simpa [hg] using hg'
  refine ⟨_, heap_setCell_same w g i v cur T _ hc, by simpa using hs, ?_⟩
  rw [Array.toList_setIfInBounds, List.take_set, ht]

theorem Rw.setFar {w : World} {T sz : Nat} {d : RD} {p : Addr} (h : Rw w T sz d) (hg : d.g ≠ some p.block) (v : Value) : Rw (w.setCell p v) T sz d :=
  h.of_heap fun g hg' => Below.heap_setCell _ _ _ _ (fun e => hg (by rw [hg', e]))

theorem Rw.alloc {w : World} {T sz : Nat} {d : RD} (h : Rw w T sz d) (o : Obj) : Rw (w.alloc o) T sz d :=
  h.of_heap fun _ hg => heap_alloc_old w o (h.lt hg)

theorem Rw.drew {w : World} {T sz : Nat} {d : RD} (h : Rw w T sz d) : Rw w.drew T sz d := h.of_heap fun _ _ => rfl
theorem Rw.drewN {w : World} {T sz k : Nat} {d : RD} (h : Rw w T sz d) : Rw (w.drewN k) T sz d := h.of_heap fun _ _ => rfl

theorem Rw.grown {w w' : World} {T sz : Nat} {d : RD} {row : Option Nat} (h : Rw w T sz d) (hg : w.grownBy w' row) (hne : ∀ g, d.g = some g → row ≠ some g) : Rw w' T sz d :=
  h.of_heap fun g e => hg.block g (h.lt e) (Ne.symm (hne g e))

/-- The row cut to fewer elements. -/
theorem Rw.cut {w : World} {T sz : Nat} {d : RD} (h : Rw w T sz d) (m : Nat) (hm : m ≤ d.n) : Rw w T sz { d with n := m, xs := d.xs.take (m * sz) } := by
  refine ⟨?_, Nat.le_trans hm h.le, h.max, h.nil, fun g hg => ?_⟩
  · have := Nat.mul_le_mul_right sz hm
    simp only [List.length_take, h.len]; omega
  · obtain ⟨cur, hc, hs, ht⟩ := h.blk g hg
    refine ⟨cur, hc, hs, ?_⟩
    have := Nat.mul_le_mul_right sz hm
    simp only
    rw [← ht, List.take_take, Nat.min_eq_left this]

/-- A smaller capacity. -/
theorem Rw.clip {w : World} {T sz : Nat} {d : RD} (h : Rw w T sz d) (c : Nat) (hc : d.n ≤ c) (hle : c ≤ d.cap) : Rw w T sz { d with cap := c } := by
  refine ⟨h.len, hc, Nat.le_trans hle h.max, fun e => by have := h.nil e; simp only; omega, fun g hg => ?_⟩
  obtain ⟨cur, hcur, hs, ht⟩ := h.blk g hg
  exact ⟨cur, hcur, Nat.le_trans (Nat.mul_le_mul_right _ hle) hs, ht⟩

theorem Rw.empty (w : World) (T sz : Nat) : Rw w T sz ⟨none, 0, 0, []⟩ :=
  ⟨by simp, Nat.le_refl _, Nat.zero_le _, fun _ => rfl, fun _ h => by cases h⟩

/-- A new row: a block just made. -/
theorem Rw.new {w : World} {T sz g n : Nat} {cur : Array Value} (hb : w.heap[g]? = some (.cells cur T (0, 0))) (hs : cur.size = n * sz) (hn : n ≤ maxLen) : Rw w T sz ⟨some g, n, n, cur.toList⟩ := by
  refine ⟨by simpa using hs, Nat.le_refl _, hn, (fun h => by cases h), fun g' hg' => ?_⟩
  obtain rfl : g = g' := by simpa using hg'
  exact ⟨cur, hb, by rw [hs]; exact Nat.le_refl _, by rw [← hs, ← Array.length_toList, List.take_length]⟩

section
variable {P : Program}

/-- append onto a row: the run. -/
theorem run_append_rw (w : World) (t ty e : TypeId) (i : TypeInfo) (z : Value) (size bytes : Nat) (ht : P.underlying t = some (.slice e)) (hi : P.info? e = some i) (hz : i.zero = some z)
    (hsize : i.size = size) (hby : i.bytes = bytes) (hzs : z.cells.size = size) (hsz : 0 < size)
    (d : RD) (hown : Rw w e size d)
    (ao : Option Addr) (m c : Nat) (news : List Value) (hl : news.length = m * size) (hao : ao = none → m = 0) (hnews : ∀ a, ao = some a → ∀ j u, news[j]? = some u → w.cell? (a.add j) = some u) (h1 : ∀ u ∈ news, u.oneCell' = true)
    (h63 : d.n + m ≤ maxLen) (hbytes : (d.n + m) * bytes ≤ 140737488355328) :
    ∃ (d' : RD) (w' : World), (Builtin.append_ #[t, t] ty #[d.v, .slice ao m c]).run P w = .ok d'.v w' ∧ Rw w' e size d' ∧ d'.n = d.n + m ∧ d'.xs = d.xs ++ news ∧
      (d'.g = d.g ∨ d'.g = some w.heap.size) ∧ w.grownBy w' d.g := by
  subst hsize
  subst hby
  have hsmall : d.n + m ≤ 9223372036854775807 := by simp only [maxLen] at h63; omega
  have hlen : (d.xs ++ news).length = (d.n + m) * i.size := by rw [List.length_append, hown.len, hl, Nat.add_mul]
  obtain ⟨g, cap, n, xs⟩ := d
  simp only [RD.v, sv] at *
  have grown : ∀ (old : Nat), old < n + m → ∀ (row : Option Nat),
      Rw (w.drew.alloc (.cells (xs.toArray ++ news.toArray ++ Builtin.zeroCells z.cells (grownCap w (n + m) old e - (n + m))) e)) e i.size
        ⟨some w.heap.size, grownCap w (n + m) old e, n + m, xs ++ news⟩ ∧
      w.grownBy (w.drew.alloc (.cells (xs.toArray ++ news.toArray ++ Builtin.zeroCells z.cells (grownCap w (n + m) old e - (n + m))) e)) row := by
    intro old ho row
    have hge := grownCap_ge w (n + m) old e
    have hcm : grownCap w (n + m) old e ≤ maxLen := grownCap_le_maxLen w (n + m) old e h63
    refine ⟨⟨hlen, hge, hcm, (fun h => by cases h), fun g' hg' => ⟨_, (by obtain rfl : w.heap.size = g' := (by simpa using hg')
                                                                        ; exact heap_alloc_new w.drew _), ?_, ?_⟩⟩, ⟨rfl, rfl, rfl, by simp, fun k hk _ => heap_alloc_old w.drew _ hk⟩⟩
    · simp only [Array.size_append, List.size_toArray, size_zeroCells, hzs, hown.len, hl, ← Nat.add_mul]
      exact Nat.mul_le_mul_right _ (by omega)
    · simp only [Array.toList_append, List.append_assoc]
      rw [← List.append_assoc, ← hlen]
      exact List.take_left
  cases ao with
  | none =>
    obtain rfl := hao rfl
    obtain rfl : news = [] := List.eq_nil_of_length_eq_zero (by simpa using hl)
    refine ⟨⟨g, cap, n, xs⟩, w, ?_, hown, rfl, by simp, .inl rfl, ⟨rfl, rfl, rfl, Nat.le_refl _, fun _ _ _ => rfl⟩⟩
    have hle : n ≤ cap := hown.le
    cases g <;> simp [Builtin.append_, run_underlying ht, sizeOf, typeInfo, hi, Builtin.lenOf, Builtin.firstCells, storeCells, hle]
  | some a =>
    have hnews := hnews a rfl
    cases g with
    | none =>
      obtain rfl : cap = 0 := hown.nil rfl
      obtain rfl : n = 0 := Nat.le_zero.1 hown.le
      obtain rfl : xs = [] := List.eq_nil_of_length_eq_zero (by simpa using hown.len)
      by_cases hm : m = 0
      · subst hm
        obtain rfl : news = [] := List.eq_nil_of_length_eq_zero (by simpa using hl)
        refine ⟨⟨none, 0, 0, []⟩, w, ?_, hown, rfl, by simp, .inl rfl, ⟨rfl, rfl, rfl, Nat.le_refl _, fun _ _ _ => rfl⟩⟩
        simp [Builtin.append_, run_underlying ht, sizeOf, typeInfo, hi, Builtin.lenOf, Builtin.firstCells, loadCells, loadCellsFrom]
      · have hr := run_append_nil (P := P) w t ty e i z ht hi hz a m c news hl hnews (by omega) (by omega) (by have hb := hbytes; simp only [Nat.zero_add] at hb; omega)
        have hgr := grown 0 (by omega) none
        simp only [Nat.zero_add, List.nil_append, Array.empty_append] at hgr ⊢
        exact ⟨⟨some w.heap.size, grownCap w m 0 e, m, news⟩, _, hr, hgr.1, rfl, rfl, .inr rfl, hgr.2⟩
    | some g =>
      obtain ⟨cur, hg, hcs, htake⟩ := hown.blk g rfl
      simp only at hcs htake
      by_cases hroom : n + m ≤ cap
      · have hfit : n * i.size + news.length ≤ cur.size := by rw [hl, ← Nat.add_mul]; exact Nat.le_trans (Nat.mul_le_mul_right _ hroom) hcs
        have hr := run_append_room (P := P) w t ty e i ht hi g n cap cur hg a m c news hl hnews h1 hroom hfit
        refine ⟨⟨some g, cap, n + m, xs ++ news⟩, _, hr, ⟨hlen, hroom, hown.max, (fun h => by cases h), fun g' hg' => ⟨_, (by obtain rfl : g = g' := (by simpa using hg')
                                                                                                                                ; exact setRow_heap w g cur _ e _ hg), ?_, ?_⟩⟩, rfl, rfl, .inl rfl, ⟨rfl, rfl, rfl, by simp, fun k hk hk' => setRow_other w g k _ (fun e => hk' (by simp [e]))⟩⟩
        · simp only [List.size_toArray, List.length_append, List.length_take, List.length_drop, Array.length_toList]
          omega
        · rw [htake, ← hlen]
          exact List.take_left
      · have holds : ∀ j u, xs[j]? = some u → w.cell? ((⟨g, 0, none⟩ : Addr).add j) = some u := by
          intro j u hj
          rw [Addr.add_lit]
          simpa using hown.cellv (g := g) (i := j) rfl hj
        have hr := run_append_grow (P := P) w t ty e i z ht hi hz ⟨g, 0, none⟩ n cap xs hown.len holds a m c news hl hnews (by omega) (by omega) (growslice_fits (by omega) hbytes)
        have hgr := grown cap (by omega) (some g)
        exact ⟨⟨some w.heap.size, grownCap w (n + m) cap e, n + m, xs ++ news⟩, _, hr, hgr.1, rfl, rfl, .inr rfl, hgr.2⟩

theorem wp_append_rw {o : Oper} {a : Act} {w : World} {K : Act → World → Prop} {Q : Exit → Act → World → Prop} (s x : Operand) (t : TypeId)
    (ho : o.op = .call { callee := .builtin .append, args := #[s, x], argTypes := #[t, t] })
    (e : TypeId) (i : TypeInfo) (z : Value) (size bytes : Nat) (ht : P.underlying t = some (.slice e)) (hi : P.info? e = some i) (hz : i.zero = some z)
    (hsize : i.size = size) (hby : i.bytes = bytes) (hzs : z.cells.size = size) (hsz : 0 < size)
    (d : RD) (hs : a.eval s = d.v) (hown : Rw w e size d)
    (ao : Option Addr) (m c : Nat) (news : List Value) (hx : a.eval x = .slice ao m c) (hl : news.length = m * size) (hao : ao = none → m = 0) (hnews : ∀ a, ao = some a → ∀ j u, news[j]? = some u → w.cell? (a.add j) = some u) (h1 : ∀ u ∈ news, u.oneCell' = true)
    (h63 : d.n + m ≤ maxLen) (hbytes : (d.n + m) * bytes ≤ 140737488355328)
    (h : ∀ (d' : RD) (w' : World), Rw w' e size d' → d'.n = d.n + m → d'.xs = d.xs ++ news → (d'.g = d.g ∨ d'.g = some w.heap.size) → w.grownBy w' d.g → K (a.put o.dst (.slice (d'.g.map fun g => ⟨g, 0, none⟩) d'.n d'.cap)) w') : o.wp P a w K Q := by
  obtain ⟨d', w', hr, h2, h3, h4, h5, h6⟩ := run_append_rw (P := P) w t o.type e i z size bytes ht hi hz hsize hby hzs hsz d hown ao m c news hl hao hnews h1 h63 hbytes
  unfold Oper.wp execOp
  simp only [ho, resolve, invoke, builtin, Sem.run_bind, Sem.run_pure, Result.andThen_ok, List.map_toArray, List.map_cons, List.map_nil, hs, hx, hr]
  exact h d' w' h2 h3 h4 h5 h6

theorem wpList_append_rw {ops : Array Oper} {rest : List Oper} {o : Oper} {a : Act} {w : World} {Q : Exit → Act → World → Prop} (hgd : o.guard = none) (s x : Operand) (t : TypeId)
    (ho : o.op = .call { callee := .builtin .append, args := #[s, x], argTypes := #[t, t] })
    (e : TypeId) (i : TypeInfo) (z : Value) (size bytes : Nat) (ht : P.underlying t = some (.slice e)) (hi : P.info? e = some i) (hz : i.zero = some z)
    (hsize : i.size = size) (hby : i.bytes = bytes) (hzs : z.cells.size = size) (hsz : 0 < size)
    (d : RD) (hs : a.eval s = d.v) (hown : Rw w e size d)
    (ao : Option Addr) (m c : Nat) (news : List Value) (hx : a.eval x = .slice ao m c) (hl : news.length = m * size) (hao : ao = none → m = 0) (hnews : ∀ a, ao = some a → ∀ j u, news[j]? = some u → w.cell? (a.add j) = some u) (h1 : ∀ u ∈ news, u.oneCell' = true)
    (h63 : d.n + m ≤ maxLen) (hbytes : (d.n + m) * bytes ≤ 140737488355328)
    (h : ∀ (d' : RD) (w' : World), Rw w' e size d' → d'.n = d.n + m → d'.xs = d.xs ++ news → (d'.g = d.g ∨ d'.g = some w.heap.size) → w.grownBy w' d.g → wpList P ops Q rest (a.put o.dst (.slice (d'.g.map fun g => ⟨g, 0, none⟩) d'.n d'.cap)) w') : wpList P ops Q (o :: rest) a w :=
  wpList_plain hgd fun _ hK => wp_append_rw s x t ho e i z size bytes ht hi hz hsize hby hzs hsz d hs hown ao m c news hx hl hao hnews h1 h63 hbytes fun d' w' h2 h3 h4 h5 h6 => hK _ _ (h d' w' h2 h3 h4 h5 h6)

theorem step_append_rw {ops : Array Oper} {o : Oper} {a : Act} {w : World} {K : Act → World → Prop} {Q : Exit → Act → World → Prop} {E : Prop} (hgd : o.guard = none) (s x : Operand) (t : TypeId)
    (ho : o.op = .call { callee := .builtin .append, args := #[s, x], argTypes := #[t, t] })
    (e : TypeId) (i : TypeInfo) (z : Value) (size bytes : Nat) (ht : P.underlying t = some (.slice e)) (hi : P.info? e = some i) (hz : i.zero = some z)
    (hsize : i.size = size) (hby : i.bytes = bytes) (hzs : z.cells.size = size) (hsz : 0 < size)
    (d : RD) (hs : a.eval s = d.v) (hown : Rw w e size d)
    (ao : Option Addr) (m c : Nat) (news : List Value) (hx : a.eval x = .slice ao m c) (hl : news.length = m * size) (hao : ao = none → m = 0) (hnews : ∀ a, ao = some a → ∀ j u, news[j]? = some u → w.cell? (a.add j) = some u) (h1 : ∀ u ∈ news, u.oneCell' = true)
    (h63 : d.n + m ≤ maxLen) (hbytes : (d.n + m) * bytes ≤ 140737488355328)
    (h : ∀ (d' : RD) (w' : World), Rw w' e size d' → d'.n = d.n + m → d'.xs = d.xs ++ news → (d'.g = d.g ∨ d'.g = some w.heap.size) → w.grownBy w' d.g → K (a.put o.dst (.slice (d'.g.map fun g => ⟨g, 0, none⟩) d'.n d'.cap)) w') :
    if Region.wanted o (yielded ops a.tmps) = true then Oper.wp P o a w K Q else E := by
  have hw : Region.wanted o (yielded ops a.tmps) = true := by simp [Region.wanted, hgd]
  rw [if_pos hw]
  exact wp_append_rw s x t ho e i z size bytes ht hi hz hsize hby hzs hsz d hs hown ao m c news hx hl hao hnews h1 h63 hbytes h
end

/-! ### An object's rows -/

/-- All rows of an object, by their roles: what each holds; no two share a block. -/
structure Own {ρ : Type} (ty : ρ → Nat × Nat) (w : World) (D : ρ → RD) : Prop where
  row : ∀ r, Rw w (ty r).1 (ty r).2 (D r)
  inj : ∀ r r' g, (D r).g = some g → (D r').g = some g → r = r'

/-- The blocks of an object. -/
def feet {ρ : Type} (D : ρ → RD) (x : Nat) : Prop := ∃ r, (D r).g = some x

/-- What a call that works on one object may turn: its blocks, and new ones. -/
structure Turned (F : Nat → Prop) (w : World) (F' : Nat → Prop) (w' : World) : Prop where
  os : w'.os = w.os
  tape : w'.tape = w.tape
  output : w'.output = w.output
  size : w.heap.size ≤ w'.heap.size
  block : ∀ k, k < w.heap.size → ¬ F k → w'.heap[k]? = w.heap[k]?
  foot : ∀ k, F' k → F k ∨ w.heap.size ≤ k

theorem Turned.refl (F : Nat → Prop) (w : World) : Turned F w F w := ⟨rfl, rfl, rfl, Nat.le_refl _, fun _ _ _ => rfl, fun _ h => .inl h⟩
theorem Turned.trans {F F' F'' : Nat → Prop} {a b c : World} (h : Turned F a F' b) (k : Turned F' b F'' c) : Turned F a F'' c :=
  ⟨k.os.trans h.os, k.tape.trans h.tape, k.output.trans h.output, Nat.le_trans h.size k.size,
   fun i hi hF => (k.block i (Nat.lt_of_lt_of_le hi h.size) (fun hF' => (h.foot i hF').elim hF (fun hge => by omega))).trans (h.block i hi hF),
   fun i hi => (k.foot i hi).elim (h.foot i) (fun hge => .inr (Nat.le_trans h.size hge))⟩
theorem Turned.below {F F' : Nat → Prop} {a b : World} (h : Turned F a F' b) {B : Nat} (hF : ∀ k, F k → B ≤ k) (hB : B ≤ a.heap.size) : Below B a b :=
  ⟨h.os, h.tape, h.output, h.size, fun k hk => h.block k (by omega) (fun hk' => by have := hF k hk'; omega)⟩
theorem Turned.drew (F : Nat → Prop) (w : World) : Turned F w F w.drew := ⟨rfl, rfl, rfl, Nat.le_refl _, fun _ _ _ => rfl, fun _ h => .inl h⟩
theorem Turned.drewN (F : Nat → Prop) (w : World) (k : Nat) : Turned F w F (w.drewN k) := ⟨rfl, rfl, rfl, Nat.le_refl _, fun _ _ _ => rfl, fun _ h => .inl h⟩
theorem Turned.alloc (F : Nat → Prop) (w : World) (o : Obj) : Turned F w F (w.alloc o) := ⟨rfl, rfl, rfl, by simp, fun k hk _ => heap_alloc_old w o hk, fun _ h => .inl h⟩
theorem Turned.setCell {F : Nat → Prop} (w : World) (p : Addr) (v : Value) (h : F p.block) : Turned F w F (w.setCell p v) :=
  ⟨rfl, rfl, rfl, by simp [World.setCell], fun k _ hF => Below.heap_setCell _ _ _ _ (fun e => hF (e ▸ h)), fun _ h => .inl h⟩

section
variable {ρ : Type} {ty : ρ → Nat × Nat} {w : World} {D : ρ → RD}

theorem Own.of_heap {w' : World} (h : Own ty w D) (hk : ∀ g, feet D g → w'.heap[g]? = w.heap[g]?) : Own ty w' D :=
  ⟨fun r => (h.row r).of_heap fun g hg => hk g ⟨r, hg⟩, h.inj⟩
theorem Own.lt (h : Own ty w D) {g : Nat} (hg : feet D g) : g < w.heap.size := by
  obtain ⟨r, hr⟩ := hg
  exact (h.row r).lt hr
/-- Another object's call. -/
theorem Own.apart {w' : World} {F F' : Nat → Prop} (h : Own ty w D) (t : Turned F w F' w') (hd : ∀ g, feet D g → ¬ F g) : Own ty w' D :=
  h.of_heap fun g hg => t.block g (h.lt hg) (hd g hg)
theorem Own.drew (h : Own ty w D) : Own ty w.drew D := h.of_heap fun _ _ => rfl
theorem Own.drewN {k : Nat} (h : Own ty w D) : Own ty (w.drewN k) D := h.of_heap fun _ _ => rfl
theorem Own.alloc (h : Own ty w D) (o : Obj) : Own ty (w.alloc o) D := h.of_heap fun _ hg => heap_alloc_old w o (h.lt hg)
theorem Own.setFar (h : Own ty w D) {p : Addr} (v : Value) (hp : ¬ feet D p.block) : Own ty (w.setCell p v) D :=
  h.of_heap fun _g hg => Below.heap_setCell _ _ _ _ (fun e => hp (e ▸ hg))
theorem Own.ne (h : Own ty w D) {r r' : ρ} {g g' : Nat} (hr : (D r).g = some g) (hr' : (D r').g = some g') (hne : r ≠ r') : g ≠ g' := fun e => hne (h.inj r r' g hr (e ▸ hr'))
theorem Own.cell (h : Own ty w D) (r : ρ) {g i : Nat} {u : Value} (hg : (D r).g = some g) (hi : (D r).xs[i]? = some u) : w.cell? ⟨g, i, none⟩ = some u := (h.row r).cellv hg hi
theorem Own.frozen (h : Own ty w D) (r : ρ) {g : Nat} (i : Nat) (hg : (D r).g = some g) : w.frozen? ⟨g, i, none⟩ = false := (h.row r).frozen hg

/-- One role's row put anew. -/
def upd [DecidableEq ρ] (D : ρ → RD) (r : ρ) (d : RD) : ρ → RD := fun r' => if r' = r then d else D r'
theorem upd_same [DecidableEq ρ] (D : ρ → RD) (r : ρ) (d : RD) : upd D r d r = d := by simp [upd]
theorem upd_other [DecidableEq ρ] (D : ρ → RD) {r r' : ρ} (d : RD) (h : r' ≠ r) : upd D r d r' = D r' := by simp [upd, h]

theorem Own.set [DecidableEq ρ] (h : Own ty w D) (r : ρ) {g : Nat} (i : Nat) (v : Value) (hg : (D r).g = some g) :
    Own ty (w.setCell ⟨g, i, none⟩ v) (upd D r { D r with xs := (D r).xs.set i v }) := by
  refine ⟨fun r' => ?_, fun a b x ha hb => ?_⟩
  · by_cases e : r' = r
    · subst e; rw [upd_same]; exact (h.row r').set hg v
    · rw [upd_other D _ e]; exact (h.row r').setFar (fun e' => e (h.inj r' r g e' hg)) v
  · refine h.inj a b x ?_ ?_
    · by_cases e : a = r
      · subst e; rw [upd_same] at ha; exact ha
      · rw [upd_other D _ e] at ha; exact ha
    · by_cases e : b = r
      · subst e; rw [upd_same] at hb; exact hb
      · rw [upd_other D _ e] at hb; exact hb

/-- Behind an append onto one role's row (or whatever puts a row there). -/
theorem Own.put [DecidableEq ρ] {w' : World} (h : Own ty w D) (r : ρ) {d : RD} (hrw : Rw w' (ty r).1 (ty r).2 d) (hg : d.g = (D r).g ∨ ∀ k, d.g = some k → w.heap.size ≤ k) (hgr : w.grownBy w' (D r).g) : Own ty w' (upd D r d) := by
  refine ⟨fun r' => ?_, fun a b x ha hb => ?_⟩
  · by_cases e : r' = r
    · subst e; rw [upd_same]; exact hrw
    · rw [upd_other D _ e]; exact (h.row r').grown hgr fun g e1 e2 => e (h.inj r' r g e1 e2)
  · by_cases ea : a = r
    · by_cases eb : b = r
      · rw [ea, eb]
      · subst ea
        rw [upd_same] at ha
        rw [upd_other D _ eb] at hb
        rcases hg with hg | hg
        · exact h.inj _ _ x (hg ▸ ha) hb
        · have := hg x ha; have := h.lt ⟨b, hb⟩; omega
    · rw [upd_other D _ ea] at ha
      by_cases eb : b = r
      · subst eb
        rw [upd_same] at hb
        rcases hg with hg | hg
        · exact h.inj _ _ x ha (hg ▸ hb)
        · have := hg x hb; have := h.lt ⟨a, ha⟩; omega
      · rw [upd_other D _ eb] at hb
        exact h.inj _ _ x ha hb

theorem feet_upd [DecidableEq ρ] {r : ρ} {d : RD} {x : Nat} (h : feet (upd D r d) x) : feet D x ∨ d.g = some x := by
  obtain ⟨r', hr'⟩ := h
  by_cases e : r' = r
  · subst e; rw [upd_same] at hr'; exact .inr hr'
  · rw [upd_other D _ e] at hr'; exact .inl ⟨r', hr'⟩

theorem Turned.put [DecidableEq ρ] {w' : World} (r : ρ) {d : RD} (hg : d.g = (D r).g ∨ ∀ k, d.g = some k → w.heap.size ≤ k) (hgr : w.grownBy w' (D r).g) : Turned (feet D) w (feet (upd D r d)) w' :=
  ⟨hgr.os, hgr.tape, hgr.output, hgr.size, fun k hk hF => hgr.block k hk (fun e => hF ⟨r, e.symm⟩), fun k hk => by
    rcases feet_upd hk with h | e
    · exact .inl h
    · rcases hg with hg | hg
      · exact .inl ⟨r, hg ▸ e⟩
      · exact .inr (hg k e)⟩
end

end Go.Proofs.Ytaileihnkmjfiaa
