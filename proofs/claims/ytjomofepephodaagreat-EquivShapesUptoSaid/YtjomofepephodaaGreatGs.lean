/-
  The document's list of things: expressions. Conditions: what each theorem names.
-/
import Derived.Deep.AppendLies
import Derived.OwnWalk
import Derived.Test.YtjomofepephodaaGreatGm
import Derived.Test.YtjomofepephodaaGreatGr
import Derived.Test.YtjomofepephodaaGreatKd
import Derived.Deep.CutBlock
import Derived.Deep.DeepCutAuto
import Derived.Deep.RegionLaw
import Derived.Test.YtjomofepephodaaGreatGq
set_option linter.unusedVariables false
set_option linter.unusedSimpArgs false
namespace Go.Proofs.YtjomofepephodaaGreat.PEquivShapes
open Go.RowKit
open Go.Proofs.YtjomofepephodaaGreatW.PrintWords Go.Proofs.YtjomofepephodaaGreatW.PrintLast Go.Proofs.YtjomofepephodaaGreatW.PrintMore
theorem S50.dep_eq (e : S50) : e.dep = wrap64 (S50.deps 0 e.f3 + 1) := by
  obtain ⟨k, n, s, l⟩ := e
  rw [S50.dep]
theorem deps_drop {l : List S50} {i : Nat} (h : i < l.length) (n : Int) : S50.deps n (l.drop i) = S50.deps (mx n (rd_T50 l i).dep) (l.drop (i + 1)) := by
  rw [List.drop_eq_getElem_cons h, S50.deps]
  simp [rd_T50, h]
theorem len_bulks50 (l : List S50) : l.length ≤ S50.bulks l := by
  induction l with
  | nil => simp
  | cons x l ih =>
    have := S50.bulk_eq x
    rw [S50.bulks, List.length_cons]; omega
theorem dep_parts {eb fs ls x D E k : Nat} (hbe : eb = fs + ls + 5) (hbd : D = x + E) (hk : 2 * D + 1 ≤ k + 1) (hx : 1 ≤ x) : 2 * x ≤ k ∧ 2 * E + 1 ≤ k := by omega
set_option maxHeartbeats 2000000 in
theorem dep_ref (N : Nat) (hN : N ≤ 1048576) : ∀ (e : S50) (K : Nat), e.bulk ≤ N → 2 * e.bulk ≤ K → cadenceref16_deep.f K e.f0 e.f1 e.f2 e.f3 = some e.dep := by
  induction N with
  | zero =>
    intro e K hb
    have := S50.bulk_eq e
    omega
  | succ N ih =>
    intro e K hb hK
    have hbe := S50.bulk_eq e
    obtain ⟨K, rfl⟩ : ∃ K', K = K' + 1 := ⟨K - 1, by omega⟩
    rw [cadenceref16_deep.f, S50.dep_eq]
    have hle := len_bulks50 e.f3
    have hl20 : e.f3.length ≤ 1048576 := by omega
    have hN1 : N ≤ 1048576 := Nat.le_trans (Nat.le_succ N) hN
    have key : ∀ (r i k : Nat) (n : Int), e.f3.length - i = r → i ≤ e.f3.length → 2 * S50.bulks (e.f3.drop i) + 1 ≤ k →
        cadenceref16_deep.l0 k n i e.f0 e.f1 e.f2 e.f3 = some (wrap64 (S50.deps n (e.f3.drop i) + 1)) := by
      intro r
      induction r with
      | zero =>
        intro i k n hr hi hk
        obtain ⟨k, rfl⟩ : ∃ k', k = k' + 1 := ⟨k - 1, (Nat.succ_pred_eq_of_pos (Nat.lt_of_lt_of_le (Nat.succ_pos _) hk)).symm⟩
        obtain rfl : i = e.f3.length := Nat.le_antisymm hi (Nat.le_of_sub_eq_zero hr)
        rw [cadenceref16_deep.l0, if_neg (Int.lt_irrefl _), List.drop_length]
        rfl
      | succ r ihr =>
        intro i k n hr hi hk
        have hlt : i < e.f3.length := Nat.lt_of_sub_pos (hr ▸ Nat.succ_pos r)
        obtain ⟨k, rfl⟩ : ∃ k', k = k' + 1 := ⟨k - 1, (Nat.succ_pred_eq_of_pos (Nat.lt_of_lt_of_le (Nat.succ_pos _) hk)).symm⟩
        have hbd := bulks50_drop hlt
        have hbk := S50.bulk_eq (rd_T50 e.f3 i)
        have hkid := S50.bulk_kid hlt
        obtain ⟨g1, g2⟩ := dep_parts hbe hbd hk (hbk ▸ Nat.succ_pos _)
        have w1 := ih hN1 (rd_T50 e.f3 i) k (Nat.le_of_lt_succ (Nat.lt_of_lt_of_le hkid hb)) g1
        have hw1 := wrap_next (show i ≤ 1048576 from Nat.le_trans (Nat.le_of_lt hlt) hl20)
        rw [cadenceref16_deep.l0, if_pos (Int.ofNat_lt.2 hlt), if_pos (Int.natCast_nonneg i), w1]
        simp only [Option.bind_some]
        rw [hw1, ihr (i + 1) k _ (sub_step hr) hlt g2, ihr (i + 1) k _ (sub_step hr) hlt g2, deps_drop hlt]
        unfold mx
        by_cases h : n < (rd_T50 e.f3 i).dep
        · rw [if_pos h, if_pos h]
        · rw [if_neg h, if_neg h]
    have h0 := key e.f3.length 0 K 0 (Nat.sub_zero _) (Nat.zero_le _) (by simp only [List.drop_zero]; omega)
    rw [List.drop_zero] at h0
    exact h0
theorem rdeep_any (e : S50) (hb : e.bulk ≤ 1048576) (A : Option Addr) (c : Nat) (w : World) (hC : k50.C w A e.f3.length e.f3) (hc : e.f3.length ≤ c) : Calls Tryz.prog 102 #[e.val A c] w fun x w' => x = .returned (.int .i64 e.dep) ∧ Below w.heap.size w w' :=
  cadenceref16_deep.calls (2 * e.bulk) e.f0 e.f1 e.f2 A c e.f3 e.dep w hC hc (dep_ref e.bulk hb e _ (Nat.le_refl _) (Nat.le_refl _))
/-- the names of the loops around a place lie in a row, the nearest last -/
def LsAt (w : World) (A : Option Addr) (c : Nat) (ls : List ByteArray) : Prop :=
  ls.length ≤ c ∧ ((A = none ∧ ls = [] ∧ c = 0) ∨ ∃ b cur, 0 < ls.length ∧ A = some ⟨b, 0, none⟩ ∧ w.heap[b]? = some (.cells cur 9 (0, 0)) ∧ cur.toList.take ls.length = ls.reverse.map Value.string)
/-- nothing but new blocks, and one row -/
def Grows (base : Nat) (w w' : World) : Prop := ∀ (b : Nat) (cur : Array Value) (t : TypeId) (fr : Nat × Nat), t ≠ 79 → w.heap[b]? = some (Obj.cells cur t fr) → w'.heap[b]? = some (Obj.cells cur t fr)
theorem LsAt.grows {base : Nat} {w w' : World} {A : Option Addr} {c : Nat} {ls : List ByteArray} (h : LsAt w A c ls) (hg : Grows base w w') : LsAt w' A c ls := by
  obtain ⟨h1, h2 | ⟨b, cur, h0, e, hh, ht⟩⟩ := h
  · exact ⟨h1, .inl h2⟩
  · exact ⟨h1, .inr ⟨b, cur, h0, e, hg _ _ _ _ (by decide) hh, ht⟩⟩
theorem Grows.below {base : Nat} {w w' : World} (hb : Below w.heap.size w w') : Grows base w w' := fun b cur t fr _ h => (hb.block b (Array.getElem?_eq_some_iff.1 h).1).trans h
theorem Grows.trans {base : Nat} {a b c : World} (h : Grows base a b) (k : Grows base b c) : Grows base a c := fun x cur t fr ht hh => k x cur t fr ht (h x cur t fr ht hh)
/-- a zero statement, a zero expression -/
def zS : List Value := [.int .i64 0, .string ⟨#[]⟩, .int .i64 0, .int .u64 0, .string ⟨#[]⟩, .slice none 0 0, .int .i64 0, .int .u64 0, .string ⟨#[]⟩, .slice none 0 0, .int .u64 0, .int .u64 0, .slice none 0 0, .slice none 0 0]
def zE : List Value := [.int .i64 0, .int .u64 0, .string ⟨#[]⟩, .slice none 0 0]
/-- a thing's cells; its trees lie in the first world, its loops in this one -/
def ThIn (w0 w : World) : TL → List Value → Prop
  | (.decl, _), cs => ∃ i : Int, cs = [.int .i64 0, .int .i64 i] ++ zS ++ zE ++ [.int .i64 0, .slice none 0 0]
  | (.stmt s deep, ls), cs => ∃ A5 c5 A9 c9 A12 c12 A13 c13 LA lc, cs = [.int .i64 1, .int .i64 0] ++ [.int .i64 s.f0, .string s.f1, .int .i64 s.f2.f0, .int .u64 s.f2.f1, .string s.f2.f2, .slice A5 s.f2.f3.length c5, .int .i64 s.f3.f0, .int .u64 s.f3.f1, .string s.f3.f2, .slice A9 s.f3.f3.length c9, .int .u64 s.f4, .int .u64 s.f5, .slice A12 s.f6.length c12, .slice A13 s.f7.length c13] ++ zE ++ [.int .i64 deep, .slice LA ls.length lc] ∧
      s.f2.f3.length ≤ c5 ∧ k50.C w0 A5 s.f2.f3.length s.f2.f3 ∧ s.f3.f3.length ≤ c9 ∧ k50.C w0 A9 s.f3.f3.length s.f3.f3 ∧ s.f6.length ≤ c12 ∧ k52.C w0 A12 s.f6.length s.f6 ∧ s.f7.length ≤ c13 ∧ k52.C w0 A13 s.f7.length s.f7 ∧ LsAt w LA lc ls
  | (.expr e, ls), cs => ∃ A c LA lc, cs = [.int .i64 2, .int .i64 0] ++ zS ++ [.int .i64 e.f0, .int .u64 e.f1, .string e.f2, .slice A e.f3.length c] ++ [.int .i64 e.dep, .slice LA ls.length lc] ∧ e.f3.length ≤ c ∧ k50.C w0 A e.f3.length e.f3 ∧ LsAt w LA lc ls
theorem ThIn.len {w0 w : World} {x : TL} {cs : List Value} (h : ThIn w0 w x cs) : cs.length = 22 := by
  obtain ⟨t, ls⟩ := x
  cases t with
  | decl => obtain ⟨i, rfl⟩ := h; rfl
  | stmt s deep => obtain ⟨A5, c5, A9, c9, A12, c12, A13, c13, LA, lc, rfl, _⟩ := h; rfl
  | expr e => obtain ⟨A, c, LA, lc, rfl, _⟩ := h; rfl
theorem ThIn.grows {base : Nat} {w0 w w' : World} {x : TL} {cs : List Value} (h : ThIn w0 w x cs) (hg : Grows base w w') : ThIn w0 w' x cs := by
  obtain ⟨t, ls⟩ := x
  cases t with
  | decl => exact h
  | stmt s deep =>
    obtain ⟨A5, c5, A9, c9, A12, c12, A13, c13, LA, lc, h0, h1, h2, h3, h4, h5, h6, h7, h8, h9⟩ := h
    exact ⟨A5, c5, A9, c9, A12, c12, A13, c13, LA, lc, h0, h1, h2, h3, h4, h5, h6, h7, h8, h9.grows hg⟩
  | expr e =>
    obtain ⟨A, c, LA, lc, h0, h1, h2, h3⟩ := h
    exact ⟨A, c, LA, lc, h0, h1, h2, h3.grows hg⟩
/-- two lists, one by one -/
inductive Pairs {α β : Type} (R : α → β → Prop) : List α → List β → Prop
  | nil : Pairs R [] []
  | cons {a b l m} : R a b → Pairs R l m → Pairs R (a :: l) (b :: m)
theorem Pairs.imp {α β : Type} {R S : α → β → Prop} (h : ∀ a b, R a b → S a b) : ∀ {l : List α} {m : List β}, Pairs R l m → Pairs S l m
  | _, _, .nil => .nil
  | _, _, .cons h1 h2 => .cons (h _ _ h1) (h2.imp h)
theorem Pairs.append {α β : Type} {R : α → β → Prop} : ∀ {l : List α} {m : List β} {l' : List α} {m' : List β}, Pairs R l m → Pairs R l' m' → Pairs R (l ++ l') (m ++ m')
  | _, _, _, _, .nil, k => k
  | _, _, _, _, .cons h1 h2, k => .cons h1 (h2.append k)
theorem Pairs.get {α β : Type} {R : α → β → Prop} : ∀ {l : List α} {m : List β}, Pairs R l m → ∀ (i : Nat) (h : i < l.length), ∃ b, m[i]? = some b ∧ R l[i] b
  | _, _, .cons h1 _, 0, _ => ⟨_, rfl, h1⟩
  | _, _, .cons _ h2, i + 1, h => by
    obtain ⟨b, h3, h4⟩ := h2.get i (by simpa using h)
    exact ⟨b, by simpa using h3, by simpa using h4⟩
/-- the list of things as a value -/
def ThL (base : Nat) (w0 w : World) (v : Value) (L : List TL) : Prop :=
  ∃ xss : List (List Value), w.ownsRow base 79 22 v L.length xss.flatten ∧ Pairs (ThIn w0 w) L xss
theorem grown_grows {base : Nat} {w w' : World} {v : Value} {n : Nat} {xs : List Value} (h : w.ownsRow base 79 22 v n xs) (hg : w.grownBy w' v.ownBlock) : Grows base w w' := fun b cur t fr ht hh => by
  refine (hg.block b (Array.getElem?_eq_some_iff.1 hh).1 ?_).trans hh
  intro e
  rcases h.2 with ⟨rfl, _⟩ | ⟨g, cap, cur2, rfl, _, hg2, _⟩
  · cases e
  · simp only [Value.ownBlock, Option.some.injEq] at e
    subst e
    rw [hg2] at hh
    cases hh
    exact ht rfl
theorem grown_below {base : Nat} {w0 w w' : World} {v : Value} {n : Nat} {xs : List Value} (hb : Below base w0 w) (hs : base ≤ w.heap.size) (h : w.ownsRow base 79 22 v n xs) (hg : w.grownBy w' v.ownBlock) : Below base w0 w' := by
  refine pw_below_grown hb v.ownBlock hs hg fun k hk => ?_
  rcases h.2 with ⟨rfl, _⟩ | ⟨g, cap, cur2, rfl, hbg, _⟩
  · cases hk
  · simp only [Value.ownBlock, Option.some.injEq] at hk
    omega
theorem Tryz.info79 : (Tryz.prog.info? 79).map (fun i => (i.zero, i.size, i.bytes)) = some (some (Value.agg (([.int .i64 0, .int .i64 0] ++ zS ++ zE ++ [.int .i64 0, .slice none 0 0] : List Value).toArray)), 22, 304) := by kernel_rfl
end Go.Proofs.YtjomofepephodaaGreat.PEquivShapes
namespace Go.Proofs.YtjomofepephodaaGreat.PEquivShapes
open Go.RowKit
open Go.Proofs.YtjomofepephodaaGreatW.PrintWords Go.Proofs.YtjomofepephodaaGreatW.PrintLast Go.Proofs.YtjomofepephodaaGreatW.PrintMore
/-- what adding to the list of things leaves -/
def Adds (base : Nat) (w0 W : World) (L : List TL) (x : Ending) (W' : World) : Prop := ∃ v', x = .returned v' ∧ ThL base w0 W' v' L ∧ Below base w0 W' ∧ Grows base W W'
theorem ThL.below {base : Nat} {w0 w w' : World} {v : Value} {L : List TL} (h : ThL base w0 w v L) (hb : Below w.heap.size w w') : ThL base w0 w' v L := by
  obtain ⟨xss, h1, h2⟩ := h
  exact ⟨xss, h1.kept (grown_of_below hb none) (by cases v.ownBlock <;> simp), h2.imp fun _ _ h => h.grows (base := base) (Grows.below hb)⟩
/-- one thing more -/
theorem ThL.add {base : Nat} {w0 w w' : World} {v' : Value} {L : List TL} {x : TL} {cs : List Value} {xss : List (List Value)} (h2 : Pairs (ThIn w0 w) L xss) (hx : ThIn w0 w x cs) (hg : Grows base w w') (ho : w'.ownsRow base 79 22 v' (L.length + 1) (xss.flatten ++ cs)) : ThL base w0 w' v' (L ++ [x]) := by
  refine ⟨xss ++ [cs], ?_, (h2.imp fun _ _ h => h.grows hg).append (.cons (hx.grows hg) .nil)⟩
  rw [List.length_append, List.flatten_append]
  simpa using ho
theorem one_cells (l : List Value) (h : (l.all fun u => u.oneCell') = true) : ∀ u ∈ l, u.oneCell' = true := List.all_eq_true.1 h
theorem below_weaken' {base : Nat} {w0 w w1 : World} (h : Below base w0 w) (hB : base ≤ w.heap.size) (k : Below w.heap.size w w1) : Below base w0 w1 :=
  h.trans ⟨k.os, k.tape, k.output, k.size, fun i hi => k.block i (Nat.lt_of_lt_of_le hi hB)⟩
mutual
theorem S50.ths_len (ls : List ByteArray) : ∀ e : S50, (S50.ths ls e).length ≤ e.bulk
  | ⟨k, n, s, l⟩ => by
    have := S50.thss_len ls l
    rw [S50.ths, S50.bulk, List.length_cons]; omega
theorem S50.thss_len (ls : List ByteArray) : ∀ l : List S50, (S50.thss ls l).length ≤ S50.bulks l
  | [] => by simp [S50.thss, S50.bulks]
  | x :: r => by
    have h1 := S50.ths_len ls x
    have h2 := S50.thss_len ls r
    rw [S50.thss, S50.bulks, List.length_append]; omega
end
theorem bulks_take (l : List S50) (i : Nat) : S50.bulks (l.take i) + S50.bulks (l.drop i) = S50.bulks l := by
  rw [S50.bulks_eq, S50.bulks_eq, S50.bulks_eq, ← List.sum_append, ← List.map_append, List.take_append_drop]
theorem take_bulks (ls : List ByteArray) {l : List S50} {i : Nat} (h : i < l.length) : (S50.thss ls (l.take i)).length + (rd_T50 l i).bulk ≤ S50.bulks l := by
  have h1 := S50.thss_len ls (l.take i)
  have h2 := bulks_take l i
  have h3 := bulks50_drop h
  omega
theorem S50.thss_take (ls : List ByteArray) {l : List S50} {i : Nat} (h : i < l.length) : S50.thss ls (l.take (i + 1)) = S50.thss ls (l.take i) ++ S50.ths ls (rd_T50 l i) := by
  have hd : rd_T50 l i = l[i] := by simp [rd_T50, h]
  rw [List.take_succ_eq_append_getElem h, S50.thss_eq, List.flatMap_append, ← S50.thss_eq, hd]
  simp
set_option maxHeartbeats 4000000 in
set_option maxRecDepth 100000 in
theorem rexprs_any (w0 : World) (base : Nat) (hbase : base = w0.heap.size) (N : Nat) (hN : N ≤ 1048576) : ∀ (e : S50) (A : Option Addr) (c : Nat) (ls : List ByteArray) (LA : Option Addr) (lc : Nat) (v : Value) (L : List TL) (W : World), e.bulk ≤ N → L.length + e.bulk ≤ 4194304 →
    k50.C w0 A e.f3.length e.f3 → e.f3.length ≤ c → ThL base w0 W v L → LsAt W LA lc ls → Below base w0 W →
    Calls Tryz.prog 92 #[v, e.val A c, .slice LA ls.length lc] W fun x W' => Adds base w0 W (L ++ S50.ths ls e) x W' := by
  induction N with
  | zero =>
    intro e A c ls LA lc v L W hb
    have := S50.bulk_eq e
    omega
  | succ N ih =>
    intro e A c ls LA lc v L W hb hlen hC hc hL hls hbw
    have hu := Tryz.underlying48
    obtain ⟨i0, hi, hz0, hz1, hz2⟩ := info_parts Tryz.info79
    have hbs : base ≤ W.heap.size := by have := hbw.size; omega
    have HDp : Aside0 (∀ W', Below base w0 W' → Calls Tryz.prog 102 #[.agg #[.int .i64 e.f0, .int .u64 e.f1, .string e.f2, .slice A e.f3.length c]] W' fun x w' => x = .returned (.int .i64 e.dep) ∧ Below W'.heap.size W' w') := ⟨fun W' h => rdeep_any e (by omega) A c W' (Kd.C_below hC (hbase ▸ h)) hc⟩
    obtain ⟨W2, hW2⟩ : ∃ W2, W.alloc (.cells #[.int .i64 e.f0, .int .u64 e.f1, .string e.f2, .slice A e.f3.length c] 50) = W2 := ⟨_, rfl⟩
    have B2 : Below W.heap.size W W2 := by rw [← hW2]; exact below_alloc (Below.refl _ _) _
    have hbox : W2.heap[W.heap.size]? = some (.cells #[.int .i64 e.f0, .int .u64 e.f1, .string e.f2, .slice A e.f3.length c] 50 (0, 0)) := by rw [← hW2]; show (W.heap.push _)[W.heap.size]? = _; simp
    have hbw2 : Below base w0 W2 := hbw.trans ⟨B2.os, B2.tape, B2.output, B2.size, fun i hi => B2.block i (by omega)⟩
    obtain ⟨z0, z1, z2, z3⟩ : W2.cell? ⟨W.heap.size, 0, none⟩ = some (.int .i64 e.f0) ∧ W2.cell? ⟨W.heap.size, 1, none⟩ = some (.int .u64 e.f1) ∧ W2.cell? ⟨W.heap.size, 2, none⟩ = some (.string e.f2) ∧ W2.cell? ⟨W.heap.size, 3, none⟩ = some (.slice A e.f3.length c) := by rw [← hW2]; simp [go_sem]
    obtain ⟨xss, ho, hx⟩ := hL.below B2
    have HX := Aside0.mk hx
    have HB2 := Aside0.mk hbw2
    have HG2 : Aside0 (Grows base W W2) := ⟨Grows.below B2⟩
    have HLs := Aside0.mk hls
    have HO := Aside0.mk ho
    have HBox := Aside0.mk hbox
    have HCC := Aside0.mk hC
    have IH := Aside0.mk ih
    have HLen := Aside0.mk hlen
    have HBA := Aside0.mk hbase
    have HBs : Aside0 (base ≤ W2.heap.size) := ⟨by have := B2.size; omega⟩
    have hn63 : L.length + 1 ≤ maxLen := by unfold maxLen; have := S50.bulk_eq e; omega
    have hnby : (L.length + 1) * 304 ≤ 140737488355328 := by have := S50.bulk_eq e; omega
    have HW := Aside0.mk hW2
    unfold S50.val
    clear ih hC hL hls hbw hbw2 B2 hbox hx ho hW2 hlen hbs hbase
    go_enter Tryz.func92, Tryz.ntmps92
    go_upto_region 1 with (fail)
    try rw [HW.out]
    go_cut [0] (fun v0 wx => ThL base w0 wx v0 (L ++ [(.expr e, ls)]) ∧ Below base w0 wx ∧ Grows base W wx ∧ wx.heap[W.heap.size]? = some (.cells #[.int .i64 e.f0, .int .u64 e.f1, .string e.f2, .slice A e.f3.length c] 50 (0, 0)))
    case first =>
      have HKc : Aside0 (∀ w' : World, w'.heap[W.heap.size]? = some (.cells #[.int .i64 e.f0, .int .u64 e.f1, .string e.f2, .slice A e.f3.length c] 50 (0, 0)) → w'.cell? ⟨W.heap.size, 0, none⟩ = some (.int .i64 e.f0) ∧ w'.cell? ⟨W.heap.size, 1, none⟩ = some (.int .u64 e.f1) ∧ w'.cell? ⟨W.heap.size, 2, none⟩ = some (.string e.f2) ∧ w'.cell? ⟨W.heap.size, 3, none⟩ = some (.slice A e.f3.length c)) := ⟨fun w' h => by simp [World.cell?, h]⟩
      have hS0 := HKc.out _ HBox.out
      have HLt : Aside0 (W.heap.size < W2.heap.size) := ⟨(Array.getElem?_eq_some_iff.1 HBox.out).1⟩
      clear z0 z1 z2 z3
      go_region_held3 (fun w' => w'.cell? ⟨W.heap.size, 0, none⟩ = some (.int .i64 e.f0) ∧ w'.cell? ⟨W.heap.size, 1, none⟩ = some (.int .u64 e.f1) ∧ w'.cell? ⟨W.heap.size, 2, none⟩ = some (.string e.f2) ∧ w'.cell? ⟨W.heap.size, 3, none⟩ = some (.slice A e.f3.length c))
        (first | exact hS0 | (refine HKc.out _ ?_; first | exact HBox.out | exact HX5.out | exact HX4.out | exact ((below_alloc (Below.refl _ _) _).block _ HL4.out).trans HX4.out))
        (first
          | (go_at_call 102; refine (HDp.out _ (by first | exact HB2.out | exact below_drew1 HB2.out)).mono ?_; rintro x' w4 ⟨rfl, hb4⟩; have B4 := Aside0.mk (show Below W2.heap.size W2 w4 from below_step (below_drew1 (Below.refl _ W2)) hb4); have HX4 := Aside0.mk ((B4.out.block _ HLt.out).trans HBox.out); have HL4 := Aside0.mk (Nat.lt_of_lt_of_le HLt.out B4.out.size); clear hb4)
          | (refine step_append_lies _ rfl (.tmp 8) (.tmp 14) 74 rfl base 79 i0 _ 22 304 Tryz.underlying74 hi hz0 hz1 hz2 rfl (by decide) v L.length xss.flatten rfl ((HO.out.kept (grown_of_below B4.out none) (by cases v.ownBlock <;> simp)).alloc _) ⟨w4.heap.size, 0, none⟩ 1 1 ([.int .i64 2, .int .i64 0] ++ zS ++ [.int .i64 e.f0, .int .u64 e.f1, .string e.f2, .slice A e.f3.length c] ++ [.int .i64 e.dep, .slice LA ls.length lc]) rfl rfl (World.news_of_block (B := w4.heap.size) (t := 79) (fr := (0, 0)) (by show (w4.heap.push _)[w4.heap.size]? = _; simp; rfl)) (one_cells _ rfl) (by decide) hn63 hnby (by have := B4.out.size; have := HBs.out; simp; omega) _ rfl ?_; intro g5 cap5 w5 ho5 hg5 _ _; have HO5 := Aside0.mk ho5; have HG5 := Aside0.mk (grown_grows ((HO.out.kept (grown_of_below B4.out none) (by cases v.ownBlock <;> simp)).alloc _) hg5); have HB5 := Aside0.mk hg5; have HX5 := Aside0.mk (HG5.out _ _ _ _ (by decide) (((below_alloc (Below.refl _ _) _).block _ HL4.out).trans HX4.out)); clear ho5 hg5))
      all_goals
        go_wp2_with fail
        go_meet
        have hGA : Grows base W2 (w4.alloc (.cells #[.int .i64 2, .int .i64 0, .int .i64 0, .string ⟨#[]⟩, .int .i64 0, .int .u64 0, .string ⟨#[]⟩, .slice none 0 0, .int .i64 0, .int .u64 0, .string ⟨#[]⟩, .slice none 0 0, .int .u64 0, .int .u64 0, .slice none 0 0, .slice none 0 0, .int .i64 e.f0, .int .u64 e.f1, .string e.f2, .slice A e.f3.length c, .int .i64 e.dep, .slice LA ls.length lc] 79)) := (Grows.below B4.out).trans (Grows.below (below_alloc (Below.refl _ _) _))
        have hBA := below_weaken' HB2.out HBs.out (below_alloc B4.out (.cells #[.int .i64 2, .int .i64 0, .int .i64 0, .string ⟨#[]⟩, .int .i64 0, .int .u64 0, .string ⟨#[]⟩, .slice none 0 0, .int .i64 0, .int .u64 0, .string ⟨#[]⟩, .slice none 0 0, .int .u64 0, .int .u64 0, .slice none 0 0, .slice none 0 0, .int .i64 e.f0, .int .u64 e.f1, .string e.f2, .slice A e.f3.length c, .int .i64 e.dep, .slice LA ls.length lc] 79))
        exact ⟨ThL.add HX.out ⟨A, c, LA, lc, rfl, hc, HCC.out, HLs.out.grows HG2.out⟩ (hGA.trans HG5.out) HO5.out, grown_below hBA (by have := B4.out.size; have := HBs.out; simp; omega) ((HO.out.kept (grown_of_below B4.out none) (by cases v.ownBlock <;> simp)).alloc _) HB5.out, HG2.out.trans (hGA.trans HG5.out), HX5.out⟩
    case rest =>
      obtain ⟨hl1, hb1, hg1, hx1⟩ := hcut
      have HKc : Aside0 (∀ w' : World, w'.heap[W.heap.size]? = some (.cells #[.int .i64 e.f0, .int .u64 e.f1, .string e.f2, .slice A e.f3.length c] 50 (0, 0)) → w'.cell? ⟨W.heap.size, 3, none⟩ = some (.slice A e.f3.length c)) := ⟨fun w' h => by simp [World.cell?, h]⟩
      have H1 := Aside0.mk (⟨hl1, hb1, hg1, hx1⟩ : _ ∧ _ ∧ _ ∧ _)
      clear hl1 hb1 hg1 hx1 z0 z1 z2 z3 hn63 hnby hz0 hz1 hz2 hi
      go_wp2_with fail
      go_loopg [0, 7] (e.f3.length) (fun m v0 v7 wr => ∃ (i : Nat) (lv : Value), lv = v0 ∧ v7 = .int .i64 i ∧ m = e.f3.length - i ∧ i ≤ e.f3.length ∧ ThL base w0 wr lv (L ++ (.expr e, ls) :: S50.thss ls (e.f3.take i)) ∧ Below base w0 wr ∧ Grows base W wr ∧ wr.heap[W.heap.size]? = some (.cells #[.int .i64 e.f0, .int .u64 e.f1, .string e.f2, .slice A e.f3.length c] 50 (0, 0)))
      case atStart =>
        obtain ⟨hl1, hb1, hg1, hx1⟩ := H1.out
        exact ⟨0, _, rfl, rfl, by omega, by omega, by simpa [S50.thss] using hl1, hb1, hg1, hx1⟩
      case round =>
        obtain ⟨i, lv, rfl, rfl, rfl, hi, hl1, hb1, hg1, hx1⟩ := hrel
        have y3 := HKc.out _ hx1
        have hll : (e.f3.length : Int) ≤ 9223372036854775807 := by have := HCC.out.2.1; omega
        by_cases hlt : i < e.f3.length
        · obtain ⟨ad, A1, c1, rfl, x0, x1, x2, x3, hc1, hk1⟩ := at_T50 HCC.out (i : Int) (by omega) (by omega)
          simp only [Int.toNat_natCast] at x0 x1 x2 x3
          replace x0 := kept0 HBA.out hb1 x0
          replace x1 := kept0 HBA.out hb1 x1
          replace x2 := kept0 HBA.out hb1 x2
          replace x3 := kept0 HBA.out hb1 x3
          have hlt' : (i : Int) < (e.f3.length : Int) := by omega
          have hkid := S50.bulk_kid hlt
          have hsum := take_bulks ls hlt
          have hlen := HLen.out
          have hbe := S50.bulk_eq e
          have hstep := S50.thss_take ls hlt
          have HI := Aside0.mk (IH.out (by omega) (rd_T50 e.f3 i) A1 c1 ls LA lc lv (L ++ (.expr e, ls) :: S50.thss ls (e.f3.take i)) wr (by omega) (by rw [List.length_append, List.length_cons]; omega) hk1 hc1 hl1 (HLs.out.grows hg1) hb1)
          have HS := Aside0.mk hstep
          have HG := Aside0.mk hg1
          have HX1 := Aside0.mk hx1
          clear hl1 hb1 hg1 hx1 hk1 hkid hsum hlen hbe hstep
          unfold S50.val at HI
          generalize rd_T50 e.f3 i = d at *
          go_wp2_with (go_at_call 92; refine HI.out.mono ?_; rintro x' w6 ⟨v6, rfl, hl6, hb6, hg6⟩)
          go_roundg (e.f3.length - (i + 1))
          case measure => omega
          case rel => exact ⟨i + 1, _, rfl, by simp, rfl, by omega, by rw [HS.out]; simpa using hl6, hb6, HG.out.trans hg6, hg6 _ _ _ _ (by decide) HX1.out⟩
        · have hlt' : ¬ ((i : Int) < (e.f3.length : Int)) := by omega
          have hie : i = e.f3.length := by omega
          subst hie
          rw [List.take_length] at hl1
          have HH := Aside0.mk (⟨hl1, hb1, hg1⟩ : _ ∧ _ ∧ _)
          clear hl1 hb1 hg1 hx1
          go_wp2_with fail
          go_ret
          obtain ⟨hl1, hb1, hg1⟩ := HH.out
          exact ⟨_, rfl, by rw [S50.ths_eq]; exact hl1, hb1, hg1⟩
end Go.Proofs.YtjomofepephodaaGreat.PEquivShapes
namespace Go.Proofs.YtjomofepephodaaGreat.PEquivShapes
open Go.RowKit
open Go.Proofs.YtjomofepephodaaGreatW.PrintWords Go.Proofs.YtjomofepephodaaGreatW.PrintLast Go.Proofs.YtjomofepephodaaGreatW.PrintMore
/-- where adding stands -/
def StL (base : Nat) (w0 W : World) (L : List TL) (v : Value) (w : World) : Prop := ThL base w0 w v L ∧ Below base w0 w ∧ Grows base W w
theorem Tryz.info9 : (Tryz.prog.info? 9).map (fun i => (i.zero, i.size, i.bytes)) = some (some (Value.string ⟨#[]⟩), 1, 16) := by kernel_rfl
end Go.Proofs.YtjomofepephodaaGreat.PEquivShapes
