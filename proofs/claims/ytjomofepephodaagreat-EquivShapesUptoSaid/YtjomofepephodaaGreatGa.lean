/-
  What was read lies in memory; the first clauses of package wf, its scopes and sizes. Conditions: what each theorem names.
-/
import Derived.ChangeSlices
import Derived.Deep.Slices
import Derived.Deep.Strs
import Derived.ProofKit
import Derived.Test.YtjomofepephodaaGreatKb
import Derived.Test.YtjomofepephodaaGreatRows
import Derived.Lib.SmallJoins
set_option linter.unusedVariables false
set_option linter.unusedSimpArgs false
namespace Go.Proofs.YtjomofepephodaaGreat.PEquivShapes
open Go.ChangeShapes Go.WideShapes Go.ChangeAt Go.RowKit Go.Deep
open Go.Proofs.YtjomofepephodaaGreat.PEquivShapes Go.Proofs.YtjomofepephodaaGreatW.PrintWords Go.Proofs.YtjomofepephodaaGreatW.PrintLast Go.Proofs.YtjomofepephodaaGreatW.PrintMore
/-- a number is an int -/
def I64 (n : Int) : Prop := -9223372036854775808 ≤ n ∧ n ≤ 9223372036854775807
/-- a number is a word of 64 bits -/
def U64 (n : Int) : Prop := 0 ≤ n ∧ n ≤ 18446744073709551615
mutual
/-- an expression's bulk -/
def S50.bulk : S50 → Nat
 | ⟨_, _, s, l⟩ => s.size + S50.bulks l + 5
def S50.bulks : List S50 → Nat
 | [] => 0
 | x :: r => x.bulk + S50.bulks r
end
mutual
/-- an expression's numbers fit -/
def S50.fits : S50 → Prop
 | ⟨k, n, _, l⟩ => I64 k ∧ U64 n ∧ S50.allFit l
def S50.allFit : List S50 → Prop
 | [] => True
 | x :: r => x.fits ∧ S50.allFit r
end
mutual
/-- a statement's bulk -/
def S52.bulk : S52 → Nat
 | ⟨_, s, a, e, _, _, t, u⟩ => s.size + S50.bulk a + S50.bulk e + S52.bulks t + S52.bulks u + 7
def S52.bulks : List S52 → Nat
 | [] => 0
 | x :: r => x.bulk + S52.bulks r
end
mutual
/-- a statement's numbers fit -/
def S52.fits : S52 → Prop
 | ⟨k, _, a, e, lo, hi, t, u⟩ => I64 k ∧ a.fits ∧ e.fits ∧ U64 lo ∧ U64 hi ∧ S52.allFit t ∧ S52.allFit u
def S52.allFit : List S52 → Prop
 | [] => True
 | x :: r => x.fits ∧ S52.allFit r
end
/-- a declaration's bulk; its numbers fit -/
def S38.bulk (d : S38) : Nat := d.f1.size + d.f3.length + 5
def S38.fits (d : S38) : Prop := I64 d.f0 ∧ I64 d.f2 ∧ ∀ v, v ∈ d.f3 → U64 v
/-- a program: its name, width, line, declarations, body -/
structure PR where
 name : ByteArray
 width : Int
 line : Int
 decls : List S38
 body : List S52
def PR.bulk (p : PR) : Nat := (p.decls.map S38.bulk).sum + S52.bulks p.body + p.name.size
def PR.fits (p : PR) : Prop := I64 p.width ∧ I64 p.line ∧ (∀ d, d ∈ p.decls → d.fits) ∧ S52.allFit p.body
theorem S50.bulks_eq (l : List S50) : S50.bulks l = (l.map S50.bulk).sum := by
 induction l with
 | nil => rfl
 | cons x l ih => rw [S50.bulks, ih]; rfl
theorem S52.bulks_eq (l : List S52) : S52.bulks l = (l.map S52.bulk).sum := by
 induction l with
 | nil => rfl
 | cons x l ih => rw [S52.bulks, ih]; rfl
theorem S50.allFit_iff (l : List S50) : S50.allFit l ↔ ∀ x, x ∈ l → x.fits := by
 induction l with
 | nil => simp [S50.allFit]
 | cons x l ih => rw [S50.allFit, ih]; simp
theorem S52.allFit_iff (l : List S52) : S52.allFit l ↔ ∀ x, x ∈ l → x.fits := by
 induction l with
 | nil => simp [S52.allFit]
 | cons x l ih => rw [S52.allFit, ih]; simp
theorem cellsOf3 : Tryz.prog.cellsOf 3 = 1 := by kernel_rfl
theorem cellsOf47 : Tryz.prog.cellsOf 47 = 1 := by kernel_rfl
theorem cellsOf9 : Tryz.prog.cellsOf 9 = 1 := by kernel_rfl
theorem cellsOf48 : Tryz.prog.cellsOf 48 = 1 := by kernel_rfl
theorem cellsOf36 : Tryz.prog.cellsOf 36 = 1 := by kernel_rfl
theorem cellsOf22 : Tryz.prog.cellsOf 22 = 1 := by kernel_rfl
theorem cellsOf23 : Tryz.prog.cellsOf 23 = 1 := by kernel_rfl
theorem cellsOf50 : Tryz.prog.cellsOf 50 = 4 := by kernel_rfl
theorem cellsOf38 : Tryz.prog.cellsOf 38 = 4 := by kernel_rfl
theorem cellsOf52 : Tryz.prog.cellsOf 52 = 14 := by kernel_rfl
theorem cellsOf25 : Tryz.prog.cellsOf 25 = 5 := by kernel_rfl
section
variable {H : Type} {enc : TypeId × Value → H} {w : World} {base : Nat} {spare : Nat → Bool} {held : Bool}
/-- A SLICE THAT WAS READ: its elements are of a kind where what was read is. -/
theorem slice_kd {α : Type} (d : Kd α) (bk : α → Nat) (okk : α → Prop) {t e : TypeId} {fuel : Nat} {c0 : Value} {x : DataW H × List MemPlace}
  (ht : Tryz.prog.underlying t = some (.slice e)) (hsz : Tryz.prog.cellsOf e = d.sz)
  (hel : ∀ n, n < fuel → ∀ cs y, DataW.trod enc Tryz.prog w base spare held n e cs = some y → ∃ v, d.K w v cs ∧ okk v ∧ bk v ≤ Rows.uptoBulk y.1)
  (h : DataW.trod enc Tryz.prog w base spare held fuel t [c0] = some x) :
  ∃ ys A cap, c0 = .slice A ys.length cap ∧ ys.length ≤ cap ∧ d.C w A ys.length ys ∧ (∀ v, v ∈ ys → okk v) ∧ (ys.map bk).sum + 1 ≤ Rows.uptoBulk x.1 := by
 rcases DataW.trod_slice ht h with ⟨hc, rfl⟩ | ⟨a, len, cap, elems, rest, n, rfl, hc, rfl, _, hl, hm, hlen, hall, _, _⟩
 ·simp only [List.cons.injEq, and_true] at hc
  exact ⟨[], none, 0, hc, Nat.le_refl _, ⟨rfl, by simp, fun h => absurd h (Nat.lt_irrefl 0)⟩, fun v hv => by simp at hv, by simp [Rows.uptoBulk]⟩
 ·simp only [List.cons.injEq, and_true] at hc
  have hop : ∀ i, ∃ cs : List Value, i < len → ∃ v, w.cells? base (a.add (i * d.sz)) d.sz = some cs ∧ d.K w v cs ∧ okk v ∧ bk v ≤ Rows.uptoBulk (elems.map (·.1))[i]! := by
   intro i
   by_cases hi : i < len
   ·have h1 := hall i hi
    rw [hsz, List.getElem?_eq_getElem (by omega)] at h1
    obtain ⟨cs, h2, h3⟩ := Option.bind_eq_some_iff.1 h1
    obtain ⟨v, h4, h5, h6⟩ := hel n (Nat.lt_succ_self n) cs _ h3
    refine ⟨cs, fun _ => ⟨v, h2, h4, h5, ?_⟩⟩
    rw [getElem!_pos _ i (by simp; omega)]
    simpa using h6
   ·exact ⟨[], fun hh => absurd hh hi⟩
  obtain ⟨f, hf⟩ := Classical.axiomOfChoice hop
  have hop2 : ∀ i : Fin len, ∃ v, w.cells? base (a.add (i * d.sz)) d.sz = some (f i) ∧ d.K w v (f i) ∧ okk v ∧ bk v ≤ Rows.uptoBulk (elems.map (·.1))[i.1]! := fun i => hf i i.2
  obtain ⟨g, hg⟩ := Classical.axiomOfChoice hop2
  have hlg : (List.ofFn g).length = len := by simp
  refine ⟨List.ofFn g, some a, cap, by rw [hlg]; exact hc, by rw [hlg]; exact hl, ⟨rfl, by rw [hlg]; simp only [maxLen] at hm; omega, fun _ => ⟨a, rfl, fun j p hj => ?_⟩⟩, fun v hv => ?_, ?_⟩
  ·have hjl : j < len := by
    have := (List.getElem?_eq_some_iff.1 hj).1
    omega
   have hp : p = g ⟨j, hjl⟩ := by
    rw [List.getElem?_ofFn] at hj
    simp [hjl] at hj
    exact hj.symm
   subst hp
   obtain ⟨h1, h2, _⟩ := hg ⟨j, hjl⟩
   have h3 := World.cells?_some h1
   refine ⟨f j, h3.2.1, h2, fun i u hi => ?_⟩
   have hil : i < d.sz := by
    have h4 := (List.getElem?_eq_some_iff.1 hi).1
    have h5 : (f j).length = d.sz := h3.2.1
    omega
   have h4 := h3.2.2 i hil
   rw [Deep.add_add] at h4
   rw [h4]
   exact hi
  ·obtain ⟨i, rfl⟩ := List.mem_ofFn.1 hv
   exact (hg i).2.2.1
  ·have key : ∀ (m : Nat) (es : List (DataW H)) (gg : Fin m → α), es.length = m → (∀ i : Fin m, bk (gg i) ≤ Rows.uptoBulk es[i.1]!) → ((List.ofFn gg).map bk).sum ≤ Rows.uptoBulkAll es := by
    intro m
    induction m with
    | zero => intro es gg _ _; simp
    | succ m ih =>
     intro es gg hes hgg
     match es, hes with
     | e0 :: es, hes =>
      rw [List.ofFn_succ, List.map_cons, List.sum_cons, Rows.uptoBulkAll]
      have h0 := hgg 0
      have h1 := ih es (fun i => gg i.succ) (by simpa using hes) (fun i => by
       have := hgg i.succ
       simpa using this)
      simp at h0
      omega
   have h1 := key len (elems.map (·.1)) g (by simp [hlen]) (fun i => (hg i).2.2.2)
   simp only [Rows.uptoBulk]
   omega
end
end Go.Proofs.YtjomofepephodaaGreat.PEquivShapes
namespace Go.Proofs.YtjomofepephodaaGreat.PEquivShapes
open Go.ChangeShapes Go.WideShapes Go.ChangeAt Go.RowKit Go.Deep
open Go.Proofs.YtjomofepephodaaGreatW.PrintWords Go.Proofs.YtjomofepephodaaGreatW.PrintLast Go.Proofs.YtjomofepephodaaGreatW.PrintMore
theorem sum_ones (l : List Int) : (l.map (fun _ => 1)).sum = l.length := by
 induction l with
 | nil => rfl
 | cons a l ih => rw [List.map_cons, List.sum_cons, ih, List.length_cons]; omega
theorem len4 {α : Type} {l : List α} (h : l.length = 4) : ∃ a0 a1 a2 a3, l = [a0, a1, a2, a3] := by
 match l, h with
 | [a0, a1, a2, a3], _ => exact ⟨_, _, _, _, rfl⟩
theorem len5 {α : Type} {l : List α} (h : l.length = 5) : ∃ a0 a1 a2 a3 a4, l = [a0, a1, a2, a3, a4] := by
 match l, h with
 | [a0, a1, a2, a3, a4], _ => exact ⟨_, _, _, _, _, rfl⟩
theorem len8 {α : Type} {l : List α} (h : l.length = 8) : ∃ a0 a1 a2 a3 a4 a5 a6 a7, l = [a0, a1, a2, a3, a4, a5, a6, a7] := by
 match l, h with
 | [a0, a1, a2, a3, a4, a5, a6, a7], _ => exact ⟨_, _, _, _, _, _, _, _, rfl⟩
theorem len14 {α : Type} {l : List α} (h : l.length = 14) : ∃ a0 a1 a2 a3 a4 a5 a6 a7 a8 a9 a10 a11 a12 a13, l = [a0, a1, a2, a3, a4, a5, a6, a7, a8, a9, a10, a11, a12, a13] := by
 match l, h with
 | [a0, a1, a2, a3, a4, a5, a6, a7, a8, a9, a10, a11, a12, a13], _ => exact ⟨_, _, _, _, _, _, _, _, _, _, _, _, _, _, rfl⟩
section
variable {H : Type} {enc : TypeId × Value → H} {w : World} {base : Nat} {spare : Nat → Bool} {held : Bool}
theorem i64_of {n : Int} (h : (Lit.int .i64 n).wf = true) : I64 n := by
 have h1 : IntKind.i64.max = 9223372036854775807 := rfl
 have h2 : IntKind.i64.min = -9223372036854775808 := rfl
 simp [Lit.wf] at h
 unfold I64
 omega
theorem u64_of {n : Int} (h : (Lit.int .u64 n).wf = true) : U64 n := by
 have h1 : IntKind.u64.max = 18446744073709551615 := rfl
 have h2 : IntKind.u64.min = 0 := rfl
 simp [Lit.wf] at h
 unfold U64
 omega
theorem expr_kd (fuel : Nat) : ∀ (cs : List Value) (x : DataW H × List MemPlace), DataW.trod enc Tryz.prog w base spare held fuel 50 cs = some x → ∃ v : S50, k50.K w v cs ∧ v.fits ∧ v.bulk ≤ Rows.uptoBulk x.1 := by
 induction fuel using Nat.strongRecOn with
 | _ fuel ih =>
 intro cs x h
 obtain ⟨xs, n, hn, rfl, hl, hlen, hf⟩ := DataW.trod_struct Tryz.underlying50 h
 replace hl : cs.length = 4 := hl.trans cellsOf50
 replace hlen : xs.length = 4 := hlen
 obtain ⟨y0, y1, y2, y3, rfl⟩ := len4 hlen
 obtain ⟨c0, c1, c2, c3, rfl⟩ := len4 hl
 have f0 := hf 0 _ rfl
 have f1 := hf 1 _ rfl
 have f2 := hf 2 _ rfl
 have f3 := hf 3 _ rfl
 simp [cellsOf3, cellsOf47, cellsOf9, cellsOf48] at f0 f1 f2 f3
 obtain ⟨k, e0, rfl, w0⟩ := DataW.trod_int Tryz.underlying3 f0
 obtain ⟨m, e1, rfl, w1⟩ := DataW.trod_int Tryz.underlying47 f1
 obtain ⟨s, e2, rfl, w2⟩ := DataW.trod_string Tryz.underlying9 f2
 simp at e0 e1 e2
 subst e0; subst e1; subst e2
 obtain ⟨ys, A, cap, rfl, l3, g3, q3, b3⟩ := slice_kd k50 S50.bulk S50.fits Tryz.underlying48 cellsOf50 (fun n' hn' cs y hy => ih n' (by omega) cs y hy) f3
 refine ⟨⟨k, m, s, ys⟩, k50_mk w ⟨k, m, s, ys⟩ l3 g3, ?_, ?_⟩
 ·exact ⟨i64_of w0, u64_of w1, (S50.allFit_iff ys).2 q3⟩
 ·simp only [S50.bulk, S50.bulks_eq, Rows.uptoBulk, List.map_cons, List.map_nil, Rows.uptoBulkAll]
  simp
  omega
theorem stmt_kd (fuel : Nat) : ∀ (cs : List Value) (x : DataW H × List MemPlace), DataW.trod enc Tryz.prog w base spare held fuel 52 cs = some x → ∃ v : S52, k52.K w v cs ∧ v.fits ∧ v.bulk ≤ Rows.uptoBulk x.1 := by
 induction fuel using Nat.strongRecOn with
 | _ fuel ih =>
 intro cs x h
 obtain ⟨xs, n, hn, rfl, hl, hlen, hf⟩ := DataW.trod_struct Tryz.underlying52 h
 replace hl : cs.length = 14 := hl.trans cellsOf52
 replace hlen : xs.length = 8 := hlen
 obtain ⟨y0, y1, y2, y3, y4, y5, y6, y7, rfl⟩ := len8 hlen
 obtain ⟨c0, c1, c2, c3, c4, c5, c6, c7, c8, c9, c10, c11, c12, c13, rfl⟩ := len14 hl
 have f0 := hf 0 _ rfl
 have f1 := hf 1 _ rfl
 have f2 := hf 2 _ rfl
 have f3 := hf 3 _ rfl
 have f4 := hf 4 _ rfl
 have f5 := hf 5 _ rfl
 have f6 := hf 6 _ rfl
 have f7 := hf 7 _ rfl
 simp [cellsOf3, cellsOf47, cellsOf9, cellsOf50, cellsOf23] at f0 f1 f2 f3 f4 f5 f6 f7
 obtain ⟨k, e0, rfl, w0⟩ := DataW.trod_int Tryz.underlying3 f0
 obtain ⟨s, e1, rfl, w1⟩ := DataW.trod_string Tryz.underlying9 f1
 obtain ⟨lo, e4, rfl, w4⟩ := DataW.trod_int Tryz.underlying47 f4
 obtain ⟨hi, e5, rfl, w5⟩ := DataW.trod_int Tryz.underlying47 f5
 simp at e0 e1 e4 e5
 subst e0; subst e1; subst e4; subst e5
 obtain ⟨a, ka, qa, ba⟩ := expr_kd n _ _ f2
 obtain ⟨e, ke, qe, be⟩ := expr_kd n _ _ f3
 obtain ⟨A3, a3, ha, la, ga⟩ := k50_open ka
 obtain ⟨B3, b3, hb, lb, gb⟩ := k50_open ke
 simp only [List.cons.injEq, and_true] at ha hb
 obtain ⟨rfl, rfl, rfl, rfl⟩ := ha
 obtain ⟨rfl, rfl, rfl, rfl⟩ := hb
 obtain ⟨ts, T, tcap, rfl, l6, g6, q6, b6⟩ := slice_kd k52 S52.bulk S52.fits Tryz.underlying23 cellsOf52 (fun n' hn' cs y hy => ih n' (by omega) cs y hy) f6
 obtain ⟨us, U, ucap, rfl, l7, g7, q7, b7⟩ := slice_kd k52 S52.bulk S52.fits Tryz.underlying23 cellsOf52 (fun n' hn' cs y hy => ih n' (by omega) cs y hy) f7
 refine ⟨⟨k, s, a, e, lo, hi, ts, us⟩, k52_mk w ⟨k, s, a, e, lo, hi, ts, us⟩ la ga lb gb l6 g6 l7 g7, ?_, ?_⟩
 ·exact ⟨i64_of w0, qa, qe, u64_of w4, u64_of w5, (S52.allFit_iff ts).2 q6, (S52.allFit_iff us).2 q7⟩
 ·simp only [S52.bulk, S52.bulks_eq, Rows.uptoBulk, List.map_cons, List.map_nil, Rows.uptoBulkAll]
  simp
  omega
theorem decl_kd (fuel : Nat) (cs : List Value) (x : DataW H × List MemPlace) (h : DataW.trod enc Tryz.prog w base spare held fuel 38 cs = some x) : ∃ v : S38, k38.K w v cs ∧ v.fits ∧ v.bulk ≤ Rows.uptoBulk x.1 := by
 obtain ⟨xs, n, hn, rfl, hl, hlen, hf⟩ := DataW.trod_struct Tryz.underlying38 h
 replace hl : cs.length = 4 := hl.trans cellsOf38
 replace hlen : xs.length = 4 := hlen
 obtain ⟨y0, y1, y2, y3, rfl⟩ := len4 hlen
 obtain ⟨c0, c1, c2, c3, rfl⟩ := len4 hl
 have f0 := hf 0 _ rfl
 have f1 := hf 1 _ rfl
 have f2 := hf 2 _ rfl
 have f3 := hf 3 _ rfl
 simp [cellsOf3, cellsOf47, cellsOf9, cellsOf36] at f0 f1 f2 f3
 obtain ⟨k, e0, rfl, w0⟩ := DataW.trod_int Tryz.underlying3 f0
 obtain ⟨s, e1, rfl, w1⟩ := DataW.trod_string Tryz.underlying9 f1
 obtain ⟨m, e2, rfl, w2⟩ := DataW.trod_int Tryz.underlying3 f2
 simp at e0 e1 e2
 subst e0; subst e1; subst e2
 obtain ⟨ys, A, cap, rfl, l3, g3, q3, b3⟩ := slice_kd (Kd.int .u64) (fun _ => 1) U64 Tryz.underlying36 cellsOf47 (fun n' hn' cs y hy => by
  obtain ⟨v, e, rfl, wv⟩ := DataW.trod_int Tryz.underlying47 hy
  exact ⟨v, e, u64_of wv, by simp [Rows.uptoBulk]⟩) f3
 refine ⟨⟨k, s, m, ys⟩, k38_mk w ⟨k, s, m, ys⟩ l3 g3, ?_, ?_⟩
 ·exact ⟨i64_of w0, i64_of w2, q3⟩
 ·have hs := sum_ones ys
  simp only [S38.bulk, Rows.uptoBulk, List.map_cons, List.map_nil, Rows.uptoBulkAll]
  simp
  omega
/-- a program's cells -/
def PR.At (w : World) (p : PR) (A3 : Option Addr) (c3 : Nat) (A4 : Option Addr) (c4 : Nat) : Prop :=
 p.decls.length ≤ c3 ∧ k38.C w A3 p.decls.length p.decls ∧ p.body.length ≤ c4 ∧ k52.C w A4 p.body.length p.body
def PR.cells (p : PR) (A3 : Option Addr) (c3 : Nat) (A4 : Option Addr) (c4 : Nat) : Value :=
 .agg #[.string p.name, .int .i64 p.width, .int .i64 p.line, .slice A3 p.decls.length c3, .slice A4 p.body.length c4]
theorem prog_kd (fuel : Nat) (cs : List Value) (x : DataW H × List MemPlace) (h : DataW.trod enc Tryz.prog w base spare held fuel 25 cs = some x) :
  ∃ (p : PR) (A3 : Option Addr) (c3 : Nat) (A4 : Option Addr) (c4 : Nat), cs = [.string p.name, .int .i64 p.width, .int .i64 p.line, .slice A3 p.decls.length c3, .slice A4 p.body.length c4] ∧ p.At w A3 c3 A4 c4 ∧ p.fits ∧ p.bulk ≤ Rows.uptoBulk x.1 := by
 obtain ⟨xs, n, hn, rfl, hl, hlen, hf⟩ := DataW.trod_struct Tryz.underlying25 h
 replace hl : cs.length = 5 := hl.trans cellsOf25
 replace hlen : xs.length = 5 := hlen
 obtain ⟨y0, y1, y2, y3, y4, rfl⟩ := len5 hlen
 obtain ⟨c0, c1, c2, c3, c4, rfl⟩ := len5 hl
 have f0 := hf 0 _ rfl
 have f1 := hf 1 _ rfl
 have f2 := hf 2 _ rfl
 have f3 := hf 3 _ rfl
 have f4 := hf 4 _ rfl
 simp [cellsOf3, cellsOf47, cellsOf9, cellsOf22, cellsOf23] at f0 f1 f2 f3 f4
 obtain ⟨s, e0, rfl, w0⟩ := DataW.trod_string Tryz.underlying9 f0
 obtain ⟨k, e1, rfl, w1⟩ := DataW.trod_int Tryz.underlying3 f1
 obtain ⟨m, e2, rfl, w2⟩ := DataW.trod_int Tryz.underlying3 f2
 simp at e0 e1 e2
 subst e0; subst e1; subst e2
 obtain ⟨ds, A, dcap, rfl, l3, g3, q3, b3⟩ := slice_kd k38 S38.bulk S38.fits Tryz.underlying22 cellsOf38 (fun n' _ cs y hy => decl_kd n' cs y hy) f3
 obtain ⟨ts, T, tcap, rfl, l4, g4, q4, b4⟩ := slice_kd k52 S52.bulk S52.fits Tryz.underlying23 cellsOf52 (fun n' _ cs y hy => stmt_kd n' cs y hy) f4
 refine ⟨⟨s, k, m, ds, ts⟩, A, dcap, T, tcap, rfl, ⟨l3, g3, l4, g4⟩, ⟨i64_of w1, i64_of w2, q3, (S52.allFit_iff ts).2 q4⟩, ?_⟩
 simp only [PR.bulk, S52.bulks_eq, Rows.uptoBulk, List.map_cons, List.map_nil, Rows.uptoBulkAll]
 simp
 omega
end
end Go.Proofs.YtjomofepephodaaGreat.PEquivShapes
namespace Go.Proofs.YtjomofepephodaaGreat.PEquivShapes
open Go.RowKit
open Go.Proofs.YtjomofepephodaaGreatW.PrintWords Go.Proofs.YtjomofepephodaaGreatW.PrintLast Go.Proofs.YtjomofepephodaaGreatW.PrintMore
/-- a power of two up to most? -/
def powB (n most : Int) : Bool := decide (1 ≤ n) && decide (n ≤ most) && (Go.bits .and .i64 n (wrap64 (n - 1)) == 0)
/-- is it a word of the width? -/
def fitB (w x : Int) : Bool := decide (64 ≤ w) || (x / 2 ^ w.toNat == 0)
set_option maxHeartbeats 400000 in
theorem power_any (n most : Int) (w : World) : Calls Tryz.prog 39 #[.int .i64 n, .int .i64 most] w fun e w' => e = .returned (.bool (powB n most)) ∧ w' = w := by
 unfold powB
 go_enter Tryz.func39, Tryz.ntmps39
 by_cases h1 : 1 ≤ n
 ·by_cases h2 : n ≤ most
  ·go_wp2
   go_ret
   exact ⟨by simp only [h1, h2, decide_true, Bool.true_and]; rfl, rfl⟩
  ·go_wp2
   go_ret
   exact ⟨by simp only [h1, show ¬ n ≤ most by omega, decide_true, decide_false, Bool.true_and, Bool.false_and]; rfl, rfl⟩
 ·go_wp2
  go_ret
  exact ⟨by simp only [show ¬ 1 ≤ n by omega, decide_false, Bool.false_and]; rfl, rfl⟩
set_option maxHeartbeats 400000 in
theorem fits_any (k x : Int) (h0 : 0 ≤ k) (hk : I64 k) (w : World) : Calls Tryz.prog 50 #[.int .i64 k, .int .u64 x] w fun e w' => e = .returned (.bool (fitB k x)) ∧ w' = w := by
 unfold fitB
 obtain ⟨hk1, hk2⟩ := hk
 go_enter Tryz.func50, Tryz.ntmps50
 by_cases h1 : 64 ≤ k
 ·go_wp2
  go_ret
  exact ⟨by simp only [h1, decide_true, Bool.true_or]; rfl, rfl⟩
 ·go_wp2
  go_ret
  exact ⟨by simp only [show ¬ 64 ≤ k by omega, decide_false, Bool.false_or]; rfl, rfl⟩
set_option maxHeartbeats 400000 in
theorem c2_any (p : PR) (A3 : Option Addr) (c3 : Nat) (A4 : Option Addr) (c4 : Nat) (w : World) : Calls Tryz.prog 40 #[p.cells A3 c3 A4 c4] w fun e w' => e = .returned (.bool (powB p.line 256)) ∧ Below w.heap.size w w' := by
 unfold PR.cells
 go_enter Tryz.func40, Tryz.ntmps40
 go_wp2_with (go_at_call 39; refine (power_any _ _ _).mono ?_; rintro e w' ⟨rfl, rfl⟩)
 go_ret
 exact ⟨rfl, below_alloc (Below.refl _ _) _⟩
set_option maxHeartbeats 400000 in
theorem c3_any (p : PR) (A3 : Option Addr) (c3 : Nat) (A4 : Option Addr) (c4 : Nat) (w : World) : Calls Tryz.prog 41 #[p.cells A3 c3 A4 c4] w fun e w' => e = .returned (.bool (decide ((p.decls.length : Int) ≤ 256))) ∧ Below w.heap.size w w' := by
 unfold PR.cells
 go_enter Tryz.func41, Tryz.ntmps41
 go_wp2
 go_ret
 exact ⟨rfl, below_alloc (Below.refl _ _) _⟩
set_option maxHeartbeats 400000 in
theorem c1_any (p : PR) (A3 : Option Addr) (c3 : Nat) (A4 : Option Addr) (c4 : Nat) (w : World) : Calls Tryz.prog 38 #[p.cells A3 c3 A4 c4] w fun e w' => e = .returned (.bool (decide (4 ≤ p.width) && powB p.width 64)) ∧ Below w.heap.size w w' := by
 unfold PR.cells
 go_enter Tryz.func38, Tryz.ntmps38
 by_cases h1 : 4 ≤ p.width
 ·go_wp2_with (go_at_call 39; refine (power_any _ _ _).mono ?_; rintro e w' ⟨rfl, rfl⟩)
  go_ret
  exact ⟨by simp [h1], below_alloc (Below.refl _ _) _⟩
 ·go_wp2_with fail
  go_ret
  exact ⟨by simp [show ¬ 4 ≤ p.width by omega], below_alloc (Below.refl _ _) _⟩
end Go.Proofs.YtjomofepephodaaGreat.PEquivShapes
namespace Go.Proofs.YtjomofepephodaaGreat.PEquivShapes
open Go.RowKit
open Go.Proofs.YtjomofepephodaaGreatW.PrintWords Go.Proofs.YtjomofepephodaaGreatW.PrintLast Go.Proofs.YtjomofepephodaaGreatW.PrintMore
/-- the place of a declaration by its name -/
def findI (ds : List S38) (s : ByteArray) : Option Nat := ds.findIdx? fun d => decide (d.f1.toList = s.toList)
theorem findI_none {ds : List S38} {s : ByteArray} (h : ∀ j, j < ds.length → ¬ (rd_T38 ds j).f1.toList = s.toList) : findI ds s = none := by
 unfold findI
 rw [List.findIdx?_eq_none_iff]
 intro d hd
 obtain ⟨j, hj, rfl⟩ := List.getElem_of_mem hd
 have := h j hj
 simp only [rd_T38, Int.toNat_natCast, List.getD_eq_getElem?_getD, List.getElem?_eq_getElem hj, Option.getD_some] at this
 exact decide_eq_false this
theorem findI_some {ds : List S38} {s : ByteArray} {i : Nat} (hi : i < ds.length) (h : ∀ j, j < i → ¬ (rd_T38 ds j).f1.toList = s.toList) (he : (rd_T38 ds i).f1.toList = s.toList) : findI ds s = some i := by
 unfold findI
 rw [List.findIdx?_eq_some_iff_getElem]
 simp only [rd_T38, Int.toNat_natCast, List.getD_eq_getElem?_getD, List.getElem?_eq_getElem hi, Option.getD_some] at he
 refine ⟨hi, decide_eq_true he, fun j hj => ?_⟩
 have := h j hj
 simp only [rd_T38, Int.toNat_natCast, List.getD_eq_getElem?_getD, List.getElem?_eq_getElem (show j < ds.length by omega), Option.getD_some] at this
 exact fun hc => this (of_decide_eq_true hc)
set_option maxHeartbeats 1000000 in
theorem find_any (p : PR) (A3 : Option Addr) (c3 : Nat) (A4 : Option Addr) (c4 : Nat) (s : ByteArray) (w : World) (h : p.At w A3 c3 A4 c4) :
  Calls Tryz.prog 44 #[p.cells A3 c3 A4 c4, .string s] w fun e w' => e = .returned (.pointer ((findI p.decls s).bind fun i => A3.map fun a => a.add (i * 4))) ∧ Below w.heap.size w w' := by
 obtain ⟨hl3, h3, hl4, h4⟩ := h
 unfold PR.cells
 have HB := below_alloc (Below.refl w.heap.size w) (.cells #[.string p.name, .int .i64 p.width, .int .i64 p.line, .slice A3 p.decls.length c3, .slice A4 p.body.length c4] 25)
 have hu22 := Tryz.underlying22
 go_enter Tryz.func44, Tryz.ntmps44
 go_wp2_with fail
 go_loopg [9] (p.decls.length) (fun m v wr => ∃ i : Nat, v = .int .i64 i ∧ m = p.decls.length - i ∧ i ≤ p.decls.length ∧ (∀ j : Nat, j < i → ¬ (rd_T38 p.decls j).f1.toList = s.toList) ∧ wr = w.alloc (.cells #[.string p.name, .int .i64 p.width, .int .i64 p.line, .slice A3 p.decls.length c3, .slice A4 p.body.length c4] 25))
 case atStart => exact ⟨0, rfl, by omega, by omega, fun j hj => by omega, rfl⟩
 case round =>
  obtain ⟨i, rfl, rfl, hi, hj, rfl⟩ := hrel
  by_cases hlt : i < p.decls.length
  ·obtain ⟨ad, A, c, rfl, x0, x1, x2, x3, _, _⟩ := at_T38 h3 (i : Int) (by omega) (by omega)
   simp only [Int.toNat_natCast] at x1
   replace x1 := (HB.cell (World.block_lt_of_cell? w _ x1)).trans x1
   have hlt' : (i : Int) < (p.decls.length : Int) := by omega
   have hll : (p.decls.length : Int) ≤ 9223372036854775807 := by have := h3.2.1; omega
   have HJ := Aside0.mk hj
   clear hj x0 x2 x3
   by_cases he : (rd_T38 p.decls i).f1.toList = s.toList
   ·have hb : ((rd_T38 p.decls i).f1.toList == s.toList) = true := beq_iff_eq.mpr he
    have HE := Aside0.mk he
    clear he
    go_wp2_with fail
    go_ret
    rw [findI_some hlt HJ.out HE.out]
    exact ⟨rfl, HB⟩
   ·have hb : ((rd_T38 p.decls i).f1.toList == s.toList) = false := beq_eq_false_iff_ne.mpr he
    have HE := Aside0.mk he
    clear he
    go_wp2_with fail
    go_roundg (p.decls.length - (i + 1))
    case measure => omega
    case rel =>
     refine ⟨i + 1, by simp, rfl, by omega, fun j hj => ?_, rfl⟩
     rcases Nat.lt_succ_iff_lt_or_eq.1 hj with h1 | rfl
     ·exact HJ.out j h1
     ·exact HE.out
  ·have hlt' : ¬ ((i : Int) < (p.decls.length : Int)) := by omega
   have hie : i = p.decls.length := by omega
   have HJ := Aside0.mk hj
   clear hj
   go_wp2_with fail
   go_ret
   rw [findI_none (hie ▸ HJ.out)]
   exact ⟨rfl, HB⟩
end Go.Proofs.YtjomofepephodaaGreat.PEquivShapes
namespace Go.Proofs.YtjomofepephodaaGreat.PEquivShapes
open Go.RowKit
open Go.Proofs.YtjomofepephodaaGreatW.PrintWords Go.Proofs.YtjomofepephodaaGreatW.PrintLast Go.Proofs.YtjomofepephodaaGreatW.PrintMore
attribute [local go_sem] max2_int min2_int max_two min_two max_three min_three max_four min_four
theorem foldl_take {α β : Type} (f : β → α → β) (b : β) (z : α) (l : List α) (i : Nat) (h : i < l.length) : (l.take (i + 1)).foldl f b = f ((l.take i).foldl f b) (l.getD i z) := by
 rw [List.take_add_one, List.foldl_append, List.getElem?_eq_getElem h, List.getD_eq_getElem?_getD, List.getElem?_eq_getElem h]
 rfl
/-- how many words of inputs -/
def inStep (n : Int) (d : S38) : Int := if d.f0 = 1 ∨ d.f0 = 2 then wrap64 (n + mx d.f2 1) else n
def inW (ds : List S38) : Int := ds.foldl inStep 0
set_option maxHeartbeats 1000000 in
theorem inputs_any (p : PR) (A3 : Option Addr) (c3 : Nat) (A4 : Option Addr) (c4 : Nat) (w : World) (h : p.At w A3 c3 A4 c4) :
  Calls Tryz.prog 52 #[p.cells A3 c3 A4 c4] w fun e w' => e = .returned (.int .i64 (inW p.decls)) ∧ Below w.heap.size w w' := by
 obtain ⟨hl3, h3, hl4, h4⟩ := h
 unfold PR.cells
 have HB := below_alloc (Below.refl w.heap.size w) (.cells #[.string p.name, .int .i64 p.width, .int .i64 p.line, .slice A3 p.decls.length c3, .slice A4 p.body.length c4] 25)
 have hu22 := Tryz.underlying22
 have hll : (p.decls.length : Int) ≤ 9223372036854775807 := by have := h3.2.1; omega
 go_enter Tryz.func52, Tryz.ntmps52
 go_wp2_with fail
 go_loopg [3, 9] (p.decls.length) (fun m v3 v wr => ∃ i : Nat, v3 = .int .i64 ((p.decls.take i).foldl inStep 0) ∧ v = .int .i64 i ∧ m = p.decls.length - i ∧ i ≤ p.decls.length ∧ Below w.heap.size w wr)
 case atStart => exact ⟨0, rfl, rfl, by omega, by omega, HB⟩
 case round =>
  obtain ⟨i, rfl, rfl, rfl, hi, B⟩ := hrel
  clear HB
  by_cases hlt : i < p.decls.length
  ·obtain ⟨ad, A, c, rfl, x0, x1, x2, x3, _, _⟩ := at_T38 h3 (i : Int) (by omega) (by omega)
   have hs := foldl_take inStep 0 z38 p.decls i hlt
   have hd : rd_T38 p.decls i = p.decls.getD i z38 := by simp [rd_T38]
   rw [← hd] at hs
   clear hd
   simp only [Int.toNat_natCast] at x0 x1 x2 x3
   replace x0 := (B.cell (World.block_lt_of_cell? w _ x0)).trans x0
   replace x1 := (B.cell (World.block_lt_of_cell? w _ x1)).trans x1
   replace x2 := (B.cell (World.block_lt_of_cell? w _ x2)).trans x2
   replace x3 := (B.cell (World.block_lt_of_cell? w _ x3)).trans x3
   have hlt' : (i : Int) < (p.decls.length : Int) := by omega
   generalize rd_T38 p.decls i = d at *
   generalize (p.decls.take i).foldl inStep 0 = n at *
   have HS := Aside0.mk hs
   clear hs
   have BB := Aside0.mk B
   clear B
   obtain ⟨k0, s0, m0, vs0⟩ := d
   simp only at x0 x1 x2 x3
   obtain ⟨jm, hjm⟩ : ∃ j : Int, mx m0 1 = j := ⟨_, rfl⟩
   have hjm_ : (if m0 < 1 then 1 else m0) = jm := hjm
   have HM := Aside0.mk hjm
   clear hjm
   by_cases h1 : k0 = 1
   ·subst h1
    go_wp2_with fail
    go_roundg (p.decls.length - (i + 1))
    case measure => omega
    case rel => exact ⟨i + 1, by rw [HS.out]; simp [inStep, HM.out], by simp, rfl, by omega, below_alloc BB.out _⟩
   ·by_cases h2 : k0 = 2
    ·subst h2
     go_wp2_with fail
     go_roundg (p.decls.length - (i + 1))
     case measure => omega
     case rel => exact ⟨i + 1, by rw [HS.out]; simp [inStep, HM.out], by simp, rfl, by omega, below_alloc BB.out _⟩
    ·have e1 : (k0 == 1) = false := by simpa using h1
     have e2 : (k0 == 2) = false := by simpa using h2
     have H1 := Aside0.mk h1
     have H2 := Aside0.mk h2
     clear h1 h2
     go_wp2_with fail
     go_roundg (p.decls.length - (i + 1))
     case measure => omega
     case rel => exact ⟨i + 1, by rw [HS.out]; simp [inStep, H1.out, H2.out], by simp, rfl, by omega, below_alloc BB.out _⟩
  ·have hlt' : ¬ ((i : Int) < (p.decls.length : Int)) := by omega
   have hie : i = p.decls.length := by omega
   subst hie
   go_wp2_with fail
   go_ret
   exact ⟨rfl, B⟩
end Go.Proofs.YtjomofepephodaaGreat.PEquivShapes
namespace Go.Proofs.YtjomofepephodaaGreat.PEquivShapes
open Go.RowKit
open Go.Proofs.YtjomofepephodaaGreatW.PrintWords Go.Proofs.YtjomofepephodaaGreatW.PrintLast Go.Proofs.YtjomofepephodaaGreatW.PrintMore
attribute [local go_sem] max2_int min2_int max_two min_two max_three min_three max_four min_four
/-- the loops around a place, the nearest first -/
def ScAt (w : World) : Option Addr → List ByteArray → Prop
 | p, [] => p = none
 | p, s :: l => ∃ g u, p = some ⟨g, 0, none⟩ ∧ w.cell? ⟨g, 0, none⟩ = some (.string s) ∧ w.cell? ⟨g, 1, none⟩ = some (.pointer u) ∧ ScAt w u l
def hasB (l : List ByteArray) (s : ByteArray) : Bool := l.any fun x => decide (x.toList = s.toList)
theorem ScAt.imp {w w1 : World} (hk : ∀ a v, w.cell? a = some v → w1.cell? a = some v) : ∀ {l : List ByteArray} {p : Option Addr}, ScAt w p l → ScAt w1 p l
 | [], _, h => h
 | _ :: _, _, ⟨g, u, e, h1, h2, h3⟩ => ⟨g, u, e, hk _ _ h1, hk _ _ h2, ScAt.imp hk h3⟩
set_option maxHeartbeats 1000000 in
theorem has_any (p : Option Addr) (l : List ByteArray) (s : ByteArray) (w : World) (h : ScAt w p l) : Calls Tryz.prog 58 #[.pointer p, .string s] w fun e w' => e = .returned (.bool (hasB l s)) ∧ w' = w := by
 go_enter Tryz.func58, Tryz.ntmps58
 go_wp2_with fail
 go_loopg [0] (l.length) (fun m v wr => ∃ q r, v = .pointer q ∧ m = r.length ∧ ScAt w q r ∧ hasB l s = hasB r s ∧ wr = w)
 case atStart => exact ⟨p, l, rfl, rfl, h, rfl, rfl⟩
 case round =>
  obtain ⟨q, r, rfl, rfl, hq, hr, rfl⟩ := hrel
  match r, hq with
  | [], hq =>
   obtain rfl : q = none := hq
   go_wp2_with fail
   go_ret
   rw [hr]
   exact ⟨rfl, rfl⟩
  | x :: r, hq =>
   obtain ⟨g, u, rfl, h1, h2, h3⟩ := hq
   have HR := Aside0.mk hr
   have H3 := Aside0.mk h3
   have H0 := Aside0.mk h
   clear hr h3 h
   by_cases he : x.toList = s.toList
   ·have hb : (x.toList == s.toList) = true := beq_iff_eq.mpr he
    have HE := Aside0.mk he
    clear he
    go_wp2_with fail
    go_ret
    rw [HR.out]
    exact ⟨by simp [hasB, HE.out], rfl⟩
   ·have hb : (x.toList == s.toList) = false := beq_eq_false_iff_ne.mpr he
    have HE := Aside0.mk he
    clear he
    go_wp2_with fail
    go_roundg r.length
    case measure => simp
    case rel => exact ⟨u, r, rfl, rfl, H3.out, by rw [HR.out]; simp [hasB, HE.out], rfl⟩
/-- no more than 2^40 -/
def plusF (l : List Int) : Int := l.foldl (fun n x => mn (wrap64 (n + x)) 1099511627776) 0
set_option maxHeartbeats 1000000 in
theorem plus_any (l : List Int) (A : Option Addr) (c : Nat) (w : World) (h : (Kd.int .i64).C w A l.length l) (hc : l.length ≤ c) : Calls Tryz.prog 86 #[.slice A l.length c] w fun e w' => e = .returned (.int .i64 (plusF l)) ∧ w' = w := by
 have hu := Tryz.underlying123
 have hll : (l.length : Int) ≤ 9223372036854775807 := by have := h.2.1; omega
 go_enter Tryz.func86, Tryz.ntmps86
 go_wp2_with fail
 go_loopg [3, 8] (l.length) (fun m v3 v wr => ∃ i : Nat, v3 = .int .i64 ((l.take i).foldl (fun n x => mn (wrap64 (n + x)) 1099511627776) 0) ∧ v = .int .i64 i ∧ m = l.length - i ∧ i ≤ l.length ∧ wr = w)
 case atStart => exact ⟨0, rfl, rfl, by omega, by omega, rfl⟩
 case round =>
  obtain ⟨i, rfl, rfl, rfl, hi, rfl⟩ := hrel
  by_cases hlt : i < l.length
  ·obtain ⟨ad, cs, rfl, hlen, hK, hcell⟩ := Kd.C_get h 0 (i : Int) (by omega) (by omega)
   obtain rfl : cs = [.int .i64 (l.getD (i : Int).toNat 0)] := hK
   have x0 := hcell 0 _ rfl
   simp only [Int.toNat_natCast] at x0
   have x0 : wr.cell? (ad.add i) = some (.int .i64 (l.getD i 0)) := by simpa [Kd.int, Kd.scalar] using x0
   clear hcell hlen
   have hs := foldl_take (fun n x => mn (wrap64 (n + x)) 1099511627776) 0 0 l i hlt
   have hlt' : (i : Int) < (l.length : Int) := by omega
   generalize l.getD i 0 = d at *
   generalize (l.take i).foldl (fun n x => mn (wrap64 (n + x)) 1099511627776) 0 = n at *
   have HS := Aside0.mk hs
   clear hs
   obtain ⟨t, ht⟩ : ∃ t : Int, wrap64 (n + d) = t := ⟨_, rfl⟩
   obtain ⟨jm, hjm⟩ : ∃ j : Int, mn t 1099511627776 = j := ⟨_, rfl⟩
   have hjm_ : (if 1099511627776 < t then 1099511627776 else t) = jm := hjm
   have HM := Aside0.mk hjm
   clear hjm
   go_wp2_with fail
   go_roundg (l.length - (i + 1))
   case measure => omega
   case rel => exact ⟨i + 1, by rw [HS.out]; simp only [ht, HM.out], by simp, rfl, by omega, rfl⟩
  ·have hlt' : ¬ ((i : Int) < (l.length : Int)) := by omega
   have hie : i = l.length := by omega
   subst hie
   go_wp2_with fail
   go_ret
   exact ⟨by simp only [List.take_length, plusF]; rfl, rfl⟩
/-- no more than 2^40 -/
def timesF (n size : Int) : Int := if size = 0 ∨ n = 0 then 0 else if 1099511627776 / size < n then 1099511627776 else n * size
set_option maxHeartbeats 1000000 in
theorem times_any (n size : Int) (hn : U64 n) (h0 : 0 ≤ size) (h1 : size ≤ 1099511627776) (w : World) : Calls Tryz.prog 88 #[.int .u64 n, .int .i64 size] w fun e w' => e = .returned (.int .i64 (timesF n size)) ∧ w' = w := by
 obtain ⟨n0, n1⟩ := hn
 unfold timesF
 go_enter Tryz.func88, Tryz.ntmps88
 by_cases hs : size = 0
 ·subst hs
  go_wp2_with fail
  go_ret
  exact ⟨by simp, rfl⟩
 ·by_cases hz : n = 0
  ·subst hz
   go_wp2_with fail
   go_ret
   exact ⟨by simp, rfl⟩
  ·rw [if_neg (by omega)]
   have hq0 : 0 ≤ (1099511627776 : Int) / size := Int.ediv_nonneg (by omega) h0
   have hq1 : (1099511627776 : Int) / size ≤ 1099511627776 := Int.ediv_le_self _ (by omega)
   have hqt : (1099511627776 : Int).tdiv size = 1099511627776 / size := Int.tdiv_eq_ediv_of_nonneg (by omega)
   obtain ⟨q, hq⟩ : ∃ q : Int, (1099511627776 : Int) / size = q := ⟨_, rfl⟩
   rw [hq] at hq0 hq1 hqt ⊢
   have e1 : (size == 0) = false := by simpa using hs
   have e2 : (n == 0) = false := by simpa using hz
   by_cases hg : q < n
   ·rw [if_pos hg]
    have HQ := Aside0.mk hq
    clear hq
    go_wp2_with fail
    go_ret
    exact ⟨rfl, rfl⟩
   ·rw [if_neg hg]
    have hm : n * size ≤ 1099511627776 := by
     have : n * size ≤ q * size := Int.mul_le_mul_of_nonneg_right (by omega) h0
     have h2 : q * size ≤ 1099511627776 := by rw [← hq]; exact Int.ediv_mul_le _ hs
     omega
    have hm0 : 0 ≤ n * size := Int.mul_nonneg n0 h0
    have HQ := Aside0.mk hq
    clear hq
    go_wp2_with fail
    go_ret
    exact ⟨rfl, rfl⟩
end Go.Proofs.YtjomofepephodaaGreat.PEquivShapes
namespace Go.Proofs.YtjomofepephodaaGreat.PEquivShapes
open Go.RowKit
open Go.Proofs.YtjomofepephodaaGreatW.PrintWords Go.Proofs.YtjomofepephodaaGreatW.PrintLast Go.Proofs.YtjomofepephodaaGreatW.PrintMore
attribute [local go_sem] max2_int min2_int max_two min_two max_three min_three max_four min_four
/-- an expression's cells -/
def S50.val (e : S50) (A : Option Addr) (c : Nat) : Value := .agg #[.int .i64 e.f0, .int .u64 e.f1, .string e.f2, .slice A e.f3.length c]
mutual
/-- an expression's depth -/
def S50.dep : S50 → Int
 | ⟨_, _, _, l⟩ => wrap64 (S50.deps 0 l + 1)
def S50.deps : Int → List S50 → Int
 | n, [] => n
 | n, x :: r => S50.deps (mx n x.dep) r
end
theorem S50.deps_eq (n : Int) (l : List S50) : S50.deps n l = l.foldl (fun n x => mx n x.dep) n := by
 induction l generalizing n with
 | nil => rfl
 | cons x l ih => rw [S50.deps, ih]; rfl
mutual
/-- an expression's weight, no more than 2^40 -/
def S50.wei : S50 → Int
 | ⟨_, _, _, l⟩ => S50.weis 1 l
def S50.weis : Int → List S50 → Int
 | n, [] => n
 | n, x :: r => S50.weis (plusF [n, x.wei]) r
end
theorem S50.weis_eq (n : Int) (l : List S50) : S50.weis n l = l.foldl (fun n x => plusF [n, x.wei]) n := by
 induction l generalizing n with
 | nil => rfl
 | cons x l ih => rw [S50.weis, ih]; rfl
theorem S50.bulk_kid {e : S50} {i : Nat} (h : i < e.f3.length) : (rd_T50 e.f3 i).bulk < e.bulk := by
 obtain ⟨k, n, s, l⟩ := e
 simp only at h ⊢
 have h1 : ∀ (l : List S50) (i : Nat), i < l.length → (l.getD i z50).bulk ≤ S50.bulks l := by
  intro l
  induction l with
  | nil => intro i h; exact absurd h (by simp)
  | cons x l ih =>
   intro i h
   cases i with
   | zero => simp [S50.bulks]
   | succ i =>
    have := ih i (by simpa using h)
    simp only [List.getD_cons_succ, S50.bulks]
    omega
 have := h1 l i h
 simp only [rd_T50, Int.toNat_natCast, S50.bulk]
 omega
set_option maxHeartbeats 1000000 in
theorem depth_any (N : Nat) : ∀ (e : S50) (A : Option Addr) (c : Nat) (w : World), e.bulk ≤ N → k50.C w A e.f3.length e.f3 →
  Calls Tryz.prog 55 #[e.val A c] w fun x w' => x = .returned (.int .i64 e.dep) ∧ Below w.heap.size w w' := by
 induction N with
 | zero =>
  intro e A c w hN
  obtain ⟨k, n, s, l⟩ := e
  simp [S50.bulk] at hN
 | succ N ih =>
  intro e A c w hN h3
  unfold S50.val
  have HB := below_alloc (Below.refl w.heap.size w) (.cells #[.int .i64 e.f0, .int .u64 e.f1, .string e.f2, .slice A e.f3.length c] 50)
  have hu := Tryz.underlying48
  have hll : (e.f3.length : Int) ≤ 9223372036854775807 := by have := h3.2.1; omega
  go_enter Tryz.func55, Tryz.ntmps55
  go_wp2_with fail
  go_loopg [3, 9] (e.f3.length) (fun m v3 v wr => ∃ i : Nat, v3 = .int .i64 ((e.f3.take i).foldl (fun n x => mx n x.dep) 0) ∧ v = .int .i64 i ∧ m = e.f3.length - i ∧ i ≤ e.f3.length ∧ Below w.heap.size w wr)
  case atStart => exact ⟨0, rfl, rfl, by omega, by omega, HB⟩
  case round =>
   obtain ⟨i, rfl, rfl, rfl, hi, B⟩ := hrel
   clear HB
   by_cases hlt : i < e.f3.length
   ·obtain ⟨ad, A1, c1, rfl, x0, x1, x2, x3, hc1, hk1⟩ := at_T50 h3 (i : Int) (by omega) (by omega)
    have hbk := S50.bulk_kid hlt
    have hs := foldl_take (fun (n : Int) (x : S50) => mx n x.dep) 0 z50 e.f3 i hlt
    have hd : rd_T50 e.f3 i = e.f3.getD i z50 := by simp [rd_T50]
    rw [← hd] at hs
    clear hd
    simp only [Int.toNat_natCast] at x0 x1 x2 x3
    replace x0 := (B.cell (World.block_lt_of_cell? w _ x0)).trans x0
    replace x1 := (B.cell (World.block_lt_of_cell? w _ x1)).trans x1
    replace x2 := (B.cell (World.block_lt_of_cell? w _ x2)).trans x2
    replace x3 := (B.cell (World.block_lt_of_cell? w _ x3)).trans x3
    have hlt' : (i : Int) < (e.f3.length : Int) := by omega
    generalize rd_T50 e.f3 i = d at *
    generalize (e.f3.take i).foldl (fun (n : Int) (x : S50) => mx n x.dep) 0 = n at *
    have hk2 := Kd.C_below hk1 (below_alloc B (.cells #[.int .i64 d.f0, .int .u64 d.f1, .string d.f2, .slice A1 d.f3.length c1] 50))
    have IH := ih d A1 c1 _ (by omega) hk2
    unfold S50.val at IH
    have HS := Aside0.mk hs
    have BB := Aside0.mk B
    obtain ⟨jm, hjm⟩ : ∃ j : Int, mx n d.dep = j := ⟨_, rfl⟩
    have hjm_ : (if n < d.dep then d.dep else n) = jm := hjm
    have HM := Aside0.mk hjm
    clear hjm hs B hk1 hk2
    go_wp2_with (go_at_call 55; refine IH.mono ?_; rintro x' w' ⟨rfl, hb⟩)
    go_roundg (e.f3.length - (i + 1))
    case measure => omega
    case rel => exact ⟨i + 1, by rw [HS.out]; simp only [HM.out], by simp, rfl, by omega, below_step (below_alloc BB.out _) hb⟩
   ·have hlt' : ¬ ((i : Int) < (e.f3.length : Int)) := by omega
    have hie : i = e.f3.length := by omega
    subst hie
    have he : e.dep = wrap64 ((e.f3.take e.f3.length).foldl (fun n x => mx n x.dep) 0 + 1) := by
     obtain ⟨k, n, s, l⟩ := e
     simp only [List.take_length, S50.dep, S50.deps_eq]
    generalize (e.f3.take e.f3.length).foldl (fun (n : Int) (x : S50) => mx n x.dep) 0 = n at *
    have HE := Aside0.mk he
    clear he
    go_wp2_with fail
    go_ret
    exact ⟨by rw [HE.out]; rfl, B⟩
theorem two_ints (w : World) (a b : Int) : (Kd.int .i64).C (w.alloc (.cells #[.int .i64 a, .int .i64 b] 3)) (some ⟨w.heap.size, 0, none⟩) ([a, b] : List Int).length [a, b] := by
 refine ⟨rfl, by simp, fun _ => ⟨_, rfl, fun j p hj => ?_⟩⟩
 match j, hj with
 | 0, hj =>
  obtain rfl : a = p := by simpa using hj
  refine ⟨[.int .i64 a], rfl, rfl, fun i u hu => ?_⟩
  match i, hu with
  | 0, hu =>
   obtain rfl : Value.int .i64 a = u := by simpa using hu
   simp [Kd.int, Kd.scalar, Addr.add]
 | 1, hj =>
  obtain rfl : b = p := by simpa using hj
  refine ⟨[.int .i64 b], rfl, rfl, fun i u hu => ?_⟩
  match i, hu with
  | 0, hu =>
   obtain rfl : Value.int .i64 b = u := by simpa using hu
   simp [Kd.int, Kd.scalar, Addr.add]
set_option maxHeartbeats 1000000 in
theorem weigh_any (N : Nat) : ∀ (e : S50) (A : Option Addr) (c : Nat) (w : World), e.bulk ≤ N → k50.C w A e.f3.length e.f3 →
  Calls Tryz.prog 87 #[e.val A c] w fun x w' => x = .returned (.int .i64 e.wei) ∧ Below w.heap.size w w' := by
 induction N with
 | zero =>
  intro e A c w hN
  obtain ⟨k, n, s, l⟩ := e
  simp [S50.bulk] at hN
 | succ N ih =>
  intro e A c w hN h3
  unfold S50.val
  have HB := below_alloc (Below.refl w.heap.size w) (.cells #[.int .i64 e.f0, .int .u64 e.f1, .string e.f2, .slice A e.f3.length c] 50)
  have hu := Tryz.underlying48
  have hll : (e.f3.length : Int) ≤ 9223372036854775807 := by have := h3.2.1; omega
  go_enter Tryz.func87, Tryz.ntmps87
  go_wp2_with fail
  go_loopg [3, 9] (e.f3.length) (fun m v3 v wr => ∃ i : Nat, v3 = .int .i64 ((e.f3.take i).foldl (fun n x => plusF [n, x.wei]) 1) ∧ v = .int .i64 i ∧ m = e.f3.length - i ∧ i ≤ e.f3.length ∧ Below w.heap.size w wr)
  case atStart => exact ⟨0, rfl, rfl, by omega, by omega, HB⟩
  case round =>
   obtain ⟨i, rfl, rfl, rfl, hi, B⟩ := hrel
   clear HB
   by_cases hlt : i < e.f3.length
   ·obtain ⟨ad, A1, c1, rfl, x0, x1, x2, x3, hc1, hk1⟩ := at_T50 h3 (i : Int) (by omega) (by omega)
    have hbk := S50.bulk_kid hlt
    have hs := foldl_take (fun (n : Int) (x : S50) => plusF [n, x.wei]) 1 z50 e.f3 i hlt
    have hd : rd_T50 e.f3 i = e.f3.getD i z50 := by simp [rd_T50]
    rw [← hd] at hs
    clear hd
    simp only [Int.toNat_natCast] at x0 x1 x2 x3
    replace x0 := (B.cell (World.block_lt_of_cell? w _ x0)).trans x0
    replace x1 := (B.cell (World.block_lt_of_cell? w _ x1)).trans x1
    replace x2 := (B.cell (World.block_lt_of_cell? w _ x2)).trans x2
    replace x3 := (B.cell (World.block_lt_of_cell? w _ x3)).trans x3
    have hlt' : (i : Int) < (e.f3.length : Int) := by omega
    generalize rd_T50 e.f3 i = d at *
    generalize (e.f3.take i).foldl (fun (n : Int) (x : S50) => plusF [n, x.wei]) 1 = n at *
    have hk2 := Kd.C_below hk1 (below_alloc B (.cells #[.int .i64 d.f0, .int .u64 d.f1, .string d.f2, .slice A1 d.f3.length c1] 50))
    have IH := ih d A1 c1 _ (by omega) hk2
    unfold S50.val at IH
    have HS := Aside0.mk hs
    have BB := Aside0.mk B
    clear hs B hk1 hk2
    generalize d.wei = dw at *
    go_wp2_with (first | (go_at_call 87; refine IH.mono ?_; rintro x' w' ⟨rfl, hb⟩) | (go_at_call 86; refine (plus_any [n, dw] (some ⟨w'.heap.size, 0, none⟩) 2 _ (two_ints _ _ _) (by simp)).mono ?_; rintro x' w' ⟨rfl, rfl⟩))
    go_roundg (e.f3.length - (i + 1))
    case measure => omega
    case rel => exact ⟨i + 1, by rw [HS.out], by simp, rfl, by omega, below_alloc (below_step (below_alloc BB.out _) hb) _⟩
   ·have hlt' : ¬ ((i : Int) < (e.f3.length : Int)) := by omega
    have hie : i = e.f3.length := by omega
    subst hie
    have he : e.wei = (e.f3.take e.f3.length).foldl (fun n x => plusF [n, x.wei]) 1 := by
     obtain ⟨k, n, s, l⟩ := e
     simp only [List.take_length, S50.wei, S50.weis_eq]
    generalize (e.f3.take e.f3.length).foldl (fun (n : Int) (x : S50) => plusF [n, x.wei]) 1 = n at *
    have HE := Aside0.mk he
    clear he
    go_wp2_with fail
    go_ret
    exact ⟨by rw [HE.out]; rfl, B⟩
end Go.Proofs.YtjomofepephodaaGreat.PEquivShapes
namespace Go.Proofs.YtjomofepephodaaGreat.PEquivShapes
open Go.RowKit
open Go.Proofs.YtjomofepephodaaGreatW.PrintWords Go.Proofs.YtjomofepephodaaGreatW.PrintLast Go.Proofs.YtjomofepephodaaGreatW.PrintMore
mutual
/-- a number and a statement's size, no more than 2^40 -/
def S52.siz (n : Int) : S52 → Int
 | ⟨k, _, a, e, lo, hi, t, u⟩ =>
  if k = 1 then plusF [plusF [n, 1], e.wei]
  else if k = 2 then plusF [plusF [n, 1], a.wei, e.wei]
  else if k = 3 then plusF [plusF [n, 1], e.wei, S52.sizs 0 t, S52.sizs 0 u]
  else if k = 4 ∧ lo < hi then plusF [plusF [n, 1], timesF (hi - lo) (plusF [1, S52.sizs 0 t])]
  else plusF [n, 1]
def S52.sizs (n : Int) : List S52 → Int
 | [] => n
 | x :: r => S52.sizs (S52.siz n x) r
end
theorem S52.sizs_eq (n : Int) (l : List S52) : S52.sizs n l = l.foldl S52.siz n := by
 induction l generalizing n with
 | nil => rfl
 | cons x l ih => rw [S52.sizs, ih]; rfl
/-- from 0 to 2^40 -/
def Top (n : Int) : Prop := 0 ≤ n ∧ n ≤ 1099511627776
theorem top_mn {n x : Int} (hn : Top n) (hx : Top x) : Top (mn (wrap64 (n + x)) 1099511627776) := by
 obtain ⟨a, b⟩ := hn
 obtain ⟨c, d⟩ := hx
 have h : wrap64 (n + x) = n + x := by unfold wrap64; omega
 rw [h]
 unfold Top mn
 split <;> omega
theorem top_plus {l : List Int} (h : ∀ x, x ∈ l → Top x) : Top (plusF l) := by
 have key : ∀ (l : List Int) (n : Int), Top n → (∀ x, x ∈ l → Top x) → Top (l.foldl (fun n x => mn (wrap64 (n + x)) 1099511627776) n) := by
  intro l
  induction l with
  | nil => intro n hn _; exact hn
  | cons a l ih => intro n hn hl; exact ih _ (top_mn hn (hl a (by simp))) fun x hx => hl x (by simp [hx])
 exact key l 0 ⟨by omega, by omega⟩ h
theorem top_times {n s : Int} (hn : 0 ≤ n) (hs : Top s) : Top (timesF n s) := by
 obtain ⟨a, b⟩ := hs
 unfold timesF
 split
 ·exact ⟨by omega, by omega⟩
 ·rename_i h
  split
  ·exact ⟨by omega, by omega⟩
  ·rename_i h2
   have h1 : n * s ≤ (1099511627776 / s) * s := Int.mul_le_mul_of_nonneg_right (by omega) a
   have h3 : (1099511627776 / s) * s ≤ 1099511627776 := Int.ediv_mul_le _ (by omega)
   exact ⟨Int.mul_nonneg hn a, by omega⟩
theorem top_one : Top 1 := ⟨by omega, by omega⟩
theorem top_zero : Top 0 := ⟨by omega, by omega⟩
theorem top2 {a b : Int} (ha : Top a) (hb : Top b) : Top (plusF [a, b]) := top_plus (by intro x hx; simp at hx; rcases hx with rfl | rfl <;> assumption)
theorem top3 {a b c : Int} (ha : Top a) (hb : Top b) (hc : Top c) : Top (plusF [a, b, c]) := top_plus (by intro x hx; simp at hx; rcases hx with rfl | rfl | rfl <;> assumption)
theorem top4 {a b c d : Int} (ha : Top a) (hb : Top b) (hc : Top c) (hd : Top d) : Top (plusF [a, b, c, d]) := top_plus (by intro x hx; simp at hx; rcases hx with rfl | rfl | rfl | rfl <;> assumption)
mutual
theorem S50.top_wei : ∀ e : S50, Top e.wei
 | ⟨_, _, _, l⟩ => S50.top_weis l 1 top_one
theorem S50.top_weis : ∀ (l : List S50) (n : Int), Top n → Top (S50.weis n l)
 | [], _, h => h
 | x :: r, _, h => S50.top_weis r _ (top2 h (S50.top_wei x))
end
mutual
theorem S52.top_siz : ∀ (s : S52) (n : Int), Top n → Top (S52.siz n s)
 | ⟨k, _, a, e, lo, hi, t, u⟩, n, h => by
  have h1 := top2 h top_one
  have ha := S50.top_wei a
  have he := S50.top_wei e
  have ht := S52.top_sizs t 0 top_zero
  have hu := S52.top_sizs u 0 top_zero
  unfold S52.siz
  split
  ·exact top2 h1 he
  ·split
   ·exact top3 h1 ha he
   ·split
    ·exact top4 h1 he ht hu
    ·split
     ·rename_i hlo
      exact top2 h1 (top_times (by omega) (top2 top_one ht))
     ·exact h1
theorem S52.top_sizs : ∀ (l : List S52) (n : Int), Top n → Top (S52.sizs n l)
 | [], _, h => h
 | x :: r, _, h => S52.top_sizs r _ (S52.top_siz x _ h)
end
theorem S52.bulk_in {l : List S52} {i : Nat} (h : i < l.length) : (rd_T52 l i).bulk ≤ S52.bulks l := by
 simp only [rd_T52, Int.toNat_natCast]
 induction l generalizing i with
 | nil => exact absurd h (by simp)
 | cons x l ih =>
  cases i with
  | zero => simp [S52.bulks]
  | succ i =>
   have := ih (i := i) (by simpa using h)
   simp only [List.getD_cons_succ, S52.bulks]
   omega
theorem S52.fit_in {l : List S52} {i : Nat} (hf : S52.allFit l) (h : i < l.length) : (rd_T52 l i).fits := by
 simp only [rd_T52, Int.toNat_natCast, List.getD_eq_getElem?_getD, List.getElem?_eq_getElem h, Option.getD_some]
 exact (S52.allFit_iff l).1 hf _ (List.getElem_mem h)
theorem ints_new (w : World) (l : List Int) : (Kd.int .i64).C (w.alloc (.cells (l.map (Value.int .i64)).toArray 3)) (some ⟨w.heap.size, 0, none⟩) l.length l ∨ 9223372036854775807 < l.length := by
 by_cases hl : l.length ≤ 9223372036854775807
 ·refine .inl ⟨rfl, hl, fun _ => ⟨_, rfl, fun j p hj => ?_⟩⟩
  refine ⟨[.int .i64 p], rfl, rfl, fun i u hu => ?_⟩
  match i, hu with
  | 0, hu =>
   obtain rfl : Value.int .i64 p = u := by simpa using hu
   have : (l.map (Value.int .i64)).toArray[j]? = some (.int .i64 p) := by simp [hj]
   simp [Kd.int, Kd.scalar, Addr.add_lit, hj]
 ·exact .inr (by omega)
end Go.Proofs.YtjomofepephodaaGreat.PEquivShapes
