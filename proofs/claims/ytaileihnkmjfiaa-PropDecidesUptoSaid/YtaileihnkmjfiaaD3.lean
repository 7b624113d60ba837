/-
  A call of a script, noted in the book: the calls that are not an Add. Conditions: those each theorem names.
-/
import Derived.Test.YtaileihnkmjfiaaD2
namespace Go.Proofs.Ytaileihnkmjfiaa
open Go.RowKit

theorem stand_box {base : Nat} {w0 w : World} {b bb : Nat} {G GB : GH} {S : ES} {B : BK} (h : Stand base w0 w b bb G GB S B) (o : Obj) : Stand base w0 (w.alloc o) b bb G GB S B := h.alloc o

/-- the book's decisions, longer by one -/
theorem Stand.pushDc {base : Nat} {w0 w w1 : World} {b bb : Nat} {G GB : GH} {S : ES} {B : BK} {d : RD} (h : Stand base w0 w b bb G GB S B) (x : Int) (hrw : Rw w1 3 1 d) (hn : d.n = B.dc.length + 1) (hx : d.xs = ints B.dc ++ [i64 x])
    (hg : d.g = GB.g (.inl 3) ∨ ∀ k, d.g = some k → w.heap.size ≤ k) (hgr : w.grownBy w1 (GB.g (.inl 3))) :
    Stand base w0 (w1.setCell ⟨bb, 1, none⟩ d.v) b bb G (GB.upd (.inl 3) d) S { B with dc := B.dc ++ [x] } := by
  obtain ⟨E, T⟩ := h.book.put2 1 hrw hg hgr rfl
  refine h.noted (B' := { B with dc := B.dc ++ [x] }) ?_ T
  have e : d.n = (B.dc ++ [x]).length := by rw [hn, List.length_append]; rfl
  have e2 : d.xs = ints (B.dc ++ [x]) := by rw [hx]; simp [ints]
  rw [e, e2] at E
  exact E

/-- what a call leaves -/
def DoesEnd (base : Nat) (w0 : World) (b bb : Nat) (S : ES) (B : BK) (e : Ending) (w' : World) : Prop :=
  e = .returned (.tuple #[]) ∧ ∃ G GB, Stand base w0 w' b bb G GB S B

set_option maxHeartbeats 4000000 in
theorem does_none {A t base : Nat} {w0 w : World} {b bb : Nat} {G GB : GH} {S : ES} {B : BK} (kind num : Int) (v : Value) (h : Stand base w0 w b bb G GB S B) (_hS : S.Live A t) (_hA : A ≤ 1048576) (_ht : t ≤ 2097152)
    (k1 : (kind == 1) = false) (k2 : (kind == 2) = false) (k3 : (kind == 3) = false) (k4 : (kind == 4) = false) :
    Calls Try.prog 14 #[.pointer (some ⟨bb, 0, none⟩), .pointer (some ⟨b, 0, none⟩), .agg #[i64 kind, i64 num, v]] w (DoesEnd base w0 b bb S B) := by
  have H1 := h.alloc (.cells #[i64 kind, i64 num, v] 33)
  go_enter Try.func14, Try.ntmps14
  go_wp2_with fail
  go_end0
  exact ⟨rfl, G, GB, H1⟩

set_option maxHeartbeats 4000000 in
theorem does_prop {A t base : Nat} {w0 w : World} {b bb : Nat} {G GB : GH} {S : ES} {B : BK} (num : Int) (v : Value) (h : Stand base w0 w b bb G GB S B) (hS : S.Live A t) (hA : A ≤ 1048576) (ht : t ≤ 2097152) :
    Calls Try.prog 14 #[.pointer (some ⟨bb, 0, none⟩), .pointer (some ⟨b, 0, none⟩), .agg #[i64 3, i64 num, v]] w (DoesEnd base w0 b bb S.propagate.1 B) := by
  have H1 := h.alloc (.cells #[i64 3, i64 num, v] 33)
  have cP := propagate_live b G S _ H1.eng hS hA ht
  go_enter Try.func14, Try.ntmps14
  go_wp2_with fail
  refine cP.mono ?_
  rintro e w' ⟨rfl, G', E', T'⟩
  have H2 := H1.turned E' T'
  go_wp2_with fail
  go_end0
  exact ⟨rfl, G', GB, H2⟩

set_option maxHeartbeats 4000000 in
theorem does_decide {A t base : Nat} {w0 w : World} {b bb : Nat} {G GB : GH} {S : ES} {B : BK} (num : Int) (v : Value) (h : Stand base w0 w b bb G GB S B) (hS : S.Live A t) (_hA : A ≤ 1048576) (_ht : t ≤ 2097152) (hB : B.dc.length ≤ 1048576) :
    Calls Try.prog 14 #[.pointer (some ⟨bb, 0, none⟩), .pointer (some ⟨b, 0, none⟩), .agg #[i64 2, i64 num, v]] w (DoesEnd base w0 b bb (S.decide' num).1 (if (S.decide' num).2 = 0 then { B with dc := B.dc ++ [num] } else B)) := by
  obtain ⟨i0, hi0, hz0, hz1, hz2⟩ := info_parts Try.info3
  have H1 := h.alloc (.cells #[i64 2, i64 num, v] 33)
  have cD := decide_live b G S num _ H1.eng hS
  by_cases hk : (S.decide' num).2 = 0
  · have HB : Hid ((if (S.decide' num).2 = 0 then { B with dc := B.dc ++ [num] } else B) = { B with dc := B.dc ++ [num] }) := by show _ = _; rw [if_pos hk]
    rw [hk] at cD
    rw [HB.out]
    clear hk
    have hx1 : (w.alloc (.cells #[i64 2, i64 num, v] 33)).cell? ⟨w.heap.size, 1, none⟩ = some (i64 num) := by rw [cell_of_row _ w.heap.size 1 _ _ _ (heap_alloc_new w _)]; rfl
    have hnf : ¬ ft G w.heap.size := fun hf => by have := h.eng.flt hf; omega
    go_enter Try.func14, Try.ntmps14
    go_wp2_with fail
    refine cD.mono ?_
    rintro e w' ⟨rfl, G', E', T'⟩
    have H2 := H1.turned E' T'
    have x1 : w'.cell? ⟨w.heap.size, 1, none⟩ = some (i64 num) := by rw [T'.cell (by simp) hnf]; exact hx1
    have f1 := H2.book.field (i := 1) (u := sv (GB.g (.inl 3)) B.dc.length (GB.c (.inl 3))) rfl
    have g1 := H2.book.ff 1
    unfold sv at f1
    clear cD hx1
    have H3 := (H2.alloc (.cells #[i64 num] 3)).drew
    have f1a : (w'.alloc (.cells #[i64 num] 3)).cell? ⟨bb, 1, none⟩ = some (.slice (Option.map (fun g => { block := g, off := 0 }) (GB.g (.inl 3))) B.dc.length (GB.c (.inl 3))) := (H2.alloc (.cells #[i64 num] 3)).book.field (i := 1) rfl
    have hb1 : B.dc.length + 1 ≤ maxLen := by simp only [maxLen]; omega
    have hb2 : (B.dc.length + 1) * 8 ≤ 140737488355328 := by omega
    go_upto_region 7 with (fail)
    go_region_law ((refine step_append_rw rfl (.tmp 39) (.tmp 42) 28 rfl 3 i0 (.int .i64 0) 1 8 Try.underlying28 hi0 hz0 hz1 hz2 rfl (by decide) ⟨GB.g (.inl 3), GB.c (.inl 3), B.dc.length, ints B.dc⟩ rfl (H3.book.row2) (some ⟨w'.heap.size, 0, none⟩) 1 1 [i64 num] rfl rfl (fun h => by cases h) (new_one w' _ 3) (one_i64 _) hb1 hb2 ?_; intro d' w5 rw1 en ex eg hgr; go_loud (have H4 := H3.pushDc num rw1 en ex (le_of_new' eg rfl (by simp)) hgr); obtain ⟨y1, y2⟩ := H3.book.mid (r := .inl 3) (by simp) rfl hgr (i := 1) (u := sv (GB.g (.inl 3)) B.dc.length (GB.c (.inl 3))) rfl; clear en ex eg hgr))
    all_goals
      go_wp2_with fail
      go_end0
      exact ⟨rfl, G', _, H4⟩
  · have HB : Hid ((if (S.decide' num).2 = 0 then { B with dc := B.dc ++ [num] } else B) = B) := by show _ = _; rw [if_neg hk]
    rw [HB.out]
    have hk : ((S.decide' num).2 == 0) = false := by simpa using hk
    generalize (S.decide' num).2 = z at *
    go_enter Try.func14, Try.ntmps14
    go_wp2_with fail
    refine cD.mono ?_
    rintro e w' ⟨rfl, G', E', T'⟩
    have H2 := H1.turned E' T'
    go_wp2_with fail
    go_end0
    exact ⟨rfl, G', GB, H2⟩
end Go.Proofs.Ytaileihnkmjfiaa
