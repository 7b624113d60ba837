/-
  New of the engine returns an empty engine. Conditions: the engine lies in the world, and what each theorem names.
-/
import Derived.Test.YtaileihnkmjfiaaL0
import Derived.BigRegion
namespace Go.Proofs.Ytaileihnkmjfiaa
open Go.RowKit

namespace ES
def new (n : Nat) : ES := ⟨n, [], 0, [], [], [], List.replicate (n + 1) 0, List.replicate (n + 1) 0, List.replicate (n + 1) 0, [], [], 0, 0, [], [], 0⟩
end ES

theorem madeCells_one (v : Value) (n : Nat) : (madeCells #[v] n).toList = List.replicate n v := by
  apply List.ext_getElem?
  intro i
  simp only [madeCells, Array.toList_map, Array.toList_range, List.getElem?_map, List.getElem?_replicate]
  by_cases h : i < n
  · simp [h, Nat.mod_one]
  · simp [h]

/-- Where the rows of a new engine lie. -/
def newG (b va la ra n : Nat) : GH :=
  ⟨fun r => if r = .inl 16 then some b else if r = .inl 6 then some va else if r = .inl 7 then some la else if r = .inl 8 then some ra else none,
   fun r => if r = .inl 16 then 1 else if r = .inl 6 ∨ r = .inl 7 ∨ r = .inl 8 then n + 1 else 0⟩

theorem newG_at {b va la ra n : Nat} {r : Ro} {g : Nat} (h : (newG b va la ra n).g r = some g) : (r = .inl 16 ∧ g = b) ∨ (r = .inl 6 ∧ g = va) ∨ (r = .inl 7 ∧ g = la) ∨ (r = .inl 8 ∧ g = ra) := by
  simp only [newG] at h
  split at h
  · exact .inl ⟨by assumption, by cases h; rfl⟩
  · split at h
    · exact .inr (.inl ⟨by assumption, by cases h; rfl⟩)
    · split at h
      · exact .inr (.inr (.inl ⟨by assumption, by cases h; rfl⟩))
      · split at h
        · exact .inr (.inr (.inr ⟨by assumption, by cases h; rfl⟩))
        · cases h
theorem Eng.new {w : World} {b va la ra n : Nat} (hn : n ≤ 1048576) (hb0 : w.heap[b]? = some (.cells #[i64 n, .slice none 0 0, .int .i64 0, .slice none 0 0, .slice none 0 0, .slice none 0 0, .slice (some ⟨va, 0, none⟩) (n + 1) (n + 1), .slice (some ⟨la, 0, none⟩) (n + 1) (n + 1), .slice (some ⟨ra, 0, none⟩) (n + 1) (n + 1), .slice none 0 0, .slice none 0 0, .int .i64 0, .int .i64 0, .slice none 0 0, .slice none 0 0, .int .i64 0] 66 (0, 0)))
    (hv : w.heap[va]? = some (.cells (madeCells #[.int .i8 0] (n + 1)) 73 (0, 0))) (hl : w.heap[la]? = some (.cells (madeCells #[.int .i64 0] (n + 1)) 3 (0, 0))) (hr : w.heap[ra]? = some (.cells (madeCells #[.int .i64 0] (n + 1)) 3 (0, 0)))
    (h1 : b ≠ va) (h2 : b ≠ la) (h3 : b ≠ ra) (h4 : va ≠ la) (h5 : va ≠ ra) (h6 : la ≠ ra) : Eng w b (newG b va la ra n) (ES.new n) := by
  have hst : stc (newG b va la ra n) (ES.new n) = [i64 n, .slice none 0 0, .int .i64 0, .slice none 0 0, .slice none 0 0, .slice none 0 0, .slice (some ⟨va, 0, none⟩) (n + 1) (n + 1), .slice (some ⟨la, 0, none⟩) (n + 1) (n + 1), .slice (some ⟨ra, 0, none⟩) (n + 1) (n + 1), .slice none 0 0, .slice none 0 0, .int .i64 0, .int .i64 0, .slice none 0 0, .slice none 0 0, .int .i64 0] := by simp [stc, newG, ES.new, sv]
  have hb : w.heap[b]? = some (.cells (stc (newG b va la ra n) (ES.new n)).toArray 66 (0, 0)) := by rw [hst]; exact hb0
  have hg : ∀ r, (engD (newG b va la ra n) (ES.new n) r).g = if r = .inl 16 then some b else if r = .inl 6 then some va else if r = .inl 7 then some la else if r = .inl 8 then some ra else none := by
    intro r
    rw [engD_g]
    by_cases hk : knownB r = true
    · rw [if_pos hk]; rfl
    · rw [if_neg hk]
      have e1 : r ≠ .inl 16 := fun e => hk (by rw [e]; rfl)
      have e2 : r ≠ .inl 6 := fun e => hk (by rw [e]; rfl)
      have e3 : r ≠ .inl 7 := fun e => hk (by rw [e]; rfl)
      have e4 : r ≠ .inl 8 := fun e => hk (by rw [e]; rfl)
      rw [if_neg e1, if_neg e2, if_neg e3, if_neg e4]
  have hmx : n + 1 ≤ maxLen := by simp only [maxLen]; omega
  refine ⟨⟨?_, fun r r' g hr1 hr2 => ?_⟩, rfl, fun _ _ => rfl, fun _ _ => rfl, fun _ _ => rfl⟩
  · have emp : ∀ T sz, Rw w T sz ⟨none, 0, 0, []⟩ := Rw.empty w
    have e8 : bytes8 (ES.new n).val = (madeCells #[.int .i8 0] (n + 1)).toList := by rw [madeCells_one]; simp [ES.new, bytes8]
    have e7 : nats (ES.new n).lev = (madeCells #[.int .i64 0] (n + 1)).toList := by rw [madeCells_one]; simp [ES.new, nats]
    have r6 := Rw.new (n := n + 1) (sz := 1) hv (by rw [size_madeCells, Nat.mul_one]) hmx
    have r7 := Rw.new (n := n + 1) (sz := 1) hl (by rw [size_madeCells, Nat.mul_one]) hmx
    have r8 := Rw.new (n := n + 1) (sz := 1) hr (by rw [size_madeCells, Nat.mul_one]) hmx
    have r16 := Rw.new (n := 1) (sz := 16) hb rfl (by simp [maxLen])
    refine ro_cases (P := fun r => Rw w (engT r).1 (engT r).2 (engD (newG b va la ra n) (ES.new n) r)) (fun f hf => by rw [engD_other _ _ f hf]; exact emp _ _) (emp _ _) (emp _ _) (emp _ _) (emp _ _) ?_ ?_ ?_ (emp _ _) (emp _ _) (emp _ _) (emp _ _) ?_ (fun k => ?_) (fun k => ?_) (fun k => ?_) (fun t k => emp _ _)
    · rw [← e8] at r6
      have : engD (newG b va la ra n) (ES.new n) (.inl 6) = ⟨some va, n + 1, n + 1, bytes8 (ES.new n).val⟩ := by simp [engD, newG, ES.new]
      rw [this]; exact r6
    · rw [← e7] at r7
      have : engD (newG b va la ra n) (ES.new n) (.inl 7) = ⟨some la, n + 1, n + 1, nats (ES.new n).lev⟩ := by simp [engD, newG, ES.new]
      rw [this]; exact r7
    · rw [← e7] at r8
      have : engD (newG b va la ra n) (ES.new n) (.inl 8) = ⟨some ra, n + 1, n + 1, nats (ES.new n).lev⟩ := by simp [engD, newG, ES.new]
      rw [this]; exact r8
    · exact r16
    · have : engD (newG b va la ra n) (ES.new n) (.inr (0, k)) = ⟨none, 0, 0, []⟩ := by simp [engD, newG, ES.new, ints]
      rw [this]; exact emp _ _
    · have : engD (newG b va la ra n) (ES.new n) (.inr (1, k)) = ⟨none, 0, 0, []⟩ := by simp [engD, newG, ES.new, nats]
      rw [this]; exact emp _ _
    · have : engD (newG b va la ra n) (ES.new n) (.inr (2, k)) = ⟨none, 0, 0, []⟩ := by simp [engD, newG, ES.new, nats]
      rw [this]; exact emp _ _
  · rw [hg] at hr1 hr2
    have a := newG_at (b := b) (va := va) (la := la) (ra := ra) (n := n) hr1
    have c := newG_at (b := b) (va := va) (la := la) (ra := ra) (n := n) hr2
    rcases a with ⟨rfl, e1⟩ | ⟨rfl, e1⟩ | ⟨rfl, e1⟩ | ⟨rfl, e1⟩ <;> rcases c with ⟨rfl, e2⟩ | ⟨rfl, e2⟩ | ⟨rfl, e2⟩ | ⟨rfl, e2⟩ <;> first | rfl | (exfalso; omega)

theorem newG_ft {b va la ra n B : Nat} (h1 : B ≤ b) (h2 : B ≤ va) (h3 : B ≤ la) (h4 : B ≤ ra) : ∀ x, ft (newG b va la ra n) x → B ≤ x := by
  rintro x ⟨r, hr, hx⟩
  simp only [newG] at hx
  split at hx
  · cases hx; exact h1
  · split at hx
    · cases hx; exact h2
    · split at hx
      · cases hx; exact h3
      · split at hx
        · cases hx; exact h4
        · cases hx
theorem below4 (w : World) (A B C D : Obj) : Below w.heap.size w ((((w.alloc A).alloc B).alloc C).alloc D).drew :=
  (((((Below.refl _ w).alloc (Nat.le_refl _) A).alloc (by simp) B).alloc (by simp; omega) C).alloc (by simp; omega) D).drew
theorem alloc4 (w : World) (A B C D : Obj) : ((((w.alloc A).alloc B).alloc C).alloc D).heap[w.heap.size]? = some A ∧ ((((w.alloc A).alloc B).alloc C).alloc D).heap[w.heap.size + 1]? = some B ∧
    ((((w.alloc A).alloc B).alloc C).alloc D).heap[w.heap.size + 2]? = some C ∧ ((((w.alloc A).alloc B).alloc C).alloc D).heap[w.heap.size + 3]? = some D := by
  have hs : ∀ (W : World) (o : Obj), (W.alloc o).heap.size = W.heap.size + 1 := fun W o => by simp
  refine ⟨?_, ?_, ?_, ?_⟩
  · rw [heap_alloc_old _ _ (by simp only [hs]; omega), heap_alloc_old _ _ (by simp only [hs]; omega), heap_alloc_old _ _ (by simp only [hs]; omega)]; exact heap_alloc_new w A
  · rw [heap_alloc_old _ _ (by simp only [hs]; omega), heap_alloc_old _ _ (by simp only [hs]; omega)]; exact hs w A ▸ heap_alloc_new (w.alloc A) B
  · rw [heap_alloc_old _ _ (by simp only [hs]; omega)]; have := heap_alloc_new ((w.alloc A).alloc B) C; rw [hs, hs] at this; exact this
  · have := heap_alloc_new (((w.alloc A).alloc B).alloc C) D; rw [hs, hs, hs] at this; exact this

set_option maxHeartbeats 4000000 in
theorem new_any (v : Int) (w : World) (hv : 0 ≤ v ∧ v ≤ 1048576) :
    Calls Try.prog 33 #[i64 v] w fun e w' => ∃ b G, e = .returned (.tuple #[.pointer (some ⟨b, 0, none⟩), .int .i64 0]) ∧ Eng w' b G (ES.new v.toNat) ∧ Below w.heap.size w w' ∧ ∀ x, ft G x → w.heap.size ≤ x := by
  obtain ⟨n, rfl⟩ : ∃ n : Nat, v = n := ⟨v.toNat, by omega⟩
  have h1 := hv.1
  have h2 := hv.2
  obtain ⟨i0, hi0, hz0, hz1, hz2⟩ := info_parts Try.info3
  obtain ⟨k0, hk0, kz0, kz1, kz2⟩ := info_parts Try.info73
  have hm8 : ∀ w : World, (Instr.makeSlice 64 (.int .i64 ((n : Int) + 1)) (.int .i64 ((n : Int) + 1))).run Try.prog w = .ok (.slice (some ⟨w.heap.size, 0, none⟩) (n + 1) (n + 1)) (w.alloc (.cells (madeCells #[.int .i8 0] (n + 1)) 73)) := by
    intro w
    have hr := run_make (P := Try.prog) w 64 73 k0 (.int .i8 0) Try.underlying64 hk0 kz0 .i64 .i64 ((n : Int) + 1) ((n : Int) + 1) (by omega) (Int.le_refl _) (by rw [kz2]; omega) (by omega)
    rw [kz1, show ((n : Int) + 1).toNat = n + 1 by omega] at hr
    simpa [Value.cells] using hr
  have hm3 : ∀ w : World, (Instr.makeSlice 28 (.int .i64 ((n : Int) + 1)) (.int .i64 ((n : Int) + 1))).run Try.prog w = .ok (.slice (some ⟨w.heap.size, 0, none⟩) (n + 1) (n + 1)) (w.alloc (.cells (madeCells #[.int .i64 0] (n + 1)) 3)) := by
    intro w
    have hr := run_make (P := Try.prog) w 28 3 i0 (.int .i64 0) Try.underlying28 hi0 hz0 .i64 .i64 ((n : Int) + 1) ((n : Int) + 1) (by omega) (Int.le_refl _) (by rw [hz2]; omega) (by omega)
    rw [hz1, show ((n : Int) + 1).toNat = n + 1 by omega] at hr
    simpa [Value.cells] using hr
  have hwr : IntKind.i64.wrap ((n : Int) + 1) = (n : Int) + 1 := IntWalk.i64_in _ (by omega)
  go_enter Try.func33, Try.ntmps33
  go_upto_region 3 with (fail)
  go_region
  all_goals
    go_wp2
    go_ret2
    first
      | exact ⟨w.heap.size + 3, newG (w.heap.size + 3) w.heap.size (w.heap.size + 1) (w.heap.size + 2) n, rfl, Eng.new (by omega) (alloc4 w _ _ _ _).2.2.2 (alloc4 w _ _ _ _).1 (alloc4 w _ _ _ _).2.1 (alloc4 w _ _ _ _).2.2.1 (by omega) (by omega) (by omega) (by omega) (by omega) (by omega), below4 w _ _ _ _, newG_ft (by omega) (by omega) (by omega) (by omega)⟩
      | exact ⟨w.heap.size + 3, newG (w.heap.size + 3) w.heap.size (w.heap.size + 2) (w.heap.size + 1) n, rfl, Eng.new (by omega) (alloc4 w _ _ _ _).2.2.2 (alloc4 w _ _ _ _).1 (alloc4 w _ _ _ _).2.2.1 (alloc4 w _ _ _ _).2.1 (by omega) (by omega) (by omega) (by omega) (by omega) (by omega), below4 w _ _ _ _, newG_ft (by omega) (by omega) (by omega) (by omega)⟩
      | exact ⟨w.heap.size + 3, newG (w.heap.size + 3) (w.heap.size + 1) w.heap.size (w.heap.size + 2) n, rfl, Eng.new (by omega) (alloc4 w _ _ _ _).2.2.2 (alloc4 w _ _ _ _).2.1 (alloc4 w _ _ _ _).1 (alloc4 w _ _ _ _).2.2.1 (by omega) (by omega) (by omega) (by omega) (by omega) (by omega), below4 w _ _ _ _, newG_ft (by omega) (by omega) (by omega) (by omega)⟩
      | exact ⟨w.heap.size + 3, newG (w.heap.size + 3) (w.heap.size + 1) (w.heap.size + 2) w.heap.size n, rfl, Eng.new (by omega) (alloc4 w _ _ _ _).2.2.2 (alloc4 w _ _ _ _).2.1 (alloc4 w _ _ _ _).2.2.1 (alloc4 w _ _ _ _).1 (by omega) (by omega) (by omega) (by omega) (by omega) (by omega), below4 w _ _ _ _, newG_ft (by omega) (by omega) (by omega) (by omega)⟩
      | exact ⟨w.heap.size + 3, newG (w.heap.size + 3) (w.heap.size + 2) w.heap.size (w.heap.size + 1) n, rfl, Eng.new (by omega) (alloc4 w _ _ _ _).2.2.2 (alloc4 w _ _ _ _).2.2.1 (alloc4 w _ _ _ _).1 (alloc4 w _ _ _ _).2.1 (by omega) (by omega) (by omega) (by omega) (by omega) (by omega), below4 w _ _ _ _, newG_ft (by omega) (by omega) (by omega) (by omega)⟩
      | exact ⟨w.heap.size + 3, newG (w.heap.size + 3) (w.heap.size + 2) (w.heap.size + 1) w.heap.size n, rfl, Eng.new (by omega) (alloc4 w _ _ _ _).2.2.2 (alloc4 w _ _ _ _).2.2.1 (alloc4 w _ _ _ _).2.1 (alloc4 w _ _ _ _).1 (by omega) (by omega) (by omega) (by omega) (by omega) (by omega), below4 w _ _ _ _, newG_ft (by omega) (by omega) (by omega) (by omega)⟩
end Go.Proofs.Ytaileihnkmjfiaa
