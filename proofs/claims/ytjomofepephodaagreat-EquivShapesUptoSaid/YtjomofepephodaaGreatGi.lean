/-
  The clauses one by one; Fault and Check of package wf. Conditions: what each theorem names.
-/
import Derived.Test.YtjomofepephodaaGreatGh
import Derived.Laws.EntriesVeiled
set_option linter.unusedVariables false
set_option linter.unusedSimpArgs false
namespace Go.Proofs.YtjomofepephodaaGreat.PEquivShapes
open Go.RowKit
open Go.Proofs.YtjomofepephodaaGreatW.PrintWords Go.Proofs.YtjomofepephodaaGreatW.PrintLast Go.Proofs.YtjomofepephodaaGreatW.PrintMore
theorem mk36 (F : Nat) (w : World) : Calls Tryz.prog 36 #[.func (.func F) #[] #[]] w fun e w' => e = .returned (.func (.func 77) #[] #[.pointer (some ⟨w.heap.size, 0, none⟩)]) ∧ w' = w.alloc (.cells #[.func (.func F) #[] #[]] 32) := by
  have hmf : ∀ (fn : Fn) (first cap : Array Value) (w : World), (Instr.makeFunc fn first cap).run Tryz.prog w = .ok (.func fn first cap) w := fun _ _ _ _ => rfl
  go_enter Tryz.func36, Tryz.ntmps36
  go_wp2_with fail
  go_ret
  exact ⟨rfl, rfl⟩
theorem mk42 (F : Nat) (w : World) : Calls Tryz.prog 42 #[.func (.func F) #[] #[]] w fun e w' => e = .returned (.func (.func 81) #[] #[.pointer (some ⟨w.heap.size, 0, none⟩)]) ∧ w' = w.alloc (.cells #[.func (.func F) #[] #[]] 86) := by
  have hmf : ∀ (fn : Fn) (first cap : Array Value) (w : World), (Instr.makeFunc fn first cap).run Tryz.prog w = .ok (.func fn first cap) w := fun _ _ _ _ => rfl
  go_enter Tryz.func42, Tryz.ntmps42
  go_wp2_with fail
  go_ret
  exact ⟨rfl, rfl⟩
theorem mk53 (F : Nat) (w : World) : Calls Tryz.prog 53 #[.func (.func F) #[] #[]] w fun e w' => e = .returned (.func (.func 83) #[] #[.pointer (some ⟨w.heap.size, 0, none⟩)]) ∧ w' = w.alloc (.cells #[.func (.func F) #[] #[]] 97) := by
  have hmf : ∀ (fn : Fn) (first cap : Array Value) (w : World), (Instr.makeFunc fn first cap).run Tryz.prog w = .ok (.func fn first cap) w := fun _ _ _ _ => rfl
  go_enter Tryz.func53, Tryz.ntmps53
  go_wp2_with fail
  go_ret
  exact ⟨rfl, rfl⟩
/-- the function that stands around a clause; the clause's own; its error -/
def fnN (i : Nat) : Nat := [77, 77, 77, 77, 81, 81, 81, 81, 77, 83, 83, 83, 83, 83, 83, 77].getD i 0
def clN (i : Nat) : Nat := [37, 38, 40, 41, 43, 45, 46, 47, 51, 54, 56, 59, 61, 62, 63, 64].getD i 0
def erN (i : Nat) : Int := [1, 5, 163, 4, 160, 163, 164, 165, 169, 152, 161, 162, 165, 166, 167, 168].getD i 0
/-- the clauses lie in a world: their boxes from n on -/
def ClAt (w : World) (n : Nat) : Prop := ∀ i : Nat, i < 16 → w.cell? ⟨n + 16, 2 * i, none⟩ = some (.int .i64 (erN i)) ∧ w.cell? ⟨n + 16, 2 * i + 1, none⟩ = some (.func (.func (fnN i)) #[] #[.pointer (some ⟨n + i, 0, none⟩)]) ∧ w.cell? ⟨n + i, 0, none⟩ = some (.func (.func (clN i)) #[] #[])
def cw0 (w : World) : World := (w).alloc (.cells #[.func (.func 37) #[] #[]] 32)
def cw1 (w : World) : World := (cw0 w).alloc (.cells #[.func (.func 38) #[] #[]] 32)
def cw2 (w : World) : World := (cw1 w).alloc (.cells #[.func (.func 40) #[] #[]] 32)
def cw3 (w : World) : World := (cw2 w).alloc (.cells #[.func (.func 41) #[] #[]] 32)
def cw4 (w : World) : World := (cw3 w).alloc (.cells #[.func (.func 43) #[] #[]] 86)
def cw5 (w : World) : World := (cw4 w).alloc (.cells #[.func (.func 45) #[] #[]] 86)
def cw6 (w : World) : World := (cw5 w).alloc (.cells #[.func (.func 46) #[] #[]] 86)
def cw7 (w : World) : World := (cw6 w).alloc (.cells #[.func (.func 47) #[] #[]] 86)
def cw8 (w : World) : World := (cw7 w).alloc (.cells #[.func (.func 51) #[] #[]] 32)
def cw9 (w : World) : World := (cw8 w).alloc (.cells #[.func (.func 54) #[] #[]] 97)
def cw10 (w : World) : World := (cw9 w).alloc (.cells #[.func (.func 56) #[] #[]] 97)
def cw11 (w : World) : World := (cw10 w).alloc (.cells #[.func (.func 59) #[] #[]] 97)
def cw12 (w : World) : World := (cw11 w).alloc (.cells #[.func (.func 61) #[] #[]] 97)
def cw13 (w : World) : World := (cw12 w).alloc (.cells #[.func (.func 62) #[] #[]] 97)
def cw14 (w : World) : World := (cw13 w).alloc (.cells #[.func (.func 63) #[] #[]] 97)
def cw15 (w : World) : World := (cw14 w).alloc (.cells #[.func (.func 64) #[] #[]] 32)
theorem cw_below0 (w : World) : Below w.heap.size w (cw0 w) := below_alloc (Below.refl _ _) _
theorem cw_below1 (w : World) : Below w.heap.size w (cw1 w) := below_alloc (cw_below0 w) _
theorem cw_below2 (w : World) : Below w.heap.size w (cw2 w) := below_alloc (cw_below1 w) _
theorem cw_below3 (w : World) : Below w.heap.size w (cw3 w) := below_alloc (cw_below2 w) _
theorem cw_below4 (w : World) : Below w.heap.size w (cw4 w) := below_alloc (cw_below3 w) _
theorem cw_below5 (w : World) : Below w.heap.size w (cw5 w) := below_alloc (cw_below4 w) _
theorem cw_below6 (w : World) : Below w.heap.size w (cw6 w) := below_alloc (cw_below5 w) _
theorem cw_below7 (w : World) : Below w.heap.size w (cw7 w) := below_alloc (cw_below6 w) _
theorem cw_below8 (w : World) : Below w.heap.size w (cw8 w) := below_alloc (cw_below7 w) _
theorem cw_below9 (w : World) : Below w.heap.size w (cw9 w) := below_alloc (cw_below8 w) _
theorem cw_below10 (w : World) : Below w.heap.size w (cw10 w) := below_alloc (cw_below9 w) _
theorem cw_below11 (w : World) : Below w.heap.size w (cw11 w) := below_alloc (cw_below10 w) _
theorem cw_below12 (w : World) : Below w.heap.size w (cw12 w) := below_alloc (cw_below11 w) _
theorem cw_below13 (w : World) : Below w.heap.size w (cw13 w) := below_alloc (cw_below12 w) _
theorem cw_below14 (w : World) : Below w.heap.size w (cw14 w) := below_alloc (cw_below13 w) _
theorem cw_below15 (w : World) : Below w.heap.size w (cw15 w) := below_alloc (cw_below14 w) _
theorem cw_size0 (w : World) : (cw0 w).heap.size = w.heap.size + 1 := by simp [cw0]
theorem cw_size1 (w : World) : (cw1 w).heap.size = w.heap.size + 2 := by simp [cw1, cw_size0]
theorem cw_size2 (w : World) : (cw2 w).heap.size = w.heap.size + 3 := by simp [cw2, cw_size1]
theorem cw_size3 (w : World) : (cw3 w).heap.size = w.heap.size + 4 := by simp [cw3, cw_size2]
theorem cw_size4 (w : World) : (cw4 w).heap.size = w.heap.size + 5 := by simp [cw4, cw_size3]
theorem cw_size5 (w : World) : (cw5 w).heap.size = w.heap.size + 6 := by simp [cw5, cw_size4]
theorem cw_size6 (w : World) : (cw6 w).heap.size = w.heap.size + 7 := by simp [cw6, cw_size5]
theorem cw_size7 (w : World) : (cw7 w).heap.size = w.heap.size + 8 := by simp [cw7, cw_size6]
theorem cw_size8 (w : World) : (cw8 w).heap.size = w.heap.size + 9 := by simp [cw8, cw_size7]
theorem cw_size9 (w : World) : (cw9 w).heap.size = w.heap.size + 10 := by simp [cw9, cw_size8]
theorem cw_size10 (w : World) : (cw10 w).heap.size = w.heap.size + 11 := by simp [cw10, cw_size9]
theorem cw_size11 (w : World) : (cw11 w).heap.size = w.heap.size + 12 := by simp [cw11, cw_size10]
theorem cw_size12 (w : World) : (cw12 w).heap.size = w.heap.size + 13 := by simp [cw12, cw_size11]
theorem cw_size13 (w : World) : (cw13 w).heap.size = w.heap.size + 14 := by simp [cw13, cw_size12]
theorem cw_size14 (w : World) : (cw14 w).heap.size = w.heap.size + 15 := by simp [cw14, cw_size13]
theorem cw_size15 (w : World) : (cw15 w).heap.size = w.heap.size + 16 := by simp [cw15, cw_size14]
theorem cw_cell0 (w : World) : (cw0 w).cell? ⟨w.heap.size + 0, 0, none⟩ = some (.func (.func 37) #[] #[]) := by
  have h : ∀ (W : World) (v : Value) (t : TypeId), (W.alloc (.cells #[v] t)).cell? ⟨W.heap.size, 0, none⟩ = some v := fun W v t => by simp [go_sem]
  have := h (w) (.func (.func 37) #[] #[]) 32
  exact this
theorem cw_cell1 (w : World) : (cw1 w).cell? ⟨w.heap.size + 1, 0, none⟩ = some (.func (.func 38) #[] #[]) := by
  have h : ∀ (W : World) (v : Value) (t : TypeId), (W.alloc (.cells #[v] t)).cell? ⟨W.heap.size, 0, none⟩ = some v := fun W v t => by simp [go_sem]
  have := h (cw0 w) (.func (.func 38) #[] #[]) 32
  rw [cw_size0] at this
  exact this
theorem cw_cell2 (w : World) : (cw2 w).cell? ⟨w.heap.size + 2, 0, none⟩ = some (.func (.func 40) #[] #[]) := by
  have h : ∀ (W : World) (v : Value) (t : TypeId), (W.alloc (.cells #[v] t)).cell? ⟨W.heap.size, 0, none⟩ = some v := fun W v t => by simp [go_sem]
  have := h (cw1 w) (.func (.func 40) #[] #[]) 32
  rw [cw_size1] at this
  exact this
theorem cw_cell3 (w : World) : (cw3 w).cell? ⟨w.heap.size + 3, 0, none⟩ = some (.func (.func 41) #[] #[]) := by
  have h : ∀ (W : World) (v : Value) (t : TypeId), (W.alloc (.cells #[v] t)).cell? ⟨W.heap.size, 0, none⟩ = some v := fun W v t => by simp [go_sem]
  have := h (cw2 w) (.func (.func 41) #[] #[]) 32
  rw [cw_size2] at this
  exact this
theorem cw_cell4 (w : World) : (cw4 w).cell? ⟨w.heap.size + 4, 0, none⟩ = some (.func (.func 43) #[] #[]) := by
  have h : ∀ (W : World) (v : Value) (t : TypeId), (W.alloc (.cells #[v] t)).cell? ⟨W.heap.size, 0, none⟩ = some v := fun W v t => by simp [go_sem]
  have := h (cw3 w) (.func (.func 43) #[] #[]) 86
  rw [cw_size3] at this
  exact this
theorem cw_cell5 (w : World) : (cw5 w).cell? ⟨w.heap.size + 5, 0, none⟩ = some (.func (.func 45) #[] #[]) := by
  have h : ∀ (W : World) (v : Value) (t : TypeId), (W.alloc (.cells #[v] t)).cell? ⟨W.heap.size, 0, none⟩ = some v := fun W v t => by simp [go_sem]
  have := h (cw4 w) (.func (.func 45) #[] #[]) 86
  rw [cw_size4] at this
  exact this
theorem cw_cell6 (w : World) : (cw6 w).cell? ⟨w.heap.size + 6, 0, none⟩ = some (.func (.func 46) #[] #[]) := by
  have h : ∀ (W : World) (v : Value) (t : TypeId), (W.alloc (.cells #[v] t)).cell? ⟨W.heap.size, 0, none⟩ = some v := fun W v t => by simp [go_sem]
  have := h (cw5 w) (.func (.func 46) #[] #[]) 86
  rw [cw_size5] at this
  exact this
theorem cw_cell7 (w : World) : (cw7 w).cell? ⟨w.heap.size + 7, 0, none⟩ = some (.func (.func 47) #[] #[]) := by
  have h : ∀ (W : World) (v : Value) (t : TypeId), (W.alloc (.cells #[v] t)).cell? ⟨W.heap.size, 0, none⟩ = some v := fun W v t => by simp [go_sem]
  have := h (cw6 w) (.func (.func 47) #[] #[]) 86
  rw [cw_size6] at this
  exact this
theorem cw_cell8 (w : World) : (cw8 w).cell? ⟨w.heap.size + 8, 0, none⟩ = some (.func (.func 51) #[] #[]) := by
  have h : ∀ (W : World) (v : Value) (t : TypeId), (W.alloc (.cells #[v] t)).cell? ⟨W.heap.size, 0, none⟩ = some v := fun W v t => by simp [go_sem]
  have := h (cw7 w) (.func (.func 51) #[] #[]) 32
  rw [cw_size7] at this
  exact this
theorem cw_cell9 (w : World) : (cw9 w).cell? ⟨w.heap.size + 9, 0, none⟩ = some (.func (.func 54) #[] #[]) := by
  have h : ∀ (W : World) (v : Value) (t : TypeId), (W.alloc (.cells #[v] t)).cell? ⟨W.heap.size, 0, none⟩ = some v := fun W v t => by simp [go_sem]
  have := h (cw8 w) (.func (.func 54) #[] #[]) 97
  rw [cw_size8] at this
  exact this
theorem cw_cell10 (w : World) : (cw10 w).cell? ⟨w.heap.size + 10, 0, none⟩ = some (.func (.func 56) #[] #[]) := by
  have h : ∀ (W : World) (v : Value) (t : TypeId), (W.alloc (.cells #[v] t)).cell? ⟨W.heap.size, 0, none⟩ = some v := fun W v t => by simp [go_sem]
  have := h (cw9 w) (.func (.func 56) #[] #[]) 97
  rw [cw_size9] at this
  exact this
theorem cw_cell11 (w : World) : (cw11 w).cell? ⟨w.heap.size + 11, 0, none⟩ = some (.func (.func 59) #[] #[]) := by
  have h : ∀ (W : World) (v : Value) (t : TypeId), (W.alloc (.cells #[v] t)).cell? ⟨W.heap.size, 0, none⟩ = some v := fun W v t => by simp [go_sem]
  have := h (cw10 w) (.func (.func 59) #[] #[]) 97
  rw [cw_size10] at this
  exact this
theorem cw_cell12 (w : World) : (cw12 w).cell? ⟨w.heap.size + 12, 0, none⟩ = some (.func (.func 61) #[] #[]) := by
  have h : ∀ (W : World) (v : Value) (t : TypeId), (W.alloc (.cells #[v] t)).cell? ⟨W.heap.size, 0, none⟩ = some v := fun W v t => by simp [go_sem]
  have := h (cw11 w) (.func (.func 61) #[] #[]) 97
  rw [cw_size11] at this
  exact this
theorem cw_cell13 (w : World) : (cw13 w).cell? ⟨w.heap.size + 13, 0, none⟩ = some (.func (.func 62) #[] #[]) := by
  have h : ∀ (W : World) (v : Value) (t : TypeId), (W.alloc (.cells #[v] t)).cell? ⟨W.heap.size, 0, none⟩ = some v := fun W v t => by simp [go_sem]
  have := h (cw12 w) (.func (.func 62) #[] #[]) 97
  rw [cw_size12] at this
  exact this
theorem cw_cell14 (w : World) : (cw14 w).cell? ⟨w.heap.size + 14, 0, none⟩ = some (.func (.func 63) #[] #[]) := by
  have h : ∀ (W : World) (v : Value) (t : TypeId), (W.alloc (.cells #[v] t)).cell? ⟨W.heap.size, 0, none⟩ = some v := fun W v t => by simp [go_sem]
  have := h (cw13 w) (.func (.func 63) #[] #[]) 97
  rw [cw_size13] at this
  exact this
theorem cw_cell15 (w : World) : (cw15 w).cell? ⟨w.heap.size + 15, 0, none⟩ = some (.func (.func 64) #[] #[]) := by
  have h : ∀ (W : World) (v : Value) (t : TypeId), (W.alloc (.cells #[v] t)).cell? ⟨W.heap.size, 0, none⟩ = some v := fun W v t => by simp [go_sem]
  have := h (cw14 w) (.func (.func 64) #[] #[]) 32
  rw [cw_size14] at this
  exact this
theorem cw_step (w : World) (o : Obj) : Below w.heap.size w (w.alloc o) := below_alloc (Below.refl _ _) _
theorem cw_last0 (w : World) : (cw15 w).cell? ⟨w.heap.size + 0, 0, none⟩ = some (.func (.func 37) #[] #[]) := kept_cell (cw_step (cw14 w) _) (kept_cell (cw_step (cw13 w) _) (kept_cell (cw_step (cw12 w) _) (kept_cell (cw_step (cw11 w) _) (kept_cell (cw_step (cw10 w) _) (kept_cell (cw_step (cw9 w) _) (kept_cell (cw_step (cw8 w) _) (kept_cell (cw_step (cw7 w) _) (kept_cell (cw_step (cw6 w) _) (kept_cell (cw_step (cw5 w) _) (kept_cell (cw_step (cw4 w) _) (kept_cell (cw_step (cw3 w) _) (kept_cell (cw_step (cw2 w) _) (kept_cell (cw_step (cw1 w) _) (kept_cell (cw_step (cw0 w) _) (cw_cell0 w)))))))))))))))
theorem cw_last1 (w : World) : (cw15 w).cell? ⟨w.heap.size + 1, 0, none⟩ = some (.func (.func 38) #[] #[]) := kept_cell (cw_step (cw14 w) _) (kept_cell (cw_step (cw13 w) _) (kept_cell (cw_step (cw12 w) _) (kept_cell (cw_step (cw11 w) _) (kept_cell (cw_step (cw10 w) _) (kept_cell (cw_step (cw9 w) _) (kept_cell (cw_step (cw8 w) _) (kept_cell (cw_step (cw7 w) _) (kept_cell (cw_step (cw6 w) _) (kept_cell (cw_step (cw5 w) _) (kept_cell (cw_step (cw4 w) _) (kept_cell (cw_step (cw3 w) _) (kept_cell (cw_step (cw2 w) _) (kept_cell (cw_step (cw1 w) _) (cw_cell1 w))))))))))))))
theorem cw_last2 (w : World) : (cw15 w).cell? ⟨w.heap.size + 2, 0, none⟩ = some (.func (.func 40) #[] #[]) := kept_cell (cw_step (cw14 w) _) (kept_cell (cw_step (cw13 w) _) (kept_cell (cw_step (cw12 w) _) (kept_cell (cw_step (cw11 w) _) (kept_cell (cw_step (cw10 w) _) (kept_cell (cw_step (cw9 w) _) (kept_cell (cw_step (cw8 w) _) (kept_cell (cw_step (cw7 w) _) (kept_cell (cw_step (cw6 w) _) (kept_cell (cw_step (cw5 w) _) (kept_cell (cw_step (cw4 w) _) (kept_cell (cw_step (cw3 w) _) (kept_cell (cw_step (cw2 w) _) (cw_cell2 w)))))))))))))
theorem cw_last3 (w : World) : (cw15 w).cell? ⟨w.heap.size + 3, 0, none⟩ = some (.func (.func 41) #[] #[]) := kept_cell (cw_step (cw14 w) _) (kept_cell (cw_step (cw13 w) _) (kept_cell (cw_step (cw12 w) _) (kept_cell (cw_step (cw11 w) _) (kept_cell (cw_step (cw10 w) _) (kept_cell (cw_step (cw9 w) _) (kept_cell (cw_step (cw8 w) _) (kept_cell (cw_step (cw7 w) _) (kept_cell (cw_step (cw6 w) _) (kept_cell (cw_step (cw5 w) _) (kept_cell (cw_step (cw4 w) _) (kept_cell (cw_step (cw3 w) _) (cw_cell3 w))))))))))))
theorem cw_last4 (w : World) : (cw15 w).cell? ⟨w.heap.size + 4, 0, none⟩ = some (.func (.func 43) #[] #[]) := kept_cell (cw_step (cw14 w) _) (kept_cell (cw_step (cw13 w) _) (kept_cell (cw_step (cw12 w) _) (kept_cell (cw_step (cw11 w) _) (kept_cell (cw_step (cw10 w) _) (kept_cell (cw_step (cw9 w) _) (kept_cell (cw_step (cw8 w) _) (kept_cell (cw_step (cw7 w) _) (kept_cell (cw_step (cw6 w) _) (kept_cell (cw_step (cw5 w) _) (kept_cell (cw_step (cw4 w) _) (cw_cell4 w)))))))))))
theorem cw_last5 (w : World) : (cw15 w).cell? ⟨w.heap.size + 5, 0, none⟩ = some (.func (.func 45) #[] #[]) := kept_cell (cw_step (cw14 w) _) (kept_cell (cw_step (cw13 w) _) (kept_cell (cw_step (cw12 w) _) (kept_cell (cw_step (cw11 w) _) (kept_cell (cw_step (cw10 w) _) (kept_cell (cw_step (cw9 w) _) (kept_cell (cw_step (cw8 w) _) (kept_cell (cw_step (cw7 w) _) (kept_cell (cw_step (cw6 w) _) (kept_cell (cw_step (cw5 w) _) (cw_cell5 w))))))))))
theorem cw_last6 (w : World) : (cw15 w).cell? ⟨w.heap.size + 6, 0, none⟩ = some (.func (.func 46) #[] #[]) := kept_cell (cw_step (cw14 w) _) (kept_cell (cw_step (cw13 w) _) (kept_cell (cw_step (cw12 w) _) (kept_cell (cw_step (cw11 w) _) (kept_cell (cw_step (cw10 w) _) (kept_cell (cw_step (cw9 w) _) (kept_cell (cw_step (cw8 w) _) (kept_cell (cw_step (cw7 w) _) (kept_cell (cw_step (cw6 w) _) (cw_cell6 w)))))))))
theorem cw_last7 (w : World) : (cw15 w).cell? ⟨w.heap.size + 7, 0, none⟩ = some (.func (.func 47) #[] #[]) := kept_cell (cw_step (cw14 w) _) (kept_cell (cw_step (cw13 w) _) (kept_cell (cw_step (cw12 w) _) (kept_cell (cw_step (cw11 w) _) (kept_cell (cw_step (cw10 w) _) (kept_cell (cw_step (cw9 w) _) (kept_cell (cw_step (cw8 w) _) (kept_cell (cw_step (cw7 w) _) (cw_cell7 w))))))))
theorem cw_last8 (w : World) : (cw15 w).cell? ⟨w.heap.size + 8, 0, none⟩ = some (.func (.func 51) #[] #[]) := kept_cell (cw_step (cw14 w) _) (kept_cell (cw_step (cw13 w) _) (kept_cell (cw_step (cw12 w) _) (kept_cell (cw_step (cw11 w) _) (kept_cell (cw_step (cw10 w) _) (kept_cell (cw_step (cw9 w) _) (kept_cell (cw_step (cw8 w) _) (cw_cell8 w)))))))
theorem cw_last9 (w : World) : (cw15 w).cell? ⟨w.heap.size + 9, 0, none⟩ = some (.func (.func 54) #[] #[]) := kept_cell (cw_step (cw14 w) _) (kept_cell (cw_step (cw13 w) _) (kept_cell (cw_step (cw12 w) _) (kept_cell (cw_step (cw11 w) _) (kept_cell (cw_step (cw10 w) _) (kept_cell (cw_step (cw9 w) _) (cw_cell9 w))))))
theorem cw_last10 (w : World) : (cw15 w).cell? ⟨w.heap.size + 10, 0, none⟩ = some (.func (.func 56) #[] #[]) := kept_cell (cw_step (cw14 w) _) (kept_cell (cw_step (cw13 w) _) (kept_cell (cw_step (cw12 w) _) (kept_cell (cw_step (cw11 w) _) (kept_cell (cw_step (cw10 w) _) (cw_cell10 w)))))
theorem cw_last11 (w : World) : (cw15 w).cell? ⟨w.heap.size + 11, 0, none⟩ = some (.func (.func 59) #[] #[]) := kept_cell (cw_step (cw14 w) _) (kept_cell (cw_step (cw13 w) _) (kept_cell (cw_step (cw12 w) _) (kept_cell (cw_step (cw11 w) _) (cw_cell11 w))))
theorem cw_last12 (w : World) : (cw15 w).cell? ⟨w.heap.size + 12, 0, none⟩ = some (.func (.func 61) #[] #[]) := kept_cell (cw_step (cw14 w) _) (kept_cell (cw_step (cw13 w) _) (kept_cell (cw_step (cw12 w) _) (cw_cell12 w)))
theorem cw_last13 (w : World) : (cw15 w).cell? ⟨w.heap.size + 13, 0, none⟩ = some (.func (.func 62) #[] #[]) := kept_cell (cw_step (cw14 w) _) (kept_cell (cw_step (cw13 w) _) (cw_cell13 w))
theorem cw_last14 (w : World) : (cw15 w).cell? ⟨w.heap.size + 14, 0, none⟩ = some (.func (.func 63) #[] #[]) := kept_cell (cw_step (cw14 w) _) (cw_cell14 w)
theorem cw_last15 (w : World) : (cw15 w).cell? ⟨w.heap.size + 15, 0, none⟩ = some (.func (.func 64) #[] #[]) := cw_cell15 w
/-- the world behind clauses -/
def cwEnd (w : World) : World := (cw15 w).alloc (.cells #[.int .i64 1, .func (.func 77) #[] #[.pointer (some ⟨w.heap.size + 0, 0, none⟩)], .int .i64 5, .func (.func 77) #[] #[.pointer (some ⟨w.heap.size + 1, 0, none⟩)], .int .i64 163, .func (.func 77) #[] #[.pointer (some ⟨w.heap.size + 2, 0, none⟩)], .int .i64 4, .func (.func 77) #[] #[.pointer (some ⟨w.heap.size + 3, 0, none⟩)], .int .i64 160, .func (.func 81) #[] #[.pointer (some ⟨w.heap.size + 4, 0, none⟩)], .int .i64 163, .func (.func 81) #[] #[.pointer (some ⟨w.heap.size + 5, 0, none⟩)], .int .i64 164, .func (.func 81) #[] #[.pointer (some ⟨w.heap.size + 6, 0, none⟩)], .int .i64 165, .func (.func 81) #[] #[.pointer (some ⟨w.heap.size + 7, 0, none⟩)], .int .i64 169, .func (.func 77) #[] #[.pointer (some ⟨w.heap.size + 8, 0, none⟩)], .int .i64 152, .func (.func 83) #[] #[.pointer (some ⟨w.heap.size + 9, 0, none⟩)], .int .i64 161, .func (.func 83) #[] #[.pointer (some ⟨w.heap.size + 10, 0, none⟩)], .int .i64 162, .func (.func 83) #[] #[.pointer (some ⟨w.heap.size + 11, 0, none⟩)], .int .i64 165, .func (.func 83) #[] #[.pointer (some ⟨w.heap.size + 12, 0, none⟩)], .int .i64 166, .func (.func 83) #[] #[.pointer (some ⟨w.heap.size + 13, 0, none⟩)], .int .i64 167, .func (.func 83) #[] #[.pointer (some ⟨w.heap.size + 14, 0, none⟩)], .int .i64 168, .func (.func 77) #[] #[.pointer (some ⟨w.heap.size + 15, 0, none⟩)]] 65)
theorem cwEnd_below (w : World) : Below w.heap.size w (cwEnd w) := below_alloc (cw_below15 w) _
theorem cwEnd0 (w : World) : (cwEnd w).cell? ⟨w.heap.size + 16, 0, none⟩ = some (.int .i64 1) ∧ (cwEnd w).cell? ⟨w.heap.size + 16, 1, none⟩ = some (.func (.func 77) #[] #[.pointer (some ⟨w.heap.size + 0, 0, none⟩)]) ∧ (cwEnd w).cell? ⟨w.heap.size + 0, 0, none⟩ = some (.func (.func 37) #[] #[]) := by
  refine ⟨?_, ?_, kept_cell (cw_step (cw15 w) _) (cw_last0 w)⟩
  · rw [← cw_size15]; simp [cwEnd, go_sem]
  · rw [← cw_size15]; simp [cwEnd, go_sem]
theorem cwEnd1 (w : World) : (cwEnd w).cell? ⟨w.heap.size + 16, 2, none⟩ = some (.int .i64 5) ∧ (cwEnd w).cell? ⟨w.heap.size + 16, 3, none⟩ = some (.func (.func 77) #[] #[.pointer (some ⟨w.heap.size + 1, 0, none⟩)]) ∧ (cwEnd w).cell? ⟨w.heap.size + 1, 0, none⟩ = some (.func (.func 38) #[] #[]) := by
  refine ⟨?_, ?_, kept_cell (cw_step (cw15 w) _) (cw_last1 w)⟩
  · rw [← cw_size15]; simp [cwEnd, go_sem]
  · rw [← cw_size15]; simp [cwEnd, go_sem]
theorem cwEnd2 (w : World) : (cwEnd w).cell? ⟨w.heap.size + 16, 4, none⟩ = some (.int .i64 163) ∧ (cwEnd w).cell? ⟨w.heap.size + 16, 5, none⟩ = some (.func (.func 77) #[] #[.pointer (some ⟨w.heap.size + 2, 0, none⟩)]) ∧ (cwEnd w).cell? ⟨w.heap.size + 2, 0, none⟩ = some (.func (.func 40) #[] #[]) := by
  refine ⟨?_, ?_, kept_cell (cw_step (cw15 w) _) (cw_last2 w)⟩
  · rw [← cw_size15]; simp [cwEnd, go_sem]
  · rw [← cw_size15]; simp [cwEnd, go_sem]
theorem cwEnd3 (w : World) : (cwEnd w).cell? ⟨w.heap.size + 16, 6, none⟩ = some (.int .i64 4) ∧ (cwEnd w).cell? ⟨w.heap.size + 16, 7, none⟩ = some (.func (.func 77) #[] #[.pointer (some ⟨w.heap.size + 3, 0, none⟩)]) ∧ (cwEnd w).cell? ⟨w.heap.size + 3, 0, none⟩ = some (.func (.func 41) #[] #[]) := by
  refine ⟨?_, ?_, kept_cell (cw_step (cw15 w) _) (cw_last3 w)⟩
  · rw [← cw_size15]; simp [cwEnd, go_sem]
  · rw [← cw_size15]; simp [cwEnd, go_sem]
theorem cwEnd4 (w : World) : (cwEnd w).cell? ⟨w.heap.size + 16, 8, none⟩ = some (.int .i64 160) ∧ (cwEnd w).cell? ⟨w.heap.size + 16, 9, none⟩ = some (.func (.func 81) #[] #[.pointer (some ⟨w.heap.size + 4, 0, none⟩)]) ∧ (cwEnd w).cell? ⟨w.heap.size + 4, 0, none⟩ = some (.func (.func 43) #[] #[]) := by
  refine ⟨?_, ?_, kept_cell (cw_step (cw15 w) _) (cw_last4 w)⟩
  · rw [← cw_size15]; simp [cwEnd, go_sem]
  · rw [← cw_size15]; simp [cwEnd, go_sem]
theorem cwEnd5 (w : World) : (cwEnd w).cell? ⟨w.heap.size + 16, 10, none⟩ = some (.int .i64 163) ∧ (cwEnd w).cell? ⟨w.heap.size + 16, 11, none⟩ = some (.func (.func 81) #[] #[.pointer (some ⟨w.heap.size + 5, 0, none⟩)]) ∧ (cwEnd w).cell? ⟨w.heap.size + 5, 0, none⟩ = some (.func (.func 45) #[] #[]) := by
  refine ⟨?_, ?_, kept_cell (cw_step (cw15 w) _) (cw_last5 w)⟩
  · rw [← cw_size15]; simp [cwEnd, go_sem]
  · rw [← cw_size15]; simp [cwEnd, go_sem]
theorem cwEnd6 (w : World) : (cwEnd w).cell? ⟨w.heap.size + 16, 12, none⟩ = some (.int .i64 164) ∧ (cwEnd w).cell? ⟨w.heap.size + 16, 13, none⟩ = some (.func (.func 81) #[] #[.pointer (some ⟨w.heap.size + 6, 0, none⟩)]) ∧ (cwEnd w).cell? ⟨w.heap.size + 6, 0, none⟩ = some (.func (.func 46) #[] #[]) := by
  refine ⟨?_, ?_, kept_cell (cw_step (cw15 w) _) (cw_last6 w)⟩
  · rw [← cw_size15]; simp [cwEnd, go_sem]
  · rw [← cw_size15]; simp [cwEnd, go_sem]
theorem cwEnd7 (w : World) : (cwEnd w).cell? ⟨w.heap.size + 16, 14, none⟩ = some (.int .i64 165) ∧ (cwEnd w).cell? ⟨w.heap.size + 16, 15, none⟩ = some (.func (.func 81) #[] #[.pointer (some ⟨w.heap.size + 7, 0, none⟩)]) ∧ (cwEnd w).cell? ⟨w.heap.size + 7, 0, none⟩ = some (.func (.func 47) #[] #[]) := by
  refine ⟨?_, ?_, kept_cell (cw_step (cw15 w) _) (cw_last7 w)⟩
  · rw [← cw_size15]; simp [cwEnd, go_sem]
  · rw [← cw_size15]; simp [cwEnd, go_sem]
theorem cwEnd8 (w : World) : (cwEnd w).cell? ⟨w.heap.size + 16, 16, none⟩ = some (.int .i64 169) ∧ (cwEnd w).cell? ⟨w.heap.size + 16, 17, none⟩ = some (.func (.func 77) #[] #[.pointer (some ⟨w.heap.size + 8, 0, none⟩)]) ∧ (cwEnd w).cell? ⟨w.heap.size + 8, 0, none⟩ = some (.func (.func 51) #[] #[]) := by
  refine ⟨?_, ?_, kept_cell (cw_step (cw15 w) _) (cw_last8 w)⟩
  · rw [← cw_size15]; simp [cwEnd, go_sem]
  · rw [← cw_size15]; simp [cwEnd, go_sem]
theorem cwEnd9 (w : World) : (cwEnd w).cell? ⟨w.heap.size + 16, 18, none⟩ = some (.int .i64 152) ∧ (cwEnd w).cell? ⟨w.heap.size + 16, 19, none⟩ = some (.func (.func 83) #[] #[.pointer (some ⟨w.heap.size + 9, 0, none⟩)]) ∧ (cwEnd w).cell? ⟨w.heap.size + 9, 0, none⟩ = some (.func (.func 54) #[] #[]) := by
  refine ⟨?_, ?_, kept_cell (cw_step (cw15 w) _) (cw_last9 w)⟩
  · rw [← cw_size15]; simp [cwEnd, go_sem]
  · rw [← cw_size15]; simp [cwEnd, go_sem]
theorem cwEnd10 (w : World) : (cwEnd w).cell? ⟨w.heap.size + 16, 20, none⟩ = some (.int .i64 161) ∧ (cwEnd w).cell? ⟨w.heap.size + 16, 21, none⟩ = some (.func (.func 83) #[] #[.pointer (some ⟨w.heap.size + 10, 0, none⟩)]) ∧ (cwEnd w).cell? ⟨w.heap.size + 10, 0, none⟩ = some (.func (.func 56) #[] #[]) := by
  refine ⟨?_, ?_, kept_cell (cw_step (cw15 w) _) (cw_last10 w)⟩
  · rw [← cw_size15]; simp [cwEnd, go_sem]
  · rw [← cw_size15]; simp [cwEnd, go_sem]
theorem cwEnd11 (w : World) : (cwEnd w).cell? ⟨w.heap.size + 16, 22, none⟩ = some (.int .i64 162) ∧ (cwEnd w).cell? ⟨w.heap.size + 16, 23, none⟩ = some (.func (.func 83) #[] #[.pointer (some ⟨w.heap.size + 11, 0, none⟩)]) ∧ (cwEnd w).cell? ⟨w.heap.size + 11, 0, none⟩ = some (.func (.func 59) #[] #[]) := by
  refine ⟨?_, ?_, kept_cell (cw_step (cw15 w) _) (cw_last11 w)⟩
  · rw [← cw_size15]; simp [cwEnd, go_sem]
  · rw [← cw_size15]; simp [cwEnd, go_sem]
theorem cwEnd12 (w : World) : (cwEnd w).cell? ⟨w.heap.size + 16, 24, none⟩ = some (.int .i64 165) ∧ (cwEnd w).cell? ⟨w.heap.size + 16, 25, none⟩ = some (.func (.func 83) #[] #[.pointer (some ⟨w.heap.size + 12, 0, none⟩)]) ∧ (cwEnd w).cell? ⟨w.heap.size + 12, 0, none⟩ = some (.func (.func 61) #[] #[]) := by
  refine ⟨?_, ?_, kept_cell (cw_step (cw15 w) _) (cw_last12 w)⟩
  · rw [← cw_size15]; simp [cwEnd, go_sem]
  · rw [← cw_size15]; simp [cwEnd, go_sem]
theorem cwEnd13 (w : World) : (cwEnd w).cell? ⟨w.heap.size + 16, 26, none⟩ = some (.int .i64 166) ∧ (cwEnd w).cell? ⟨w.heap.size + 16, 27, none⟩ = some (.func (.func 83) #[] #[.pointer (some ⟨w.heap.size + 13, 0, none⟩)]) ∧ (cwEnd w).cell? ⟨w.heap.size + 13, 0, none⟩ = some (.func (.func 62) #[] #[]) := by
  refine ⟨?_, ?_, kept_cell (cw_step (cw15 w) _) (cw_last13 w)⟩
  · rw [← cw_size15]; simp [cwEnd, go_sem]
  · rw [← cw_size15]; simp [cwEnd, go_sem]
theorem cwEnd14 (w : World) : (cwEnd w).cell? ⟨w.heap.size + 16, 28, none⟩ = some (.int .i64 167) ∧ (cwEnd w).cell? ⟨w.heap.size + 16, 29, none⟩ = some (.func (.func 83) #[] #[.pointer (some ⟨w.heap.size + 14, 0, none⟩)]) ∧ (cwEnd w).cell? ⟨w.heap.size + 14, 0, none⟩ = some (.func (.func 63) #[] #[]) := by
  refine ⟨?_, ?_, kept_cell (cw_step (cw15 w) _) (cw_last14 w)⟩
  · rw [← cw_size15]; simp [cwEnd, go_sem]
  · rw [← cw_size15]; simp [cwEnd, go_sem]
theorem cwEnd15 (w : World) : (cwEnd w).cell? ⟨w.heap.size + 16, 30, none⟩ = some (.int .i64 168) ∧ (cwEnd w).cell? ⟨w.heap.size + 16, 31, none⟩ = some (.func (.func 77) #[] #[.pointer (some ⟨w.heap.size + 15, 0, none⟩)]) ∧ (cwEnd w).cell? ⟨w.heap.size + 15, 0, none⟩ = some (.func (.func 64) #[] #[]) := by
  refine ⟨?_, ?_, kept_cell (cw_step (cw15 w) _) (cw_last15 w)⟩
  · rw [← cw_size15]; simp [cwEnd, go_sem]
  · rw [← cw_size15]; simp [cwEnd, go_sem]
theorem cwEnd_at (w : World) : ClAt (cwEnd w) w.heap.size := by
  intro i hi
  match i, hi with
  | 0, _ => exact cwEnd0 w
  | 1, _ => exact cwEnd1 w
  | 2, _ => exact cwEnd2 w
  | 3, _ => exact cwEnd3 w
  | 4, _ => exact cwEnd4 w
  | 5, _ => exact cwEnd5 w
  | 6, _ => exact cwEnd6 w
  | 7, _ => exact cwEnd7 w
  | 8, _ => exact cwEnd8 w
  | 9, _ => exact cwEnd9 w
  | 10, _ => exact cwEnd10 w
  | 11, _ => exact cwEnd11 w
  | 12, _ => exact cwEnd12 w
  | 13, _ => exact cwEnd13 w
  | 14, _ => exact cwEnd14 w
  | 15, _ => exact cwEnd15 w
  | n + 16, h => exact absurd h (by omega)
set_option maxHeartbeats 4000000 in
set_option maxRecDepth 100000 in
theorem clauses_any (w : World) : Calls Tryz.prog 28 #[] w fun e w' => e = .returned (.slice (some ⟨w.heap.size + 16, 0, none⟩) 16 16) ∧ w' = cwEnd w := by
  have M0 : Calls Tryz.prog 36 #[.func (.func 37) #[] #[]] w fun e w' => e = .returned (.func (.func 77) #[] #[.pointer (some ⟨w.heap.size + 0, 0, none⟩)]) ∧ w' = cw0 w := by
    have := mk36 37 w
    exact this
  have N0 := Aside0.mk M0
  clear M0
  have M1 : Calls Tryz.prog 36 #[.func (.func 38) #[] #[]] (cw0 w) fun e w' => e = .returned (.func (.func 77) #[] #[.pointer (some ⟨w.heap.size + 1, 0, none⟩)]) ∧ w' = cw1 w := by
    have := mk36 38 (cw0 w)
    rw [cw_size0] at this
    exact this
  have N1 := Aside0.mk M1
  clear M1
  have M2 : Calls Tryz.prog 36 #[.func (.func 40) #[] #[]] (cw1 w) fun e w' => e = .returned (.func (.func 77) #[] #[.pointer (some ⟨w.heap.size + 2, 0, none⟩)]) ∧ w' = cw2 w := by
    have := mk36 40 (cw1 w)
    rw [cw_size1] at this
    exact this
  have N2 := Aside0.mk M2
  clear M2
  have M3 : Calls Tryz.prog 36 #[.func (.func 41) #[] #[]] (cw2 w) fun e w' => e = .returned (.func (.func 77) #[] #[.pointer (some ⟨w.heap.size + 3, 0, none⟩)]) ∧ w' = cw3 w := by
    have := mk36 41 (cw2 w)
    rw [cw_size2] at this
    exact this
  have N3 := Aside0.mk M3
  clear M3
  have M4 : Calls Tryz.prog 42 #[.func (.func 43) #[] #[]] (cw3 w) fun e w' => e = .returned (.func (.func 81) #[] #[.pointer (some ⟨w.heap.size + 4, 0, none⟩)]) ∧ w' = cw4 w := by
    have := mk42 43 (cw3 w)
    rw [cw_size3] at this
    exact this
  have N4 := Aside0.mk M4
  clear M4
  have M5 : Calls Tryz.prog 42 #[.func (.func 45) #[] #[]] (cw4 w) fun e w' => e = .returned (.func (.func 81) #[] #[.pointer (some ⟨w.heap.size + 5, 0, none⟩)]) ∧ w' = cw5 w := by
    have := mk42 45 (cw4 w)
    rw [cw_size4] at this
    exact this
  have N5 := Aside0.mk M5
  clear M5
  have M6 : Calls Tryz.prog 42 #[.func (.func 46) #[] #[]] (cw5 w) fun e w' => e = .returned (.func (.func 81) #[] #[.pointer (some ⟨w.heap.size + 6, 0, none⟩)]) ∧ w' = cw6 w := by
    have := mk42 46 (cw5 w)
    rw [cw_size5] at this
    exact this
  have N6 := Aside0.mk M6
  clear M6
  have M7 : Calls Tryz.prog 42 #[.func (.func 47) #[] #[]] (cw6 w) fun e w' => e = .returned (.func (.func 81) #[] #[.pointer (some ⟨w.heap.size + 7, 0, none⟩)]) ∧ w' = cw7 w := by
    have := mk42 47 (cw6 w)
    rw [cw_size6] at this
    exact this
  have N7 := Aside0.mk M7
  clear M7
  have M8 : Calls Tryz.prog 36 #[.func (.func 51) #[] #[]] (cw7 w) fun e w' => e = .returned (.func (.func 77) #[] #[.pointer (some ⟨w.heap.size + 8, 0, none⟩)]) ∧ w' = cw8 w := by
    have := mk36 51 (cw7 w)
    rw [cw_size7] at this
    exact this
  have N8 := Aside0.mk M8
  clear M8
  have M9 : Calls Tryz.prog 53 #[.func (.func 54) #[] #[]] (cw8 w) fun e w' => e = .returned (.func (.func 83) #[] #[.pointer (some ⟨w.heap.size + 9, 0, none⟩)]) ∧ w' = cw9 w := by
    have := mk53 54 (cw8 w)
    rw [cw_size8] at this
    exact this
  have N9 := Aside0.mk M9
  clear M9
  have M10 : Calls Tryz.prog 53 #[.func (.func 56) #[] #[]] (cw9 w) fun e w' => e = .returned (.func (.func 83) #[] #[.pointer (some ⟨w.heap.size + 10, 0, none⟩)]) ∧ w' = cw10 w := by
    have := mk53 56 (cw9 w)
    rw [cw_size9] at this
    exact this
  have N10 := Aside0.mk M10
  clear M10
  have M11 : Calls Tryz.prog 53 #[.func (.func 59) #[] #[]] (cw10 w) fun e w' => e = .returned (.func (.func 83) #[] #[.pointer (some ⟨w.heap.size + 11, 0, none⟩)]) ∧ w' = cw11 w := by
    have := mk53 59 (cw10 w)
    rw [cw_size10] at this
    exact this
  have N11 := Aside0.mk M11
  clear M11
  have M12 : Calls Tryz.prog 53 #[.func (.func 61) #[] #[]] (cw11 w) fun e w' => e = .returned (.func (.func 83) #[] #[.pointer (some ⟨w.heap.size + 12, 0, none⟩)]) ∧ w' = cw12 w := by
    have := mk53 61 (cw11 w)
    rw [cw_size11] at this
    exact this
  have N12 := Aside0.mk M12
  clear M12
  have M13 : Calls Tryz.prog 53 #[.func (.func 62) #[] #[]] (cw12 w) fun e w' => e = .returned (.func (.func 83) #[] #[.pointer (some ⟨w.heap.size + 13, 0, none⟩)]) ∧ w' = cw13 w := by
    have := mk53 62 (cw12 w)
    rw [cw_size12] at this
    exact this
  have N13 := Aside0.mk M13
  clear M13
  have M14 : Calls Tryz.prog 53 #[.func (.func 63) #[] #[]] (cw13 w) fun e w' => e = .returned (.func (.func 83) #[] #[.pointer (some ⟨w.heap.size + 14, 0, none⟩)]) ∧ w' = cw14 w := by
    have := mk53 63 (cw13 w)
    rw [cw_size13] at this
    exact this
  have N14 := Aside0.mk M14
  clear M14
  have M15 : Calls Tryz.prog 36 #[.func (.func 64) #[] #[]] (cw14 w) fun e w' => e = .returned (.func (.func 77) #[] #[.pointer (some ⟨w.heap.size + 15, 0, none⟩)]) ∧ w' = cw15 w := by
    have := mk36 64 (cw14 w)
    rw [cw_size14] at this
    exact this
  have N15 := Aside0.mk M15
  clear M15
  have T0 := Aside0.mk trivial
  have T1 := Aside0.mk trivial
  have T2 := Aside0.mk trivial
  have T3 := Aside0.mk trivial
  have T4 := Aside0.mk trivial
  have T5 := Aside0.mk trivial
  have T6 := Aside0.mk trivial
  have T7 := Aside0.mk trivial
  have T8 := Aside0.mk trivial
  have T9 := Aside0.mk trivial
  have T10 := Aside0.mk trivial
  have T11 := Aside0.mk trivial
  have T12 := Aside0.mk trivial
  have T13 := Aside0.mk trivial
  have T14 := Aside0.mk trivial
  have T15 := Aside0.mk trivial
  have HE : Aside0 (∀ v, v = Value.slice (some ⟨(cw15 w).heap.size, 0, none⟩) 16 16 → v = .slice (some ⟨w.heap.size + 16, 0, none⟩) 16 16) := ⟨fun v h => by rw [h, cw_size15]⟩
  go_enter Tryz.func28, Tryz.ntmps28
  go_wp2_with (first
    | (clear T0; go_at_call 36; refine N0.out.mono ?_; rintro e w' ⟨rfl, rfl⟩)
    | (clear T1; go_at_call 36; refine N1.out.mono ?_; rintro e w' ⟨rfl, rfl⟩)
    | (clear T2; go_at_call 36; refine N2.out.mono ?_; rintro e w' ⟨rfl, rfl⟩)
    | (clear T3; go_at_call 36; refine N3.out.mono ?_; rintro e w' ⟨rfl, rfl⟩)
    | (clear T4; go_at_call 42; refine N4.out.mono ?_; rintro e w' ⟨rfl, rfl⟩)
    | (clear T5; go_at_call 42; refine N5.out.mono ?_; rintro e w' ⟨rfl, rfl⟩)
    | (clear T6; go_at_call 42; refine N6.out.mono ?_; rintro e w' ⟨rfl, rfl⟩)
    | (clear T7; go_at_call 42; refine N7.out.mono ?_; rintro e w' ⟨rfl, rfl⟩)
    | (clear T8; go_at_call 36; refine N8.out.mono ?_; rintro e w' ⟨rfl, rfl⟩)
    | (clear T9; go_at_call 53; refine N9.out.mono ?_; rintro e w' ⟨rfl, rfl⟩)
    | (clear T10; go_at_call 53; refine N10.out.mono ?_; rintro e w' ⟨rfl, rfl⟩)
    | (clear T11; go_at_call 53; refine N11.out.mono ?_; rintro e w' ⟨rfl, rfl⟩)
    | (clear T12; go_at_call 53; refine N12.out.mono ?_; rintro e w' ⟨rfl, rfl⟩)
    | (clear T13; go_at_call 53; refine N13.out.mono ?_; rintro e w' ⟨rfl, rfl⟩)
    | (clear T14; go_at_call 53; refine N14.out.mono ?_; rintro e w' ⟨rfl, rfl⟩)
    | (clear T15; go_at_call 36; refine N15.out.mono ?_; rintro e w' ⟨rfl, rfl⟩))
  go_ret
  exact ⟨by rw [← cw_size15]; rfl, rfl⟩
end Go.Proofs.YtjomofepephodaaGreat.PEquivShapes
namespace Go.Proofs.YtjomofepephodaaGreat.PEquivShapes
open Go.RowKit
open Go.Proofs.YtjomofepephodaaGreatW.PrintWords Go.Proofs.YtjomofepephodaaGreatW.PrintLast Go.Proofs.YtjomofepephodaaGreatW.PrintMore
/-- the answer of a clause's closure -/
def Tells (w : World) (b : Bool) (e : Ending) (w' : World) : Prop := (∃ r : Int, e = .returned (.tuple #[.int .i64 r, .bool b])) ∧ Below w.heap.size w w'
set_option maxHeartbeats 1000000 in
theorem c83_any (p : PR) (A3 : Option Addr) (c3 : Nat) (A4 : Option Addr) (c4 : Nat) (gw : Nat) (pre bad : TL → Bool) (w : World) (hp : p.At w A3 c3 A4 c4)
    (hA : Asked (w.alloc (p.row A3 c3 A4 c4)).heap.size (w.alloc (p.row A3 c3 A4 c4)) gw w.heap.size pre bad) (hpre : ∀ x, x ∈ p.ths → pre x = true) :
    Calls Tryz.prog 83 #[p.cells A3 c3 A4 c4, .pointer (some ⟨gw, 0, none⟩)] w fun e w' => Tells w (p.ths.any bad) e w' := by
  have hmf : ∀ (fn : Fn) (first cap : Array Value) (w : World), (Instr.makeFunc fn first cap).run Tryz.prog w = .ok (.func fn first cap) w := fun _ _ _ _ => rfl
  have B := below_alloc (Below.refl w.heap.size w) (p.row A3 c3 A4 c4)
  have HF := Aside0.mk (first_any gw w.heap.size p A3 c3 A4 c4 pre bad _ (At_below hp B) hA hpre)
  have BB := Aside0.mk B
  clear B hp hA hpre
  unfold PR.row at HF BB
  unfold PR.cells at *
  generalize p.ths.any bad = tot at *
  go_enter Tryz.func83, Tryz.ntmps83
  go_wp2_with (go_at_call 84; refine HF.out.mono ?_; rintro e w' ⟨⟨v, rfl⟩, hb⟩)
  go_ret2
  exact ⟨⟨v, rfl⟩, below_step BB.out hb⟩
theorem c83_54 (p : PR) (A3 : Option Addr) (c3 : Nat) (A4 : Option Addr) (c4 : Nat) (gw : Nat) (pre bad : TL → Bool) (w : World) (hp : p.At w A3 c3 A4 c4)
    (hA : Asks 54 w.heap.size w p A3 c3 A4 c4 pre bad) (hpre : ∀ x, x ∈ p.ths → pre x = true) (hg : w.cell? ⟨gw, 0, none⟩ = some (.func (.func 54) #[] #[])) :
    Calls Tryz.prog 83 #[p.cells A3 c3 A4 c4, .pointer (some ⟨gw, 0, none⟩)] w fun e w' => Tells w (p.ths.any bad) e w' := by
  have B := below_alloc (Below.refl w.heap.size w) (p.row A3 c3 A4 c4)
  have hgl := World.block_lt_of_cell? w _ hg
  refine c83_any p A3 c3 A4 c4 gw pre bad w hp (c85_54 _ _ (Nat.le_refl _) p A3 c3 A4 c4 pre bad gw w.heap.size (fun W t ls n pd ps pe d pl hb => hA W t ls n pd ps pe d pl (below_step B hb)) (Nat.lt_of_lt_of_le hgl B.size) (by simp [go_sem]) (kept_cell B hg) ?_) hpre
  simp [go_sem, PIn, PR.row]
theorem c83_56 (p : PR) (A3 : Option Addr) (c3 : Nat) (A4 : Option Addr) (c4 : Nat) (gw : Nat) (pre bad : TL → Bool) (w : World) (hp : p.At w A3 c3 A4 c4)
    (hA : Asks 56 w.heap.size w p A3 c3 A4 c4 pre bad) (hpre : ∀ x, x ∈ p.ths → pre x = true) (hg : w.cell? ⟨gw, 0, none⟩ = some (.func (.func 56) #[] #[])) :
    Calls Tryz.prog 83 #[p.cells A3 c3 A4 c4, .pointer (some ⟨gw, 0, none⟩)] w fun e w' => Tells w (p.ths.any bad) e w' := by
  have B := below_alloc (Below.refl w.heap.size w) (p.row A3 c3 A4 c4)
  have hgl := World.block_lt_of_cell? w _ hg
  refine c83_any p A3 c3 A4 c4 gw pre bad w hp (c85_56 _ _ (Nat.le_refl _) p A3 c3 A4 c4 pre bad gw w.heap.size (fun W t ls n pd ps pe d pl hb => hA W t ls n pd ps pe d pl (below_step B hb)) (Nat.lt_of_lt_of_le hgl B.size) (by simp [go_sem]) (kept_cell B hg) ?_) hpre
  simp [go_sem, PIn, PR.row]
theorem c83_59 (p : PR) (A3 : Option Addr) (c3 : Nat) (A4 : Option Addr) (c4 : Nat) (gw : Nat) (pre bad : TL → Bool) (w : World) (hp : p.At w A3 c3 A4 c4)
    (hA : Asks 59 w.heap.size w p A3 c3 A4 c4 pre bad) (hpre : ∀ x, x ∈ p.ths → pre x = true) (hg : w.cell? ⟨gw, 0, none⟩ = some (.func (.func 59) #[] #[])) :
    Calls Tryz.prog 83 #[p.cells A3 c3 A4 c4, .pointer (some ⟨gw, 0, none⟩)] w fun e w' => Tells w (p.ths.any bad) e w' := by
  have B := below_alloc (Below.refl w.heap.size w) (p.row A3 c3 A4 c4)
  have hgl := World.block_lt_of_cell? w _ hg
  refine c83_any p A3 c3 A4 c4 gw pre bad w hp (c85_59 _ _ (Nat.le_refl _) p A3 c3 A4 c4 pre bad gw w.heap.size (fun W t ls n pd ps pe d pl hb => hA W t ls n pd ps pe d pl (below_step B hb)) (Nat.lt_of_lt_of_le hgl B.size) (by simp [go_sem]) (kept_cell B hg) ?_) hpre
  simp [go_sem, PIn, PR.row]
theorem c83_61 (p : PR) (A3 : Option Addr) (c3 : Nat) (A4 : Option Addr) (c4 : Nat) (gw : Nat) (pre bad : TL → Bool) (w : World) (hp : p.At w A3 c3 A4 c4)
    (hA : Asks 61 w.heap.size w p A3 c3 A4 c4 pre bad) (hpre : ∀ x, x ∈ p.ths → pre x = true) (hg : w.cell? ⟨gw, 0, none⟩ = some (.func (.func 61) #[] #[])) :
    Calls Tryz.prog 83 #[p.cells A3 c3 A4 c4, .pointer (some ⟨gw, 0, none⟩)] w fun e w' => Tells w (p.ths.any bad) e w' := by
  have B := below_alloc (Below.refl w.heap.size w) (p.row A3 c3 A4 c4)
  have hgl := World.block_lt_of_cell? w _ hg
  refine c83_any p A3 c3 A4 c4 gw pre bad w hp (c85_61 _ _ (Nat.le_refl _) p A3 c3 A4 c4 pre bad gw w.heap.size (fun W t ls n pd ps pe d pl hb => hA W t ls n pd ps pe d pl (below_step B hb)) (Nat.lt_of_lt_of_le hgl B.size) (by simp [go_sem]) (kept_cell B hg) ?_) hpre
  simp [go_sem, PIn, PR.row]
theorem c83_62 (p : PR) (A3 : Option Addr) (c3 : Nat) (A4 : Option Addr) (c4 : Nat) (gw : Nat) (pre bad : TL → Bool) (w : World) (hp : p.At w A3 c3 A4 c4)
    (hA : Asks 62 w.heap.size w p A3 c3 A4 c4 pre bad) (hpre : ∀ x, x ∈ p.ths → pre x = true) (hg : w.cell? ⟨gw, 0, none⟩ = some (.func (.func 62) #[] #[])) :
    Calls Tryz.prog 83 #[p.cells A3 c3 A4 c4, .pointer (some ⟨gw, 0, none⟩)] w fun e w' => Tells w (p.ths.any bad) e w' := by
  have B := below_alloc (Below.refl w.heap.size w) (p.row A3 c3 A4 c4)
  have hgl := World.block_lt_of_cell? w _ hg
  refine c83_any p A3 c3 A4 c4 gw pre bad w hp (c85_62 _ _ (Nat.le_refl _) p A3 c3 A4 c4 pre bad gw w.heap.size (fun W t ls n pd ps pe d pl hb => hA W t ls n pd ps pe d pl (below_step B hb)) (Nat.lt_of_lt_of_le hgl B.size) (by simp [go_sem]) (kept_cell B hg) ?_) hpre
  simp [go_sem, PIn, PR.row]
theorem c83_63 (p : PR) (A3 : Option Addr) (c3 : Nat) (A4 : Option Addr) (c4 : Nat) (gw : Nat) (pre bad : TL → Bool) (w : World) (hp : p.At w A3 c3 A4 c4)
    (hA : Asks 63 w.heap.size w p A3 c3 A4 c4 pre bad) (hpre : ∀ x, x ∈ p.ths → pre x = true) (hg : w.cell? ⟨gw, 0, none⟩ = some (.func (.func 63) #[] #[])) :
    Calls Tryz.prog 83 #[p.cells A3 c3 A4 c4, .pointer (some ⟨gw, 0, none⟩)] w fun e w' => Tells w (p.ths.any bad) e w' := by
  have B := below_alloc (Below.refl w.heap.size w) (p.row A3 c3 A4 c4)
  have hgl := World.block_lt_of_cell? w _ hg
  refine c83_any p A3 c3 A4 c4 gw pre bad w hp (c85_63 _ _ (Nat.le_refl _) p A3 c3 A4 c4 pre bad gw w.heap.size (fun W t ls n pd ps pe d pl hb => hA W t ls n pd ps pe d pl (below_step B hb)) (Nat.lt_of_lt_of_le hgl B.size) (by simp [go_sem]) (kept_cell B hg) ?_) hpre
  simp [go_sem, PIn, PR.row]
set_option maxHeartbeats 1000000 in
theorem whole0_any (fb : Bool) (p : PR) (A3 : Option Addr) (c3 : Nat) (A4 : Option Addr) (c4 : Nat) (g : Nat) (w : World) (h : p.At w A3 c3 A4 c4)
    (hF : ∀ W, p.At W A3 c3 A4 c4 → Calls Tryz.prog 37 #[p.cells A3 c3 A4 c4] W fun e w' => e = .returned (.bool fb) ∧ Below W.heap.size W w') (hg : w.cell? ⟨g, 0, none⟩ = some (.func (.func 37) #[] #[])) :
    Calls Tryz.prog 77 #[p.cells A3 c3 A4 c4, .pointer (some ⟨g, 0, none⟩)] w fun e w' => e = .returned (.tuple #[.int .i64 (-1), .bool (!fb)]) ∧ Below w.heap.size w w' := by
  have B := below_alloc (Below.refl w.heap.size w) (.cells #[.string p.name, .int .i64 p.width, .int .i64 p.line, .slice A3 p.decls.length c3, .slice A4 p.body.length c4] 25)
  replace hg := kept_cell B hg
  have cS := Aside0.mk (hF _ (At_below h B))
  have BB := Aside0.mk B
  clear B hF h
  unfold PR.cells at *
  go_enter Tryz.func77, Tryz.ntmps77
  go_wp2_with (go_at_call 37; refine cS.out.mono ?_; rintro e w' ⟨rfl, hb⟩)
  go_ret2
  exact ⟨rfl, below_step BB.out hb⟩
/-- is a clause violated? -/
def clB (fb : Bool) (p : PR) : Nat → Bool
  | 0 => !fb
  | 1 => !(decide (4 ≤ p.width) && powB p.width 64)
  | 2 => !powB p.line 256
  | 3 => !(decide ((p.decls.length : Int) ≤ 256))
  | 4 => anyB (fun i => (findI (p.decls.take i) (rd_T38 p.decls i).f1).isSome) p.decls.length
  | 5 => anyB (fun i => !decide ((rd_T38 p.decls i).f2 = 0) && !powB (rd_T38 p.decls i).f2 256) p.decls.length
  | 6 => anyB (fun i => decide ((rd_T38 p.decls i).f0 = 3) && !decide (((rd_T38 p.decls i).f3.length : Int) = (rd_T38 p.decls i).f2)) p.decls.length
  | 7 => anyB (fun i => unfitB p.width (rd_T38 p.decls i).f3) p.decls.length
  | 8 => !(decide (inW p.decls ≤ 4096))
  | 9 => p.ths.any fun x => badDeep x.1
  | 10 => p.ths.any fun x => badUnknown p x.1 x.2
  | 11 => p.ths.any fun x => badKind p x.1 x.2
  | 12 => p.ths.any fun x => badRange p x.1
  | 13 => p.ths.any fun x => badBounds p x.1
  | 14 => p.ths.any fun x => badLoop p x.1 x.2
  | 15 => !(decide (S52.sizs 0 p.body ≤ 65536))
  | _ => false
theorem cl_any (fb : Bool) (p : PR) (A3 : Option Addr) (c3 : Nat) (A4 : Option Addr) (c4 : Nat) (g : Nat) (w : World) (hp : p.At w A3 c3 A4 c4) (hf : p.fits)
    (hF : ∀ W, p.At W A3 c3 A4 c4 → Calls Tryz.prog 37 #[p.cells A3 c3 A4 c4] W fun e w' => e = .returned (.bool fb) ∧ Below W.heap.size W w') (i : Nat) (hi : i < 16) (hpast : ∀ j, j < i → clB fb p j = false)
    (hg : w.cell? ⟨g, 0, none⟩ = some (.func (.func (clN i)) #[] #[])) :
    Calls Tryz.prog (fnN i) #[p.cells A3 c3 A4 c4, .pointer (some ⟨g, 0, none⟩)] w fun e w' => Tells w (clB fb p i) e w' := by
  have hll : (p.decls.length : Int) ≤ 9223372036854775807 := by have := hp.2.1.2.1; omega
  have hwd : 2 ≤ i → 0 ≤ p.width := fun h2 => by
    have := hpast 1 (by omega)
    simp [clB] at this
    omega
  match i, hi with
  | 0, _ => exact (whole0_any fb p A3 c3 A4 c4 g w hp hF hg).mono fun _ _ h => ⟨⟨_, h.1⟩, h.2⟩
  | 1, _ => exact (whole1_any p A3 c3 A4 c4 g w hg).mono fun _ _ h => ⟨⟨_, h.1⟩, h.2⟩
  | 2, _ => exact (whole2_any p A3 c3 A4 c4 g w hg).mono fun _ _ h => ⟨⟨_, h.1⟩, h.2⟩
  | 3, _ => exact (whole3_any p A3 c3 A4 c4 g w hg).mono fun _ _ h => ⟨⟨_, h.1⟩, h.2⟩
  | 4, _ => exact decl4_any p A3 c3 A4 c4 g w hll _ (fun W i hb hlt => c4_any p A3 c3 A4 c4 i W (At_below hp hb) hlt) hg
  | 5, _ => exact decl5_any p A3 c3 A4 c4 g w hll _ (fun W i hb hlt => c5_any p A3 c3 A4 c4 i W (At_below hp hb) hlt) hg
  | 6, _ => exact decl6_any p A3 c3 A4 c4 g w hll _ (fun W i hb hlt => c6_any p A3 c3 A4 c4 i W (At_below hp hb) hlt) hg
  | 7, _ => exact decl7_any p A3 c3 A4 c4 g w hll _ (fun W i hb hlt => c7_any p A3 c3 A4 c4 i W (At_below hp hb) hlt (hwd (by omega)) hf.1) hg
  | 8, _ => exact (whole8_any p A3 c3 A4 c4 g w hp hg).mono fun _ _ h => ⟨⟨_, h.1⟩, h.2⟩
  | 9, _ => exact c83_54 p A3 c3 A4 c4 g (fun _ => true) (fun x => badDeep x.1) w hp (fun W t ls n pd ps pe d pl hb _ ht hl => c9_any p A3 c3 A4 c4 t n pd ps pe d pl W ht) (fun _ _ => rfl) hg
  | 10, _ => exact c83_56 p A3 c3 A4 c4 g (fun _ => true) (fun x => badUnknown p x.1 x.2) w hp (fun W t ls n pd ps pe d pl hb _ ht hl => c10_any p A3 c3 A4 c4 t ls n pd ps pe d pl W (At_below hp hb) ht hl) (fun _ _ => rfl) hg
  | 11, _ =>
    have h11 : ∀ x, x ∈ p.ths → (fun x : TL => !badUnknown p x.1 x.2) x = true := fun x hx => by
      have := hpast 10 (by omega)
      simp only [clB, List.any_eq_false] at this
      simpa using this x hx
    exact c83_59 p A3 c3 A4 c4 g (fun x => !badUnknown p x.1 x.2) (fun x => badKind p x.1 x.2) w hp (fun W t ls n pd ps pe d pl hb hpr ht hl => c11_any p A3 c3 A4 c4 t ls n pd ps pe d pl W (At_below hp hb) ht hl (by simpa using hpr)) h11 hg
  | 12, _ => exact c83_61 p A3 c3 A4 c4 g (fun _ => true) (fun x => badRange p x.1) w hp (fun W t ls n pd ps pe d pl hb _ ht hl => c12_any p A3 c3 A4 c4 t n pd ps pe d pl W ht (hwd (by omega)) hf.1) (fun _ _ => rfl) hg
  | 13, _ => exact c83_62 p A3 c3 A4 c4 g (fun _ => true) (fun x => badBounds p x.1) w hp (fun W t ls n pd ps pe d pl hb _ ht hl => c13_any p A3 c3 A4 c4 t n pd ps pe d pl W ht (hwd (by omega)) hf.1) (fun _ _ => rfl) hg
  | 14, _ => exact c83_63 p A3 c3 A4 c4 g (fun _ => true) (fun x => badLoop p x.1 x.2) w hp (fun W t ls n pd ps pe d pl hb _ ht hl => c14_any p A3 c3 A4 c4 t ls n pd ps pe d pl W (At_below hp hb) ht hl) (fun _ _ => rfl) hg
  | 15, _ => exact (whole15_any p A3 c3 A4 c4 g w hp hf.2.2.2 hg).mono fun _ _ h => ⟨⟨_, h.1⟩, h.2⟩
  | n + 16, h => exact absurd h (by omega)
end Go.Proofs.YtjomofepephodaaGreat.PEquivShapes
namespace Go.Proofs.YtjomofepephodaaGreat.PEquivShapes
open Go.RowKit
open Go.Proofs.YtjomofepephodaaGreatW.PrintWords Go.Proofs.YtjomofepephodaaGreatW.PrintLast Go.Proofs.YtjomofepephodaaGreatW.PrintMore
theorem fnN_cases (i : Nat) (hi : i < 16) : fnN i = 77 ∨ fnN i = 81 ∨ fnN i = 83 := by
  have : ∀ j : Fin 16, fnN j.1 = 77 ∨ fnN j.1 = 81 ∨ fnN j.1 = 83 := by decide
  exact this ⟨i, hi⟩
theorem erN_ne (i : Nat) (hi : i < 16) : erN i ≠ 0 := by
  have : ∀ j : Fin 16, erN j.1 ≠ 0 := by decide
  exact this ⟨i, hi⟩
/-- is a program right? -/
def wfB (fb : Bool) (p : PR) : Prop := ∀ i, i < 16 → clB fb p i = false
set_option maxHeartbeats 4000000 in
set_option maxRecDepth 100000 in
theorem fault_any (fb : Bool) (p : PR) (A3 : Option Addr) (c3 : Nat) (A4 : Option Addr) (c4 : Nat) (w : World) (hp : p.At w A3 c3 A4 c4) (hf : p.fits)
    (hF : ∀ W, p.At W A3 c3 A4 c4 → Calls Tryz.prog 37 #[p.cells A3 c3 A4 c4] W fun e w' => e = .returned (.bool fb) ∧ Below W.heap.size W w') :
    Calls Tryz.prog 25 #[p.cells A3 c3 A4 c4] w fun e w' => (∃ a b c : Int, e = .returned (.tuple #[.int .i64 a, .int .i64 b, .int .i64 c]) ∧ (c = 0 ↔ wfB fb p)) ∧ Below w.heap.size w w' := by
  have hu := Tryz.underlying61
  have B1 := below_alloc (Below.refl w.heap.size w) (p.row A3 c3 A4 c4)
  obtain ⟨w1, hw1⟩ : ∃ w1, w.alloc (p.row A3 c3 A4 c4) = w1 := ⟨_, rfl⟩
  have pi : PIn w1 w.heap.size p A3 c3 A4 c4 := by rw [← hw1]; simp [go_sem, PIn, PR.row]
  rw [hw1] at B1
  have B2 := cwEnd_below w1
  have hcl := cwEnd_at w1
  have HCC := Aside0.mk (clauses_any w1)
  obtain ⟨w2, hw2⟩ : ∃ w2, cwEnd w1 = w2 := ⟨_, rfl⟩
  rw [hw2] at B2 hcl HCC
  have hgp : w.heap.size < w1.heap.size := by rw [← hw1]; simp [go_sem]
  replace pi := pi.kept B2 hgp
  obtain ⟨n, hn⟩ : ∃ n, w1.heap.size = n := ⟨_, rfl⟩
  rw [hn] at hcl HCC
  obtain ⟨ad, had⟩ : ∃ ad : Addr, (⟨n + 16, 0, none⟩ : Addr) = ad := ⟨_, rfl⟩
  rw [had] at HCC
  have hpw := At_below hp (below_step B1 B2)
  have HQ : Aside0 (∀ i, i < 16 → (∀ j, j < i → clB fb p j = false) → ∀ W, Below w2.heap.size w2 W → Calls Tryz.prog (fnN i) #[.agg #[.string p.name, .int .i64 p.width, .int .i64 p.line, .slice A3 p.decls.length c3, .slice A4 p.body.length c4], .pointer (some ⟨n + i, 0, none⟩)] W fun e w' => Tells W (clB fb p i) e w') :=
    ⟨fun i hi hpast W hW => cl_any fb p A3 c3 A4 c4 (n + i) W (At_below hpw hW) hf hF i hi hpast (kept_cell hW (hcl i hi).2.2)⟩
  have HX : Aside0 (∀ i, i < 16 → ∀ W, Below w2.heap.size w2 W → W.cell? (ad.add (i * 2)) = some (.int .i64 (erN i)) ∧ W.cell? ⟨(ad.add (i * 2)).block, (ad.add (i * 2)).off + 1, none⟩ = some (.func (.func (fnN i)) #[] #[.pointer (some ⟨n + i, 0, none⟩)])) := ⟨fun i hi W hW => by
    rw [← had, add_plain]
    have := hcl i hi
    rw [Nat.mul_comm 2 i] at this
    exact ⟨kept_cell hW this.1, kept_cell hW this.2.1⟩⟩
  have HPI : Aside0 (∀ W, Below w2.heap.size w2 W → PIn W w.heap.size p A3 c3 A4 c4) := ⟨fun W hW => pi.kept hW (by have := B2.size; omega)⟩
  have BB := Aside0.mk (below_step B1 B2)
  have HW1 := Aside0.mk hw1
  clear hp hf hF B1 pi hw1 B2 hcl hw2 hgp hn had hpw
  unfold PR.cells
  unfold PR.row at HW1
  go_enter Tryz.func25, Tryz.ntmps25
  go_upto_region 1 with (fail)
  try rw [HW1.out]
  go_wp2_with (go_at_call 28; refine HCC.out.mono ?_; rintro e w' ⟨rfl, rfl⟩)
  go_loopg [11] (16) (fun m v11 wr => ∃ i : Nat, v11 = .int .i64 i ∧ m = 16 - i ∧ i ≤ 16 ∧ (∀ j, j < i → clB fb p j = false) ∧ Below w'.heap.size w' wr)
  case atStart => exact ⟨0, rfl, rfl, by omega, fun j h => absurd h (by omega), Below.refl _ _⟩
  case round =>
    obtain ⟨i, rfl, rfl, hi, hs0, R⟩ := hrel
    have HS0 := Aside0.mk hs0
    clear hs0
    by_cases hlt : i < 16
    · have hlt' : (i : Int) < 16 := by omega
      have HC := HQ.out i hlt HS0.out
      obtain ⟨x0, x1⟩ := HX.out i hlt wr R
      obtain ⟨y0, y1, y2, y3, y4⟩ := HPI.out wr R
      have HE := Aside0.mk (erN_ne i hlt)
      have HL : Aside0 (clB fb p i = true → ¬ wfB fb p) := ⟨fun h hw => by have := hw i hlt; rw [h] at this; cases this⟩
      have HN : Aside0 (clB fb p i = false → ∀ j, j < i + 1 → clB fb p j = false) := ⟨fun h j hj => by
        by_cases hji : j < i
        · exact HS0.out j hji
        · obtain rfl : j = i := by omega
          exact h⟩
      generalize erN i = er at *
      have RR := Aside0.mk R
      have HCL := Aside0.mk (below_alloc R (.cells #[.int .i64 er, .func (.func (fnN i)) #[] #[.pointer (some ⟨n + i, 0, none⟩)]] 65))
      obtain ⟨W3, hW3⟩ : ∃ W3, wr.alloc (.cells #[.int .i64 er, .func (.func (fnN i)) #[] #[.pointer (some ⟨n + i, 0, none⟩)]] 65) = W3 := ⟨_, rfl⟩
      have v0 : W3.cell? ⟨wr.heap.size, 0, none⟩ = some (.int .i64 er) := by rw [← hW3]; simp [go_sem]
      rw [hW3] at HCL
      have HC1 := Aside0.mk (HC W3 HCL.out)
      have HW3 := Aside0.mk hW3
      clear R HC hW3
      have hfn := fnN_cases i hlt
      rcases hfn with hfn | hfn | hfn
      · rw [hfn] at x1 HC1 HW3
        clear hfn
        generalize clB fb p i = cb at *
        cases cb with
        | true =>
          go_upto_region 4 with (fail)
          try rw [HW3.out]
          obtain ⟨q0, q1, q2, q3, q4⟩ := HPI.out W3 HCL.out
          have v1 : W3.cell? ⟨wr.heap.size, 1, none⟩ = some (.func (.func 77) #[] #[.pointer (some ⟨n + i, 0, none⟩)]) := by rw [← HW3.out]; simp [go_sem]
          go_wp2_with (go_at_call 77; refine HC1.out.mono ?_; rintro e w4 ⟨⟨r, rfl⟩, hb⟩; have u0 := kept_cell hb v0; have HB4 := Aside0.mk (below_step HCL.out hb); clear hb)
          go_quiet (fail)
          go_wp2_with fail
          go_ret3
          exact ⟨⟨_, _, er, rfl, ⟨fun h => absurd h HE.out, fun h => absurd h (HL.out (by trivial))⟩⟩, pw_below_drewN (below_step BB.out HB4.out) _⟩
        | false =>
          go_upto_region 4 with (fail)
          try rw [HW3.out]
          obtain ⟨q0, q1, q2, q3, q4⟩ := HPI.out W3 HCL.out
          have v1 : W3.cell? ⟨wr.heap.size, 1, none⟩ = some (.func (.func 77) #[] #[.pointer (some ⟨n + i, 0, none⟩)]) := by rw [← HW3.out]; simp [go_sem]
          go_wp2_with (go_at_call 77; refine HC1.out.mono ?_; rintro e w4 ⟨⟨r, rfl⟩, hb⟩; have HB4 := Aside0.mk (below_step HCL.out hb); clear hb)
          go_roundg (16 - (i + 1))
          case measure => omega
          case rel => exact ⟨i + 1, by simp, rfl, by omega, HN.out (by trivial), HB4.out⟩
      · rw [hfn] at x1 HC1 HW3
        clear hfn
        generalize clB fb p i = cb at *
        cases cb with
        | true =>
          go_upto_region 4 with (fail)
          try rw [HW3.out]
          obtain ⟨q0, q1, q2, q3, q4⟩ := HPI.out W3 HCL.out
          have v1 : W3.cell? ⟨wr.heap.size, 1, none⟩ = some (.func (.func 81) #[] #[.pointer (some ⟨n + i, 0, none⟩)]) := by rw [← HW3.out]; simp [go_sem]
          go_wp2_with (go_at_call 81; refine HC1.out.mono ?_; rintro e w4 ⟨⟨r, rfl⟩, hb⟩; have u0 := kept_cell hb v0; have HB4 := Aside0.mk (below_step HCL.out hb); clear hb)
          go_quiet (fail)
          go_wp2_with fail
          go_ret3
          exact ⟨⟨_, _, er, rfl, ⟨fun h => absurd h HE.out, fun h => absurd h (HL.out (by trivial))⟩⟩, pw_below_drewN (below_step BB.out HB4.out) _⟩
        | false =>
          go_upto_region 4 with (fail)
          try rw [HW3.out]
          obtain ⟨q0, q1, q2, q3, q4⟩ := HPI.out W3 HCL.out
          have v1 : W3.cell? ⟨wr.heap.size, 1, none⟩ = some (.func (.func 81) #[] #[.pointer (some ⟨n + i, 0, none⟩)]) := by rw [← HW3.out]; simp [go_sem]
          go_wp2_with (go_at_call 81; refine HC1.out.mono ?_; rintro e w4 ⟨⟨r, rfl⟩, hb⟩; have HB4 := Aside0.mk (below_step HCL.out hb); clear hb)
          go_roundg (16 - (i + 1))
          case measure => omega
          case rel => exact ⟨i + 1, by simp, rfl, by omega, HN.out (by trivial), HB4.out⟩
      · rw [hfn] at x1 HC1 HW3
        clear hfn
        generalize clB fb p i = cb at *
        cases cb with
        | true =>
          go_upto_region 4 with (fail)
          try rw [HW3.out]
          obtain ⟨q0, q1, q2, q3, q4⟩ := HPI.out W3 HCL.out
          have v1 : W3.cell? ⟨wr.heap.size, 1, none⟩ = some (.func (.func 83) #[] #[.pointer (some ⟨n + i, 0, none⟩)]) := by rw [← HW3.out]; simp [go_sem]
          go_wp2_with (go_at_call 83; refine HC1.out.mono ?_; rintro e w4 ⟨⟨r, rfl⟩, hb⟩; have u0 := kept_cell hb v0; have HB4 := Aside0.mk (below_step HCL.out hb); clear hb)
          go_quiet (fail)
          go_wp2_with fail
          go_ret3
          exact ⟨⟨_, _, er, rfl, ⟨fun h => absurd h HE.out, fun h => absurd h (HL.out (by trivial))⟩⟩, pw_below_drewN (below_step BB.out HB4.out) _⟩
        | false =>
          go_upto_region 4 with (fail)
          try rw [HW3.out]
          obtain ⟨q0, q1, q2, q3, q4⟩ := HPI.out W3 HCL.out
          have v1 : W3.cell? ⟨wr.heap.size, 1, none⟩ = some (.func (.func 83) #[] #[.pointer (some ⟨n + i, 0, none⟩)]) := by rw [← HW3.out]; simp [go_sem]
          go_wp2_with (go_at_call 83; refine HC1.out.mono ?_; rintro e w4 ⟨⟨r, rfl⟩, hb⟩; have HB4 := Aside0.mk (below_step HCL.out hb); clear hb)
          go_roundg (16 - (i + 1))
          case measure => omega
          case rel => exact ⟨i + 1, by simp, rfl, by omega, HN.out (by trivial), HB4.out⟩
    · have hie : i = 16 := by omega
      subst hie
      have RR := Aside0.mk R
      clear R
      go_wp2_with fail
      go_ret3
      exact ⟨⟨0, 0, 0, rfl, ⟨fun _ => HS0.out, fun _ => rfl⟩⟩, below_step BB.out RR.out⟩
set_option maxHeartbeats 1000000 in
theorem check_any (fb : Bool) (p : PR) (A3 : Option Addr) (c3 : Nat) (A4 : Option Addr) (c4 : Nat) (w : World) (hp : p.At w A3 c3 A4 c4) (hf : p.fits)
    (hF : ∀ W, p.At W A3 c3 A4 c4 → Calls Tryz.prog 37 #[p.cells A3 c3 A4 c4] W fun e w' => e = .returned (.bool fb) ∧ Below W.heap.size W w') :
    Calls Tryz.prog 17 #[p.cells A3 c3 A4 c4] w fun e w' => (∃ c : Int, e = .returned (.int .i64 c) ∧ (c = 0 ↔ wfB fb p)) ∧ Below w.heap.size w w' := by
  have B := below_alloc (Below.refl w.heap.size w) (p.row A3 c3 A4 c4)
  have HC := Aside0.mk (fault_any fb p A3 c3 A4 c4 _ (At_below hp B) hf hF)
  have BB := Aside0.mk B
  clear B hp hf hF
  unfold PR.row at HC BB
  unfold PR.cells at *
  go_enter Tryz.func17, Tryz.ntmps17
  go_wp2_with (go_at_call 25; refine HC.out.mono ?_; rintro e w' ⟨⟨a, b, c, rfl, hc⟩, hb⟩; have HH := Aside0.mk hc; clear hc)
  go_ret
  exact ⟨⟨c, rfl, HH.out⟩, below_step BB.out hb⟩
end Go.Proofs.YtjomofepephodaaGreat.PEquivShapes
