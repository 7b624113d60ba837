/-
  PropMakes: for every number, New of the program and of the document agree on the error and on nil, and a new engine tells level 0, its number of variables and no clause. Conditions: none.
-/
import Derived.Test.YtaileihnkmjfiaaT12
import Derived.ProofKit
import Derived.Below
import Derived.ChangeSame
namespace Go.Proofs.Ytaileihnkmjfiaa
open Go.ChangeShapes Go.WideShapes Go.ChangeAt Go.RowKit

theorem new_bad (v : Int) (w : World) (hv : v < 0 ∨ 1048576 < v) : Calls Try.prog 33 #[i64 v] w fun e w' => e = .returned (.tuple #[.pointer none, .int .i64 21]) ∧ w = w' := by
  by_cases h1 : v < 0
  · go_enter Try.func33, Try.ntmps33
    go_wp2
    go_ret2
    exact ⟨rfl, rfl⟩
  · have h2 : 1048576 < v := by omega
    go_enter Try.func33, Try.ntmps33
    go_wp2
    go_ret2
    exact ⟨rfl, rfl⟩

theorem rnew_bad (v : Int) (w : World) (hv : v < 0 ∨ 1048576 < v) : Calls Try.prog 40 #[i64 v] w fun e w' => e = .returned (.tuple #[.pointer none, .int .i64 21]) ∧ w = w' := by
  by_cases h1 : v < 0
  · go_enter Try.func40, Try.ntmps40
    go_wp2
    go_ret2
    exact ⟨rfl, rfl⟩
  · have h2 : 1048576 < v := by omega
    go_enter Try.func40, Try.ntmps40
    go_wp2
    go_ret2
    exact ⟨rfl, rfl⟩

theorem rnew_any (v : Int) (w : World) (hv : 0 ≤ v ∧ v ≤ 1048576) : Calls Try.prog 40 #[i64 v] w fun e w' => e = .returned (.tuple #[.pointer (some ⟨w.heap.size, 0, none⟩), .int .i64 0]) ∧ w' = w.alloc (.cells #[i64 v, .int .i64 0, .int .i64 0, .slice none 0 0, .slice none 0 0, .bool false] 50) := by
  obtain ⟨h1, h2⟩ := hv
  go_enter Try.func40, Try.ntmps40
  go_wp2
  go_ret2
  exact ⟨rfl, rfl⟩

theorem both_bad (v : Int) (w : World) (hv : v < 0 ∨ 1048576 < v) : Calls Try.prog 21 #[i64 v] w fun e w' => e = .returned (.tuple #[.pointer none, .pointer none, .bool true]) ∧ w = w' := by
  have c1 := fun w => new_bad v w hv
  have c2 := fun w => rnew_bad v w hv
  clear hv
  go_enter Try.func21, Try.ntmps21
  go_wp2_with (first | (go_at_call 33; refine (c1 _).mono ?_; rintro e w' ⟨rfl, rfl⟩) | (go_at_call 40; refine (c2 _).mono ?_; rintro e w' ⟨rfl, rfl⟩))
  go_ret3
  exact ⟨rfl, rfl⟩

theorem both_any (v : Int) (w : World) (hv : 0 ≤ v ∧ v ≤ 1048576) : Calls Try.prog 21 #[i64 v] w fun e w' => ∃ b G rb, e = .returned (.tuple #[.pointer (some ⟨b, 0, none⟩), .pointer (some ⟨rb, 0, none⟩), .bool true]) ∧
    Eng w' b G (ES.new v.toNat) ∧ w'.heap[rb]? = some (.cells #[i64 v, .int .i64 0, .int .i64 0, .slice none 0 0, .slice none 0 0, .bool false] 50 (0, 0)) ∧ Below w.heap.size w w' ∧ (∀ x, ft G x → w.heap.size ≤ x) ∧ w.heap.size ≤ rb ∧ ¬ ft G rb := by
  have c1 := fun w => new_any v w hv
  have c2 := fun w => rnew_any v w hv
  clear hv
  go_enter Try.func21, Try.ntmps21
  go_wp2_with (go_at_call 33; refine (c1 _).mono ?_; rintro e w1 ⟨b, G, rfl, E, hb, hft⟩)
  go_wp2_with (go_at_call 40; refine (c2 _).mono ?_; rintro e w' ⟨rfl, rfl⟩)
  go_ret3
  exact ⟨b, G, w1.heap.size, rfl, E.alloc _, heap_alloc_new w1 _, hb.alloc hb.size _, hft, hb.size, fun hf => by have := E.flt hf; omega⟩

set_option maxHeartbeats 2000000 in
theorem step6_new (v : Int) (b rb : Nat) (G : GH) (w : World) (hv : 0 ≤ v ∧ v ≤ 1048576) (h : Eng w b G (ES.new v.toNat)) (hr : w.heap[rb]? = some (.cells #[i64 v, .int .i64 0, .int .i64 0, .slice none 0 0, .slice none 0 0, .bool false] 50 (0, 0))) :
    Calls Try.prog 22 #[.pointer (some ⟨b, 0, none⟩), .pointer (some ⟨rb, 0, none⟩), .agg #[.int .i64 6, .int .i64 0, .slice none 0 0]] w fun e w' => e = .returned (.bool true) ∧ Below w.heap.size w w' := by
  have hrl : rb < w.heap.size := (Array.getElem?_eq_some_iff.1 hr).1
  have r0 := cell_of_row w rb 0 _ _ _ hr
  have r1 := cell_of_row w rb 1 _ _ _ hr
  have r3 := cell_of_row w rb 3 _ _ _ hr
  simp at r0 r1 r3
  have E1 := h.alloc (.cells #[.int .i64 6, .int .i64 0, .slice none 0 0] 33)
  have c47 := fun n => quiet_l (level_any b G _ _ (E1.drewN (k := n)))
  have c48 := fun n => quiet_l (vars_any b G _ _ (E1.drewN (k := n)))
  have c49 := fun n => quiet_l (clauses_any b G _ _ (E1.drewN (k := n)))
  have hvn : (((ES.new v.toNat).n : Nat) : Int) = v := by simp [ES.new]; omega
  rw [hvn] at c48
  change ∀ n, Calls Try.prog 47 _ _ fun e w'' => e = .returned (.int .i64 0) ∧ _ at c47
  change ∀ n, Calls Try.prog 49 _ _ fun e w'' => e = .returned (.int .i64 0) ∧ _ at c49
  clear hvn h hr
  go_enter Try.func22, Try.ntmps22
  go_wp2_with fail
  go_quiet ((first | (go_at_call 47; exact c47 _) | (go_at_call 48; exact c48 _) | (go_at_call 49; exact c49 _)))
  go_wp2
  go_ret
  exact ⟨rfl, bdrewN ((Below.refl _ _).alloc (Nat.le_refl _) _)⟩

theorem makes_any (v : Int) (w : World) : Calls Try.prog 5 #[i64 v] w fun e w' => e = .returned (.bool true) ∧ Below w.heap.size w w' := by
  by_cases hv : 0 ≤ v ∧ v ≤ 1048576
  · have c1 := both_any v w hv
    go_enter Try.func5, Try.ntmps5
    go_wp2_with (go_at_call 21; refine c1.mono ?_; rintro e w1 ⟨b, G, rb, rfl, E, hr, hb, _, _, _⟩)
    go_wp2_with (go_at_call 22; refine (step6_new v b rb G w1 hv E hr).mono ?_; rintro e w2 ⟨rfl, hb2⟩)
    go_ret
    exact ⟨rfl, hb.trans (hb2.mono hb.size)⟩
  · have c1 := both_bad v w (by omega)
    clear hv
    go_enter Try.func5, Try.ntmps5
    go_wp2_with (go_at_call 21; refine c1.mono ?_; rintro e w1 ⟨rfl, rfl⟩)
    go_ret
    exact ⟨rfl, Below.refl _ _⟩

section
variable {H : Type} {enc : TypeId × Value → H} {P : Program}
theorem post_of_below {f : Func} {s : ChangeSpec} {apart fresh handsOn again : Bool} {W W' : World} {args : Array Value} {v : Value} {ds gs : List (DataW H)} {before pa pv : List MemPlace}
    (hW : DataW.Whole enc P f.params.toList s.vars apart W args.toList ds gs before)
    (hres : ∀ (b : Nat) (sp : Nat → Bool) (hd : Bool), DataW.TrodAll enc P W' b sp hd f.resultTypes.toList (v.resultList f.resultTypes.size) (s.fn H (ds ++ gs)).results [])
    (hargs : ∀ sp : Nat → Bool, (∀ p ∈ before, sp p.block = true) → DataW.TrodAll enc P W' 0 sp true f.params.toList args.toList (s.fn H (ds ++ gs)).args pa)
    (hvars : ∀ sp : Nat → Bool, (∀ p ∈ before, sp p.block = true) → DataW.TrodVars enc P W' sp s.vars (s.fn H (ds ++ gs)).vars pv)
    (hps : before = pa ++ pv) (hb : Below W.heap.size W W')
    (hok : ∀ (j : Nat) (t : TypeId) (r : Value), f.resultTypes[j]? = some t → (v.resultList f.resultTypes.size)[j]? = some r → Value.okWide P W' .any 0 t r) :
    s.post enc P f apart fresh handsOn again W args v W' := by
  have hlt : ∀ p ∈ before, p.block < W.heap.size := fun p hp => hW.lt p hp
  have hold : ∀ p ∈ before, (fun b => decide (b < W.heap.size)) p.block = true := fun p hp => by simpa using hlt p hp
  refine ⟨ds, gs, before, [], pa, pv, hW, hres _ _ _, hargs _ hold, hvars _ hold, World.keptBut_mono (fun p hp => ⟨hp, ?_⟩) (hb.frame (· ∈ before)), fun _ => ?_⟩
  · rw [hps, List.mem_append] at hp
    exact Or.inr hp
  · obtain ⟨_, _, _, _, _, hz, hn⟩ := hW
    refine ⟨hok, _, _, ([] ++ pa) ++ pv, ⟨[] ++ pa, pv, trodAll_append (hargs _ (fun _ _ => rfl)) (hres _ _ _), hvars _ (fun _ _ => rfl), rfl, ?_, ?_⟩, ?_⟩
    · intro b off hp
      have hin : MemPlace.cell b off ∈ before := by rw [hps]; simpa using hp
      rw [hb.frozen (hlt _ hin)]
      exact hz b off hin
    · intro ha
      have := hn ha
      rw [hps] at this
      simpa using this
    · intro p hp _
      rw [hps]
      simpa using hp
end

theorem Try.own : ownKnob Try.prog.godebug = none := by kernel_rfl
theorem Try.laidOut : laidOutB Try.prog = true := by kernel_rfl

set_option maxRecDepth 100000 in
theorem makes_lifted (os : Os) (started : os.Started) (H : Type) (enc : TypeId × Value → H) :
    ReturnsInHanded {} Try.checked os 5 .any (Rows.propMakesSpec.pre6 enc Try.prog Try.f5 Rows.propMakesRow.domain false) (Rows.propMakesSpec.post enc Try.prog Try.f5 false true false false) := by
  refine returnsInHanded_of_change (C := Try.checked) Try.own started (by kernel_rfl) Try.func5
    (ChangeSpec.witness6 (enc := enc) (C := Try.checked) false ⟨#[], #[.int .i64 0], []⟩ 8 (by kernel_rfl) (by kernel_rfl) (by kernel_rfl) (by kernel_rfl)) ?_
  intro W base args ds gs before hval0 hW hcnd _
  have hval : ∀ (j : Nat) t v, Try.f5.params[j]? = some t → args[j]? = some v → Value.okWide Try.prog W .any base t v := hval0
  have hW' := hW
  obtain ⟨p, q, hA0, hV, rfl, hfz, hnd⟩ := hW
  have hA : DataW.TrodAll enc Try.prog W 0 (fun _ => true) true Try.f5.params.toList args.toList ds p := hA0
  rw [Try.params5] at hA hval
  obtain ⟨v0, vs0, d0, ds0, p0, q0, hargs, rfl, rfl, h0, r0⟩ := trodAll_cons hA
  obtain ⟨rfl, rfl, rfl⟩ := trodAll_nil r0
  obtain rfl : args = #[v0] := by cases args; simp_all
  obtain ⟨rfl, rfl⟩ := trodVars_none hV
  obtain ⟨a, rfl, rfl, rfl, wa⟩ := open_int Try.underlying3 (hval 0 3 v0 rfl rfl) h0
  clear hA0 hval0
  simp only [List.append_nil] at hW'
  refine (makes_any a W).mono fun e W' ⟨he, hb⟩ => ?_
  subst he
  exact ⟨_, rfl, post_of_below (pa := []) (pv := []) hW' (fun _ _ _ => trodAll_mk1 (shut_bool Try.underlying4 _)) (fun _ _ => trodAll_mk1 (shut_int Try.underlying3 wa)) (fun _ _ => rfl) rfl hb (ok_one (by kernel_rfl) rfl (okWide_bool_mk Try.underlying4 _))⟩

theorem makes_holds : Rows.PropMakesSaid :=
  OpenClaim.holds_of_wide 5 Try.f5 rfl rfl rfl rfl rfl rfl rfl ⟨rfl, rfl, rfl, rfl, rfl⟩ rfl rfl rfl rfl rfl (by kernel_rfl) Try.func5 (by kernel_rfl)
    (of_decide_eq_true (by kernel_rfl)) (by unfold Func.isWrapper; first | (rw [if_pos (by decide +kernel)]; kernel_rfl) | (rw [if_neg (by decide +kernel)]; exact ⟨rfl, rfl⟩))
    (fun os started H enc _ => makes_lifted os started H enc)

#print axioms makes_holds
end Go.Proofs.Ytaileihnkmjfiaa
