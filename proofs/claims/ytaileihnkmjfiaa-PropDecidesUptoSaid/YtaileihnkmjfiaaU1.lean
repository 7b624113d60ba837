/-
  From a walk over a number and a script to the statement's own form. Conditions: those each theorem names.
-/
import Derived.Test.YtaileihnkmjfiaaS1
import Derived.Test.YtaileihnkmjfiaaMakes
import Derived.ProofKit
import Derived.OpenShut
import Derived.JoinedCond
import Derived.Carry
namespace Go.Proofs.Ytaileihnkmjfiaa
open Go.ChangeShapes Go.WideShapes Go.ChangeAt Go.RowKit

section
variable {H : Type} {enc : TypeId × Value → H}

/-- what came in reads as it did, whatever was made behind it -/
theorem reads_again {P : Program} {t : TypeId} (hl : laidOutB P = true) (hr : P.readableRec t = true) (hrow : t < P.types.size) {W W' : World} {sp : Nat → Bool} {v : Value} {d : DataW H} {ps : List MemPlace}
    (h : DataW.Trod enc P W 0 (fun _ => true) true t v d ps) (hb : Below W.heap.size W W') (hlt : ∀ x ∈ ps, x.block < W.heap.size) (hs : ∀ x ∈ ps, sp x.block = true) : DataW.Trod enc P W' 0 sp true t v d ps :=
  WideElems.Trod_stays hl hr hrow h (fun x hx => hb.same (hlt x hx)) hs

/-- what the walk must give: the two arguments opened, and what they weigh -/
def Walked (f : FuncId) : Prop := ∀ (v : Int) (ops : List OpD) (a : Value) (w : World), ScrAt w a ops → weigh ops ≤ 1048576 → Calls Try.prog f #[i64 v, a] w fun e w' => e = .returned (.bool true) ∧ Below w.heap.size w w'

theorem contract2 {f : FuncId} (hw : Walked f) {fn : Func} {s : ChangeSpec} (hp : fn.params = #[3, 22]) (hrt : fn.resultTypes = #[4]) (hvars : s.vars = [])
    (hfn : ∀ d1 d2 : DataW H, s.fn H [d1, d2] = { results := [.lit (.bool true)], args := [d1, d2] })
    (W : World) (base : Nat) (args : Array Value) (ds gs : List (DataW H)) (before : List MemPlace)
    (hval : ∀ (j : Nat) t v, fn.params[j]? = some t → args[j]? = some v → Value.okWide Try.prog W .any base t v)
    (hW : DataW.Whole enc Try.prog fn.params.toList s.vars false W args.toList ds gs before) (hk : Rows.uptoSmall H (ds ++ gs) = true) :
    Calls Try.prog f args W fun e W' => ∃ v, e = .returned v ∧ s.post enc Try.prog fn false true false false W args v W' := by
  have hW' := hW
  obtain ⟨p, q, hA0, hV, rfl, hfz, hnd⟩ := hW
  have hA : DataW.TrodAll enc Try.prog W 0 (fun _ => true) true fn.params.toList args.toList ds p := hA0
  rw [hp] at hA hval
  obtain ⟨v0, vs0, d0, ds0, p0, q0, hargs, rfl, rfl, h0, r0⟩ := trodAll_cons hA
  obtain ⟨v1, vs1, d1, ds1, p1, q1, rfl, rfl, rfl, h1, r1⟩ := trodAll_cons r0
  obtain ⟨rfl, rfl, rfl⟩ := trodAll_nil r1
  obtain rfl : args = #[v0, v1] := by cases args; simp_all
  rw [hvars] at hV
  obtain ⟨rfl, rfl⟩ := trodVars_none hV
  obtain ⟨a, rfl, rfl, rfl, wa⟩ := open_int Try.underlying3 (hval 0 3 v0 rfl rfl) h0
  obtain ⟨a0, len, cap, rfl⟩ := okWide_slice Try.underlying22 (hval 1 22 v1 rfl rfl)
  have h1k := h1
  obtain ⟨n, hn⟩ := h1
  obtain ⟨ops, hS, hb⟩ := scrAt_of (c0 := .slice a0 len cap) hn
  simp only at hb
  have hbk : Rows.uptoBulkAll ([DataW.lit (.int .i64 a), d1] ++ ([] : List (DataW H))) ≤ 1048576 := of_decide_eq_true hk
  simp only [List.append_nil, Rows.uptoBulkAll] at hbk
  have hlt : ∀ x ∈ p1, x.block < W.heap.size := fun x hx => hW'.lt x (by simpa using hx)
  clear hA0
  refine (hw a ops _ W hS (by omega)).mono fun e W' ⟨he, hbl⟩ => ?_
  subst he
  refine ⟨_, rfl, ?_⟩
  have hW2 := hW'
  simp only [List.append_nil] at hW2
  refine post_of_below (pa := p1) (pv := []) hW2 (fun _ _ _ => ?_) (fun sp hsp => ?_) (fun sp _ => ?_) (by simp) hbl (ok_one (by rw [hrt]) rfl (okWide_bool_mk Try.underlying4 _))
  · simp only [List.append_nil]
    rw [hfn, hrt]
    exact trodAll_mk1 (shut_bool Try.underlying4 _)
  · simp only [List.append_nil]
    rw [hfn, hp]
    exact trodAll_cons_mk (p := []) (shut_int Try.underlying3 wa) (trodAll_mk1 (reads_again Try.laidOut (by kernel_rfl) (of_decide_eq_true (by kernel_rfl)) h1k hbl hlt (fun x hx => hsp x (by simpa using hx))))
  · simp only [List.append_nil]
    rw [hfn, hvars]
    rfl
end
end Go.Proofs.Ytaileihnkmjfiaa
