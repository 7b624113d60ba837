/-
  From a walk over a number and a script whose numbers fit to the statement's own form. Conditions: those each theorem names.
-/
import Derived.Test.YtaileihnkmjfiaaU1
namespace Go.Proofs.Ytaileihnkmjfiaa
open Go.ChangeShapes Go.WideShapes Go.ChangeAt Go.RowKit Go.Deep

/-- a call's numbers are ints -/
def OpFits (o : OpD) : Prop := o.num ≤ 9223372036854775807 ∧ ∀ l, l ∈ o.lits → l ≤ 9223372036854775807

section
variable {H : Type} {enc : TypeId × Value → H} {w : World} {base : Nat} {spare : Nat → Bool} {held : Bool}

theorem int_fits {n : Int} (h : (Lit.int .i64 n).wf = true) : n ≤ 9223372036854775807 := by
  have hm : IntKind.i64.max = 9223372036854775807 := rfl
  simp [Lit.wf] at h
  omega

theorem intsAt_fits {fuel : Nat} {c0 : Value} {x : DataW H × List MemPlace} (h : DataW.trod enc Try.prog w base spare held fuel 28 [c0] = some x) {c : List Int} (hc : IntsAt w c0 c) : ∀ l, l ∈ c → l ≤ 9223372036854775807 := by
  intro l hl
  obtain ⟨j, hj, rfl⟩ := mem_getD (0 : Int) hl
  obtain ⟨ao, cap', e1, _, _, h4⟩ := hc
  obtain ⟨cb, co, e2, h5⟩ := h4 (by omega)
  have h6 := h5 j hj
  rcases open_ints Try.underlying28 Try.underlying3 Try.cells3 h with ⟨hc, rfl⟩ | ⟨a, len, cap, zs, hc, _, hll, hm, hz, rfl, hcell, hwf⟩
  · simp only [List.cons.injEq, and_true] at hc
    rw [e1] at hc
    simp only [Value.slice.injEq] at hc
    omega
  · simp only [List.cons.injEq, and_true] at hc
    rw [e1, e2] at hc
    simp only [Value.slice.injEq, Option.some.injEq] at hc
    obtain ⟨rfl, rfl, rfl⟩ := hc
    have hjz : j < zs.length := by rw [hz]; split <;> omega
    have h7 := hcell j hjz
    rw [Addr.add_lit, h6] at h7
    simp only [Option.some.injEq, Value.int.injEq, true_and] at h7
    rw [h7]
    exact int_fits (hwf _ (getD_mem' 0 hjz))

theorem op_fits {fuel : Nat} {cs : List Value} {x : DataW H × List MemPlace} (h : DataW.trod enc Try.prog w base spare held fuel 33 cs = some x) {k m : Int} {v : Value} {c : List Int} (hcs : cs = [i64 k, i64 m, v]) (hc : IntsAt w v c) : OpFits ⟨k, m, c⟩ := by
  obtain ⟨y0, y1, y2, n, rfl, hl, h0, h1, h2⟩ := trod_struct3 Try.underlying33 h
  subst hcs
  simp only [Try.cells3, Try.cells28'] at h0 h1 h2
  obtain ⟨m', e1, _, w1⟩ := DataW.trod_int Try.underlying3 h1
  simp at e1
  subst e1
  exact ⟨int_fits w1, intsAt_fits (c0 := v) (by simpa using h2) hc⟩

theorem scr_fits {fuel : Nat} {c0 : Value} {x : DataW H × List MemPlace} (h : DataW.trod enc Try.prog w base spare held fuel 22 [c0] = some x) {ops : List OpD} (hs : ScrAt w c0 ops) : ∀ o, o ∈ ops → OpFits o := by
  intro o ho
  obtain ⟨i, hi, he⟩ := List.getElem_of_mem ho
  have hio : ops[i]? = some o := by rw [List.getElem?_eq_getElem hi, he]
  obtain ⟨ao, cap', e1, _, _, h4⟩ := hs
  obtain ⟨sb, so, e2, h5⟩ := h4 (by omega)
  obtain ⟨q0, q1, lv, q2, hl⟩ := h5 i hi o hio
  rcases open_slice Try.underlying22 h with ⟨hc, rfl⟩ | ⟨a, len, cap, m, n, D, Pl, hc, _, hll, hm, hmm, rfl, hall⟩
  · simp only [List.cons.injEq, and_true] at hc
    rw [e1] at hc
    simp only [Value.slice.injEq] at hc
    omega
  · simp only [List.cons.injEq, and_true] at hc
    rw [e1, e2] at hc
    simp only [Value.slice.injEq, Option.some.injEq] at hc
    obtain ⟨rfl, rfl, rfl⟩ := hc
    rw [Try.cells33] at hall
    obtain ⟨cs', h1, h2⟩ := hall i (by rw [hmm]; split <;> omega)
    have hlen := (World.cells?_some h1).2.1
    have hcell := (World.cells?_some h1).2.2
    have hadd : ∀ j, ((({ block := sb, off := so } : Addr).add (i * 3)).add j) = ⟨sb, so + 3 * i + j, none⟩ := by
      intro j
      simp only [Addr.add_lit]
      congr 1
      omega
    match cs', hlen with
    | [c0, c1, c2], _ =>
      have a0 := hcell 0 (by omega)
      have a1 := hcell 1 (by omega)
      have a2 := hcell 2 (by omega)
      rw [hadd] at a0 a1 a2
      rw [show so + 3 * i + 0 = so + 3 * i by omega, q0] at a0
      rw [q1] at a1
      rw [q2] at a2
      simp at a0 a1 a2
      subst a0; subst a1; subst a2
      exact op_fits h2 rfl hl

/-- what the walk must give, of a script whose numbers fit -/
def WalkedF (f : FuncId) : Prop := ∀ (v : Int) (ops : List OpD) (a : Value) (w : World), ScrAt w a ops → (∀ o, o ∈ ops → OpFits o) → weigh ops ≤ 1048576 → Calls Try.prog f #[i64 v, a] w fun e w' => e = .returned (.bool true) ∧ Below w.heap.size w w'

theorem contract3 {f : FuncId} (hw : WalkedF f) {fn : Func} {s : ChangeSpec} (hp : fn.params = #[3, 22]) (hrt : fn.resultTypes = #[4]) (hvars : s.vars = [])
    (hfn : ∀ d1 d2 : DataW H, s.fn H [d1, d2] = { results := [.lit (.bool true)], args := [d1, d2] })
    (W : World) (base : Nat) (args : Array Value) (ds gs : List (DataW H)) (before : List MemPlace)
    (hval : ∀ (j : Nat) t v, fn.params[j]? = some t → args[j]? = some v → Value.okWide Try.prog W .any base t v)
    (hW : DataW.Whole enc Try.prog fn.params.toList s.vars false W args.toList ds gs before) (hk : Rows.uptoSmall H (ds ++ gs) = true) :
    Calls Try.prog f args W fun e W' => ∃ v, e = .returned v ∧ s.post enc Try.prog fn false true false false W args v W' := by
  have hW' := hW
  obtain ⟨p, q, hA0, hV, rfl, hfz, hnd⟩ := hW
  have hA : DataW.TrodAll enc Try.prog W 0 (fun _ => true) true fn.params.toList args.toList ds p := hA0
  rw [hp] at hA hval
  obtain ⟨v0, vs0, d0, ds0, p0, q0, hargs, rfl, rfl, h0, r0⟩ := trodAll_cons hA
  obtain ⟨v1, vs1, d1, ds1, p1, q1, rfl, rfl, rfl, h1, r1⟩ := trodAll_cons r0
  obtain ⟨rfl, rfl, rfl⟩ := trodAll_nil r1
  obtain rfl : args = #[v0, v1] := by cases args; simp_all
  rw [hvars] at hV
  obtain ⟨rfl, rfl⟩ := trodVars_none hV
  obtain ⟨a, rfl, rfl, rfl, wa⟩ := open_int Try.underlying3 (hval 0 3 v0 rfl rfl) h0
  obtain ⟨a0, len, cap, rfl⟩ := okWide_slice Try.underlying22 (hval 1 22 v1 rfl rfl)
  have h1k := h1
  obtain ⟨n, hn⟩ := h1
  obtain ⟨ops, hS, hb⟩ := scrAt_of (c0 := .slice a0 len cap) hn
  have hF := scr_fits (c0 := .slice a0 len cap) hn hS
  simp only at hb
  have hbk : Rows.uptoBulkAll ([DataW.lit (.int .i64 a), d1] ++ ([] : List (DataW H))) ≤ 1048576 := of_decide_eq_true hk
  simp only [List.append_nil, Rows.uptoBulkAll] at hbk
  have hlt : ∀ x ∈ p1, x.block < W.heap.size := fun x hx => hW'.lt x (by simpa using hx)
  clear hA0
  refine (hw a ops _ W hS hF (by omega)).mono fun e W' ⟨he, hbl⟩ => ?_
  subst he
  refine ⟨_, rfl, ?_⟩
  have hW2 := hW'
  simp only [List.append_nil] at hW2
  refine post_of_below (pa := p1) (pv := []) hW2 (fun _ _ _ => ?_) (fun sp hsp => ?_) (fun sp _ => ?_) (by simp) hbl (ok_one (by rw [hrt]) rfl (okWide_bool_mk Try.underlying4 _))
  · simp only [List.cons_append, List.nil_append]
    rw [hfn, hrt]
    exact trodAll_mk1 (shut_bool Try.underlying4 _)
  · simp only [List.cons_append, List.nil_append]
    rw [hfn, hp]
    exact trodAll_cons_mk (p := []) (shut_int Try.underlying3 wa) (trodAll_mk1 (reads_again Try.laidOut (by kernel_rfl) (of_decide_eq_true (by kernel_rfl)) h1k hbl hlt (fun x hx => hsp x (by simpa using hx))))
  · simp only [List.cons_append, List.nil_append]
    rw [hfn, hvars]
    rfl
end
end Go.Proofs.Ytaileihnkmjfiaa
