/-
  Lists that the statements look through: has, one. Conditions: those each theorem names.
-/
import Derived.Test.YtaileihnkmjfiaaD2
namespace Go.Proofs.Ytaileihnkmjfiaa
open Go.RowKit

theorem IntsAt.drewN {w : World} {v : Value} {c : List Int} (h : IntsAt w v c) (k : Nat) : IntsAt (w.drewN k) v c := h
theorem IntsAt.below {w w' : World} {v : Value} {c : List Int} (h : IntsAt w v c) (hb : Below w.heap.size w w') : IntsAt w' v c := by
  obtain ⟨ao, cap, h1, h2, h3, h4⟩ := h
  refine ⟨ao, cap, h1, h2, h3, fun h0 => ?_⟩
  obtain ⟨cb, co, e, h5⟩ := h4 h0
  exact ⟨cb, co, e, fun j hj => (hb.cell (p := ⟨cb, co + j, none⟩) (World.block_lt_of_cell? w _ (h5 j hj))).trans (h5 j hj)⟩
theorem IntsAt.nil (w : World) : IntsAt w (.slice none 0 0) [] := ⟨none, 0, rfl, Nat.le_refl _, Nat.zero_le _, fun h => absurd h (Nat.lt_irrefl 0)⟩
/-- a row reads as its list -/
theorem Rw.reads {w : World} {d : RD} {c : List Int} (h : Rw w 3 1 d) (hn : d.n = c.length) (hx : d.xs = ints c) : IntsAt w d.v c := by
  refine ⟨_, d.cap, by unfold RD.v sv; rw [hn], hn ▸ h.le, h.max, fun h0 => ?_⟩
  obtain ⟨g, hg⟩ := h.isome (by omega)
  refine ⟨g, 0, by rw [hg]; rfl, fun j hj => ?_⟩
  rw [Nat.zero_add]
  exact h.cellv hg (by rw [hx]; simp [ints, List.getD, hj])

/-- a list of lists -/
def RowsAt (w : World) (v : Value) (L : List (List Int)) : Prop :=
  ∃ ao cap, v = .slice ao L.length cap ∧ L.length ≤ cap ∧ cap ≤ maxLen ∧ (0 < L.length → ∃ cb, ao = some ⟨cb, 0, none⟩ ∧ ∀ j, j < L.length → ∃ lv, w.cell? ⟨cb, j, none⟩ = some lv ∧ IntsAt w lv (L.getD j []))
theorem RowsAt.drewN {w : World} {v : Value} {L : List (List Int)} (h : RowsAt w v L) (k : Nat) : RowsAt (w.drewN k) v L := h

/-- the book's clauses read -/
theorem Ob.reads {T sz T2 sz2 : Nat} {w : World} {b : Nat} {G : GH} {mk : Value → Value → List Value} {L : List (List Int)} {n2 : Nat} {xs2 : List Value} (h : Ob T sz T2 sz2 w b G mk L n2 xs2) :
    RowsAt w (sv (G.g (.inl 1)) L.length (G.c (.inl 1))) L := by
  refine ⟨_, _, rfl, h.row1.le, h.row1.max, fun h0 => ?_⟩
  obtain ⟨g, hg⟩ := h.l1 h0
  exact ⟨g, by rw [hg]; rfl, fun j hj => ⟨_, h.e1 hg hj, (h.rowk j).reads rfl rfl⟩⟩

theorem has_take (c : List Int) (n : Int) (k : Nat) (hk : k < c.length) (h : n ∉ c.take k) : (n ∈ c.take (k + 1)) ↔ c.getD k 0 = n := by
  rw [List.take_succ_eq_append_getElem hk, List.mem_append, List.mem_singleton]
  simp [List.getD, hk, h, eq_comm]

set_option maxHeartbeats 1000000 in
theorem has_any (v : Value) (c : List Int) (n : Int) (w : World) (h : IntsAt w v c) :
    Calls Try.prog 29 #[v, i64 n] w fun e w' => e = .returned (.bool (decide (n ∈ c))) ∧ w = w' := by
  obtain ⟨ao, cap, rfl, h2, h3, h4⟩ := h
  unfold maxLen at h3
  have H4 := Lib.hid h4
  clear h4
  go_enter Try.func29, Try.ntmps29
  go_wp2_with fail
  go_loop [5] (fun s5 => ∃ k : Nat, k ≤ c.length ∧ s5 = .int .i64 (k : Nat) ∧ Hid (n ∉ c.take k)) (fun s5 => c.length - (intOf s5).toNat)
  case atStart => exact ⟨0, Nat.zero_le _, rfl, by show _ ∉ _; simp⟩
  case round =>
    obtain ⟨k, hk, rfl, Hn⟩ := hrel
    by_cases hlt : k < c.length
    · obtain ⟨cb, co, rfl, hc⟩ := H4.out (by omega)
      have e := hc k hlt
      have hlt' : (k : Int) < (c.length : Int) := by omega
      have hst := has_take c n k hlt Hn.out
      have Hc := Lib.hid hc
      by_cases he : c.getD k 0 = n
      · have HT : Hid (decide (n ∈ c) = true) := by
          show _ = _
          simp only [decide_eq_true_eq]
          exact List.mem_of_mem_take (hst.2 he)
        rw [he] at e
        clear hc hst he
        go_wp2_with fail
        go_ret
        exact ⟨by rw [HT.out]; rfl, rfl⟩
      · have HN : Hid (n ∉ c.take (k + 1)) := fun hm => he (hst.1 hm)
        have hb : (c.getD k 0 == n) = false := by simpa using he
        generalize c.getD k 0 = x at *
        clear hc hst he
        go_wp2_with fail
        go_round
        case rel => exact ⟨k + 1, by omega, by go_num, HN⟩
        case measure => simp [intOf]; omega
    · obtain rfl : k = c.length := by omega
      have hlt' : ¬ ((c.length : Int) < (c.length : Int)) := by omega
      have HF : Hid (decide (n ∈ c) = false) := by
        show _ = _
        have := Hn.out
        rw [List.take_length] at this
        simpa using this
      go_wp2_with fail
      go_ret
      exact ⟨by rw [HF.out]; rfl, rfl⟩

/-- a world that only drew -/
def Drawn (w w' : World) : Prop := ∃ m, w' = w.drewN m
theorem Drawn.refl (w : World) : Drawn w w := ⟨0, rfl⟩
theorem Drawn.on {w w' : World} (h : Drawn w w') (k : Nat) : Drawn w (w'.drewN k) := by
  obtain ⟨m, rfl⟩ := h
  exact ⟨m + k, (World.drewN_drewN w m k)⟩
theorem Drawn.trans {a b c : World} (h : Drawn a b) (k : Drawn b c) : Drawn a c := by
  obtain ⟨m, rfl⟩ := k
  exact h.on m
theorem Drawn.ints {w w' : World} (h : Drawn w w') {v : Value} {c : List Int} (hi : IntsAt w v c) : IntsAt w' v c := by
  obtain ⟨m, rfl⟩ := h
  exact hi.drewN m
theorem Drawn.rows {w w' : World} (h : Drawn w w') {v : Value} {L : List (List Int)} (hi : RowsAt w v L) : RowsAt w' v L := by
  obtain ⟨m, rfl⟩ := h
  exact hi.drewN m
theorem quiet_d {P : Program} {f : FuncId} {args : Array Value} {w : World} {n : Nat} {v : Value}
    (h : Calls P f args (w.drewN n) fun e w' => e = .returned v ∧ Drawn (w.drewN n) w') : Calls P f args (w.drewN n) fun e w'' => e = .returned v ∧ ∃ m, w'' = w.drewN m :=
  h.mono fun _ _ ⟨he, hm⟩ => ⟨he, by obtain ⟨m, rfl⟩ := hm; exact ⟨n + m, World.drewN_drewN w n m⟩⟩

def eqB (d c : List Int) : Bool := c.all (fun x => decide (x ∈ d)) && d.all (fun x => decide (x ∈ c))
def oneB (L : List (List Int)) (c : List Int) : Bool := L.any fun d => eqB d c

theorem all_take {p : Int → Bool} (c : List Int) (k : Nat) (hk : k < c.length) : (c.take (k + 1)).all p = ((c.take k).all p && p (c.getD k 0)) := by
  rw [List.take_succ_eq_append_getElem hk, List.all_append]
  simp [List.getD, hk]
theorem any_take {p : List Int → Bool} (L : List (List Int)) (k : Nat) (hk : k < L.length) : (L.take (k + 1)).any p = ((L.take k).any p || p (L.getD k [])) := by
  rw [List.take_succ_eq_append_getElem hk, List.any_append]
  simp [List.getD, hk]
theorem any_take_le {p : List Int → Bool} (L : List (List Int)) (k : Nat) (h : (L.take k).any p = true) : L.any p = true := by
  rw [List.any_eq_true] at h ⊢
  obtain ⟨x, h1, h2⟩ := h
  exact ⟨x, List.mem_of_mem_take h1, h2⟩

set_option maxHeartbeats 4000000 in
set_option maxRecDepth 100000 in
theorem one_any (v v2 : Value) (L : List (List Int)) (c : List Int) (w : World) (h : RowsAt w v L) (h2 : IntsAt w v2 c) :
    Calls Try.prog 32 #[v, v2] w fun e w' => e = .returned (.bool (oneB L c)) ∧ Drawn w w' := by
  obtain ⟨ao, cap, rfl, l2, l3, l4⟩ := h
  obtain ⟨bo, cap2, rfl, k2, k3, k4⟩ := h2
  unfold maxLen at l3 k3
  have hV2 : IntsAt w (.slice bo c.length cap2) c := ⟨bo, cap2, rfl, k2, k3, k4⟩
  have HV2 := Lib.hid hV2
  have L4 := Lib.hid l4
  have K4 := Lib.hid k4
  clear l4 k4 hV2
  go_enter Try.func32, Try.ntmps32
  go_wp2_with fail
  go_loopg [5] L.length (fun gm s5 wr => ∃ i : Nat, gm = L.length - i ∧ i ≤ L.length ∧ s5 = .int .i64 (i : Nat) ∧ Drawn w wr ∧ Hid ((L.take i).any (fun d => eqB d c) = false))
  case atStart => exact ⟨0, rfl, Nat.zero_le _, rfl, Drawn.refl _, by show _ = _; simp⟩
  case round =>
    obtain ⟨i, rfl, hi, rfl, Dr, Hn⟩ := hrel
    by_cases hlt : i < L.length
    · obtain ⟨cb, rfl, hc⟩ := L4.out (by omega)
      obtain ⟨lv, e1, hI⟩ := hc i hlt
      obtain ⟨do_, dcap, rfl, d2, d3, d4⟩ := hI
      unfold maxLen at d3
      have hI : IntsAt w (.slice do_ (L.getD i []).length dcap) (L.getD i []) := ⟨do_, dcap, rfl, d2, d3, d4⟩
      have hlt' : (i : Int) < (L.length : Int) := by omega
      have hat := any_take (p := fun d => eqB d c) L i hlt
      rw [Hn.out, Bool.false_or] at hat
      have HI := Lib.hid hI
      have D4 := Lib.hid d4
      have Hc := Lib.hid hc
      have Hlt := Lib.hid hlt
      generalize L.getD i [] = d at *
      have Hat := Lib.hid hat
      clear hc hI d4 hat hlt Hn
      have e1r : wr.cell? ⟨cb, i, none⟩ = some (.slice do_ d.length dcap) := by obtain ⟨m, rfl⟩ := Dr; exact e1
      have E1 := Lib.hid e1
      clear e1
      go_wp2_with fail
      go_loopg [6, 7] c.length (fun gm s6 s7 wx => ∃ k : Nat, gm = c.length - k ∧ k ≤ c.length ∧ s7 = .int .i64 (k : Nat) ∧ s6 = .bool ((c.take k).all fun x => decide (x ∈ d)) ∧ Drawn w wx)
      case atStart => exact ⟨0, rfl, Nat.zero_le _, rfl, by simp, Dr⟩
      case round =>
        obtain ⟨k, rfl, hk, rfl, rfl, Dx⟩ := hrel
        by_cases hkl : k < c.length
        · obtain ⟨gb, go, rfl, hcc⟩ := K4.out (by omega)
          have hkl' : (k : Int) < (c.length : Int) := by omega
          have ex : wr.cell? ⟨gb, go + k, none⟩ = some (i64 (c.getD k 0)) := by obtain ⟨m, rfl⟩ := Dx; exact hcc k hkl
          have e1x : wr.cell? ⟨cb, i, none⟩ = some (.slice do_ d.length dcap) := by obtain ⟨m, rfl⟩ := Dx; exact E1.out
          have cH := fun n => quiet_l (has_any _ d (c.getD k 0) (wr.drewN n) ((Dx.ints HI.out).drewN n))
          have Hnx := Lib.hid (all_take (p := fun x => decide (x ∈ d)) c k hkl)
          have Dn := Lib.hid (fun n => Dx.on n)
          have Hkl := Lib.hid hkl
          have Hcc := Lib.hid hcc
          generalize c.getD k 0 = x at *
          generalize ((c.take k).all fun x => decide (x ∈ d)) = sm at *
          have HDx := Lib.hid Dx
          clear hcc Dx
          cases sm with
          | true =>
            go_wp2_with fail
            go_quiet ((go_at_call 29; exact cH _))
            go_wp2_with fail
            go_roundg (c.length - (k + 1))
            case measure => have := Hkl.out; omega
            case rel => exact ⟨k + 1, rfl, by have := Hkl.out; omega, by go_num, by rw [Hnx.out]; simp, Dn.out _⟩
          | false =>
            go_wp2_with fail
            go_quiet (fail)
            go_wp2_with fail
            go_roundg (c.length - (k + 1))
            case measure => have := Hkl.out; omega
            case rel => exact ⟨k + 1, rfl, by have := Hkl.out; omega, by go_num, by rw [Hnx.out]; simp, Dn.out _⟩
        · obtain rfl : k = c.length := by omega
          have hkl' : ¬ ((c.length : Int) < (c.length : Int)) := by omega
          have Hs : Hid ((c.take c.length).all (fun x => decide (x ∈ d)) = c.all (fun x => decide (x ∈ d))) := by show _ = _; rw [List.take_length]
          generalize hsa : (c.take c.length).all (fun x => decide (x ∈ d)) = sa at *
          have e1x : wr.cell? ⟨cb, i, none⟩ = some (.slice do_ d.length dcap) := by obtain ⟨m, rfl⟩ := Dx; exact E1.out
          have Hd := Lib.hid Dx
          clear Dx hsa e1r Dr
          go_wp2_with fail
          go_loopg [6, 8] d.length (fun gm s6 s8 wx => ∃ k : Nat, gm = d.length - k ∧ k ≤ d.length ∧ s8 = .int .i64 (k : Nat) ∧ s6 = .bool (sa && (d.take k).all fun x => decide (x ∈ c)) ∧ Drawn w wx)
          case atStart => exact ⟨0, rfl, Nat.zero_le _, rfl, by simp, Hd.out⟩
          case round =>
            obtain ⟨k, rfl, hk, rfl, rfl, Dx⟩ := hrel
            clear e1x
            have e1x : wr.cell? ⟨cb, i, none⟩ = some (.slice do_ d.length dcap) := by obtain ⟨m, rfl⟩ := Dx; exact E1.out
            by_cases hkl : k < d.length
            · obtain ⟨gb, go, rfl, hcc⟩ := D4.out (by omega)
              have hkl' : (k : Int) < (d.length : Int) := by omega
              have ex : wr.cell? ⟨gb, go + k, none⟩ = some (i64 (d.getD k 0)) := by obtain ⟨m, rfl⟩ := Dx; exact hcc k hkl
              have cH := has_any _ c (d.getD k 0) wr (Dx.ints HV2.out)
              have Hnx := Lib.hid (all_take (p := fun x => decide (x ∈ c)) d k hkl)
              have Hkl := Lib.hid hkl
              have Hcc := Lib.hid hcc
              generalize d.getD k 0 = x at *
              generalize ((d.take k).all fun x => decide (x ∈ c)) = sm at *
              have HDx := Lib.hid Dx
              clear hcc Dx
              cases hsm : (sa && sm) with
              | true =>
                obtain ⟨rfl, rfl⟩ : sa = true ∧ sm = true := by simpa using hsm
                clear hsm
                go_wp2_with (go_at_call 29; refine cH.mono ?_; rintro e w' ⟨rfl, rfl⟩)
                go_roundg (d.length - (k + 1))
                case measure => have := Hkl.out; omega
                case rel => exact ⟨k + 1, rfl, by have := Hkl.out; omega, by go_num, by rw [Hnx.out]; simp, HDx.out⟩
              | false =>
                have hn : (sa && ((d.take (k + 1)).all fun x => decide (x ∈ c))) = false := by
                  rw [Hnx.out, ← Bool.and_assoc, hsm]; rfl
                have Hn2 := Lib.hid hn
                clear hsm hn
                go_wp2_with fail
                go_roundg (d.length - (k + 1))
                case measure => have := Hkl.out; omega
                case rel => exact ⟨k + 1, rfl, by have := Hkl.out; omega, by go_num, by rw [Hn2.out], HDx.out⟩
            · obtain rfl : k = d.length := by omega
              have hkl' : ¬ ((d.length : Int) < (d.length : Int)) := by omega
              have He : Hid (eqB d c = (sa && (d.take d.length).all fun x => decide (x ∈ c))) := by show _ = _; unfold eqB; rw [List.take_length, Hs.out]
              generalize (sa && (d.take d.length).all fun x => decide (x ∈ c)) = sm at *
              have HDx := Lib.hid Dx
              clear Dx
              cases sm with
              | true =>
                have HT : Hid (oneB L c = true) := by
                  show _ = _
                  exact any_take_le L (i + 1) (Hat.out.trans He.out)
                go_wp2_with fail
                go_ret
                exact ⟨by rw [HT.out]; rfl, HDx.out⟩
              | false =>
                have HN := Lib.hid (Hat.out.trans He.out)
                go_wp2_with fail
                go_roundg (L.length - (i + 1))
                case measure => have := Hlt.out; omega
                case rel => exact ⟨i + 1, rfl, by have := Hlt.out; omega, by go_num, HDx.out, HN⟩
    · obtain rfl : i = L.length := by omega
      have hlt' : ¬ ((L.length : Int) < (L.length : Int)) := by omega
      have HF : Hid (oneB L c = false) := by
        show _ = _
        have := Hn.out
        rw [List.take_length] at this
        exact this
      have HDr := Lib.hid Dr
      clear Dr
      go_wp2_with fail
      go_ret
      exact ⟨by rw [HF.out]; rfl, HDr.out⟩
end Go.Proofs.Ytaileihnkmjfiaa
