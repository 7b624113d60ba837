/-
  The document's list of things: statements. Conditions: what each theorem names.
-/
import Derived.Deep.Upon
import Derived.Test.YtjomofepephodaaGreatGs
set_option linter.unusedVariables false
set_option linter.unusedSimpArgs false
namespace Go.Proofs.YtjomofepephodaaGreat.PEquivShapes
open Go.RowKit
open Go.Proofs.YtjomofepephodaaGreatW.PrintWords Go.Proofs.YtjomofepephodaaGreatW.PrintLast Go.Proofs.YtjomofepephodaaGreatW.PrintMore
/-- the things of a statement's expressions; the loops around its parts -/
def S52.exs (ls : List ByteArray) (s : S52) : List TL := if s.f0 = 2 then S50.ths ls s.f2 ++ S50.ths ls s.f3 else if s.f0 = 1 ∨ s.f0 = 3 then S50.ths ls s.f3 else []
def S52.lin (ls : List ByteArray) (s : S52) : List ByteArray := if s.f0 = 4 then s.f1 :: ls else ls
theorem S52.ths_form {s : S52} (hf : s.formB = true) (deep : Int) (ls : List ByteArray) : S52.ths deep ls s = [(.stmt s deep, ls)] ++ (S52.exs ls s ++ (S52.thss (wrap64 (deep + 1)) (S52.lin ls s) s.f6 ++ S52.thss (wrap64 (deep + 1)) (S52.lin ls s) s.f7)) := by
  obtain ⟨k, nm, a, e, lo, hi, t, u⟩ := s
  rw [S52.formB_eq] at hf
  simp only [Bool.and_eq_true, Bool.or_eq_true, decide_eq_true_eq] at hf
  obtain ⟨h1, h2, _, _, _, _, h6, h7, _⟩ := hf
  rw [S52.ths_eq]
  unfold S52.exs S52.lin
  dsimp only at h1 h2 h6 h7 ⊢
  have hu : k ≠ 3 → u = [] := fun h => List.eq_nil_of_length_eq_zero (h7.resolve_left h)
  have ht : k ≠ 3 → k ≠ 4 → t = [] := fun h h' => List.eq_nil_of_length_eq_zero (h6.resolve_left (by rintro (h3 | h3); exact h h3; exact h' h3))
  by_cases k2 : k = 2
  · subst k2
    rw [hu (by decide), ht (by decide) (by decide)]
    simp [S52.thss]
  by_cases k1 : k = 1
  · subst k1
    rw [hu (by decide), ht (by decide) (by decide)]
    simp [S52.thss]
  by_cases k3 : k = 3
  · subst k3
    simp
  by_cases k4 : k = 4
  · subst k4
    rw [hu (by decide)]
    simp [S52.thss]
  · rw [hu k3, ht k3 k4]
    simp [k1, k2, k3, k4, S52.thss]
theorem S52.thss_take (deep : Int) (ls : List ByteArray) {l : List S52} {i : Nat} (h : i < l.length) : S52.thss deep ls (l.take (i + 1)) = S52.thss deep ls (l.take i) ++ S52.ths deep ls (rd_T52 l i) := by
  have hd : rd_T52 l i = l[i] := by simp [rd_T52, h]
  rw [List.take_succ_eq_append_getElem h, S52.thss_eq, List.flatMap_append, ← S52.thss_eq, hd]
  simp
theorem S52.exs_len (ls : List ByteArray) (s : S52) : (S52.exs ls s).length ≤ s.f2.bulk + s.f3.bulk := by
  unfold S52.exs
  have h1 := S50.ths_len ls s.f2
  have h2 := S50.ths_len ls s.f3
  split
  · rw [List.length_append]; omega
  · split
    · omega
    · simp
mutual
theorem S52.ths_len (deep : Int) (ls : List ByteArray) : ∀ s : S52, (S52.ths deep ls s).length ≤ s.bulk
  | ⟨k, nm, a, e, lo, hi, t, u⟩ => by
    have h1 := S50.ths_len ls a
    have h2 := S50.ths_len ls e
    have h3 := S52.thss_len (wrap64 (deep + 1)) ls t
    have h4 := S52.thss_len (wrap64 (deep + 1)) ls u
    have h5 := S52.thss_len (wrap64 (deep + 1)) (nm :: ls) t
    rw [S52.ths, S52.bulk, List.length_cons]
    split
    · rw [List.length_append]; omega
    · split
      · omega
      · split
        · rw [List.length_append, List.length_append]; omega
        · split
          · omega
          · simp
theorem S52.thss_len (deep : Int) (ls : List ByteArray) : ∀ l : List S52, (S52.thss deep ls l).length ≤ S52.bulks l
  | [] => by simp [S52.thss, S52.bulks]
  | x :: r => by
    have h1 := S52.ths_len deep ls x
    have h2 := S52.thss_len deep ls r
    rw [S52.thss, S52.bulks, List.length_append]; omega
end
theorem sbulks_take (l : List S52) (i : Nat) : S52.bulks (l.take i) + S52.bulks (l.drop i) = S52.bulks l := by
  rw [S52.bulks_eq, S52.bulks_eq, S52.bulks_eq, ← List.sum_append, ← List.map_append, List.take_append_drop]
theorem stake_bulks (deep : Int) (ls : List ByteArray) {l : List S52} {i : Nat} (h : i < l.length) : (S52.thss deep ls (l.take i)).length + (rd_T52 l i).bulk ≤ S52.bulks l := by
  have h1 := S52.thss_len deep ls (l.take i)
  have h2 := sbulks_take l i
  have hd : rd_T52 l i = l[i] := by simp [rd_T52, h]
  rw [List.drop_eq_getElem_cons h, S52.bulks, ← hd] at h2
  omega
theorem forms_at {l : List S52} (h : S52.formsB l = true) {i : Nat} (hi : i < l.length) : (rd_T52 l i).formB = true := by
  have hd : rd_T52 l i = l[i] := by simp [rd_T52, hi]
  rw [S52.formsB_eq, List.all_eq_true] at h
  rw [hd]
  exact h _ (List.getElem_mem hi)
theorem forms_parts {s : S52} (h : s.formB = true) : S52.formsB s.f6 = true ∧ S52.formsB s.f7 = true := by
  rw [S52.formB_eq] at h
  simp only [Bool.and_eq_true] at h
  exact ⟨h.2.2.2.2.2.2.2.2.1, h.2.2.2.2.2.2.2.2.2⟩
/-- a statement's cells -/
def S52.row (s : S52) (A5 : Option Addr) (c5 : Nat) (A9 : Option Addr) (c9 : Nat) (A12 : Option Addr) (c12 : Nat) (A13 : Option Addr) (c13 : Nat) : Array Value :=
  #[.int .i64 s.f0, .string s.f1, .int .i64 s.f2.f0, .int .u64 s.f2.f1, .string s.f2.f2, .slice A5 s.f2.f3.length c5, .int .i64 s.f3.f0, .int .u64 s.f3.f1, .string s.f3.f2, .slice A9 s.f3.f3.length c9, .int .u64 s.f4, .int .u64 s.f5, .slice A12 s.f6.length c12, .slice A13 s.f7.length c13]
theorem box_of {w : World} {g : Nat} {s : S52} {A5 : Option Addr} {c5 : Nat} {A9 : Option Addr} {c9 : Nat} {A12 : Option Addr} {c12 : Nat} {A13 : Option Addr} {c13 : Nat} (h : w.heap[g]? = some (.cells (s.row A5 c5 A9 c9 A12 c12 A13 c13) 52 (0, 0))) : Box52 w g s.f0 s.f1 s.f2 A5 c5 s.f3 A9 c9 s.f4 s.f5 s.f6 A12 c12 s.f7 A13 c13 := by
  unfold Box52
  simp [World.cell?, h, S52.row]
/-- the names of the loops are copied -/
theorem step_names {ops : Array Oper} {o : Oper} {a : Act} {K : Act → World → Prop} {Q : Exit → Act → World → Prop} {E : Prop} {w : World} (hgd : o.guard = none) (s x : Operand) (ho : o.op = .call { callee := .builtin .append, args := #[s, x], argTypes := #[77, 77] })
    {ls : List ByteArray} {LA : Option Addr} {lc g0 base : Nat} (hs : a.eval s = .slice (some ⟨g0, 0, none⟩) 0 0) (hown : w.ownsRow base 9 1 (.slice (some ⟨g0, 0, none⟩) 0 0) 0 []) (hx : a.eval x = .slice LA ls.length lc) (hls : LsAt w LA lc ls) (hn : ls.length + 1 ≤ 4194304) (hb : base ≤ w.heap.size)
    (h : ∀ g cap w', w'.ownsRow base 9 1 (.slice (some ⟨g, 0, none⟩) ls.length cap) ls.length (ls.reverse.map Value.string) → w.grownBy w' (some g0) → K (a.put o.dst (.slice (some ⟨g, 0, none⟩) ls.length cap)) w') :
    if Region.wanted o (yielded ops a.tmps) = true then Oper.wp Tryz.prog o a w K Q else E := by
  obtain ⟨i0, hi, hz0, hz1, hz2⟩ := info_parts Tryz.info9
  obtain ⟨hlc, h2⟩ := hls
  rcases h2 with ⟨rfl, rfl, rfl⟩ | ⟨b, cur, hpos, rfl, hcur, htake⟩
  · have hw : Region.wanted o (yielded ops a.tmps) = true := by simp [Region.wanted, hgd]
    rw [if_pos hw]
    have hr := run_append_nothing (P := Tryz.prog) w 77 77 o.type 9 i0 Tryz.underlying77 hi (some ⟨g0, 0, none⟩) 0 0 (Nat.le_refl _) (.slice none 0 0) (Src.ofNil (P := Tryz.prog) w (size := i0.size) Tryz.underlying77 0)
    unfold Oper.wp execOp
    simp only [ho, resolve, invoke, builtin, Sem.run_bind, Sem.run_pure, Result.andThen_ok, List.map_toArray, List.map_cons, List.map_nil, hs, hx, List.length_nil, hr]
    exact h g0 0 w (by simpa using hown) ⟨rfl, rfl, rfl, Nat.le_refl _, fun _ _ _ => rfl⟩
  · refine step_append_lies w hgd s x 77 ho base 9 i0 _ 1 16 Tryz.underlying77 hi hz0 hz1 hz2 rfl (by decide) _ 0 [] hs hown ⟨b, 0, none⟩ ls.length lc (ls.reverse.map Value.string) hx (by simp) (fun j u hu => ?_) (by simp [Value.oneCell']) hpos (by unfold maxLen; omega) (by omega) hb _ rfl fun g cap w' k1 k2 _ _ => ?_
    · have hj : j < ls.length := by
        have := (List.getElem?_eq_some_iff.1 hu).1
        simpa using this
      rw [add_plain, cell_of_row w b j cur 9 (0, 0) hcur]
      rw [← htake, List.getElem?_take_of_lt hj] at hu
      simpa using hu
    · rw [Nat.zero_add] at k1 ⊢
      exact h g cap w' (by simpa using k1) k2
theorem ls_own {w : World} {base g cap : Nat} {ls : List ByteArray} {nm : ByteArray} (h : w.ownsRow base 9 1 (.slice (some ⟨g, 0, none⟩) (ls.length + 1) cap) (ls.length + 1) (ls.reverse.map Value.string ++ [.string nm])) : LsAt w (some ⟨g, 0, none⟩) cap (nm :: ls) := by
  rcases h.2 with ⟨h1, _⟩ | ⟨g', cap', cur, h1, _, h2, h3, _, _, h4⟩
  · cases h1
  · cases h1
    exact ⟨h3, .inr ⟨g, cur, by simp, rfl, h2, by simpa using h4⟩⟩
theorem StL.below {base : Nat} {w0 W w w' : World} {L : List TL} {v : Value} (h : StL base w0 W L v w) (hB : base ≤ w.heap.size) (hb : Below w.heap.size w w') : StL base w0 W L v w' := ⟨h.1.below hb, below_weaken' h.2.1 hB hb, h.2.2.trans (Grows.below hb)⟩
theorem two_a (w : World) (A B : Obj) : ((w.alloc A).alloc B).heap[w.heap.size + 1]? = some B := by
  show ((w.heap.push A).push B)[w.heap.size + 1]? = _
  have h : w.heap.size + 1 = (w.heap.push A).size := by simp
  rw [h, Array.getElem?_push_size]
theorem two_b (w : World) (A B : Obj) : ((w.alloc A).alloc B).heap[w.heap.size]? = some A := by
  show ((w.heap.push A).push B)[w.heap.size]? = _
  rw [Array.getElem?_push_lt (by simp), Array.getElem_push_eq]
theorem one_a (w : World) (A : Obj) : (w.alloc A).heap[w.heap.size]? = some A := by
  show (w.heap.push A)[w.heap.size]? = _
  simp
theorem keepN {w w' : World} {k g0 : Nat} {X : Obj} (hg : w.grownBy w' (some g0)) (h : w.heap[k]? = some X) (hn : k ≠ g0) : w'.heap[k]? = some X :=
  (hg.block k (Array.getElem?_eq_some_iff.1 h).1 (by simpa using hn)).trans h
set_option maxHeartbeats 8000000 in
set_option maxRecDepth 100000 in
theorem rstmts_any (w0 : World) (base : Nat) (hbase : base = w0.heap.size) (N : Nat) : ∀ (l : List S52) (A : Option Addr) (c : Nat) (deep : Int) (ls : List ByteArray) (LA : Option Addr) (lc : Nat) (v : Value) (L : List TL) (W : World), S52.bulks l ≤ N → S52.bulks l ≤ 1048576 → L.length + S52.bulks l ≤ 4194304 → ls.length + S52.bulks l ≤ 4194304 → S52.formsB l = true →
    k52.C w0 A l.length l → l.length ≤ c → ThL base w0 W v L → LsAt W LA lc ls → Below base w0 W →
    Calls Tryz.prog 71 #[v, .slice A l.length c, .int .i64 deep, .slice LA ls.length lc] W fun x W' => Adds base w0 W (L ++ S52.thss deep ls l) x W' := by
  induction N using Nat.strongRecOn with
  | _ N ih =>
  intro l A c deep ls LA lc v L W hN hN1 hlen hlsn hform hK hc hL hls hbw
  have hu := Tryz.underlying23
  have hll : (l.length : Int) ≤ 9223372036854775807 := by have := hK.2.1; omega
  have HBA := Aside0.mk hbase
  have HK := Aside0.mk hK
  have HL := Aside0.mk hL
  have HLs := Aside0.mk hls
  have IH := Aside0.mk ih
  have HNN : Aside0 (S52.bulks l ≤ N ∧ S52.bulks l ≤ 1048576 ∧ L.length + S52.bulks l ≤ 4194304 ∧ ls.length + S52.bulks l ≤ 4194304) := ⟨⟨hN, hN1, hlen, hlsn⟩⟩
  have HF := Aside0.mk hform
  have HST := Aside0.mk (show StL base w0 W L v W from ⟨hL, hbw, Grows.below (Below.refl _ _)⟩)
  clear hbase hL hls ih hN hN1 hlen hlsn hform hbw
  go_enter Tryz.func71, Tryz.ntmps71
  go_wp2_with fail
  go_loopg [0, 9] (l.length) (fun m v0 v9 wr => ∃ (i : Nat) (lv : Value), lv = v0 ∧ v9 = .int .i64 i ∧ m = l.length - i ∧ i ≤ l.length ∧ StL base w0 W (L ++ S52.thss deep ls (l.take i)) lv wr)
  case atStart => exact ⟨0, _, rfl, rfl, by omega, by omega, by simpa [S52.thss] using HST.out⟩
  case round =>
    obtain ⟨i, lv, rfl, rfl, rfl, hi, hst⟩ := hrel
    clear HST
    have HST := Aside0.mk hst
    clear hst
    by_cases hlt : i < l.length
    · obtain ⟨ad, A5, c5, A9, c9, A12, c12, A13, c13, rfl, x0, x1, x2, x3, x4, x5, x6, x7, x8, x9, x10, x11, x12, x13, l5, g5, l9, g9, l12, g12, l13, g13⟩ := at_T52 HK.out (i : Int) (by omega) (by omega)
      simp only [Int.toNat_natCast] at x0 x1 x2 x3 x4 x5 x6 x7 x8 x9 x10 x11 x12 x13
      obtain ⟨hn1, hn2, hn3, hn4⟩ := HNN.out
      have hbk := S52.bulk_in hlt
      have hbe := S52.bulk_eq (rd_T52 l i)
      have hsb := stake_bulks deep ls hlt
      have hstep := S52.thss_take deep ls hlt
      have hfs := forms_at HF.out hlt
      rw [S52.ths_form hfs] at hstep
      have hfp := forms_parts hfs
      have hexl := S52.exs_len ls (rd_T52 l i)
      have htl := S52.thss_len (wrap64 (deep + 1)) (S52.lin ls (rd_T52 l i)) (rd_T52 l i).f6
      have hlin : (S52.lin ls (rd_T52 l i)).length ≤ ls.length + 1 := by unfold S52.lin; split <;> simp
      have hlt' : (i : Int) < (l.length : Int) := by omega
      have hb0 := HST.out.2.1
      replace x0 := kept0 HBA.out hb0 x0
      replace x1 := kept0 HBA.out hb0 x1
      replace x2 := kept0 HBA.out hb0 x2
      replace x3 := kept0 HBA.out hb0 x3
      replace x4 := kept0 HBA.out hb0 x4
      replace x5 := kept0 HBA.out hb0 x5
      replace x6 := kept0 HBA.out hb0 x6
      replace x7 := kept0 HBA.out hb0 x7
      replace x8 := kept0 HBA.out hb0 x8
      replace x9 := kept0 HBA.out hb0 x9
      replace x10 := kept0 HBA.out hb0 x10
      replace x11 := kept0 HBA.out hb0 x11
      replace x12 := kept0 HBA.out hb0 x12
      replace x13 := kept0 HBA.out hb0 x13
      generalize rd_T52 l i = s at *
      have HN : Aside0 (L.length + (S52.thss deep ls (l.take i)).length + 1 + (S52.exs ls s).length + S52.bulks s.f6 + S52.bulks s.f7 ≤ 4194304 ∧ (S52.thss (wrap64 (deep + 1)) (S52.lin ls s) s.f6).length ≤ S52.bulks s.f6 ∧ s.f2.bulk ≤ 1048576 ∧ s.f3.bulk ≤ 1048576 ∧ L.length + (S52.thss deep ls (l.take i)).length + 1 + s.f2.bulk + s.f3.bulk ≤ 4194304 ∧ ls.length + 1 ≤ 4194304) := ⟨by refine ⟨?_, htl, ?_, ?_, ?_, ?_⟩ <;> omega⟩
      have HSub : Aside0 (S52.bulks s.f6 < N ∧ S52.bulks s.f7 < N ∧ S52.bulks s.f6 ≤ 1048576 ∧ S52.bulks s.f7 ≤ 1048576 ∧ (S52.lin ls s).length + S52.bulks s.f6 ≤ 4194304 ∧ (S52.lin ls s).length + S52.bulks s.f7 ≤ 4194304) := ⟨by refine ⟨?_, ?_, ?_, ?_, ?_, ?_⟩ <;> omega⟩
      have HT : Aside0 (∀ w v Lx LA lc, ThL base w0 w v Lx → Below base w0 w → LsAt w LA lc (S52.lin ls s) → Lx.length + S52.bulks s.f6 ≤ 4194304 → Calls Tryz.prog 71 #[v, .slice A12 s.f6.length c12, .int .i64 (wrap64 (deep + 1)), .slice LA (S52.lin ls s).length lc] w fun x w' => Adds base w0 w (Lx ++ S52.thss (wrap64 (deep + 1)) (S52.lin ls s) s.f6) x w') :=
        ⟨fun w v Lx LA lc h1 h2 h3 h4 => IH.out _ HSub.out.1 s.f6 A12 c12 _ _ LA lc v Lx w (Nat.le_refl _) HSub.out.2.2.1 h4 HSub.out.2.2.2.2.1 hfp.1 g12 l12 h1 h3 h2⟩
      have HU : Aside0 (∀ w v Lx LA lc, ThL base w0 w v Lx → Below base w0 w → LsAt w LA lc (S52.lin ls s) → Lx.length + S52.bulks s.f7 ≤ 4194304 → Calls Tryz.prog 71 #[v, .slice A13 s.f7.length c13, .int .i64 (wrap64 (deep + 1)), .slice LA (S52.lin ls s).length lc] w fun x w' => Adds base w0 w (Lx ++ S52.thss (wrap64 (deep + 1)) (S52.lin ls s) s.f7) x w') :=
        ⟨fun w v Lx LA lc h1 h2 h3 h4 => IH.out _ HSub.out.2.1 s.f7 A13 c13 _ _ LA lc v Lx w (Nat.le_refl _) HSub.out.2.2.2.1 h4 HSub.out.2.2.2.2.2 hfp.2 g13 l13 h1 h3 h2⟩
      have HE2 : Aside0 (∀ w v Lx, StL base w0 W Lx v w → Lx.length + s.f2.bulk ≤ 4194304 → Calls Tryz.prog 92 #[v, .agg #[.int .i64 s.f2.f0, .int .u64 s.f2.f1, .string s.f2.f2, .slice A5 s.f2.f3.length c5], .slice LA ls.length lc] w fun x w' => Adds base w0 w (Lx ++ S50.ths ls s.f2) x w') :=
        ⟨fun w v Lx h h1 => rexprs_any w0 base HBA.out s.f2.bulk HN.out.2.2.1 s.f2 A5 c5 ls LA lc v Lx w (Nat.le_refl _) h1 g5 l5 h.1 (HLs.out.grows h.2.2) h.2.1⟩
      have HE3 : Aside0 (∀ w v Lx, StL base w0 W Lx v w → Lx.length + s.f3.bulk ≤ 4194304 → Calls Tryz.prog 92 #[v, .agg #[.int .i64 s.f3.f0, .int .u64 s.f3.f1, .string s.f3.f2, .slice A9 s.f3.f3.length c9], .slice LA ls.length lc] w fun x w' => Adds base w0 w (Lx ++ S50.ths ls s.f3) x w') :=
        ⟨fun w v Lx h h1 => rexprs_any w0 base HBA.out s.f3.bulk HN.out.2.2.2.1 s.f3 A9 c9 ls LA lc v Lx w (Nat.le_refl _) h1 g9 l9 h.1 (HLs.out.grows h.2.2) h.2.1⟩
      have HThIn : Aside0 (∀ w, LsAt w LA lc ls → ThIn w0 w (.stmt s deep, ls) ([.int .i64 1, .int .i64 0] ++ [.int .i64 s.f0, .string s.f1, .int .i64 s.f2.f0, .int .u64 s.f2.f1, .string s.f2.f2, .slice A5 s.f2.f3.length c5, .int .i64 s.f3.f0, .int .u64 s.f3.f1, .string s.f3.f2, .slice A9 s.f3.f3.length c9, .int .u64 s.f4, .int .u64 s.f5, .slice A12 s.f6.length c12, .slice A13 s.f7.length c13] ++ zE ++ [.int .i64 deep, .slice LA ls.length lc])) :=
        ⟨fun w h => ⟨A5, c5, A9, c9, A12, c12, A13, c13, LA, lc, rfl, l5, g5, l9, g9, l12, g12, l13, g13, h⟩⟩
      have HStep := Aside0.mk hstep
      have HFs := Aside0.mk hfs
      clear hn1 hn2 hn3 hn4 hbk hbe hsb hstep hfs hfp hexl htl hlin hb0 l5 g5 l9 g9 l12 g12 l13 g13 IH
      obtain ⟨W2, hW2, B2, hbox⟩ := box52 wr s.f0 s.f1 s.f2 A5 c5 s.f3 A9 c9 s.f4 s.f5 s.f6 A12 c12 s.f7 A13 c13
      have hrow : W2.heap[wr.heap.size]? = some (.cells (s.row A5 c5 A9 c9 A12 c12 A13 c13) 52 (0, 0)) := by rw [← hW2]; show (wr.heap.push _)[wr.heap.size]? = _; simp [S52.row]
      have HRow := Aside0.mk hrow
      have HW := Aside0.mk hW2
      have HB2 := Aside0.mk B2
      clear hW2 B2 hrow
      go_upto_region 5 with (fail)
      try rw [HW.out]
      have HStL2 : Aside0 (StL base w0 W (L ++ S52.thss deep ls (l.take i)) lv W2) := ⟨⟨HST.out.1.below HB2.out, below_weaken' HST.out.2.1 (by have := HST.out.2.1.size; have := HBA.out; omega) HB2.out, HST.out.2.2.trans (Grows.below HB2.out)⟩⟩
      have HBs : Aside0 (base ≤ W2.heap.size) := ⟨by have := HStL2.out.2.1.size; have := HBA.out; omega⟩
      clear x0 x1 x2 x3 x4 x5 x6 x7 x8 x9 x10 x11 x12 x13
      go_cut [0] from 12 to 75 (fun v0 wx => StL base w0 W ((L ++ S52.thss deep ls (l.take i)) ++ [(.stmt s deep, ls)]) v0 wx ∧ wx.heap[wr.heap.size]? = some (.cells (s.row A5 c5 A9 c9 A12 c12 A13 c13) 52 (0, 0)))
      case first =>
        obtain ⟨z0, z1, z2, z3, z4, z5, z6, z7, z8, z9, z10, z11, z12, z13⟩ := hbox
        have hu74 := Tryz.underlying74
        obtain ⟨i0, hi0, hz0, hz1, hz2⟩ := info_parts Tryz.info79
        have hn63 : (L ++ S52.thss deep ls (l.take i)).length + 1 ≤ maxLen := by unfold maxLen; rw [List.length_append]; have := HN.out.1; omega
        have hnby : ((L ++ S52.thss deep ls (l.take i)).length + 1) * 304 ≤ 140737488355328 := by rw [List.length_append]; have := HN.out.1; omega
        obtain ⟨xss, ho, hx⟩ := HStL2.out.1
        have HO := Aside0.mk ho
        have HX := Aside0.mk hx
        have HS63 := Aside0.mk hn63
        have HSby := Aside0.mk hnby
        have HI0 := Aside0.mk (⟨hi0, hz0, hz1, hz2⟩ : _ ∧ _ ∧ _ ∧ _)
        clear ho hx hn63 hnby hi0 hz0 hz1 hz2 HT HU HE2 HE3
        go_wp2_with (refine wpList_append_lies _ rfl (.tmp 22) (.tmp 27) 74 rfl base 79 i0 _ 22 304 Tryz.underlying74 HI0.out.1 HI0.out.2.1 HI0.out.2.2.1 HI0.out.2.2.2 rfl (by decide) lv (L ++ S52.thss deep ls (l.take i)).length xss.flatten rfl (HO.out.alloc _) ⟨W2.heap.size, 0, none⟩ 1 1 ([.int .i64 1, .int .i64 0] ++ [.int .i64 s.f0, .string s.f1, .int .i64 s.f2.f0, .int .u64 s.f2.f1, .string s.f2.f2, .slice A5 s.f2.f3.length c5, .int .i64 s.f3.f0, .int .u64 s.f3.f1, .string s.f3.f2, .slice A9 s.f3.f3.length c9, .int .u64 s.f4, .int .u64 s.f5, .slice A12 s.f6.length c12, .slice A13 s.f7.length c13] ++ zE ++ [.int .i64 deep, .slice LA ls.length lc]) rfl rfl (World.news_of_block (B := W2.heap.size) (t := 79) (fr := (0, 0)) (by show (W2.heap.push _)[W2.heap.size]? = _; simp; rfl)) (one_cells _ rfl) (by decide) HS63.out HSby.out (by have := HBs.out; simp; omega) _ rfl ?_; intro g5 cap5 w5 ho5 hg5 _ _; have HO5 := Aside0.mk ho5; have HB5 := Aside0.mk hg5; have HOA := Aside0.mk (HO.out.alloc (.cells #[.int .i64 1, .int .i64 0, .int .i64 s.f0, .string s.f1, .int .i64 s.f2.f0, .int .u64 s.f2.f1, .string s.f2.f2, .slice A5 s.f2.f3.length c5, .int .i64 s.f3.f0, .int .u64 s.f3.f1, .string s.f3.f2, .slice A9 s.f3.f3.length c9, .int .u64 s.f4, .int .u64 s.f5, .slice A12 s.f6.length c12, .slice A13 s.f7.length c13, .int .i64 0, .int .u64 0, .string ⟨#[]⟩, .slice none 0 0, .int .i64 deep, .slice LA ls.length lc] 79)); clear ho5 hg5)
        go_meet
        have hBa := below_alloc (Below.refl W2.heap.size W2) (.cells #[.int .i64 1, .int .i64 0, .int .i64 s.f0, .string s.f1, .int .i64 s.f2.f0, .int .u64 s.f2.f1, .string s.f2.f2, .slice A5 s.f2.f3.length c5, .int .i64 s.f3.f0, .int .u64 s.f3.f1, .string s.f3.f2, .slice A9 s.f3.f3.length c9, .int .u64 s.f4, .int .u64 s.f5, .slice A12 s.f6.length c12, .slice A13 s.f7.length c13, .int .i64 0, .int .u64 0, .string ⟨#[]⟩, .slice none 0 0, .int .i64 deep, .slice LA ls.length lc] 79)
        have hG : Grows base W2 w5 := (Grows.below hBa).trans (grown_grows HOA.out HB5.out)
        have hB : Below base w0 w5 := grown_below (below_weaken' HStL2.out.2.1 HBs.out hBa) (Nat.le_trans HBs.out hBa.size) HOA.out HB5.out
        exact ⟨⟨ThL.add HX.out (HThIn.out _ (HLs.out.grows HStL2.out.2.2)) hG (by simpa only [List.length_append] using HO5.out), hB, HStL2.out.2.2.trans hG⟩, hG _ _ _ _ (by decide) HRow.out⟩
      case rest =>
        obtain ⟨hs1, hr1⟩ := hcut
        have S1 := Aside0.mk hs1
        have R1 := Aside0.mk hr1
        obtain ⟨z0, z1, z2, z3, z4, z5, z6, z7, z8, z9, z10, z11, z12, z13⟩ := box_of hr1
        clear hs1 hr1 HStL2 HBs HThIn hbox
        go_upto_block 2 with (fail)
        go_cut [0] from 12 to 75 (fun v0 wx => StL base w0 W ((L ++ S52.thss deep ls (l.take i)) ++ [(.stmt s deep, ls)] ++ S52.exs ls s) v0 wx ∧ wx.heap[wr.heap.size]? = some (.cells (s.row A5 c5 A9 c9 A12 c12 A13 c13) 52 (0, 0)))
        case first =>
          clear HT HU
          by_cases k2 : s.f0 = 2
          · have e1 : (s.f0 == 1) = false := by simp [k2]
            have e2 : (s.f0 == 2) = true := by simp [k2]
            have e3 : (s.f0 == 3) = false := by simp [k2]
            have HEx : Aside0 (S52.exs ls s = S50.ths ls s.f2 ++ S50.ths ls s.f3) := ⟨if_pos k2⟩
            clear k2
            have T1 : True := trivial
            go_wp2_with (first
              | (clear T1; go_at_call 92; refine (HE2.out _ _ _ S1.out (by simp only [List.length_append, List.length_cons, List.length_nil]; have := HN.out.2.2.2.2.1; omega)).mono ?_; rintro x' w6 ⟨v6, rfl, hl6, hb6, hg6⟩; have S6 := Aside0.mk (show StL base w0 W _ v6 w6 from ⟨hl6, hb6, S1.out.2.2.trans hg6⟩); have R6 := Aside0.mk (hg6 _ _ _ _ (by decide) R1.out); obtain ⟨y0, y1, y2, y3, y4, y5, y6, y7, y8, y9, y10, y11, y12, y13⟩ := box_of R6.out; clear hl6 hb6 hg6)
              | (go_at_call 92; refine (HE3.out _ _ _ S6.out (by simp only [List.length_append, List.length_cons, List.length_nil]; have := HN.out.2.2.2.2.1; have := S50.ths_len ls s.f2; omega)).mono ?_; rintro x' w7 ⟨v7, rfl, hl7, hb7, hg7⟩; have S7 := Aside0.mk (show StL base w0 W _ v7 w7 from ⟨hl7, hb7, S6.out.2.2.trans hg7⟩); have R7 := Aside0.mk (hg7 _ _ _ _ (by decide) R6.out); clear hl7 hb7 hg7))
            go_meet
            exact ⟨by rw [HEx.out, ← List.append_assoc]; exact S7.out, R7.out⟩
          · have e2 : (s.f0 == 2) = false := by simpa using k2
            by_cases k1 : s.f0 = 1
            · have e1 : (s.f0 == 1) = true := by simp [k1]
              have HEx : Aside0 (S52.exs ls s = S50.ths ls s.f3) := ⟨by unfold S52.exs; rw [if_neg k2, if_pos (.inl k1)]⟩
              clear k2 k1
              go_wp2_with ((go_at_call 92; refine (HE3.out _ _ _ S1.out (by simp only [List.length_append, List.length_cons, List.length_nil]; have := HN.out.2.2.2.2.1; omega)).mono ?_; rintro x' w7 ⟨v7, rfl, hl7, hb7, hg7⟩; have S7 := Aside0.mk (show StL base w0 W _ v7 w7 from ⟨hl7, hb7, S1.out.2.2.trans hg7⟩); have R7 := Aside0.mk (hg7 _ _ _ _ (by decide) R1.out); clear hl7 hb7 hg7))
              go_meet
              exact ⟨by rw [HEx.out]; exact S7.out, R7.out⟩
            · have e1 : (s.f0 == 1) = false := by simpa using k1
              by_cases k3 : s.f0 = 3
              · have e3 : (s.f0 == 3) = true := by simp [k3]
                have HEx : Aside0 (S52.exs ls s = S50.ths ls s.f3) := ⟨by unfold S52.exs; rw [if_neg k2, if_pos (.inr k3)]⟩
                clear k2 k1 k3
                go_wp2_with ((go_at_call 92; refine (HE3.out _ _ _ S1.out (by simp only [List.length_append, List.length_cons, List.length_nil]; have := HN.out.2.2.2.2.1; omega)).mono ?_; rintro x' w7 ⟨v7, rfl, hl7, hb7, hg7⟩; have S7 := Aside0.mk (show StL base w0 W _ v7 w7 from ⟨hl7, hb7, S1.out.2.2.trans hg7⟩); have R7 := Aside0.mk (hg7 _ _ _ _ (by decide) R1.out); clear hl7 hb7 hg7))
                go_meet
                exact ⟨by rw [HEx.out]; exact S7.out, R7.out⟩
              · have e3 : (s.f0 == 3) = false := by simpa using k3
                have HEx : Aside0 (S52.exs ls s = []) := ⟨by unfold S52.exs; rw [if_neg k2, if_neg (by rintro (h | h); exact k1 h; exact k3 h)]⟩
                clear k2 k1 k3
                go_wp2_with (fail)
                go_meet
                exact ⟨by rw [HEx.out, List.append_nil]; exact S1.out, R1.out⟩
        case rest =>
          obtain ⟨hs2, hr2⟩ := hcut
          clear S1 R1 z0 z1 z2 z3 z4 z5 z6 z7 z8 z9 z10 z11 z12 z13 HE2 HE3
          have S2 := Aside0.mk hs2
          have R2 := Aside0.mk hr2
          obtain ⟨z0, z1, z2, z3, z4, z5, z6, z7, z8, z9, z10, z11, z12, z13⟩ := box_of hr2
          clear hs2 hr2
          by_cases k4 : s.f0 = 4
          · have el : S52.lin ls s = s.f1 :: ls := if_pos k4
            have e4 : (s.f0 == 4) = true := by simp [k4]
            rw [el] at HT HU HStep HN
            simp only [List.length_cons] at HT HU
            clear el k4
            go_upto_region 15 with (fail)
            go_cut [11] from 12 to 75 (fun v11 wx => ∃ LA' lc', v11 = .slice LA' (ls.length + 1) lc' ∧ LsAt wx LA' lc' (s.f1 :: ls) ∧ StL base w0 W ((L ++ S52.thss deep ls (l.take i)) ++ [(.stmt s deep, ls)] ++ S52.exs ls s) u0 wx ∧ wx.heap[wr.heap.size]? = some (.cells (s.row A5 c5 A9 c9 A12 c12 A13 c13) 52 (0, 0)))
            case first =>
              have HBA2 : Aside0 (base ≤ wc.heap.size) := ⟨by have := S2.out.2.1.size; have := HBA.out; omega⟩
              have HKb : Aside0 (∀ w' : World, Below wc.heap.size wc w' → w'.cell? ⟨wr.heap.size, 1, none⟩ = some (.string s.f1)) := ⟨fun w' h => (box_of ((Grows.below (base := base) h) _ _ _ _ (by decide) R2.out)).2.1⟩
              have HLc : Aside0 (∀ w' : World, Below wc.heap.size wc w' → LsAt w' LA lc ls) := ⟨fun w' h => (HLs.out.grows S2.out.2.2).grows (Grows.below (base := base) h)⟩
              have HOw1 : Aside0 ((wc.alloc (.cells #[] 9)).ownsRow wc.heap.size 9 1 (.slice (some ⟨wc.heap.size, 0, none⟩) 0 0) 0 []) := ⟨World.ownsRow_made wc #[] 0 (Nat.le_refl _) (by decide) rfl⟩
              have HOw2 : Aside0 (∀ o, ((wc.alloc o).alloc (.cells #[] 9)).ownsRow wc.heap.size 9 1 (.slice (some ⟨wc.heap.size + 1, 0, none⟩) 0 0) 0 []) := ⟨fun o => by have h := World.ownsRow_made (base := wc.heap.size) (e := 9) (size := 1) (wc.alloc o) #[] 0 (below_alloc (Below.refl wc.heap.size wc) o).size (by decide) rfl; simpa [go_sem] using h⟩
              have HNl : Aside0 (ls.length + 1 ≤ 4194304) := ⟨HN.out.2.2.2.2.2⟩
              have HFin : Aside0 (∀ wx, Below wc.heap.size wc wx → StL base w0 W ((L ++ S52.thss deep ls (l.take i)) ++ [(.stmt s deep, ls)] ++ S52.exs ls s) u0 wx ∧ wx.heap[wr.heap.size]? = some (.cells (s.row A5 c5 A9 c9 A12 c12 A13 c13) 52 (0, 0))) := ⟨fun wx h => ⟨S2.out.below HBA2.out h, (Grows.below (base := base) h) _ _ _ _ (by decide) R2.out⟩⟩
              obtain ⟨i9, hi9, hy0, hy1, hy2⟩ := info_parts Tryz.info9
              have HI9 := Aside0.mk (⟨hi9, hy0, hy1, hy2⟩ : _ ∧ _ ∧ _ ∧ _)
              clear hi9 hy0 hy1 hy2
              clear z0 z1 z2 z3 z4 z5 z6 z7 z8 z9 z10 z11 z12 z13 HT HU
              have z1 := HKb.out wc (Below.refl _ _)
              have HS63 : Aside0 (ls.length + 1 ≤ maxLen) := ⟨by unfold maxLen; have := HNl.out; omega⟩
              have HSby : Aside0 ((ls.length + 1) * 16 ≤ 140737488355328) := ⟨by have := HNl.out; omega⟩
              have T5 : True := trivial
              first | (go_region_held3 (fun w' => w'.cell? ⟨wr.heap.size, 1, none⟩ = some (.string s.f1)) (first | exact z1 | (refine HKb.out _ ?_; (repeat (first | exact Below.refl _ _ | exact B5.out | exact B6.out | refine below_drew1 ?_ | refine below_alloc ?_ _)))) (first
                | (clear T5; refine step_names rfl (.tmp 55) (.tmp 56) rfl (ls := ls) (LA := LA) (lc := lc) (base := wc.heap.size) rfl (by first | exact HOw1.out | exact (own_drew HOw1.out).alloc _ | exact HOw2.out _) rfl (HLc.out _ (by (repeat (first | exact Below.refl _ _ | exact B5.out | exact B6.out | refine below_drew1 ?_ | refine below_alloc ?_ _)))) HNl.out (by simp [go_sem] <;> omega) ?_; intro g5 cap5 w5 ho5 hg5; have HO5 := Aside0.mk ho5; have B5 := Aside0.mk (show Below wc.heap.size wc w5 from pw_below_grown (by (repeat (first | exact Below.refl _ _ | exact B5.out | exact B6.out | refine below_drew1 ?_ | refine below_alloc ?_ _))) _ (by simp [go_sem] <;> omega) hg5 (fun k hk => by simp at hk <;> omega)); have HG5 := Aside0.mk hg5; clear ho5 hg5)
                | (refine step_append_lies _ rfl (.tmp 57) (.tmp 60) 77 rfl wc.heap.size 9 i9 _ 1 16 Tryz.underlying77 HI9.out.1 HI9.out.2.1 HI9.out.2.2.1 HI9.out.2.2.2 rfl (by decide) _ ls.length (ls.reverse.map Value.string) rfl (by first | exact HO5.out | exact HO5.out.alloc _) ⟨_, 0, none⟩ 1 1 [.string s.f1] rfl rfl (by first | exact World.news_of_block (one_a w5 _) | exact World.news_of_block (keepN HG5.out (two_a wc _ _) (Nat.succ_ne_self _)) | exact World.news_of_block (keepN HG5.out (two_b wc _ _) (Nat.succ_ne_self _).symm)) (one_cells _ rfl) (by decide) HS63.out HSby.out (by have := B5.out.size; simp [go_sem] <;> omega) _ rfl ?_; intro g6 cap6 w6 ho6 hg6 _ _; have HO6 := Aside0.mk ho6; have B6 := Aside0.mk (show Below wc.heap.size wc w6 from pw_below_grown (by (repeat (first | exact Below.refl _ _ | exact B5.out | exact B6.out | refine below_drew1 ?_ | refine below_alloc ?_ _))) _ (by have := B5.out.size; simp [go_sem] <;> omega) hg6 (fun k hk => (HO5.out.lt k hk).1)); clear ho6 hg6))) | fail
              all_goals
                go_wp2_with fail
                go_meet
                exact ⟨_, _, rfl, ls_own HO6.out, HFin.out _ B6.out⟩
            case rest =>
              obtain ⟨LA', lc', rfl, hla, hs3, hr3⟩ := hcut
              have S3 := Aside0.mk hs3
              have R3 := Aside0.mk hr3
              have HLa := Aside0.mk hla
              clear z0 z1 z2 z3 z4 z5 z6 z7 z8 z9 z10 z11 z12 z13 hs3 hr3 hla S2 R2
              obtain ⟨z0, z1, z2, z3, z4, z5, z6, z7, z8, z9, z10, z11, z12, z13⟩ := box_of R3.out
              have T2 : True := trivial
              go_wp2_with (first
                | (clear T2; go_at_call 71; refine (HT.out _ _ _ _ _ S3.out.1 S3.out.2.1 HLa.out (by simp only [List.length_append, List.length_cons, List.length_nil]; have := HN.out.1; omega)).mono ?_; rintro x' w6 ⟨v6, rfl, hl6, hb6, hg6⟩; have S6 := Aside0.mk (show StL base w0 W _ v6 w6 from ⟨hl6, hb6, S3.out.2.2.trans hg6⟩); have HLb := Aside0.mk (HLa.out.grows hg6); have R6 := Aside0.mk (hg6 _ _ _ _ (by decide) R3.out); obtain ⟨y0, y1, y2, y3, y4, y5, y6, y7, y8, y9, y10, y11, y12, y13⟩ := box_of R6.out; clear hl6 hb6 hg6)
                | (go_at_call 71; refine (HU.out _ _ _ _ _ S6.out.1 S6.out.2.1 HLb.out (by simp only [List.length_append, List.length_cons, List.length_nil]; have := HN.out.1; have := HN.out.2.1; omega)).mono ?_; rintro x' w7 ⟨v7, rfl, hl7, hb7, hg7⟩; have S7 := Aside0.mk (show StL base w0 W _ v7 w7 from ⟨hl7, hb7, S6.out.2.2.trans hg7⟩); clear hl7 hb7 hg7))
              go_roundg (l.length - (i + 1))
              case measure => omega
              case rel => exact ⟨i + 1, _, rfl, by simp, rfl, by omega, by rw [HStep.out]; simpa [List.append_assoc] using S7.out⟩
          · have el : S52.lin ls s = ls := if_neg k4
            have e4 : (s.f0 == 4) = false := by simpa using k4
            rw [el] at HT HU HStep HN
            clear el k4
            have T2 : True := trivial
            go_wp2_with (first
              | (clear T2; go_at_call 71; refine (HT.out _ _ _ _ _ S2.out.1 S2.out.2.1 (HLs.out.grows S2.out.2.2) (by simp only [List.length_append, List.length_cons, List.length_nil]; have := HN.out.1; omega)).mono ?_; rintro x' w6 ⟨v6, rfl, hl6, hb6, hg6⟩; have S6 := Aside0.mk (show StL base w0 W _ v6 w6 from ⟨hl6, hb6, S2.out.2.2.trans hg6⟩); have R6 := Aside0.mk (hg6 _ _ _ _ (by decide) R2.out); obtain ⟨y0, y1, y2, y3, y4, y5, y6, y7, y8, y9, y10, y11, y12, y13⟩ := box_of R6.out; clear hl6 hb6 hg6)
              | (go_at_call 71; refine (HU.out _ _ _ _ _ S6.out.1 S6.out.2.1 (HLs.out.grows S6.out.2.2) (by simp only [List.length_append, List.length_cons, List.length_nil]; have := HN.out.1; have := HN.out.2.1; omega)).mono ?_; rintro x' w7 ⟨v7, rfl, hl7, hb7, hg7⟩; have S7 := Aside0.mk (show StL base w0 W _ v7 w7 from ⟨hl7, hb7, S6.out.2.2.trans hg7⟩); clear hl7 hb7 hg7))
            go_roundg (l.length - (i + 1))
            case measure => omega
            case rel => exact ⟨i + 1, _, rfl, by simp, rfl, by omega, by rw [HStep.out]; simpa [List.append_assoc] using S7.out⟩
    · have hlt' : ¬ ((i : Int) < (l.length : Int)) := by omega
      have hie : i = l.length := by omega
      subst hie
      rw [List.take_length] at HST
      go_wp2_with fail
      go_ret
      obtain ⟨h1, h2, h3⟩ := HST.out
      exact ⟨_, rfl, h1, h2, h3⟩
end Go.Proofs.YtjomofepephodaaGreat.PEquivShapes
