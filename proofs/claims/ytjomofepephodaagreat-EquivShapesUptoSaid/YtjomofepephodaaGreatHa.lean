/-
  slices.Repeat; the document's Public and Length. Conditions: what each theorem names.
-/
import Derived.Deep.AppendLies
import Derived.Deep.DeepCutAuto
import Derived.Deep.OwnRows
import Derived.Deep.RegionLaw
import Derived.Laws.CopyOwn
import Derived.OwnWalk
import Derived.Test.YtjomofepephodaaGreatGb
import Derived.Test.YtjomofepephodaaGreatKb
import Derived.Test.YtjomofepephodaaGreatGz
import Derived.Test.YtjomofepephodaaGreatKd
set_option linter.unusedVariables false
set_option linter.unusedSimpArgs false
namespace Go.Proofs.YtjomofepephodaaGreat.PEquivShapes
open Go.RowKit
open Go.Proofs.YtjomofepephodaaGreatW.PrintWords Go.Proofs.YtjomofepephodaaGreatW.PrintLast Go.Proofs.YtjomofepephodaaGreatW.PrintMore
theorem Tryz.info4 : (Tryz.prog.info? 4).map (fun i => (i.zero, i.size, i.bytes)) = some (some (.bool false), 1, 1) := by kernel_rfl
theorem mul_small : ∀ n ∈ List.range 257, bits_Mul.f 1 (n : Int) = some (0, (n : Int)) := of_decide_eq_true (by kernel_rfl)
theorem made_rep (v : Value) (n : Nat) : madeCells #[v] n = (List.replicate n v).toArray := by
  apply Array.ext'
  apply List.ext_getElem?
  intro i
  simp only [madeCells, Array.toList_map, Array.toList_range, List.getElem?_map, List.getElem?_replicate]
  by_cases h : i < n
  · simp [h, Nat.mod_one]
  · simp [h]
theorem splice_one {n : Nat} {cur cs : List Value} {off : Nat} (hl : cur.length = n) (h : off + cs.length ≤ n) (h1 : ∀ u ∈ cur, u.oneCell' = true) (h2 : ∀ u ∈ cs, u.oneCell' = true) : (splice cur off cs).length = n ∧ ∀ u ∈ splice cur off cs, u.oneCell' = true := by
  refine ⟨by rw [length_splice _ _ _ (by omega), hl], fun u hu => ?_⟩
  unfold splice at hu
  simp only [List.mem_append] at hu
  rcases hu with hu | hu | hu
  · exact h1 u (List.mem_of_mem_take hu)
  · exact h2 u hu
  · exact h1 u (List.mem_of_mem_drop hu)
theorem heap_at {w : World} {g : Nat} {cur : List Value} {t : TypeId} (h : w.heap[g]? = some (.cells cur.toArray t (0, 0))) (j : Nat) (v : Value) (hj : cur[j]? = some v) : w.cell? (({ block := g, off := 0 } : Addr).add j) = some v := by
  rw [Addr.add_lit, Nat.zero_add, cell_of_row w g j cur.toArray t (0, 0) h]
  simpa using hj
theorem one_cells1 (l : List Value) (h : (l.all fun u => u.oneCell') = true) : ∀ u ∈ l, u.oneCell' = true := List.all_eq_true.1 h
theorem below_drew2 {base : Nat} {w W : World} (h : Below base w W) : Below base w W.drew := h.drew
/-- a row of n bools, new -/
def Rep (w : World) (n : Nat) (e : Ending) (w' : World) : Prop := ∃ g xs, e = .returned (.slice (some ⟨g, 0, none⟩) n n) ∧ w'.ownsRow w.heap.size 4 1 (.slice (some ⟨g, 0, none⟩) n n) n xs ∧ (∀ u ∈ xs, u.oneCell' = true) ∧ Below w.heap.size w w'
set_option maxHeartbeats 4000000 in
set_option maxRecDepth 100000 in
theorem repeat_any (a : Nat) (c n : Nat) (b : Bool) (w : World) (hb : w.cell? ⟨a, 0, none⟩ = some (.bool b)) (hn : 1 ≤ n) (hn2 : n ≤ 256) :
    Calls Tryz.prog 19 #[.slice (some ⟨a, 0, none⟩) 1 c, .int .i64 n] w fun e w' => Rep w n e w' := by
  obtain ⟨i0, hi0, hz0, hz1, hz2⟩ := info_parts Tryz.info4
  have hu := Tryz.underlying33
  have hs1 : (Tryz.prog.info? 4).map (·.size) = some 1 := by rw [hi0]; simp [hz1]
  have hm : ∀ W : World, (Instr.makeSlice 33 (.int .i64 (n : Int)) (.int .i64 (n : Int))).run Tryz.prog W = .ok (.slice (some ⟨W.heap.size, 0, none⟩) n n) (W.alloc (.cells (List.replicate n (.bool false)).toArray 4)) := by
    intro W
    rw [← made_rep]
    exact run_make_row' 33 4 (.bool false) 1 hu Tryz.info4 rfl .i64 .i64 n (by omega) (by omega) W
  have hmul : ∀ W, Calls Tryz.prog 26 #[.int .u64 1, .int .u64 (n : Int)] W fun e w' => e = .returned (.tuple #[.int .u64 0, .int .u64 (n : Int)]) ∧ Drawn0 W w' := fun W => bits_Mul.calls 1 n 0 n W (mul_small n (List.mem_range.2 (by omega)))
  have hneg : decide ((n : Int) < 0) = false := by simp
  have HN := Aside0.mk hn2
  have HM := Aside0.mk hmul
  have hw1 : IntKind.u64.wrap (n : Int) = (n : Int) := IntWalk.u64_in _ (by omega)
  have hw2 : IntKind.i64.wrap (n : Int) = (n : Int) := IntWalk.i64_in _ (by omega)
  have hg1 : decide ((n : Int) > 9223372036854775807) = false := by simp; omega
  have hg2 : decide (9223372036854775807 < (n : Int)) = false := by simp; omega
  clear hmul
  go_enter Tryz.func19, Tryz.ntmps19
  go_upto_region 3 with (fail)
  go_upto_region 6 with (go_at_call 26; refine (HM.out _).mono ?_; rintro e w1 ⟨rfl, hd⟩; have B1 := Aside0.mk hd.below; clear hd)
  go_upto_region 7 with (fail)
  obtain ⟨W2, hW2⟩ : ∃ W2, w1.alloc (Obj.cells (Array.replicate n (Value.bool false)) 4) = W2 := ⟨_, rfl⟩
  have HG : Aside0 (w1.heap.size = w1.heap.size ∧ W2.heap[w1.heap.size]? = some (.cells (List.replicate n (.bool false)).toArray 4 (0, 0))) := ⟨⟨rfl, by rw [← hW2]; show (w1.heap.push _)[w1.heap.size]? = _; simp⟩⟩
  have B2 : Below w.heap.size w W2 := by rw [← hW2]; exact below_alloc B1.out _
  have HB := Aside0.mk (kept_cell B2 hb)
  have HB2 := Aside0.mk B2
  have HgS := Aside0.mk B1.out.size
  rw [hW2]
  generalize w1.heap.size = g at *
  clear hW2 hm hb B1 B2 hz0 hz1 hz2 HM
  have HL0 : Aside0 ((List.replicate n (Value.bool false)).length = n ∧ ∀ u ∈ List.replicate n (Value.bool false), u.oneCell' = true) := ⟨by simp, fun u hu => by rw [List.eq_of_mem_replicate hu]; rfl⟩
  generalize List.replicate n (Value.bool false) = cur0 at *
  have HN1 := Aside0.mk hn
  have HSP : Aside0 ((splice cur0 0 [.bool b]).length = n ∧ ∀ u ∈ splice cur0 0 [.bool b], u.oneCell' = true) := ⟨splice_one HL0.out.1 (by simp; have := HN1.out; omega) HL0.out.2 (by simp [Value.oneCell'])⟩
  have HSrc : Aside0 (∀ (j : Nat) (v : Value), ([.bool b] : List Value)[j]? = some v → W2.cell? (({ block := a, off := 0 } : Addr).add j) = some v) := ⟨fun j v hj => by
    match j, hj with
    | 0, hj =>
      obtain rfl : Value.bool b = v := by simpa using hj
      rw [Addr.add_lit]
      exact HB.out
    | j + 1, hj => simp at hj⟩
  have HSL : Aside0 (1 = Nat.min 1 n ∧ 0 + 1 ≤ n) := ⟨by have := HN1.out; rw [show Nat.min 1 n = 1 from Nat.min_eq_left this]; omega⟩
  go_wp2_with ((refine wpList_copy_splice rfl (.tmp 31) (.tmp 32) 33 33 rfl 4 hu hs1 (some ⟨g, 0, none⟩) (some ⟨a, 0, none⟩) n n 1 c rfl rfl g 0 cur0 4 HG.out.2 [.bool b] HSL.out.1 (fun _ => ⟨rfl, _, rfl, HSrc.out⟩) (by rw [HL0.out.1]; exact HSL.out.2) (one_cells1 _ rfl) w.heap.size w HB2.out HgS.out ?_); intro w3 hg3 hb3; have HG3 := Aside0.mk hg3.out; have HB3 := Aside0.mk hb3; clear hg3 hb3)
  go_loopg [8] (n - 1) (fun m v8 wr => ∃ k : Nat, v8 = .int .i64 (k : Int) ∧ m = n - k ∧ 1 ≤ k ∧ k ≤ n ∧ (∃ cur : List Value, (cur.length = n ∧ ∀ u ∈ cur, u.oneCell' = true) ∧ wr.heap[g]? = some (.cells cur.toArray 4 (0, 0))) ∧ Below w.heap.size w wr)
  case atStart => exact ⟨1, by simp, rfl, Nat.le_refl _, HN1.out, ⟨_, HSP.out, HG3.out⟩, HB3.out⟩
  case round =>
    obtain ⟨k, rfl, rfl, hk1, hk2, ⟨cur, hcur, hg⟩, hbr⟩ := hrel
    have HC := Aside0.mk hcur
    have HGr := Aside0.mk (show wr.drew.heap[g]? = some (.cells cur.toArray 4 (0, 0)) from hg)
    have HBr := Aside0.mk hbr
    have HN2 := Aside0.mk hn2
    clear HG HB HB2 HL0 HSP HSrc HSL HG3 HB3 hg hbr hcur hn2 hw1 hg1 hg2
    by_cases hlt : k < n
    · have e1 : (k : Int) < (n : Int) := by omega
      have e2 : ¬ ((k : Int) < 0) := by omega
      have e3 : (k : Int) ≤ (n : Int) := by omega
      have e4 : (0 : Int) ≤ (k : Int) := by omega
      have e5 : ¬ (n = k) := by omega
      go_upto_region 9 with (fail)
      have HCS : Aside0 ((cur.take (min k (n - k))).length = Nat.min k (n - k) ∧ k + (cur.take (min k (n - k))).length ≤ cur.length ∧ ∀ u ∈ cur.take (min k (n - k)), u.oneCell' = true) := ⟨by
        have h := HC.out.1
        refine ⟨?_, ?_, fun u hu => HC.out.2 u (List.mem_of_mem_take hu)⟩
        · rw [List.length_take, h]; show min (min k (n - k)) n = min k (n - k); omega
        · rw [List.length_take, h]; omega⟩
      have HSrc : Aside0 (∀ (j : Nat) (v : Value), (cur.take (min k (n - k)))[j]? = some v → wr.drew.cell? (({ block := g, off := 0 } : Addr).add j) = some v) := ⟨fun j v hj => heap_at (w := wr.drew) HGr.out j v (by
        have h := (List.getElem?_eq_some_iff.1 hj).1
        rw [List.length_take] at h
        rwa [List.getElem?_take_of_lt (by omega)] at hj)⟩
      go_region_held3 (fun _ => True) (trivial) (go_loud (refine step_copy_splice rfl (.tmp 41) (.tmp 44) 33 33 rfl 4 hu hs1 (some ⟨g, k, none⟩) (some ⟨g, 0, none⟩) (n - k) (n - k) k n rfl rfl g k cur 4 HGr.out (cur.take (min k (n - k))) HCS.out.1 (fun _ => ⟨rfl, _, rfl, HSrc.out⟩) HCS.out.2.1 HCS.out.2.2 w.heap.size w (below_drew2 HBr.out) HgS.out ?_; intro w4 hg4 hb4; have HG4 := Aside0.mk hg4.out; have HB4 := Aside0.mk hb4; clear hg4 hb4))
      have HKK : Aside0 (IntKind.i64.wrap ((k : Int) + ((cur.take (min k (n - k))).length : Int)) = ((k + min k (n - k) : Nat) : Int) ∧ 1 ≤ k + min k (n - k) ∧ k + min k (n - k) ≤ n ∧ n - (k + min k (n - k)) < n - k) := ⟨by
        have h1 := HCS.out.1
        have h2 := HN2.out
        have h3 : Nat.min k (n - k) = min k (n - k) := rfl
        rw [h1, h3, IntWalk.i64_in _ (by omega)]
        omega⟩
      have HSP2 : Aside0 ((splice cur k (cur.take (min k (n - k)))).length = n ∧ ∀ u ∈ splice cur k (cur.take (min k (n - k))), u.oneCell' = true) := ⟨splice_one HC.out.1 (by have := HCS.out.2.1; rwa [HC.out.1] at this) HC.out.2 HCS.out.2.2⟩
      all_goals
        go_wp2_with fail
        go_roundg (n - (k + min k (n - k)))
        case measure => exact HKK.out.2.2.2
        case rel => exact ⟨k + min k (n - k), by simpa [goInt] using HKK.out.1, rfl, HKK.out.2.1, HKK.out.2.2.1, ⟨_, HSP2.out, HG4.out⟩, HB4.out⟩
    · have e1 : ¬ ((k : Int) < (n : Int)) := by omega
      have HKN : Aside0 (k = n) := ⟨by omega⟩
      go_wp2
      go_ret
      obtain rfl := HKN.out
      exact ⟨g, cur, rfl, ⟨by simpa using HC.out.1, .inr ⟨g, k, _, rfl, HgS.out, HGr.out, Nat.le_refl _, by unfold maxLen; have := HN2.out; omega, by simpa using HC.out.1, by simp [← HC.out.1]⟩⟩, HC.out.2, HBr.out⟩
end Go.Proofs.YtjomofepephodaaGreat.PEquivShapes
namespace Go.Proofs.YtjomofepephodaaGreat.PEquivShapes
open Go.RowKit
open Go.Proofs.YtjomofepephodaaGreatW.PrintWords Go.Proofs.YtjomofepephodaaGreatW.PrintLast Go.Proofs.YtjomofepephodaaGreatW.PrintMore
/-- how many words of input a declaration has, and declarations have -/
def pub1 (d : S38) : Nat := if d.f0 ≤ 2 then (mx d.f2 1).toNat else 0
def pubs (l : List S38) : Nat := (l.map pub1).sum
theorem pubs_take {l : List S38} {i : Nat} (h : i < l.length) : pubs (l.take (i + 1)) = pubs (l.take i) + pub1 (rd_T38 l i) := by
  have hd : rd_T38 l i = l[i] := by simp [rd_T38, h]
  rw [List.take_succ_eq_append_getElem h]
  unfold pubs
  rw [List.map_append, List.sum_append, hd]
  simp
/-- the sizes of a program that is well formed -/
def Small (p : PR) : Prop := p.decls.length ≤ 256 ∧ ∀ i : Nat, i < p.decls.length → 0 ≤ (rd_T38 p.decls i).f2 ∧ (rd_T38 p.decls i).f2 ≤ 256 ∧ 1 ≤ (rd_T38 p.decls i).f0 ∧ (rd_T38 p.decls i).f0 ≤ 5
theorem wf_small {p : PR} (h : wfB p.formB p) : Small p := by
  have h0 : p.formB = true := by simpa [clB] using h 0 (by decide)
  have h3 : (p.decls.length : Int) ≤ 256 := by simpa [clB] using h 3 (by decide)
  have h5 := anyB_false.1 (h 5 (by decide))
  refine ⟨by omega, fun i hi => ?_⟩
  have hd : rd_T38 p.decls i = p.decls[i] := by simp [rd_T38, hi]
  have hf : S38.formB p.decls[i] = true := by
    unfold PR.formB at h0
    simp only [Bool.and_eq_true, List.all_eq_true] at h0
    exact h0.2.2.2.1 _ (List.getElem_mem hi)
  rw [← hd] at hf
  unfold S38.formB at hf
  simp only [Bool.and_eq_true, decide_eq_true_eq] at hf
  have h6 := h5 i hi
  unfold powB at h6
  refine ⟨hf.2.2.2.1, ?_, hf.1, hf.2.1⟩
  by_cases hz : (rd_T38 p.decls i).f2 = 0
  · omega
  · simp only [hz, decide_false, Bool.not_false, Bool.true_and, Bool.not_eq_false', Bool.and_eq_true, decide_eq_true_eq] at h6
    exact h6.1.2
theorem pub1_le {d : S38} (h : d.f2 ≤ 256) : pub1 d ≤ 256 := by
  unfold pub1 mx
  split
  · split <;> omega
  · omega
theorem pubs_le {p : PR} (h : Small p) : ∀ i, i ≤ p.decls.length → pubs (p.decls.take i) ≤ 256 * i := by
  intro i
  induction i with
  | zero => intro _; simp [pubs]
  | succ i ih =>
    intro hi
    have h1 := ih (by omega)
    have h2 := pub1_le (h.2 i (by omega)).2.1
    rw [pubs_take (by omega)]
    omega
/-- the output words -/
def outR : List S38 → Int → Int
  | [], n => n
  | d :: r, n => outR r (if d.f0 = 5 then wrap64 (n + mx d.f2 1) else n)
theorem out_l {l : List S38} (hl : l.length ≤ 1048576) : ∀ (r i k : Nat) (n : Int), l.length - i = r → i ≤ l.length → r + 1 ≤ k → equiv_outWords.l0 k n l (l.length : Int) i = some (outR (l.drop i) n) := by
  intro r
  induction r with
  | zero =>
    intro i k n hr hi hk
    obtain ⟨k, rfl⟩ : ∃ k', k = k' + 1 := ⟨k - 1, by omega⟩
    obtain rfl : i = l.length := by omega
    rw [equiv_outWords.l0, if_neg (by omega), List.drop_length]
    rfl
  | succ r ih =>
    intro i k n hr hi hk
    obtain ⟨k, rfl⟩ : ∃ k', k = k' + 1 := ⟨k - 1, by omega⟩
    have hlt : i < l.length := by omega
    have hd : rd_T38 l i = l[i] := by simp [rd_T38, hlt]
    have hw : wrap64 ((i : Int) + 1) = ((i + 1 : Nat) : Int) := wrap_next (by omega)
    rw [equiv_outWords.l0, if_pos (by omega), if_pos (by omega), if_pos (by omega), hw, ih (i + 1) k _ (by omega) (by omega) (by omega), ih (i + 1) k _ (by omega) (by omega) (by omega), List.drop_eq_getElem_cons hlt, outR, ← hd]
    split <;> rfl
theorem out_r {l : List S38} (hl : l.length ≤ 1048576) (nm : ByteArray) (a b : Int) (bd : List S52) : ∀ (r i k : Nat) (n : Int), l.length - i = r → i ≤ l.length → r + 1 ≤ k → cadenceref27_outs.l0 k n i nm a b l bd = some (outR (l.drop i) n) := by
  intro r
  induction r with
  | zero =>
    intro i k n hr hi hk
    obtain ⟨k, rfl⟩ : ∃ k', k = k' + 1 := ⟨k - 1, by omega⟩
    obtain rfl : i = l.length := by omega
    rw [cadenceref27_outs.l0, if_neg (by omega), List.drop_length]
    rfl
  | succ r ih =>
    intro i k n hr hi hk
    obtain ⟨k, rfl⟩ : ∃ k', k = k' + 1 := ⟨k - 1, by omega⟩
    have hlt : i < l.length := by omega
    have hd : rd_T38 l i = l[i] := by simp [rd_T38, hlt]
    have hw : wrap64 ((i : Int) + 1) = ((i + 1 : Nat) : Int) := wrap_next (by omega)
    rw [cadenceref27_outs.l0, if_pos (by omega), if_pos (by omega), hw, ih (i + 1) k _ (by omega) (by omega) (by omega), ih (i + 1) k _ (by omega) (by omega) (by omega), List.drop_eq_getElem_cons hlt, outR, ← hd]
    split <;> rfl
theorem outs_l (p : PR) (A3 : Option Addr) (c3 : Nat) (A4 : Option Addr) (c4 : Nat) (w : World) (hp : p.At w A3 c3 A4 c4) (hl : p.decls.length ≤ 1048576) :
    Calls Tryz.prog 8 #[p.cells A3 c3 A4 c4] w fun e w' => e = .returned (.int .i64 (outR p.decls 0)) ∧ Below w.heap.size w w' := by
  obtain ⟨l3, k3, l4, k4⟩ := hp
  have h := out_l hl p.decls.length 0 (p.decls.length + 1) 0 rfl (Nat.zero_le _) (Nat.le_refl _)
  rw [List.drop_zero] at h
  exact equiv_outWords.calls (p.decls.length + 1) p.name p.width p.line A3 c3 p.decls A4 c4 p.body _ w k3 l3 k4 l4 h
theorem outs_r (p : PR) (A3 : Option Addr) (c3 : Nat) (A4 : Option Addr) (c4 : Nat) (w : World) (hp : p.At w A3 c3 A4 c4) (hl : p.decls.length ≤ 1048576) :
    Calls Tryz.prog 12 #[p.cells A3 c3 A4 c4] w fun e w' => e = .returned (.int .i64 (outR p.decls 0)) ∧ Below w.heap.size w w' := by
  obtain ⟨l3, k3, l4, k4⟩ := hp
  have h := out_r hl p.name p.width p.line p.body p.decls.length 0 (p.decls.length + 1) 0 rfl (Nat.zero_le _) (Nat.le_refl _)
  rw [List.drop_zero] at h
  exact cadenceref27_outs.calls (p.decls.length + 1) p.name p.width p.line A3 c3 p.decls A4 c4 p.body _ w k3 l3 k4 l4 h
/-- blocks but those of bools stay -/
def Kept4 (w w' : World) : Prop := ∀ (b : Nat) (cur : Array Value) (t : TypeId) (fr : Nat × Nat), t ≠ 4 → w.heap[b]? = some (Obj.cells cur t fr) → w'.heap[b]? = some (Obj.cells cur t fr)
theorem Kept4.below {w w' : World} (hb : Below w.heap.size w w') : Kept4 w w' := fun b cur t fr _ h => (hb.block b (Array.getElem?_eq_some_iff.1 h).1).trans h
theorem Kept4.trans {a b c : World} (h : Kept4 a b) (k : Kept4 b c) : Kept4 a c := fun x cur t fr ht hh => k x cur t fr ht (h x cur t fr ht hh)
theorem Kept4.grown {base : Nat} {w w' : World} {v : Value} {n : Nat} {xs : List Value} (h : w.ownsRow base 4 1 v n xs) (hg : w.grownBy w' v.ownBlock) : Kept4 w w' := fun b cur t fr ht hh => by
  refine (hg.block b (Array.getElem?_eq_some_iff.1 hh).1 ?_).trans hh
  intro e
  rcases h.2 with ⟨rfl, _⟩ | ⟨g, cap, cur2, rfl, _, hg2, _⟩
  · cases e
  · simp only [Value.ownBlock, Option.some.injEq] at e
    subst e
    rw [hg2] at hh
    cases hh
    exact ht rfl
theorem grown_below4 {base : Nat} {w0 w w' : World} {v : Value} {n : Nat} {xs : List Value} (hb : Below base w0 w) (hs : base ≤ w.heap.size) (h : w.ownsRow base 4 1 v n xs) (hg : w.grownBy w' v.ownBlock) : Below base w0 w' := by
  refine pw_below_grown hb v.ownBlock hs hg fun k hk => ?_
  rcases h.2 with ⟨rfl, _⟩ | ⟨g, cap, cur2, rfl, hbg, _⟩
  · cases hk
  · simp only [Value.ownBlock, Option.some.injEq] at hk
    omega
/-- a row of n bools of one's own -/
def Bools (base : Nat) (w : World) (v : Value) (n : Nat) : Prop := ∃ xs, w.ownsRow base 4 1 v n xs
theorem Bools.opens {base : Nat} {w : World} {v : Value} {n : Nat} (h : Bools base w v n) : ∃ A c, v = .slice A n c := by
  obtain ⟨xs, h⟩ := h
  rcases h.2 with ⟨rfl, rfl⟩ | ⟨g, cap, cur, rfl, _⟩
  · exact ⟨none, 0, rfl⟩
  · exact ⟨_, _, rfl⟩
/-- what Public answers: nothing and an error, or as many bools as there are words of input -/
def PubPost (p : PR) (w : World) (e : Ending) (w' : World) : Prop := (∃ (v : Value) (c : Int), e = .returned (.tuple #[v, .int .i64 c]) ∧ (c = 0 ↔ wfB p.formB p) ∧ (∃ A k n, v = .slice A n k ∧ (c = 0 → n = pubs p.decls))) ∧ Below w.heap.size w w'
/-- the state in which a declaration is asked -/
def Dst (base : Nat) (w0 : World) (p : PR) (A3 : Option Addr) (c3 : Nat) (A4 : Option Addr) (c4 : Nat) (v : Value) (n : Nat) (w : World) : Prop := Bools base w v n ∧ Below base w0 w ∧ w.heap[base]? = some (p.row A3 c3 A4 c4)
theorem Bools.below {base : Nat} {w w' : World} {v : Value} {n : Nat} (h : Bools base w v n) (hb : Below w.heap.size w w') : Bools base w' v n := by
  obtain ⟨xs, h⟩ := h
  exact ⟨xs, h.kept (grown_of_below hb none) (by cases v.ownBlock <;> simp)⟩
theorem Dst.below {base : Nat} {w0 w w' : World} {p : PR} {A3 : Option Addr} {c3 : Nat} {A4 : Option Addr} {c4 : Nat} {v : Value} {n : Nat} (h : Dst base w0 p A3 c3 A4 c4 v n w) (hB : base ≤ w.heap.size) (hb : Below w.heap.size w w') : Dst base w0 p A3 c3 A4 c4 v n w' :=
  ⟨h.1.below hb, below_weaken' h.2.1 hB hb, (Kept4.below hb) _ _ _ _ (by decide) h.2.2⟩
/-- one bool more -/
theorem Dst.add {base : Nat} {w0 w w' : World} {p : PR} {A3 : Option Addr} {c3 : Nat} {A4 : Option Addr} {c4 : Nat} {v v' : Value} {n m : Nat} {xs xs' : List Value} (h2 : Below base w0 w) (h3 : w.heap[base]? = some (p.row A3 c3 A4 c4)) (hB : base ≤ w.heap.size) (ho : w.ownsRow base 4 1 v n xs) (hg : w.grownBy w' v.ownBlock) (ho' : w'.ownsRow base 4 1 v' m xs') : Dst base w0 p A3 c3 A4 c4 v' m w' :=
  ⟨⟨xs', ho'⟩, grown_below4 h2 hB ho hg, (Kept4.grown ho hg) _ _ _ _ (by decide) h3⟩
set_option maxHeartbeats 4000000 in
set_option maxRecDepth 100000 in
theorem rpublic_any (p : PR) (A3 : Option Addr) (c3 : Nat) (A4 : Option Addr) (c4 : Nat) (w : World) (hp : p.At w A3 c3 A4 c4) (hf : p.fits) (hl : p.decls.length ≤ 1048576) (hv : ∀ d, d ∈ p.decls → d.f3.length ≤ 1048576) (hb : S52.bulks p.body ≤ 1048576) :
    Calls Tryz.prog 16 #[p.cells A3 c3 A4 c4] w fun e w' => PubPost p w e w' := by
  have hu := Tryz.underlying22
  obtain ⟨i0, hi0, hz0, hz1, hz2⟩ := info_parts Tryz.info4
  obtain ⟨W2, hW2⟩ : ∃ W2, w.alloc (.cells #[.string p.name, .int .i64 p.width, .int .i64 p.line, .slice A3 p.decls.length c3, .slice A4 p.body.length c4] 25) = W2 := ⟨_, rfl⟩
  have hbox : W2.heap[w.heap.size]? = some (.cells #[.string p.name, .int .i64 p.width, .int .i64 p.line, .slice A3 p.decls.length c3, .slice A4 p.body.length c4] 25 (0, 0)) := by rw [← hW2]; exact one_a w _
  have HKB : Aside0 (∀ W : World, W.heap[w.heap.size]? = some (.cells #[.string p.name, .int .i64 p.width, .int .i64 p.line, .slice A3 p.decls.length c3, .slice A4 p.body.length c4] 25 (0, 0)) → PBox W w.heap.size p A3 c3 A4 c4) := ⟨fun W h => by unfold PBox; simp [World.cell?, h]⟩
  have B : Below w.heap.size w W2 := by rw [← hW2]; exact below_alloc (Below.refl _ _) _
  have BB := Aside0.mk B
  have HBox := Aside0.mk hbox
  have HW := Aside0.mk hW2
  have HP := Aside0.mk hp
  have HC := Aside0.mk (rcheck_any p A3 c3 A4 c4 W2 (At_below hp B) hf hl hv hb)
  have HI0 := Aside0.mk (⟨hi0, hz0, hz1, hz2⟩ : _ ∧ _ ∧ _ ∧ _)
  have HLl := Aside0.mk hl
  obtain ⟨z0, z1, z2, z3, z4⟩ := HKB.out _ hbox
  unfold PR.cells at *
  clear hp hf hl hv hb hW2 B hbox hi0 hz0 hz1 hz2
  go_enter Tryz.func16, Tryz.ntmps16
  go_upto_region 1 with (fail)
  try rw [HW.out]
  go_upto_region 2 with (go_at_call 23; refine HC.out.mono ?_; rintro x' w3 ⟨⟨c1, rfl, hc1⟩, hb1⟩; have HBox3 := Aside0.mk ((Kept4.below hb1) _ _ _ _ (by decide) HBox.out); have B3 := Aside0.mk (below_step BB.out hb1); have HC1 := Aside0.mk hc1; clear hb1 hc1)
  clear z0 z1 z2 z3 z4
  by_cases h0 : c1 = 0
  · subst h0
    have HSm : Aside0 (Small p) := ⟨wf_small (HC1.out.1 rfl)⟩
    have HC0 : Aside0 (wfB p.formB p) := ⟨HC1.out.1 rfl⟩
    have hll : (p.decls.length : Int) ≤ 9223372036854775807 := by have := HSm.out.1; omega
    go_wp2_with fail
    go_loopg [5, 6] (p.decls.length) (fun m v5 v6 wr => ∃ (i : Nat) (lv : Value), lv = v5 ∧ v6 = .int .i64 (i : Int) ∧ m = p.decls.length - i ∧ i ≤ p.decls.length ∧ Dst w.heap.size w p A3 c3 A4 c4 lv (pubs (p.decls.take i)) wr)
    case atStart => exact ⟨0, _, rfl, rfl, rfl, Nat.zero_le _, ⟨[], World.ownsRow_nil _ _ _ _⟩, B3.out, HBox3.out⟩
    case round =>
      obtain ⟨i, lv, rfl, rfl, rfl, hi, hst⟩ := hrel
      have HSt := Aside0.mk hst
      obtain ⟨z0, z1, z2, z3, z4⟩ := HKB.out _ hst.2.2
      clear hst
      by_cases hlt : i < p.decls.length
      · have hlt' : (i : Int) < (p.decls.length : Int) := by omega
        obtain ⟨ad, DA, dc, rfl, x0, x1, x2, x3, hc1, hk1⟩ := at_T38 HP.out.2.1 (i : Int) (by omega) (by omega)
        simp only [Int.toNat_natCast] at x0 x1 x2 x3
        replace x0 := kept0 rfl HSt.out.2.1 x0
        replace x1 := kept0 rfl HSt.out.2.1 x1
        replace x2 := kept0 rfl HSt.out.2.1 x2
        replace x3 := kept0 rfl HSt.out.2.1 x3
        have HPt := Aside0.mk (pubs_take hlt)
        have HDs := Aside0.mk (HSm.out.2 i hlt)
        have HPl := Aside0.mk (pubs_le HSm.out i (by omega))
        have HDk : Aside0 ((rd_T38 p.decls i).f3.length ≤ dc ∧ Kd.C (Kd.int .u64) w DA (rd_T38 p.decls i).f3.length (rd_T38 p.decls i).f3) := ⟨⟨hc1, hk1⟩⟩
        clear hc1 hk1
        generalize rd_T38 p.decls i = d at *
        obtain ⟨nw, hnw⟩ : ∃ nw : Nat, mx d.f2 1 = (nw : Int) ∧ 1 ≤ nw ∧ nw ≤ 256 := ⟨(mx d.f2 1).toNat, by have := HDs.out; unfold mx; split <;> omega⟩
        have HWd : Aside0 (∀ W, Below w.heap.size w W → Calls Tryz.prog 24 #[.agg #[.int .i64 d.f0, .string d.f1, .int .i64 d.f2, .slice DA d.f3.length dc]] W fun e w' => e = .returned (.int .i64 (nw : Int)) ∧ Below W.heap.size W w') := ⟨fun W hW => cadenceref17_words.calls d.f0 d.f1 d.f2 DA dc d.f3 _ W (Kd.C_below HDk.out.2 hW) HDk.out.1 (by unfold cadenceref17_words.f; rw [hnw.1])⟩
        have HNw : Aside0 (1 ≤ nw ∧ nw ≤ 256 ∧ pub1 d = if d.f0 ≤ 2 then nw else 0) := ⟨⟨hnw.2.1, hnw.2.2, by unfold pub1; rw [hnw.1, Int.toNat_natCast]⟩⟩
        have HDbox : Aside0 (∀ W : World, W.heap[wr.heap.size]? = some (.cells #[.int .i64 d.f0, .string d.f1, .int .i64 d.f2, .slice DA d.f3.length dc] 38 (0, 0)) → W.cell? ⟨wr.heap.size, 0, none⟩ = some (.int .i64 d.f0) ∧ W.cell? ⟨wr.heap.size, 1, none⟩ = some (.string d.f1) ∧ W.cell? ⟨wr.heap.size, 2, none⟩ = some (.int .i64 d.f2) ∧ W.cell? ⟨wr.heap.size, 3, none⟩ = some (.slice DA d.f3.length dc)) := ⟨fun W h => by simp [World.cell?, h]⟩
        have HBs : Aside0 (w.heap.size ≤ wr.heap.size) := ⟨HSt.out.2.1.size⟩
        go_upto_region 9 with (fail)
        obtain ⟨W3, hW3⟩ : ∃ W3, wr.alloc (.cells #[.int .i64 d.f0, .string d.f1, .int .i64 d.f2, .slice DA d.f3.length dc] 38) = W3 := ⟨_, rfl⟩
        have HSt3 : Aside0 (Dst w.heap.size w p (some ad) c3 A4 c4 lv (pubs (p.decls.take i)) W3 ∧ W3.heap[wr.heap.size]? = some (.cells #[.int .i64 d.f0, .string d.f1, .int .i64 d.f2, .slice DA d.f3.length dc] 38 (0, 0)) ∧ w.heap.size ≤ W3.heap.size) := ⟨by
          rw [← hW3]
          exact ⟨HSt.out.below HBs.out (below_alloc (Below.refl _ _) _), one_a wr _, Nat.le_trans HBs.out (below_alloc (Below.refl wr.heap.size wr) _).size⟩⟩
        rw [hW3]
        clear z0 z1 z2 z3 z4 x0 x1 x2 x3 hW3 HSt hnw
        generalize wr.heap.size = gd at *
        go_wp2_with fail
        go_loopg [5, 8] (pub1 d) (fun m v5 v8 wq => ∃ (k : Nat) (lv2 : Value), lv2 = v5 ∧ v8 = .int .i64 (k : Int) ∧ m = pub1 d - k ∧ k ≤ pub1 d ∧ Dst w.heap.size w p (some ad) c3 A4 c4 lv2 (pubs (p.decls.take i) + k) wq ∧ wq.heap[gd]? = some (.cells #[.int .i64 d.f0, .string d.f1, .int .i64 d.f2, .slice DA d.f3.length dc] 38 (0, 0)))
        case atStart => exact ⟨0, _, rfl, rfl, rfl, Nat.zero_le _, HSt3.out.1, HSt3.out.2.1⟩
        case round =>
          obtain ⟨k, lv2, rfl, rfl, rfl, hk, hst2, hdb⟩ := hrel
          obtain ⟨z0, z1, z2, z3⟩ := HDbox.out _ hdb
          have HSt2 := Aside0.mk hst2
          have HDb := Aside0.mk hdb
          have HKk := Aside0.mk hk
          have HBq : Aside0 (w.heap.size ≤ wr.heap.size) := ⟨hst2.2.1.size⟩
          clear hst2 hdb
          by_cases hk2 : d.f0 ≤ 2
          · have HPu : Aside0 (pub1 d = nw) := ⟨by rw [HNw.out.2.2, if_pos hk2]⟩
            by_cases hlt2 : k < nw
            · have e1 : (k : Int) < (nw : Int) := by omega
              have e2 : decide (d.f0 ≤ 2) = true := by simp [hk2]
              go_upto_region 12 with (go_at_call 24; refine (HWd.out _ HSt2.out.2.1).mono ?_; rintro x' w6 ⟨rfl, hb6⟩; have HS6 := Aside0.mk (HSt2.out.below HBq.out hb6); have HD6 := Aside0.mk ((Kept4.below hb6) _ _ _ _ (by decide) HDb.out); have HB6 : Aside0 (w.heap.size ≤ w6.heap.size) := ⟨Nat.le_trans HBq.out hb6.size⟩; obtain ⟨q0, q1, q2, q3⟩ := HDbox.out _ HD6.out; clear hb6)
              obtain ⟨xs, ho⟩ := HS6.out.1
              have HO := Aside0.mk (ho.alloc (.cells #[.bool (d.f0 == 1)] 4))
              have HSA := Aside0.mk (HS6.out.below HB6.out (below_alloc (Below.refl w6.heap.size w6) (.cells #[.bool (d.f0 == 1)] 4)))
              have HDA := Aside0.mk ((Kept4.below (below_alloc (Below.refl w6.heap.size w6) (.cells #[.bool (d.f0 == 1)] 4))) _ _ _ _ (by decide) HD6.out)
              have HBA : Aside0 (w.heap.size ≤ (w6.alloc (.cells #[.bool (d.f0 == 1)] 4)).heap.size) := ⟨Nat.le_trans HB6.out (below_alloc (Below.refl w6.heap.size w6) _).size⟩
              have HLen : Aside0 (pubs (p.decls.take i) + k + 1 ≤ maxLen ∧ (pubs (p.decls.take i) + k + 1) * 1 ≤ 140737488355328 ∧ wrap64 ((k : Int) + 1) = ((k + 1 : Nat) : Int) ∧ k + 1 ≤ pub1 d) := ⟨by
                have h1 := HPl.out
                have h2 := HSm.out.1
                have h3 := HNw.out.2.1
                have h4 := HPu.out
                unfold maxLen
                refine ⟨?_, ?_, wrap_next (by omega), by omega⟩ <;> omega⟩
              clear ho q0 q1 q2 q3 z0 z1 z2 z3
              obtain ⟨q0, q1, q2, q3⟩ := HDbox.out _ HD6.out
              have HNN : Aside0 (pubs (p.decls.take i) + (k + 1) = pubs (p.decls.take i) + k + 1) := ⟨rfl⟩
              generalize pubs (p.decls.take i) + k = nn at *
              go_wp2_with (refine wpList_append_lies _ rfl (.tmp 37) (.tmp 41) 33 rfl w.heap.size 4 i0 _ 1 1 Tryz.underlying33 HI0.out.1 HI0.out.2.1 HI0.out.2.2.1 HI0.out.2.2.2 rfl (by decide) lv2 nn xs rfl HO.out ⟨w6.heap.size, 0, none⟩ 1 1 [.bool (d.f0 == 1)] rfl rfl (World.news_of_block (B := w6.heap.size) (t := 4) (fr := (0, 0)) (one_a w6 _)) (one_cells1 _ rfl) (by decide) HLen.out.1 HLen.out.2.1 HBA.out _ rfl ?_; intro g5 cap5 w7 ho5 hg5 _ _; have HS7 := Aside0.mk (Dst.add HSA.out.2.1 HSA.out.2.2 HBA.out HO.out hg5 ho5); have HD7 := Aside0.mk ((Kept4.grown HO.out hg5) _ _ _ _ (by decide) HDA.out); clear ho5 hg5)
              go_roundg (pub1 d - (k + 1))
              case measure => have := HLen.out.2.2.2; omega
              case rel => exact ⟨k + 1, _, rfl, by rw [HLen.out.2.2.1], rfl, HLen.out.2.2.2, by rw [HNN.out]; exact HS7.out, HD7.out⟩
            · have e1 : ¬ ((k : Int) < (nw : Int)) := by omega
              have e2 : decide ((k : Int) < (nw : Int)) = false := by simpa using e1
              have HE : Aside0 (pubs (p.decls.take i) + k = pubs (p.decls.take (i + 1)) ∧ i + 1 ≤ p.decls.length) := ⟨by rw [HPt.out, HPu.out]; have := HKk.out; rw [HPu.out] at this; omega, by omega⟩
              clear hk2
              go_wp2_with (go_at_call 24; refine (HWd.out _ HSt2.out.2.1).mono ?_; rintro x' w6 ⟨rfl, hb6⟩; have HS6 := Aside0.mk (HSt2.out.below HBq.out hb6); have HD6 := Aside0.mk ((Kept4.below hb6) _ _ _ _ (by decide) HDb.out); have HB6 : Aside0 (w.heap.size ≤ w6.heap.size) := ⟨Nat.le_trans HBq.out hb6.size⟩; obtain ⟨q0, q1, q2, q3⟩ := HDbox.out _ HD6.out; clear hb6)
              go_roundg (p.decls.length - (i + 1))
              case measure => have := HE.out.2; omega
              case rel => exact ⟨i + 1, _, rfl, rfl, rfl, HE.out.2, by rw [← HE.out.1]; exact HS6.out⟩
          · have HPu : Aside0 (pub1 d = 0) := ⟨by rw [HNw.out.2.2, if_neg hk2]⟩
            have hk0 : k = 0 := by have := HPu.out; omega
            subst hk0
            have e1 : (0 : Int) < (nw : Int) := by have := HNw.out.1; omega
            have e2 : decide (d.f0 ≤ 2) = false := by simpa using hk2
            have HE : Aside0 (pubs (p.decls.take i) + 0 = pubs (p.decls.take (i + 1)) ∧ i + 1 ≤ p.decls.length) := ⟨by rw [HPt.out, HPu.out], by omega⟩
            clear hk2
            go_wp2_with (go_at_call 24; refine (HWd.out _ HSt2.out.2.1).mono ?_; rintro x' w6 ⟨rfl, hb6⟩; have HS6 := Aside0.mk (HSt2.out.below HBq.out hb6); have HD6 := Aside0.mk ((Kept4.below hb6) _ _ _ _ (by decide) HDb.out); have HB6 : Aside0 (w.heap.size ≤ w6.heap.size) := ⟨Nat.le_trans HBq.out hb6.size⟩; obtain ⟨q0, q1, q2, q3⟩ := HDbox.out _ HD6.out; clear hb6)
            go_roundg (p.decls.length - (i + 1))
            case measure => have := HE.out.2; omega
            case rel => exact ⟨i + 1, _, rfl, rfl, rfl, HE.out.2, by rw [← HE.out.1]; exact HS6.out⟩
      · have hlt' : ¬ ((i : Int) < (p.decls.length : Int)) := by omega
        have HE : Aside0 (pubs (p.decls.take i) = pubs p.decls) := ⟨by rw [List.take_of_length_le (by omega)]⟩
        go_wp2_with fail
        go_ret2
        obtain ⟨A, k, rfl⟩ := HSt.out.1.opens
        exact ⟨⟨_, _, rfl, ⟨fun _ => HC0.out, fun _ => rfl⟩, A, k, _, rfl, fun _ => HE.out⟩, HSt.out.2.1⟩
  · have h1 : (c1 != 0) = true := by simpa using h0
    go_wp2_with fail
    go_ret2
    exact ⟨⟨_, _, rfl, HC1.out, none, 0, 0, rfl, fun h => absurd h h0⟩, B3.out⟩
/-- what Length answers -/
def LenPost (p : PR) (w : World) (e : Ending) (w' : World) : Prop := (∃ n c : Int, e = .returned (.tuple #[.int .i64 n, .int .i64 c]) ∧ (c = 0 ↔ wfB p.formB p) ∧ (c = 0 → n = pubs p.decls)) ∧ Below w.heap.size w w'
set_option maxHeartbeats 1000000 in
theorem rlength_any (p : PR) (A3 : Option Addr) (c3 : Nat) (A4 : Option Addr) (c4 : Nat) (w : World) (hp : p.At w A3 c3 A4 c4) (hf : p.fits) (hl : p.decls.length ≤ 1048576) (hv : ∀ d, d ∈ p.decls → d.f3.length ≤ 1048576) (hb : S52.bulks p.body ≤ 1048576) :
    Calls Tryz.prog 11 #[p.cells A3 c3 A4 c4] w fun e w' => LenPost p w e w' := by
  have B := below_alloc (Below.refl w.heap.size w) (p.row A3 c3 A4 c4)
  have HC := Aside0.mk (rpublic_any p A3 c3 A4 c4 _ (At_below hp B) hf hl hv hb)
  have BB := Aside0.mk B
  clear B hp hf hl hv hb
  unfold PR.row at HC BB
  unfold PR.cells at *
  go_enter Tryz.func11, Tryz.ntmps11
  go_wp2_with (go_at_call 16; refine HC.out.mono ?_; rintro x' w2 ⟨⟨v, c, rfl, h1, A, k, n, rfl, h2⟩, hb⟩; have H1 := Aside0.mk h1; have H2 := Aside0.mk h2; have B2 := Aside0.mk (below_step BB.out hb); clear h1 h2 hb)
  go_ret2
  exact ⟨⟨_, _, rfl, H1.out, fun h => by rw [H2.out h]⟩, B2.out⟩
end Go.Proofs.YtjomofepephodaaGreat.PEquivShapes
