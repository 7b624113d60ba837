/-
  The document's kind. Conditions: what each theorem names.
-/
import Derived.Test.YtjomofepephodaaGreatGu
set_option linter.unusedVariables false
set_option linter.unusedSimpArgs false
namespace Go.Proofs.YtjomofepephodaaGreat.PEquivShapes
open Go.RowKit
open Go.Proofs.YtjomofepephodaaGreatW.PrintWords Go.Proofs.YtjomofepephodaaGreatW.PrintLast Go.Proofs.YtjomofepephodaaGreatW.PrintMore
/-- what a thing's cells tell -/
structure TV where
  is : Int
  sk : Int
  sn : ByteArray
  lo : Int
  hi : Int
  ek : Int
  en : Int
  es : ByteArray
  dp : Int
def TH.view : TH → TV
  | .decl => ⟨0, 0, ⟨#[]⟩, 0, 0, 0, 0, ⟨#[]⟩, 0⟩
  | .stmt s d => ⟨1, s.f0, s.f1, s.f4, s.f5, 0, 0, ⟨#[]⟩, d⟩
  | .expr e => ⟨2, 0, ⟨#[]⟩, 0, 0, e.f0, e.f1, e.f2, e.dep⟩
/-- a thing's cells in a row -/
def TRow (t : TV) (LA : Option Addr) (n lc : Nat) (cs : List Value) : Prop :=
  ∃ (d k1 k2 : Int) (k3 : ByteArray) (k4 : Option Addr × Nat × Nat) (b1 b2 : Int) (b3 : ByteArray) (b4 q1 q2 r : Option Addr × Nat × Nat), cs = [.int .i64 t.is, .int .i64 d, .int .i64 t.sk, .string t.sn, .int .i64 k1, .int .u64 k2, .string k3, .slice k4.1 k4.2.1 k4.2.2, .int .i64 b1, .int .u64 b2, .string b3, .slice b4.1 b4.2.1 b4.2.2, .int .u64 t.lo, .int .u64 t.hi, .slice q1.1 q1.2.1 q1.2.2, .slice q2.1 q2.2.1 q2.2.2, .int .i64 t.ek, .int .u64 t.en, .string t.es, .slice r.1 r.2.1 r.2.2, .int .i64 t.dp, .slice LA n lc]
theorem trow {w0 w : World} {t : TH} {ls : List ByteArray} {cs : List Value} (h : ThIn w0 w (t, ls) cs) (hd : t = .decl → ls = []) : ∃ LA lc, TRow t.view LA ls.length lc cs ∧ LsAt w LA lc ls := by
  cases t with
  | decl =>
    obtain ⟨i, rfl⟩ := h
    obtain rfl := hd rfl
    exact ⟨none, 0, ⟨i, 0, 0, ⟨#[]⟩, (none, 0, 0), 0, 0, ⟨#[]⟩, (none, 0, 0), (none, 0, 0), (none, 0, 0), (none, 0, 0), rfl⟩, Nat.le_refl _, .inl ⟨rfl, rfl, rfl⟩⟩
  | stmt s deep =>
    obtain ⟨A5, c5, A9, c9, A12, c12, A13, c13, LA, lc, rfl, _, _, _, _, _, _, _, _, h⟩ := h
    exact ⟨LA, lc, ⟨0, s.f2.f0, s.f2.f1, s.f2.f2, (A5, s.f2.f3.length, c5), s.f3.f0, s.f3.f1, s.f3.f2, (A9, s.f3.f3.length, c9), (A12, s.f6.length, c12), (A13, s.f7.length, c13), (none, 0, 0), rfl⟩, h⟩
  | expr e =>
    obtain ⟨A, c, LA, lc, rfl, _, _, h⟩ := h
    exact ⟨LA, lc, ⟨0, 0, 0, ⟨#[]⟩, (none, 0, 0), 0, 0, ⟨#[]⟩, (none, 0, 0), (none, 0, 0), (none, 0, 0), (A, e.f3.length, c), rfl⟩, h⟩
theorem newBlk {W w1 : World} {Z : Obj} (h : Below ((W.alloc Z).drew).heap.size ((W.alloc Z).drew) w1) : w1.heap[W.heap.size]? = some Z :=
  (h.block W.heap.size (by simp [go_sem])).trans (one_a W Z)
theorem cellsOf {w : World} {g : Nat} {cs : Array Value} {t : TypeId} (h : w.heap[g]? = some (.cells cs t (0, 0))) (j : Nat) : w.cell? ⟨g, j, none⟩ = cs[j]? := cell_of_row w g j cs t (0, 0) h
set_option maxHeartbeats 4000000 in
set_option maxRecDepth 100000 in
theorem rkind_no (p : PR) (A3 : Option Addr) (c3 : Nat) (A4 : Option Addr) (c4 : Nat) (t : TV) (LA : Option Addr) (lc : Nat) (ls : List ByteArray) (cs : List Value) (s : ByteArray) (i : Nat) (w : World) (hp : p.At w A3 c3 A4 c4) (hb : p.decls.length ≤ 1048576) (hr : TRow t LA ls.length lc cs) (hl : LsAt w LA lc ls) (hn : ls.length ≤ 4194304)
    (hh : hasB ls s = false) (hi : findI p.decls s = some i) (b : Bool)
    (hbv : b = if t.is = 2 ∧ t.ek = 2 then decide ((rd_T38 p.decls i).f2 = 0) else if t.is = 2 then !decide ((rd_T38 p.decls i).f2 = 0) else if t.sk = 2 then !decide ((rd_T38 p.decls i).f2 = 0) && !decide ((rd_T38 p.decls i).f0 = 3) else decide ((rd_T38 p.decls i).f2 = 0)) :
    Calls Tryz.prog 74 #[p.cells A3 c3 A4 c4, .agg cs.toArray, .string s] w fun e w' => e = .returned (.bool b) ∧ Below w.heap.size w w' := by
  have hu := Tryz.underlying22
  have HH : Aside0 (∀ W, Below w.heap.size w W → Calls Tryz.prog 73 #[.slice LA ls.length lc, .string s] W fun e w' => e = .returned (.bool false) ∧ w' = W) := ⟨fun W hW => by have h := rin_any LA lc ls s W (hl.grows (base := 0) (Grows.below hW)) hn; rwa [hh] at h⟩
  have HF : Aside0 (∀ W, Below w.heap.size w W → Calls Tryz.prog 68 #[.agg #[.string p.name, .int .i64 p.width, .int .i64 p.line, .slice A3 p.decls.length c3, .slice A4 p.body.length c4], .string s] W fun e w' => e = .returned (.int .i64 (i : Int)) ∧ Below W.heap.size W w') := ⟨fun W hW => by have h := rdecl_any p A3 c3 A4 c4 s W (At_below hp hW) hb; rwa [hi] at h⟩
  have hil := findI_lt hi
  have hll : (p.decls.length : Int) ≤ 9223372036854775807 := by omega
  obtain ⟨hl3, h3p, _, _⟩ := hp
  obtain ⟨ad, A, c, rfl, x0, x1, x2, x3, _, _⟩ := at_T38 h3p (i : Int) (by omega) (by omega)
  simp only [Int.toNat_natCast] at x0 x1 x2 x3
  have hil' : (i : Int) < (p.decls.length : Int) := by omega
  clear hi hh hb hl3 h3p hl hn hil
  generalize rd_T38 p.decls i = dd at *
  obtain ⟨d, k1, k2, k3, k4, b1, b2, b3, b4, q1, q2, r, rfl⟩ := hr
  obtain ⟨W2, hW2⟩ : ∃ W2, (w.alloc (.cells #[.string p.name, .int .i64 p.width, .int .i64 p.line, .slice (some ad) p.decls.length c3, .slice A4 p.body.length c4] 25)).alloc (.cells #[.int .i64 t.is, .int .i64 d, .int .i64 t.sk, .string t.sn, .int .i64 k1, .int .u64 k2, .string k3, .slice k4.1 k4.2.1 k4.2.2, .int .i64 b1, .int .u64 b2, .string b3, .slice b4.1 b4.2.1 b4.2.2, .int .u64 t.lo, .int .u64 t.hi, .slice q1.1 q1.2.1 q1.2.2, .slice q2.1 q2.2.1 q2.2.2, .int .i64 t.ek, .int .u64 t.en, .string t.es, .slice r.1 r.2.1 r.2.2, .int .i64 t.dp, .slice LA ls.length lc] 79) = W2 := ⟨_, rfl⟩
  obtain ⟨z0, z2, z16, z21, y0, y1, y2, y3, y4⟩ : W2.cell? ⟨w.heap.size + 1, 0, none⟩ = some (.int .i64 t.is) ∧ W2.cell? ⟨w.heap.size + 1, 2, none⟩ = some (.int .i64 t.sk) ∧ W2.cell? ⟨w.heap.size + 1, 16, none⟩ = some (.int .i64 t.ek) ∧ W2.cell? ⟨w.heap.size + 1, 21, none⟩ = some (.slice LA ls.length lc) ∧ W2.cell? ⟨w.heap.size, 0, none⟩ = some (.string p.name) ∧ W2.cell? ⟨w.heap.size, 1, none⟩ = some (.int .i64 p.width) ∧ W2.cell? ⟨w.heap.size, 2, none⟩ = some (.int .i64 p.line) ∧ W2.cell? ⟨w.heap.size, 3, none⟩ = some (.slice (some ad) p.decls.length c3) ∧ W2.cell? ⟨w.heap.size, 4, none⟩ = some (.slice A4 p.body.length c4) := by rw [← hW2]; simp [go_sem]
  have B : Below w.heap.size w W2 := by rw [← hW2]; exact below_alloc (below_alloc (Below.refl _ _) _) _
  have BB := Aside0.mk B
  replace x0 := kept_cell B x0
  replace x1 := kept_cell B x1
  replace x2 := kept_cell B x2
  replace x3 := kept_cell B x3
  have HV := Aside0.mk hbv
  unfold PR.cells
  clear hbv
  go_enter Tryz.func74, Tryz.ntmps74
  go_upto_region 1 with (fail)
  try rw [hW2]
  clear hW2 B
  go_upto_region 3 with (go_at_call 73; refine (HH.out _ BB.out).mono ?_; rintro e w2 ⟨rfl, rfl⟩)
  go_cut [7] from 8 to 63 (fun v7 wx => ∃ g, v7 = .pointer (some ⟨g, 0, none⟩) ∧ wx.cell? ⟨g, 0, none⟩ = some (.int .i64 dd.f0) ∧ wx.cell? ⟨g, 2, none⟩ = some (.int .i64 dd.f2) ∧ wx.cell? ⟨w.heap.size + 1, 0, none⟩ = some (.int .i64 t.is) ∧ wx.cell? ⟨w.heap.size + 1, 2, none⟩ = some (.int .i64 t.sk) ∧ wx.cell? ⟨w.heap.size + 1, 16, none⟩ = some (.int .i64 t.ek) ∧ Below w.heap.size w wx)
  case first =>
    have HK : Aside0 (∀ w' : World, Below w2.heap.size w2 w' → w'.cell? (ad.add (i * 4)) = some (.int .i64 dd.f0) ∧ w'.cell? ⟨(ad.add (i * 4)).block, (ad.add (i * 4)).off + 1, none⟩ = some (.string dd.f1) ∧ w'.cell? ⟨(ad.add (i * 4)).block, (ad.add (i * 4)).off + 2, none⟩ = some (.int .i64 dd.f2) ∧ w'.cell? ⟨(ad.add (i * 4)).block, (ad.add (i * 4)).off + 3, none⟩ = some (.slice A dd.f3.length c) ∧ w'.cell? ⟨w.heap.size, 0, none⟩ = some (.string p.name) ∧ w'.cell? ⟨w.heap.size, 1, none⟩ = some (.int .i64 p.width) ∧ w'.cell? ⟨w.heap.size, 2, none⟩ = some (.int .i64 p.line) ∧ w'.cell? ⟨w.heap.size, 3, none⟩ = some (.slice (some ad) p.decls.length c3) ∧ w'.cell? ⟨w.heap.size, 4, none⟩ = some (.slice A4 p.body.length c4)) := ⟨fun w' h => ⟨kept_cell h x0, kept_cell h x1, kept_cell h x2, kept_cell h x3, kept_cell h y0, kept_cell h y1, kept_cell h y2, kept_cell h y3, kept_cell h y4⟩⟩
    have HZ : Aside0 (∀ w' : World, Below w2.heap.size w2 w' → w'.cell? ⟨w.heap.size + 1, 0, none⟩ = some (.int .i64 t.is) ∧ w'.cell? ⟨w.heap.size + 1, 2, none⟩ = some (.int .i64 t.sk) ∧ w'.cell? ⟨w.heap.size + 1, 16, none⟩ = some (.int .i64 t.ek) ∧ Below w.heap.size w w') := ⟨fun w' h => ⟨kept_cell h z0, kept_cell h z2, kept_cell h z16, below_step BB.out h⟩⟩
    have hS0 := HK.out _ (Below.refl _ _)
    clear x0 x1 x2 x3 y0 y1 y2 y3 y4 z0 z2 z16 z21
    have T1 : True := trivial
    go_region_held3 (fun w' => w'.cell? (ad.add (i * 4)) = some (.int .i64 dd.f0) ∧ w'.cell? ⟨(ad.add (i * 4)).block, (ad.add (i * 4)).off + 1, none⟩ = some (.string dd.f1) ∧ w'.cell? ⟨(ad.add (i * 4)).block, (ad.add (i * 4)).off + 2, none⟩ = some (.int .i64 dd.f2) ∧ w'.cell? ⟨(ad.add (i * 4)).block, (ad.add (i * 4)).off + 3, none⟩ = some (.slice A dd.f3.length c) ∧ w'.cell? ⟨w.heap.size, 0, none⟩ = some (.string p.name) ∧ w'.cell? ⟨w.heap.size, 1, none⟩ = some (.int .i64 p.width) ∧ w'.cell? ⟨w.heap.size, 2, none⟩ = some (.int .i64 p.line) ∧ w'.cell? ⟨w.heap.size, 3, none⟩ = some (.slice (some ad) p.decls.length c3) ∧ w'.cell? ⟨w.heap.size, 4, none⟩ = some (.slice A4 p.body.length c4)) (first | exact hS0 | exact HK.out _ (by repeat (first | exact Below.refl _ _ | exact BC.out | refine below_drew1 ?_ | refine below_alloc ?_ _ | refine below_set ?_ (Nat.le_refl _)))) (first | (clear T1; go_at_call 68; refine (HF.out _ (below_step BB.out (by repeat (first | exact Below.refl _ _ | exact BC.out | refine below_drew1 ?_ | refine below_alloc ?_ _ | refine below_set ?_ (Nat.le_refl _))))).mono ?_; rintro e w1 ⟨rfl, hb⟩; have BC := Aside0.mk (show Below w2.heap.size w2 w1 from below_step (by repeat (first | exact Below.refl _ _ | exact BC.out | refine below_drew1 ?_ | refine below_alloc ?_ _ | refine below_set ?_ (Nat.le_refl _))) hb); (first | (have hZ := newBlk (Z := .cells #[.int .i64 0, .string ⟨#[]⟩, .int .i64 0, .slice none 0 0] 38) hb; have q0 := (cellsOf hZ 0).trans rfl; have q1 := (cellsOf hZ 1).trans rfl; have q2 := (cellsOf hZ 2).trans rfl; have q3 := (cellsOf hZ 3).trans rfl; have f0 := blk_frozen hZ 0; have f1 := blk_frozen hZ 1; have f2 := blk_frozen hZ 2; have f3 := blk_frozen hZ 3) | skip); clear hb))
    all_goals (go_wp2_with fail; go_meet)
    all_goals (refine ⟨_, rfl, by simp [*, go_sem], by simp [*, go_sem], ?_⟩; exact HZ.out _ (by repeat (first | exact Below.refl _ _ | exact BC.out | refine below_drew1 ?_ | refine below_alloc ?_ _ | refine below_set ?_ (Nat.le_refl _))))
  case rest =>
    obtain ⟨g, rfl, v0, v2, z0', z2', z16', BX⟩ := hcut
    clear x0 x1 x2 x3 y0 y1 y2 y3 y4 z0 z2 z16 z21 BB HH HF
    have HBX := Aside0.mk BX
    clear BX
    generalize t.is = ti at *
    generalize t.ek = tk at *
    generalize t.sk = ts at *
    generalize dd.f2 = sz at *
    generalize dd.f0 = dk at *
    by_cases a1 : ti = 2
    · have b1 : (ti == 2) = true := by simp [a1]
      by_cases a2 : tk = 2
      · have b2 : (tk == 2) = true := by simp [a2]
        have HE : Aside0 (b = (sz == 0)) := ⟨by rw [HV.out, if_pos ⟨a1, a2⟩]; rfl⟩
        clear a1 a2 HV
        go_wp2_with fail
        go_ret
        exact ⟨by rw [HE.out]; rfl, HBX.out⟩
      · have b2 : (tk == 2) = false := by simp [a2]
        have HE : Aside0 (b = (sz != 0)) := ⟨by rw [HV.out, if_neg (fun h => a2 h.2), if_pos a1]; rfl⟩
        clear a1 a2 HV
        go_wp2_with fail
        go_ret
        exact ⟨by rw [HE.out]; rfl, HBX.out⟩
    · have b1 : (ti == 2) = false := by simp [a1]
      by_cases a2 : ts = 2
      · have b2 : (ts == 2) = true := by simp [a2]
        by_cases a3 : sz = 0
        · have b3 : (sz != 0) = false := by simp [a3]
          have HE : Aside0 (b = false) := ⟨by rw [HV.out, if_neg (fun h => a1 h.1), if_neg a1, if_pos a2]; simp [a3]⟩
          clear a1 a2 a3 HV
          go_wp2_with fail
          go_ret
          exact ⟨by rw [HE.out]; rfl, HBX.out⟩
        · have b3 : (sz != 0) = true := by simp [a3]
          have HE : Aside0 (b = (dk != 3)) := ⟨by rw [HV.out, if_neg (fun h => a1 h.1), if_neg a1, if_pos a2]; simp [a3, bne]; rfl⟩
          clear a1 a2 a3 HV
          go_wp2_with fail
          go_ret
          exact ⟨by rw [HE.out]; rfl, HBX.out⟩
      · have b2 : (ts == 2) = false := by simp [a2]
        have HE : Aside0 (b = (sz == 0)) := ⟨by rw [HV.out, if_neg (fun h => a1 h.1), if_neg a1, if_neg a2]; rfl⟩
        clear a1 a2 HV
        go_wp2_with fail
        go_ret
        exact ⟨by rw [HE.out]; rfl, HBX.out⟩
set_option maxHeartbeats 4000000 in
set_option maxRecDepth 100000 in
theorem rkind_yes (p : PR) (A3 : Option Addr) (c3 : Nat) (A4 : Option Addr) (c4 : Nat) (t : TV) (LA : Option Addr) (lc : Nat) (ls : List ByteArray) (cs : List Value) (s : ByteArray) (w : World) (hr : TRow t LA ls.length lc cs) (hl : LsAt w LA lc ls) (hn : ls.length ≤ 4194304)
    (hh : hasB ls s = true) (b : Bool) (hbv : b = decide (t.is = 2 ∧ t.ek = 2)) :
    Calls Tryz.prog 74 #[p.cells A3 c3 A4 c4, .agg cs.toArray, .string s] w fun e w' => e = .returned (.bool b) ∧ Below w.heap.size w w' := by
  have HH : Aside0 (∀ W, Below w.heap.size w W → Calls Tryz.prog 73 #[.slice LA ls.length lc, .string s] W fun e w' => e = .returned (.bool true) ∧ w' = W) := ⟨fun W hW => by have h := rin_any LA lc ls s W (hl.grows (base := 0) (Grows.below hW)) hn; rwa [hh] at h⟩
  clear hl hn hh
  obtain ⟨d, k1, k2, k3, k4, b1, b2, b3, b4, q1, q2, r, rfl⟩ := hr
  obtain ⟨W2, hW2⟩ : ∃ W2, (w.alloc (.cells #[.string p.name, .int .i64 p.width, .int .i64 p.line, .slice A3 p.decls.length c3, .slice A4 p.body.length c4] 25)).alloc (.cells #[.int .i64 t.is, .int .i64 d, .int .i64 t.sk, .string t.sn, .int .i64 k1, .int .u64 k2, .string k3, .slice k4.1 k4.2.1 k4.2.2, .int .i64 b1, .int .u64 b2, .string b3, .slice b4.1 b4.2.1 b4.2.2, .int .u64 t.lo, .int .u64 t.hi, .slice q1.1 q1.2.1 q1.2.2, .slice q2.1 q2.2.1 q2.2.2, .int .i64 t.ek, .int .u64 t.en, .string t.es, .slice r.1 r.2.1 r.2.2, .int .i64 t.dp, .slice LA ls.length lc] 79) = W2 := ⟨_, rfl⟩
  obtain ⟨z0, z16, z21⟩ : W2.cell? ⟨w.heap.size + 1, 0, none⟩ = some (.int .i64 t.is) ∧ W2.cell? ⟨w.heap.size + 1, 16, none⟩ = some (.int .i64 t.ek) ∧ W2.cell? ⟨w.heap.size + 1, 21, none⟩ = some (.slice LA ls.length lc) := by rw [← hW2]; simp [go_sem]
  have B : Below w.heap.size w W2 := by rw [← hW2]; exact below_alloc (below_alloc (Below.refl _ _) _) _
  have BB := Aside0.mk B
  unfold PR.cells
  go_enter Tryz.func74, Tryz.ntmps74
  go_upto_region 1 with (fail)
  try rw [hW2]
  clear hW2 B
  generalize t.is = ti at *
  generalize t.ek = tk at *
  have HV := Aside0.mk hbv
  clear hbv
  by_cases a1 : ti = 2
  · have e1 : (ti == 2) = true := by simp [a1]
    have HE : Aside0 (b = (tk == 2)) := ⟨by rw [HV.out]; simp [a1]; rfl⟩
    clear a1 HV
    go_wp2_with (go_at_call 73; refine (HH.out _ BB.out).mono ?_; rintro e w2 ⟨rfl, rfl⟩)
    go_ret
    exact ⟨by rw [HE.out]; rfl, BB.out⟩
  · have e1 : (ti == 2) = false := by simp [a1]
    have HE : Aside0 (b = false) := ⟨by rw [HV.out]; simp [a1]⟩
    clear a1 HV
    go_wp2_with (go_at_call 73; refine (HH.out _ BB.out).mono ?_; rintro e w2 ⟨rfl, rfl⟩)
    go_ret
    exact ⟨by rw [HE.out]; rfl, BB.out⟩
/-- kind answers as package wf's -/
theorem rkind_any (p : PR) (A3 : Option Addr) (c3 : Nat) (A4 : Option Addr) (c4 : Nat) (t : TH) (LA : Option Addr) (lc : Nat) (ls : List ByteArray) (cs : List Value) (s : ByteArray) (w : World) (hp : p.At w A3 c3 A4 c4) (hb : p.decls.length ≤ 1048576) (hr : TRow t.view LA ls.length lc cs) (hl : LsAt w LA lc ls) (hn : ls.length ≤ 4194304)
    (hk : hasB ls s = true ∨ (findI p.decls s).isSome = true) (hs : ∀ i, i < p.decls.length → 0 ≤ (rd_T38 p.decls i).f2) (hu : t.use.2 = true) (hok : t.ok) :
    Calls Tryz.prog 74 #[p.cells A3 c3 A4 c4, .agg cs.toArray, .string s] w fun e w' => e = .returned (.bool (kindB p t ls s)) ∧ Below w.heap.size w w' := by
  unfold kindB
  cases hh : hasB ls s with
  | true =>
    refine rkind_yes p A3 c3 A4 c4 t.view LA lc ls cs s w hr hl hn hh _ ?_
    rw [if_pos rfl]
    cases t with
    | decl => simp [TH.plain, TH.view]
    | stmt s deep => simp [TH.plain, TH.view]
    | expr e => simp [TH.plain, TH.view]
  | false =>
    obtain ⟨i, hi⟩ : ∃ i, findI p.decls s = some i := by simpa [hh, Option.isSome_iff_exists] using hk
    refine rkind_no p A3 c3 A4 c4 t.view LA lc ls cs s i w hp hb hr hl hn hh hi _ ?_
    rw [if_neg (by simp), hi]
    have h0 := hs i (findI_lt hi)
    dsimp only
    generalize rd_T38 p.decls i = dd at *
    have hz : decide (0 < dd.f2) = !decide (dd.f2 = 0) := by
      by_cases h : dd.f2 = 0
      · simp [h]
      · simp [h]; omega
    cases t with
    | decl => cases hu
    | stmt s deep =>
      unfold kindD TH.view
      dsimp only
      rw [hz, if_neg (show ¬ ((1 : Int) = 2 ∧ (0 : Int) = 2) by decide), if_neg (show ¬ (1 : Int) = 2 by decide)]
    | expr e =>
      unfold TH.use at hu
      unfold kindD TH.view
      dsimp only
      rw [hz]
      by_cases q2 : e.f0 = 2
      · rw [if_neg (show ¬ e.f0 = 3 by omega), if_pos (show (2 : Int) = 2 ∧ e.f0 = 2 from ⟨rfl, q2⟩)]
      · have q3 : e.f0 = 3 := by
          refine Classical.byContradiction fun h => ?_
          dsimp only at hu
          rw [if_neg (by rintro (h1 | h1); exact q2 h1; exact h h1)] at hu
          cases hu
        rw [if_pos q3, if_neg (show ¬ ((2 : Int) = 2 ∧ e.f0 = 2) from fun h => q2 h.2), if_pos (show (2 : Int) = 2 from rfl)]
end Go.Proofs.YtjomofepephodaaGreat.PEquivShapes
