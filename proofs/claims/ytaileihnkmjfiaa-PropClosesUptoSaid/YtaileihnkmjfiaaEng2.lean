/-
  Steps on an engine in memory: a store into one of its rows or fields, an append onto one of its rows. Conditions: none; plain lemmas.
-/
import Derived.Test.YtaileihnkmjfiaaDat
namespace Go.Proofs.Ytaileihnkmjfiaa
open Go.RowKit

section
variable {w : World} {b : Nat} {G : GH} {S : ES}

theorem Eng.drew (h : Eng w b G S) : Eng w.drew b G S := ⟨h.own.drew, h.at_, h.out0, h.out1, h.out2⟩
theorem Eng.drewN {k : Nat} (h : Eng w b G S) : Eng (w.drewN k) b G S := ⟨h.own.drewN, h.at_, h.out0, h.out1, h.out2⟩
theorem Eng.alloc (h : Eng w b G S) (o : Obj) : Eng (w.alloc o) b G S := ⟨h.own.alloc o, h.at_, h.out0, h.out1, h.out2⟩
theorem Eng.apart {w' : World} {F F' : Nat → Prop} (h : Eng w b G S) (t : Turned F w F' w') (hd : ∀ g, ft G g → ¬ F g) : Eng w' b G S :=
  ⟨h.own.apart t (feet_eq G S ▸ hd), h.at_, h.out0, h.out1, h.out2⟩
theorem Eng.setFar (h : Eng w b G S) {p : Addr} (v : Value) (hp : ¬ ft G p.block) : Eng (w.setCell p v) b G S := ⟨h.own.setFar v (feet_eq G S ▸ hp), h.at_, h.out0, h.out1, h.out2⟩
theorem Eng.foot_b (h : Eng w b G S) : ft G b := ⟨.inl 16, rfl, h.at_⟩
theorem Eng.lt (h : Eng w b G S) : b < w.heap.size := h.own.lt (feet_eq G S ▸ h.foot_b)
theorem Eng.flt (h : Eng w b G S) {x : Nat} (hx : ft G x) : x < w.heap.size := h.own.lt (feet_eq G S ▸ hx)

theorem Eng.row (h : Eng w b G S) (r : Ro) : Rw w (engT r).1 (engT r).2 (engD G S r) := h.own.row r
theorem list_set_map {α β : Type} (f : α → β) (l : List α) (k : Nat) (x : α) : (l.map f).set k (f x) = (l.set k x).map f := by rw [List.map_set]

theorem Eng.setVal (h : Eng w b G S) {g : Nat} (hg : G.g (.inl 6) = some g) (k : Nat) (x : Int) : Eng (w.setCell ⟨g, k, none⟩ (.int .i8 x)) b G { S with val := S.val.set k x } := by
  have e : upd (engD G S) (.inl 6) { engD G S (.inl 6) with xs := (engD G S (.inl 6)).xs.set k (.int .i8 x) } = engD G { S with val := S.val.set k x } :=
    engD_ext (fun f hf => by rw [upd_inl, if_neg (other_ne hf rfl), engD_other G S f hf]) rfl rfl rfl rfl (by rw [upd_same]; simp [engD, bytes8, List.map_set]) rfl rfl rfl rfl rfl rfl (by simp [upd_inl, engD, stc]) (fun _ => rfl) (fun _ => rfl) (fun _ => rfl) (fun _ _ => rfl)
  exact ⟨e ▸ h.own.set (.inl 6) (D := engD G S) k (.int .i8 x) hg, h.at_, h.out0, h.out1, h.out2⟩
theorem Eng.setLev (h : Eng w b G S) {g : Nat} (hg : G.g (.inl 7) = some g) (k : Nat) (x : Nat) : Eng (w.setCell ⟨g, k, none⟩ (i64 (x : Int))) b G { S with lev := S.lev.set k x } := by
  have e : upd (engD G S) (.inl 7) { engD G S (.inl 7) with xs := (engD G S (.inl 7)).xs.set k (i64 (x : Int)) } = engD G { S with lev := S.lev.set k x } :=
    engD_ext (fun f hf => by rw [upd_inl, if_neg (other_ne hf rfl), engD_other G S f hf]) rfl rfl rfl rfl rfl (by rw [upd_same]; simp [engD, nats, List.map_set]) rfl rfl rfl rfl rfl (by simp [upd_inl, engD, stc]) (fun _ => rfl) (fun _ => rfl) (fun _ => rfl) (fun _ _ => rfl)
  exact ⟨e ▸ h.own.set (.inl 7) (D := engD G S) k (i64 (x : Int)) hg, h.at_, h.out0, h.out1, h.out2⟩
theorem Eng.setRsn (h : Eng w b G S) {g : Nat} (hg : G.g (.inl 8) = some g) (k : Nat) (x : Nat) : Eng (w.setCell ⟨g, k, none⟩ (i64 (x : Int))) b G { S with rsn := S.rsn.set k x } := by
  have e : upd (engD G S) (.inl 8) { engD G S (.inl 8) with xs := (engD G S (.inl 8)).xs.set k (i64 (x : Int)) } = engD G { S with rsn := S.rsn.set k x } :=
    engD_ext (fun f hf => by rw [upd_inl, if_neg (other_ne hf rfl), engD_other G S f hf]) rfl rfl rfl rfl rfl rfl (by rw [upd_same]; simp [engD, nats, List.map_set]) rfl rfl rfl rfl (by simp [upd_inl, engD, stc]) (fun _ => rfl) (fun _ => rfl) (fun _ => rfl) (fun _ _ => rfl)
  exact ⟨e ▸ h.own.set (.inl 8) (D := engD G S) k (i64 (x : Int)) hg, h.at_, h.out0, h.out1, h.out2⟩
theorem Eng.setStp (h : Eng w b G S) {g : Nat} (hg : G.g (.inl 14) = some g) (k : Nat) (x : Nat) : Eng (w.setCell ⟨g, k, none⟩ (i64 (x : Int))) b G { S with stp := S.stp.set k x } := by
  have e : upd (engD G S) (.inl 14) { engD G S (.inl 14) with xs := (engD G S (.inl 14)).xs.set k (i64 (x : Int)) } = engD G { S with stp := S.stp.set k x } :=
    engD_ext (fun f hf => by rw [upd_inl, if_neg (other_ne hf rfl), engD_other G S f hf]) rfl rfl rfl rfl rfl rfl rfl rfl rfl rfl (by rw [upd_same]; simp [engD, nats, List.map_set]) (by simp [upd_inl, engD, stc]) (fun _ => rfl) (fun _ => rfl) (fun _ => rfl) (fun _ _ => rfl)
  exact ⟨e ▸ h.own.set (.inl 14) (D := engD G S) k (i64 (x : Int)) hg, h.at_, h.out0, h.out1, h.out2⟩
theorem Eng.set_lits (h : Eng w b G S) (x : Nat) : Eng (w.setCell ⟨b, 2, none⟩ (i64 (x : Int))) b G { S with lits := x } := by
  have e : upd (engD G S) (.inl 16) { engD G S (.inl 16) with xs := (engD G S (.inl 16)).xs.set 2 (i64 (x : Int)) } = engD G { S with lits := x } :=
    engD_ext (fun f hf => by rw [upd_inl, if_neg (other_ne hf rfl), engD_other G S f hf]) rfl rfl rfl rfl rfl rfl rfl rfl rfl rfl rfl rfl (fun _ => rfl) (fun _ => rfl) (fun _ => rfl) (fun _ _ => rfl)
  exact ⟨e ▸ h.own.set (.inl 16) (D := engD G S) 2 (i64 (x : Int)) h.at_, h.at_, h.out0, h.out1, h.out2⟩
theorem Eng.set_head (h : Eng w b G S) (x : Nat) : Eng (w.setCell ⟨b, 11, none⟩ (i64 (x : Int))) b G { S with head := x } := by
  have e : upd (engD G S) (.inl 16) { engD G S (.inl 16) with xs := (engD G S (.inl 16)).xs.set 11 (i64 (x : Int)) } = engD G { S with head := x } :=
    engD_ext (fun f hf => by rw [upd_inl, if_neg (other_ne hf rfl), engD_other G S f hf]) rfl rfl rfl rfl rfl rfl rfl rfl rfl rfl rfl rfl (fun _ => rfl) (fun _ => rfl) (fun _ => rfl) (fun _ _ => rfl)
  exact ⟨e ▸ h.own.set (.inl 16) (D := engD G S) 11 (i64 (x : Int)) h.at_, h.at_, h.out0, h.out1, h.out2⟩
theorem Eng.set_clash (h : Eng w b G S) (x : Nat) : Eng (w.setCell ⟨b, 12, none⟩ (i64 (x : Int))) b G { S with clash := x } := by
  have e : upd (engD G S) (.inl 16) { engD G S (.inl 16) with xs := (engD G S (.inl 16)).xs.set 12 (i64 (x : Int)) } = engD G { S with clash := x } :=
    engD_ext (fun f hf => by rw [upd_inl, if_neg (other_ne hf rfl), engD_other G S f hf]) rfl rfl rfl rfl rfl rfl rfl rfl rfl rfl rfl rfl (fun _ => rfl) (fun _ => rfl) (fun _ => rfl) (fun _ _ => rfl)
  exact ⟨e ▸ h.own.set (.inl 16) (D := engD G S) 12 (i64 (x : Int)) h.at_, h.at_, h.out0, h.out1, h.out2⟩
theorem Eng.set_turn (h : Eng w b G S) (x : Nat) : Eng (w.setCell ⟨b, 15, none⟩ (i64 (x : Int))) b G { S with turn := x } := by
  have e : upd (engD G S) (.inl 16) { engD G S (.inl 16) with xs := (engD G S (.inl 16)).xs.set 15 (i64 (x : Int)) } = engD G { S with turn := x } :=
    engD_ext (fun f hf => by rw [upd_inl, if_neg (other_ne hf rfl), engD_other G S f hf]) rfl rfl rfl rfl rfl rfl rfl rfl rfl rfl rfl rfl (fun _ => rfl) (fun _ => rfl) (fun _ => rfl) (fun _ _ => rfl)
  exact ⟨e ▸ h.own.set (.inl 16) (D := engD G S) 15 (i64 (x : Int)) h.at_, h.at_, h.out0, h.out1, h.out2⟩
theorem Eng.pushTr (h : Eng w b G S) {w1 : World} {d : RD} (x : List Int) (hrw : Rw w1 3 1 d) (hn : d.n = S.tr.length + x.length) (hx : d.xs = (engD G S (.inl 9)).xs ++ ints x) (hg : d.g = G.g (.inl 9) ∨ ∀ k, d.g = some k → w.heap.size ≤ k) (hgr : w.grownBy w1 (G.g (.inl 9))) :
    Eng (w1.setCell ⟨b, 9, none⟩ d.v) b (G.upd (.inl 9) d) { S with tr := S.tr ++ x } ∧ Turned (ft G) w (ft (G.upd (.inl 9) d)) (w1.setCell ⟨b, 9, none⟩ d.v) ∧ w1.cell? ⟨b, 9, none⟩ = some (sv (G.g (.inl 9)) S.tr.length (G.c (.inl 9))) ∧ w1.frozen? ⟨b, 9, none⟩ = false := by
  have O := h.own.put (.inl 9) (D := engD G S) (d := d) hrw hg hgr
  rw [← feet_eq G S]
  have T1 := Turned.put (D := engD G S) (.inl 9) hg hgr
  have c := O.cell (.inl 16) (g := b) (i := 9) (u := sv (G.g (.inl 9)) S.tr.length (G.c (.inl 9))) h.at_ rfl
  have O2 := O.set (.inl 16) (g := b) 9 d.v h.at_
  have e : upd (upd (engD G S) (.inl 9) d) (.inl 16) { engD G S (.inl 16) with xs := (engD G S (.inl 16)).xs.set 9 d.v } = engD (G.upd (.inl 9) d) { S with tr := S.tr ++ x } :=
    engD_ext (fun f hf => by rw [upd_inl, if_neg (other_ne hf rfl), upd_inl, if_neg (other_ne hf rfl), engD_other G S f hf]) rfl rfl rfl rfl rfl rfl rfl (by rw [show upd (upd (engD G S) (.inl 9) d) (.inl 16) _ (.inl 9) = d from rfl]; obtain ⟨a1, a2, a3, a4⟩ := d; simp only at hn hx; simp [engD, GH.upd, hn, hx, ints, List.map_append]) rfl rfl rfl (by show (⟨_, _, _, _⟩ : RD) = _; simp [engD, GH.upd, stc, RD.v, hn]) (fun _ => rfl) (fun _ => rfl) (fun _ => rfl) (fun _ _ => rfl)
  refine ⟨⟨e ▸ O2, h.at_, h.out0, h.out1, h.out2⟩, ?_, c, O.frozen (.inl 16) (g := b) 9 h.at_⟩
  rw [← feet_eq _ { S with tr := S.tr ++ x }, ← e]
  refine T1.trans ?_
  exact ⟨rfl, rfl, rfl, by simp [World.setCell], fun k _ hF => Below.heap_setCell _ _ _ _ (fun e' => hF (e' ▸ ⟨.inl 16, h.at_⟩)), fun k hk => .inl (by
    rcases feet_upd hk with hk | hk
    · exact hk
    · exact ⟨.inl 16, hk⟩)⟩
theorem Eng.pushMks (h : Eng w b G S) {w1 : World} {d : RD} (x : List Nat) (hrw : Rw w1 3 1 d) (hn : d.n = S.mks.length + x.length) (hx : d.xs = (engD G S (.inl 10)).xs ++ nats x) (hg : d.g = G.g (.inl 10) ∨ ∀ k, d.g = some k → w.heap.size ≤ k) (hgr : w.grownBy w1 (G.g (.inl 10))) :
    Eng (w1.setCell ⟨b, 10, none⟩ d.v) b (G.upd (.inl 10) d) { S with mks := S.mks ++ x } ∧ Turned (ft G) w (ft (G.upd (.inl 10) d)) (w1.setCell ⟨b, 10, none⟩ d.v) ∧ w1.cell? ⟨b, 10, none⟩ = some (sv (G.g (.inl 10)) S.mks.length (G.c (.inl 10))) ∧ w1.frozen? ⟨b, 10, none⟩ = false := by
  have O := h.own.put (.inl 10) (D := engD G S) (d := d) hrw hg hgr
  rw [← feet_eq G S]
  have T1 := Turned.put (D := engD G S) (.inl 10) hg hgr
  have c := O.cell (.inl 16) (g := b) (i := 10) (u := sv (G.g (.inl 10)) S.mks.length (G.c (.inl 10))) h.at_ rfl
  have O2 := O.set (.inl 16) (g := b) 10 d.v h.at_
  have e : upd (upd (engD G S) (.inl 10) d) (.inl 16) { engD G S (.inl 16) with xs := (engD G S (.inl 16)).xs.set 10 d.v } = engD (G.upd (.inl 10) d) { S with mks := S.mks ++ x } :=
    engD_ext (fun f hf => by rw [upd_inl, if_neg (other_ne hf rfl), upd_inl, if_neg (other_ne hf rfl), engD_other G S f hf]) rfl rfl rfl rfl rfl rfl rfl rfl (by rw [show upd (upd (engD G S) (.inl 10) d) (.inl 16) _ (.inl 10) = d from rfl]; obtain ⟨a1, a2, a3, a4⟩ := d; simp only at hn hx; simp [engD, GH.upd, hn, hx, nats, List.map_append]) rfl rfl (by show (⟨_, _, _, _⟩ : RD) = _; simp [engD, GH.upd, stc, RD.v, hn]) (fun _ => rfl) (fun _ => rfl) (fun _ => rfl) (fun _ _ => rfl)
  refine ⟨⟨e ▸ O2, h.at_, h.out0, h.out1, h.out2⟩, ?_, c, O.frozen (.inl 16) (g := b) 10 h.at_⟩
  rw [← feet_eq _ { S with mks := S.mks ++ x }, ← e]
  refine T1.trans ?_
  exact ⟨rfl, rfl, rfl, by simp [World.setCell], fun k _ hF => Below.heap_setCell _ _ _ _ (fun e' => hF (e' ▸ ⟨.inl 16, h.at_⟩)), fun k hk => .inl (by
    rcases feet_upd hk with hk | hk
    · exact hk
    · exact ⟨.inl 16, hk⟩)⟩
theorem Eng.pushFr (h : Eng w b G S) {w1 : World} {d : RD} (x : List Nat) (hrw : Rw w1 3 1 d) (hn : d.n = S.fr.length + x.length) (hx : d.xs = (engD G S (.inl 13)).xs ++ nats x) (hg : d.g = G.g (.inl 13) ∨ ∀ k, d.g = some k → w.heap.size ≤ k) (hgr : w.grownBy w1 (G.g (.inl 13))) :
    Eng (w1.setCell ⟨b, 13, none⟩ d.v) b (G.upd (.inl 13) d) { S with fr := S.fr ++ x } ∧ Turned (ft G) w (ft (G.upd (.inl 13) d)) (w1.setCell ⟨b, 13, none⟩ d.v) ∧ w1.cell? ⟨b, 13, none⟩ = some (sv (G.g (.inl 13)) S.fr.length (G.c (.inl 13))) ∧ w1.frozen? ⟨b, 13, none⟩ = false := by
  have O := h.own.put (.inl 13) (D := engD G S) (d := d) hrw hg hgr
  rw [← feet_eq G S]
  have T1 := Turned.put (D := engD G S) (.inl 13) hg hgr
  have c := O.cell (.inl 16) (g := b) (i := 13) (u := sv (G.g (.inl 13)) S.fr.length (G.c (.inl 13))) h.at_ rfl
  have O2 := O.set (.inl 16) (g := b) 13 d.v h.at_
  have e : upd (upd (engD G S) (.inl 13) d) (.inl 16) { engD G S (.inl 16) with xs := (engD G S (.inl 16)).xs.set 13 d.v } = engD (G.upd (.inl 13) d) { S with fr := S.fr ++ x } :=
    engD_ext (fun f hf => by rw [upd_inl, if_neg (other_ne hf rfl), upd_inl, if_neg (other_ne hf rfl), engD_other G S f hf]) rfl rfl rfl rfl rfl rfl rfl rfl rfl (by rw [show upd (upd (engD G S) (.inl 13) d) (.inl 16) _ (.inl 13) = d from rfl]; obtain ⟨a1, a2, a3, a4⟩ := d; simp only at hn hx; simp [engD, GH.upd, hn, hx, nats, List.map_append]) rfl (by show (⟨_, _, _, _⟩ : RD) = _; simp [engD, GH.upd, stc, RD.v, hn]) (fun _ => rfl) (fun _ => rfl) (fun _ => rfl) (fun _ _ => rfl)
  refine ⟨⟨e ▸ O2, h.at_, h.out0, h.out1, h.out2⟩, ?_, c, O.frozen (.inl 16) (g := b) 13 h.at_⟩
  rw [← feet_eq _ { S with fr := S.fr ++ x }, ← e]
  refine T1.trans ?_
  exact ⟨rfl, rfl, rfl, by simp [World.setCell], fun k _ hF => Below.heap_setCell _ _ _ _ (fun e' => hF (e' ▸ ⟨.inl 16, h.at_⟩)), fun k hk => .inl (by
    rcases feet_upd hk with hk | hk
    · exact hk
    · exact ⟨.inl 16, hk⟩)⟩
theorem Eng.pushStp (h : Eng w b G S) {w1 : World} {d : RD} (x : List Nat) (hrw : Rw w1 3 1 d) (hn : d.n = S.stp.length + x.length) (hx : d.xs = (engD G S (.inl 14)).xs ++ nats x) (hg : d.g = G.g (.inl 14) ∨ ∀ k, d.g = some k → w.heap.size ≤ k) (hgr : w.grownBy w1 (G.g (.inl 14))) :
    Eng (w1.setCell ⟨b, 14, none⟩ d.v) b (G.upd (.inl 14) d) { S with stp := S.stp ++ x } ∧ Turned (ft G) w (ft (G.upd (.inl 14) d)) (w1.setCell ⟨b, 14, none⟩ d.v) ∧ w1.cell? ⟨b, 14, none⟩ = some (sv (G.g (.inl 14)) S.stp.length (G.c (.inl 14))) ∧ w1.frozen? ⟨b, 14, none⟩ = false := by
  have O := h.own.put (.inl 14) (D := engD G S) (d := d) hrw hg hgr
  rw [← feet_eq G S]
  have T1 := Turned.put (D := engD G S) (.inl 14) hg hgr
  have c := O.cell (.inl 16) (g := b) (i := 14) (u := sv (G.g (.inl 14)) S.stp.length (G.c (.inl 14))) h.at_ rfl
  have O2 := O.set (.inl 16) (g := b) 14 d.v h.at_
  have e : upd (upd (engD G S) (.inl 14) d) (.inl 16) { engD G S (.inl 16) with xs := (engD G S (.inl 16)).xs.set 14 d.v } = engD (G.upd (.inl 14) d) { S with stp := S.stp ++ x } :=
    engD_ext (fun f hf => by rw [upd_inl, if_neg (other_ne hf rfl), upd_inl, if_neg (other_ne hf rfl), engD_other G S f hf]) rfl rfl rfl rfl rfl rfl rfl rfl rfl rfl (by rw [show upd (upd (engD G S) (.inl 14) d) (.inl 16) _ (.inl 14) = d from rfl]; obtain ⟨a1, a2, a3, a4⟩ := d; simp only at hn hx; simp [engD, GH.upd, hn, hx, nats, List.map_append]) (by show (⟨_, _, _, _⟩ : RD) = _; simp [engD, GH.upd, stc, RD.v, hn]) (fun _ => rfl) (fun _ => rfl) (fun _ => rfl) (fun _ _ => rfl)
  refine ⟨⟨e ▸ O2, h.at_, h.out0, h.out1, h.out2⟩, ?_, c, O.frozen (.inl 16) (g := b) 14 h.at_⟩
  rw [← feet_eq _ { S with stp := S.stp ++ x }, ← e]
  refine T1.trans ?_
  exact ⟨rfl, rfl, rfl, by simp [World.setCell], fun k _ hF => Below.heap_setCell _ _ _ _ (fun e' => hF (e' ▸ ⟨.inl 16, h.at_⟩)), fun k hk => .inl (by
    rcases feet_upd hk with hk | hk
    · exact hk
    · exact ⟨.inl 16, hk⟩)⟩
theorem Eng.pushPr (h : Eng w b G S) {w1 : World} {d : RD} (x : List (Int × Int)) (hrw : Rw w1 72 2 d) (hn : d.n = S.pr.length + x.length) (hx : d.xs = (engD G S (.inl 3)).xs ++ pairs x) (hg : d.g = G.g (.inl 3) ∨ ∀ k, d.g = some k → w.heap.size ≤ k) (hgr : w.grownBy w1 (G.g (.inl 3))) :
    Eng (w1.setCell ⟨b, 3, none⟩ d.v) b (G.upd (.inl 3) d) { S with pr := S.pr ++ x } ∧ Turned (ft G) w (ft (G.upd (.inl 3) d)) (w1.setCell ⟨b, 3, none⟩ d.v) ∧ w1.cell? ⟨b, 3, none⟩ = some (sv (G.g (.inl 3)) S.pr.length (G.c (.inl 3))) ∧ w1.frozen? ⟨b, 3, none⟩ = false := by
  have O := h.own.put (.inl 3) (D := engD G S) (d := d) hrw hg hgr
  rw [← feet_eq G S]
  have T1 := Turned.put (D := engD G S) (.inl 3) hg hgr
  have c := O.cell (.inl 16) (g := b) (i := 3) (u := sv (G.g (.inl 3)) S.pr.length (G.c (.inl 3))) h.at_ rfl
  have O2 := O.set (.inl 16) (g := b) 3 d.v h.at_
  have e : upd (upd (engD G S) (.inl 3) d) (.inl 16) { engD G S (.inl 16) with xs := (engD G S (.inl 16)).xs.set 3 d.v } = engD (G.upd (.inl 3) d) { S with pr := S.pr ++ x } :=
    engD_ext (fun f hf => by rw [upd_inl, if_neg (other_ne hf rfl), upd_inl, if_neg (other_ne hf rfl), engD_other G S f hf]) rfl (by rw [show upd (upd (engD G S) (.inl 3) d) (.inl 16) _ (.inl 3) = d from rfl]; obtain ⟨a1, a2, a3, a4⟩ := d; simp only at hn hx; simp [engD, GH.upd, hn, hx, pairs]) rfl rfl rfl rfl rfl rfl rfl rfl rfl (by show (⟨_, _, _, _⟩ : RD) = _; simp [engD, GH.upd, stc, RD.v, hn]) (fun _ => rfl) (fun _ => rfl) (fun _ => rfl) (fun _ _ => rfl)
  refine ⟨⟨e ▸ O2, h.at_, h.out0, h.out1, h.out2⟩, ?_, c, O.frozen (.inl 16) (g := b) 3 h.at_⟩
  rw [← feet_eq _ { S with pr := S.pr ++ x }, ← e]
  refine T1.trans ?_
  exact ⟨rfl, rfl, rfl, by simp [World.setCell], fun k _ hF => Below.heap_setCell _ _ _ _ (fun e' => hF (e' ▸ ⟨.inl 16, h.at_⟩)), fun k hk => .inl (by
    rcases feet_upd hk with hk | hk
    · exact hk
    · exact ⟨.inl 16, hk⟩)⟩
theorem Eng.s1 (h : Eng w b G S) {g : Nat} (hg : G.g (.inl 1) = some g) : w.cell? ⟨b, 1, none⟩ = some (.slice (some ⟨g, 0, none⟩) S.cs.length (G.c (.inl 1))) := by
  rw [h.f1, hg]; rfl
theorem Eng.z1 (h : Eng w b G S) {g : Nat} (hg : G.g (.inl 1) = some g) (i : Nat) : w.frozen? ⟨g, i, none⟩ = false := h.own.frozen (.inl 1) (D := engD G S) i hg
theorem Eng.n1 (h : Eng w b G S) {g : Nat} (hg : G.g (.inl 1) = some g) : g ≠ b := h.own.ne (D := engD G S) (r := .inl 1) (r' := .inl 16) hg h.at_ (by simp)
theorem Eng.t1 (_h : Eng w b G S) {g : Nat} (hg : G.g (.inl 1) = some g) : ft G g := ⟨.inl 1, rfl, hg⟩
theorem Eng.e1 (h : Eng w b G S) {g : Nat} (hg : G.g (.inl 1) = some g) {k : Nat} (hk : k < S.cs.length) : w.cell? ⟨g, k, none⟩ = some (sv (G.g (.inr (0, k))) (S.cs.getD k []).length (G.c (.inr (0, k)))) :=
  h.own.cell (.inl 1) (D := engD G S) hg (by simp [engD, rowsOf, hk])
theorem Eng.e1s (h : Eng w b G S) {g gi : Nat} (hg : G.g (.inl 1) = some g) {k : Nat} (hk : k < S.cs.length) (hi : G.g (.inr (0, k)) = some gi) : w.cell? ⟨g, k, none⟩ = some (.slice (some ⟨gi, 0, none⟩) (S.cs.getD k []).length (G.c (.inr (0, k)))) := by
  rw [h.e1 hg hk, hi]; rfl
theorem Eng.s3 (h : Eng w b G S) {g : Nat} (hg : G.g (.inl 3) = some g) : w.cell? ⟨b, 3, none⟩ = some (.slice (some ⟨g, 0, none⟩) S.pr.length (G.c (.inl 3))) := by
  rw [h.f3, hg]; rfl
theorem Eng.z3 (h : Eng w b G S) {g : Nat} (hg : G.g (.inl 3) = some g) (i : Nat) : w.frozen? ⟨g, i, none⟩ = false := h.own.frozen (.inl 3) (D := engD G S) i hg
theorem Eng.n3 (h : Eng w b G S) {g : Nat} (hg : G.g (.inl 3) = some g) : g ≠ b := h.own.ne (D := engD G S) (r := .inl 3) (r' := .inl 16) hg h.at_ (by simp)
theorem Eng.t3 (_h : Eng w b G S) {g : Nat} (hg : G.g (.inl 3) = some g) : ft G g := ⟨.inl 3, rfl, hg⟩
theorem Eng.s4 (h : Eng w b G S) {g : Nat} (hg : G.g (.inl 4) = some g) : w.cell? ⟨b, 4, none⟩ = some (.slice (some ⟨g, 0, none⟩) S.wt.length (G.c (.inl 4))) := by
  rw [h.f4, hg]; rfl
theorem Eng.z4 (h : Eng w b G S) {g : Nat} (hg : G.g (.inl 4) = some g) (i : Nat) : w.frozen? ⟨g, i, none⟩ = false := h.own.frozen (.inl 4) (D := engD G S) i hg
theorem Eng.n4 (h : Eng w b G S) {g : Nat} (hg : G.g (.inl 4) = some g) : g ≠ b := h.own.ne (D := engD G S) (r := .inl 4) (r' := .inl 16) hg h.at_ (by simp)
theorem Eng.t4 (_h : Eng w b G S) {g : Nat} (hg : G.g (.inl 4) = some g) : ft G g := ⟨.inl 4, rfl, hg⟩
theorem Eng.e4 (h : Eng w b G S) {g : Nat} (hg : G.g (.inl 4) = some g) {k : Nat} (hk : k < S.wt.length) : w.cell? ⟨g, k, none⟩ = some (sv (G.g (.inr (1, k))) (S.wt.getD k []).length (G.c (.inr (1, k)))) :=
  h.own.cell (.inl 4) (D := engD G S) hg (by simp [engD, rowsOf, hk])
theorem Eng.e4s (h : Eng w b G S) {g gi : Nat} (hg : G.g (.inl 4) = some g) {k : Nat} (hk : k < S.wt.length) (hi : G.g (.inr (1, k)) = some gi) : w.cell? ⟨g, k, none⟩ = some (.slice (some ⟨gi, 0, none⟩) (S.wt.getD k []).length (G.c (.inr (1, k)))) := by
  rw [h.e4 hg hk, hi]; rfl
theorem Eng.s5 (h : Eng w b G S) {g : Nat} (hg : G.g (.inl 5) = some g) : w.cell? ⟨b, 5, none⟩ = some (.slice (some ⟨g, 0, none⟩) S.hl.length (G.c (.inl 5))) := by
  rw [h.f5, hg]; rfl
theorem Eng.z5 (h : Eng w b G S) {g : Nat} (hg : G.g (.inl 5) = some g) (i : Nat) : w.frozen? ⟨g, i, none⟩ = false := h.own.frozen (.inl 5) (D := engD G S) i hg
theorem Eng.n5 (h : Eng w b G S) {g : Nat} (hg : G.g (.inl 5) = some g) : g ≠ b := h.own.ne (D := engD G S) (r := .inl 5) (r' := .inl 16) hg h.at_ (by simp)
theorem Eng.t5 (_h : Eng w b G S) {g : Nat} (hg : G.g (.inl 5) = some g) : ft G g := ⟨.inl 5, rfl, hg⟩
theorem Eng.e5 (h : Eng w b G S) {g : Nat} (hg : G.g (.inl 5) = some g) {k : Nat} (hk : k < S.hl.length) : w.cell? ⟨g, k, none⟩ = some (sv (G.g (.inr (2, k))) (S.hl.getD k []).length (G.c (.inr (2, k)))) :=
  h.own.cell (.inl 5) (D := engD G S) hg (by simp [engD, rowsOf, hk])
theorem Eng.e5s (h : Eng w b G S) {g gi : Nat} (hg : G.g (.inl 5) = some g) {k : Nat} (hk : k < S.hl.length) (hi : G.g (.inr (2, k)) = some gi) : w.cell? ⟨g, k, none⟩ = some (.slice (some ⟨gi, 0, none⟩) (S.hl.getD k []).length (G.c (.inr (2, k)))) := by
  rw [h.e5 hg hk, hi]; rfl
theorem Eng.s6 (h : Eng w b G S) {g : Nat} (hg : G.g (.inl 6) = some g) : w.cell? ⟨b, 6, none⟩ = some (.slice (some ⟨g, 0, none⟩) S.val.length (G.c (.inl 6))) := by
  rw [h.f6, hg]; rfl
theorem Eng.z6 (h : Eng w b G S) {g : Nat} (hg : G.g (.inl 6) = some g) (i : Nat) : w.frozen? ⟨g, i, none⟩ = false := h.own.frozen (.inl 6) (D := engD G S) i hg
theorem Eng.n6 (h : Eng w b G S) {g : Nat} (hg : G.g (.inl 6) = some g) : g ≠ b := h.own.ne (D := engD G S) (r := .inl 6) (r' := .inl 16) hg h.at_ (by simp)
theorem Eng.t6 (_h : Eng w b G S) {g : Nat} (hg : G.g (.inl 6) = some g) : ft G g := ⟨.inl 6, rfl, hg⟩
theorem Eng.e6 (h : Eng w b G S) {g : Nat} (hg : G.g (.inl 6) = some g) {k : Nat} (hk : k < S.val.length) : w.cell? ⟨g, k, none⟩ = some (.int .i8 (S.val.getD k 0)) :=
  h.own.cell (.inl 6) (D := engD G S) hg (by simp [engD, bytes8, List.getD, hk])
theorem Eng.s7 (h : Eng w b G S) {g : Nat} (hg : G.g (.inl 7) = some g) : w.cell? ⟨b, 7, none⟩ = some (.slice (some ⟨g, 0, none⟩) S.lev.length (G.c (.inl 7))) := by
  rw [h.f7, hg]; rfl
theorem Eng.z7 (h : Eng w b G S) {g : Nat} (hg : G.g (.inl 7) = some g) (i : Nat) : w.frozen? ⟨g, i, none⟩ = false := h.own.frozen (.inl 7) (D := engD G S) i hg
theorem Eng.n7 (h : Eng w b G S) {g : Nat} (hg : G.g (.inl 7) = some g) : g ≠ b := h.own.ne (D := engD G S) (r := .inl 7) (r' := .inl 16) hg h.at_ (by simp)
theorem Eng.t7 (_h : Eng w b G S) {g : Nat} (hg : G.g (.inl 7) = some g) : ft G g := ⟨.inl 7, rfl, hg⟩
theorem Eng.e7 (h : Eng w b G S) {g : Nat} (hg : G.g (.inl 7) = some g) {k : Nat} (hk : k < S.lev.length) : w.cell? ⟨g, k, none⟩ = some (i64 (S.lev.getD k 0 : Nat)) :=
  h.own.cell (.inl 7) (D := engD G S) hg (by simp [engD, nats, List.getD, hk])
theorem Eng.s8 (h : Eng w b G S) {g : Nat} (hg : G.g (.inl 8) = some g) : w.cell? ⟨b, 8, none⟩ = some (.slice (some ⟨g, 0, none⟩) S.rsn.length (G.c (.inl 8))) := by
  rw [h.f8, hg]; rfl
theorem Eng.z8 (h : Eng w b G S) {g : Nat} (hg : G.g (.inl 8) = some g) (i : Nat) : w.frozen? ⟨g, i, none⟩ = false := h.own.frozen (.inl 8) (D := engD G S) i hg
theorem Eng.n8 (h : Eng w b G S) {g : Nat} (hg : G.g (.inl 8) = some g) : g ≠ b := h.own.ne (D := engD G S) (r := .inl 8) (r' := .inl 16) hg h.at_ (by simp)
theorem Eng.t8 (_h : Eng w b G S) {g : Nat} (hg : G.g (.inl 8) = some g) : ft G g := ⟨.inl 8, rfl, hg⟩
theorem Eng.e8 (h : Eng w b G S) {g : Nat} (hg : G.g (.inl 8) = some g) {k : Nat} (hk : k < S.rsn.length) : w.cell? ⟨g, k, none⟩ = some (i64 (S.rsn.getD k 0 : Nat)) :=
  h.own.cell (.inl 8) (D := engD G S) hg (by simp [engD, nats, List.getD, hk])
theorem Eng.s9 (h : Eng w b G S) {g : Nat} (hg : G.g (.inl 9) = some g) : w.cell? ⟨b, 9, none⟩ = some (.slice (some ⟨g, 0, none⟩) S.tr.length (G.c (.inl 9))) := by
  rw [h.f9, hg]; rfl
theorem Eng.z9 (h : Eng w b G S) {g : Nat} (hg : G.g (.inl 9) = some g) (i : Nat) : w.frozen? ⟨g, i, none⟩ = false := h.own.frozen (.inl 9) (D := engD G S) i hg
theorem Eng.n9 (h : Eng w b G S) {g : Nat} (hg : G.g (.inl 9) = some g) : g ≠ b := h.own.ne (D := engD G S) (r := .inl 9) (r' := .inl 16) hg h.at_ (by simp)
theorem Eng.t9 (_h : Eng w b G S) {g : Nat} (hg : G.g (.inl 9) = some g) : ft G g := ⟨.inl 9, rfl, hg⟩
theorem Eng.e9 (h : Eng w b G S) {g : Nat} (hg : G.g (.inl 9) = some g) {k : Nat} (hk : k < S.tr.length) : w.cell? ⟨g, k, none⟩ = some (i64 (S.tr.getD k 0)) :=
  h.own.cell (.inl 9) (D := engD G S) hg (by simp [engD, ints, List.getD, hk])
theorem Eng.s10 (h : Eng w b G S) {g : Nat} (hg : G.g (.inl 10) = some g) : w.cell? ⟨b, 10, none⟩ = some (.slice (some ⟨g, 0, none⟩) S.mks.length (G.c (.inl 10))) := by
  rw [h.f10, hg]; rfl
theorem Eng.z10 (h : Eng w b G S) {g : Nat} (hg : G.g (.inl 10) = some g) (i : Nat) : w.frozen? ⟨g, i, none⟩ = false := h.own.frozen (.inl 10) (D := engD G S) i hg
theorem Eng.n10 (h : Eng w b G S) {g : Nat} (hg : G.g (.inl 10) = some g) : g ≠ b := h.own.ne (D := engD G S) (r := .inl 10) (r' := .inl 16) hg h.at_ (by simp)
theorem Eng.t10 (_h : Eng w b G S) {g : Nat} (hg : G.g (.inl 10) = some g) : ft G g := ⟨.inl 10, rfl, hg⟩
theorem Eng.e10 (h : Eng w b G S) {g : Nat} (hg : G.g (.inl 10) = some g) {k : Nat} (hk : k < S.mks.length) : w.cell? ⟨g, k, none⟩ = some (i64 (S.mks.getD k 0 : Nat)) :=
  h.own.cell (.inl 10) (D := engD G S) hg (by simp [engD, nats, List.getD, hk])
theorem Eng.s13 (h : Eng w b G S) {g : Nat} (hg : G.g (.inl 13) = some g) : w.cell? ⟨b, 13, none⟩ = some (.slice (some ⟨g, 0, none⟩) S.fr.length (G.c (.inl 13))) := by
  rw [h.f13, hg]; rfl
theorem Eng.z13 (h : Eng w b G S) {g : Nat} (hg : G.g (.inl 13) = some g) (i : Nat) : w.frozen? ⟨g, i, none⟩ = false := h.own.frozen (.inl 13) (D := engD G S) i hg
theorem Eng.n13 (h : Eng w b G S) {g : Nat} (hg : G.g (.inl 13) = some g) : g ≠ b := h.own.ne (D := engD G S) (r := .inl 13) (r' := .inl 16) hg h.at_ (by simp)
theorem Eng.t13 (_h : Eng w b G S) {g : Nat} (hg : G.g (.inl 13) = some g) : ft G g := ⟨.inl 13, rfl, hg⟩
theorem Eng.e13 (h : Eng w b G S) {g : Nat} (hg : G.g (.inl 13) = some g) {k : Nat} (hk : k < S.fr.length) : w.cell? ⟨g, k, none⟩ = some (i64 (S.fr.getD k 0 : Nat)) :=
  h.own.cell (.inl 13) (D := engD G S) hg (by simp [engD, nats, List.getD, hk])
theorem Eng.s14 (h : Eng w b G S) {g : Nat} (hg : G.g (.inl 14) = some g) : w.cell? ⟨b, 14, none⟩ = some (.slice (some ⟨g, 0, none⟩) S.stp.length (G.c (.inl 14))) := by
  rw [h.f14, hg]; rfl
theorem Eng.z14 (h : Eng w b G S) {g : Nat} (hg : G.g (.inl 14) = some g) (i : Nat) : w.frozen? ⟨g, i, none⟩ = false := h.own.frozen (.inl 14) (D := engD G S) i hg
theorem Eng.n14 (h : Eng w b G S) {g : Nat} (hg : G.g (.inl 14) = some g) : g ≠ b := h.own.ne (D := engD G S) (r := .inl 14) (r' := .inl 16) hg h.at_ (by simp)
theorem Eng.t14 (_h : Eng w b G S) {g : Nat} (hg : G.g (.inl 14) = some g) : ft G g := ⟨.inl 14, rfl, hg⟩
theorem Eng.e14 (h : Eng w b G S) {g : Nat} (hg : G.g (.inl 14) = some g) {k : Nat} (hk : k < S.stp.length) : w.cell? ⟨g, k, none⟩ = some (i64 (S.stp.getD k 0 : Nat)) :=
  h.own.cell (.inl 14) (D := engD G S) hg (by simp [engD, nats, List.getD, hk])
theorem pairs_get (l : List (Int × Int)) (k : Nat) (hk : k < l.length) : (pairs l)[2 * k]? = some (i64 (l.getD k (0, 0)).1) ∧ (pairs l)[2 * k + 1]? = some (i64 (l.getD k (0, 0)).2) := by
  induction l generalizing k with
  | nil => simp at hk
  | cons p l ih =>
    cases k with
    | zero => simp [pairs]
    | succ k =>
      have := ih k (by simpa using hk)
      simp only [pairs, List.flatMap_cons] at *
      rw [show 2 * (k + 1) = 2 * k + 2 by omega, show 2 * k + 2 + 1 = 2 * k + 1 + 2 by omega]
      simpa using this
theorem Eng.e3a (h : Eng w b G S) {g : Nat} (hg : G.g (.inl 3) = some g) {k : Nat} (hk : k < S.pr.length) : w.cell? ⟨g, k * 2, none⟩ = some (i64 (S.pr.getD k (0, 0)).1) :=
  Nat.mul_comm 2 k ▸ h.own.cell (.inl 3) (D := engD G S) hg (pairs_get S.pr k hk).1
theorem Eng.e3b (h : Eng w b G S) {g : Nat} (hg : G.g (.inl 3) = some g) {k : Nat} (hk : k < S.pr.length) : w.cell? ⟨g, k * 2 + 1, none⟩ = some (i64 (S.pr.getD k (0, 0)).2) :=
  Nat.mul_comm 2 k ▸ h.own.cell (.inl 3) (D := engD G S) hg (pairs_get S.pr k hk).2
theorem pairs_set (l : List (Int × Int)) (k : Nat) (p : Int × Int) : pairs (l.set k p) = ((pairs l).set (2 * k) (i64 p.1)).set (2 * k + 1) (i64 p.2) := by
  induction l generalizing k with
  | nil => simp [pairs]
  | cons q l ih =>
    cases k with
    | zero => simp [pairs]
    | succ k =>
      have := ih k
      simp only [pairs, List.set_cons_succ, List.flatMap_cons] at *
      rw [this, show 2 * (k + 1) = 2 * k + 2 by omega, show 2 * k + 2 + 1 = 2 * k + 1 + 2 by omega]
      simp
theorem Eng.setPr (h : Eng w b G S) {g : Nat} (hg : G.g (.inl 3) = some g) (k : Nat) (p : Int × Int) : Eng ((w.setCell ⟨g, k * 2, none⟩ (i64 p.1)).setCell ⟨g, k * 2 + 1, none⟩ (i64 p.2)) b G { S with pr := S.pr.set k p } := by
  rw [Nat.mul_comm k 2]
  have O := (h.own.set (.inl 3) (D := engD G S) (2 * k) (i64 p.1) hg).set (.inl 3) (2 * k + 1) (i64 p.2) (g := g) hg
  refine ⟨?_, h.at_, h.out0, h.out1, h.out2⟩
  refine Eq.mp (congrArg (Own engT _) ?_) O
  exact engD_ext (fun f hf => by rw [upd_inl, if_neg (other_ne hf rfl), upd_inl, if_neg (other_ne hf rfl), engD_other G S f hf]) rfl (by rw [upd_same]; simp [engD, pairs_set, upd_inl]) rfl rfl rfl rfl rfl rfl rfl rfl rfl (by simp [upd_inl, engD, stc]) (fun _ => rfl) (fun _ => rfl) (fun _ => rfl) (fun _ _ => rfl)
theorem Eng.i0 (h : Eng w b G S) {g i k : Nat} (hg : G.g (.inr (0, i)) = some g) (hk : k < (S.cs.getD i []).length) : w.cell? ⟨g, k, none⟩ = some (i64 ((S.cs.getD i []).getD k 0 : Int)) :=
  h.own.cell (.inr (0, i)) (D := engD G S) hg (by simp only [engD, ints]; generalize (S.cs.getD i []) = q at *; rw [List.getElem?_map, List.getElem?_eq_getElem hk]; simp [List.getD, hk])
theorem Eng.iz0 (h : Eng w b G S) {g i : Nat} (hg : G.g (.inr (0, i)) = some g) (k : Nat) : w.frozen? ⟨g, k, none⟩ = false := h.own.frozen (.inr (0, i)) (D := engD G S) k hg
theorem Eng.in0 (h : Eng w b G S) {g i : Nat} (hg : G.g (.inr (0, i)) = some g) : g ≠ b := h.own.ne (D := engD G S) (r := .inr (0, i)) (r' := .inl 16) hg h.at_ (by simp)
theorem Eng.it0 (_h : Eng w b G S) {g i : Nat} (hg : G.g (.inr (0, i)) = some g) : ft G g := ⟨.inr (0, i), rfl, hg⟩
theorem Eng.il0 (h : Eng w b G S) {i : Nat} (hn : 0 < (S.cs.getD i []).length) : ∃ g, G.g (.inr (0, i)) = some g := h.lies (.inr (0, i)) hn
theorem Eng.i1 (h : Eng w b G S) {g i k : Nat} (hg : G.g (.inr (1, i)) = some g) (hk : k < (S.wt.getD i []).length) : w.cell? ⟨g, k, none⟩ = some (i64 ((S.wt.getD i []).getD k 0 : Nat)) :=
  h.own.cell (.inr (1, i)) (D := engD G S) hg (by simp only [engD, nats]; generalize (S.wt.getD i []) = q at *; rw [List.getElem?_map, List.getElem?_eq_getElem hk]; simp [List.getD, hk])
theorem Eng.iz1 (h : Eng w b G S) {g i : Nat} (hg : G.g (.inr (1, i)) = some g) (k : Nat) : w.frozen? ⟨g, k, none⟩ = false := h.own.frozen (.inr (1, i)) (D := engD G S) k hg
theorem Eng.in1 (h : Eng w b G S) {g i : Nat} (hg : G.g (.inr (1, i)) = some g) : g ≠ b := h.own.ne (D := engD G S) (r := .inr (1, i)) (r' := .inl 16) hg h.at_ (by simp)
theorem Eng.it1 (_h : Eng w b G S) {g i : Nat} (hg : G.g (.inr (1, i)) = some g) : ft G g := ⟨.inr (1, i), rfl, hg⟩
theorem Eng.il1 (h : Eng w b G S) {i : Nat} (hn : 0 < (S.wt.getD i []).length) : ∃ g, G.g (.inr (1, i)) = some g := h.lies (.inr (1, i)) hn
theorem Eng.i2 (h : Eng w b G S) {g i k : Nat} (hg : G.g (.inr (2, i)) = some g) (hk : k < (S.hl.getD i []).length) : w.cell? ⟨g, k, none⟩ = some (i64 ((S.hl.getD i []).getD k 0 : Nat)) :=
  h.own.cell (.inr (2, i)) (D := engD G S) hg (by simp only [engD, nats]; generalize (S.hl.getD i []) = q at *; rw [List.getElem?_map, List.getElem?_eq_getElem hk]; simp [List.getD, hk])
theorem Eng.iz2 (h : Eng w b G S) {g i : Nat} (hg : G.g (.inr (2, i)) = some g) (k : Nat) : w.frozen? ⟨g, k, none⟩ = false := h.own.frozen (.inr (2, i)) (D := engD G S) k hg
theorem Eng.in2 (h : Eng w b G S) {g i : Nat} (hg : G.g (.inr (2, i)) = some g) : g ≠ b := h.own.ne (D := engD G S) (r := .inr (2, i)) (r' := .inl 16) hg h.at_ (by simp)
theorem Eng.it2 (_h : Eng w b G S) {g i : Nat} (hg : G.g (.inr (2, i)) = some g) : ft G g := ⟨.inr (2, i), rfl, hg⟩
theorem Eng.il2 (h : Eng w b G S) {i : Nat} (hn : 0 < (S.hl.getD i []).length) : ∃ g, G.g (.inr (2, i)) = some g := h.lies (.inr (2, i)) hn
end
/-- A watching list that has not grown lies where it lay. -/
def WKeep (G : GH) (W : List (List Nat)) (G' : GH) (W' : List (List Nat)) : Prop :=
  ∀ j, (W.getD j []).length ≤ (W'.getD j []).length ∧ ((W.getD j []).length = (W'.getD j []).length → G'.g (.inr (1, j)) = G.g (.inr (1, j)) ∧ G'.c (.inr (1, j)) = G.c (.inr (1, j)))
theorem WKeep.refl (G : GH) (W : List (List Nat)) : WKeep G W G W := fun _ => ⟨Nat.le_refl _, fun _ => ⟨rfl, rfl⟩⟩
theorem WKeep.trans {G G' G'' : GH} {W W' W'' : List (List Nat)} (h : WKeep G W G' W') (k : WKeep G' W' G'' W'') : WKeep G W G'' W'' := fun j => by
  obtain ⟨a1, a2⟩ := h j
  obtain ⟨b1, b2⟩ := k j
  refine ⟨Nat.le_trans a1 b1, fun e => ?_⟩
  obtain ⟨c1, c2⟩ := a2 (by omega)
  obtain ⟨d1, d2⟩ := b2 (by omega)
  exact ⟨d1.trans c1, d2.trans c2⟩
theorem WKeep.inl (G : GH) (W : List (List Nat)) (f : Nat) (d : RD) : WKeep G W (G.upd (.inl f) d) W := fun _ => ⟨Nat.le_refl _, fun _ => ⟨by simp [GH.upd], by simp [GH.upd]⟩⟩
theorem WKeep.inr (G : GH) (W : List (List Nat)) (t i : Nat) (d : RD) (ht : t ≠ 1) : WKeep G W (G.upd (.inr (t, i)) d) W := fun _ => ⟨Nat.le_refl _, fun _ => ⟨by simp [GH.upd, Ne.symm ht], by simp [GH.upd, Ne.symm ht]⟩⟩
theorem WKeep.same {G G' : GH} {W W' : List (List Nat)} (h : WKeep G W G' W) (e : ∀ j, W'.getD j [] = W.getD j []) : WKeep G W G' W' := fun j => by rw [e j]; exact h j
theorem WKeep.row (G : GH) (W : List (List Nat)) (i k : Nat) (d : RD) (hi : i < W.length) : WKeep G W (G.upd (.inr (1, i)) d) (W.set i (W.getD i [] ++ [k])) := fun j => by
  by_cases e : j = i
  · subst e
    have : (W.set j (W.getD j [] ++ [k])).getD j [] = W.getD j [] ++ [k] := by simp [List.getD, hi]
    rw [this]
    exact ⟨by simp, fun h => by simp at h⟩
  · have : (W.set i (W.getD i [] ++ [k])).getD j [] = W.getD j [] := by simp [List.getD, List.getElem?_set_ne (Ne.symm e)]
    rw [this]
    exact ⟨Nat.le_refl _, fun _ => ⟨by simp [GH.upd, e], by simp [GH.upd, e]⟩⟩
end Go.Proofs.Ytaileihnkmjfiaa
