/-
  A call of a script, noted in the book: Back. Conditions: those each theorem names.
-/
import Derived.Test.YtaileihnkmjfiaaD3
namespace Go.Proofs.Ytaileihnkmjfiaa
open Go.RowKit

theorem slice_high (g n c k : Nat) (h : k ≤ c) : ∀ w, (Instr.slice 28 (.slice (some ⟨g, 0, none⟩) n c) none (some (.int .i64 (k : Int))) none).run Try.prog w = .ok (.slice (some ⟨g, 0, none⟩) k c) w := by
  obtain ⟨i0, hi, hz0, hz1, hz2⟩ := info_parts Try.info3
  intro w
  simp [Instr.slice, run_underlying Try.underlying28, Instr.sliceBounds, run_sliceBound, sizeOf, typeInfo, hi, Addr.add, h]

/-- the book's decisions, cut -/
theorem Stand.cutDc {base : Nat} {w0 w : World} {b bb : Nat} {G GB : GH} {S : ES} {B : BK} (h : Stand base w0 w b bb G GB S B) (k : Nat) (hk : k ≤ B.dc.length) :
    Stand base w0 (w.setCell ⟨bb, 1, none⟩ (.slice (Option.map (fun g => { block := g, off := 0 }) (GB.g (.inl 3))) k (GB.c (.inl 3)))) b bb G (GB.upd (.inl 3) ⟨GB.g (.inl 3), GB.c (.inl 3), k, (ints B.dc).take (k * 1)⟩) S { B with dc := B.dc.take k } := by
  obtain ⟨E, T⟩ := h.book.put2 (d := ⟨GB.g (.inl 3), GB.c (.inl 3), k, (ints B.dc).take (k * 1)⟩) 1 (h.book.row2.cut k hk) (.inl rfl) ⟨rfl, rfl, rfl, Nat.le_refl _, fun _ _ _ => rfl⟩ rfl
  refine h.noted (B' := { B with dc := B.dc.take k }) ?_ T
  have e : k = (B.dc.take k).length := by simp; omega
  have e2 : (ints B.dc).take (k * 1) = ints (B.dc.take k) := by simp [Go.Proofs.Ytaileihnkmjfiaa.ints, List.map_take]
  have E3 : Ob 30 2 3 1 (w.setCell ⟨bb, 1, none⟩ (.slice (Option.map (fun g => { block := g, off := 0 }) (GB.g (.inl 3))) k (GB.c (.inl 3)))) bb (GB.upd (.inl 3) ⟨GB.g (.inl 3), GB.c (.inl 3), k, (ints B.dc).take (k * 1)⟩) (fun c d => [c, d]) B.cl k ((ints B.dc).take (k * 1)) := E
  show Ob 30 2 3 1 _ bb _ (fun c d => [c, d]) B.cl (B.dc.take k).length (ints (B.dc.take k))
  rw [← e, ← e2]
  exact E3

theorem back_bad (b : Nat) (G : GH) (S : ES) (level : Int) (w : World) (h : Eng w b G S) (hS : S.Ok) (hb : level < 0 ∨ (S.mks.length : Int) < level) :
    Calls Try.prog 37 #[.pointer (some ⟨b, 0, none⟩), i64 level] w fun e w' => e = .returned (.int .i64 32) ∧ w = w' := by
  have c10 := h.f10
  unfold sv at c10
  have hml := hS.mks_len
  have htl := hS.tr_len
  have hnl := hS.n_le
  by_cases h1 : level < 0
  · clear hb
    go_enter Try.func37, Try.ntmps37
    go_wp2
    go_ret
    exact ⟨rfl, rfl⟩
  · have h2 : (S.mks.length : Int) < level := by omega
    clear hb
    go_enter Try.func37, Try.ntmps37
    go_wp2
    go_ret
    exact ⟨rfl, rfl⟩

set_option maxHeartbeats 4000000 in
theorem does_back {A t base : Nat} {w0 w : World} {b bb : Nat} {G GB : GH} {S : ES} {B : BK} (num : Int) (v : Value) (h : Stand base w0 w b bb G GB S B) (hS : S.Live A t) (hA : A ≤ 1048576) (ht : t ≤ 2097152) (hB : B.dc.length ≤ 1048576) :
    Calls Try.prog 14 #[.pointer (some ⟨bb, 0, none⟩), .pointer (some ⟨b, 0, none⟩), .agg #[i64 4, i64 num, v]] w (DoesEnd base w0 b bb (S.back num).1 (if (S.back num).2 = 0 ∧ 0 ≤ num ∧ num < (B.dc.length : Int) then { B with dc := B.dc.take num.toNat } else B)) := by
  obtain ⟨i0, hi0, hz0, hz1, hz2⟩ := info_parts Try.info3
  have H1 := h.alloc (.cells #[i64 4, i64 num, v] 33)
  have cB := back_live b G S num _ H1.eng.drew hS hA ht
  have hx1 : (w.alloc (.cells #[i64 4, i64 num, v] 33)).cell? ⟨w.heap.size, 1, none⟩ = some (i64 num) := by rw [cell_of_row _ w.heap.size 1 _ _ _ (heap_alloc_new w _)]; rfl
  have hnf : ¬ ft G w.heap.size := fun hf => by have := h.eng.flt hf; omega
  by_cases h32 : (S.back num).2 = 32
  · have HB : Hid ((if (S.back num).2 = 0 ∧ 0 ≤ num ∧ num < (B.dc.length : Int) then { B with dc := B.dc.take num.toNat } else B) = B) := by show _ = _; rw [if_neg (fun hh => by rw [h32] at hh; omega)]
    have hbad : (num < 0 ∨ (S.mks.length : Int) < num) ∧ (S.back num).1 = S := by
      rcases ES.back_cases S num with ⟨e1, e2⟩ | ⟨e1, e2, e3, e4⟩
      · rcases e2 with ⟨_, e2⟩ | ⟨e2, _⟩
        · exact ⟨e2, e1⟩
        · rw [e2] at h32; cases h32
      · rw [e1] at h32; cases h32
    rw [HB.out, hbad.2]
    have cN := fun n => quiet_l (back_bad b G S num _ (H1.eng.drewN (k := n)) hS.good.inv.ok hbad.1)
    have HS := fun n => H1.drewN n
    clear h32 hbad cB HB
    go_enter Try.func14, Try.ntmps14
    go_wp2_with fail
    go_quiet ((go_at_call 37; exact cN _))
    go_wp2_with fail
    go_end0
    exact ⟨rfl, G, GB, HS _⟩
  · have h0 : (S.back num).2 = 0 ∧ 0 ≤ num := by
      rcases ES.back_cases S num with ⟨e1, e2⟩ | ⟨e1, e2, e3, e4⟩
      · rcases e2 with ⟨e2, _⟩ | ⟨e2, e3⟩
        · exact absurd e2 h32
        · exact ⟨e2, by omega⟩
      · exact ⟨e1, e3⟩
    obtain ⟨h00, hn⟩ := h0
    obtain ⟨k, rfl⟩ : ∃ k : Nat, num = k := ⟨num.toNat, by omega⟩
    by_cases hlt : k < B.dc.length
    · have HB : Hid ((if (S.back k).2 = 0 ∧ 0 ≤ (k : Int) ∧ (k : Int) < (B.dc.length : Int) then { B with dc := B.dc.take (k : Int).toNat } else B) = { B with dc := B.dc.take k }) := by show _ = _; rw [if_pos ⟨h00, hn, by omega⟩]; simp
      rw [HB.out]
      rw [h00] at cB
      clear h00 h32
      have hlt' : (k : Int) < (B.dc.length : Int) := by omega
      obtain ⟨gd, hgd⟩ := h.book.l2 (by omega)
      have hle := h.book.row2.le
      have hmx := h.book.row2.max
      simp only at hle hmx
      have hsl := slice_high gd B.dc.length (GB.c (.inl 3)) k (by omega)
      go_enter Try.func14, Try.ntmps14
      go_upto_region 11 with (fail)
      go_region_with ((go_at_call 37; refine cB.mono ?_; rintro e w' ⟨rfl, G', E', T'⟩; have H2 := H1.drew.turned E' T'; have f1 : w'.cell? ⟨bb, 1, none⟩ = some (.slice (some ⟨gd, 0, none⟩) B.dc.length (GB.c (.inl 3))) := (H2.book.field (i := 1) rfl).trans (by rw [hgd]; rfl); have x1 : w'.cell? ⟨w.heap.size, 1, none⟩ = some (i64 k) := (T'.cell (by simp) hnf).trans hx1; have g1 := H2.book.ff 1))
      all_goals
        have H3 := H2.drew.cutDc k (by omega)
        rw [hgd] at H3
        simp only [Option.map] at H3
        go_upto_region 12 with (fail)
        go_region
      all_goals
        go_wp2_with fail
        go_end0
        exact ⟨rfl, G', _, H3⟩
    · have HB : Hid ((if (S.back k).2 = 0 ∧ 0 ≤ (k : Int) ∧ (k : Int) < (B.dc.length : Int) then { B with dc := B.dc.take (k : Int).toNat } else B) = B) := by show _ = _; rw [if_neg (by omega)]
      rw [HB.out]
      rw [h00] at cB
      clear h00 h32
      have hlt' : ¬ ((k : Int) < (B.dc.length : Int)) := by omega
      go_enter Try.func14, Try.ntmps14
      go_upto_region 11 with (fail)
      go_region_with ((go_at_call 37; refine cB.mono ?_; rintro e w' ⟨rfl, G', E', T'⟩; have H2 := H1.drew.turned E' T'; have f1 : w'.cell? ⟨bb, 1, none⟩ = some (.slice (Option.map (fun g => { block := g, off := 0 }) (GB.g (.inl 3))) B.dc.length (GB.c (.inl 3))) := H2.book.field (i := 1) rfl; have x1 : w'.cell? ⟨w.heap.size, 1, none⟩ = some (i64 k) := (T'.cell (by simp) hnf).trans hx1))
      all_goals
        go_wp2_with fail
        go_end0
        exact ⟨rfl, G', GB, H2⟩
end Go.Proofs.Ytaileihnkmjfiaa
