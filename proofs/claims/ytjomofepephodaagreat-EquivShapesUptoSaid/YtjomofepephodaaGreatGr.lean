/-
  Weights and sizes of the document. Conditions: what each theorem names.
-/
import Derived.Test.YtjomofepephodaaGreatGg
import Derived.Test.YtjomofepephodaaGreatKd
set_option linter.unusedVariables false
set_option linter.unusedSimpArgs false
namespace Go.Proofs.YtjomofepephodaaGreat.PEquivShapes
open Go.RowKit
open Go.Proofs.YtjomofepephodaaGreatW.PrintWords Go.Proofs.YtjomofepephodaaGreatW.PrintLast Go.Proofs.YtjomofepephodaaGreatW.PrintMore
/-- cut to one more than the bound -/
def ct (x : Int) : Int := if 65536 < x then 65537 else x
theorem wrap_small {x : Int} (h0 : 0 ≤ x) (h1 : x ≤ 9223372036854775807) : wrap64 x = x := by unfold wrap64; omega
theorem wrap_next {i : Nat} (h : i ≤ 1048576) : wrap64 ((i : Int) + 1) = ((i + 1 : Nat) : Int) := by rw [wrap_small (by omega) (by omega)]; rfl
theorem sub_step {a i r : Nat} (h : a - i = r + 1) : a - (i + 1) = r := by omega
theorem plus_small {a b : Int} (ha : 0 ≤ a) (hb : 0 ≤ b) (h : a + b ≤ 1048576) : plusF [a, b] = a + b ∧ wrap64 (a + b) = a + b := by
  have h0 : wrap64 (0 + a) = a := by rw [wrap_small (by omega) (by omega)]; omega
  have h1 : mn a 1099511627776 = a := by unfold mn; split <;> omega
  have h2 : wrap64 (a + b) = a + b := wrap_small (by omega) (by omega)
  have h3 : mn (a + b) 1099511627776 = a + b := by unfold mn; split <;> omega
  exact ⟨by simp only [plusF, List.foldl_cons, List.foldl_nil, h0, h1, h2, h3], h2⟩
theorem plus2 {a b : Int} (ha : Top a) (hb : Top b) : plusF [a, b] = mn (a + b) 1099511627776 := by
  obtain ⟨a0, a1⟩ := ha
  obtain ⟨b0, b1⟩ := hb
  have h1 : wrap64 (0 + a) = a := by unfold wrap64; omega
  have h2 : mn a 1099511627776 = a := by unfold mn; split <;> omega
  have h3 : wrap64 (a + b) = a + b := by unfold wrap64; omega
  simp only [plusF, List.foldl_cons, List.foldl_nil, h1, h2, h3]
theorem plus_snoc (l : List Int) (b : Int) (hl : Top (plusF l)) (hb : Top b) : plusF (l ++ [b]) = mn (plusF l + b) 1099511627776 := by
  obtain ⟨a0, a1⟩ := hl
  obtain ⟨b0, b1⟩ := hb
  have h3 : wrap64 (plusF l + b) = plusF l + b := by unfold wrap64; omega
  unfold plusF at *
  rw [List.foldl_append, List.foldl_cons, List.foldl_nil, h3]
theorem plus3 {a b c : Int} (ha : Top a) (hb : Top b) (hc : Top c) : plusF [a, b, c] = mn (mn (a + b) 1099511627776 + c) 1099511627776 := by
  rw [show [a, b, c] = [a, b] ++ [c] from rfl, plus_snoc _ _ (top2 ha hb) hc, plus2 ha hb]
theorem plus4 {a b c d : Int} (ha : Top a) (hb : Top b) (hc : Top c) (hd : Top d) : plusF [a, b, c, d] = mn (mn (mn (a + b) 1099511627776 + c) 1099511627776 + d) 1099511627776 := by
  rw [show [a, b, c, d] = [a, b, c] ++ [d] from rfl, plus_snoc _ _ (top3 ha hb hc) hd, plus3 ha hb hc]
theorem bulks50_drop {l : List S50} {i : Nat} (h : i < l.length) : S50.bulks (l.drop i) = (rd_T50 l i).bulk + S50.bulks (l.drop (i + 1)) := by
  rw [List.drop_eq_getElem_cons h, S50.bulks]
  simp [rd_T50, h]
theorem weis_drop {l : List S50} {i : Nat} (h : i < l.length) (n : Int) : S50.weis n (l.drop i) = S50.weis (plusF [n, (rd_T50 l i).wei]) (l.drop (i + 1)) := by
  rw [List.drop_eq_getElem_cons h, S50.weis]
  simp [rd_T50, h]
theorem S50.wei_eq (e : S50) : e.wei = S50.weis 1 e.f3 := by
  obtain ⟨k, n, s, l⟩ := e
  rw [S50.wei]
theorem S50.bulk_eq (e : S50) : e.bulk = e.f2.size + S50.bulks e.f3 + 5 := by
  obtain ⟨k, n, s, l⟩ := e
  rw [S50.bulk]
set_option maxHeartbeats 2000000 in
theorem wei_ref (N : Nat) (hN : N ≤ 1048576) : ∀ (e : S50) (K : Nat), e.bulk ≤ N → 2 * e.bulk ≤ K → cadenceref16_weight.f K e.f0 e.f1 e.f2 e.f3 = some e.wei ∧ 0 ≤ e.wei ∧ e.wei ≤ e.bulk := by
  induction N with
  | zero =>
    intro e K hb
    have := S50.bulk_eq e
    omega
  | succ N ih =>
    intro e K hb hK
    have hbe := S50.bulk_eq e
    obtain ⟨K, rfl⟩ : ∃ K', K = K' + 1 := ⟨K - 1, by omega⟩
    rw [cadenceref16_weight.f, S50.wei_eq]
    have hlen : ∀ l : List S50, l.length ≤ S50.bulks l := by
      intro l
      induction l with
      | nil => simp
      | cons x l ih =>
        have := S50.bulk_eq x
        rw [S50.bulks, List.length_cons]; omega
    have hle := hlen e.f3
    have key : ∀ (r i k : Nat) (n : Int), e.f3.length - i = r → i ≤ e.f3.length → 2 * S50.bulks (e.f3.drop i) + 1 ≤ k → 0 ≤ n → n + S50.bulks (e.f3.drop i) ≤ 1048576 →
        cadenceref16_weight.l0 k n i e.f0 e.f1 e.f2 e.f3 = some (S50.weis n (e.f3.drop i)) ∧ 0 ≤ S50.weis n (e.f3.drop i) ∧ S50.weis n (e.f3.drop i) ≤ n + S50.bulks (e.f3.drop i) := by
      intro r
      induction r with
      | zero =>
        intro i k n hr hi hk h0 h1
        obtain ⟨k, rfl⟩ : ∃ k', k = k' + 1 := ⟨k - 1, by omega⟩
        obtain rfl : i = e.f3.length := by omega
        rw [cadenceref16_weight.l0, if_neg (by omega), List.drop_length]
        exact ⟨rfl, h0, by simp [S50.weis, S50.bulks]⟩
      | succ r ihr =>
        intro i k n hr hi hk h0 h1
        have hlt : i < e.f3.length := by omega
        obtain ⟨k, rfl⟩ : ∃ k', k = k' + 1 := ⟨k - 1, by omega⟩
        have hbd := bulks50_drop hlt
        have hbk := S50.bulk_eq (rd_T50 e.f3 i)
        have hkid := S50.bulk_kid hlt
        obtain ⟨w1, w2, w3⟩ := ih (by omega) (rd_T50 e.f3 i) k (by omega) (by omega)
        rw [cadenceref16_weight.l0, if_pos (by omega), if_pos (by omega), w1]
        simp only [Option.bind_some]
        have hw1 := wrap_next (show i ≤ 1048576 by omega)
        obtain ⟨hp, hw2⟩ := plus_small h0 w2 (show n + (rd_T50 e.f3 i).wei ≤ 1048576 by omega)
        rw [hw1, hw2, weis_drop hlt, hp]
        obtain ⟨v1, v2, v3⟩ := ihr (i + 1) k (n + (rd_T50 e.f3 i).wei) (sub_step hr) hlt (by omega) (by omega) (by omega)
        exact ⟨v1, v2, by omega⟩
    obtain ⟨v1, v2, v3⟩ := key e.f3.length 0 K 1 (by omega) (by omega) (by simp only [List.drop_zero]; omega) (by omega) (by simp only [List.drop_zero]; omega)
    rw [List.drop_zero] at v1 v2 v3
    exact ⟨v1, v2, by omega⟩
theorem cut_eq (x : Int) : cadenceref16_cut.f x = some (ct x) := by
  unfold cadenceref16_cut.f ct
  split <;> rfl
theorem bulks52_drop {l : List S52} {i : Nat} (h : i < l.length) : S52.bulks (l.drop i) = (rd_T52 l i).bulk + S52.bulks (l.drop (i + 1)) := by
  rw [List.drop_eq_getElem_cons h, S52.bulks]
  simp [rd_T52, h]
theorem sizs_drop {l : List S52} {i : Nat} (h : i < l.length) (n : Int) : S52.sizs n (l.drop i) = S52.sizs (S52.siz n (rd_T52 l i)) (l.drop (i + 1)) := by
  rw [List.drop_eq_getElem_cons h, S52.sizs]
  simp [rd_T52, h]
theorem S52.siz_eq (n : Int) (s : S52) : S52.siz n s = if s.f0 = 1 then plusF [plusF [n, 1], s.f3.wei]
    else if s.f0 = 2 then plusF [plusF [n, 1], s.f2.wei, s.f3.wei]
    else if s.f0 = 3 then plusF [plusF [n, 1], s.f3.wei, S52.sizs 0 s.f6, S52.sizs 0 s.f7]
    else if s.f0 = 4 ∧ s.f4 < s.f5 then plusF [plusF [n, 1], timesF (s.f5 - s.f4) (plusF [1, S52.sizs 0 s.f6])]
    else plusF [n, 1] := by
  obtain ⟨k, nm, a, e, lo, hi, t, u⟩ := s
  rw [S52.siz]
theorem times_ct {d s n : Int} (hd : 1 ≤ d) (hs : Top s) (hn : Top n) :
    ct (mn (n + timesF d (mn (1 + s) 1099511627776)) 1099511627776) = ct (ct n + (if 65536 < d then 65537 else d) * (1 + ct s)) := by
  obtain ⟨s0, s1⟩ := hs
  obtain ⟨n0, n1⟩ := hn
  have e1 : 1 ≤ mn (1 + s) 1099511627776 ∧ mn (1 + s) 1099511627776 ≤ 1099511627776 := by unfold mn; split <;> omega
  by_cases h1 : s ≤ 65536
  · have e2 : mn (1 + s) 1099511627776 = 1 + s := by unfold mn; split <;> omega
    have e3 : ct s = s := by unfold ct; split <;> omega
    rw [e2, e3]
    by_cases h2 : 65536 < d
    · rw [if_pos h2]
      have hp : 65537 ≤ timesF d (1 + s) := by
        unfold timesF
        rw [if_neg (by omega)]
        split
        · omega
        · have : d * 1 ≤ d * (1 + s) := Int.mul_le_mul_of_nonneg_left (by omega) (by omega)
          omega
      have hq : 65537 * 1 ≤ 65537 * (1 + s) := by omega
      generalize timesF d (1 + s) = t at *
      generalize 65537 * (1 + s) = q at *
      unfold ct mn
      repeat' split
      all_goals omega
    · rw [if_neg h2]
      have hp : timesF d (1 + s) = d * (1 + s) := by
        unfold timesF
        rw [if_neg (by omega), if_neg]
        have : d * (1 + s) ≤ 65536 * (1 + s) := Int.mul_le_mul_of_nonneg_right (by omega) (by omega)
        have h5 := Int.le_ediv_of_mul_le (show 0 < 1 + s by omega) (show d * (1 + s) ≤ 1099511627776 by omega)
        omega
      have h6 : 0 ≤ d * (1 + s) := Int.mul_nonneg (by omega) (by omega)
      have h7 : d * (1 + s) ≤ 65536 * (1 + s) := Int.mul_le_mul_of_nonneg_right (by omega) (by omega)
      rw [hp]
      generalize d * (1 + s) = t at *
      unfold ct mn
      repeat' split
      all_goals omega
  · have e3 : ct s = 65537 := by unfold ct; split <;> omega
    rw [e3]
    have e4 : 65537 ≤ mn (1 + s) 1099511627776 := by unfold mn; split <;> omega
    have hp : 65537 ≤ timesF d (mn (1 + s) 1099511627776) := by
      unfold timesF
      rw [if_neg (by omega)]
      split
      · omega
      · have : 1 * mn (1 + s) 1099511627776 ≤ d * mn (1 + s) 1099511627776 := Int.mul_le_mul_of_nonneg_right (by omega) (by omega)
        omega
    generalize timesF d (mn (1 + s) 1099511627776) = t at *
    have hq : 1 * (1 + 65537) ≤ (if 65536 < d then 65537 else d) * (1 + 65537) := by split <;> omega
    generalize (if 65536 < d then 65537 else d) * (1 + 65537) = q at *
    unfold ct mn
    repeat' split
    all_goals omega
end Go.Proofs.YtjomofepephodaaGreat.PEquivShapes
namespace Go.Proofs.YtjomofepephodaaGreat.PEquivShapes
open Go.RowKit
open Go.Proofs.YtjomofepephodaaGreatW.PrintWords Go.Proofs.YtjomofepephodaaGreatW.PrintLast Go.Proofs.YtjomofepephodaaGreatW.PrintMore
theorem ct_range {n : Int} (h : 0 ≤ n) : 0 ≤ ct n ∧ ct n ≤ 65537 := by unfold ct; split <;> omega
theorem ct_one {n : Int} (hn : Top n) : ct (plusF [n, 1]) = ct (ct n + 1) := by
  rw [plus2 hn top_one]
  obtain ⟨h0, h1⟩ := hn
  unfold ct mn
  repeat' split
  all_goals omega
theorem ct_two {n w : Int} (hn : Top n) (hw : Top w) (h20 : w ≤ 1048576) : ct (plusF [n, w]) = ct (ct n + w) := by
  rw [plus2 hn hw]
  obtain ⟨h0, h1⟩ := hn
  obtain ⟨h2, h3⟩ := hw
  unfold ct mn
  repeat' split
  all_goals omega
theorem ct_three {n a e : Int} (hn : Top n) (ha : Top a) (he : Top e) : ct (plusF [n, a, e]) = ct (ct n + a + e) := by
  rw [plus3 hn ha he]
  obtain ⟨h0, h1⟩ := hn
  obtain ⟨h2, h3⟩ := ha
  obtain ⟨h4, h5⟩ := he
  unfold ct mn
  repeat' split
  all_goals omega
theorem ct_four {n w s u : Int} (hn : Top n) (hw : Top w) (hs : Top s) (hu : Top u) : ct (plusF [n, w, s, u]) = ct (ct n + w + ct s + ct u) := by
  rw [plus4 hn hw hs hu]
  obtain ⟨h0, h1⟩ := hn
  obtain ⟨h2, h3⟩ := hw
  obtain ⟨h4, h5⟩ := hs
  obtain ⟨h6, h7⟩ := hu
  have a1 : ∀ x y : Int, 0 ≤ x → 0 ≤ y → ct (mn (x + y) 1099511627776) = ct (ct x + ct y) := fun x y hx hy => by
    unfold ct mn
    repeat' split
    all_goals omega
  have m0 : ∀ x : Int, 0 ≤ x → 0 ≤ mn x 1099511627776 := fun x hx => by unfold mn; split <;> omega
  have c0 : ∀ x : Int, 0 ≤ x → 0 ≤ ct x := fun x hx => (ct_range hx).1
  have a2 : ∀ x y : Int, 0 ≤ x → 0 ≤ y → ct (ct (ct x + ct y)) = ct (ct x + ct y) := fun x y _ _ => by
    unfold ct
    repeat' split
    all_goals omega
  rw [a1 _ _ (m0 _ (by have := m0 (n + w) (by omega); omega)) h6, a1 _ _ (m0 _ (by omega)) h4, a1 _ _ h0 h2]
  have b0 := c0 n h0
  have b1 := c0 s h4
  have b2 := c0 u h6
  generalize ct n = n' at *
  generalize ct s = s' at *
  generalize ct u = u' at *
  clear a1 a2 m0 c0 h0 h1 h4 h5 h6 h7
  unfold ct
  repeat' split
  all_goals omega
theorem S52.fits_parts {s : S52} (h : s.fits) : U64 s.f4 ∧ U64 s.f5 ∧ S52.allFit s.f6 ∧ S52.allFit s.f7 := by
  obtain ⟨k, nm, a, e, lo, hi, t, u⟩ := s
  unfold S52.fits at h
  exact ⟨h.2.2.2.1, h.2.2.2.2.1, h.2.2.2.2.2.1, h.2.2.2.2.2.2⟩
theorem len_bulks (l : List S52) : l.length ≤ S52.bulks l := by
  induction l with
  | nil => simp
  | cons x l ih =>
    have := S52.bulk_eq x
    rw [S52.bulks, List.length_cons]; omega
theorem parts_lt {sb fb ab eb tb ub Bl N : Nat} (hbe : sb = fb + ab + eb + tb + ub + 7) (hbi : sb ≤ Bl) (hb : Bl ≤ N) : ab ≤ N ∧ eb ≤ N ∧ tb < N ∧ ub < N := by omega
theorem parts_gas {sb fb ab eb tb ub D E k : Nat} (hbe : sb = fb + ab + eb + tb + ub + 7) (hbd : D = sb + E) (hk : 2 * D + 2 ≤ k + 1) : 2 * ab ≤ k ∧ 2 * eb ≤ k ∧ 2 * tb + 3 ≤ k ∧ 2 * ub + 3 ≤ k ∧ 2 * E + 2 ≤ k := by omega
end Go.Proofs.YtjomofepephodaaGreat.PEquivShapes
