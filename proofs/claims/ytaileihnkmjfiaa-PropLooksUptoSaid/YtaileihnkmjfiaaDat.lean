/-
  What the functions of package prop compute, as plain functions on data. Conditions: none; definitions.
-/
import Derived.Test.YtaileihnkmjfiaaEng
namespace Go.Proofs.Ytaileihnkmjfiaa

/-- the place of a literal's list -/
def pl (l : Int) : Nat := if l < 0 then 2 * l.natAbs + 1 else 2 * l.natAbs

namespace ES
def of (S : ES) (l : Int) : Int := if l < 0 then - S.val.getD l.natAbs 0 else S.val.getD l.natAbs 0
def lv (S : ES) (l : Int) : Nat := S.lev.getD l.natAbs 0
def worth (S : ES) (l : Int) : Int := if S.of l = 1 then 2097154 - (S.lv l : Int) else if S.of l = 0 then 1048577 else (S.lv l : Int)
def sg (l : Int) : Int := if l < 0 then -1 else 1
def set (S : ES) (l : Int) (r : Nat) : ES :=
  { S with val := S.val.set l.natAbs (sg l), lev := S.lev.set l.natAbs S.mks.length, rsn := S.rsn.set l.natAbs r, tr := S.tr ++ [l] }
def bestStep (S : ES) (p : Int × Int) (l : Int) : Int × Int :=
  if l = p.1 ∨ l = p.2 then p else if p.1 = 0 ∨ S.worth p.1 < S.worth l then (l, p.1) else if p.2 = 0 ∨ S.worth p.2 < S.worth l then (p.1, l) else p
def best (S : ES) (c : List Int) : Int × Int := c.foldl S.bestStep (0, 0)
def grow (L : List (List Nat)) (i : Nat) : List (List Nat) := L ++ List.replicate (i + 1 - L.length) []
def lay (L : List (List Nat)) (i k : Nat) : List (List Nat) := (grow L i).set i ((grow L i).getD i [] ++ [k])
def layW (S : ES) (i k : Nat) : ES := { S with wt := lay S.wt i k }
def layH (S : ES) (i k : Nat) : ES := { S with hl := lay S.hl i k }
def watchOne (S : ES) (k : Nat) (q : Int × Int) (l : Int) : ES := if l ≠ 0 ∧ l ≠ q.1 ∧ l ≠ q.2 then S.layW (pl l) k else S
def settle (S : ES) (k : Nat) : ES × Bool :=
  let p := S.best (S.cs.getD k [])
  let q := S.pr.getD k (0, 0)
  let S3 := { (S.watchOne k q p.1).watchOne k q p.2 with pr := S.pr.set k p }
  if p.1 = 0 ∨ S.of p.1 = -1 then ({ S3 with clash := k + 1 }, false)
  else if p.2 ≠ 0 ∧ S.of p.2 ≠ -1 then (S3, true)
  else
    let S4 := if S.of p.1 = 0 then S3.set p.1 (k + 1) else S3
    (if 0 < S4.lv p.1 ∧ (p.2 = 0 ∨ S4.lv p.2 < S4.lv p.1) then S4.layH p.1.natAbs k else S4, true)

/-- Sizes and ranges that the small calls ask. -/
structure Dim (S : ES) : Prop where
  n_le : S.n ≤ 1048576
  val_len : S.val.length = S.n + 1
  lev_len : S.lev.length = S.n + 1
  rsn_len : S.rsn.length = S.n + 1
  val_rng : ∀ v, -1 ≤ S.val.getD v 0 ∧ S.val.getD v 0 ≤ 1
  lev_le : ∀ v, S.lev.getD v 0 ≤ 1048576
  tr_le : S.tr.length ≤ 1048576

/-- What memory safety asks of the data. -/
structure Ok (S : ES) : Prop where
  n_le : S.n ≤ 1048576
  val_len : S.val.length = S.n + 1
  lev_len : S.lev.length = S.n + 1
  rsn_len : S.rsn.length = S.n + 1
  val_rng : ∀ v, -1 ≤ S.val.getD v 0 ∧ S.val.getD v 0 ≤ 1
  lits : ∀ c, c ∈ S.cs → ∀ l, l ∈ c → l ≠ 0 ∧ l.natAbs ≤ S.n
  cl_len : ∀ c, c ∈ S.cs → c.length ≤ 65536
  cs_len : S.cs.length ≤ 1048576
  lits_le : S.lits ≤ 4194304
  pr_len : S.pr.length = S.cs.length
  stp_len : S.stp.length = S.cs.length
  pr_rng : ∀ k, (S.pr.getD k (0, 0)).1.natAbs ≤ S.n ∧ (S.pr.getD k (0, 0)).2.natAbs ≤ S.n
  wt_rng : ∀ i k, k ∈ S.wt.getD i [] → k < S.cs.length
  hl_rng : ∀ i k, k ∈ S.hl.getD i [] → k < S.cs.length
  fr_rng : ∀ k, k ∈ S.fr → k < S.cs.length
  rsn_rng : ∀ v, S.rsn.getD v 0 ≤ S.cs.length
  clash_le : S.clash ≤ S.cs.length
  tr_rng : ∀ l, l ∈ S.tr → l ≠ 0 ∧ l.natAbs ≤ S.n
  tr_len : S.tr.length ≤ S.n
  mks_len : S.mks.length ≤ S.tr.length
  mks_rng : ∀ m, m ∈ S.mks → m ≤ S.tr.length
  lev_rng : ∀ v, S.lev.getD v 0 ≤ S.mks.length
  head_le : S.head ≤ S.tr.length
  wt_len : S.wt.length ≤ 2097154
  hl_len : S.hl.length ≤ 1048577
theorem Ok.dim {S : ES} (h : S.Ok) : S.Dim :=
  ⟨h.n_le, h.val_len, h.lev_len, h.rsn_len, h.val_rng, fun v => Nat.le_trans (h.lev_rng v) (Nat.le_trans h.mks_len (Nat.le_trans h.tr_len h.n_le)), Nat.le_trans h.tr_len h.n_le⟩
end ES
end Go.Proofs.Ytaileihnkmjfiaa
