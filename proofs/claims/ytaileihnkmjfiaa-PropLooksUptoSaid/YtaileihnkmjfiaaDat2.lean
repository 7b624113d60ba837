/-
  What visit, Propagate, Back, Add and Decide compute, as plain functions on data, and what each step asks for memory safety. Conditions: none; definitions.
-/
import Derived.Test.YtaileihnkmjfiaaT5
namespace Go.Proofs.Ytaileihnkmjfiaa

namespace ES
def mark (S : ES) (k : Nat) : ES := { S with stp := S.stp.set k S.turn }
def putW (S : ES) (i : Nat) (x : List Nat) : ES := { S with wt := S.wt.set i x }
def skips (S : ES) (l : Int) (k : Nat) : Prop := S.stp.getD k 0 = S.turn ∨ ((S.pr.getD k (0, 0)).1 ≠ l ∧ (S.pr.getD k (0, 0)).2 ≠ l)
instance (S : ES) (l : Int) (k : Nat) : Decidable (S.skips l k) := by unfold skips; infer_instance
def holdsB (S : ES) (l : Int) (k : Nat) : Prop := (S.pr.getD k (0, 0)).1 = l ∨ (S.pr.getD k (0, 0)).2 = l
instance (S : ES) (l : Int) (k : Nat) : Decidable (S.holdsB l k) := by unfold holdsB; infer_instance
/-- behind the settling of k: is it kept in the list of l? -/
def kept (l : Int) (list : List Nat) (k : Nat) (R : ES) (keep : List Nat) : ES × List Nat :=
  if R.holdsB l k then (R.putW (pl l) (keep ++ [k] ++ list.drop (keep.length + 1)), keep ++ [k]) else (R, keep)

def visitGo (l : Int) (list : List Nat) : List Nat → ES → List Nat → ES × Bool
  | [], S, keep => (S.putW (pl l) keep, true)
  | k :: rest, S, keep =>
    if S.skips l k then visitGo l list rest S keep
    else
      let r := (S.mark k).settle k
      let c := kept l list k r.1 keep
      if r.2 then visitGo l list rest c.1 c.2 else (c.1.putW (pl l) (c.2 ++ rest), false)
def visit (S : ES) (l : Int) : ES × Bool :=
  if S.wt.length ≤ pl l then (S, true) else visitGo l (S.wt.getD (pl l) []) (S.wt.getD (pl l) []) { S with turn := S.turn + 1 } []

/-- what a visit's steps ask -/
def VOk (l : Int) (list : List Nat) : List Nat → ES → List Nat → Prop
  | [], S, keep => S.wt.getD (pl l) [] = keep ++ list.drop keep.length
  | k :: rest, S, keep =>
    S.wt.getD (pl l) [] = keep ++ list.drop keep.length ∧ k < S.stp.length ∧ k < S.pr.length ∧
    (S.skips l k → VOk l list rest S keep) ∧
    (¬ S.skips l k → (S.mark k).Ok ∧ (S.mark k).Room 2 ∧ k < S.cs.length ∧
      k < ((S.mark k).settle k).1.pr.length ∧ ((S.mark k).settle k).1.wt.getD (pl l) [] = keep ++ list.drop keep.length ∧
      (((S.mark k).settle k).2 = true → VOk l list rest (kept l list k ((S.mark k).settle k).1 keep).1 (kept l list k ((S.mark k).settle k).1 keep).2))
end ES
end Go.Proofs.Ytaileihnkmjfiaa
