/-
  Level, Vars and Clauses of the engine return its counts and change nothing. Conditions: the engine lies in the world.
-/
import Derived.Test.YtaileihnkmjfiaaT2
namespace Go.Proofs.Ytaileihnkmjfiaa
open Go.RowKit

theorem quiet_l {P : Program} {f : FuncId} {args : Array Value} {w : World} {n : Nat} {v : Value}
    (h : Calls P f args (w.drewN n) fun e w' => e = .returned v ∧ w.drewN n = w') : Calls P f args (w.drewN n) fun e w'' => e = .returned v ∧ ∃ m, w'' = w.drewN m :=
  h.mono fun _ _ ⟨he, hm⟩ => ⟨he, n, hm.symm⟩

theorem quiet_al {P : Program} {f : FuncId} {args : Array Value} {w : World} {a n : Nat} {v : Value}
    (h : Calls P f args (w.drewN (a + n)) fun e w' => e = .returned v ∧ w.drewN (a + n) = w') : Calls P f args (w.drewN (a + n)) fun e w'' => e = .returned v ∧ ∃ m, w'' = w.drewN (a + m) :=
  h.mono fun _ _ ⟨he, hm⟩ => ⟨he, n, hm.symm⟩

theorem Eng.below {w w' : World} {b : Nat} {G : GH} {S : ES} (h : Eng w b G S) (hb : Below w.heap.size w w') : Eng w' b G S :=
  ⟨h.own.of_heap fun g hg => hb.block g (h.own.lt hg), h.at_, h.out0, h.out1, h.out2⟩
theorem Turned.of_below {w w' : World} (F : Nat → Prop) (hb : Below w.heap.size w w') : Turned F w F w' :=
  ⟨hb.os, hb.tape, hb.output, hb.size, fun k hk _ => hb.block k hk, fun _ h => .inl h⟩
theorem bdrewN {B k : Nat} {a w : World} (h : Below B a w) : Below B a (w.drewN k) := ⟨h.os, h.tape, h.output, h.size, h.block⟩

theorem level_any (b : Nat) (G : GH) (S : ES) (w : World) (h : Eng w b G S) :
    Calls Try.prog 47 #[.pointer (some ⟨b, 0, none⟩)] w fun e w' => e = .returned (i64 S.mks.length) ∧ w = w' := by
  have f10 := h.f10
  unfold sv at f10
  go_enter Try.func47, Try.ntmps47
  go_wp2
  go_ret
  exact ⟨rfl, rfl⟩
theorem vars_any (b : Nat) (G : GH) (S : ES) (w : World) (h : Eng w b G S) :
    Calls Try.prog 48 #[.pointer (some ⟨b, 0, none⟩)] w fun e w' => e = .returned (i64 S.n) ∧ w = w' := by
  have f0 := h.f0
  go_enter Try.func48, Try.ntmps48
  go_wp2
  go_ret
  exact ⟨rfl, rfl⟩
theorem clauses_any (b : Nat) (G : GH) (S : ES) (w : World) (h : Eng w b G S) :
    Calls Try.prog 49 #[.pointer (some ⟨b, 0, none⟩)] w fun e w' => e = .returned (i64 S.cs.length) ∧ w = w' := by
  have f1 := h.f1
  unfold sv at f1
  go_enter Try.func49, Try.ntmps49
  go_wp2
  go_ret
  exact ⟨rfl, rfl⟩
end Go.Proofs.Ytaileihnkmjfiaa
