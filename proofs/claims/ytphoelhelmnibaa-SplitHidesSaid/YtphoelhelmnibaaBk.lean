/-
Rows of bools, and blocks that stay.
-/
import Derived.Test.YtphoelhelmnibaaAr
namespace Go.Proofs.Ytphoelhelmnibaa.Bk
open Go.RowKit Go.Proofs.Ytphoelhelmnibaa.Ar Go.Proofs.YtphoelhelmnibaaW.PrintWords Go.Proofs.YtphoelhelmnibaaW.PrintLast Go.Proofs.YtphoelhelmnibaaW.PrintMore
/-- a row of bools -/
def rowT (n : Nat) (f : Nat → Bool) : Array Value := rowV n fun j => .bool (f j)
theorem rowT_get (n : Nat) (f : Nat → Bool) (j : Nat) (h : j < n) : (rowT n f)[j]? = some (.bool (f j)) := rowV_get n _ j h
theorem rowT_set (n : Nat) (f : Nat → Bool) (i : Nat) (v : Bool) : (rowT n f).setIfInBounds i (.bool v) = rowT n (fun j => if j = i then v else f j) := by
  unfold rowT; rw [rowV_set]; apply rowV_congr; intro j hj
  by_cases e : j = i
  · simp only [e, if_true]
  · simp only [e, if_false]
section
variable {ops : Array Oper} {rest : List Oper} {o : Oper} {a : Act} {w : World} {Q : Exit → Act → World → Prop}
theorem alloc73 (hgd : o.guard = none) (ho : o.op = .alloc 73) (h : wpList Try.prog ops Q rest (a.put o.dst (.pointer (some ⟨w.heap.size, 0, none⟩))) (w.alloc (.cells (rowT 256 fun _ => false) 73))) : wpList Try.prog ops Q (o :: rest) a w :=
  Kd.event_run hgd (by unfold execOp; rw [ho]; kernel_rfl) h
end
theorem block_below {w w1 : World} (hb : Below w.heap.size w w1) {g : Nat} {o : Obj} (h : w.heap[g]? = some o) : w1.heap[g]? = some o := (hb.block g (blk_lt h)).trans h
end Go.Proofs.Ytphoelhelmnibaa.Bk
