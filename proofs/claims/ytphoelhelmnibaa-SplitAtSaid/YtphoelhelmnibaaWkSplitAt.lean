/-
The walk of SplitAt: whatever shares come in, it answers true.
-/
import Derived.Test.YtphoelhelmnibaaSa
import Derived.Test.YtphoelhelmnibaaOp
namespace Go.Proofs.Ytphoelhelmnibaa.WkSplitAt
open Go.RowKit Go.Proofs.Ytphoelhelmnibaa.Gf Go.Proofs.Ytphoelhelmnibaa.Pw Go.Proofs.Ytphoelhelmnibaa.Sa Go.Proofs.Ytphoelhelmnibaa.PQ Go.Proofs.YtphoelhelmnibaaW.PrintWords Go.Proofs.YtphoelhelmnibaaW.PrintLast
theorem walk (A : Option Addr) (c : Nat) (p : List (F × List F)) (a b : Int) (W : World) (hc : (shs p).length ≤ c) (hr : Kd.C k54 W A (shs p).length (shs p)) (hw : p.length ≤ 9223372036854775807) (wa : (Lit.int .u8 a).wf = true) (_ : (Lit.int .i64 b).wf = true) :
    Calls Try.prog 12 #[.slice A (shs p).length c, .int .u8 a, .int .i64 b] W fun e W' => e = .returned (.bool true) ∧ Below W.heap.size W W' := by
  obtain ⟨x, rfl⟩ := exists_byte a wa
  obtain ⟨k, hk⟩ := splitAt_true p hw x b
  exact chatelainelaw45_SplitAt.calls k A c (shs p) (toI x) b true W hr hc hk
end Go.Proofs.Ytphoelhelmnibaa.WkSplitAt
