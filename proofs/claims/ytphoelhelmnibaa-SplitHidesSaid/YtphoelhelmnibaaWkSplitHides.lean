/-
The walk of SplitHides: whatever secrets and rows come in, it answers true.
-/
import Derived.Test.YtphoelhelmnibaaHp
import Derived.Test.YtphoelhelmnibaaOp
namespace Go.Proofs.Ytphoelhelmnibaa.WkSplitHides
open Go.RowKit Go.Proofs.Ytphoelhelmnibaa.Gf Go.Proofs.Ytphoelhelmnibaa.Pv Go.Proofs.Ytphoelhelmnibaa.Pw Go.Proofs.Ytphoelhelmnibaa.Op Go.Proofs.Ytphoelhelmnibaa.Sl Go.Proofs.Ytphoelhelmnibaa.Hp Go.Proofs.Ytphoelhelmnibaa.PQ Go.Proofs.YtphoelhelmnibaaW.PrintWords Go.Proofs.YtphoelhelmnibaaW.PrintLast
theorem walk (A0 : Option Addr) (c0 : Nat) (s : List F) (A1 : Option Addr) (c1 : Nat) (o : List F) (A2 : Option Addr) (c2 : Nat) (rows : List (List F)) (W : World) (hc0 : (byI s).length ≤ c0) (hr0 : Kd.C (Kd.int .u8) W A0 (byI s).length (byI s)) (_ : s.length ≤ 9223372036854775807) (z0 : (byI s).length ≤ 140737488355328)
    (hc1 : (byI o).length ≤ c1) (hr1 : Kd.C (Kd.int .u8) W A1 (byI o).length (byI o)) (_ : o.length ≤ 9223372036854775807)
    (hc2 : (rws rows).length ≤ c2) (hr2 : Kd.C (Kd.slice 5 (Kd.int .u8)) W A2 (rws rows).length (rws rows)) (_ : rows.length ≤ 9223372036854775807) (z2 : (rws rows).length ≤ 140737488355328) :
    Calls Try.prog 11 #[.slice A0 (byI s).length c0, .slice A1 (byI o).length c1, .slice A2 (rws rows).length c2] W fun e W' => e = .returned (.bool true) ∧ Below W.heap.size W W' := by
  rw [byI_length] at z0
  rw [rws_length] at z2
  have h1 := hides_true s o rows z2 (rounds s.length rows.length + rows.length + 20000) (by omega)
  have h2 := split_eq s (by omega) ((rows.length + 1 : Nat) : Int) ((rows.length + 1 : Nat) : Int) (by omega) (by omega) rows (by omega) (rounds s.length rows.length + rows.length + 20000) (by omega)
  rw [Int.toNat_natCast] at h2
  refine chatelainelaw45_SplitHides.calls (rounds s.length rows.length + rows.length + 20000) A0 c0 (byI s) A1 c1 (byI o) A2 c2 (rws rows) (fun _ => True) (fun _ => trivial) (if may s ((rows.length + 1 : Nat) : Int) ((rows.length + 1 : Nat) : Int) rows = true then shs (deal s rows (rows.length + 1)) else []) (if may s ((rows.length + 1 : Nat) : Int) ((rows.length + 1 : Nat) : Int) rows = true then 0 else 2) true W hr0 hc0 hr1 hc1 hr2 hc2 ?_ h1
  rw [rws_length, show wrap64 ((rows.length : Int) + 1) = ((rows.length + 1 : Nat) : Int) by unfold wrap64; omega, h2]
  split <;> rfl
end Go.Proofs.Ytphoelhelmnibaa.WkSplitHides
