/-
The walk of SplitSplits: whatever secret and rows come in, it answers true.
-/
import Derived.Test.YtphoelhelmnibaaSs
import Derived.Test.YtphoelhelmnibaaOp
namespace Go.Proofs.Ytphoelhelmnibaa.WkSplitSplits
open Go.RowKit Go.Proofs.Ytphoelhelmnibaa.Gf Go.Proofs.Ytphoelhelmnibaa.Pv Go.Proofs.Ytphoelhelmnibaa.Pw Go.Proofs.Ytphoelhelmnibaa.Op Go.Proofs.Ytphoelhelmnibaa.Sl Go.Proofs.Ytphoelhelmnibaa.Ss Go.Proofs.Ytphoelhelmnibaa.PQ Go.Proofs.YtphoelhelmnibaaW.PrintWords Go.Proofs.YtphoelhelmnibaaW.PrintLast
theorem walk (A0 : Option Addr) (c0 : Nat) (s : List F) (n m : Int) (A2 : Option Addr) (c2 : Nat) (rows : List (List F)) (W : World) (hc0 : (byI s).length ≤ c0) (hr0 : Kd.C (Kd.int .u8) W A0 (byI s).length (byI s)) (_ : s.length ≤ 9223372036854775807) (z0 : (byI s).length ≤ 140737488355328)
    (wn : (Lit.int .i64 n).wf = true) (wm : (Lit.int .i64 m).wf = true) (hc2 : (rws rows).length ≤ c2) (hr2 : Kd.C (Kd.slice 5 (Kd.int .u8)) W A2 (rws rows).length (rws rows)) (_ : rows.length ≤ 9223372036854775807) (z2 : (rws rows).length ≤ 140737488355328) :
    Calls Try.prog 10 #[.slice A0 (byI s).length c0, .agg #[.int .i64 n, .int .i64 m], .slice A2 (rws rows).length c2] W fun e W' => e = .returned (.bool true) ∧ Below W.heap.size W W' := by
  rw [byI_length] at z0
  rw [rws_length] at z2
  obtain ⟨K, hK⟩ := splits_true s (by omega) n m rows (by omega)
  have h1 := hK (K + rounds s.length rows.length) (by omega)
  have h2 := split_eq s (by omega) n m (wf_i64 n wn) (wf_i64 m wm) rows (by omega) (K + rounds s.length rows.length) (by omega)
  refine chatelainelaw45_SplitSplits.calls (K + rounds s.length rows.length) A0 c0 (byI s) n A2 c2 (rws rows) (if may s n m rows = true then shs (deal s rows n.toNat) else []) m (if may s n m rows = true then 0 else 2) true W hr0 hc0 hr2 hc2 ?_ h1
  rw [h2]
  split <;> rfl
end Go.Proofs.Ytphoelhelmnibaa.WkSplitSplits
