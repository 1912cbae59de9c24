/-
The walk of SplitBack: whatever secret, ask and order come in, it answers true.
-/
import Derived.Test.YtphoelhelmnibaaBp
import Derived.Test.YtphoelhelmnibaaOp
namespace Go.Proofs.Ytphoelhelmnibaa.WkSplitBack
open Go.RowKit Go.Proofs.Ytphoelhelmnibaa.Gf Go.Proofs.Ytphoelhelmnibaa.Pv Go.Proofs.Ytphoelhelmnibaa.Pw Go.Proofs.Ytphoelhelmnibaa.Op Go.Proofs.Ytphoelhelmnibaa.Sl Go.Proofs.Ytphoelhelmnibaa.Bp Go.Proofs.Ytphoelhelmnibaa.PQ Go.Proofs.YtphoelhelmnibaaW.PrintWords Go.Proofs.YtphoelhelmnibaaW.PrintLast
theorem walk (A0 : Option Addr) (c0 : Nat) (s : List F) (n m : F) (A1 : Option Addr) (c1 : Nat) (rows : List (List F)) (A2 : Option Addr) (c2 : Nat) (order : List Int) (W : World) (hc0 : (byI s).length ≤ c0) (hr0 : Kd.C (Kd.int .u8) W A0 (byI s).length (byI s)) (_ : s.length ≤ 9223372036854775807) (z0 : (byI s).length ≤ 140737488355328)
    (hc1 : (rws rows).length ≤ c1) (hr1 : Kd.C (Kd.slice 5 (Kd.int .u8)) W A1 (rws rows).length (rws rows)) (z1 : rows.length ≤ 140737488355328)
    (hc2 : order.length ≤ c2) (hr2 : Kd.C (Kd.int .i64) W A2 order.length order) (_ : order.length ≤ 9223372036854775807 ∧ ∀ a ∈ order, (Lit.int .i64 a).wf = true) (z2 : order.length ≤ 140737488355328) :
    Calls Try.prog 13 #[.slice A0 (byI s).length c0, .agg #[.int .u8 (toI n), .int .u8 (toI m), .slice A1 (rws rows).length c1], .slice A2 order.length c2] W fun e W' => e = .returned (.bool true) ∧ Below W.heap.size W W' := by
  rw [byI_length] at z0
  have bn := toI_range n
  have bm := toI_range m
  obtain ⟨a, ha⟩ : ∃ a, a = toI n % 9 + 1 := ⟨_, rfl⟩
  obtain ⟨b, hb⟩ : ∃ b, b = toI m % a + 1 := ⟨_, rfl⟩
  have ba : 1 ≤ a ∧ a ≤ 9 := by omega
  have b1 := Int.emod_nonneg (toI m) (show a ≠ 0 by omega)
  have b2 := Int.emod_lt_of_pos (toI m) (show 0 < a by omega)
  have bb : 1 ≤ b ∧ b ≤ 9 := by
    rw [hb]
    generalize toI m % a = z at b1 b2
    omega
  clear b1 b2
  have h1 := back_true s a b ba.2 rows (by omega) order (by omega) (rounds s.length rows.length + rows.length + order.length + 20000) (by omega)
  have h2 := split_eq s (by omega) a b (by omega) (by omega) rows (by omega) (rounds s.length rows.length + rows.length + order.length + 20000) (by omega)
  refine chatelainelaw45_SplitBack.calls (rounds s.length rows.length + rows.length + order.length + 20000) A0 c0 (byI s) (fun _ => True) (fun _ => trivial) (toI n) (toI m) bn bm a ha (if may s a b rows = true then shs (deal s rows a.toNat) else []) A2 c2 order b hb (if may s a b rows = true then 0 else 2) A1 c1 (rws rows) true W hr0 hc0 ?_ hr2 hc2 hr1 hc1 h1
  rw [h2]
  split <;> rfl
end Go.Proofs.Ytphoelhelmnibaa.WkSplitBack
