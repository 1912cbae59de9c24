/-
sbox.Swap, walked.
-/
import Derived.Test.YtphoelhelmnibaaSw
import Derived.Test.YtphoelhelmnibaaRd
namespace Go.Proofs.Ytphoelhelmnibaa.Sp
open Go.RowKit Go.Proofs.Ytphoelhelmnibaa.Gf Go.Proofs.Ytphoelhelmnibaa.Ar Go.Proofs.Ytphoelhelmnibaa.Sw Go.Proofs.Ytphoelhelmnibaa.Db Go.Proofs.Ytphoelhelmnibaa.Rd Go.Proofs.YtphoelhelmnibaaW.PrintWords Go.Proofs.YtphoelhelmnibaaW.PrintLast Go.Proofs.YtphoelhelmnibaaW.PrintMore
def zeroF : Nat → F := fun _ => 0#8
/-- a row of bools -/
def rowT (n : Nat) (f : Nat → Bool) : Array Value := rowV n fun j => .bool (f j)
theorem rowT_get (n : Nat) (f : Nat → Bool) (j : Nat) (h : j < n) : (rowT n f)[j]? = some (.bool (f j)) := rowV_get n _ j h
theorem rowT_set (n : Nat) (f : Nat → Bool) (i : Nat) (v : Bool) : (rowT n f).setIfInBounds i (.bool v) = rowT n (fun j => if j = i then v else f j) := by
  unfold rowT; rw [rowV_set]; apply rowV_congr; intro j hj
  by_cases e : j = i
  · simp only [e, if_true]
  · simp only [e, if_false]
section
variable {ops : Array Oper} {rest : List Oper} {o : Oper} {a : Act} {w : World} {Q : Exit → Act → World → Prop}
theorem alloc36 (hgd : o.guard = none) (ho : o.op = .alloc 36) (h : wpList Try.prog ops Q rest (a.put o.dst (.pointer (some ⟨w.heap.size, 0, none⟩))) (w.alloc (.cells (rowB 256 zeroF) 36))) : wpList Try.prog ops Q (o :: rest) a w :=
  Kd.event_run hgd (by unfold execOp; rw [ho]; kernel_rfl) h
theorem alloc73 (hgd : o.guard = none) (ho : o.op = .alloc 73) (h : wpList Try.prog ops Q rest (a.put o.dst (.pointer (some ⟨w.heap.size, 0, none⟩))) (w.alloc (.cells (rowT 256 fun _ => false) 73))) : wpList Try.prog ops Q (o :: rest) a w :=
  Kd.event_run hgd (by unfold execOp; rw [ho]; kernel_rfl) h
theorem build36 (hgd : o.guard = none) (ho : o.op = .build 36 #[]) (h : wpList Try.prog ops Q rest (a.put o.dst (.agg (rowB 256 zeroF))) w) : wpList Try.prog ops Q (o :: rest) a w :=
  Kd.event_run hgd (by unfold execOp; rw [ho]; kernel_rfl) h
theorem load36 (hgd : o.guard = none) (x : Operand) (ho : o.op = .load 36 x) (g : Nat) (hx : a.eval x = .pointer (some ⟨g, 0, none⟩)) (f : Nat → F) (hg : w.heap[g]? = some (.cells (rowB 256 f) 36 (0, 0)))
    (h : wpList Try.prog ops Q rest (a.put o.dst (.agg (rowB 256 f))) w) : wpList Try.prog ops Q (o :: rest) a w :=
  wpList_load_row hgd 36 x ho g hx 36 (rowB 256 f) (0, 0) _ hg Try.underlying36 rfl (by rw [rowB_size]; exact info36) h
theorem store36 (hgd : o.guard = none) (x y : Operand) (ho : o.op = .store 36 x y) (g : Nat) (f r : Nat → F) (hx : a.eval x = .pointer (some ⟨g, 0, none⟩)) (hy : a.eval y = .agg (rowB 256 f)) (hg : w.heap[g]? = some (.cells (rowB 256 r) 36 (0, 0)))
    (h : wpList Try.prog ops Q rest (a.put o.dst undef) (w.setRow g (rowB 256 f))) : wpList Try.prog ops Q (o :: rest) a w :=
  wpList_store_row hgd 36 x y ho g (rowB 256 f) hx hy 36 (rowB 256 r) hg (by rw [rowB_size]; exact info36) (by rw [rowB_size, rowB_size]) (rowB_one _ _) h
end
theorem toNat_toI (x : F) : (toI x).toNat = x.toNat := rfl
theorem results_swap {fn : Func} {p t : Tmp} (h : fn.results = #[.cell p 36, .tmp t]) (tmps : Array Value) (w : World) (g : Nat) (f : Nat → F) (b : Bool)
    (hp : tmps.getD p undef = .pointer (some ⟨g, 0, none⟩)) (ht : tmps.getD t undef = .bool b) (hg : w.heap[g]? = some (.cells (rowB 256 f) 36 (0, 0))) :
    (results fn tmps).run Try.prog w = .ok (.tuple #[.agg (rowB 256 f), .bool b]) w := by
  have hp' : tmps[p]?.getD undef = .pointer (some ⟨g, 0, none⟩) := by simpa using hp
  have ht' : tmps[t]?.getD undef = .bool b := by simpa using ht
  simp [results, h, hp', ht', asAddr, run_loadVar_row w g 36 36 (rowB 256 f) (0, 0) _ hg Try.underlying36 rfl (by rw [rowB_size]; exact info36)]
theorem byte_spell (k : Nat) (_h : k < 256) : toI (BitVec.ofNat 8 k) = (k : Int) := by unfold toI; rw [BitVec.toNat_ofNat]; omega
def Sws (w W : World) (f o : Nat → F) (m : Nat → Bool) : Prop := W.heap[w.heap.size]? = some (.cells (rowB 256 f) 36 (0, 0)) ∧ W.heap[w.heap.size + 1]? = some (.cells (rowB 256 zeroF) 36 (0, 0)) ∧ W.heap[w.heap.size + 1 + 1]? = some (.cells (rowB 256 o) 36 (0, 0)) ∧ W.heap[w.heap.size + 1 + 1 + 1]? = some (.cells (rowT 256 m) 73 (0, 0)) ∧ Below w.heap.size w W
theorem Sws.start (w : World) (f : Nat → F) : Sws w ((((w.alloc (.cells (rowB 256 f) 36)).alloc (.cells (rowB 256 zeroF) 36)).alloc (.cells (rowB 256 zeroF) 36)).alloc (.cells (rowT 256 fun _ => false) 73)) f zeroF (fun _ => false) :=
  ⟨(heap_alloc_old _ _ (by simp <;> omega)).trans ((heap_alloc_old _ _ (by simp <;> omega)).trans (heap_alloc2_old _ _ _)), (heap_alloc_old _ _ (by simp)).trans ((heap_alloc_old _ _ (by simp)).trans (heap_alloc2_new _ _ _)),
   (heap_alloc_old _ _ (by simp)).trans (alloc_at _ (by simp)), alloc_at _ (by simp), ((((Below.refl _ _).alloc (Nat.le_refl _) _).alloc (by simp) _).alloc (by simp <;> omega) _).alloc (by simp <;> omega) _⟩
theorem Sws.next {w W : World} {f o : Nat → F} {m : Nat → Bool} (h : Sws w W f o m) (c : Nat) (v : F) :
    Sws w ((W.setCell ⟨w.heap.size + 1 + 1 + 1, c, none⟩ (.bool true)).setCell ⟨w.heap.size + 1 + 1, c, none⟩ (.int .u8 (toI v))) f (fun j => if j = c then v else o j) (fun j => if j = c then true else m j) :=
  ⟨blk_far (blk_far h.1 (by simp <;> omega) _) (by simp <;> omega) _, blk_far (blk_far h.2.1 (by simp <;> omega) _) (by simp) _, by rw [blk_set (blk_far h.2.2.1 (by simp) _) c, rowB_set], by
    refine blk_far ?_ (by simp) _
    rw [blk_set h.2.2.2.1 c, rowT_set], (h.2.2.2.2.setCell (by simp <;> omega) _).setCell (by simp <;> omega) _⟩
set_option maxRecDepth 100000 in
set_option maxHeartbeats 1000000 in
theorem swap_yes (f : Nat → F) (hf : Distinct f 256) (w : World) : Calls Try.prog 25 #[.agg (rowB 256 f)] w fun e w' => e = .returned (.tuple #[.agg (rowB 256 (turnK f)), .bool true]) ∧ Below w.heap.size w w' := by
  have hone := Aside0.mk (rowB_one 256 f)
  have HF := Aside0.mk hf
  clear hf
  go_enter Try.func25, Try.ntmps25
  go_wp2_with (first | (refine alloc36 rfl rfl ?_) | (refine alloc73 rfl rfl ?_) | (refine load36 rfl _ rfl w.heap.size rfl f ?hL ?_; case hL => exact (heap_alloc_old _ _ (by simp <;> omega)).trans ((heap_alloc_old _ _ (by simp <;> omega)).trans (heap_alloc2_old _ _ _))))
  have H0 := Aside0.mk (Sws.start w f)
  go_loopw [9] (fun i wr => ∃ k : Nat, k ≤ 256 ∧ i = .int .i64 k ∧ Aside0 (Sws w wr f (outK f k) (metK f k))) (fun i _ => 256 - (intOf i).toNat)
  case atStart => exact ⟨0, by omega, rfl, H0⟩
  case round =>
    clear H0
    obtain ⟨k, hk, rfl, HS⟩ := hrel
    by_cases hlt : k < 256
    · have hd : decide ((k : Int) < 256) = true := decide_eq_true (by omega)
      have hi : ∀ W, (Instr.index 36 (.agg (rowB 256 f)) (.int .i64 (k : Int))).run Try.prog W = .ok (.int .u8 (toI (f k))) W := fun W => index36 W f .i64 (k : Int) (by omega) (by omega)
      have b0 := toI_lo (f k)
      have b1 := toI_hi (f k)
      have hm := HF.out k hlt
      have cm : wr.cell? ⟨w.heap.size + 1 + 1 + 1, (toI (f k)).toNat, none⟩ = some (.bool false) := (blk_cell HS.out.2.2.2.1 _).trans ((rowT_get _ _ _ (by rw [toNat_toI]; exact (f k).isLt)).trans (by rw [toNat_toI, hm]))
      have zm : wr.frozen? ⟨w.heap.size + 1 + 1 + 1, (toI (f k)).toNat, none⟩ = false := blk_frozen HS.out.2.2.2.1 _
      have co : wr.cell? ⟨w.heap.size + 1 + 1, (toI (f k)).toNat, none⟩ = some (.int .u8 (toI (outK f k (f k).toNat))) := (blk_cell HS.out.2.2.1 _).trans (rowB_get _ _ _ (f k).isLt)
      have zo : wr.frozen? ⟨w.heap.size + 1 + 1, (toI (f k)).toNat, none⟩ = false := blk_frozen HS.out.2.2.1 _
      clear hm
      go_wp2
      go_roundw
      case measure => simp [intOf]; omega
      case rel =>
        refine ⟨k + 1, by omega, by go_num, ⟨?_⟩⟩
        have := HS.out.next (f k).toNat (BitVec.ofNat 8 k)
        rw [byte_spell k hlt] at this
        exact this
    · obtain rfl : k = 256 := by omega
      have hd : decide (((256 : Nat) : Int) < 256) = false := by decide
      go_wp2_with (first | (refine load36 rfl _ rfl _ rfl (outK f 256) HS.out.2.2.1 ?_) | (refine store36 rfl _ _ rfl _ (outK f 256) zeroF rfl rfl HS.out.2.1 ?_))
      refine bodyPost_ret (results_swap rfl _ _ _ (outK f 256) true rfl rfl (setRow_heap _ _ _ _ _ _ HS.out.2.1)) rfl ⟨rfl, ?_⟩
      exact below_setRow HS.out.2.2.2.2 (by omega) _
set_option maxRecDepth 100000 in
set_option maxHeartbeats 1000000 in
theorem swap_no (f : Nat → F) (n : Nat) (hn : n < 256) (hf : Distinct f n) (hm : metK f n (f n).toNat = true) (w : World) : Calls Try.prog 25 #[.agg (rowB 256 f)] w fun e w' => e = .returned (.tuple #[.agg (rowB 256 zeroF), .bool false]) ∧ Below w.heap.size w w' := by
  have hone := Aside0.mk (rowB_one 256 f)
  have HF := Aside0.mk hf
  have HM := Aside0.mk hm
  clear hf hm
  go_enter Try.func25, Try.ntmps25
  go_wp2_with (first | (refine alloc36 rfl rfl ?_) | (refine alloc73 rfl rfl ?_) | (refine load36 rfl _ rfl w.heap.size rfl f ?hL ?_; case hL => exact (heap_alloc_old _ _ (by simp <;> omega)).trans ((heap_alloc_old _ _ (by simp <;> omega)).trans (heap_alloc2_old _ _ _))))
  have H0 := Aside0.mk (Sws.start w f)
  go_loopw [9] (fun i wr => ∃ k : Nat, k ≤ n ∧ i = .int .i64 k ∧ Aside0 (Sws w wr f (outK f k) (metK f k))) (fun i _ => 256 - (intOf i).toNat)
  case atStart => exact ⟨0, by omega, rfl, H0⟩
  case round =>
    clear H0
    obtain ⟨k, hk, rfl, HS⟩ := hrel
    have hd : decide ((k : Int) < 256) = true := decide_eq_true (by omega)
    have hi : ∀ W, (Instr.index 36 (.agg (rowB 256 f)) (.int .i64 (k : Int))).run Try.prog W = .ok (.int .u8 (toI (f k))) W := fun W => index36 W f .i64 (k : Int) (by omega) (by omega)
    have b0 := toI_lo (f k)
    have b1 := toI_hi (f k)
    by_cases hlt : k < n
    · have hm := HF.out k hlt
      have cm : wr.cell? ⟨w.heap.size + 1 + 1 + 1, (toI (f k)).toNat, none⟩ = some (.bool false) := (blk_cell HS.out.2.2.2.1 _).trans ((rowT_get _ _ _ (by rw [toNat_toI]; exact (f k).isLt)).trans (by rw [toNat_toI, hm]))
      have zm : wr.frozen? ⟨w.heap.size + 1 + 1 + 1, (toI (f k)).toNat, none⟩ = false := blk_frozen HS.out.2.2.2.1 _
      have co : wr.cell? ⟨w.heap.size + 1 + 1, (toI (f k)).toNat, none⟩ = some (.int .u8 (toI (outK f k (f k).toNat))) := (blk_cell HS.out.2.2.1 _).trans (rowB_get _ _ _ (f k).isLt)
      have zo : wr.frozen? ⟨w.heap.size + 1 + 1, (toI (f k)).toNat, none⟩ = false := blk_frozen HS.out.2.2.1 _
      clear hm
      go_wp2
      go_roundw
      case measure => simp [intOf]; omega
      case rel =>
        refine ⟨k + 1, by omega, by go_num, ⟨?_⟩⟩
        have := HS.out.next (f k).toNat (BitVec.ofNat 8 k)
        rw [byte_spell k (by omega)] at this
        exact this
    · obtain rfl : k = n := by omega
      have cm : wr.cell? ⟨w.heap.size + 1 + 1 + 1, (toI (f k)).toNat, none⟩ = some (.bool true) := (blk_cell HS.out.2.2.2.1 _).trans ((rowT_get _ _ _ (by rw [toNat_toI]; exact (f k).isLt)).trans (by rw [toNat_toI, HM.out]))
      go_wp2_with (first | (refine build36 rfl rfl ?_) | (refine store36 rfl _ _ rfl _ zeroF zeroF rfl rfl HS.out.2.1 ?_))
      refine bodyPost_ret (results_swap rfl _ _ _ zeroF false rfl rfl (setRow_heap _ _ _ _ _ _ HS.out.2.1)) rfl ⟨rfl, ?_⟩
      exact below_setRow HS.out.2.2.2.2 (by omega) _
theorem first_met (f : Nat → F) (n : Nat) (h : ¬ Distinct f n) : ∃ k, k < n ∧ Distinct f k ∧ metK f k (f k).toNat = true := by
  induction n with
  | zero => exact absurd (fun j hj => absurd hj (Nat.not_lt_zero j)) h
  | succ n ih =>
    by_cases h1 : Distinct f n
    · refine ⟨n, by omega, h1, ?_⟩
      cases e : metK f n (f n).toNat
      · refine absurd (fun j hj => ?_) h
        rcases Nat.lt_or_eq_of_le (Nat.le_of_lt_succ hj) with h2 | h2
        · exact h1 j h2
        · subst h2; exact e
      · rfl
    · obtain ⟨k, hk, h2, h3⟩ := ih h1
      exact ⟨k, by omega, h2, h3⟩
theorem swap_else (f : Nat → F) (h : ¬ Distinct f 256) (w : World) : Calls Try.prog 25 #[.agg (rowB 256 f)] w fun e w' => e = .returned (.tuple #[.agg (rowB 256 zeroF), .bool false]) ∧ Below w.heap.size w w' := by
  obtain ⟨k, hk, h1, h2⟩ := first_met f 256 h
  exact swap_no f k hk h1 h2 w
end Go.Proofs.Ytphoelhelmnibaa.Sp
