/-
For every block and every n: the program's doubling is the document's: chatelainelaw02.GfDoubles returns true: the walk.
-/
import Derived.Test.YtphoelhelmnibaaRd
import Derived.Test.YtphoelhelmnibaaWkGfLaws
namespace Go.Proofs.Ytphoelhelmnibaa.WkGfDoubles
open Go.RowKit Go.Proofs.Ytphoelhelmnibaa.Gf Go.Proofs.Ytphoelhelmnibaa.Ar Go.Proofs.Ytphoelhelmnibaa.Db Go.Proofs.Ytphoelhelmnibaa.Rd Go.Proofs.YtphoelhelmnibaaW.PrintWords Go.Proofs.YtphoelhelmnibaaW.PrintLast Go.Proofs.YtphoelhelmnibaaW.PrintMore
theorem yields_row {ops : Array Oper} {S : World → Prop} {op : Oper} {a : Act} (hw : Region.wanted op (yielded ops a.tmps) = true) (x : Operand) (ho : op.op = .load 25 x) (g : Nat) (hx : a.eval x = .pointer (some ⟨g, 0, none⟩)) (f : Nat → F)
    (hS : ∀ w, S w → w.heap[g]? = some (.cells (rowB 16 f) 25 (0, 0))) : YieldsIf Try.prog ops S op (.agg (rowB 16 f)) a :=
  .inl ⟨hw, fun w hw' => by
    unfold execOp
    simp only [ho, hx, Instr.loadAt, Instr.sureAddr, Sem.run_bind, Sem.run_pure, Result.andThen_ok, run_loadVar_row w g 25 25 (rowB 16 f) (0, 0) _ (hS w hw') Try.underlying25 rfl (by rw [rowB_size]; exact info25)]⟩
theorem same25 (w : World) (f : Nat → F) : (Op.equalIn 10000 25 (.agg (rowB 16 f)) (.agg (rowB 16 f))).run Try.prog w = .ok true w := by rw [equalIn25, sameB_refl]
attribute [local go_sem] same25
theorem doubled_none (f : Nat → F) (n : Int) (h : n ≤ 0 ∨ 65536 < n) (w : World) : Calls Try.prog 19 #[.agg (rowB 16 f), .int .i64 n] w fun e w' => e = .returned (.agg (rowB 16 f)) ∧ Below w.heap.size w w' := by
  by_cases h0 : n = 0
  · subst h0; exact doubled_calls f 0 (by omega) w
  · exact doubled_same f n (by omega) w
set_option maxRecDepth 100000 in
set_option maxHeartbeats 1000000 in
theorem walk_mid (f : Nat → F) (n : Int) (h1 : 100 < n) (h2 : n ≤ 65536) (w : World) : Calls Try.prog 4 #[.agg (rowB 16 f), .int .i64 n] w fun e w' => e = .returned (.bool true) ∧ Below w.heap.size w w' := by
  have hone := Aside0.mk (rowB_one 16 f)
  go_enter Try.func4, Try.ntmps4
  go_wp2_with fail
  refine (WkGfLaws.awake_calls _).mono ?_
  rintro e w' ⟨rfl, ⟨nd, rfl⟩⟩
  go_wp2_with fail
  have HA : Aside0 (((w.alloc (.cells (rowB 16 f) 25)).drewN nd).heap[w.heap.size]? = some (.cells (rowB 16 f) 25 (0, 0))) := ⟨heap_alloc_new _ _⟩
  have HB : Aside0 (Below w.heap.size w ((w.alloc (.cells (rowB 16 f) 25)).drewN nd)) := ⟨pw_below_drewN ((Below.refl _ _).alloc (Nat.le_refl _) _) _⟩
  generalize (w.alloc (.cells (rowB 16 f) 25)).drewN nd = W0 at *
  refine start_ (n := 5) (S := fun W => W.heap[w.heap.size]? = some (.cells (rowB 16 f) 25 (0, 0)) ∧ Below w.heap.size w W) (ds := []) #[false, false, false, false, false] (by kernel_rfl) rfl rfl ⟨HA.out, below_drew HB.out⟩ (fun hHeld => ?_)
  clear HA HB
  generalize W0.drew = W1 at *
  refine take_ (i := 0) (N := some 8) (v := _) (a' := ?_) #[true, false, false, false, false] rfl rfl (by kernel_rfl) (fun _ _ _ h => h) (yields_row (by rfl) _ rfl w.heap.size (by rfl) f (fun _ h => h.1)) hHeld ?_ ?_
  rotate_left
  · simp only [Act.put, List.setIfInBounds_toArray, List.set_cons_zero, List.set_cons_succ]
    rfl
  refine take_ (i := 2) (N := some 10) (v := _) (a' := ?_) #[true, false, true, false, false] rfl rfl (by kernel_rfl) (fun _ _ _ h => h) (yields_row (by rfl) _ rfl w.heap.size (by rfl) f (fun _ h => h.1)) hHeld ?_ ?_
  rotate_left
  · simp only [Act.put, List.setIfInBounds_toArray, List.set_cons_zero, List.set_cons_succ]
    rfl
  refine one_ (i := 1) (N := some 9) #[true, true, true, false, false] rfl rfl (by kernel_rfl) (by decide) (fun K hK => ?_)
  refine goes_ Try.func17 (by kernel_rfl) rfl #[.agg (rowB 16 f)] (by rfl) rfl rfl (by (try simp only [List.map_toArray, List.map_cons, List.map_nil]); first | done | rfl) ?_
  with_reducible refine (double_calls f _).mono ?_
  rintro e w' ⟨rfl, hb⟩
  refine ⟨_, rfl, ?_⟩
  refine hK.out _ _ ⟨block_below hb hHeld.1, below_then hHeld.2 hHeld.2.size hb⟩ (fun hHeld => ?_)
  clear hK K
  refine norm_ (a' := ?_) ?_ ?_
  rotate_left
  · show Act.put _ (some 9) _ = _
    simp only [Act.put, List.setIfInBounds_toArray, List.set_cons_zero, List.set_cons_succ]
    rfl
  refine one_ (i := 3) (N := some 11) #[true, true, true, true, false] rfl rfl (by kernel_rfl) (by decide) (fun K hK => ?_)
  refine goes_ Try.func18 (by kernel_rfl) rfl #[.agg (rowB 16 f)] (by rfl) rfl rfl (by (try simp only [List.map_toArray, List.map_cons, List.map_nil]); first | done | rfl) ?_
  with_reducible refine (refDouble_calls f _).mono ?_
  rintro e w' ⟨rfl, hb⟩
  refine ⟨_, rfl, ?_⟩
  refine hK.out _ _ ⟨block_below hb hHeld.1, below_then hHeld.2 hHeld.2.size hb⟩ (fun hHeld => ?_)
  clear hK K
  refine norm_ (a' := ?_) ?_ ?_
  rotate_left
  · show Act.put _ (some 11) _ = _
    simp only [Act.put, List.setIfInBounds_toArray, List.set_cons_zero, List.set_cons_succ]
    rfl
  refine pure_ (i := 4) (N := some 12) (v := ?_) (a' := ?_) #[true, true, true, true, true] rfl rfl (by kernel_rfl) (fun _ _ _ h => h) (Or.inl ⟨by rfl, ?_⟩) ?_ ?_
  rotate_left
  · intro w'
    go_simp
    with_reducible rfl
  rotate_left
  · simp only [Act.put, List.setIfInBounds_toArray, List.set_cons_zero, List.set_cons_succ]
    rfl
  refine done_ (by kernel_rfl) ?_
  have HA := Aside0.mk hHeld.1
  have HB := Aside0.mk hHeld.2
  clear hHeld
  go_wp2
  go_ret
  exact ⟨rfl, HB.out⟩
set_option maxRecDepth 100000 in
set_option maxHeartbeats 1000000 in
theorem walk_low (f : Nat → F) (n : Int) (h1 : n ≤ 0) (w : World) : Calls Try.prog 4 #[.agg (rowB 16 f), .int .i64 n] w fun e w' => e = .returned (.bool true) ∧ Below w.heap.size w w' := by
  have hone := Aside0.mk (rowB_one 16 f)
  have h2 : ¬ 100 < n := by omega
  have h3 : ¬ 0 < n := by omega
  go_enter Try.func4, Try.ntmps4
  go_wp2_with fail
  refine (WkGfLaws.awake_calls _).mono ?_
  rintro e w' ⟨rfl, ⟨nd, rfl⟩⟩
  go_wp2_with fail
  have HA : Aside0 (((w.alloc (.cells (rowB 16 f) 25)).drewN nd).heap[w.heap.size]? = some (.cells (rowB 16 f) 25 (0, 0))) := ⟨heap_alloc_new _ _⟩
  have HB : Aside0 (Below w.heap.size w ((w.alloc (.cells (rowB 16 f) 25)).drewN nd)) := ⟨pw_below_drewN ((Below.refl _ _).alloc (Nat.le_refl _) _) _⟩
  generalize (w.alloc (.cells (rowB 16 f) 25)).drewN nd = W0 at *
  refine start_ (n := 5) (S := fun W => W.heap[w.heap.size]? = some (.cells (rowB 16 f) 25 (0, 0)) ∧ Below w.heap.size w W) (ds := []) #[false, false, false, false, false] (by kernel_rfl) rfl rfl ⟨HA.out, below_drew HB.out⟩ (fun hHeld => ?_)
  clear HA HB
  generalize W0.drew = W1 at *
  refine take_ (i := 0) (N := some 8) (v := _) (a' := ?_) #[true, false, false, false, false] rfl rfl (by kernel_rfl) (fun _ _ _ h => h) (yields_row (by rfl) _ rfl w.heap.size (by rfl) f (fun _ h => h.1)) hHeld ?_ ?_
  rotate_left
  · simp only [Act.put, List.setIfInBounds_toArray, List.set_cons_zero, List.set_cons_succ]
    rfl
  refine take_ (i := 2) (N := some 10) (v := _) (a' := ?_) #[true, false, true, false, false] rfl rfl (by kernel_rfl) (fun _ _ _ h => h) (yields_row (by rfl) _ rfl w.heap.size (by rfl) f (fun _ h => h.1)) hHeld ?_ ?_
  rotate_left
  · simp only [Act.put, List.setIfInBounds_toArray, List.set_cons_zero, List.set_cons_succ]
    rfl
  refine one_ (i := 1) (N := some 9) #[true, true, true, false, false] rfl rfl (by kernel_rfl) (by decide) (fun K hK => ?_)
  refine goes_ Try.func17 (by kernel_rfl) rfl #[.agg (rowB 16 f)] (by rfl) rfl rfl (by (try simp only [List.map_toArray, List.map_cons, List.map_nil]); first | done | rfl) ?_
  with_reducible refine (double_calls f _).mono ?_
  rintro e w' ⟨rfl, hb⟩
  refine ⟨_, rfl, ?_⟩
  refine hK.out _ _ ⟨block_below hb hHeld.1, below_then hHeld.2 hHeld.2.size hb⟩ (fun hHeld => ?_)
  clear hK K
  refine norm_ (a' := ?_) ?_ ?_
  rotate_left
  · show Act.put _ (some 9) _ = _
    simp only [Act.put, List.setIfInBounds_toArray, List.set_cons_zero, List.set_cons_succ]
    rfl
  refine one_ (i := 3) (N := some 11) #[true, true, true, true, false] rfl rfl (by kernel_rfl) (by decide) (fun K hK => ?_)
  refine goes_ Try.func18 (by kernel_rfl) rfl #[.agg (rowB 16 f)] (by rfl) rfl rfl (by (try simp only [List.map_toArray, List.map_cons, List.map_nil]); first | done | rfl) ?_
  with_reducible refine (refDouble_calls f _).mono ?_
  rintro e w' ⟨rfl, hb⟩
  refine ⟨_, rfl, ?_⟩
  refine hK.out _ _ ⟨block_below hb hHeld.1, below_then hHeld.2 hHeld.2.size hb⟩ (fun hHeld => ?_)
  clear hK K
  refine norm_ (a' := ?_) ?_ ?_
  rotate_left
  · show Act.put _ (some 11) _ = _
    simp only [Act.put, List.setIfInBounds_toArray, List.set_cons_zero, List.set_cons_succ]
    rfl
  refine pure_ (i := 4) (N := some 12) (v := ?_) (a' := ?_) #[true, true, true, true, true] rfl rfl (by kernel_rfl) (fun _ _ _ h => h) (Or.inl ⟨by rfl, ?_⟩) ?_ ?_
  rotate_left
  · intro w'
    go_simp
    with_reducible rfl
  rotate_left
  · simp only [Act.put, List.setIfInBounds_toArray, List.set_cons_zero, List.set_cons_succ]
    rfl
  refine done_ (by kernel_rfl) ?_
  have HA := Aside0.mk hHeld.1
  have HB := Aside0.mk hHeld.2
  clear hHeld
  go_wp2_with (first | (refine wpList_load_row rfl 25 _ rfl _ rfl 25 (rowB 16 f) (0, 0) _ HA.out Try.underlying25 rfl (by rw [rowB_size]; exact info25) ?_) | (refine wpList_load_row rfl 25 _ rfl _ rfl 25 (rowB 16 f) (0, 0) _ (block_below ((Below.refl _ _).alloc (Nat.le_refl _) _) HA.out) Try.underlying25 rfl (by rw [rowB_size]; exact info25) ?_) | (refine wpList_store_row rfl 25 _ _ rfl _ (rowB 16 f) rfl rfl 25 (rowB 16 fun _ => 0#8) (heap_alloc_new _ _) (by rw [rowB_size]; exact info25) (by rw [rowB_size, rowB_size]) (rowB_one _ _) ?_))
  have GA : Aside0 (((w'.alloc (.cells #[.int .u8 0, .int .u8 0, .int .u8 0, .int .u8 0, .int .u8 0, .int .u8 0, .int .u8 0, .int .u8 0, .int .u8 0, .int .u8 0, .int .u8 0, .int .u8 0, .int .u8 0, .int .u8 0, .int .u8 0, .int .u8 0] 25)).setRow w'.heap.size (rowB 16 f)).heap[w.heap.size]? = some (.cells (rowB 16 f) 25 (0, 0))) := ⟨(setRow_other _ _ _ _ (by have := blk_lt HA.out; omega)).trans (block_below ((Below.refl _ _).alloc (Nat.le_refl _) _) HA.out)⟩
  have GT : Aside0 (((w'.alloc (.cells #[.int .u8 0, .int .u8 0, .int .u8 0, .int .u8 0, .int .u8 0, .int .u8 0, .int .u8 0, .int .u8 0, .int .u8 0, .int .u8 0, .int .u8 0, .int .u8 0, .int .u8 0, .int .u8 0, .int .u8 0, .int .u8 0] 25)).setRow w'.heap.size (rowB 16 f)).heap[w'.heap.size]? = some (.cells (rowB 16 f) 25 (0, 0))) := ⟨setRow_heap _ _ _ _ _ _ (heap_alloc_new _ _)⟩
  have GB : Aside0 (Below w.heap.size w ((w'.alloc (.cells #[.int .u8 0, .int .u8 0, .int .u8 0, .int .u8 0, .int .u8 0, .int .u8 0, .int .u8 0, .int .u8 0, .int .u8 0, .int .u8 0, .int .u8 0, .int .u8 0, .int .u8 0, .int .u8 0, .int .u8 0, .int .u8 0] 25)).setRow w'.heap.size (rowB 16 f))) := ⟨below_setRow (HB.out.alloc HB.out.size _) HB.out.size _⟩
  generalize hW2 : (w'.alloc (.cells #[.int .u8 0, .int .u8 0, .int .u8 0, .int .u8 0, .int .u8 0, .int .u8 0, .int .u8 0, .int .u8 0, .int .u8 0, .int .u8 0, .int .u8 0, .int .u8 0, .int .u8 0, .int .u8 0, .int .u8 0, .int .u8 0] 25)).setRow w'.heap.size (rowB 16 f) = W2 at *
  have hgne : w.heap.size < w'.heap.size := blk_lt HA.out
  generalize w'.heap.size = gt at *
  clear hW2 HA HB
  refine start_ (n := 6) (S := fun W => W.heap[w.heap.size]? = some (.cells (rowB 16 f) 25 (0, 0)) ∧ W.heap[gt]? = some (.cells (rowB 16 (f)) 25 (0, 0)) ∧ Below w.heap.size w W) (ds := []) #[false, false, false, false, false, false] (by kernel_rfl) rfl rfl ⟨GA.out, GT.out, below_drew GB.out⟩ (fun hHeld => ?_)
  clear GA GT GB
  generalize W2.drew = W3 at *
  refine take_ (i := 0) (N := some 32) (v := _) (a' := ?_) #[true, false, false, false, false, false] rfl rfl (by kernel_rfl) (fun _ _ _ h => h) (yields_row (by rfl) _ rfl w.heap.size (by rfl) f (fun _ h => h.1)) hHeld ?_ ?_
  rotate_left
  · simp only [Act.put, List.setIfInBounds_toArray, List.set_cons_zero, List.set_cons_succ]
    rfl
  refine take_ (i := 3) (N := some 35) (v := _) (a' := ?_) #[true, false, false, true, false, false] rfl rfl (by kernel_rfl) (fun _ _ _ h => h) (yields_row (by rfl) _ rfl (gt) (by rfl) (f) (fun _ h => h.2.1)) hHeld ?_ ?_
  rotate_left
  · simp only [Act.put, List.setIfInBounds_toArray, List.set_cons_zero, List.set_cons_succ]
    rfl
  refine pure_ (i := 1) (N := some 33) (v := ?_) (a' := ?_) #[true, true, false, true, false, false] rfl rfl (by kernel_rfl) (fun _ _ _ h => h) (Or.inl ⟨by rfl, ?_⟩) ?_ ?_
  rotate_left
  · intro w'
    go_simp
    with_reducible rfl
  rotate_left
  · simp only [Act.put, List.setIfInBounds_toArray, List.set_cons_zero, List.set_cons_succ]
    rfl
  refine one_ (i := 2) (N := some 34) #[true, true, true, true, false, false] rfl rfl (by kernel_rfl) (by decide) (fun K hK => ?_)
  refine goes_ Try.func19 (by kernel_rfl) rfl #[.agg (rowB 16 f), .int .i64 n] (by rfl) rfl rfl (by (try simp only [List.map_toArray, List.map_cons, List.map_nil]); first | done | rfl) ?_
  with_reducible refine (doubled_none f n (by omega) _).mono ?_
  rintro e w' ⟨rfl, hb⟩
  refine ⟨_, rfl, ?_⟩
  refine hK.out _ _ ⟨block_below hb hHeld.1, block_below hb hHeld.2.1, below_then hHeld.2.2 hHeld.2.2.size hb⟩ (fun hHeld => ?_)
  clear hK K
  refine norm_ (a' := ?_) ?_ ?_
  rotate_left
  · show Act.put _ (some 34) _ = _
    simp only [Act.put, List.setIfInBounds_toArray, List.set_cons_zero, List.set_cons_succ]
    rfl
  refine pure_ (i := 4) (N := some 36) (v := ?_) (a' := ?_) #[true, true, true, true, true, false] rfl rfl (by kernel_rfl) (fun _ _ _ h => h) (Or.inl ⟨by rfl, ?_⟩) ?_ ?_
  rotate_left
  · intro w'
    go_simp
    with_reducible rfl
  rotate_left
  · simp only [Act.put, List.setIfInBounds_toArray, List.set_cons_zero, List.set_cons_succ]
    rfl
  refine pure_ (i := 5) (N := some 4) (v := ?_) (a' := ?_) #[true, true, true, true, true, true] rfl rfl (by kernel_rfl) (fun _ _ _ h => h) (Or.inl ⟨by rfl, ?_⟩) ?_ ?_
  rotate_left
  · intro w'
    go_simp
    with_reducible rfl
  rotate_left
  · simp only [Act.put, List.setIfInBounds_toArray, List.set_cons_zero, List.set_cons_succ]
    rfl
  refine done_ (by kernel_rfl) ?_
  go_wp2
  go_ret
  exact ⟨rfl, hHeld.2.2⟩
set_option maxRecDepth 100000 in
set_option maxHeartbeats 1000000 in
theorem walk_high (f : Nat → F) (n : Int) (h1 : 65536 < n) (w : World) : Calls Try.prog 4 #[.agg (rowB 16 f), .int .i64 n] w fun e w' => e = .returned (.bool true) ∧ Below w.heap.size w w' := by
  have hone := Aside0.mk (rowB_one 16 f)
  have h2 : 100 < n := by omega
  have h3 : ¬ n ≤ 65536 := by omega
  have h4 : 0 < n := by omega
  have h5 : ¬ n ≤ 100 := by omega
  go_enter Try.func4, Try.ntmps4
  go_wp2_with fail
  refine (WkGfLaws.awake_calls _).mono ?_
  rintro e w' ⟨rfl, ⟨nd, rfl⟩⟩
  go_wp2_with fail
  have HA : Aside0 (((w.alloc (.cells (rowB 16 f) 25)).drewN nd).heap[w.heap.size]? = some (.cells (rowB 16 f) 25 (0, 0))) := ⟨heap_alloc_new _ _⟩
  have HB : Aside0 (Below w.heap.size w ((w.alloc (.cells (rowB 16 f) 25)).drewN nd)) := ⟨pw_below_drewN ((Below.refl _ _).alloc (Nat.le_refl _) _) _⟩
  generalize (w.alloc (.cells (rowB 16 f) 25)).drewN nd = W0 at *
  refine start_ (n := 5) (S := fun W => W.heap[w.heap.size]? = some (.cells (rowB 16 f) 25 (0, 0)) ∧ Below w.heap.size w W) (ds := []) #[false, false, false, false, false] (by kernel_rfl) rfl rfl ⟨HA.out, below_drew HB.out⟩ (fun hHeld => ?_)
  clear HA HB
  generalize W0.drew = W1 at *
  refine take_ (i := 0) (N := some 8) (v := _) (a' := ?_) #[true, false, false, false, false] rfl rfl (by kernel_rfl) (fun _ _ _ h => h) (yields_row (by rfl) _ rfl w.heap.size (by rfl) f (fun _ h => h.1)) hHeld ?_ ?_
  rotate_left
  · simp only [Act.put, List.setIfInBounds_toArray, List.set_cons_zero, List.set_cons_succ]
    rfl
  refine take_ (i := 2) (N := some 10) (v := _) (a' := ?_) #[true, false, true, false, false] rfl rfl (by kernel_rfl) (fun _ _ _ h => h) (yields_row (by rfl) _ rfl w.heap.size (by rfl) f (fun _ h => h.1)) hHeld ?_ ?_
  rotate_left
  · simp only [Act.put, List.setIfInBounds_toArray, List.set_cons_zero, List.set_cons_succ]
    rfl
  refine one_ (i := 1) (N := some 9) #[true, true, true, false, false] rfl rfl (by kernel_rfl) (by decide) (fun K hK => ?_)
  refine goes_ Try.func17 (by kernel_rfl) rfl #[.agg (rowB 16 f)] (by rfl) rfl rfl (by (try simp only [List.map_toArray, List.map_cons, List.map_nil]); first | done | rfl) ?_
  with_reducible refine (double_calls f _).mono ?_
  rintro e w' ⟨rfl, hb⟩
  refine ⟨_, rfl, ?_⟩
  refine hK.out _ _ ⟨block_below hb hHeld.1, below_then hHeld.2 hHeld.2.size hb⟩ (fun hHeld => ?_)
  clear hK K
  refine norm_ (a' := ?_) ?_ ?_
  rotate_left
  · show Act.put _ (some 9) _ = _
    simp only [Act.put, List.setIfInBounds_toArray, List.set_cons_zero, List.set_cons_succ]
    rfl
  refine one_ (i := 3) (N := some 11) #[true, true, true, true, false] rfl rfl (by kernel_rfl) (by decide) (fun K hK => ?_)
  refine goes_ Try.func18 (by kernel_rfl) rfl #[.agg (rowB 16 f)] (by rfl) rfl rfl (by (try simp only [List.map_toArray, List.map_cons, List.map_nil]); first | done | rfl) ?_
  with_reducible refine (refDouble_calls f _).mono ?_
  rintro e w' ⟨rfl, hb⟩
  refine ⟨_, rfl, ?_⟩
  refine hK.out _ _ ⟨block_below hb hHeld.1, below_then hHeld.2 hHeld.2.size hb⟩ (fun hHeld => ?_)
  clear hK K
  refine norm_ (a' := ?_) ?_ ?_
  rotate_left
  · show Act.put _ (some 11) _ = _
    simp only [Act.put, List.setIfInBounds_toArray, List.set_cons_zero, List.set_cons_succ]
    rfl
  refine pure_ (i := 4) (N := some 12) (v := ?_) (a' := ?_) #[true, true, true, true, true] rfl rfl (by kernel_rfl) (fun _ _ _ h => h) (Or.inl ⟨by rfl, ?_⟩) ?_ ?_
  rotate_left
  · intro w'
    go_simp
    with_reducible rfl
  rotate_left
  · simp only [Act.put, List.setIfInBounds_toArray, List.set_cons_zero, List.set_cons_succ]
    rfl
  refine done_ (by kernel_rfl) ?_
  have HA := Aside0.mk hHeld.1
  have HB := Aside0.mk hHeld.2
  clear hHeld
  go_wp2_with (first | (refine wpList_load_row rfl 25 _ rfl _ rfl 25 (rowB 16 f) (0, 0) _ HA.out Try.underlying25 rfl (by rw [rowB_size]; exact info25) ?_) | (refine wpList_load_row rfl 25 _ rfl _ rfl 25 (rowB 16 f) (0, 0) _ (block_below ((Below.refl _ _).alloc (Nat.le_refl _) _) HA.out) Try.underlying25 rfl (by rw [rowB_size]; exact info25) ?_) | (refine wpList_store_row rfl 25 _ _ rfl _ (rowB 16 f) rfl rfl 25 (rowB 16 fun _ => 0#8) (heap_alloc_new _ _) (by rw [rowB_size]; exact info25) (by rw [rowB_size, rowB_size]) (rowB_one _ _) ?_))
  have GA : Aside0 (((w'.alloc (.cells #[.int .u8 0, .int .u8 0, .int .u8 0, .int .u8 0, .int .u8 0, .int .u8 0, .int .u8 0, .int .u8 0, .int .u8 0, .int .u8 0, .int .u8 0, .int .u8 0, .int .u8 0, .int .u8 0, .int .u8 0, .int .u8 0] 25)).setRow w'.heap.size (rowB 16 f)).heap[w.heap.size]? = some (.cells (rowB 16 f) 25 (0, 0))) := ⟨(setRow_other _ _ _ _ (by have := blk_lt HA.out; omega)).trans (block_below ((Below.refl _ _).alloc (Nat.le_refl _) _) HA.out)⟩
  have GT : Aside0 (((w'.alloc (.cells #[.int .u8 0, .int .u8 0, .int .u8 0, .int .u8 0, .int .u8 0, .int .u8 0, .int .u8 0, .int .u8 0, .int .u8 0, .int .u8 0, .int .u8 0, .int .u8 0, .int .u8 0, .int .u8 0, .int .u8 0, .int .u8 0] 25)).setRow w'.heap.size (rowB 16 f)).heap[w'.heap.size]? = some (.cells (rowB 16 f) 25 (0, 0))) := ⟨setRow_heap _ _ _ _ _ _ (heap_alloc_new _ _)⟩
  have GB : Aside0 (Below w.heap.size w ((w'.alloc (.cells #[.int .u8 0, .int .u8 0, .int .u8 0, .int .u8 0, .int .u8 0, .int .u8 0, .int .u8 0, .int .u8 0, .int .u8 0, .int .u8 0, .int .u8 0, .int .u8 0, .int .u8 0, .int .u8 0, .int .u8 0, .int .u8 0] 25)).setRow w'.heap.size (rowB 16 f))) := ⟨below_setRow (HB.out.alloc HB.out.size _) HB.out.size _⟩
  generalize hW2 : (w'.alloc (.cells #[.int .u8 0, .int .u8 0, .int .u8 0, .int .u8 0, .int .u8 0, .int .u8 0, .int .u8 0, .int .u8 0, .int .u8 0, .int .u8 0, .int .u8 0, .int .u8 0, .int .u8 0, .int .u8 0, .int .u8 0, .int .u8 0] 25)).setRow w'.heap.size (rowB 16 f) = W2 at *
  have hgne : w.heap.size < w'.heap.size := blk_lt HA.out
  generalize w'.heap.size = gt at *
  clear hW2 HA HB
  refine start_ (n := 6) (S := fun W => W.heap[w.heap.size]? = some (.cells (rowB 16 f) 25 (0, 0)) ∧ W.heap[gt]? = some (.cells (rowB 16 (f)) 25 (0, 0)) ∧ Below w.heap.size w W) (ds := []) #[false, false, false, false, false, false] (by kernel_rfl) rfl rfl ⟨GA.out, GT.out, below_drew GB.out⟩ (fun hHeld => ?_)
  clear GA GT GB
  generalize W2.drew = W3 at *
  refine take_ (i := 0) (N := some 32) (v := _) (a' := ?_) #[true, false, false, false, false, false] rfl rfl (by kernel_rfl) (fun _ _ _ h => h) (yields_row (by rfl) _ rfl w.heap.size (by rfl) f (fun _ h => h.1)) hHeld ?_ ?_
  rotate_left
  · simp only [Act.put, List.setIfInBounds_toArray, List.set_cons_zero, List.set_cons_succ]
    rfl
  refine take_ (i := 3) (N := some 35) (v := _) (a' := ?_) #[true, false, false, true, false, false] rfl rfl (by kernel_rfl) (fun _ _ _ h => h) (yields_row (by rfl) _ rfl (gt) (by rfl) (f) (fun _ h => h.2.1)) hHeld ?_ ?_
  rotate_left
  · simp only [Act.put, List.setIfInBounds_toArray, List.set_cons_zero, List.set_cons_succ]
    rfl
  refine pure_ (i := 1) (N := some 33) (v := ?_) (a' := ?_) #[true, true, false, true, false, false] rfl rfl (by kernel_rfl) (fun _ _ _ h => h) (Or.inl ⟨by rfl, ?_⟩) ?_ ?_
  rotate_left
  · intro w'
    go_simp
    with_reducible rfl
  rotate_left
  · simp only [Act.put, List.setIfInBounds_toArray, List.set_cons_zero, List.set_cons_succ]
    rfl
  refine one_ (i := 2) (N := some 34) #[true, true, true, true, false, false] rfl rfl (by kernel_rfl) (by decide) (fun K hK => ?_)
  refine goes_ Try.func19 (by kernel_rfl) rfl #[.agg (rowB 16 f), .int .i64 n] (by rfl) rfl rfl (by (try simp only [List.map_toArray, List.map_cons, List.map_nil]); first | done | rfl) ?_
  with_reducible refine (doubled_none f n (by omega) _).mono ?_
  rintro e w' ⟨rfl, hb⟩
  refine ⟨_, rfl, ?_⟩
  refine hK.out _ _ ⟨block_below hb hHeld.1, block_below hb hHeld.2.1, below_then hHeld.2.2 hHeld.2.2.size hb⟩ (fun hHeld => ?_)
  clear hK K
  refine norm_ (a' := ?_) ?_ ?_
  rotate_left
  · show Act.put _ (some 34) _ = _
    simp only [Act.put, List.setIfInBounds_toArray, List.set_cons_zero, List.set_cons_succ]
    rfl
  refine pure_ (i := 4) (N := some 36) (v := ?_) (a' := ?_) #[true, true, true, true, true, false] rfl rfl (by kernel_rfl) (fun _ _ _ h => h) (Or.inl ⟨by rfl, ?_⟩) ?_ ?_
  rotate_left
  · intro w'
    go_simp
    with_reducible rfl
  rotate_left
  · simp only [Act.put, List.setIfInBounds_toArray, List.set_cons_zero, List.set_cons_succ]
    rfl
  refine pure_ (i := 5) (N := some 4) (v := ?_) (a' := ?_) #[true, true, true, true, true, true] rfl rfl (by kernel_rfl) (fun _ _ _ h => h) (Or.inl ⟨by rfl, ?_⟩) ?_ ?_
  rotate_left
  · intro w'
    go_simp
    with_reducible rfl
  rotate_left
  · simp only [Act.put, List.setIfInBounds_toArray, List.set_cons_zero, List.set_cons_succ]
    rfl
  refine done_ (by kernel_rfl) ?_
  go_wp2
  go_ret
  exact ⟨rfl, hHeld.2.2⟩
set_option maxRecDepth 100000 in
set_option maxHeartbeats 1000000 in
theorem walk_loop (f : Nat → F) (m : Nat) (h1 : 0 < m) (h2 : m ≤ 100) (w : World) : Calls Try.prog 4 #[.agg (rowB 16 f), .int .i64 (m : Int)] w fun e w' => e = .returned (.bool true) ∧ Below w.heap.size w w' := by
  have hone := Aside0.mk (rowB_one 16 f)
  have h3 : (0 : Int) < (m : Int) := by omega
  have h4 : (m : Int) ≤ 100 := by omega
  have h5 : ¬ (100 : Int) < (m : Int) := by omega
  go_enter Try.func4, Try.ntmps4
  go_wp2_with fail
  refine (WkGfLaws.awake_calls _).mono ?_
  rintro e w' ⟨rfl, ⟨nd, rfl⟩⟩
  go_wp2_with fail
  have HA : Aside0 (((w.alloc (.cells (rowB 16 f) 25)).drewN nd).heap[w.heap.size]? = some (.cells (rowB 16 f) 25 (0, 0))) := ⟨heap_alloc_new _ _⟩
  have HB : Aside0 (Below w.heap.size w ((w.alloc (.cells (rowB 16 f) 25)).drewN nd)) := ⟨pw_below_drewN ((Below.refl _ _).alloc (Nat.le_refl _) _) _⟩
  generalize (w.alloc (.cells (rowB 16 f) 25)).drewN nd = W0 at *
  refine start_ (n := 5) (S := fun W => W.heap[w.heap.size]? = some (.cells (rowB 16 f) 25 (0, 0)) ∧ Below w.heap.size w W) (ds := []) #[false, false, false, false, false] (by kernel_rfl) rfl rfl ⟨HA.out, below_drew HB.out⟩ (fun hHeld => ?_)
  clear HA HB
  generalize W0.drew = W1 at *
  refine take_ (i := 0) (N := some 8) (v := _) (a' := ?_) #[true, false, false, false, false] rfl rfl (by kernel_rfl) (fun _ _ _ h => h) (yields_row (by rfl) _ rfl w.heap.size (by rfl) f (fun _ h => h.1)) hHeld ?_ ?_
  rotate_left
  · simp only [Act.put, List.setIfInBounds_toArray, List.set_cons_zero, List.set_cons_succ]
    rfl
  refine take_ (i := 2) (N := some 10) (v := _) (a' := ?_) #[true, false, true, false, false] rfl rfl (by kernel_rfl) (fun _ _ _ h => h) (yields_row (by rfl) _ rfl w.heap.size (by rfl) f (fun _ h => h.1)) hHeld ?_ ?_
  rotate_left
  · simp only [Act.put, List.setIfInBounds_toArray, List.set_cons_zero, List.set_cons_succ]
    rfl
  refine one_ (i := 1) (N := some 9) #[true, true, true, false, false] rfl rfl (by kernel_rfl) (by decide) (fun K hK => ?_)
  refine goes_ Try.func17 (by kernel_rfl) rfl #[.agg (rowB 16 f)] (by rfl) rfl rfl (by (try simp only [List.map_toArray, List.map_cons, List.map_nil]); first | done | rfl) ?_
  with_reducible refine (double_calls f _).mono ?_
  rintro e w' ⟨rfl, hb⟩
  refine ⟨_, rfl, ?_⟩
  refine hK.out _ _ ⟨block_below hb hHeld.1, below_then hHeld.2 hHeld.2.size hb⟩ (fun hHeld => ?_)
  clear hK K
  refine norm_ (a' := ?_) ?_ ?_
  rotate_left
  · show Act.put _ (some 9) _ = _
    simp only [Act.put, List.setIfInBounds_toArray, List.set_cons_zero, List.set_cons_succ]
    rfl
  refine one_ (i := 3) (N := some 11) #[true, true, true, true, false] rfl rfl (by kernel_rfl) (by decide) (fun K hK => ?_)
  refine goes_ Try.func18 (by kernel_rfl) rfl #[.agg (rowB 16 f)] (by rfl) rfl rfl (by (try simp only [List.map_toArray, List.map_cons, List.map_nil]); first | done | rfl) ?_
  with_reducible refine (refDouble_calls f _).mono ?_
  rintro e w' ⟨rfl, hb⟩
  refine ⟨_, rfl, ?_⟩
  refine hK.out _ _ ⟨block_below hb hHeld.1, below_then hHeld.2 hHeld.2.size hb⟩ (fun hHeld => ?_)
  clear hK K
  refine norm_ (a' := ?_) ?_ ?_
  rotate_left
  · show Act.put _ (some 11) _ = _
    simp only [Act.put, List.setIfInBounds_toArray, List.set_cons_zero, List.set_cons_succ]
    rfl
  refine pure_ (i := 4) (N := some 12) (v := ?_) (a' := ?_) #[true, true, true, true, true] rfl rfl (by kernel_rfl) (fun _ _ _ h => h) (Or.inl ⟨by rfl, ?_⟩) ?_ ?_
  rotate_left
  · intro w'
    go_simp
    with_reducible rfl
  rotate_left
  · simp only [Act.put, List.setIfInBounds_toArray, List.set_cons_zero, List.set_cons_succ]
    rfl
  refine done_ (by kernel_rfl) ?_
  have HA := Aside0.mk hHeld.1
  have HB := Aside0.mk hHeld.2
  clear hHeld
  go_wp2_with (first | (refine wpList_load_row rfl 25 _ rfl _ rfl 25 (rowB 16 f) (0, 0) _ HA.out Try.underlying25 rfl (by rw [rowB_size]; exact info25) ?_) | (refine wpList_load_row rfl 25 _ rfl _ rfl 25 (rowB 16 f) (0, 0) _ (block_below ((Below.refl _ _).alloc (Nat.le_refl _) _) HA.out) Try.underlying25 rfl (by rw [rowB_size]; exact info25) ?_) | (refine wpList_store_row rfl 25 _ _ rfl _ (rowB 16 f) rfl rfl 25 (rowB 16 fun _ => 0#8) (heap_alloc_new _ _) (by rw [rowB_size]; exact info25) (by rw [rowB_size, rowB_size]) (rowB_one _ _) ?_))
  have GA : Aside0 (((w'.alloc (.cells #[.int .u8 0, .int .u8 0, .int .u8 0, .int .u8 0, .int .u8 0, .int .u8 0, .int .u8 0, .int .u8 0, .int .u8 0, .int .u8 0, .int .u8 0, .int .u8 0, .int .u8 0, .int .u8 0, .int .u8 0, .int .u8 0] 25)).setRow w'.heap.size (rowB 16 f)).heap[w.heap.size]? = some (.cells (rowB 16 f) 25 (0, 0))) := ⟨(setRow_other _ _ _ _ (by have := blk_lt HA.out; omega)).trans (block_below ((Below.refl _ _).alloc (Nat.le_refl _) _) HA.out)⟩
  have GT : Aside0 (((w'.alloc (.cells #[.int .u8 0, .int .u8 0, .int .u8 0, .int .u8 0, .int .u8 0, .int .u8 0, .int .u8 0, .int .u8 0, .int .u8 0, .int .u8 0, .int .u8 0, .int .u8 0, .int .u8 0, .int .u8 0, .int .u8 0, .int .u8 0] 25)).setRow w'.heap.size (rowB 16 f)).heap[w'.heap.size]? = some (.cells (rowB 16 f) 25 (0, 0))) := ⟨setRow_heap _ _ _ _ _ _ (heap_alloc_new _ _)⟩
  have GB : Aside0 (Below w.heap.size w ((w'.alloc (.cells #[.int .u8 0, .int .u8 0, .int .u8 0, .int .u8 0, .int .u8 0, .int .u8 0, .int .u8 0, .int .u8 0, .int .u8 0, .int .u8 0, .int .u8 0, .int .u8 0, .int .u8 0, .int .u8 0, .int .u8 0, .int .u8 0] 25)).setRow w'.heap.size (rowB 16 f))) := ⟨below_setRow (HB.out.alloc HB.out.size _) HB.out.size _⟩
  generalize hW2 : (w'.alloc (.cells #[.int .u8 0, .int .u8 0, .int .u8 0, .int .u8 0, .int .u8 0, .int .u8 0, .int .u8 0, .int .u8 0, .int .u8 0, .int .u8 0, .int .u8 0, .int .u8 0, .int .u8 0, .int .u8 0, .int .u8 0, .int .u8 0] 25)).setRow w'.heap.size (rowB 16 f) = W2 at *
  have hgne : w.heap.size < w'.heap.size := blk_lt HA.out
  generalize w'.heap.size = gt at *
  clear hW2 HA HB
  go_loopw [27] (fun i wr => ∃ k : Nat, k ≤ m ∧ i = .int .i64 k ∧ Aside0 (wr.heap[w.heap.size]? = some (.cells (rowB 16 f) 25 (0, 0))) ∧ Aside0 (wr.heap[gt]? = some (.cells (rowB 16 (dblN f k)) 25 (0, 0))) ∧ Aside0 (Below w.heap.size w wr)) (fun i _ => m - (intOf i).toNat)
  case atStart => exact ⟨0, by omega, rfl, GA, GT, GB⟩
  case round =>
    clear GA GT GB
    obtain ⟨k, hk, rfl, GA, GT, GB⟩ := hrel
    by_cases hlt : k < m
    · have hd : decide ((k : Int) < (m : Int)) = true := decide_eq_true (by omega)
      go_wp2_with (first | (refine wpList_load_row rfl 25 _ rfl _ rfl 25 (rowB 16 (dblN f k)) (0, 0) _ GT.out Try.underlying25 rfl (by rw [rowB_size]; exact info25) ?_))
      refine (refDouble_calls _ _).mono ?_
      rintro e w1 ⟨rfl, hb⟩
      have GA1 := Aside0.mk (block_below hb GA.out)
      have GT1 := Aside0.mk (block_below hb GT.out)
      have GB1 := Aside0.mk (below_then GB.out GB.out.size hb)
      clear hb GA GT GB
      go_wp2_with (first | (refine wpList_store_row rfl 25 _ _ rfl _ (rowB 16 (double (dblN f k))) rfl rfl 25 (rowB 16 (dblN f k)) GT1.out (by rw [rowB_size]; exact info25) (by rw [rowB_size, rowB_size]) (rowB_one _ _) ?_))
      go_roundw
      case measure => simp [intOf]; omega
      case rel =>
        exact ⟨k + 1, by omega, by go_num, ⟨(setRow_other _ _ _ _ (by omega)).trans GA1.out⟩, ⟨setRow_heap _ _ _ _ _ _ GT1.out⟩, ⟨below_setRow GB1.out (by omega) _⟩⟩
    · obtain rfl : k = m := by omega
      have hd : decide ((k : Int) < (k : Int)) = false := decide_eq_false (by omega)
      go_wp2
      refine start_ (n := 6) (S := fun W => W.heap[w.heap.size]? = some (.cells (rowB 16 f) 25 (0, 0)) ∧ W.heap[gt]? = some (.cells (rowB 16 (dblN f k)) 25 (0, 0)) ∧ Below w.heap.size w W) (ds := []) #[false, false, false, false, false, false] (by kernel_rfl) rfl rfl ⟨GA.out, GT.out, below_drew GB.out⟩ (fun hHeld => ?_)
      clear GA GT GB
      generalize wr.drew = W3 at *
      refine take_ (i := 0) (N := some 32) (v := _) (a' := ?_) #[true, false, false, false, false, false] rfl rfl (by kernel_rfl) (fun _ _ _ h => h) (yields_row (by rfl) _ rfl w.heap.size (by rfl) f (fun _ h => h.1)) hHeld ?_ ?_
      rotate_left
      · simp only [Act.put, List.setIfInBounds_toArray, List.set_cons_zero, List.set_cons_succ]
        rfl
      refine take_ (i := 3) (N := some 35) (v := _) (a' := ?_) #[true, false, false, true, false, false] rfl rfl (by kernel_rfl) (fun _ _ _ h => h) (yields_row (by rfl) _ rfl (gt) (by rfl) (dblN f k) (fun _ h => h.2.1)) hHeld ?_ ?_
      rotate_left
      · simp only [Act.put, List.setIfInBounds_toArray, List.set_cons_zero, List.set_cons_succ]
        rfl
      refine pure_ (i := 1) (N := some 33) (v := ?_) (a' := ?_) #[true, true, false, true, false, false] rfl rfl (by kernel_rfl) (fun _ _ _ h => h) (Or.inl ⟨by rfl, ?_⟩) ?_ ?_
      rotate_left
      · intro w'
        go_simp
        with_reducible rfl
      rotate_left
      · simp only [Act.put, List.setIfInBounds_toArray, List.set_cons_zero, List.set_cons_succ]
        rfl
      refine one_ (i := 2) (N := some 34) #[true, true, true, true, false, false] rfl rfl (by kernel_rfl) (by decide) (fun K hK => ?_)
      refine goes_ Try.func19 (by kernel_rfl) rfl #[.agg (rowB 16 f), .int .i64 (k : Int)] (by rfl) rfl rfl (by (try simp only [List.map_toArray, List.map_cons, List.map_nil]); first | done | rfl) ?_
      with_reducible refine (doubled_calls f k (by omega) _).mono ?_
      rintro e w' ⟨rfl, hb⟩
      refine ⟨_, rfl, ?_⟩
      refine hK.out _ _ ⟨block_below hb hHeld.1, block_below hb hHeld.2.1, below_then hHeld.2.2 hHeld.2.2.size hb⟩ (fun hHeld => ?_)
      clear hK K
      refine norm_ (a' := ?_) ?_ ?_
      rotate_left
      · show Act.put _ (some 34) _ = _
        simp only [Act.put, List.setIfInBounds_toArray, List.set_cons_zero, List.set_cons_succ]
        rfl
      refine pure_ (i := 4) (N := some 36) (v := ?_) (a' := ?_) #[true, true, true, true, true, false] rfl rfl (by kernel_rfl) (fun _ _ _ h => h) (Or.inl ⟨by rfl, ?_⟩) ?_ ?_
      rotate_left
      · intro w'
        go_simp
        with_reducible rfl
      rotate_left
      · simp only [Act.put, List.setIfInBounds_toArray, List.set_cons_zero, List.set_cons_succ]
        rfl
      refine pure_ (i := 5) (N := some 4) (v := ?_) (a' := ?_) #[true, true, true, true, true, true] rfl rfl (by kernel_rfl) (fun _ _ _ h => h) (Or.inl ⟨by rfl, ?_⟩) ?_ ?_
      rotate_left
      · intro w'
        go_simp
        with_reducible rfl
      rotate_left
      · simp only [Act.put, List.setIfInBounds_toArray, List.set_cons_zero, List.set_cons_succ]
        rfl
      refine done_ (by kernel_rfl) ?_
      go_wp2
      go_ret
      exact ⟨rfl, hHeld.2.2⟩
theorem walk (f : Nat → F) (n : Int) (w : World) : Calls Try.prog 4 #[.agg (rowB 16 f), .int .i64 n] w fun e w' => e = .returned (.bool true) ∧ Below w.heap.size w w' := by
  by_cases h0 : n ≤ 0
  · exact walk_low f n h0 w
  · by_cases h1 : n ≤ 100
    · obtain ⟨m, rfl⟩ := Int.eq_ofNat_of_zero_le (show 0 ≤ n by omega)
      exact walk_loop f m (by omega) (by omega) w
    · by_cases h2 : n ≤ 65536
      · exact walk_mid f n (by omega) h2 w
      · exact walk_high f n (by omega) w
theorem walk_row (f : Nat → F) (n : Int) (w : World) (_h : (Lit.int .i64 n).wf = true) : Calls Try.prog 4 #[.agg (rowB 16 f), .int .i64 n] w fun e w' => e = .returned (.bool true) ∧ Below w.heap.size w w' := walk f n w
end Go.Proofs.Ytphoelhelmnibaa.WkGfDoubles
