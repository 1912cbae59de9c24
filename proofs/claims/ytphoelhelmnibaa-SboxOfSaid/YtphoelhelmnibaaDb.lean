/-
Blocks doubled: gf.Double and gf.Doubled, walked.
-/
import Derived.Test.YtphoelhelmnibaaAr
import Derived.Laws.CopyOwn
namespace Go.Proofs.Ytphoelhelmnibaa.Db
open Go.RowKit Go.Proofs.Ytphoelhelmnibaa.Gf Go.Proofs.Ytphoelhelmnibaa.Ar Go.Proofs.YtphoelhelmnibaaW.PrintWords Go.Proofs.YtphoelhelmnibaaW.PrintLast
/-- what is carried into place k -/
def carry (f : Nat → F) (k : Nat) : F := if k = 0 then 0#8 else f (k - 1) >>> (7 : Nat)
def dbl (f : Nat → F) (j : Nat) : F := (f j <<< (1 : Nat)) ||| carry f j
def half (f : Nat → F) (k j : Nat) : F := if j < k then dbl f j else f j
def last (c : F) : F := 0x87#8 &&& (-c)
def double (f : Nat → F) (j : Nat) : F := if j = 0 then dbl f 0 ^^^ last (carry f 16) else dbl f j
theorem half_zero (f : Nat → F) : half f 0 = f := by funext j; unfold half; rw [if_neg (by omega)]
theorem shl_spell : ∀ a : F, ofI (toI a * 2 % 256) = a <<< (1 : Nat) := by decide +kernel
theorem shr_spell : ∀ a : F, toI a / 128 = toI (a >>> (7 : Nat)) := by decide +kernel
theorem neg_spell : ∀ a : F, Go.bits .and .u8 135 (-(toI a) % 256) = toI (last a) := by decide +kernel
theorem dbl_spell (f : Nat → F) (k : Nat) : Go.bits .or .u8 (toI (f k) * 2 % 256) (toI (carry f k)) = toI (dbl f k) := by
  rw [bits_or_u8, ofI_toI, shl_spell]; rfl
theorem carry_next (f : Nat → F) (k : Nat) : toI (f k) / 128 = toI (carry f (k + 1)) := by
  rw [shr_spell]; unfold carry; rw [if_neg (by omega), Nat.add_sub_cancel]
theorem half_next (f : Nat → F) (k : Nat) : (fun j => if j = k then dbl f k else half f k j) = half f (k + 1) := by
  funext j; unfold half
  by_cases h : j = k
  · subst h; rw [if_pos rfl, if_pos (by omega)]
  · rw [if_neg h]
    by_cases h2 : j < k
    · rw [if_pos h2, if_pos (by omega)]
    · rw [if_neg h2, if_neg (by omega)]
theorem half_end (f : Nat → F) (j : Nat) (h : j < 16) : half f 16 j = dbl f j := by unfold half; rw [if_pos h]
set_option maxHeartbeats 400000 in
theorem double_calls (f : Nat → F) (w : World) : Calls Try.prog 17 #[.agg (rowB 16 f)] w fun e w' => e = .returned (.agg (rowB 16 (double f))) ∧ Below w.heap.size w w' := by
  have hone := rowB_one 16 f
  go_enter Try.func17, Try.ntmps17
  go_wp2_with (refine wpList_load_row rfl 25 _ rfl _ rfl 25 (rowB 16 f) (0, 0) _ (heap_alloc2_old _ _ _) Try.underlying25 rfl (by rw [rowB_size]; exact info25) ?_)
  go_loopw [3, 7] (fun c i wr => ∃ k : Nat, k ≤ 16 ∧ i = .int .i64 k ∧ c = .int .u8 (toI (carry f k)) ∧ Aside0 (wr.heap[w.heap.size]? = some (.cells (rowB 16 (half f k)) 25 (0, 0))) ∧ Aside0 (wr.heap[w.heap.size + 1]? = some (.cells (rowB 16 (fun _ => 0#8)) 25 (0, 0))) ∧ Aside0 (Below w.heap.size w wr)) (fun _ i _ => 16 - (intOf i).toNat)
  case atStart => exact ⟨0, by omega, rfl, rfl, ⟨by rw [half_zero]; exact heap_alloc2_old _ _ _⟩, ⟨heap_alloc2_new _ _ _⟩, ⟨((Below.refl _ _).alloc (Nat.le_refl _) _).alloc (by simp) _⟩⟩
  case round =>
    obtain ⟨k, hk, rfl, rfl, HA, HR, HB⟩ := hrel
    by_cases hlt : k < 16
    · have hi : ∀ W, (Instr.index 25 (.agg (rowB 16 f)) (.int .i64 (k : Int))).run Try.prog W = .ok (.int .u8 (toI (f k))) W := fun W => index25 W f .i64 (k : Int) (by omega) (by omega)
      have hc : wr.cell? ⟨w.heap.size, k, none⟩ = some (.int .u8 (toI (half f k k))) := (blk_cell HA.out k).trans (rowB_get _ _ k hlt)
      have hf : wr.frozen? ⟨w.heap.size, k, none⟩ = false := blk_frozen HA.out k
      clear hone
      go_wp2
      go_roundw
      case measure => simp [intOf]; omega
      case rel =>
        refine ⟨k + 1, by omega, by go_num, by rw [carry_next], ⟨?_⟩, ⟨?_⟩, ⟨HB.out.setCell (Nat.le_refl _) _⟩⟩
        · rw [dbl_spell, blk_set HA.out k, rowB_set, half_next]
        · exact blk_far HR.out (by simp) _
    · obtain rfl : k = 16 := by omega
      have hc : wr.cell? ⟨w.heap.size, 0, none⟩ = some (.int .u8 (toI (dbl f 0))) := (blk_cell HA.out 0).trans ((rowB_get _ _ 0 (by decide)).trans (by rw [half_end f 0 (by decide)]))
      have hf : wr.frozen? ⟨w.heap.size, 0, none⟩ = false := blk_frozen HA.out 0
      have hn := neg_spell (carry f 16)
      have hx : Go.bits .xor .u8 (toI (dbl f 0)) (toI (last (carry f 16))) = toI (double f 0) := xor_toI _ _
      have HL : Aside0 ((wr.setCell ⟨w.heap.size, 0, none⟩ (.int .u8 (toI (double f 0)))).heap[w.heap.size]? = some (.cells (rowB 16 (double f)) 25 (0, 0))) := ⟨by
        rw [blk_set HA.out 0, rowB_set]; apply congrArg (fun x => some (Obj.cells x 25 (0, 0)))
        apply rowB_congr; intro j hj
        by_cases h : j = 0
        · subst h; rfl
        · rw [if_neg h, half_end f j hj]; unfold double; rw [if_neg h]⟩
      have HS : Aside0 ((wr.setCell ⟨w.heap.size, 0, none⟩ (.int .u8 (toI (double f 0)))).heap[w.heap.size + 1]? = some (.cells (rowB 16 (fun _ => 0#8)) 25 (0, 0))) := ⟨blk_far HR.out (by simp) _⟩
      clear hone
      go_wp2_with (first | (refine wpList_load_row rfl 25 _ rfl _ rfl 25 (rowB 16 (double f)) (0, 0) _ HL.out Try.underlying25 rfl (by rw [rowB_size]; exact info25) ?_) | (refine wpList_store_row rfl 25 _ _ rfl _ (rowB 16 (double f)) rfl rfl 25 (rowB 16 fun _ => 0#8) HS.out (by rw [rowB_size]; exact info25) (by rw [rowB_size, rowB_size]) (rowB_one _ _) ?_))
      refine bodyPost_ret (results_cell_row rfl _ _ _ 25 (rowB 16 (double f)) (0, 0) _ rfl (setRow_heap _ _ _ _ _ _ HS.out) Try.underlying25 rfl (by rw [rowB_size]; exact info25)) rfl ⟨rfl, ?_⟩
      exact below_setRow (HB.out.setCell (Nat.le_refl _) _) (by omega) _
def dblN (f : Nat → F) : Nat → Nat → F
  | 0 => f
  | n + 1 => double (dblN f n)
theorem block_below {w w1 : World} (hb : Below w.heap.size w w1) {g : Nat} {o : Obj} (h : w.heap[g]? = some o) : w1.heap[g]? = some o := (hb.block g (blk_lt h)).trans h
set_option maxHeartbeats 400000 in
theorem doubled_same (f : Nat → F) (n : Int) (h : n < 0 ∨ 65536 < n) (w : World) : Calls Try.prog 19 #[.agg (rowB 16 f), .int .i64 n] w fun e w' => e = .returned (.agg (rowB 16 f)) ∧ Below w.heap.size w w' := by
  have hone := Aside0.mk (rowB_one 16 f)
  by_cases h1 : n < 0
  all_goals
    (try have h2 : ¬ n < 0 := h1)
    (try have h3 : 65536 < n := by omega)
    clear h
    go_enter Try.func19, Try.ntmps19
    go_wp2_with (first | (refine wpList_load_row rfl 25 _ rfl _ rfl 25 (rowB 16 f) (0, 0) _ (heap_alloc2_old _ _ _) Try.underlying25 rfl (by rw [rowB_size]; exact info25) ?_) | (refine wpList_store_row rfl 25 _ _ rfl _ (rowB 16 f) rfl rfl 25 (rowB 16 fun _ => 0#8) (heap_alloc2_new _ _ _) (by rw [rowB_size]; exact info25) (by rw [rowB_size, rowB_size]) (rowB_one _ _) ?_))
    refine bodyPost_ret (results_cell_row rfl _ _ _ 25 (rowB 16 f) (0, 0) _ rfl (setRow_heap _ _ _ _ _ _ (heap_alloc2_new _ _ _)) Try.underlying25 rfl (by rw [rowB_size]; exact info25)) rfl ⟨rfl, ?_⟩
    exact below_setRow (((Below.refl _ _).alloc (Nat.le_refl _) _).alloc (by simp) _) (by simp) _
set_option maxHeartbeats 400000 in
theorem doubled_calls (f : Nat → F) (n : Nat) (hn : n ≤ 65536) (w : World) : Calls Try.prog 19 #[.agg (rowB 16 f), .int .i64 (n : Int)] w fun e w' => e = .returned (.agg (rowB 16 (dblN f n))) ∧ Below w.heap.size w w' := by
  have hone := Aside0.mk (rowB_one 16 f)
  have h1 : ¬ (n : Int) < 0 := by omega
  have h2 : ¬ (65536 : Int) < (n : Int) := by omega
  go_enter Try.func19, Try.ntmps19
  go_wp2
  go_loopw [13] (fun i wr => ∃ k : Nat, k ≤ n ∧ i = .int .i64 k ∧ Aside0 (wr.heap[w.heap.size]? = some (.cells (rowB 16 (dblN f k)) 25 (0, 0))) ∧ Aside0 (wr.heap[w.heap.size + 1]? = some (.cells (rowB 16 (fun _ => 0#8)) 25 (0, 0))) ∧ Aside0 (Below w.heap.size w wr)) (fun i _ => n - (intOf i).toNat)
  case atStart => exact ⟨0, by omega, rfl, ⟨heap_alloc2_old _ _ _⟩, ⟨heap_alloc2_new _ _ _⟩, ⟨((Below.refl _ _).alloc (Nat.le_refl _) _).alloc (by simp) _⟩⟩
  case round =>
    obtain ⟨k, hk, rfl, HA, HR, HB⟩ := hrel
    by_cases hlt : k < n
    · go_wp2_with (first | (refine wpList_load_row rfl 25 _ rfl _ rfl 25 (rowB 16 (dblN f k)) (0, 0) _ HA.out Try.underlying25 rfl (by rw [rowB_size]; exact info25) ?_))
      refine (double_calls _ _).mono ?_
      rintro e w1 ⟨rfl, hb⟩
      have HA1 := Aside0.mk (block_below hb HA.out)
      have HR1 := Aside0.mk (block_below hb HR.out)
      have HB1 := Aside0.mk (below_then HB.out HB.out.size hb)
      clear hb HA HR HB
      go_wp2_with (first | (refine wpList_store_row rfl 25 _ _ rfl _ (rowB 16 (double (dblN f k))) rfl rfl 25 (rowB 16 (dblN f k)) HA1.out (by rw [rowB_size]; exact info25) (by rw [rowB_size, rowB_size]) (rowB_one _ _) ?_))
      go_roundw
      case measure => simp [intOf]; omega
      case rel =>
        exact ⟨k + 1, by omega, by go_num, ⟨setRow_heap _ _ _ _ _ _ HA1.out⟩, ⟨(setRow_other _ _ _ _ (by omega)).trans HR1.out⟩, ⟨below_setRow HB1.out (Nat.le_refl _) _⟩⟩
    · obtain rfl : k = n := by omega
      go_wp2_with (first | (refine wpList_load_row rfl 25 _ rfl _ rfl 25 (rowB 16 (dblN f k)) (0, 0) _ HA.out Try.underlying25 rfl (by rw [rowB_size]; exact info25) ?_) | (refine wpList_store_row rfl 25 _ _ rfl _ (rowB 16 (dblN f k)) rfl rfl 25 (rowB 16 fun _ => 0#8) HR.out (by rw [rowB_size]; exact info25) (by rw [rowB_size, rowB_size]) (rowB_one _ _) ?_))
      refine bodyPost_ret (results_cell_row rfl _ _ _ 25 (rowB 16 (dblN f k)) (0, 0) _ rfl (setRow_heap _ _ _ _ _ _ HR.out) Try.underlying25 rfl (by rw [rowB_size]; exact info25)) rfl ⟨rfl, ?_⟩
      exact below_setRow HB.out (by omega) _
end Go.Proofs.Ytphoelhelmnibaa.Db
