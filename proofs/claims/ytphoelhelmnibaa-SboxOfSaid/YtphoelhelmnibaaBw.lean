/-
sbox.Box, sbox.Back and the document's Box, walked.
-/
import Derived.Test.YtphoelhelmnibaaBx
import Derived.Test.YtphoelhelmnibaaSp
namespace Go.Proofs.Ytphoelhelmnibaa.Bw
open Go.RowKit Go.Proofs.Ytphoelhelmnibaa.Gf Go.Proofs.Ytphoelhelmnibaa.Ar Go.Proofs.Ytphoelhelmnibaa.Sb Go.Proofs.Ytphoelhelmnibaa.Sw Go.Proofs.Ytphoelhelmnibaa.Sp Go.Proofs.Ytphoelhelmnibaa.Bx Go.Proofs.Ytphoelhelmnibaa.Db Go.Proofs.Ytphoelhelmnibaa.Rd Go.Proofs.YtphoelhelmnibaaW.PrintWords Go.Proofs.YtphoelhelmnibaaW.PrintLast Go.Proofs.YtphoelhelmnibaaW.PrintMore
theorem inverse3_calls (w : World) : Calls Try.prog 22 #[.int .u8 3] w fun e w' => e = .returned (.int .u8 (toI (inv 3#8))) ∧ Drawn0 w w' := LSboxOf.inverse_calls 3#8 w
theorem times3_calls (k : Nat) (w : World) : Calls Try.prog 20 #[.int .u8 (toI (p3 k)), .int .u8 3] w fun e w' => e = .returned (.int .u8 (toI (p3 (k + 1)))) ∧ Drawn0 w w' := LSboxOf.times_calls (p3 k) 3#8 w
theorem timesI_calls (k : Nat) (w : World) : Calls Try.prog 20 #[.int .u8 (toI (inv (p3 k))), .int .u8 (toI (inv 3#8))] w fun e w' => e = .returned (.int .u8 (toI (inv (p3 (k + 1))))) ∧ Drawn0 w w' := by
  have h := LSboxOf.times_calls (powN (inv 3#8) k) (inv 3#8) w
  rw [show mul (powN (inv 3#8) k) (inv 3#8) = powN (inv 3#8) (k + 1) from rfl, inv_pow, inv_pow] at h
  exact h
theorem refTimes3_calls (k : Nat) (w : World) : Calls Try.prog 21 #[.int .i64 (toI (p3 k)), .int .i64 3] w fun e w' => e = .returned (.int .i64 (toI (p3 (k + 1)))) ∧ Drawn0 w w' :=
  PSboxOf.chatelaineref02_Times.calls 17 _ _ _ w (LSboxOf.refTimes 17 (by omega) (p3 k) 3#8)
theorem refTurned_calls (v : F) (w : World) : Calls Try.prog 45 #[.int .i64 (toI v)] w fun e w' => e = .returned (.int .i64 (toI (turn v))) ∧ Drawn0 w w' :=
  PSboxOf.chatelaineref03_turned.calls 80 _ _ w (ref_turned v)
theorem refTurned0_calls (w : World) : Calls Try.prog 45 #[.int .i64 0] w fun e w' => e = .returned (.int .i64 (toI (turn 0#8))) ∧ Drawn0 w w' := refTurned_calls 0#8 w
theorem boxK_next (k : Nat) : (fun j => if j = (p3 k).toNat then turn (inv (p3 k)) else boxK k j) = boxK (k + 1) := by funext j; simp only [boxK]
theorem boxK_start : (fun j => if j = 0 then 0x63#8 else zeroF j) = boxK 0 := by funext j; rfl
/-- the two blocks -/
def Two (w W : World) (o : Nat → F) : Prop := W.heap[w.heap.size]? = some (.cells (rowB 256 zeroF) 36 (0, 0)) ∧ W.heap[w.heap.size + 1]? = some (.cells (rowB 256 o) 36 (0, 0)) ∧ Below w.heap.size w W
theorem Two.below {w W W' : World} {o : Nat → F} (h : Two w W o) (hb : Below W.heap.size W W') : Two w W' o := ⟨block_below hb h.1, block_below hb h.2.1, below_then h.2.2 h.2.2.size hb⟩
theorem Two.set {w W : World} {o : Nat → F} (h : Two w W o) (c : Nat) (v : F) : Two w (W.setCell ⟨w.heap.size + 1, c, none⟩ (.int .u8 (toI v))) (fun j => if j = c then v else o j) :=
  ⟨blk_far h.1 (by simp) _, by rw [blk_set h.2.1 c, rowB_set], h.2.2.setCell (by simp) _⟩
set_option maxRecDepth 100000 in
set_option maxHeartbeats 1000000 in
theorem box_calls (w : World) : Calls Try.prog 26 #[] w fun e w' => e = .returned (.agg (rowB 256 boxF)) ∧ Below w.heap.size w w' := by
  go_enter Try.func26, Try.ntmps26
  have c0 : ((w.alloc (.cells (rowB 256 zeroF) 36)).alloc (.cells (rowB 256 zeroF) 36)).cell? ⟨w.heap.size + 1, 0, none⟩ = some (.int .u8 (toI (zeroF 0))) := (blk_cell (heap_alloc2_new _ _ _) 0).trans (rowB_get _ _ _ (by decide))
  have z0 : ((w.alloc (.cells (rowB 256 zeroF) 36)).alloc (.cells (rowB 256 zeroF) 36)).frozen? ⟨w.heap.size + 1, 0, none⟩ = false := blk_frozen (heap_alloc2_new _ _ _) 0
  go_wp2_with (first | (refine alloc36 rfl rfl ?_))
  have H0 : Aside0 (Two w ((w.alloc (.cells (rowB 256 zeroF) 36)).alloc (.cells ((rowB 256 zeroF).setIfInBounds 0 (.int .u8 99)) 36)) (boxK 0)) := ⟨heap_alloc2_old _ _ _, by
    rw [heap_alloc2_new, show (Value.int .u8 99) = .int .u8 (toI 0x63#8) from rfl, rowB_set, boxK_start], ((Below.refl _ _).alloc (Nat.le_refl _) _).alloc (by simp) _⟩
  generalize (w.alloc (.cells (rowB 256 zeroF) 36)).alloc (.cells ((rowB 256 zeroF).setIfInBounds 0 (.int .u8 99)) 36) = W0 at *
  refine (inverse3_calls _).mono ?_
  rintro e w1 ⟨rfl, hd1⟩
  replace H0 := Aside0.mk (H0.out.below hd1.below)
  clear hd1 c0 z0
  go_wp2_with fail
  go_loopw [2, 3, 7] (fun a i n wr => ∃ k : Nat, k ≤ 255 ∧ n = .int .i64 k ∧ a = .int .u8 (toI (p3 k)) ∧ i = .int .u8 (toI (inv (p3 k))) ∧ Aside0 (Two w wr (boxK k))) (fun _ _ n _ => 255 - (intOf n).toNat)
  case atStart => exact ⟨0, by omega, rfl, rfl, by rw [show inv (p3 0) = 1#8 from by decide +kernel]; rfl, H0⟩
  case round =>
    clear H0
    obtain ⟨k, hk, rfl, rfl, rfl, HT⟩ := hrel
    by_cases hlt : k < 255
    · have hd : decide ((k : Int) < 255) = true := decide_eq_true (by omega)
      have b0 := toI_lo (p3 k)
      have b1 := toI_hi (p3 k)
      go_wp2_with fail
      refine (turned_calls _ _).mono ?_
      rintro e w2 ⟨rfl, hd1⟩
      have HT2 := Aside0.mk (HT.out.below hd1.below)
      clear hd1 HT
      have cc : w2.cell? ⟨w.heap.size + 1, (toI (p3 k)).toNat, none⟩ = some (.int .u8 (toI (boxK k (p3 k).toNat))) := (blk_cell HT2.out.2.1 _).trans (rowB_get _ _ _ (p3 k).isLt)
      have zc : w2.frozen? ⟨w.heap.size + 1, (toI (p3 k)).toNat, none⟩ = false := blk_frozen HT2.out.2.1 _
      go_wp2_with fail
      have HT3 : Aside0 (Two w (w2.setCell ⟨w.heap.size + 1, (toI (p3 k)).toNat, none⟩ (.int .u8 (toI (turn (inv (p3 k)))))) (boxK (k + 1))) := ⟨by
        have := HT2.out.set (p3 k).toNat (turn (inv (p3 k)))
        rw [boxK_next] at this; exact this⟩
      generalize w2.setCell ⟨w.heap.size + 1, (toI (p3 k)).toNat, none⟩ (.int .u8 (toI (turn (inv (p3 k))))) = W3 at *
      clear cc zc HT2
      refine (times3_calls _ _).mono ?_
      rintro e w4 ⟨rfl, hd4⟩
      have HT4 := Aside0.mk (HT3.out.below hd4.below)
      clear hd4
      go_wp2_with fail
      refine (timesI_calls _ _).mono ?_
      rintro e w5 ⟨rfl, hd5⟩
      have HT5 := Aside0.mk (HT4.out.below hd5.below)
      clear hd5
      go_wp2_with fail
      go_roundw
      case measure => simp [intOf]; omega
      case rel => exact ⟨k + 1, by omega, by go_num, rfl, rfl, HT5⟩
    · have hd : decide ((k : Int) < 255) = false := decide_eq_false (by omega)
      have hE : Aside0 (wr.heap[w.heap.size + 1]? = some (.cells (rowB 256 boxF) 36 (0, 0))) := ⟨by rw [HT.out.2.1, show k = 255 from by omega, rowB_congr 256 _ _ boxK_end]⟩
      go_wp2_with (first | (refine load36 rfl _ rfl _ rfl boxF hE.out ?_) | (refine store36 rfl _ _ rfl _ boxF zeroF rfl rfl HT.out.1 ?_))
      refine bodyPost_ret (results_cell_row rfl _ _ _ 36 (rowB 256 boxF) (0, 0) _ rfl (setRow_heap _ _ _ _ _ _ HT.out.1) Try.underlying36 rfl (by rw [rowB_size]; exact info36)) rfl ⟨rfl, ?_⟩
      exact below_setRow HT.out.2.2 (Nat.le_refl _) _
set_option maxRecDepth 100000 in
set_option maxHeartbeats 1000000 in
theorem back_calls (w : World) : Calls Try.prog 27 #[] w fun e w' => e = .returned (.agg (rowB 256 backF)) ∧ Below w.heap.size w w' := by
  go_enter Try.func27, Try.ntmps27
  go_wp2_with (first | (refine alloc36 rfl rfl ?_))
  refine (box_calls _).mono ?_
  rintro e w1 ⟨rfl, hb1⟩
  have HA := Aside0.mk (block_below hb1 (heap_alloc_new w (.cells (rowB 256 zeroF) 36)))
  have HB := Aside0.mk (below_then ((Below.refl w.heap.size w).alloc (Nat.le_refl _) (.cells (rowB 256 zeroF) 36)) (by simp) hb1)
  clear hb1
  go_wp2_with fail
  refine (swap_yes boxF box_distinct _).mono ?_
  rintro e w2 ⟨rfl, hb2⟩
  have HA2 := Aside0.mk (block_below hb2 HA.out)
  have HB2 := Aside0.mk (below_then HB.out HB.out.size hb2)
  clear hb2 HA HB
  have HA3 : Aside0 (((w2.alloc (.cells (rowB 256 zeroF) 36)).setRow w2.heap.size (rowB 256 backF)).heap[w.heap.size]? = some (.cells (rowB 256 zeroF) 36 (0, 0))) := ⟨(setRow_other _ _ _ _ (by have := blk_lt HA2.out; omega)).trans (block_below ((Below.refl _ _).alloc (Nat.le_refl _) _) HA2.out)⟩
  have HB3 : Aside0 (Below w.heap.size w ((w2.alloc (.cells (rowB 256 zeroF) 36)).setRow w2.heap.size (rowB 256 backF))) := ⟨below_setRow (HB2.out.alloc HB2.out.size _) HB2.out.size _⟩
  go_wp2_with (first | (refine alloc36 rfl rfl ?_) | (refine store36 rfl _ _ rfl w2.heap.size backF zeroF rfl rfl (heap_alloc_new _ _) ?_) | (refine load36 rfl _ rfl w2.heap.size rfl backF (setRow_heap _ _ _ _ _ _ (heap_alloc_new _ _)) ?_) | (refine store36 rfl _ _ rfl w.heap.size backF zeroF rfl rfl HA3.out ?_))
  refine bodyPost_ret (results_cell_row rfl _ _ _ 36 (rowB 256 backF) (0, 0) _ rfl (setRow_heap _ _ _ _ _ _ HA3.out) Try.underlying36 rfl (by rw [rowB_size]; exact info36)) rfl ⟨rfl, ?_⟩
  exact below_setRow HB3.out (Nat.le_refl _) _
def powL (k : Nat) : List Int := (List.range k).map fun j => toI (p3 j)
theorem powL_length (k : Nat) : (powL k).length = k := by unfold powL; rw [List.length_map, List.length_range]
theorem powL_next (k : Nat) : powL k ++ [toI (p3 k)] = powL (k + 1) := by unfold powL; rw [List.range_succ, List.map_append]; rfl
theorem powL_get (k j : Nat) (h : j < k) : (powL k).getD j 0 = toI (p3 j) := by
  unfold powL; rw [List.getD_eq_getElem?_getD, List.getElem?_map, List.getElem?_range h]; rfl
theorem powL_one : [(1 : Int)] = powL 1 := rfl
theorem own_below {w0 w w1 : World} {v : Value} {xs : List Int} (h : Own w0 w v xs) (hb : Below w.heap.size w w1) : Own w0 w1 v xs := Kd.R_below h hb
/-- n whole numbers that are bytes, in block h -/
def IntAt (w : World) (h n : Nat) (o : Nat → F) : Prop := ∃ cur, w.heap[h]? = some (.cells cur 3 (0, 0)) ∧ ∀ j, j < n → cur[j]? = some (.int .i64 (toI (o j)))
theorem IntAt.below {w w1 : World} {h n : Nat} {o : Nat → F} (H : IntAt w h n o) (hb : Below w.heap.size w w1) : IntAt w1 h n o := by
  obtain ⟨cur, h1, h2⟩ := H; exact ⟨cur, block_below hb h1, h2⟩
theorem IntAt.cell {w : World} {h n : Nat} {o : Nat → F} (H : IntAt w h n o) (j : Nat) (hj : j < n) : w.cell? ⟨h, j, none⟩ = some (.int .i64 (toI (o j))) ∧ w.frozen? ⟨h, j, none⟩ = false := by
  obtain ⟨cur, h1, h2⟩ := H; exact ⟨(blk_cell h1 j).trans (h2 j hj), blk_frozen h1 j⟩
theorem IntAt.far {w : World} {h n : Nat} {o : Nat → F} (H : IntAt w h n o) {p : Addr} (hp : h ≠ p.block) (u : Value) : IntAt (w.setCell p u) h n o := by
  obtain ⟨cur, h1, h2⟩ := H; exact ⟨cur, blk_far h1 hp u, h2⟩
theorem IntAt.set {w : World} {h n : Nat} {o : Nat → F} (H : IntAt w h n o) (c : Nat) (v : F) (hc : c < n) : IntAt (w.setCell ⟨h, c, none⟩ (.int .i64 (toI v))) h n (fun j => if j = c then v else o j) := by
  obtain ⟨cur, h1, h2⟩ := H
  refine ⟨_, blk_set h1 c _, fun j hj => ?_⟩
  have hs := (Array.getElem?_eq_some_iff.1 (h2 c hc)).1
  rw [Array.getElem?_setIfInBounds]
  by_cases e : c = j
  · subst e; rw [if_pos rfl, if_pos hs]; simp only [if_true]
  · rw [if_neg e]
    show _ = some (Value.int .i64 (toI (if j = c then v else o j)))
    rw [if_neg (fun h => e h.symm)]; exact h2 j hj
theorem IntAt.lt {w : World} {h n : Nat} {o : Nat → F} (H : IntAt w h n o) : h < w.heap.size := by obtain ⟨cur, h1, _⟩ := H; exact blk_lt h1
theorem IntAt.congr {w : World} {h n : Nat} {o o' : Nat → F} (H : IntAt w h n o) (e : ∀ j, j < n → o j = o' j) : IntAt w h n o' := by
  obtain ⟨cur, h1, h2⟩ := H; exact ⟨cur, h1, fun j hj => by rw [← e j hj]; exact h2 j hj⟩
/-- The document's box: a list of whole numbers. -/
def BoxPost (w : World) (e : Ending) (w' : World) : Prop := ∃ h cap, e = .returned (.slice (some ⟨h, 0, none⟩) 256 cap) ∧ w.heap.size ≤ h ∧ IntAt w' h 256 boxF ∧ Below w.heap.size w w'
theorem rep_get (j : Nat) (hj : j < 256) : (List.replicate 256 (0 : Int)).getD j 0 = toI (zeroF j) := by
  rw [List.getD_eq_getElem?_getD, List.getElem?_replicate, if_pos hj]; rfl
set_option maxRecDepth 100000 in
set_option maxHeartbeats 2000000 in
theorem refBox_calls (w : World) : Calls Try.prog 29 #[] w (BoxPost w) := by
  go_enter Try.func29, Try.ntmps29
  go_wp2_with fail
  have HO0 := Aside0.mk (own_lit1 w w 1 (Nat.le_refl _))
  have HB0 := Aside0.mk ((Below.refl w.heap.size w).alloc (Nat.le_refl _) (.cells #[.int .i64 1] 3))
  go_loopw [1, 2] (fun v i wr => ∃ (k : Nat) (xs : List Int), 1 ≤ k ∧ k ≤ 255 ∧ i = .int .i64 k ∧ Aside0 (xs = powL k) ∧ Aside0 (Own w wr v xs) ∧ Aside0 (Below w.heap.size w wr)) (fun _ i _ => 255 - (intOf i).toNat)
  case atStart => exact ⟨1, [1], by omega, by omega, rfl, ⟨powL_one⟩, HO0, HB0⟩
  case round =>
    clear HO0 HB0
    obtain ⟨k, xs, hk1, hk, rfl, HX, HO, HB⟩ := hrel
    have hlen : k ≤ xs.length ∧ xs.length ≤ k := by rw [HX.out, powL_length]; omega
    have hlen1 := hlen.1
    have hlen2 := hlen.2
    clear hlen
    obtain ⟨g, cap, cur, rfl, hg, hblk, hcur⟩ := own_block HO.out (by omega)
    have HG := Aside0.mk hblk
    have HC := Aside0.mk hcur
    clear hblk hcur
    by_cases hlt : k < 255
    · have hd : decide ((k : Int) < 255) = true := decide_eq_true (by omega)
      have hi0 : 0 ≤ (k : Int) - 1 := by omega
      have hi1 : (k : Int) - 1 < (xs.length : Int) := by omega
      have hc : wr.cell? ⟨g, k - 1, none⟩ = some (.int .i64 (toI (p3 (k - 1)))) := by
        rw [blk_cell HG.out, HC.out (k - 1) (by omega), HX.out, powL_get k (k - 1) (by omega)]
      go_wp2_with fail
      refine (refTimes3_calls (k - 1) _).mono ?_
      rintro e w1 ⟨rfl, hd1⟩
      have hpk : toI (p3 (k - 1 + 1)) = toI (p3 k) := by rw [show k - 1 + 1 = k from by omega]
      rw [hpk]
      clear hpk
      have HO1 := Aside0.mk (own_below HO.out hd1.below)
      have HB1 := Aside0.mk (below_then HB.out HB.out.size hd1.below)
      clear hd1 hc HO HB HG
      go_wp2_with (first | ((with_reducible refine gate_builtin (b := .append) (xs := #[.tmp 10, .tmp 17]) rfl ?_); at_builtin; refine app (w0 := w) rfl (.tmp 10) (.tmp 17) rfl _ xs (toI (p3 k)) rfl rfl HO1.out HB1.out (by omega) ?_; intro v2 w2 ho2 hb2 hg2 hat2; have HO2 := Aside0.mk ho2; have HB2 := Aside0.mk hb2; clear ho2 hb2 hg2 hat2 HO1 HB1))
      go_roundw
      case measure => simp [intOf]; omega
      case rel => exact ⟨k + 1, xs ++ [toI (p3 k)], by omega, by omega, by go_num, ⟨by rw [HX.out, powL_next]⟩, HO2, HB2⟩
    · have hd : decide ((k : Int) < 255) = false := decide_eq_false (by omega)
      have HP : Aside0 (IntAt wr g 255 p3) := ⟨⟨cur, HG.out, fun j hj => by rw [HC.out j (by omega), HX.out, powL_get k j (by omega)]⟩⟩
      have hle : 255 ≤ xs.length := by omega
      clear HG HC HO HX
      go_wp2_with (first | ((with_reducible refine gate_dst (N := 19) rfl ?_); refine Kd.R_make (Kd.int .i64) (w0 := w) w.heap.size 3 rfl (N := 19) rfl 42 _ _ rfl 256 rfl rfl Try.underlying42 (.int .i64 0) 8 info3 rfl (by decide) (by omega) 0 (ok := fun _ => True) (okp := fun _ => True) rfl (fun _ hk => hk) trivial (by omega) (by decide) HB.out HB.out.size ?_; intro v3 w3 ho3 hb3 hg3 hat3; have HO3 := Aside0.mk ho3; have HB3 := Aside0.mk hb3; have HP3 : Aside0 (IntAt w3 g 255 p3) := ⟨by obtain ⟨c, h1, h2⟩ := HP.out; exact ⟨c, blk_grown h1 hg3 (by simp), h2⟩⟩; have HN3 : Aside0 (∃ b, v3.ownBlock = some b ∧ wr.heap.size ≤ b) := ⟨hat3⟩; have HGL : Aside0 (g < wr.heap.size) := ⟨HP.out.lt⟩; clear ho3 hb3 hg3 hat3 HB HP))
      refine (refTurned0_calls _).mono ?_
      rintro e w4 ⟨rfl, hd4⟩
      obtain ⟨h, cap3, cur3, hv3, hh, hblk3, hcur3⟩ := own_block (xs := List.replicate 256 0) HO3.out (by decide)
      rw [List.length_replicate] at hv3 hcur3
      subst hv3
      have HI3 : IntAt w3 h 256 zeroF := ⟨cur3, hblk3, fun j hj => by rw [hcur3 j hj, rep_get j hj]⟩
      have hgh : g < h := by
        obtain ⟨b, hb1, hb2⟩ := HN3.out
        have : h = b := by simpa [Value.ownBlock] using hb1
        have := HGL.out; omega
      have HI4 := Aside0.mk (HI3.below hd4.below)
      have HP4 := Aside0.mk (HP3.out.below hd4.below)
      have HB4 := Aside0.mk (below_then HB3.out HB3.out.size hd4.below)
      clear HO3 hblk3 hcur3 HI3 HP3 HB3 HN3 HGL hd4
      have c0 := (HI4.out.cell 0 (by decide)).1
      have z0 := (HI4.out.cell 0 (by decide)).2
      go_wp2_with fail
      have HI5 : Aside0 (IntAt (w4.setCell ⟨h, 0, none⟩ (.int .i64 (toI (turn 0#8)))) h 256 (boxK 0)) := ⟨by
        have := HI4.out.set 0 (turn 0#8) (by decide)
        rw [show turn 0#8 = 0x63#8 from by decide +kernel] at this ⊢
        rw [boxK_start] at this; exact this⟩
      have HP5 : Aside0 (IntAt (w4.setCell ⟨h, 0, none⟩ (.int .i64 (toI (turn 0#8)))) g 255 p3) := ⟨HP4.out.far (by simp; omega) _⟩
      have HB5 : Aside0 (Below w.heap.size w (w4.setCell ⟨h, 0, none⟩ (.int .i64 (toI (turn 0#8))))) := ⟨HB4.out.setCell hh _⟩
      generalize w4.setCell ⟨h, 0, none⟩ (.int .i64 (toI (turn 0#8))) = W5 at *
      clear c0 z0 HI4 HP4 HB4
      go_loopw [4] (fun i wr => ∃ k : Nat, k ≤ 255 ∧ i = .int .i64 k ∧ Aside0 (IntAt wr h 256 (boxK k)) ∧ Aside0 (IntAt wr g 255 p3) ∧ Aside0 (Below w.heap.size w wr)) (fun i _ => 255 - (intOf i).toNat)
      case atStart => exact ⟨0, by omega, rfl, HI5, HP5, HB5⟩
      case round =>
        clear HI5 HP5 HB5
        obtain ⟨m, hm, rfl, HI, HP, HB⟩ := hrel
        by_cases hlt2 : m < 255
        · have hd2 : decide ((m : Int) < 255) = true := decide_eq_true (by omega)
          have b0 := toI_lo (p3 m)
          have b1 := toI_hi (p3 m)
          have hs : IntKind.i64.wrap (255 - (m : Int)) = 255 - (m : Int) := by rw [IntKind.wrap_i64]; omega
          obtain ⟨q, hq⟩ : ∃ q : Nat, q = (255 - m) % 255 := ⟨_, rfl⟩
          have hql : q < 255 := by omega
          have ht : Int.tmod (255 - (m : Int)) 255 = (q : Int) := by
            rw [hq, show (255 - (m : Int)) = ((255 - m : Nat) : Int) from by omega]; rfl
          have hml : (m : Int) < (xs.length : Int) := by omega
          have hqx : (q : Int) < (xs.length : Int) := by omega
          have HQ := Aside0.mk hq
          clear hq
          go_wp2_with fail
          refine start_ (n := 14) (S := fun W => W.cell? ⟨g, m, none⟩ = some (.int .i64 (toI (p3 m))) ∧ W.cell? ⟨g, q, none⟩ = some (.int .i64 (toI (inv (p3 m)))) ∧ IntAt W h 256 (boxK m) ∧ IntAt W g 255 p3 ∧ Below w.heap.size w W) (ds := [13]) #[false, false, false, false, false, false, false, false, false, false, false, false, false, false] (by kernel_rfl) rfl rfl ⟨(HP.out.cell m hlt2).1, by rw [← p3_back m hlt2, ← HQ.out]; exact (HP.out.cell q hql).1, HI.out.below (below_drew (Below.refl _ _)), HP.out.below (below_drew (Below.refl _ _)), below_drew HB.out⟩ (fun hHeld => ?_)
          clear HI HP HB
          generalize wr.drew = W6 at *
          refine pure_ (i := 0) (N := some 27) (v := ?_) (a' := ?_) #[true, false, false, false, false, false, false, false, false, false, false, false, false, false] rfl rfl (by kernel_rfl) (fun _ _ _ h => h) (Or.inl ⟨by rfl, ?_⟩) ?_ ?_
          rotate_left
          · intro w'
            go_simp
            with_reducible rfl
          rotate_left
          · simp only [Act.put, List.setIfInBounds_toArray, List.set_cons_zero, List.set_cons_succ]
            rfl
          refine pure_ (i := 1) (N := some 28) (v := ?_) (a' := ?_) #[true, true, false, false, false, false, false, false, false, false, false, false, false, false] rfl rfl (by kernel_rfl) (fun _ _ _ h => h) (Or.inl ⟨by rfl, ?_⟩) ?_ ?_
          rotate_left
          · intro w'
            go_simp
            with_reducible rfl
          rotate_left
          · simp only [Act.put, List.setIfInBounds_toArray, List.set_cons_zero, List.set_cons_succ]
            rfl
          refine pure_ (i := 2) (N := some 29) (v := ?_) (a' := ?_) #[true, true, true, false, false, false, false, false, false, false, false, false, false, false] rfl rfl (by kernel_rfl) (fun _ _ _ h => h) (Or.inl ⟨by rfl, ?_⟩) ?_ ?_
          rotate_left
          · intro w'
            go_simp
            with_reducible rfl
          rotate_left
          · simp only [Act.put, List.setIfInBounds_toArray, List.set_cons_zero, List.set_cons_succ]
            rfl
          refine pure_ (i := 3) (N := some 30) (v := ?_) (a' := ?_) #[true, true, true, true, false, false, false, false, false, false, false, false, false, false] rfl rfl (by kernel_rfl) (fun _ _ _ h => h) (Or.inl ⟨by rfl, ?_⟩) ?_ ?_
          rotate_left
          · intro w'
            go_simp
            with_reducible rfl
          rotate_left
          · simp only [Act.put, List.setIfInBounds_toArray, List.set_cons_zero, List.set_cons_succ]
            rfl
          refine pure_ (i := 5) (N := some 32) (v := ?_) (a' := ?_) #[true, true, true, true, false, true, false, false, false, false, false, false, false, false] rfl rfl (by kernel_rfl) (fun _ _ _ h => h) (Or.inl ⟨by rfl, ?_⟩) ?_ ?_
          rotate_left
          · intro w'
            go_simp
            with_reducible rfl
          rotate_left
          · simp only [Act.put, List.setIfInBounds_toArray, List.set_cons_zero, List.set_cons_succ]
            rfl
          refine pure_ (i := 6) (N := some 33) (v := ?_) (a' := ?_) #[true, true, true, true, false, true, true, false, false, false, false, false, false, false] rfl rfl (by kernel_rfl) (fun _ _ _ h => h) (Or.inl ⟨by rfl, ?_⟩) ?_ ?_
          rotate_left
          · intro w'
            go_simp
            with_reducible rfl
          rotate_left
          · simp only [Act.put, List.setIfInBounds_toArray, List.set_cons_zero, List.set_cons_succ]
            rfl
          refine pure_ (i := 7) (N := some 34) (v := ?_) (a' := ?_) #[true, true, true, true, false, true, true, true, false, false, false, false, false, false] rfl rfl (by kernel_rfl) (fun _ _ _ h => h) (Or.inl ⟨by rfl, ?_⟩) ?_ ?_
          rotate_left
          · intro w'
            go_simp
            with_reducible rfl
          rotate_left
          · simp only [Act.put, List.setIfInBounds_toArray, List.set_cons_zero, List.set_cons_succ]
            rfl
          refine pure_ (i := 8) (N := some 35) (v := ?_) (a' := ?_) #[true, true, true, true, false, true, true, true, true, false, false, false, false, false] rfl rfl (by kernel_rfl) (fun _ _ _ h => h) (Or.inl ⟨by rfl, ?_⟩) ?_ ?_
          rotate_left
          · intro w'
            go_simp
            with_reducible rfl
          rotate_left
          · simp only [Act.put, List.setIfInBounds_toArray, List.set_cons_zero, List.set_cons_succ]
            rfl
          refine pure_ (i := 9) (N := some 36) (v := ?_) (a' := ?_) #[true, true, true, true, false, true, true, true, true, true, false, false, false, false] rfl rfl (by kernel_rfl) (fun _ _ _ h => h) (Or.inl ⟨by rfl, ?_⟩) ?_ ?_
          rotate_left
          · intro w'
            go_simp
            with_reducible rfl
          rotate_left
          · simp only [Act.put, List.setIfInBounds_toArray, List.set_cons_zero, List.set_cons_succ]
            rfl
          refine take_ (i := 4) (N := some 31) (v := ?_) (a' := ?_) #[true, true, true, true, true, true, true, true, true, true, false, false, false, false] rfl rfl (by kernel_rfl) (fun _ _ _ h => h) (Or.inl ⟨by rfl, ?_⟩) hHeld ?_ ?_
          rotate_left
          · rintro w' ⟨s0, s1, _, _, _⟩
            go_simp
            with_reducible rfl
          rotate_left
          · simp only [Act.put, List.setIfInBounds_toArray, List.set_cons_zero, List.set_cons_succ]
            rfl
          refine take_ (i := 10) (N := some 37) (v := ?_) (a' := ?_) #[true, true, true, true, true, true, true, true, true, true, true, false, false, false] rfl rfl (by kernel_rfl) (fun _ _ _ h => h) (Or.inl ⟨by rfl, ?_⟩) hHeld ?_ ?_
          rotate_left
          · rintro w' ⟨s0, s1, _, _, _⟩
            go_simp
            with_reducible rfl
          rotate_left
          · simp only [Act.put, List.setIfInBounds_toArray, List.set_cons_zero, List.set_cons_succ]
            rfl
          refine one_ (i := 11) (N := some 38) #[true, true, true, true, true, true, true, true, true, true, true, true, false, false] rfl rfl (by kernel_rfl) (by decide) (fun K hK => ?_)
          refine goes_ Try.func45 (by kernel_rfl) rfl #[.int .i64 (toI (inv (p3 m)))] (by rfl) rfl rfl (by (try simp only [List.map_toArray, List.map_cons, List.map_nil]); first | done | rfl) ?_
          with_reducible refine (refTurned_calls (inv (p3 m)) _).mono ?_
          rintro e w' ⟨rfl, hd⟩
          refine ⟨_, rfl, ?_⟩
          refine hK.out _ _ ⟨(pw_cell_below hd.below hHeld.1), (pw_cell_below hd.below hHeld.2.1), hHeld.2.2.1.below hd.below, hHeld.2.2.2.1.below hd.below, below_then hHeld.2.2.2.2 hHeld.2.2.2.2.size hd.below⟩ (fun hHeld => ?_)
          clear hK K
          refine norm_ (a' := ?_) ?_ ?_
          rotate_left
          · show Act.put _ (some 38) _ = _
            simp only [Act.put, List.setIfInBounds_toArray, List.set_cons_zero, List.set_cons_succ]
            rfl
          refine pure_ (i := 12) (N := some 39) (v := ?_) (a' := ?_) #[true, true, true, true, true, true, true, true, true, true, true, true, true, false] rfl rfl (by kernel_rfl) (fun _ _ _ h => h) (Or.inl ⟨by rfl, ?_⟩) ?_ ?_
          rotate_left
          · intro w'
            go_simp
            with_reducible rfl
          rotate_left
          · simp only [Act.put, List.setIfInBounds_toArray, List.set_cons_zero, List.set_cons_succ]
            rfl
          have c6 := (hHeld.2.2.1.cell (p3 m).toNat (p3 m).isLt).1
          have z6 := (hHeld.2.2.1.cell (p3 m).toNat (p3 m).isLt).2
          rw [← toNat_toI] at c6 z6
          have HI6 := Aside0.mk (hHeld.2.2.1.set (p3 m).toNat (turn (inv (p3 m))) (p3 m).isLt)
          rw [boxK_next] at HI6
          have HP6 := Aside0.mk (hHeld.2.2.2.1.far (p := ⟨h, (p3 m).toNat, none⟩) (by simp; omega) (.int .i64 (toI (turn (inv (p3 m))))))
          have HB6 := Aside0.mk (hHeld.2.2.2.2.setCell (p := ⟨h, (p3 m).toNat, none⟩) hh (.int .i64 (toI (turn (inv (p3 m))))))
          refine last_ (i := 13) (N := none) #[true, true, true, true, true, true, true, true, true, true, true, true, true, true] rfl rfl (by kernel_rfl) (by decide) (fun K hK => ?_)
          refine skip_ (w1 := ?_) (by rfl) rfl ?_ ?_
          rotate_left
          · go_simp
            rfl
          refine hK.out _ _ ?_
          clear hK K
          refine done_ (by kernel_rfl) ?_
          go_wp2
          go_roundw
          case measure => simp [intOf]; omega
          case rel => exact ⟨m + 1, by omega, by go_num, HI6, HP6, HB6⟩
        · have hd2 : decide ((m : Int) < 255) = false := decide_eq_false (by omega)
          go_wp2
          go_ret
          exact ⟨h, cap3, rfl, hh, by have := HI.out; rw [show m = 255 from by omega] at this; exact this.congr boxK_end, HB.out⟩
end Go.Proofs.Ytphoelhelmnibaa.Bw
