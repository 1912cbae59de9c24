/-
The document's block, doubled, walked.
-/
import Derived.Test.YtphoelhelmnibaaDb
namespace Go.Proofs.Ytphoelhelmnibaa.Rd
open Go.RowKit Go.Proofs.Ytphoelhelmnibaa.Gf Go.Proofs.Ytphoelhelmnibaa.Ar Go.Proofs.Ytphoelhelmnibaa.Db Go.Proofs.YtphoelhelmnibaaW.PrintWords Go.Proofs.YtphoelhelmnibaaW.PrintLast Go.Proofs.YtphoelhelmnibaaW.PrintMore
theorem info3 : (Try.prog.info? 3).map (fun i => (i.zero, i.size, i.bytes)) = some (some (.int .i64 0), 1, 8) := by kernel_rfl
/-- A list of whole numbers of the call's own. -/
def Own (w0 w : World) (v : Value) (xs : List Int) : Prop := (Kd.int .i64).R 3 w w0.heap.size (fun _ => True) v xs
section
variable {ops : Array Oper} {rest : List Oper} {o : Oper} {a : Act} {Q : Exit → Act → World → Prop}
theorem app {w0 W : World} (hgd : o.guard = none) (s x : Operand) (ho : o.op = .call { callee := .builtin .append, args := #[s, x], argTypes := #[42, 42] })
    (v : Value) (xs : List Int) (p : Int) (hs : a.eval s = v) (hx : a.eval x = .slice (some ⟨W.heap.size, 0, none⟩) 1 1) (HO : Own w0 W v xs) (HB : Below w0.heap.size w0 W) (hl : xs.length ≤ 1000)
    (h : ∀ v1 w1, Own w0 w1 v1 (xs ++ [p]) → Below w0.heap.size w0 w1 → W.grownBy w1 v.ownBlock → (v1.ownBlock = v.ownBlock ∨ ∃ b, v1.ownBlock = some b ∧ W.heap.size ≤ b) → wpList Try.prog ops Q rest (a.put o.dst v1) w1) :
    wpList Try.prog ops Q (o :: rest) a (W.alloc (.cells #[.int .i64 p] 3)) :=
  Kd.R_append (Kd.int .i64) (w0 := w0) w0.heap.size hgd s x 42 3 (.int .i64 0) 8 ho Try.underlying42 info3 rfl (by decide) (by omega) v xs p [.int .i64 p] (fun _ => True) (fun _ => False) hs hx rfl (fun _ hk => hk.elim) (fun _ _ => trivial) HO HB HB.size (by omega)
    h
end
theorem own_ne {w0 w : World} {v : Value} {xs : List Int} (h : Own w0 w v xs) {g t : Nat} {cells : Array Value} (hb : w.heap[g]? = some (.cells cells t (0, 0))) (ht : 3 ≠ t) : some g ≠ v.ownBlock := Kd.R_ne h hb ht
theorem own_block {w0 w : World} {v : Value} {xs : List Int} (h : Own w0 w v xs) (hp : 0 < xs.length) : ∃ g cap cur, v = .slice (some ⟨g, 0, none⟩) xs.length cap ∧ w0.heap.size ≤ g ∧ w.heap[g]? = some (.cells cur 3 (0, 0)) ∧ ∀ i, i < xs.length → cur[i]? = some (.int .i64 (xs.getD i 0)) := by
  obtain ⟨g, cap, rfl, hg, _, cur, hcur⟩ := Kd.R_form h hp
  refine ⟨g, cap, cur, rfl, hg, hcur, fun i hi => ?_⟩
  have h1 := (Kd.R_cell (0 : Int) h (i : Int) (by omega) (by omega)).1
  rw [Int.toNat_natCast] at h1
  rw [← blk_cell hcur i, h1]; simp [rdOf]
theorem own_lit1 (w0 W : World) (x : Int) (hb : w0.heap.size ≤ W.heap.size) : Own w0 (W.alloc (.cells #[.int .i64 x] 3)) (.slice (some ⟨W.heap.size, 0, none⟩) 1 1) [x] :=
  Kd.R_of_own (own_lit W w0.heap.size 3 .i64 [x] hb (by simp)) (fun _ _ => trivial)
def bitI (f : Nat → F) (j : Nat) : Int := (((f (j / 8)).toNat / 2 ^ (j % 8) % 2 : Nat) : Int)
def bitsL (f : Nat → F) (m : Nat) : List Int := (List.range m).map (bitI f)
theorem bitsL_length (f : Nat → F) (m : Nat) : (bitsL f m).length = m := by unfold bitsL; rw [List.length_map, List.length_range]
theorem bitsL_next (f : Nat → F) (m : Nat) : bitsL f m ++ [bitI f m] = bitsL f (m + 1) := by unfold bitsL; rw [List.range_succ, List.map_append]; rfl
theorem bitI_at (f : Nat → F) (i k : Nat) (hk : k < 8) : bitI f (8 * i + k) = (((f i).toNat / 2 ^ k % 2 : Nat) : Int) := by
  unfold bitI; rw [show (8 * i + k) / 8 = i from by omega, show (8 * i + k) % 8 = k from by omega]
def bN (x : F) (k : Nat) : Int := if x.getLsbD k then 1 else 0
theorem bN_spell : ∀ (x : F) (k : Fin 8), ((x.toNat / 2 ^ k.val % 2 : Nat) : Int) = bN x k.val := by decide +kernel
theorem bitI_bN (f : Nat → F) (i k : Nat) (hk : k < 8) : bitI f (8 * i + k) = bN (f i) k := by
  rw [bitI_at f i k hk]; exact bN_spell (f i) ⟨k, hk⟩
def nextI (f : Nat → F) (j : Nat) : Int := bN (double f (j / 8)) (j % 8)
def nextL (f : Nat → F) (k : Nat) : List Int := 0 :: bitsL f k
theorem nextL_length (f : Nat → F) (k : Nat) : (nextL f k).length = k + 1 := by unfold nextL; rw [List.length_cons, bitsL_length]
theorem nextL_next (f : Nat → F) (k : Nat) : nextL f k ++ [bitI f k] = nextL f (k + 1) := by unfold nextL; rw [List.cons_append, bitsL_next]
theorem bitsL_get (f : Nat → F) (m j : Nat) (h : j < m) : (bitsL f m).getD j 0 = bitI f j := by
  unfold bitsL; rw [List.getD_eq_getElem?_getD, List.getElem?_map, List.getElem?_range h]; rfl
theorem nextL_get (f : Nat → F) (m j : Nat) (h : j < m + 1) : (nextL f m).getD j 0 = if j = 0 then 0 else bitI f (j - 1) := by
  unfold nextL
  cases j with
  | zero => rfl
  | succ j => rw [List.getD_cons_succ, bitsL_get f m j (by omega), if_neg (by omega)]; rfl
theorem up_bits (x y : F) (k : Nat) : ((x <<< (1 : Nat)) ||| (y >>> (7 : Nat))).getLsbD k = if k = 0 then y.getLsbD 7 else (decide (k < 8) && x.getLsbD (k - 1)) := by
  rw [BitVec.getLsbD_or, BitVec.getLsbD_shiftLeft, BitVec.getLsbD_ushiftRight]
  by_cases h : k = 0
  · subst h; simp
  · rw [if_neg h]
    have h1 : y.getLsbD (7 + k) = false := BitVec.getLsbD_of_ge _ _ (by omega)
    have h2 : ¬ k < 1 := by omega
    simp [h1, h2]
theorem last_bits : ∀ (y : F) (k : Fin 8), (last (y >>> (7 : Nat))).getLsbD k.val = (y.getLsbD 7 && (k.val == 0 || k.val == 1 || k.val == 2 || k.val == 7)) := by decide +kernel
theorem carry16 (f : Nat → F) : carry f 16 = f 15 >>> (7 : Nat) := rfl
theorem bN_xor (c : Bool) (x y : F) (k : Nat) (h : y.getLsbD k = c) : bN (x ^^^ y) k = if c then 1 - bN x k else bN x k := by
  unfold bN; rw [BitVec.getLsbD_xor, h]; cases x.getLsbD k <;> cases c <;> rfl
theorem dbl_bit (f : Nat → F) (i k : Nat) (hk : k < 8) : bN (dbl f i) k = if 8 * i + k = 0 then 0 else bitI f (8 * i + k - 1) := by
  by_cases hi : i = 0
  · subst hi
    have e : dbl f 0 = (f 0 <<< (1 : Nat)) ||| ((0#8 : F) >>> (7 : Nat)) := by unfold dbl carry; rw [if_pos rfl, BitVec.zero_ushiftRight]
    rw [e]
    by_cases h0 : k = 0
    · subst h0; unfold bN; rw [up_bits]; rfl
    · rw [if_neg (by omega), show 8 * 0 + k - 1 = 8 * 0 + (k - 1) from by omega, bitI_bN f 0 (k - 1) (by omega)]
      unfold bN; rw [up_bits, if_neg h0, decide_eq_true hk, Bool.true_and]
  · have e : dbl f i = (f i <<< (1 : Nat)) ||| (f (i - 1) >>> (7 : Nat)) := by unfold dbl carry; rw [if_neg hi]
    rw [e, if_neg (by omega)]
    by_cases h0 : k = 0
    · subst h0
      rw [show 8 * i + 0 - 1 = 8 * (i - 1) + 7 from by omega, bitI_bN f (i - 1) 7 (by omega)]
      unfold bN; rw [up_bits, if_pos rfl]
    · rw [show 8 * i + k - 1 = 8 * i + (k - 1) from by omega, bitI_bN f i (k - 1) (by omega)]
      unfold bN; rw [up_bits, if_neg h0, decide_eq_true hk, Bool.true_and]
theorem nextI_spell (f : Nat → F) (j : Nat) : nextI f j = if (f 15).getLsbD 7 = true ∧ (j = 0 ∨ j = 1 ∨ j = 2 ∨ j = 7) then 1 - (if j = 0 then 0 else bitI f (j - 1)) else (if j = 0 then 0 else bitI f (j - 1)) := by
  have hd := dbl_bit f (j / 8) (j % 8) (by omega)
  rw [show 8 * (j / 8) + j % 8 = j from by omega] at hd
  unfold nextI double
  by_cases hi : j / 8 = 0
  · rw [hi] at hd
    rw [if_pos hi]
    have hl : (last (carry f 16)).getLsbD (j % 8) = ((f 15).getLsbD 7 && (j % 8 == 0 || j % 8 == 1 || j % 8 == 2 || j % 8 == 7)) := by rw [carry16]; exact last_bits (f 15) ⟨j % 8, by omega⟩
    rw [bN_xor _ _ _ _ hl, hd]
    have hj : j % 8 = j := by omega
    simp only [hj]
    cases (f 15).getLsbD 7
    · simp
    · simp only [Bool.true_and, Bool.or_eq_true, beq_iff_eq, true_and, or_assoc]
  · rw [if_neg hi, hd, if_neg (c := _ ∧ _) (by omega)]
theorem bitI_range (f : Nat → F) (j : Nat) : 0 ≤ bitI f j ∧ bitI f j ≤ 1 := by unfold bitI; omega
theorem top_spell (f : Nat → F) : bitI f 127 = if (f 15).getLsbD 7 then 1 else 0 := bitI_bN f 15 7 (by decide)
theorem horner : ∀ (x : F) (m : Fin 8), x.toNat / 2 ^ (8 - (m.val + 1)) = 2 * (x.toNat / 2 ^ (8 - m.val)) + (if x.getLsbD (7 - m.val) then 1 else 0) := by decide +kernel
theorem horner_int (x : F) (m : Nat) (hm : m < 8) : ((x.toNat / 2 ^ (8 - (m + 1)) : Nat) : Int) = 2 * ((x.toNat / 2 ^ (8 - m) : Nat) : Int) + bN x (7 - m) := by
  have := horner x ⟨m, hm⟩
  simp only at this
  rw [this]; unfold bN; split <;> simp
theorem alloc_at {w : World} {g : Nat} (o : Obj) (h : g = w.heap.size) : (w.alloc o).heap[g]? = some o := by subst h; exact heap_alloc_new _ _
def NextAt (f : Nat → F) (h : Nat) (w : World) : Prop := ∃ cur, w.heap[h]? = some (.cells cur 3 (0, 0)) ∧ ∀ j, j < 128 → cur[j]? = some (.int .i64 (nextI f j))
theorem NextAt.alloc {f : Nat → F} {h : Nat} {w : World} (H : NextAt f h w) (o : Obj) : NextAt f h (w.alloc o) := by
  obtain ⟨cur, h1, h2⟩ := H
  exact ⟨cur, (heap_alloc_old _ _ (blk_lt h1)).trans h1, h2⟩
theorem NextAt.far {f : Nat → F} {h : Nat} {w : World} (H : NextAt f h w) {p : Addr} (hp : h ≠ p.block) (u : Value) : NextAt f h (w.setCell p u) := by
  obtain ⟨cur, h1, h2⟩ := H
  exact ⟨cur, blk_far h1 hp u, h2⟩
theorem NextAt.cell {f : Nat → F} {h : Nat} {w : World} (H : NextAt f h w) (j : Nat) (hj : j < 128) : w.cell? ⟨h, j, none⟩ = some (.int .i64 (nextI f j)) := by
  obtain ⟨cur, h1, h2⟩ := H
  exact (blk_cell h1 j).trans (h2 j hj)
theorem NextAt.plain {f : Nat → F} {h : Nat} {w : World} {cur : Array Value} (h1 : w.heap[h]? = some (.cells cur 3 (0, 0))) (h2 : ∀ j, j < 128 → cur[j]? = some (.int .i64 (if j = 0 then 0 else bitI f (j - 1)))) (ht : (f 15).getLsbD 7 = false) : NextAt f h w :=
  ⟨cur, h1, fun j hj => by rw [h2 j hj, nextI_spell, ht, if_neg (c := _ ∧ _) (by simp)]⟩
theorem NextAt.turned {f : Nat → F} {h : Nat} {w : World} {cur : Array Value} (h1 : w.heap[h]? = some (.cells cur 3 (0, 0))) (h2 : ∀ j, j < 128 → cur[j]? = some (.int .i64 (if j = 0 then 0 else bitI f (j - 1)))) (ht : (f 15).getLsbD 7 = true) :
    NextAt f h ((((w.setCell ⟨h, 0, none⟩ (.int .i64 1)).setCell ⟨h, 1, none⟩ (.int .i64 (1 - bitI f 0))).setCell ⟨h, 2, none⟩ (.int .i64 (1 - bitI f 1))).setCell ⟨h, 7, none⟩ (.int .i64 (1 - bitI f 6))) := by
  refine ⟨_, blk_set (blk_set (blk_set (blk_set h1 0 _) 1 _) 2 _) 7 _, fun j hj => ?_⟩
  have hs : 128 ≤ cur.size := by
    have := h2 127 (by omega)
    have := (Array.getElem?_eq_some_iff.1 this).1
    omega
  rw [nextI_spell, ht]
  simp only [Array.getElem?_setIfInBounds, Array.size_setIfInBounds]
  by_cases e7 : 7 = j
  · subst e7; rw [if_pos rfl, if_pos (by omega)]; rfl
  · rw [if_neg e7]
    by_cases e2 : 2 = j
    · subst e2; rw [if_pos rfl, if_pos (by omega)]; rfl
    · rw [if_neg e2]
      by_cases e1 : 1 = j
      · subst e1; rw [if_pos rfl, if_pos (by omega)]; rfl
      · rw [if_neg e1]
        by_cases e0 : 0 = j
        · subst e0; rw [if_pos rfl, if_pos (by omega)]; rfl
        · rw [if_neg e0, h2 j hj, if_neg (c := _ ∧ _) (by omega)]
def part (f : Nat → F) (k j : Nat) : F := if j < k then double f j else 0#8
theorem part_zero (f : Nat → F) : part f 0 = fun _ => 0#8 := by funext j; unfold part; rw [if_neg (by omega)]
theorem part_next (f : Nat → F) (k : Nat) : (fun j => if j = k then double f k else part f k j) = part f (k + 1) := by
  funext j; unfold part
  by_cases h : j = k
  · subst h; rw [if_pos rfl, if_pos (by omega)]
  · rw [if_neg h]
    by_cases h2 : j < k
    · rw [if_pos h2, if_pos (by omega)]
    · rw [if_neg h2, if_neg (by omega)]
theorem part_end (f : Nat → F) : rowB 16 (part f 16) = rowB 16 (double f) := rowB_congr 16 _ _ (fun j hj => by unfold part; rw [if_pos hj])
theorem nextI_bN (f : Nat → F) (i k : Nat) (hk : k < 8) : nextI f (8 * i + k) = bN (double f i) k := by
  unfold nextI; rw [show (8 * i + k) / 8 = i from by omega, show (8 * i + k) % 8 = k from by omega]
theorem bN_range (x : F) (k : Nat) : 0 ≤ bN x k ∧ bN x k ≤ 1 := by unfold bN; split <;> omega
set_option maxRecDepth 100000 in
set_option maxHeartbeats 1000000 in
theorem refDouble_calls (f : Nat → F) (w : World) : Calls Try.prog 18 #[.agg (rowB 16 f)] w fun e w' => e = .returned (.agg (rowB 16 (double f))) ∧ Below w.heap.size w w' := by
  have hone := Aside0.mk (rowB_one 16 f)
  go_enter Try.func18, Try.ntmps18
  go_wp2
  go_loopw [3, 4] (fun v i wr => ∃ (k : Nat) (xs : List Int), k ≤ 16 ∧ i = .int .i64 k ∧ Aside0 (xs = bitsL f (8 * k)) ∧ Aside0 (Own w wr v xs) ∧ Aside0 (wr.heap[w.heap.size]? = some (.cells (rowB 16 f) 25 (0, 0))) ∧ Aside0 (wr.heap[w.heap.size + 1]? = some (.cells (rowB 16 (fun _ => 0#8)) 25 (0, 0))) ∧ Aside0 (Below w.heap.size w wr)) (fun _ i _ => 16 - (intOf i).toNat)
  case atStart => exact ⟨0, [], by omega, rfl, ⟨rfl⟩, ⟨Kd.R_nil _ _ _ _ _⟩, ⟨heap_alloc2_old _ _ _⟩, ⟨heap_alloc2_new _ _ _⟩, ⟨((Below.refl _ _).alloc (Nat.le_refl _) _).alloc (by simp) _⟩⟩
  case round =>
    obtain ⟨i, xs, hi, rfl, HX, HO, HA, HR, HB⟩ := hrel
    by_cases hlt : i < 16
    · have hc : wr.cell? ⟨w.heap.size, i, none⟩ = some (.int .u8 (toI (f i))) := (blk_cell HA.out i).trans (rowB_get _ _ i hlt)
      have hd : decide ((i : Int) < 16) = true := decide_eq_true (by omega)
      have hb0 := toI_lo (f i)
      have hb1 := toI_hi (f i)
      go_wp2
      obtain ⟨wo, rfl⟩ : ∃ wo : World, wo = wr := ⟨_, rfl⟩
      go_loopw [3, 5, 6] (fun v n j wr => ∃ (k m : Nat) (ys : List Int), k ≤ 8 ∧ j = .int .i64 k ∧ n = .int .i64 m ∧ m < 256 ∧ Aside0 (m = (f i).toNat / 2 ^ k) ∧ Aside0 (ys = bitsL f (8 * i + k)) ∧ Aside0 (Own w wr v ys) ∧ Aside0 (wr.heap[w.heap.size]? = some (.cells (rowB 16 f) 25 (0, 0))) ∧ Aside0 (wr.heap[w.heap.size + 1]? = some (.cells (rowB 16 (fun _ => 0#8)) 25 (0, 0))) ∧ Aside0 (Below w.heap.size w wr)) (fun _ _ j _ => 8 - (intOf j).toNat)
      case atStart => exact ⟨0, (f i).toNat, xs, by omega, rfl, rfl, (f i).isLt, ⟨by simp⟩, ⟨HX.out⟩, HO, HA, HR, HB⟩
      case round =>
        obtain ⟨k, m, ys, hk, rfl, rfl, hm, HM, HY, HO, HA, HR, HB⟩ := hrel
        clear HX hc
        by_cases hlt2 : k < 8
        · have hd2 : decide ((k : Int) < 8) = true := decide_eq_true (by omega)
          have hlen : ys.length ≤ 1000 := by rw [HY.out, bitsL_length]; omega
          go_wp2_with (first | ((with_reducible refine gate_builtin (b := .append) (xs := #[.tmp 25, .tmp 28]) rfl ?_); at_builtin; refine app (w0 := w) rfl (.tmp 25) (.tmp 28) rfl _ ys ((m : Int) % 2) rfl rfl HO.out HB.out hlen ?_; intro v1 w1 ho1 hb1 hg1 hat1; have HO1 := Aside0.mk ho1; have HB1 := Aside0.mk hb1; have HA1 := Aside0.mk (blk_grown HA.out hg1 (own_ne HO.out HA.out (by decide))); have HR1 := Aside0.mk (blk_grown HR.out hg1 (own_ne HO.out HR.out (by decide))); clear ho1 hb1 hg1 hat1 HO HB HA HR))
          go_roundw
          case measure => simp [intOf]; omega
          case rel =>
            refine ⟨k + 1, m / 2, ys ++ [(m : Int) % 2], by omega, by go_num, by go_num, by omega, ⟨?_⟩, ⟨?_⟩, HO1, HA1, HR1, HB1⟩
            · rw [HM.out, Nat.pow_succ, Nat.div_div_eq_div_mul]
            · rw [HY.out, show 8 * i + (k + 1) = 8 * i + k + 1 from by omega, ← bitsL_next, bitI_at f i k hlt2, HM.out]; rfl
        · obtain rfl : k = 8 := by omega
          go_wp2
          go_roundw
          case measure => simp [intOf]; omega
          case rel =>
            exact ⟨i + 1, ys, by omega, by go_num, ⟨by rw [HY.out]; congr 1⟩, HO, HA, HR, HB⟩
    · have hd : decide ((i : Int) < 16) = false := decide_eq_false (by omega)
      have hX := HX.out
      rw [show 8 * i = 128 from by omega] at hX
      clear HX
      have HX := Aside0.mk hX
      clear hX
      have hlen : 128 ≤ xs.length := by rw [HX.out, bitsL_length]; omega
      obtain ⟨g, cap, cur, rfl, hg, hblk, hcur⟩ := own_block HO.out (by omega)
      have HG := Aside0.mk hblk
      have HC := Aside0.mk hcur
      have hglt : g < wr.heap.size := blk_lt hblk
      clear hblk hcur
      go_wp2_with fail
      obtain ⟨wo, rfl⟩ : ∃ wo : World, wo = wr := ⟨_, rfl⟩
      go_loopw [7, 8] (fun v i wr => ∃ (k : Nat) (ys : List Int), k ≤ 127 ∧ i = .int .i64 k ∧ Aside0 (ys = nextL f k) ∧ Aside0 (Own w wr v ys) ∧ Aside0 (wr.heap[g]? = some (.cells cur 3 (0, 0))) ∧ Aside0 (some g ≠ v.ownBlock) ∧ Aside0 (wr.heap[w.heap.size]? = some (.cells (rowB 16 f) 25 (0, 0))) ∧ Aside0 (wr.heap[w.heap.size + 1]? = some (.cells (rowB 16 (fun _ => 0#8)) 25 (0, 0))) ∧ Aside0 (Below w.heap.size w wr)) (fun _ j _ => 127 - (intOf j).toNat)
      case atStart => exact ⟨0, [0], by omega, rfl, ⟨rfl⟩, ⟨own_lit1 w wo 0 HB.out.size⟩, ⟨(heap_alloc_old _ _ hglt).trans HG.out⟩, ⟨by simp [Value.ownBlock]; omega⟩, ⟨(heap_alloc_old _ _ (blk_lt HA.out)).trans HA.out⟩, ⟨(heap_alloc_old _ _ (blk_lt HR.out)).trans HR.out⟩, ⟨HB.out.alloc HB.out.size _⟩⟩
      case round =>
        obtain ⟨k, ys, hk, rfl, HY, HO2, HG, HN, HA, HR, HB⟩ := hrel
        by_cases hlt2 : k < 127
        · have hd2 : decide ((k : Int) < 127) = true := decide_eq_true (by omega)
          have hlen2 : ys.length ≤ 1000 := by rw [HY.out, nextL_length]; omega
          have hc2 : wr.cell? ⟨g, k, none⟩ = some (.int .i64 (bitI f k)) := (blk_cell HG.out k).trans ((HC.out k (by omega)).trans (by rw [HX.out, bitsL_get f _ k (by omega)]))
          go_wp2_with (first | ((with_reducible refine gate_builtin (b := .append) (xs := #[.tmp 37, .tmp 42]) rfl ?_); at_builtin; refine app (w0 := w) rfl (.tmp 37) (.tmp 42) rfl _ ys (bitI f k) rfl rfl HO2.out HB.out hlen2 ?_; intro v1 w1 ho1 hb1 hg1 hat1; have HO1 := Aside0.mk ho1; have HB1 := Aside0.mk hb1; have HA1 := Aside0.mk (blk_grown HA.out hg1 (own_ne HO2.out HA.out (by decide))); have HR1 := Aside0.mk (blk_grown HR.out hg1 (own_ne HO2.out HR.out (by decide))); have HG1 := Aside0.mk (blk_grown HG.out hg1 HN.out); have HN1 : Aside0 (some g ≠ v1.ownBlock) := ⟨by rcases hat1 with h | ⟨b, h, hb⟩; { rw [h]; exact HN.out }; { rw [h]; have := blk_lt HG.out; intro e; injection e with e; omega }⟩; clear ho1 hb1 hg1 hat1 HO2 HB HA HR HG HN))
          go_roundw
          case measure => simp [intOf]; omega
          case rel => exact ⟨k + 1, ys ++ [bitI f k], by omega, by go_num, ⟨by rw [HY.out, nextL_next]⟩, HO1, HG1, HN1, HA1, HR1, HB1⟩
        · have hd2 : decide ((k : Int) < 127) = false := decide_eq_false (by omega)
          have hlen2 : 128 ≤ ys.length := by rw [HY.out, nextL_length]; omega
          obtain ⟨h, cap2, cur2, rfl, hh, hblk2, hcur2⟩ := own_block HO2.out (by omega)
          have HH := Aside0.mk hblk2
          have HH2 : Aside0 (∀ j, j < 128 → cur2[j]? = some (.int .i64 (if j = 0 then 0 else bitI f (j - 1)))) := ⟨fun j hj => (hcur2 j (by omega)).trans (by rw [HY.out, nextL_get f _ j (by omega)])⟩
          clear hblk2 hcur2
          have hc2 : wr.cell? ⟨g, 127, none⟩ = some (.int .i64 (bitI f 127)) := (blk_cell HG.out 127).trans ((HC.out 127 (by omega)).trans (by rw [HX.out, bitsL_get f _ 127 (by omega)]))
          have hn0 : wr.cell? ⟨h, 0, none⟩ = some (.int .i64 0) := (blk_cell HH.out 0).trans (HH2.out 0 (by omega))
          have hn1 : wr.cell? ⟨h, 1, none⟩ = some (.int .i64 (bitI f 0)) := (blk_cell HH.out 1).trans (HH2.out 1 (by omega))
          have hn2 : wr.cell? ⟨h, 2, none⟩ = some (.int .i64 (bitI f 1)) := (blk_cell HH.out 2).trans (HH2.out 2 (by omega))
          have hn7 : wr.cell? ⟨h, 7, none⟩ = some (.int .i64 (bitI f 6)) := (blk_cell HH.out 7).trans (HH2.out 7 (by omega))
          have hz : ∀ j, wr.frozen? ⟨h, j, none⟩ = false := fun j => blk_frozen HH.out j
          have b0 : 0 ≤ bitI f 0 ∧ bitI f 0 ≤ 1 := bitI_range f 0
          have b1 : 0 ≤ bitI f 1 ∧ bitI f 1 ≤ 1 := bitI_range f 1
          have b6 : 0 ≤ bitI f 6 ∧ bitI f 6 ≤ 1 := bitI_range f 6
          have HRNE : Aside0 (w.heap.size + 1 ≠ wr.heap.size) := ⟨by have := blk_lt HR.out; omega⟩
          have HWP : Aside0 (w.heap.size ≤ wr.heap.size) := ⟨HB.out.size⟩
          by_cases ht : (f 15).getLsbD 7 = true
          · have htop : (bitI f 127 == 1) = true := by rw [top_spell, ht]; rfl
            go_wp2
            obtain ⟨wp, rfl⟩ : ∃ wp : World, wp = wr := ⟨_, rfl⟩
            go_loopw [10] (fun j wr => ∃ k : Nat, k ≤ 16 ∧ j = .int .i64 k ∧ Aside0 (NextAt f h wr) ∧ Aside0 (h ≠ wp.heap.size) ∧ Aside0 (wr.heap[wp.heap.size]? = some (.cells (rowB 16 (part f k)) 25 (0, 0))) ∧ Aside0 (wr.heap[w.heap.size + 1]? = some (.cells (rowB 16 (fun _ => 0#8)) 25 (0, 0))) ∧ Aside0 (Below w.heap.size w wr)) (fun j _ => 16 - (intOf j).toNat)
            case atStart =>
              have hhlt := blk_lt HH.out
              have hne1 : w.heap.size + 1 ≠ h := fun e => blk_ne HR.out HH.out (by decide) e
              refine ⟨0, by omega, rfl, ⟨(NextAt.turned HH.out HH2.out ht).alloc _⟩, ⟨by omega⟩, ⟨?_⟩, ⟨?_⟩, ⟨?_⟩⟩
              · rw [part_zero]; exact alloc_at _ (by simp)
              · refine (heap_alloc_old _ _ (by simp; have := blk_lt HR.out; omega)).trans ?_
                exact blk_far (blk_far (blk_far (blk_far HR.out hne1 _) hne1 _) hne1 _) hne1 _
              · exact ((((HB.out.setCell hh _).setCell hh _).setCell hh _).setCell hh _).alloc (by simp; exact HWP.out) _
            case round =>
              obtain ⟨k5, hk5, rfl, HT, HNE, HP, HR, HB⟩ := hrel
              by_cases hlt5 : k5 < 16
              · have hd5 : decide ((k5 : Int) < 16) = true := decide_eq_true (by omega)
                go_wp2
                go_loop [11, 12] (fun n t => ∃ (m a : Nat) (u : Int), m ≤ 8 ∧ n = .int .i64 (a : Int) ∧ t = .int .i64 u ∧ a < 256 ∧ -1 ≤ u ∧ u ≤ 7 ∧ Aside0 (u = 7 - (m : Int)) ∧ Aside0 (a = (double f k5).toNat / 2 ^ (8 - m))) (fun _ t => ((intOf t) + 1).toNat)
                case atStart => exact ⟨0, 0, 7, by omega, rfl, rfl, by omega, by omega, by omega, ⟨by omega⟩, ⟨by have := (double f k5).isLt; omega⟩⟩
                case round =>
                  obtain ⟨m, a, u, hm, rfl, rfl, ha, hu0, hu1, HU, HAA⟩ := hrel
                  by_cases hlt6 : 0 ≤ u
                  · have hmlt : m < 8 := by have := HU.out; omega
                    have hd6 : decide (0 ≤ u) = true := decide_eq_true hlt6
                    have hidx : (8 * (k5 : Int) + u).toNat = 8 * k5 + (7 - m) := by have := HU.out; omega
                    have hcell : wr.cell? ⟨h, (8 * (k5 : Int) + u).toNat, none⟩ = some (.int .i64 (bN (double f k5) (7 - m))) := by
                      rw [hidx, HT.out.cell _ (by omega), nextI_bN f k5 (7 - m) (by omega)]
                    have hr1 : 0 ≤ 8 * (k5 : Int) + u := by omega
                    have hr2 : 8 * (k5 : Int) + u < (ys.length : Int) := by omega
                    have hbn := bN_range (double f k5) (7 - m)
                    have hstep := horner_int (double f k5) m hmlt
                    rw [← HAA.out] at hstep
                    have hlt7 : (double f k5).toNat / 2 ^ (8 - (m + 1)) < 256 := Nat.lt_of_le_of_lt (Nat.div_le_self _ _) (double f k5).isLt
                    generalize hq : (double f k5).toNat / 2 ^ (8 - (m + 1)) = q at *
                    have HQ := Aside0.mk hq
                    have HST := Aside0.mk hstep
                    clear hq hstep hidx
                    generalize bN (double f k5) (7 - m) = bit at *
                    go_wp2
                    go_round
                    case measure => simp [intOf]; omega
                    case rel => exact ⟨m + 1, q, u - 1, by omega, by rw [HST.out], rfl, hlt7, by omega, by omega, ⟨by have := HU.out; omega⟩, ⟨HQ.out.symm⟩⟩
                  · have hd6 : decide (0 ≤ u) = false := decide_eq_false hlt6
                    have hA8 : toI (double f k5) = (a : Int) := by
                      have h1 := HU.out
                      have h2 := HAA.out
                      rw [show 8 - m = 0 from by omega] at h2
                      unfold toI; rw [h2]; simp
                    have HA8 := Aside0.mk hA8
                    clear hA8
                    have hcp : wr.cell? ⟨wp.heap.size, k5, none⟩ = some (.int .u8 (toI (part f k5 k5))) := (blk_cell HP.out k5).trans (rowB_get _ _ k5 hlt5)
                    have hfp : wr.frozen? ⟨wp.heap.size, k5, none⟩ = false := blk_frozen HP.out k5
                    go_wp2
                    go_roundw
                    case measure => simp [intOf]; omega
                    case rel =>
                      refine ⟨k5 + 1, by omega, by go_num, ⟨HT.out.far HNE.out _⟩, HNE, ⟨?_⟩, ⟨?_⟩, ⟨?_⟩⟩
                      · rw [← HA8.out, blk_set HP.out k5, rowB_set, part_next]
                      · exact blk_far HR.out HRNE.out _
                      · exact HB.out.setCell HWP.out _
              · have hd5 : decide ((k5 : Int) < 16) = false := decide_eq_false (by omega)
                have HP2 : Aside0 (wr.heap[wp.heap.size]? = some (.cells (rowB 16 (double f)) 25 (0, 0))) := ⟨by rw [HP.out, show k5 = 16 from by omega, part_end]⟩
                go_wp2_with (first | (refine wpList_load_row rfl 25 _ rfl _ rfl 25 (rowB 16 (double f)) (0, 0) _ HP2.out Try.underlying25 rfl (by rw [rowB_size]; exact info25) ?_) | (refine wpList_store_row rfl 25 _ _ rfl _ (rowB 16 (double f)) rfl rfl 25 (rowB 16 fun _ => 0#8) HR.out (by rw [rowB_size]; exact info25) (by rw [rowB_size, rowB_size]) (rowB_one _ _) ?_))
                refine bodyPost_ret (results_cell_row rfl _ _ _ 25 (rowB 16 (double f)) (0, 0) _ rfl (setRow_heap _ _ _ _ _ _ HR.out) Try.underlying25 rfl (by rw [rowB_size]; exact info25)) rfl ⟨rfl, ?_⟩
                exact below_setRow HB.out (by omega) _
          · have htf : (f 15).getLsbD 7 = false := by simpa using ht
            have htop : (bitI f 127 == 1) = false := by rw [top_spell, htf]; rfl
            go_wp2
            obtain ⟨wp, rfl⟩ : ∃ wp : World, wp = wr := ⟨_, rfl⟩
            go_loopw [10] (fun j wr => ∃ k : Nat, k ≤ 16 ∧ j = .int .i64 k ∧ Aside0 (NextAt f h wr) ∧ Aside0 (h ≠ wp.heap.size) ∧ Aside0 (wr.heap[wp.heap.size]? = some (.cells (rowB 16 (part f k)) 25 (0, 0))) ∧ Aside0 (wr.heap[w.heap.size + 1]? = some (.cells (rowB 16 (fun _ => 0#8)) 25 (0, 0))) ∧ Aside0 (Below w.heap.size w wr)) (fun j _ => 16 - (intOf j).toNat)
            case atStart =>
              have hhlt := blk_lt HH.out
              refine ⟨0, by omega, rfl, ⟨(NextAt.plain HH.out HH2.out htf).alloc _⟩, ⟨by omega⟩, ⟨?_⟩, ⟨?_⟩, ⟨?_⟩⟩
              · rw [part_zero]; exact heap_alloc_new _ _
              · exact (heap_alloc_old _ _ (blk_lt HR.out)).trans HR.out
              · exact HB.out.alloc HWP.out _
            case round =>
              obtain ⟨k5, hk5, rfl, HT, HNE, HP, HR, HB⟩ := hrel
              by_cases hlt5 : k5 < 16
              · have hd5 : decide ((k5 : Int) < 16) = true := decide_eq_true (by omega)
                go_wp2
                go_loop [11, 12] (fun n t => ∃ (m a : Nat) (u : Int), m ≤ 8 ∧ n = .int .i64 (a : Int) ∧ t = .int .i64 u ∧ a < 256 ∧ -1 ≤ u ∧ u ≤ 7 ∧ Aside0 (u = 7 - (m : Int)) ∧ Aside0 (a = (double f k5).toNat / 2 ^ (8 - m))) (fun _ t => ((intOf t) + 1).toNat)
                case atStart => exact ⟨0, 0, 7, by omega, rfl, rfl, by omega, by omega, by omega, ⟨by omega⟩, ⟨by have := (double f k5).isLt; omega⟩⟩
                case round =>
                  obtain ⟨m, a, u, hm, rfl, rfl, ha, hu0, hu1, HU, HAA⟩ := hrel
                  by_cases hlt6 : 0 ≤ u
                  · have hmlt : m < 8 := by have := HU.out; omega
                    have hd6 : decide (0 ≤ u) = true := decide_eq_true hlt6
                    have hidx : (8 * (k5 : Int) + u).toNat = 8 * k5 + (7 - m) := by have := HU.out; omega
                    have hcell : wr.cell? ⟨h, (8 * (k5 : Int) + u).toNat, none⟩ = some (.int .i64 (bN (double f k5) (7 - m))) := by
                      rw [hidx, HT.out.cell _ (by omega), nextI_bN f k5 (7 - m) (by omega)]
                    have hr1 : 0 ≤ 8 * (k5 : Int) + u := by omega
                    have hr2 : 8 * (k5 : Int) + u < (ys.length : Int) := by omega
                    have hbn := bN_range (double f k5) (7 - m)
                    have hstep := horner_int (double f k5) m hmlt
                    rw [← HAA.out] at hstep
                    have hlt7 : (double f k5).toNat / 2 ^ (8 - (m + 1)) < 256 := Nat.lt_of_le_of_lt (Nat.div_le_self _ _) (double f k5).isLt
                    generalize hq : (double f k5).toNat / 2 ^ (8 - (m + 1)) = q at *
                    have HQ := Aside0.mk hq
                    have HST := Aside0.mk hstep
                    clear hq hstep hidx
                    generalize bN (double f k5) (7 - m) = bit at *
                    go_wp2
                    go_round
                    case measure => simp [intOf]; omega
                    case rel => exact ⟨m + 1, q, u - 1, by omega, by rw [HST.out], rfl, hlt7, by omega, by omega, ⟨by have := HU.out; omega⟩, ⟨HQ.out.symm⟩⟩
                  · have hd6 : decide (0 ≤ u) = false := decide_eq_false hlt6
                    have hA8 : toI (double f k5) = (a : Int) := by
                      have h1 := HU.out
                      have h2 := HAA.out
                      rw [show 8 - m = 0 from by omega] at h2
                      unfold toI; rw [h2]; simp
                    have HA8 := Aside0.mk hA8
                    clear hA8
                    have hcp : wr.cell? ⟨wp.heap.size, k5, none⟩ = some (.int .u8 (toI (part f k5 k5))) := (blk_cell HP.out k5).trans (rowB_get _ _ k5 hlt5)
                    have hfp : wr.frozen? ⟨wp.heap.size, k5, none⟩ = false := blk_frozen HP.out k5
                    go_wp2
                    go_roundw
                    case measure => simp [intOf]; omega
                    case rel =>
                      refine ⟨k5 + 1, by omega, by go_num, ⟨HT.out.far HNE.out _⟩, HNE, ⟨?_⟩, ⟨?_⟩, ⟨?_⟩⟩
                      · rw [← HA8.out, blk_set HP.out k5, rowB_set, part_next]
                      · exact blk_far HR.out HRNE.out _
                      · exact HB.out.setCell HWP.out _
              · have hd5 : decide ((k5 : Int) < 16) = false := decide_eq_false (by omega)
                have HP2 : Aside0 (wr.heap[wp.heap.size]? = some (.cells (rowB 16 (double f)) 25 (0, 0))) := ⟨by rw [HP.out, show k5 = 16 from by omega, part_end]⟩
                go_wp2_with (first | (refine wpList_load_row rfl 25 _ rfl _ rfl 25 (rowB 16 (double f)) (0, 0) _ HP2.out Try.underlying25 rfl (by rw [rowB_size]; exact info25) ?_) | (refine wpList_store_row rfl 25 _ _ rfl _ (rowB 16 (double f)) rfl rfl 25 (rowB 16 fun _ => 0#8) HR.out (by rw [rowB_size]; exact info25) (by rw [rowB_size, rowB_size]) (rowB_one _ _) ?_))
                refine bodyPost_ret (results_cell_row rfl _ _ _ 25 (rowB 16 (double f)) (0, 0) _ rfl (setRow_heap _ _ _ _ _ _ HR.out) Try.underlying25 rfl (by rw [rowB_size]; exact info25)) rfl ⟨rfl, ?_⟩
                exact below_setRow HB.out (by omega) _
end Go.Proofs.Ytphoelhelmnibaa.Rd
