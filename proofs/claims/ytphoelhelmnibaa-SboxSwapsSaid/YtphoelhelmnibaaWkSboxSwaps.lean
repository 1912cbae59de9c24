/-
For every list of 256 bytes: it is turned the other way just if it has each byte once, and turned twice it is the same: chatelainelaw03.SboxSwaps returns true: the walk.
-/
import Derived.Test.YtphoelhelmnibaaSp
import Derived.Test.YtphoelhelmnibaaSb
namespace Go.Proofs.Ytphoelhelmnibaa.WkSboxSwaps
open Go.RowKit Go.Proofs.Ytphoelhelmnibaa.Gf Go.Proofs.Ytphoelhelmnibaa.Ar Go.Proofs.Ytphoelhelmnibaa.Sw Go.Proofs.Ytphoelhelmnibaa.Sp Go.Proofs.Ytphoelhelmnibaa.Db Go.Proofs.Ytphoelhelmnibaa.Rd Go.Proofs.YtphoelhelmnibaaW.PrintWords Go.Proofs.YtphoelhelmnibaaW.PrintLast Go.Proofs.YtphoelhelmnibaaW.PrintMore
/-- a row of counts -/
def rowN (n : Nat) (f : Nat → Nat) : Array Value := rowV n fun j => .int .i64 (f j : Int)
theorem rowN_size (n : Nat) (f : Nat → Nat) : (rowN n f).size = n := rowV_size n _
theorem rowN_get (n : Nat) (f : Nat → Nat) (j : Nat) (h : j < n) : (rowN n f)[j]? = some (.int .i64 (f j : Int)) := rowV_get n _ j h
theorem rowN_set (n : Nat) (f : Nat → Nat) (i v : Nat) : (rowN n f).setIfInBounds i (.int .i64 (v : Int)) = rowN n (fun j => if j = i then v else f j) := by
  unfold rowN; rw [rowV_set]; apply rowV_congr; intro j hj
  by_cases e : j = i
  · simp only [e, if_true]
  · simp only [e, if_false]
theorem info37 : (Try.prog.info? 37).map (·.size) = some 256 := by kernel_rfl
theorem index37 (w : World) (f : Nat → Nat) (k : IntKind) (i : Int) (h0 : 0 ≤ i) (h1 : i < 256) : (Instr.index 37 (.agg (rowN 256 f)) (.int k i)).run Try.prog w = .ok (.int .i64 (f i.toNat : Int)) w :=
  run_index_rowV w 37 3 256 k Try.underlying37 (agg3 w) size3 _ i h0 h1
theorem same36 (w : World) (f : Nat → F) : (Op.equalIn 10000 36 (.agg (rowB 256 f)) (.agg (rowB 256 f))).run Try.prog w = .ok true w := by rw [equalIn36, sameB_refl]
attribute [local go_sem] same36
section
variable {ops : Array Oper} {rest : List Oper} {o : Oper} {a : Act} {w : World} {Q : Exit → Act → World → Prop}
theorem alloc37 (hgd : o.guard = none) (ho : o.op = .alloc 37) (h : wpList Try.prog ops Q rest (a.put o.dst (.pointer (some ⟨w.heap.size, 0, none⟩))) (w.alloc (.cells (rowN 256 fun _ => 0) 37))) : wpList Try.prog ops Q (o :: rest) a w :=
  Kd.event_run hgd (by unfold execOp; rw [ho]; kernel_rfl) h
theorem load37 (hgd : o.guard = none) (x : Operand) (ho : o.op = .load 37 x) (g : Nat) (hx : a.eval x = .pointer (some ⟨g, 0, none⟩)) (f : Nat → Nat) (hg : w.heap[g]? = some (.cells (rowN 256 f) 37 (0, 0)))
    (h : wpList Try.prog ops Q rest (a.put o.dst (.agg (rowN 256 f))) w) : wpList Try.prog ops Q (o :: rest) a w :=
  wpList_load_row hgd 37 x ho g hx 37 (rowN 256 f) (0, 0) _ hg Try.underlying37 rfl (by rw [rowN_size]; exact info37) h
end
theorem cnt_bound (f : Nat → F) (k c : Nat) : cntK f k c ≤ k := by
  induction k with
  | zero => exact Nat.le_refl _
  | succ k ih => simp only [cntK]; split <;> omega
theorem cnt_next (f : Nat → F) (k : Nat) : (fun j => if j = (f k).toNat then cntK f k (f k).toNat + 1 else cntK f k j) = cntK f (k + 1) := by
  funext j; simp only [cntK]
  by_cases h : j = (f k).toNat
  · rw [if_pos h, if_pos h, h]
  · rw [if_neg h, if_neg h]
/-- the list and the counts -/
def Cnt (w W : World) (f : Nat → F) (gc : Nat) (c : Nat → Nat) : Prop := W.heap[w.heap.size]? = some (.cells (rowB 256 f) 36 (0, 0)) ∧ W.heap[gc]? = some (.cells (rowN 256 c) 37 (0, 0)) ∧ w.heap.size < gc ∧ Below w.heap.size w W
theorem Cnt.below {w W W' : World} {f : Nat → F} {gc : Nat} {c : Nat → Nat} (h : Cnt w W f gc c) (hb : Below W.heap.size W W') : Cnt w W' f gc c :=
  ⟨block_below hb h.1, block_below hb h.2.1, h.2.2.1, below_then h.2.2.2 h.2.2.2.size hb⟩
theorem Cnt.set {w W : World} {f : Nat → F} {gc : Nat} {c : Nat → Nat} (h : Cnt w W f gc c) (i v : Nat) : Cnt w (W.setCell ⟨gc, i, none⟩ (.int .i64 (v : Int))) f gc (fun j => if j = i then v else c j) :=
  ⟨blk_far h.1 (by have := h.2.2.1; simp; omega) _, by rw [blk_set h.2.1 i, rowN_set], h.2.2.1, h.2.2.2.setCell (by have := h.2.2.1; simp; omega) _⟩
set_option maxRecDepth 100000 in
set_option maxHeartbeats 2000000 in
theorem walk_yes (f : Nat → F) (hf : Distinct f 256) (w : World) : Calls Try.prog 8 #[.agg (rowB 256 f)] w fun e w' => e = .returned (.bool true) ∧ Below w.heap.size w w' := by
  have hone := Aside0.mk (rowB_one 256 f)
  have HF := Aside0.mk hf
  clear hf
  go_enter Try.func8, Try.ntmps8
  go_wp2_with fail
  refine (Sb.awake_calls _).mono ?_
  rintro e w' ⟨rfl, ⟨nd, rfl⟩⟩
  have H0 : Aside0 (((w.alloc (.cells (rowB 256 f) 36)).drewN nd).heap[w.heap.size]? = some (.cells (rowB 256 f) 36 (0, 0))) := ⟨heap_alloc_new _ _⟩
  have H1 : Aside0 (Below w.heap.size w ((w.alloc (.cells (rowB 256 f) 36)).drewN nd)) := ⟨pw_below_drewN ((Below.refl _ _).alloc (Nat.le_refl _) _) _⟩
  generalize (w.alloc (.cells (rowB 256 f) 36)).drewN nd = W0 at *
  go_wp2_with (first | (refine alloc37 rfl rfl ?_) | (refine load36 rfl _ rfl _ rfl f (block_below ((Below.refl _ _).alloc (Nat.le_refl _) _) H0.out) ?_))
  have HC : Aside0 (Cnt w (W0.alloc (.cells (rowN 256 fun _ => 0) 37)) f W0.heap.size (fun _ => 0)) := ⟨block_below ((Below.refl _ _).alloc (Nat.le_refl _) _) H0.out, heap_alloc_new _ _, blk_lt H0.out, H1.out.alloc H1.out.size _⟩
  generalize W0.alloc (.cells (rowN 256 fun _ => 0) 37) = W1 at *
  generalize W0.heap.size = gc at *
  clear H0 H1
  go_loopw [18] (fun i wr => ∃ k : Nat, k ≤ 256 ∧ i = .int .i64 k ∧ Aside0 (Cnt w wr f gc (cntK f k))) (fun i _ => 256 - (intOf i).toNat)
  case atStart => exact ⟨0, by omega, rfl, HC⟩
  case round =>
    clear HC
    obtain ⟨k, hk, rfl, HC⟩ := hrel
    by_cases hlt : k < 256
    · have hd : decide ((k : Int) < 256) = true := decide_eq_true (by omega)
      have hi : ∀ W, (Instr.index 36 (.agg (rowB 256 f)) (.int .i64 (k : Int))).run Try.prog W = .ok (.int .u8 (toI (f k))) W := fun W => index36 W f .i64 (k : Int) (by omega) (by omega)
      have b0 := toI_lo (f k)
      have b1 := toI_hi (f k)
      have cc : wr.cell? ⟨gc, (toI (f k)).toNat, none⟩ = some (.int .i64 (cntK f k (f k).toNat : Int)) := (blk_cell HC.out.2.1 _).trans (rowN_get _ _ _ (f k).isLt)
      have zc : wr.frozen? ⟨gc, (toI (f k)).toNat, none⟩ = false := blk_frozen HC.out.2.1 _
      have hcb := cnt_bound f k (f k).toNat
      go_wp2
      go_roundw
      case measure => simp [intOf]; omega
      case rel =>
        refine ⟨k + 1, by omega, by go_num, ⟨?_⟩⟩
        have := HC.out.set (f k).toNat (cntK f k (f k).toNat + 1)
        rw [cnt_next] at this
        exact this
    · have hd : decide ((k : Int) < 256) = false := decide_eq_false (by omega)
      have hk2 : k = 256 := by omega
      replace HC := Aside0.mk (by have := HC.out; rw [hk2] at this; exact this : Cnt w wr f gc (cntK f 256))
      clear hk2
      go_wp2_with (first | (refine load37 rfl _ rfl _ rfl (cntK f 256) HC.out.2.1 ?_))
      go_loop [6, 28] (fun b i => ∃ m : Nat, m ≤ 256 ∧ b = .bool true ∧ i = .int .i64 m) (fun _ i => 256 - (intOf i).toNat)
      case atStart => exact ⟨0, by omega, rfl, rfl⟩
      case round =>
        obtain ⟨m, hm, rfl, rfl⟩ := hrel
        by_cases hlt2 : m < 256
        · have hd2 : decide ((m : Int) < 256) = true := decide_eq_true (by omega)
          have hi2 : ∀ W, (Instr.index 37 (.agg (rowN 256 (cntK f 256))) (.int .i64 (m : Int))).run Try.prog W = .ok (.int .i64 1) W := fun W => by
            rw [index37 W (cntK f 256) .i64 (m : Int) (by omega) (by omega), Int.toNat_natCast, once_of_distinct f HF.out m hlt2]; rfl
          go_wp2
          go_round
          case measure => simp [intOf]; omega
          case rel => exact ⟨m + 1, by omega, rfl, by go_num⟩
        · have hd2 : decide ((m : Int) < 256) = false := decide_eq_false (by omega)
          go_wp2_with (first | (refine load36 rfl _ rfl _ rfl f HC.out.1 ?_))
          refine (swap_yes f HF.out _).mono ?_
          rintro e w1 ⟨rfl, hb⟩
          have HA1 := Aside0.mk (block_below hb HC.out.1)
          have HB1 := Aside0.mk (below_then HC.out.2.2.2 HC.out.2.2.2.size hb)
          clear hb
          go_wp2_with (first | (refine alloc36 rfl rfl ?_) | (refine store36 rfl _ _ rfl _ (turnK f) zeroF rfl rfl (heap_alloc_new _ _) ?_) | (refine load36 rfl _ rfl _ rfl f ?hL ?_; case hL => exact (setRow_other _ _ _ _ (by have := blk_lt HA1.out; omega)).trans (block_below ((Below.refl _ _).alloc (Nat.le_refl _) _) HA1.out)))
          have HA2 : Aside0 (((w1.alloc (.cells (rowB 256 zeroF) 36)).setRow w1.heap.size (rowB 256 (turnK f))).heap[w.heap.size]? = some (.cells (rowB 256 f) 36 (0, 0))) := ⟨(setRow_other _ _ _ _ (by have := blk_lt HA1.out; omega)).trans (block_below ((Below.refl _ _).alloc (Nat.le_refl _) _) HA1.out)⟩
          have HX : Aside0 (((w1.alloc (.cells (rowB 256 zeroF) 36)).setRow w1.heap.size (rowB 256 (turnK f))).heap[w1.heap.size]? = some (.cells (rowB 256 (turnK f)) 36 (0, 0))) := ⟨setRow_heap _ _ _ _ _ _ (heap_alloc_new _ _)⟩
          have HB2 : Aside0 (Below w.heap.size w ((w1.alloc (.cells (rowB 256 zeroF) 36)).setRow w1.heap.size (rowB 256 (turnK f)))) := ⟨below_setRow (HB1.out.alloc HB1.out.size _) HB1.out.size _⟩
          generalize (w1.alloc (.cells (rowB 256 zeroF) 36)).setRow w1.heap.size (rowB 256 (turnK f)) = W2 at *
          generalize w1.heap.size = gx at *
          clear HA1 HB1
          go_loop [51] (fun i => ∃ n : Nat, n ≤ 256 ∧ i = .int .i64 n) (fun i => 256 - (intOf i).toNat)
          case atStart => exact ⟨0, by omega, rfl⟩
          case round =>
            obtain ⟨n, hn, rfl⟩ := hrel
            by_cases hlt3 : n < 256
            · have hd3 : decide ((n : Int) < 256) = true := decide_eq_true (by omega)
              have hi3 : ∀ W, (Instr.index 36 (.agg (rowB 256 f)) (.int .i64 (n : Int))).run Try.prog W = .ok (.int .u8 (toI (f n))) W := fun W => index36 W f .i64 (n : Int) (by omega) (by omega)
              have b0 := toI_lo (f n)
              have b1 := toI_hi (f n)
              have cx : W2.cell? ⟨gx, (toI (f n)).toNat, none⟩ = some (.int .u8 (n : Int)) := by
                rw [blk_cell HX.out, toNat_toI, rowB_get _ _ _ (f n).isLt]
                unfold toI; rw [turnK_at f HF.out n hlt3]
              go_wp2
              go_round
              case measure => simp [intOf]; omega
              case rel => exact ⟨n + 1, by omega, by go_num⟩
            · have hd3 : decide ((n : Int) < 256) = false := decide_eq_false (by omega)
              go_wp2_with (first | (refine load36 rfl _ rfl _ rfl (turnK f) HX.out ?_))
              refine (swap_yes (turnK f) (turnK_distinct f HF.out) _).mono ?_
              rintro e w2 ⟨rfl, hb⟩
              rw [show rowB 256 (turnK (turnK f)) = rowB 256 f from rowB_congr 256 _ _ (turn_twice f HF.out)]
              have HA3 := Aside0.mk (block_below hb HA2.out)
              have HB3 := Aside0.mk (below_then HB2.out HB2.out.size hb)
              clear hb
              have HA4 : Aside0 (((w2.alloc (.cells (rowB 256 zeroF) 36)).setRow w2.heap.size (rowB 256 f)).heap[w.heap.size]? = some (.cells (rowB 256 f) 36 (0, 0))) := ⟨(setRow_other _ _ _ _ (by have := blk_lt HA3.out; omega)).trans (block_below ((Below.refl _ _).alloc (Nat.le_refl _) _) HA3.out)⟩
              have HX4 : Aside0 (((w2.alloc (.cells (rowB 256 zeroF) 36)).setRow w2.heap.size (rowB 256 f)).heap[w2.heap.size]? = some (.cells (rowB 256 f) 36 (0, 0))) := ⟨setRow_heap _ _ _ _ _ _ (heap_alloc_new _ _)⟩
              go_wp2_with (first | (refine alloc36 rfl rfl ?_) | (refine store36 rfl _ _ rfl _ f zeroF rfl rfl (heap_alloc_new _ _) ?_))
              refine wp_load_row 36 (.tmp 13) rfl w2.heap.size rfl 36 (rowB 256 f) (0, 0) _ HX4.out Try.underlying36 rfl (by rw [rowB_size]; exact info36) ?_
              go_wp2_with fail
              refine wp_load_row 36 (.tmp 1) rfl w.heap.size rfl 36 (rowB 256 f) (0, 0) _ HA4.out Try.underlying36 rfl (by rw [rowB_size]; exact info36) ?_
              go_wp2_with fail
              go_ret
              exact ⟨rfl, below_setRow (HB3.out.alloc HB3.out.size _) HB3.out.size _⟩
theorem first_odd (f : Nat → F) (n : Nat) (h : ¬ ∀ c, c < n → cntK f 256 c = 1) : ∃ c, c < n ∧ (∀ d, d < c → cntK f 256 d = 1) ∧ cntK f 256 c ≠ 1 := by
  induction n with
  | zero => exact absurd (fun c hc => absurd hc (Nat.not_lt_zero c)) h
  | succ n ih =>
    by_cases h1 : ∀ c, c < n → cntK f 256 c = 1
    · refine ⟨n, by omega, h1, fun e => h (fun c hc => ?_)⟩
      rcases Nat.lt_or_eq_of_le (Nat.le_of_lt_succ hc) with h2 | h2
      · exact h1 c h2
      · subst h2; exact e
    · obtain ⟨c, hc, h2, h3⟩ := ih h1
      exact ⟨c, by omega, h2, h3⟩
set_option maxRecDepth 100000 in
set_option maxHeartbeats 2000000 in
theorem walk_no (f : Nat → F) (hf : ¬ Distinct f 256) (c0 : Nat) (hc0 : c0 < 256) (hl : ∀ d, d < c0 → cntK f 256 d = 1) (hn : cntK f 256 c0 ≠ 1) (w : World) : Calls Try.prog 8 #[.agg (rowB 256 f)] w fun e w' => e = .returned (.bool true) ∧ Below w.heap.size w w' := by
  have hone := Aside0.mk (rowB_one 256 f)
  have HF := Aside0.mk hf
  have HL := Aside0.mk hl
  have HN := Aside0.mk hn
  clear hf hl hn
  go_enter Try.func8, Try.ntmps8
  go_wp2_with fail
  refine (Sb.awake_calls _).mono ?_
  rintro e w' ⟨rfl, ⟨nd, rfl⟩⟩
  have H0 : Aside0 (((w.alloc (.cells (rowB 256 f) 36)).drewN nd).heap[w.heap.size]? = some (.cells (rowB 256 f) 36 (0, 0))) := ⟨heap_alloc_new _ _⟩
  have H1 : Aside0 (Below w.heap.size w ((w.alloc (.cells (rowB 256 f) 36)).drewN nd)) := ⟨pw_below_drewN ((Below.refl _ _).alloc (Nat.le_refl _) _) _⟩
  generalize (w.alloc (.cells (rowB 256 f) 36)).drewN nd = W0 at *
  go_wp2_with (first | (refine alloc37 rfl rfl ?_) | (refine load36 rfl _ rfl _ rfl f (block_below ((Below.refl _ _).alloc (Nat.le_refl _) _) H0.out) ?_))
  have HC : Aside0 (Cnt w (W0.alloc (.cells (rowN 256 fun _ => 0) 37)) f W0.heap.size (fun _ => 0)) := ⟨block_below ((Below.refl _ _).alloc (Nat.le_refl _) _) H0.out, heap_alloc_new _ _, blk_lt H0.out, H1.out.alloc H1.out.size _⟩
  generalize W0.alloc (.cells (rowN 256 fun _ => 0) 37) = W1 at *
  generalize W0.heap.size = gc at *
  clear H0 H1
  go_loopw [18] (fun i wr => ∃ k : Nat, k ≤ 256 ∧ i = .int .i64 k ∧ Aside0 (Cnt w wr f gc (cntK f k))) (fun i _ => 256 - (intOf i).toNat)
  case atStart => exact ⟨0, by omega, rfl, HC⟩
  case round =>
    clear HC
    obtain ⟨k, hk, rfl, HC⟩ := hrel
    by_cases hlt : k < 256
    · have hd : decide ((k : Int) < 256) = true := decide_eq_true (by omega)
      have hi : ∀ W, (Instr.index 36 (.agg (rowB 256 f)) (.int .i64 (k : Int))).run Try.prog W = .ok (.int .u8 (toI (f k))) W := fun W => index36 W f .i64 (k : Int) (by omega) (by omega)
      have b0 := toI_lo (f k)
      have b1 := toI_hi (f k)
      have cc : wr.cell? ⟨gc, (toI (f k)).toNat, none⟩ = some (.int .i64 (cntK f k (f k).toNat : Int)) := (blk_cell HC.out.2.1 _).trans (rowN_get _ _ _ (f k).isLt)
      have zc : wr.frozen? ⟨gc, (toI (f k)).toNat, none⟩ = false := blk_frozen HC.out.2.1 _
      have hcb := cnt_bound f k (f k).toNat
      go_wp2
      go_roundw
      case measure => simp [intOf]; omega
      case rel =>
        refine ⟨k + 1, by omega, by go_num, ⟨?_⟩⟩
        have := HC.out.set (f k).toNat (cntK f k (f k).toNat + 1)
        rw [cnt_next] at this
        exact this
    · have hd : decide ((k : Int) < 256) = false := decide_eq_false (by omega)
      have hk2 : k = 256 := by omega
      replace HC := Aside0.mk (by have := HC.out; rw [hk2] at this; exact this : Cnt w wr f gc (cntK f 256))
      clear hk2
      go_wp2_with (first | (refine load37 rfl _ rfl _ rfl (cntK f 256) HC.out.2.1 ?_))
      go_loop [6, 28] (fun b i => ∃ (m : Nat) (q : Bool), m ≤ 256 ∧ b = .bool q ∧ i = .int .i64 m ∧ Aside0 (q = decide (m ≤ c0))) (fun _ i => 256 - (intOf i).toNat)
      case atStart => exact ⟨0, true, by omega, rfl, rfl, ⟨by simp⟩⟩
      case round =>
        obtain ⟨m, q, hm, rfl, rfl, HQ⟩ := hrel
        by_cases hlt2 : m < 256
        · have hd2 : decide ((m : Int) < 256) = true := decide_eq_true (by omega)
          rcases Nat.lt_trichotomy m c0 with hc | hc | hc
          · obtain rfl : q = true := by rw [HQ.out]; simp; omega
            have hi2 : ∀ W, (Instr.index 37 (.agg (rowN 256 (cntK f 256))) (.int .i64 (m : Int))).run Try.prog W = .ok (.int .i64 1) W := fun W => by
              rw [index37 W (cntK f 256) .i64 (m : Int) (by omega) (by omega), Int.toNat_natCast, HL.out m hc]; rfl
            go_wp2
            go_round
            case measure => simp [intOf]; omega
            case rel => exact ⟨m + 1, true, by omega, rfl, by go_num, ⟨by simp; omega⟩⟩
          · obtain rfl : q = true := by rw [HQ.out]; simp; omega
            have hne : ((cntK f 256 m : Int) == 1) = false := by rw [beq_eq_false_iff_ne]; have := HN.out; rw [← hc] at this; omega
            have HE := Aside0.mk hc
            clear hc
            have hi2 : ∀ W, (Instr.index 37 (.agg (rowN 256 (cntK f 256))) (.int .i64 (m : Int))).run Try.prog W = .ok (.int .i64 (cntK f 256 m : Int)) W := fun W => by
              rw [index37 W (cntK f 256) .i64 (m : Int) (by omega) (by omega), Int.toNat_natCast]
            go_wp2
            go_round
            case measure => simp [intOf]; omega
            case rel => exact ⟨m + 1, false, by omega, rfl, by go_num, ⟨by have := HE.out; simp; omega⟩⟩
          · obtain rfl : q = false := by rw [HQ.out]; simp; omega
            have hi2 : ∀ W, (Instr.index 37 (.agg (rowN 256 (cntK f 256))) (.int .i64 (m : Int))).run Try.prog W = .ok (.int .i64 (cntK f 256 m : Int)) W := fun W => by
              rw [index37 W (cntK f 256) .i64 (m : Int) (by omega) (by omega), Int.toNat_natCast]
            go_wp2
            go_round
            case measure => simp [intOf]; omega
            case rel => exact ⟨m + 1, false, by omega, rfl, by go_num, ⟨by simp; omega⟩⟩
        · have hd2 : decide ((m : Int) < 256) = false := decide_eq_false (by omega)
          obtain rfl : q = false := by rw [HQ.out]; simp; omega
          go_wp2_with (first | (refine load36 rfl _ rfl _ rfl f HC.out.1 ?_))
          refine (swap_else f HF.out _).mono ?_
          rintro e w1 ⟨rfl, hb⟩
          have HB1 := Aside0.mk (below_then HC.out.2.2.2 HC.out.2.2.2.size hb)
          clear hb
          go_wp2_with (first | (refine alloc36 rfl rfl ?_) | (refine build36 rfl rfl ?_) | (refine store36 rfl _ _ rfl _ zeroF zeroF rfl rfl (heap_alloc_new _ _) ?_) | (refine load36 rfl _ rfl _ rfl zeroF (setRow_heap _ _ _ _ _ _ (heap_alloc_new _ _)) ?_))
          go_ret
          exact ⟨rfl, below_setRow (HB1.out.alloc HB1.out.size _) HB1.out.size _⟩
theorem walk_row (f : Nat → F) (w : World) : Calls Try.prog 8 #[.agg (rowB 256 f)] w fun e w' => e = .returned (.bool true) ∧ Below w.heap.size w w' := by
  by_cases h : Distinct f 256
  · exact walk_yes f h w
  · obtain ⟨c, hc, h1, h2⟩ := first_odd f 256 (fun h1 => h (distinct_of_once f h1))
    exact walk_no f h c hc h1 h2 w
end Go.Proofs.Ytphoelhelmnibaa.WkSboxSwaps
