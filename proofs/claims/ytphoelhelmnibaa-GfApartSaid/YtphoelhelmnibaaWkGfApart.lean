/-
For all blocks: doubling goes with sums, and no two blocks have one double: chatelainelaw02.GfApart returns true: the walk.
-/
import Derived.Test.YtphoelhelmnibaaWkGfDoubles
import Derived.Deep.DeepCutAuto
import Derived.RegionTactic
namespace Go.Proofs.Ytphoelhelmnibaa.WkGfApart
open Go.RowKit Go.Proofs.Ytphoelhelmnibaa.Gf Go.Proofs.Ytphoelhelmnibaa.Ar Go.Proofs.Ytphoelhelmnibaa.Db Go.Proofs.Ytphoelhelmnibaa.Rd Go.Proofs.Ytphoelhelmnibaa.WkGfDoubles Go.Proofs.YtphoelhelmnibaaW.PrintWords Go.Proofs.YtphoelhelmnibaaW.PrintLast Go.Proofs.YtphoelhelmnibaaW.PrintMore
attribute [local go_sem] same25
section
variable {ops : Array Oper} {Q : Exit → Act → World → Prop} {K : Act → World → Prop} {oi : Oper} {N : Option Tmp} {a : Act} {w : World}
theorem alloc25_ (hw : Region.wanted oi (yielded ops a.tmps) = true) (hN : oi.dst = N) (hop : oi.op = .alloc 25)
    (h : ∀ (g : Nat) (w' : World), w'.heap[g]? = some (.cells (rowB 16 fun _ => 0#8) 25 (0, 0)) → w.heap.size ≤ g → Below w.heap.size w w' → K (a.put N (.pointer (some ⟨g, 0, none⟩))) w') :
    if Region.wanted oi (yielded ops a.tmps) = true then Oper.wp Try.prog oi a w K Q else K (a.put N undef) w := by
  rw [if_pos hw]
  have hk := h w.heap.size (w.alloc (.cells (rowB 16 fun _ => 0#8) 25)) (heap_alloc_new _ _) (Nat.le_refl _) ((Below.refl _ _).alloc (Nat.le_refl _) _)
  subst hN
  have hr : (execOp a.eval oi).run Try.prog w = .ok (.value (.pointer (some ⟨w.heap.size, 0, none⟩))) (w.alloc (.cells (rowB 16 fun _ => 0#8) 25)) := by
    unfold execOp; rw [hop]; kernel_rfl
  unfold Oper.wp
  rw [hr]
  exact hk
theorem store25_ (hw : Region.wanted oi (yielded ops a.tmps) = true) (hN : oi.dst = none) (x y : Operand) (hop : oi.op = .store 25 x y) (g : Nat) (f r : Nat → F)
    (hx : a.eval x = .pointer (some ⟨g, 0, none⟩)) (hy : a.eval y = .agg (rowB 16 f)) (hg : w.heap[g]? = some (.cells (rowB 16 r) 25 (0, 0)))
    (h : K a (w.setRow g (rowB 16 f))) :
    if Region.wanted oi (yielded ops a.tmps) = true then Oper.wp Try.prog oi a w K Q else K (a.put none undef) w := by
  rw [if_pos hw]
  refine wp_store_row 25 x y hop g (rowB 16 f) hx hy 25 (rowB 16 r) hg (by rw [rowB_size]; exact info25) (by rw [rowB_size, rowB_size]) (rowB_one _ _) ?_
  rw [hN]; exact h
theorem one_store25 {S : World → Prop} {ds : List Nat} {md : Region.Mode} {i fuel : Nat} {l : Array Bool} (l' : Array Bool) (hi : ops[i]? = some oi) (hN : oi.dst = none) (hc : readyB md ops l l' i = true) (hd : i ∉ ds)
    (hw : Region.wanted oi (yielded ops a.tmps) = true) (x y : Operand) (hop : oi.op = .store 25 x y) (g : Nat) (f r : Nat → F)
    (hx : a.eval x = .pointer (some ⟨g, 0, none⟩)) (hy : a.eval y = .agg (rowB 16 f)) (hg : w.heap[g]? = some (.cells (rowB 16 r) 25 (0, 0)))
    (hS : S (w.setRow g (rowB 16 f))) (h : S (w.setRow g (rowB 16 f)) → wpAnyLast Try.prog md ops Q S ds fuel l' a (w.setRow g (rowB 16 f))) : wpAnyLast Try.prog md ops Q S ds (fuel + 1) l a w :=
  one_ (N := none) l' hi hN hc hd (fun _K hK => store25_ hw hN x y hop g f r hx hy hg (hK.out _ _ hS h))
end
/-- The six blocks of the law. -/
def Four (w W : World) (f g s t : Nat → F) : Prop := W.heap[w.heap.size]? = some (.cells (rowB 16 f) 25 (0, 0)) ∧ W.heap[w.heap.size + 1]? = some (.cells (rowB 16 g) 25 (0, 0)) ∧ W.heap[w.heap.size + 1 + 1]? = some (.cells (rowB 16 s) 25 (0, 0)) ∧ W.heap[w.heap.size + 1 + 1 + 1]? = some (.cells (rowB 16 t) 25 (0, 0)) ∧ Below w.heap.size w W
theorem Four.below {w W W' : World} {f g s t : Nat → F} (h : Four w W f g s t) (hb : Below W.heap.size W W') : Four w W' f g s t :=
  ⟨block_below hb h.1, block_below hb h.2.1, block_below hb h.2.2.1, block_below hb h.2.2.2.1, below_then h.2.2.2.2 h.2.2.2.2.size hb⟩
theorem Four.lt {w W : World} {f g s t : Nat → F} (h : Four w W f g s t) : w.heap.size + 1 + 1 + 1 < W.heap.size := blk_lt h.2.2.2.1
theorem Four.row {w W : World} {f g s t : Nat → F} (h : Four w W f g s t) {k : Nat} (hk : w.heap.size + 1 + 1 + 1 < k) (cs : Array Value) : Four w (W.setRow k cs) f g s t :=
  ⟨(setRow_other _ _ _ _ (by omega)).trans h.1, (setRow_other _ _ _ _ (by omega)).trans h.2.1, (setRow_other _ _ _ _ (by omega)).trans h.2.2.1, (setRow_other _ _ _ _ (by omega)).trans h.2.2.2.1, below_setRow h.2.2.2.2 (by omega) _⟩
def sumK (f g : Nat → F) (k j : Nat) : F := if j < k then f j ^^^ g j else 0#8
theorem sumK_zero (f g : Nat → F) : sumK f g 0 = fun _ => 0#8 := by funext j; unfold sumK; rw [if_neg (by omega)]
theorem sumK_next (f g : Nat → F) (k : Nat) : (fun j => if j = k then f k ^^^ g k else sumK f g k j) = sumK f g (k + 1) := by
  funext j; unfold sumK
  by_cases h : j = k
  · subst h; rw [if_pos rfl, if_pos (by omega)]
  · rw [if_neg h]
    by_cases h2 : j < k
    · rw [if_pos h2, if_pos (by omega)]
    · rw [if_neg h2, if_neg (by omega)]

def xorF (f g : Nat → F) (j : Nat) : F := f j ^^^ g j
theorem sumK_end (f g : Nat → F) (k : Nat) (hk : 16 ≤ k) : rowB 16 (sumK f g k) = rowB 16 (xorF f g) := rowB_congr 16 _ _ (fun j hj => by unfold sumK xorF; rw [if_pos (by omega)])
theorem or_xor (x y : F) : (x <<< (1 : Nat)) ||| (y >>> (7 : Nat)) = (x <<< (1 : Nat)) ^^^ (y >>> (7 : Nat)) := by
  apply BitVec.eq_of_getLsbD_eq
  intro i hi
  rw [BitVec.getLsbD_or, BitVec.getLsbD_xor, BitVec.getLsbD_shiftLeft, BitVec.getLsbD_ushiftRight]
  by_cases h : i = 0
  · subst h; simp
  · have h1 : y.getLsbD (7 + i) = false := BitVec.getLsbD_of_ge _ _ (by omega)
    rw [h1, Bool.or_false, Bool.xor_false]
theorem dbl_spell2 (f : Nat → F) (j : Nat) : dbl f j = (f j <<< (1 : Nat)) ^^^ carry f j := by
  unfold dbl carry
  by_cases h : j = 0
  · rw [if_pos h]; simp
  · rw [if_neg h]; exact or_xor _ _
theorem carry_xor (f g : Nat → F) (k : Nat) : carry (xorF f g) k = carry f k ^^^ carry g k := by
  unfold carry xorF
  by_cases h : k = 0
  · rw [if_pos h, if_pos h, if_pos h]; rfl
  · rw [if_neg h, if_neg h, if_neg h, BitVec.ushiftRight_xor_distrib]
theorem dbl_xor (f g : Nat → F) (j : Nat) : dbl (xorF f g) j = dbl f j ^^^ dbl g j := by
  rw [dbl_spell2, dbl_spell2, dbl_spell2, carry_xor, xor4, ← BitVec.shiftLeft_xor_distrib]; rfl
theorem last_top : ∀ y : F, last (y >>> (7 : Nat)) = bif y.msb then 0x87#8 else 0#8 := by decide +kernel
theorem last_xor (x y : F) : last ((x ^^^ y) >>> (7 : Nat)) = last (x >>> (7 : Nat)) ^^^ last (y >>> (7 : Nat)) := by
  rw [last_top, last_top, last_top, BitVec.msb_xor]
  cases x.msb <;> cases y.msb <;> rfl
theorem double_xor (f g : Nat → F) : double (xorF f g) = xorF (double f) (double g) := by
  funext j
  show double (xorF f g) j = double f j ^^^ double g j
  unfold double
  by_cases h : j = 0
  · rw [if_pos h, if_pos h, if_pos h, dbl_xor, carry16, carry16, carry16, xor4, ← last_xor]; rfl
  · rw [if_neg h, if_neg h, if_neg h, dbl_xor]
theorem byte_zero : ∀ x : F, x <<< (1 : Nat) = 0#8 → x >>> (7 : Nat) = 0#8 → x = 0#8 := by decide +kernel
theorem top_zero : ∀ y : F, (last (y >>> (7 : Nat))).getLsbD 0 = (y >>> (7 : Nat)).getLsbD 0 := by decide +kernel
theorem seven_zero : ∀ y : F, (y >>> (7 : Nat)).getLsbD 0 = false → y >>> (7 : Nat) = 0#8 := by decide +kernel
theorem parts_zero (x y : F) (h : (x <<< (1 : Nat)) ||| (y >>> (7 : Nat)) = 0#8) : x <<< (1 : Nat) = 0#8 ∧ y >>> (7 : Nat) = 0#8 := by
  have hb : ∀ i, i < 8 → ((x <<< (1 : Nat)).getLsbD i = false ∧ (y >>> (7 : Nat)).getLsbD i = false) := by
    intro i _
    have := congrArg (fun z : F => z.getLsbD i) h
    simp only [BitVec.getLsbD_or, BitVec.getLsbD_zero, Bool.or_eq_false_iff] at this
    exact this
  exact ⟨BitVec.eq_of_getLsbD_eq fun i hi => by rw [(hb i hi).1, BitVec.getLsbD_zero], BitVec.eq_of_getLsbD_eq fun i hi => by rw [(hb i hi).2, BitVec.getLsbD_zero]⟩
theorem double_zero (f : Nat → F) (h : ∀ j, j < 16 → double f j = 0#8) : ∀ j, j < 16 → f j = 0#8 := by
  have h0 := h 0 (by omega)
  have e0 : dbl f 0 = (f 0 <<< (1 : Nat)) ||| ((0#8 : F) >>> (7 : Nat)) := by unfold dbl carry; rw [if_pos rfl, BitVec.zero_ushiftRight]
  have ht : f 15 >>> (7 : Nat) = 0#8 := by
    apply seven_zero
    rw [← top_zero]
    have hb := congrArg (fun z : F => z.getLsbD 0) h0
    unfold double at hb
    rw [if_pos rfl, carry16] at hb
    simp only [BitVec.getLsbD_xor, BitVec.getLsbD_zero, e0, up_bits, if_true] at hb
    simpa using hb
  have hd : ∀ j, j < 16 → dbl f j = 0#8 := by
    intro j hj
    by_cases e : j = 0
    · subst e
      unfold double at h0
      rw [if_pos rfl, carry16, ht] at h0
      rw [show last (0#8 : F) = 0#8 from by decide, BitVec.xor_zero] at h0
      exact h0
    · have := h j hj; unfold double at this; rwa [if_neg e] at this
  intro j hj
  have hl : f j <<< (1 : Nat) = 0#8 := by
    have := hd j hj
    by_cases e : j = 0
    · subst e; rw [e0] at this; exact (parts_zero _ _ this).1
    · unfold dbl carry at this; rw [if_neg e] at this; exact (parts_zero _ _ this).1
  have hr : f j >>> (7 : Nat) = 0#8 := by
    by_cases e : j = 15
    · subst e; exact ht
    · have := hd (j + 1) (by omega)
      unfold dbl carry at this; rw [if_neg (by omega), Nat.add_sub_cancel] at this
      exact (parts_zero _ _ this).2
  exact byte_zero _ hl hr
theorem sameB_double (f g : Nat → F) : sameB 16 (double f) (double g) = sameB 16 f g := by
  rw [Bool.eq_iff_iff, sameB_iff, sameB_iff]
  constructor
  · intro h j hj
    have hz := double_zero (xorF f g) (fun j hj => by rw [double_xor]; unfold xorF; rw [h j hj, BitVec.xor_self])
    have := hz j hj
    unfold xorF at this
    exact BitVec.xor_eq_zero_iff.mp this
  · intro h j hj
    have e : ∀ j, j < 16 → dbl f j = dbl g j := by
      intro j hj; unfold dbl carry
      by_cases e : j = 0
      · rw [if_pos e, if_pos e, h j hj]
      · rw [if_neg e, if_neg e, h j hj, h (j - 1) (by omega)]
    unfold double
    rw [carry16, carry16, h 15 (by omega), e 0 (by omega), e j hj]
theorem doubled_two (f : Nat → F) (w : World) : Calls Try.prog 19 #[.agg (rowB 16 f), .int .i64 2] w fun e w' => e = .returned (.agg (rowB 16 (double (double f)))) ∧ Below w.heap.size w w' := doubled_calls f 2 (by omega) w
theorem double_sum (f g : Nat → F) (w : World) : Calls Try.prog 17 #[.agg (rowB 16 (xorF f g))] w fun e w' => e = .returned (.agg (rowB 16 (xorF (double f) (double g)))) ∧ Below w.heap.size w w' := by
  rw [← double_xor]; exact double_calls _ w
theorem Four.set3 {w W : World} {f g s t : Nat → F} (h : Four w W f g s t) (k : Nat) (v : F) : Four w (W.setCell ⟨w.heap.size + 1 + 1, k, none⟩ (.int .u8 (toI v))) f g (fun j => if j = k then v else s j) t :=
  ⟨blk_far h.1 (by simp; omega) _, blk_far h.2.1 (by simp) _, by rw [blk_set h.2.2.1 k, rowB_set], blk_far h.2.2.2.1 (by simp) _, h.2.2.2.2.setCell (by simp; omega) _⟩
theorem Four.set4 {w W : World} {f g s t : Nat → F} (h : Four w W f g s t) (k : Nat) (v : F) : Four w (W.setCell ⟨w.heap.size + 1 + 1 + 1, k, none⟩ (.int .u8 (toI v))) f g s (fun j => if j = k then v else t j) :=
  ⟨blk_far h.1 (by simp; omega) _, blk_far h.2.1 (by simp) _, blk_far h.2.2.1 (by simp) _, by rw [blk_set h.2.2.2.1 k, rowB_set], h.2.2.2.2.setCell (by simp; omega) _⟩
theorem Four.drew {w W : World} {f g s t : Nat → F} (h : Four w W f g s t) : Four w W.drew f g s t := h.below (below_drew (Below.refl _ _))
theorem Four.swap {w W : World} {f g s t s' t' : Nat → F} (h : Four w W f g s t) (hs : rowB 16 s = rowB 16 s') (ht : rowB 16 t = rowB 16 t') : Four w W f g s' t' := by
  unfold Four at *; rw [← hs, ← ht]; exact h
attribute [local go_sem] equalIn25 sameB_refl sameB_double
set_option maxRecDepth 100000 in
set_option maxHeartbeats 2000000 in
theorem walk (f g : Nat → F) (w : World) : Calls Try.prog 5 #[.agg (rowB 16 f), .agg (rowB 16 g)] w fun e w' => e = .returned (.bool true) ∧ Below w.heap.size w w' := by
  go_enter Try.func5, Try.ntmps5
  go_wp2_with fail
  refine (WkGfLaws.awake_calls _).mono ?_
  rintro e w' ⟨rfl, ⟨nd, rfl⟩⟩
  go_wp2_with fail
  have H0 : Aside0 (Four w (((((w.alloc (.cells (rowB 16 f) 25)).alloc (.cells (rowB 16 g) 25)).drewN nd).alloc (.cells #[.int .u8 0, .int .u8 0, .int .u8 0, .int .u8 0, .int .u8 0, .int .u8 0, .int .u8 0, .int .u8 0, .int .u8 0, .int .u8 0, .int .u8 0, .int .u8 0, .int .u8 0, .int .u8 0, .int .u8 0, .int .u8 0] 25)).alloc (.cells #[.int .u8 0, .int .u8 0, .int .u8 0, .int .u8 0, .int .u8 0, .int .u8 0, .int .u8 0, .int .u8 0, .int .u8 0, .int .u8 0, .int .u8 0, .int .u8 0, .int .u8 0, .int .u8 0, .int .u8 0, .int .u8 0] 25)) f g (fun _ => 0#8) (fun _ => 0#8)) :=
    ⟨block_below ((Below.refl _ _).alloc (Nat.le_refl _) _) (block_below ((Below.refl _ _).alloc (Nat.le_refl _) _) (heap_alloc2_old _ _ _)),
     block_below ((Below.refl _ _).alloc (Nat.le_refl _) _) (block_below ((Below.refl _ _).alloc (Nat.le_refl _) _) (heap_alloc2_new _ _ _)),
     block_below ((Below.refl _ _).alloc (Nat.le_refl _) _) (alloc_at _ (by simp)), alloc_at _ (by simp),
     ((pw_below_drewN (((Below.refl _ _).alloc (Nat.le_refl _) _).alloc (by simp) _) _).alloc (by simp; omega) _).alloc (by simp; omega) _⟩
  generalize ((((w.alloc (.cells (rowB 16 f) 25)).alloc (.cells (rowB 16 g) 25)).drewN nd).alloc (.cells #[.int .u8 0, .int .u8 0, .int .u8 0, .int .u8 0, .int .u8 0, .int .u8 0, .int .u8 0, .int .u8 0, .int .u8 0, .int .u8 0, .int .u8 0, .int .u8 0, .int .u8 0, .int .u8 0, .int .u8 0, .int .u8 0] 25)).alloc (.cells #[.int .u8 0, .int .u8 0, .int .u8 0, .int .u8 0, .int .u8 0, .int .u8 0, .int .u8 0, .int .u8 0, .int .u8 0, .int .u8 0, .int .u8 0, .int .u8 0, .int .u8 0, .int .u8 0, .int .u8 0, .int .u8 0] 25) = W0 at *
  go_cut [7, 8] (fun v7 v8 W => ∃ g7 g8 : Nat, v7 = .pointer (some ⟨g7, 0, none⟩) ∧ v8 = .pointer (some ⟨g8, 0, none⟩) ∧ w.heap.size + 1 + 1 + 1 < g7 ∧ w.heap.size + 1 + 1 + 1 < g8 ∧ Aside0 (g7 ≠ g8) ∧ Aside0 (Four w W f g (fun _ => 0#8) (fun _ => 0#8)) ∧ Aside0 (W.heap[g7]? = some (.cells (rowB 16 (double f)) 25 (0, 0))) ∧ Aside0 (W.heap[g8]? = some (.cells (rowB 16 (double g)) 25 (0, 0))))
  case first =>
    refine start_ (n := 8) (S := fun W => Four w W f g (fun _ => 0#8) (fun _ => 0#8)) (ds := []) #[false, false, false, false, false, false, false, false] (by kernel_rfl) rfl rfl (Four.below H0.out (below_drew (Below.refl _ _))) (fun hHeld => ?_)
    clear H0
    generalize W0.drew = W1 at *
    refine take_ (i := 0) (N := some 12) (v := _) (a' := ?_) #[true, false, false, false, false, false, false, false] rfl rfl (by kernel_rfl) (fun _ _ _ h => h) (yields_row (by rfl) _ rfl w.heap.size (by rfl) f (fun _ h => h.1)) hHeld ?_ ?_
    rotate_left
    · simp only [Act.put, List.setIfInBounds_toArray, List.set_cons_zero, List.set_cons_succ]
      rfl
    refine take_ (i := 2) (N := some 14) (v := _) (a' := ?_) #[true, false, true, false, false, false, false, false] rfl rfl (by kernel_rfl) (fun _ _ _ h => h) (yields_row (by rfl) _ rfl (w.heap.size + 1) (by rfl) g (fun _ h => h.2.1)) hHeld ?_ ?_
    rotate_left
    · simp only [Act.put, List.setIfInBounds_toArray, List.set_cons_zero, List.set_cons_succ]
      rfl
    refine three_ (i := 1) (j := 4) (k := 5) (Ni := some 13) (Nj := some 7) (Nk := some 8) (#[true, true, true, false, false, false, false, false]) (#[true, false, true, false, true, false, false, false]) (#[true, false, true, false, false, true, false, false]) rfl rfl rfl rfl rfl rfl  (by kernel_rfl) (by decide) (by decide) (by decide) (fun K hK => ?_) (fun K hK => ?_) (fun K hK => ?_)
    · skip
      refine goes_ Try.func17 (by kernel_rfl) rfl #[.agg (rowB 16 f)] (by rfl) rfl rfl (by (try simp only [List.map_toArray, List.map_cons, List.map_nil]); first | done | rfl) ?_
      with_reducible refine (double_calls f _).mono ?_
      rintro e w' ⟨rfl, hb⟩
      refine ⟨_, rfl, ?_⟩
      refine hK.out _ _ ?_ (fun hHeld => ?_)
      · exact hHeld.below hb
      clear hK K
      refine norm_ (a' := ?_) ?_ ?_
      rotate_left
      · show Act.put _ (some 13) _ = _
        simp only [Act.put, List.setIfInBounds_toArray, List.set_cons_zero, List.set_cons_succ]
        rfl
      refine three_ (i := 3) (j := 4) (k := 5) (Ni := some 15) (Nj := some 7) (Nk := some 8) (#[true, true, true, true, false, false, false, false]) (#[true, true, true, false, true, false, false, false]) (#[true, true, true, false, false, true, false, false]) rfl rfl rfl rfl rfl rfl  (by kernel_rfl) (by decide) (by decide) (by decide) (fun K hK => ?_) (fun K hK => ?_) (fun K hK => ?_)
      · skip
        refine goes_ Try.func17 (by kernel_rfl) rfl #[.agg (rowB 16 g)] (by rfl) rfl rfl (by (try simp only [List.map_toArray, List.map_cons, List.map_nil]); first | done | rfl) ?_
        with_reducible refine (double_calls g _).mono ?_
        rintro e w' ⟨rfl, hb⟩
        refine ⟨_, rfl, ?_⟩
        refine hK.out _ _ ?_ (fun hHeld => ?_)
        · exact hHeld.below hb
        clear hK K
        refine norm_ (a' := ?_) ?_ ?_
        rotate_left
        · show Act.put _ (some 15) _ = _
          simp only [Act.put, List.setIfInBounds_toArray, List.set_cons_zero, List.set_cons_succ]
          rfl
        refine two_ (i := 4) (j := 5) (Ni := some 7) (Nj := some 8) (#[true, true, true, true, true, false, false, false]) (#[true, true, true, true, false, true, false, false]) rfl rfl rfl rfl  (by kernel_rfl) (by decide) (by decide) (fun K hK => ?_) (fun K hK => ?_)
        · skip
          refine alloc25_ (by rfl) rfl rfl ?_
          intro g7 w' hg7 hle hb
          have n7 : w.heap.size + 1 + 1 + 1 < g7 := Nat.lt_of_lt_of_le (Four.lt hHeld) hle
          have B7 := Aside0.mk hg7
          clear hle hg7
          refine hK.out _ _ ?_ (fun hHeld => ?_)
          · exact hHeld.below hb
          clear hK K
          refine norm_ (a' := ?_) ?_ ?_
          rotate_left
          · show Act.put _ (some 7) _ = _
            simp only [Act.put, List.setIfInBounds_toArray, List.set_cons_zero, List.set_cons_succ]
            rfl
          refine one_ (i := 5) (N := some 8) #[true, true, true, true, true, true, false, false] rfl rfl (by kernel_rfl) (by decide) (fun K hK => ?_)
          refine alloc25_ (by rfl) rfl rfl ?_
          intro g8 w' hg8 hle hb
          have n8 : w.heap.size + 1 + 1 + 1 < g8 := Nat.lt_of_lt_of_le (Four.lt hHeld) hle
          have B8 := Aside0.mk hg8
          have hne : Aside0 (g7 ≠ g8) := ⟨by have := blk_lt B7.out; omega⟩
          clear hle hg8
          replace B7 := Aside0.mk (block_below hb B7.out)
          refine hK.out _ _ ?_ (fun hHeld => ?_)
          · exact hHeld.below hb
          clear hK K
          refine norm_ (a' := ?_) ?_ ?_
          rotate_left
          · show Act.put _ (some 8) _ = _
            simp only [Act.put, List.setIfInBounds_toArray, List.set_cons_zero, List.set_cons_succ]
            rfl
          have hHeld2 := Aside0.mk (hHeld.row n7 (rowB 16 (double f)))
          refine one_store25 (i := 6) #[true, true, true, true, true, true, true, false] rfl rfl (by kernel_rfl) (by decide) (by rfl) _ _ rfl g7 (double f) (fun _ => 0#8) (by rfl) (by rfl) B7.out hHeld2.out (fun hHeld => ?_)
          clear hHeld2
          have hT7 := Aside0.mk (setRow_heap _ g7 _ (rowB 16 (double f)) _ _ B7.out)
          replace B8 := Aside0.mk ((setRow_other _ g7 _ (rowB 16 (double f)) (by have := hne.out; omega)).trans B8.out)
          have hHeld2 := Aside0.mk (hHeld.row n8 (rowB 16 (double g)))
          refine one_store25 (i := 7) #[true, true, true, true, true, true, true, true] rfl rfl (by kernel_rfl) (by decide) (by rfl) _ _ rfl g8 (double g) (fun _ => 0#8) (by rfl) (by rfl) B8.out hHeld2.out (fun hHeld => ?_)
          clear hHeld2
          have hT8 := Aside0.mk (setRow_heap _ g8 _ (rowB 16 (double g)) _ _ B8.out)
          replace hT7 := Aside0.mk ((setRow_other _ g8 _ (rowB 16 (double g)) (by have := hne.out; omega)).trans hT7.out)
          refine done_ (by kernel_rfl) ?_
          go_wp2_with fail
          go_meet
          exact ⟨g7, g8, rfl, rfl, n7, n8, hne, ⟨hHeld⟩, hT7, hT8⟩
        · skip
          refine alloc25_ (by rfl) rfl rfl ?_
          intro g8 w' hg8 hle hb
          have n8 : w.heap.size + 1 + 1 + 1 < g8 := Nat.lt_of_lt_of_le (Four.lt hHeld) hle
          have B8 := Aside0.mk hg8
          clear hle hg8
          refine hK.out _ _ ?_ (fun hHeld => ?_)
          · exact hHeld.below hb
          clear hK K
          refine norm_ (a' := ?_) ?_ ?_
          rotate_left
          · show Act.put _ (some 8) _ = _
            simp only [Act.put, List.setIfInBounds_toArray, List.set_cons_zero, List.set_cons_succ]
            rfl
          refine one_ (i := 4) (N := some 7) #[true, true, true, true, true, true, false, false] rfl rfl (by kernel_rfl) (by decide) (fun K hK => ?_)
          refine alloc25_ (by rfl) rfl rfl ?_
          intro g7 w' hg7 hle hb
          have n7 : w.heap.size + 1 + 1 + 1 < g7 := Nat.lt_of_lt_of_le (Four.lt hHeld) hle
          have B7 := Aside0.mk hg7
          have hne : Aside0 (g7 ≠ g8) := ⟨by have := blk_lt B8.out; omega⟩
          clear hle hg7
          replace B8 := Aside0.mk (block_below hb B8.out)
          refine hK.out _ _ ?_ (fun hHeld => ?_)
          · exact hHeld.below hb
          clear hK K
          refine norm_ (a' := ?_) ?_ ?_
          rotate_left
          · show Act.put _ (some 7) _ = _
            simp only [Act.put, List.setIfInBounds_toArray, List.set_cons_zero, List.set_cons_succ]
            rfl
          have hHeld2 := Aside0.mk (hHeld.row n7 (rowB 16 (double f)))
          refine one_store25 (i := 6) #[true, true, true, true, true, true, true, false] rfl rfl (by kernel_rfl) (by decide) (by rfl) _ _ rfl g7 (double f) (fun _ => 0#8) (by rfl) (by rfl) B7.out hHeld2.out (fun hHeld => ?_)
          clear hHeld2
          have hT7 := Aside0.mk (setRow_heap _ g7 _ (rowB 16 (double f)) _ _ B7.out)
          replace B8 := Aside0.mk ((setRow_other _ g7 _ (rowB 16 (double f)) (by have := hne.out; omega)).trans B8.out)
          have hHeld2 := Aside0.mk (hHeld.row n8 (rowB 16 (double g)))
          refine one_store25 (i := 7) #[true, true, true, true, true, true, true, true] rfl rfl (by kernel_rfl) (by decide) (by rfl) _ _ rfl g8 (double g) (fun _ => 0#8) (by rfl) (by rfl) B8.out hHeld2.out (fun hHeld => ?_)
          clear hHeld2
          have hT8 := Aside0.mk (setRow_heap _ g8 _ (rowB 16 (double g)) _ _ B8.out)
          replace hT7 := Aside0.mk ((setRow_other _ g8 _ (rowB 16 (double g)) (by have := hne.out; omega)).trans hT7.out)
          refine done_ (by kernel_rfl) ?_
          go_wp2_with fail
          go_meet
          exact ⟨g7, g8, rfl, rfl, n7, n8, hne, ⟨hHeld⟩, hT7, hT8⟩
      · skip
        refine alloc25_ (by rfl) rfl rfl ?_
        intro g7 w' hg7 hle hb
        have n7 : w.heap.size + 1 + 1 + 1 < g7 := Nat.lt_of_lt_of_le (Four.lt hHeld) hle
        have B7 := Aside0.mk hg7
        clear hle hg7
        refine hK.out _ _ ?_ (fun hHeld => ?_)
        · exact hHeld.below hb
        clear hK K
        refine norm_ (a' := ?_) ?_ ?_
        rotate_left
        · show Act.put _ (some 7) _ = _
          simp only [Act.put, List.setIfInBounds_toArray, List.set_cons_zero, List.set_cons_succ]
          rfl
        refine two_ (i := 3) (j := 5) (Ni := some 15) (Nj := some 8) (#[true, true, true, true, true, false, false, false]) (#[true, true, true, false, true, true, false, false]) rfl rfl rfl rfl  (by kernel_rfl) (by decide) (by decide) (fun K hK => ?_) (fun K hK => ?_)
        · skip
          refine goes_ Try.func17 (by kernel_rfl) rfl #[.agg (rowB 16 g)] (by rfl) rfl rfl (by (try simp only [List.map_toArray, List.map_cons, List.map_nil]); first | done | rfl) ?_
          with_reducible refine (double_calls g _).mono ?_
          rintro e w' ⟨rfl, hb⟩
          refine ⟨_, rfl, ?_⟩
          replace B7 := Aside0.mk (block_below hb B7.out)
          refine hK.out _ _ ?_ (fun hHeld => ?_)
          · exact hHeld.below hb
          clear hK K
          refine norm_ (a' := ?_) ?_ ?_
          rotate_left
          · show Act.put _ (some 15) _ = _
            simp only [Act.put, List.setIfInBounds_toArray, List.set_cons_zero, List.set_cons_succ]
            rfl
          refine one_ (i := 5) (N := some 8) #[true, true, true, true, true, true, false, false] rfl rfl (by kernel_rfl) (by decide) (fun K hK => ?_)
          refine alloc25_ (by rfl) rfl rfl ?_
          intro g8 w' hg8 hle hb
          have n8 : w.heap.size + 1 + 1 + 1 < g8 := Nat.lt_of_lt_of_le (Four.lt hHeld) hle
          have B8 := Aside0.mk hg8
          have hne : Aside0 (g7 ≠ g8) := ⟨by have := blk_lt B7.out; omega⟩
          clear hle hg8
          replace B7 := Aside0.mk (block_below hb B7.out)
          refine hK.out _ _ ?_ (fun hHeld => ?_)
          · exact hHeld.below hb
          clear hK K
          refine norm_ (a' := ?_) ?_ ?_
          rotate_left
          · show Act.put _ (some 8) _ = _
            simp only [Act.put, List.setIfInBounds_toArray, List.set_cons_zero, List.set_cons_succ]
            rfl
          have hHeld2 := Aside0.mk (hHeld.row n7 (rowB 16 (double f)))
          refine one_store25 (i := 6) #[true, true, true, true, true, true, true, false] rfl rfl (by kernel_rfl) (by decide) (by rfl) _ _ rfl g7 (double f) (fun _ => 0#8) (by rfl) (by rfl) B7.out hHeld2.out (fun hHeld => ?_)
          clear hHeld2
          have hT7 := Aside0.mk (setRow_heap _ g7 _ (rowB 16 (double f)) _ _ B7.out)
          replace B8 := Aside0.mk ((setRow_other _ g7 _ (rowB 16 (double f)) (by have := hne.out; omega)).trans B8.out)
          have hHeld2 := Aside0.mk (hHeld.row n8 (rowB 16 (double g)))
          refine one_store25 (i := 7) #[true, true, true, true, true, true, true, true] rfl rfl (by kernel_rfl) (by decide) (by rfl) _ _ rfl g8 (double g) (fun _ => 0#8) (by rfl) (by rfl) B8.out hHeld2.out (fun hHeld => ?_)
          clear hHeld2
          have hT8 := Aside0.mk (setRow_heap _ g8 _ (rowB 16 (double g)) _ _ B8.out)
          replace hT7 := Aside0.mk ((setRow_other _ g8 _ (rowB 16 (double g)) (by have := hne.out; omega)).trans hT7.out)
          refine done_ (by kernel_rfl) ?_
          go_wp2_with fail
          go_meet
          exact ⟨g7, g8, rfl, rfl, n7, n8, hne, ⟨hHeld⟩, hT7, hT8⟩
        · skip
          refine alloc25_ (by rfl) rfl rfl ?_
          intro g8 w' hg8 hle hb
          have n8 : w.heap.size + 1 + 1 + 1 < g8 := Nat.lt_of_lt_of_le (Four.lt hHeld) hle
          have B8 := Aside0.mk hg8
          have hne : Aside0 (g7 ≠ g8) := ⟨by have := blk_lt B7.out; omega⟩
          clear hle hg8
          replace B7 := Aside0.mk (block_below hb B7.out)
          refine hK.out _ _ ?_ (fun hHeld => ?_)
          · exact hHeld.below hb
          clear hK K
          refine norm_ (a' := ?_) ?_ ?_
          rotate_left
          · show Act.put _ (some 8) _ = _
            simp only [Act.put, List.setIfInBounds_toArray, List.set_cons_zero, List.set_cons_succ]
            rfl
          refine one_ (i := 3) (N := some 15) #[true, true, true, true, true, true, false, false] rfl rfl (by kernel_rfl) (by decide) (fun K hK => ?_)
          refine goes_ Try.func17 (by kernel_rfl) rfl #[.agg (rowB 16 g)] (by rfl) rfl rfl (by (try simp only [List.map_toArray, List.map_cons, List.map_nil]); first | done | rfl) ?_
          with_reducible refine (double_calls g _).mono ?_
          rintro e w' ⟨rfl, hb⟩
          refine ⟨_, rfl, ?_⟩
          replace B7 := Aside0.mk (block_below hb B7.out)
          replace B8 := Aside0.mk (block_below hb B8.out)
          refine hK.out _ _ ?_ (fun hHeld => ?_)
          · exact hHeld.below hb
          clear hK K
          refine norm_ (a' := ?_) ?_ ?_
          rotate_left
          · show Act.put _ (some 15) _ = _
            simp only [Act.put, List.setIfInBounds_toArray, List.set_cons_zero, List.set_cons_succ]
            rfl
          have hHeld2 := Aside0.mk (hHeld.row n7 (rowB 16 (double f)))
          refine one_store25 (i := 6) #[true, true, true, true, true, true, true, false] rfl rfl (by kernel_rfl) (by decide) (by rfl) _ _ rfl g7 (double f) (fun _ => 0#8) (by rfl) (by rfl) B7.out hHeld2.out (fun hHeld => ?_)
          clear hHeld2
          have hT7 := Aside0.mk (setRow_heap _ g7 _ (rowB 16 (double f)) _ _ B7.out)
          replace B8 := Aside0.mk ((setRow_other _ g7 _ (rowB 16 (double f)) (by have := hne.out; omega)).trans B8.out)
          have hHeld2 := Aside0.mk (hHeld.row n8 (rowB 16 (double g)))
          refine one_store25 (i := 7) #[true, true, true, true, true, true, true, true] rfl rfl (by kernel_rfl) (by decide) (by rfl) _ _ rfl g8 (double g) (fun _ => 0#8) (by rfl) (by rfl) B8.out hHeld2.out (fun hHeld => ?_)
          clear hHeld2
          have hT8 := Aside0.mk (setRow_heap _ g8 _ (rowB 16 (double g)) _ _ B8.out)
          replace hT7 := Aside0.mk ((setRow_other _ g8 _ (rowB 16 (double g)) (by have := hne.out; omega)).trans hT7.out)
          refine done_ (by kernel_rfl) ?_
          go_wp2_with fail
          go_meet
          exact ⟨g7, g8, rfl, rfl, n7, n8, hne, ⟨hHeld⟩, hT7, hT8⟩
      · skip
        refine alloc25_ (by rfl) rfl rfl ?_
        intro g8 w' hg8 hle hb
        have n8 : w.heap.size + 1 + 1 + 1 < g8 := Nat.lt_of_lt_of_le (Four.lt hHeld) hle
        have B8 := Aside0.mk hg8
        clear hle hg8
        refine hK.out _ _ ?_ (fun hHeld => ?_)
        · exact hHeld.below hb
        clear hK K
        refine norm_ (a' := ?_) ?_ ?_
        rotate_left
        · show Act.put _ (some 8) _ = _
          simp only [Act.put, List.setIfInBounds_toArray, List.set_cons_zero, List.set_cons_succ]
          rfl
        refine two_ (i := 3) (j := 4) (Ni := some 15) (Nj := some 7) (#[true, true, true, true, false, true, false, false]) (#[true, true, true, false, true, true, false, false]) rfl rfl rfl rfl  (by kernel_rfl) (by decide) (by decide) (fun K hK => ?_) (fun K hK => ?_)
        · skip
          refine goes_ Try.func17 (by kernel_rfl) rfl #[.agg (rowB 16 g)] (by rfl) rfl rfl (by (try simp only [List.map_toArray, List.map_cons, List.map_nil]); first | done | rfl) ?_
          with_reducible refine (double_calls g _).mono ?_
          rintro e w' ⟨rfl, hb⟩
          refine ⟨_, rfl, ?_⟩
          replace B8 := Aside0.mk (block_below hb B8.out)
          refine hK.out _ _ ?_ (fun hHeld => ?_)
          · exact hHeld.below hb
          clear hK K
          refine norm_ (a' := ?_) ?_ ?_
          rotate_left
          · show Act.put _ (some 15) _ = _
            simp only [Act.put, List.setIfInBounds_toArray, List.set_cons_zero, List.set_cons_succ]
            rfl
          refine one_ (i := 4) (N := some 7) #[true, true, true, true, true, true, false, false] rfl rfl (by kernel_rfl) (by decide) (fun K hK => ?_)
          refine alloc25_ (by rfl) rfl rfl ?_
          intro g7 w' hg7 hle hb
          have n7 : w.heap.size + 1 + 1 + 1 < g7 := Nat.lt_of_lt_of_le (Four.lt hHeld) hle
          have B7 := Aside0.mk hg7
          have hne : Aside0 (g7 ≠ g8) := ⟨by have := blk_lt B8.out; omega⟩
          clear hle hg7
          replace B8 := Aside0.mk (block_below hb B8.out)
          refine hK.out _ _ ?_ (fun hHeld => ?_)
          · exact hHeld.below hb
          clear hK K
          refine norm_ (a' := ?_) ?_ ?_
          rotate_left
          · show Act.put _ (some 7) _ = _
            simp only [Act.put, List.setIfInBounds_toArray, List.set_cons_zero, List.set_cons_succ]
            rfl
          have hHeld2 := Aside0.mk (hHeld.row n7 (rowB 16 (double f)))
          refine one_store25 (i := 6) #[true, true, true, true, true, true, true, false] rfl rfl (by kernel_rfl) (by decide) (by rfl) _ _ rfl g7 (double f) (fun _ => 0#8) (by rfl) (by rfl) B7.out hHeld2.out (fun hHeld => ?_)
          clear hHeld2
          have hT7 := Aside0.mk (setRow_heap _ g7 _ (rowB 16 (double f)) _ _ B7.out)
          replace B8 := Aside0.mk ((setRow_other _ g7 _ (rowB 16 (double f)) (by have := hne.out; omega)).trans B8.out)
          have hHeld2 := Aside0.mk (hHeld.row n8 (rowB 16 (double g)))
          refine one_store25 (i := 7) #[true, true, true, true, true, true, true, true] rfl rfl (by kernel_rfl) (by decide) (by rfl) _ _ rfl g8 (double g) (fun _ => 0#8) (by rfl) (by rfl) B8.out hHeld2.out (fun hHeld => ?_)
          clear hHeld2
          have hT8 := Aside0.mk (setRow_heap _ g8 _ (rowB 16 (double g)) _ _ B8.out)
          replace hT7 := Aside0.mk ((setRow_other _ g8 _ (rowB 16 (double g)) (by have := hne.out; omega)).trans hT7.out)
          refine done_ (by kernel_rfl) ?_
          go_wp2_with fail
          go_meet
          exact ⟨g7, g8, rfl, rfl, n7, n8, hne, ⟨hHeld⟩, hT7, hT8⟩
        · skip
          refine alloc25_ (by rfl) rfl rfl ?_
          intro g7 w' hg7 hle hb
          have n7 : w.heap.size + 1 + 1 + 1 < g7 := Nat.lt_of_lt_of_le (Four.lt hHeld) hle
          have B7 := Aside0.mk hg7
          have hne : Aside0 (g7 ≠ g8) := ⟨by have := blk_lt B8.out; omega⟩
          clear hle hg7
          replace B8 := Aside0.mk (block_below hb B8.out)
          refine hK.out _ _ ?_ (fun hHeld => ?_)
          · exact hHeld.below hb
          clear hK K
          refine norm_ (a' := ?_) ?_ ?_
          rotate_left
          · show Act.put _ (some 7) _ = _
            simp only [Act.put, List.setIfInBounds_toArray, List.set_cons_zero, List.set_cons_succ]
            rfl
          refine one_ (i := 3) (N := some 15) #[true, true, true, true, true, true, false, false] rfl rfl (by kernel_rfl) (by decide) (fun K hK => ?_)
          refine goes_ Try.func17 (by kernel_rfl) rfl #[.agg (rowB 16 g)] (by rfl) rfl rfl (by (try simp only [List.map_toArray, List.map_cons, List.map_nil]); first | done | rfl) ?_
          with_reducible refine (double_calls g _).mono ?_
          rintro e w' ⟨rfl, hb⟩
          refine ⟨_, rfl, ?_⟩
          replace B7 := Aside0.mk (block_below hb B7.out)
          replace B8 := Aside0.mk (block_below hb B8.out)
          refine hK.out _ _ ?_ (fun hHeld => ?_)
          · exact hHeld.below hb
          clear hK K
          refine norm_ (a' := ?_) ?_ ?_
          rotate_left
          · show Act.put _ (some 15) _ = _
            simp only [Act.put, List.setIfInBounds_toArray, List.set_cons_zero, List.set_cons_succ]
            rfl
          have hHeld2 := Aside0.mk (hHeld.row n7 (rowB 16 (double f)))
          refine one_store25 (i := 6) #[true, true, true, true, true, true, true, false] rfl rfl (by kernel_rfl) (by decide) (by rfl) _ _ rfl g7 (double f) (fun _ => 0#8) (by rfl) (by rfl) B7.out hHeld2.out (fun hHeld => ?_)
          clear hHeld2
          have hT7 := Aside0.mk (setRow_heap _ g7 _ (rowB 16 (double f)) _ _ B7.out)
          replace B8 := Aside0.mk ((setRow_other _ g7 _ (rowB 16 (double f)) (by have := hne.out; omega)).trans B8.out)
          have hHeld2 := Aside0.mk (hHeld.row n8 (rowB 16 (double g)))
          refine one_store25 (i := 7) #[true, true, true, true, true, true, true, true] rfl rfl (by kernel_rfl) (by decide) (by rfl) _ _ rfl g8 (double g) (fun _ => 0#8) (by rfl) (by rfl) B8.out hHeld2.out (fun hHeld => ?_)
          clear hHeld2
          have hT8 := Aside0.mk (setRow_heap _ g8 _ (rowB 16 (double g)) _ _ B8.out)
          replace hT7 := Aside0.mk ((setRow_other _ g8 _ (rowB 16 (double g)) (by have := hne.out; omega)).trans hT7.out)
          refine done_ (by kernel_rfl) ?_
          go_wp2_with fail
          go_meet
          exact ⟨g7, g8, rfl, rfl, n7, n8, hne, ⟨hHeld⟩, hT7, hT8⟩
    · skip
      refine alloc25_ (by rfl) rfl rfl ?_
      intro g7 w' hg7 hle hb
      have n7 : w.heap.size + 1 + 1 + 1 < g7 := Nat.lt_of_lt_of_le (Four.lt hHeld) hle
      have B7 := Aside0.mk hg7
      clear hle hg7
      refine hK.out _ _ ?_ (fun hHeld => ?_)
      · exact hHeld.below hb
      clear hK K
      refine norm_ (a' := ?_) ?_ ?_
      rotate_left
      · show Act.put _ (some 7) _ = _
        simp only [Act.put, List.setIfInBounds_toArray, List.set_cons_zero, List.set_cons_succ]
        rfl
      refine two_ (i := 1) (j := 5) (Ni := some 13) (Nj := some 8) (#[true, true, true, false, true, false, false, false]) (#[true, false, true, false, true, true, false, false]) rfl rfl rfl rfl  (by kernel_rfl) (by decide) (by decide) (fun K hK => ?_) (fun K hK => ?_)
      · skip
        refine goes_ Try.func17 (by kernel_rfl) rfl #[.agg (rowB 16 f)] (by rfl) rfl rfl (by (try simp only [List.map_toArray, List.map_cons, List.map_nil]); first | done | rfl) ?_
        with_reducible refine (double_calls f _).mono ?_
        rintro e w' ⟨rfl, hb⟩
        refine ⟨_, rfl, ?_⟩
        replace B7 := Aside0.mk (block_below hb B7.out)
        refine hK.out _ _ ?_ (fun hHeld => ?_)
        · exact hHeld.below hb
        clear hK K
        refine norm_ (a' := ?_) ?_ ?_
        rotate_left
        · show Act.put _ (some 13) _ = _
          simp only [Act.put, List.setIfInBounds_toArray, List.set_cons_zero, List.set_cons_succ]
          rfl
        refine two_ (i := 3) (j := 5) (Ni := some 15) (Nj := some 8) (#[true, true, true, true, true, false, false, false]) (#[true, true, true, false, true, true, false, false]) rfl rfl rfl rfl  (by kernel_rfl) (by decide) (by decide) (fun K hK => ?_) (fun K hK => ?_)
        · skip
          refine goes_ Try.func17 (by kernel_rfl) rfl #[.agg (rowB 16 g)] (by rfl) rfl rfl (by (try simp only [List.map_toArray, List.map_cons, List.map_nil]); first | done | rfl) ?_
          with_reducible refine (double_calls g _).mono ?_
          rintro e w' ⟨rfl, hb⟩
          refine ⟨_, rfl, ?_⟩
          replace B7 := Aside0.mk (block_below hb B7.out)
          refine hK.out _ _ ?_ (fun hHeld => ?_)
          · exact hHeld.below hb
          clear hK K
          refine norm_ (a' := ?_) ?_ ?_
          rotate_left
          · show Act.put _ (some 15) _ = _
            simp only [Act.put, List.setIfInBounds_toArray, List.set_cons_zero, List.set_cons_succ]
            rfl
          refine one_ (i := 5) (N := some 8) #[true, true, true, true, true, true, false, false] rfl rfl (by kernel_rfl) (by decide) (fun K hK => ?_)
          refine alloc25_ (by rfl) rfl rfl ?_
          intro g8 w' hg8 hle hb
          have n8 : w.heap.size + 1 + 1 + 1 < g8 := Nat.lt_of_lt_of_le (Four.lt hHeld) hle
          have B8 := Aside0.mk hg8
          have hne : Aside0 (g7 ≠ g8) := ⟨by have := blk_lt B7.out; omega⟩
          clear hle hg8
          replace B7 := Aside0.mk (block_below hb B7.out)
          refine hK.out _ _ ?_ (fun hHeld => ?_)
          · exact hHeld.below hb
          clear hK K
          refine norm_ (a' := ?_) ?_ ?_
          rotate_left
          · show Act.put _ (some 8) _ = _
            simp only [Act.put, List.setIfInBounds_toArray, List.set_cons_zero, List.set_cons_succ]
            rfl
          have hHeld2 := Aside0.mk (hHeld.row n7 (rowB 16 (double f)))
          refine one_store25 (i := 6) #[true, true, true, true, true, true, true, false] rfl rfl (by kernel_rfl) (by decide) (by rfl) _ _ rfl g7 (double f) (fun _ => 0#8) (by rfl) (by rfl) B7.out hHeld2.out (fun hHeld => ?_)
          clear hHeld2
          have hT7 := Aside0.mk (setRow_heap _ g7 _ (rowB 16 (double f)) _ _ B7.out)
          replace B8 := Aside0.mk ((setRow_other _ g7 _ (rowB 16 (double f)) (by have := hne.out; omega)).trans B8.out)
          have hHeld2 := Aside0.mk (hHeld.row n8 (rowB 16 (double g)))
          refine one_store25 (i := 7) #[true, true, true, true, true, true, true, true] rfl rfl (by kernel_rfl) (by decide) (by rfl) _ _ rfl g8 (double g) (fun _ => 0#8) (by rfl) (by rfl) B8.out hHeld2.out (fun hHeld => ?_)
          clear hHeld2
          have hT8 := Aside0.mk (setRow_heap _ g8 _ (rowB 16 (double g)) _ _ B8.out)
          replace hT7 := Aside0.mk ((setRow_other _ g8 _ (rowB 16 (double g)) (by have := hne.out; omega)).trans hT7.out)
          refine done_ (by kernel_rfl) ?_
          go_wp2_with fail
          go_meet
          exact ⟨g7, g8, rfl, rfl, n7, n8, hne, ⟨hHeld⟩, hT7, hT8⟩
        · skip
          refine alloc25_ (by rfl) rfl rfl ?_
          intro g8 w' hg8 hle hb
          have n8 : w.heap.size + 1 + 1 + 1 < g8 := Nat.lt_of_lt_of_le (Four.lt hHeld) hle
          have B8 := Aside0.mk hg8
          have hne : Aside0 (g7 ≠ g8) := ⟨by have := blk_lt B7.out; omega⟩
          clear hle hg8
          replace B7 := Aside0.mk (block_below hb B7.out)
          refine hK.out _ _ ?_ (fun hHeld => ?_)
          · exact hHeld.below hb
          clear hK K
          refine norm_ (a' := ?_) ?_ ?_
          rotate_left
          · show Act.put _ (some 8) _ = _
            simp only [Act.put, List.setIfInBounds_toArray, List.set_cons_zero, List.set_cons_succ]
            rfl
          refine one_ (i := 3) (N := some 15) #[true, true, true, true, true, true, false, false] rfl rfl (by kernel_rfl) (by decide) (fun K hK => ?_)
          refine goes_ Try.func17 (by kernel_rfl) rfl #[.agg (rowB 16 g)] (by rfl) rfl rfl (by (try simp only [List.map_toArray, List.map_cons, List.map_nil]); first | done | rfl) ?_
          with_reducible refine (double_calls g _).mono ?_
          rintro e w' ⟨rfl, hb⟩
          refine ⟨_, rfl, ?_⟩
          replace B7 := Aside0.mk (block_below hb B7.out)
          replace B8 := Aside0.mk (block_below hb B8.out)
          refine hK.out _ _ ?_ (fun hHeld => ?_)
          · exact hHeld.below hb
          clear hK K
          refine norm_ (a' := ?_) ?_ ?_
          rotate_left
          · show Act.put _ (some 15) _ = _
            simp only [Act.put, List.setIfInBounds_toArray, List.set_cons_zero, List.set_cons_succ]
            rfl
          have hHeld2 := Aside0.mk (hHeld.row n7 (rowB 16 (double f)))
          refine one_store25 (i := 6) #[true, true, true, true, true, true, true, false] rfl rfl (by kernel_rfl) (by decide) (by rfl) _ _ rfl g7 (double f) (fun _ => 0#8) (by rfl) (by rfl) B7.out hHeld2.out (fun hHeld => ?_)
          clear hHeld2
          have hT7 := Aside0.mk (setRow_heap _ g7 _ (rowB 16 (double f)) _ _ B7.out)
          replace B8 := Aside0.mk ((setRow_other _ g7 _ (rowB 16 (double f)) (by have := hne.out; omega)).trans B8.out)
          have hHeld2 := Aside0.mk (hHeld.row n8 (rowB 16 (double g)))
          refine one_store25 (i := 7) #[true, true, true, true, true, true, true, true] rfl rfl (by kernel_rfl) (by decide) (by rfl) _ _ rfl g8 (double g) (fun _ => 0#8) (by rfl) (by rfl) B8.out hHeld2.out (fun hHeld => ?_)
          clear hHeld2
          have hT8 := Aside0.mk (setRow_heap _ g8 _ (rowB 16 (double g)) _ _ B8.out)
          replace hT7 := Aside0.mk ((setRow_other _ g8 _ (rowB 16 (double g)) (by have := hne.out; omega)).trans hT7.out)
          refine done_ (by kernel_rfl) ?_
          go_wp2_with fail
          go_meet
          exact ⟨g7, g8, rfl, rfl, n7, n8, hne, ⟨hHeld⟩, hT7, hT8⟩
      · skip
        refine alloc25_ (by rfl) rfl rfl ?_
        intro g8 w' hg8 hle hb
        have n8 : w.heap.size + 1 + 1 + 1 < g8 := Nat.lt_of_lt_of_le (Four.lt hHeld) hle
        have B8 := Aside0.mk hg8
        have hne : Aside0 (g7 ≠ g8) := ⟨by have := blk_lt B7.out; omega⟩
        clear hle hg8
        replace B7 := Aside0.mk (block_below hb B7.out)
        refine hK.out _ _ ?_ (fun hHeld => ?_)
        · exact hHeld.below hb
        clear hK K
        refine norm_ (a' := ?_) ?_ ?_
        rotate_left
        · show Act.put _ (some 8) _ = _
          simp only [Act.put, List.setIfInBounds_toArray, List.set_cons_zero, List.set_cons_succ]
          rfl
        refine one_ (i := 1) (N := some 13) #[true, true, true, false, true, true, false, false] rfl rfl (by kernel_rfl) (by decide) (fun K hK => ?_)
        refine goes_ Try.func17 (by kernel_rfl) rfl #[.agg (rowB 16 f)] (by rfl) rfl rfl (by (try simp only [List.map_toArray, List.map_cons, List.map_nil]); first | done | rfl) ?_
        with_reducible refine (double_calls f _).mono ?_
        rintro e w' ⟨rfl, hb⟩
        refine ⟨_, rfl, ?_⟩
        replace B7 := Aside0.mk (block_below hb B7.out)
        replace B8 := Aside0.mk (block_below hb B8.out)
        refine hK.out _ _ ?_ (fun hHeld => ?_)
        · exact hHeld.below hb
        clear hK K
        refine norm_ (a' := ?_) ?_ ?_
        rotate_left
        · show Act.put _ (some 13) _ = _
          simp only [Act.put, List.setIfInBounds_toArray, List.set_cons_zero, List.set_cons_succ]
          rfl
        refine one_ (i := 3) (N := some 15) #[true, true, true, true, true, true, false, false] rfl rfl (by kernel_rfl) (by decide) (fun K hK => ?_)
        refine goes_ Try.func17 (by kernel_rfl) rfl #[.agg (rowB 16 g)] (by rfl) rfl rfl (by (try simp only [List.map_toArray, List.map_cons, List.map_nil]); first | done | rfl) ?_
        with_reducible refine (double_calls g _).mono ?_
        rintro e w' ⟨rfl, hb⟩
        refine ⟨_, rfl, ?_⟩
        replace B7 := Aside0.mk (block_below hb B7.out)
        replace B8 := Aside0.mk (block_below hb B8.out)
        refine hK.out _ _ ?_ (fun hHeld => ?_)
        · exact hHeld.below hb
        clear hK K
        refine norm_ (a' := ?_) ?_ ?_
        rotate_left
        · show Act.put _ (some 15) _ = _
          simp only [Act.put, List.setIfInBounds_toArray, List.set_cons_zero, List.set_cons_succ]
          rfl
        have hHeld2 := Aside0.mk (hHeld.row n7 (rowB 16 (double f)))
        refine one_store25 (i := 6) #[true, true, true, true, true, true, true, false] rfl rfl (by kernel_rfl) (by decide) (by rfl) _ _ rfl g7 (double f) (fun _ => 0#8) (by rfl) (by rfl) B7.out hHeld2.out (fun hHeld => ?_)
        clear hHeld2
        have hT7 := Aside0.mk (setRow_heap _ g7 _ (rowB 16 (double f)) _ _ B7.out)
        replace B8 := Aside0.mk ((setRow_other _ g7 _ (rowB 16 (double f)) (by have := hne.out; omega)).trans B8.out)
        have hHeld2 := Aside0.mk (hHeld.row n8 (rowB 16 (double g)))
        refine one_store25 (i := 7) #[true, true, true, true, true, true, true, true] rfl rfl (by kernel_rfl) (by decide) (by rfl) _ _ rfl g8 (double g) (fun _ => 0#8) (by rfl) (by rfl) B8.out hHeld2.out (fun hHeld => ?_)
        clear hHeld2
        have hT8 := Aside0.mk (setRow_heap _ g8 _ (rowB 16 (double g)) _ _ B8.out)
        replace hT7 := Aside0.mk ((setRow_other _ g8 _ (rowB 16 (double g)) (by have := hne.out; omega)).trans hT7.out)
        refine done_ (by kernel_rfl) ?_
        go_wp2_with fail
        go_meet
        exact ⟨g7, g8, rfl, rfl, n7, n8, hne, ⟨hHeld⟩, hT7, hT8⟩
    · skip
      refine alloc25_ (by rfl) rfl rfl ?_
      intro g8 w' hg8 hle hb
      have n8 : w.heap.size + 1 + 1 + 1 < g8 := Nat.lt_of_lt_of_le (Four.lt hHeld) hle
      have B8 := Aside0.mk hg8
      clear hle hg8
      refine hK.out _ _ ?_ (fun hHeld => ?_)
      · exact hHeld.below hb
      clear hK K
      refine norm_ (a' := ?_) ?_ ?_
      rotate_left
      · show Act.put _ (some 8) _ = _
        simp only [Act.put, List.setIfInBounds_toArray, List.set_cons_zero, List.set_cons_succ]
        rfl
      refine two_ (i := 1) (j := 4) (Ni := some 13) (Nj := some 7) (#[true, true, true, false, false, true, false, false]) (#[true, false, true, false, true, true, false, false]) rfl rfl rfl rfl  (by kernel_rfl) (by decide) (by decide) (fun K hK => ?_) (fun K hK => ?_)
      · skip
        refine goes_ Try.func17 (by kernel_rfl) rfl #[.agg (rowB 16 f)] (by rfl) rfl rfl (by (try simp only [List.map_toArray, List.map_cons, List.map_nil]); first | done | rfl) ?_
        with_reducible refine (double_calls f _).mono ?_
        rintro e w' ⟨rfl, hb⟩
        refine ⟨_, rfl, ?_⟩
        replace B8 := Aside0.mk (block_below hb B8.out)
        refine hK.out _ _ ?_ (fun hHeld => ?_)
        · exact hHeld.below hb
        clear hK K
        refine norm_ (a' := ?_) ?_ ?_
        rotate_left
        · show Act.put _ (some 13) _ = _
          simp only [Act.put, List.setIfInBounds_toArray, List.set_cons_zero, List.set_cons_succ]
          rfl
        refine two_ (i := 3) (j := 4) (Ni := some 15) (Nj := some 7) (#[true, true, true, true, false, true, false, false]) (#[true, true, true, false, true, true, false, false]) rfl rfl rfl rfl  (by kernel_rfl) (by decide) (by decide) (fun K hK => ?_) (fun K hK => ?_)
        · skip
          refine goes_ Try.func17 (by kernel_rfl) rfl #[.agg (rowB 16 g)] (by rfl) rfl rfl (by (try simp only [List.map_toArray, List.map_cons, List.map_nil]); first | done | rfl) ?_
          with_reducible refine (double_calls g _).mono ?_
          rintro e w' ⟨rfl, hb⟩
          refine ⟨_, rfl, ?_⟩
          replace B8 := Aside0.mk (block_below hb B8.out)
          refine hK.out _ _ ?_ (fun hHeld => ?_)
          · exact hHeld.below hb
          clear hK K
          refine norm_ (a' := ?_) ?_ ?_
          rotate_left
          · show Act.put _ (some 15) _ = _
            simp only [Act.put, List.setIfInBounds_toArray, List.set_cons_zero, List.set_cons_succ]
            rfl
          refine one_ (i := 4) (N := some 7) #[true, true, true, true, true, true, false, false] rfl rfl (by kernel_rfl) (by decide) (fun K hK => ?_)
          refine alloc25_ (by rfl) rfl rfl ?_
          intro g7 w' hg7 hle hb
          have n7 : w.heap.size + 1 + 1 + 1 < g7 := Nat.lt_of_lt_of_le (Four.lt hHeld) hle
          have B7 := Aside0.mk hg7
          have hne : Aside0 (g7 ≠ g8) := ⟨by have := blk_lt B8.out; omega⟩
          clear hle hg7
          replace B8 := Aside0.mk (block_below hb B8.out)
          refine hK.out _ _ ?_ (fun hHeld => ?_)
          · exact hHeld.below hb
          clear hK K
          refine norm_ (a' := ?_) ?_ ?_
          rotate_left
          · show Act.put _ (some 7) _ = _
            simp only [Act.put, List.setIfInBounds_toArray, List.set_cons_zero, List.set_cons_succ]
            rfl
          have hHeld2 := Aside0.mk (hHeld.row n7 (rowB 16 (double f)))
          refine one_store25 (i := 6) #[true, true, true, true, true, true, true, false] rfl rfl (by kernel_rfl) (by decide) (by rfl) _ _ rfl g7 (double f) (fun _ => 0#8) (by rfl) (by rfl) B7.out hHeld2.out (fun hHeld => ?_)
          clear hHeld2
          have hT7 := Aside0.mk (setRow_heap _ g7 _ (rowB 16 (double f)) _ _ B7.out)
          replace B8 := Aside0.mk ((setRow_other _ g7 _ (rowB 16 (double f)) (by have := hne.out; omega)).trans B8.out)
          have hHeld2 := Aside0.mk (hHeld.row n8 (rowB 16 (double g)))
          refine one_store25 (i := 7) #[true, true, true, true, true, true, true, true] rfl rfl (by kernel_rfl) (by decide) (by rfl) _ _ rfl g8 (double g) (fun _ => 0#8) (by rfl) (by rfl) B8.out hHeld2.out (fun hHeld => ?_)
          clear hHeld2
          have hT8 := Aside0.mk (setRow_heap _ g8 _ (rowB 16 (double g)) _ _ B8.out)
          replace hT7 := Aside0.mk ((setRow_other _ g8 _ (rowB 16 (double g)) (by have := hne.out; omega)).trans hT7.out)
          refine done_ (by kernel_rfl) ?_
          go_wp2_with fail
          go_meet
          exact ⟨g7, g8, rfl, rfl, n7, n8, hne, ⟨hHeld⟩, hT7, hT8⟩
        · skip
          refine alloc25_ (by rfl) rfl rfl ?_
          intro g7 w' hg7 hle hb
          have n7 : w.heap.size + 1 + 1 + 1 < g7 := Nat.lt_of_lt_of_le (Four.lt hHeld) hle
          have B7 := Aside0.mk hg7
          have hne : Aside0 (g7 ≠ g8) := ⟨by have := blk_lt B8.out; omega⟩
          clear hle hg7
          replace B8 := Aside0.mk (block_below hb B8.out)
          refine hK.out _ _ ?_ (fun hHeld => ?_)
          · exact hHeld.below hb
          clear hK K
          refine norm_ (a' := ?_) ?_ ?_
          rotate_left
          · show Act.put _ (some 7) _ = _
            simp only [Act.put, List.setIfInBounds_toArray, List.set_cons_zero, List.set_cons_succ]
            rfl
          refine one_ (i := 3) (N := some 15) #[true, true, true, true, true, true, false, false] rfl rfl (by kernel_rfl) (by decide) (fun K hK => ?_)
          refine goes_ Try.func17 (by kernel_rfl) rfl #[.agg (rowB 16 g)] (by rfl) rfl rfl (by (try simp only [List.map_toArray, List.map_cons, List.map_nil]); first | done | rfl) ?_
          with_reducible refine (double_calls g _).mono ?_
          rintro e w' ⟨rfl, hb⟩
          refine ⟨_, rfl, ?_⟩
          replace B7 := Aside0.mk (block_below hb B7.out)
          replace B8 := Aside0.mk (block_below hb B8.out)
          refine hK.out _ _ ?_ (fun hHeld => ?_)
          · exact hHeld.below hb
          clear hK K
          refine norm_ (a' := ?_) ?_ ?_
          rotate_left
          · show Act.put _ (some 15) _ = _
            simp only [Act.put, List.setIfInBounds_toArray, List.set_cons_zero, List.set_cons_succ]
            rfl
          have hHeld2 := Aside0.mk (hHeld.row n7 (rowB 16 (double f)))
          refine one_store25 (i := 6) #[true, true, true, true, true, true, true, false] rfl rfl (by kernel_rfl) (by decide) (by rfl) _ _ rfl g7 (double f) (fun _ => 0#8) (by rfl) (by rfl) B7.out hHeld2.out (fun hHeld => ?_)
          clear hHeld2
          have hT7 := Aside0.mk (setRow_heap _ g7 _ (rowB 16 (double f)) _ _ B7.out)
          replace B8 := Aside0.mk ((setRow_other _ g7 _ (rowB 16 (double f)) (by have := hne.out; omega)).trans B8.out)
          have hHeld2 := Aside0.mk (hHeld.row n8 (rowB 16 (double g)))
          refine one_store25 (i := 7) #[true, true, true, true, true, true, true, true] rfl rfl (by kernel_rfl) (by decide) (by rfl) _ _ rfl g8 (double g) (fun _ => 0#8) (by rfl) (by rfl) B8.out hHeld2.out (fun hHeld => ?_)
          clear hHeld2
          have hT8 := Aside0.mk (setRow_heap _ g8 _ (rowB 16 (double g)) _ _ B8.out)
          replace hT7 := Aside0.mk ((setRow_other _ g8 _ (rowB 16 (double g)) (by have := hne.out; omega)).trans hT7.out)
          refine done_ (by kernel_rfl) ?_
          go_wp2_with fail
          go_meet
          exact ⟨g7, g8, rfl, rfl, n7, n8, hne, ⟨hHeld⟩, hT7, hT8⟩
      · skip
        refine alloc25_ (by rfl) rfl rfl ?_
        intro g7 w' hg7 hle hb
        have n7 : w.heap.size + 1 + 1 + 1 < g7 := Nat.lt_of_lt_of_le (Four.lt hHeld) hle
        have B7 := Aside0.mk hg7
        have hne : Aside0 (g7 ≠ g8) := ⟨by have := blk_lt B8.out; omega⟩
        clear hle hg7
        replace B8 := Aside0.mk (block_below hb B8.out)
        refine hK.out _ _ ?_ (fun hHeld => ?_)
        · exact hHeld.below hb
        clear hK K
        refine norm_ (a' := ?_) ?_ ?_
        rotate_left
        · show Act.put _ (some 7) _ = _
          simp only [Act.put, List.setIfInBounds_toArray, List.set_cons_zero, List.set_cons_succ]
          rfl
        refine one_ (i := 1) (N := some 13) #[true, true, true, false, true, true, false, false] rfl rfl (by kernel_rfl) (by decide) (fun K hK => ?_)
        refine goes_ Try.func17 (by kernel_rfl) rfl #[.agg (rowB 16 f)] (by rfl) rfl rfl (by (try simp only [List.map_toArray, List.map_cons, List.map_nil]); first | done | rfl) ?_
        with_reducible refine (double_calls f _).mono ?_
        rintro e w' ⟨rfl, hb⟩
        refine ⟨_, rfl, ?_⟩
        replace B7 := Aside0.mk (block_below hb B7.out)
        replace B8 := Aside0.mk (block_below hb B8.out)
        refine hK.out _ _ ?_ (fun hHeld => ?_)
        · exact hHeld.below hb
        clear hK K
        refine norm_ (a' := ?_) ?_ ?_
        rotate_left
        · show Act.put _ (some 13) _ = _
          simp only [Act.put, List.setIfInBounds_toArray, List.set_cons_zero, List.set_cons_succ]
          rfl
        refine one_ (i := 3) (N := some 15) #[true, true, true, true, true, true, false, false] rfl rfl (by kernel_rfl) (by decide) (fun K hK => ?_)
        refine goes_ Try.func17 (by kernel_rfl) rfl #[.agg (rowB 16 g)] (by rfl) rfl rfl (by (try simp only [List.map_toArray, List.map_cons, List.map_nil]); first | done | rfl) ?_
        with_reducible refine (double_calls g _).mono ?_
        rintro e w' ⟨rfl, hb⟩
        refine ⟨_, rfl, ?_⟩
        replace B7 := Aside0.mk (block_below hb B7.out)
        replace B8 := Aside0.mk (block_below hb B8.out)
        refine hK.out _ _ ?_ (fun hHeld => ?_)
        · exact hHeld.below hb
        clear hK K
        refine norm_ (a' := ?_) ?_ ?_
        rotate_left
        · show Act.put _ (some 15) _ = _
          simp only [Act.put, List.setIfInBounds_toArray, List.set_cons_zero, List.set_cons_succ]
          rfl
        have hHeld2 := Aside0.mk (hHeld.row n7 (rowB 16 (double f)))
        refine one_store25 (i := 6) #[true, true, true, true, true, true, true, false] rfl rfl (by kernel_rfl) (by decide) (by rfl) _ _ rfl g7 (double f) (fun _ => 0#8) (by rfl) (by rfl) B7.out hHeld2.out (fun hHeld => ?_)
        clear hHeld2
        have hT7 := Aside0.mk (setRow_heap _ g7 _ (rowB 16 (double f)) _ _ B7.out)
        replace B8 := Aside0.mk ((setRow_other _ g7 _ (rowB 16 (double f)) (by have := hne.out; omega)).trans B8.out)
        have hHeld2 := Aside0.mk (hHeld.row n8 (rowB 16 (double g)))
        refine one_store25 (i := 7) #[true, true, true, true, true, true, true, true] rfl rfl (by kernel_rfl) (by decide) (by rfl) _ _ rfl g8 (double g) (fun _ => 0#8) (by rfl) (by rfl) B8.out hHeld2.out (fun hHeld => ?_)
        clear hHeld2
        have hT8 := Aside0.mk (setRow_heap _ g8 _ (rowB 16 (double g)) _ _ B8.out)
        replace hT7 := Aside0.mk ((setRow_other _ g8 _ (rowB 16 (double g)) (by have := hne.out; omega)).trans hT7.out)
        refine done_ (by kernel_rfl) ?_
        go_wp2_with fail
        go_meet
        exact ⟨g7, g8, rfl, rfl, n7, n8, hne, ⟨hHeld⟩, hT7, hT8⟩
  case rest =>
    obtain ⟨g7, g8, rfl, rfl, n7, n8, hne, HF, H7, H8⟩ := hcut
    have hone := Aside0.mk (rowB_one 16 f)
    go_wp2_with fail
    go_loopw [16] (fun i wr => ∃ k : Nat, k ≤ 16 ∧ i = .int .i64 k ∧ Aside0 (Four w wr f g (sumK f g k) (sumK (double f) (double g) k)) ∧ Aside0 (wr.heap[g7]? = some (.cells (rowB 16 (double f)) 25 (0, 0))) ∧ Aside0 (wr.heap[g8]? = some (.cells (rowB 16 (double g)) 25 (0, 0)))) (fun i _ => 16 - (intOf i).toNat)
    case atStart => exact ⟨0, by omega, rfl, ⟨by rw [sumK_zero, sumK_zero]; exact HF.out⟩, H7, H8⟩
    case round =>
      clear HF H7 H8
      obtain ⟨k, hk, rfl, HF, H7, H8⟩ := hrel
      by_cases hlt : k < 16
      · have hd : decide ((k : Int) < 16) = true := decide_eq_true (by omega)
        have c1 : wr.cell? ⟨w.heap.size, k, none⟩ = some (.int .u8 (toI (f k))) := (blk_cell HF.out.1 k).trans (rowB_get _ _ k hlt)
        have c2 : wr.cell? ⟨w.heap.size + 1, k, none⟩ = some (.int .u8 (toI (g k))) := (blk_cell HF.out.2.1 k).trans (rowB_get _ _ k hlt)
        have c3 : wr.cell? ⟨w.heap.size + 1 + 1, k, none⟩ = some (.int .u8 (toI (sumK f g k k))) := (blk_cell HF.out.2.2.1 k).trans (rowB_get _ _ k hlt)
        have z3 : wr.frozen? ⟨w.heap.size + 1 + 1, k, none⟩ = false := blk_frozen HF.out.2.2.1 k
        have c4 : wr.cell? ⟨w.heap.size + 1 + 1 + 1, k, none⟩ = some (.int .u8 (toI (sumK (double f) (double g) k k))) := (blk_cell HF.out.2.2.2.1 k).trans (rowB_get _ _ k hlt)
        have z4 : wr.frozen? ⟨w.heap.size + 1 + 1 + 1, k, none⟩ = false := blk_frozen HF.out.2.2.2.1 k
        have c7 : wr.cell? ⟨g7, k, none⟩ = some (.int .u8 (toI (double f k))) := (blk_cell H7.out k).trans (rowB_get _ _ k hlt)
        have c8 : wr.cell? ⟨g8, k, none⟩ = some (.int .u8 (toI (double g k))) := (blk_cell H8.out k).trans (rowB_get _ _ k hlt)
        have x1 := xor_toI (f k) (g k)
        have x2 := xor_toI (double f k) (double g k)
        go_wp2_with fail
        go_region
        all_goals (go_wp2_with fail)
        all_goals go_region
        all_goals (go_wp2_with fail)
        all_goals go_roundw
        case measure => simp [intOf]; omega
        case rel =>
          refine ⟨k + 1, by omega, by go_num, ⟨?_⟩, ⟨?_⟩, ⟨?_⟩⟩
          · have := ((HF.out.set3 k (f k ^^^ g k)).set4 k (double f k ^^^ double g k)).drew.drew
            rw [sumK_next, sumK_next] at this
            exact this
          · exact blk_far (blk_far H7.out (by simp; omega) _) (by simp; omega) _
          · exact blk_far (blk_far H8.out (by simp; omega) _) (by simp; omega) _
      · have hd : decide ((k : Int) < 16) = false := decide_eq_false (by omega)
        replace HF := Aside0.mk (HF.out.swap (sumK_end f g k (by omega)) (sumK_end (double f) (double g) k (by omega)))
        go_wp2_with fail
        refine start_ (n := 33) (S := fun W => Four w W f g (xorF f g) (xorF (double f) (double g)) ∧ W.heap[g7]? = some (.cells (rowB 16 (double f)) 25 (0, 0)) ∧ W.heap[g8]? = some (.cells (rowB 16 (double g)) 25 (0, 0))) (ds := []) #[false, false, false, false, false, false, false, false, false, false, false, false, false, false, false, false, false, false, false, false, false, false, false, false, false, false, false, false, false, false, false, false, false] (by kernel_rfl) rfl rfl ⟨HF.out.drew, H7.out, H8.out⟩ (fun hHeld => ?_)
        clear HF H7 H8
        generalize wr.drew = W1 at *
        refine take_ (i := 0) (N := some 38) (v := _) (a' := ?_) #[true, false, false, false, false, false, false, false, false, false, false, false, false, false, false, false, false, false, false, false, false, false, false, false, false, false, false, false, false, false, false, false, false] rfl rfl (by kernel_rfl) (fun _ _ _ h => h) (yields_row (by rfl) _ rfl (w.heap.size + 1 + 1) (by rfl) (xorF f g) (fun _ h => h.1.2.2.1)) hHeld ?_ ?_
        rotate_left
        · simp only [Act.put, List.setIfInBounds_toArray, List.set_cons_zero, List.set_cons_succ]
          rfl
        refine take_ (i := 2) (N := some 40) (v := _) (a' := ?_) #[true, false, true, false, false, false, false, false, false, false, false, false, false, false, false, false, false, false, false, false, false, false, false, false, false, false, false, false, false, false, false, false, false] rfl rfl (by kernel_rfl) (fun _ _ _ h => h) (yields_row (by rfl) _ rfl (w.heap.size + 1 + 1 + 1) (by rfl) (xorF (double f) (double g)) (fun _ h => h.1.2.2.2.1)) hHeld ?_ ?_
        rotate_left
        · simp only [Act.put, List.setIfInBounds_toArray, List.set_cons_zero, List.set_cons_succ]
          rfl
        refine one_ (i := 1) (N := some 39) #[true, true, true, false, false, false, false, false, false, false, false, false, false, false, false, false, false, false, false, false, false, false, false, false, false, false, false, false, false, false, false, false, false] rfl rfl (by kernel_rfl) (by decide) (fun K hK => ?_)
        refine goes_ Try.func17 (by kernel_rfl) rfl #[.agg (rowB 16 (xorF f g))] (by rfl) rfl rfl (by (try simp only [List.map_toArray, List.map_cons, List.map_nil]); first | done | rfl) ?_
        with_reducible refine (double_sum f g _).mono ?_
        rintro e w' ⟨rfl, hb⟩
        refine ⟨_, rfl, ?_⟩
        refine hK.out _ _ ⟨hHeld.1.below hb, block_below hb hHeld.2.1, block_below hb hHeld.2.2⟩ (fun hHeld => ?_)
        clear hK K
        refine norm_ (a' := ?_) ?_ ?_
        rotate_left
        · show Act.put _ (some 39) _ = _
          simp only [Act.put, List.setIfInBounds_toArray, List.set_cons_zero, List.set_cons_succ]
          rfl
        refine pure_ (i := 3) (N := some 41) (v := ?_) (a' := ?_) #[true, true, true, true, false, false, false, false, false, false, false, false, false, false, false, false, false, false, false, false, false, false, false, false, false, false, false, false, false, false, false, false, false] rfl rfl (by kernel_rfl) (fun _ _ _ h => h) (Or.inl ⟨by rfl, ?_⟩) ?_ ?_
        rotate_left
        · intro w'
          go_simp
          with_reducible rfl
        rotate_left
        · simp only [Act.put, List.setIfInBounds_toArray, List.set_cons_zero, List.set_cons_succ]
          rfl
        refine pure_ (i := 4) (N := some 42) (v := ?_) (a' := ?_) #[true, true, true, true, true, false, false, false, false, false, false, false, false, false, false, false, false, false, false, false, false, false, false, false, false, false, false, false, false, false, false, false, false] rfl rfl (by kernel_rfl) (fun _ _ _ h => h) (Or.inl ⟨by rfl, ?_⟩) ?_ ?_
        rotate_left
        · intro w'
          go_simp
          with_reducible rfl
        rotate_left
        · simp only [Act.put, List.setIfInBounds_toArray, List.set_cons_zero, List.set_cons_succ]
          rfl
        refine take_ (i := 5) (N := some 43) (v := _) (a' := ?_) #[true, true, true, true, true, true, false, false, false, false, false, false, false, false, false, false, false, false, false, false, false, false, false, false, false, false, false, false, false, false, false, false, false] rfl rfl (by kernel_rfl) (fun _ _ _ h => h) (yields_row (by rfl) _ rfl (w.heap.size) (by rfl) (f) (fun _ h => h.1.1)) hHeld ?_ ?_
        rotate_left
        · simp only [Act.put, List.setIfInBounds_toArray, List.set_cons_zero, List.set_cons_succ]
          rfl
        refine take_ (i := 6) (N := some 44) (v := _) (a' := ?_) #[true, true, true, true, true, true, true, false, false, false, false, false, false, false, false, false, false, false, false, false, false, false, false, false, false, false, false, false, false, false, false, false, false] rfl rfl (by kernel_rfl) (fun _ _ _ h => h) (yields_row (by rfl) _ rfl (w.heap.size + 1) (by rfl) (g) (fun _ h => h.1.2.1)) hHeld ?_ ?_
        rotate_left
        · simp only [Act.put, List.setIfInBounds_toArray, List.set_cons_zero, List.set_cons_succ]
          rfl
        refine take_ (i := 8) (N := some 46) (v := _) (a' := ?_) #[true, true, true, true, true, true, true, false, true, false, false, false, false, false, false, false, false, false, false, false, false, false, false, false, false, false, false, false, false, false, false, false, false] rfl rfl (by kernel_rfl) (fun _ _ _ h => h) (yields_row (by rfl) _ rfl (g7) (by rfl) (double f) (fun _ h => h.2.1)) hHeld ?_ ?_
        rotate_left
        · simp only [Act.put, List.setIfInBounds_toArray, List.set_cons_zero, List.set_cons_succ]
          rfl
        refine take_ (i := 9) (N := some 47) (v := _) (a' := ?_) #[true, true, true, true, true, true, true, false, true, true, false, false, false, false, false, false, false, false, false, false, false, false, false, false, false, false, false, false, false, false, false, false, false] rfl rfl (by kernel_rfl) (fun _ _ _ h => h) (yields_row (by rfl) _ rfl (g8) (by rfl) (double g) (fun _ h => h.2.2)) hHeld ?_ ?_
        rotate_left
        · simp only [Act.put, List.setIfInBounds_toArray, List.set_cons_zero, List.set_cons_succ]
          rfl
        refine pure_ (i := 7) (N := some 45) (v := ?_) (a' := ?_) #[true, true, true, true, true, true, true, true, true, true, false, false, false, false, false, false, false, false, false, false, false, false, false, false, false, false, false, false, false, false, false, false, false] rfl rfl (by kernel_rfl) (fun _ _ _ h => h) (Or.inl ⟨by rfl, ?_⟩) ?_ ?_
        rotate_left
        · intro w'
          go_simp
          with_reducible rfl
        rotate_left
        · simp only [Act.put, List.setIfInBounds_toArray, List.set_cons_zero, List.set_cons_succ]
          rfl
        refine pure_ (i := 10) (N := some 48) (v := ?_) (a' := ?_) #[true, true, true, true, true, true, true, true, true, true, true, false, false, false, false, false, false, false, false, false, false, false, false, false, false, false, false, false, false, false, false, false, false] rfl rfl (by kernel_rfl) (fun _ _ _ h => h) (Or.inl ⟨by rfl, ?_⟩) ?_ ?_
        rotate_left
        · intro w'
          go_simp
          with_reducible rfl
        rotate_left
        · simp only [Act.put, List.setIfInBounds_toArray, List.set_cons_zero, List.set_cons_succ]
          rfl
        refine pure_ (i := 11) (N := some 49) (v := ?_) (a' := ?_) #[true, true, true, true, true, true, true, true, true, true, true, true, false, false, false, false, false, false, false, false, false, false, false, false, false, false, false, false, false, false, false, false, false] rfl rfl (by kernel_rfl) (fun _ _ _ h => h) (Or.inl ⟨by rfl, ?_⟩) ?_ ?_
        rotate_left
        · intro w'
          go_simp
          with_reducible rfl
        rotate_left
        · simp only [Act.put, List.setIfInBounds_toArray, List.set_cons_zero, List.set_cons_succ]
          rfl
        refine pure_ (i := 12) (N := some 50) (v := ?_) (a' := ?_) #[true, true, true, true, true, true, true, true, true, true, true, true, true, false, false, false, false, false, false, false, false, false, false, false, false, false, false, false, false, false, false, false, false] rfl rfl (by kernel_rfl) (fun _ _ _ h => h) (Or.inl ⟨by rfl, ?_⟩) ?_ ?_
        rotate_left
        · intro w'
          go_simp
          with_reducible rfl
        rotate_left
        · simp only [Act.put, List.setIfInBounds_toArray, List.set_cons_zero, List.set_cons_succ]
          rfl
        refine pure_ (i := 13) (N := some 51) (v := ?_) (a' := ?_) #[true, true, true, true, true, true, true, true, true, true, true, true, true, true, false, false, false, false, false, false, false, false, false, false, false, false, false, false, false, false, false, false, false] rfl rfl (by kernel_rfl) (fun _ _ _ h => h) (Or.inl ⟨by rfl, ?_⟩) ?_ ?_
        rotate_left
        · intro w'
          go_simp
          with_reducible rfl
        rotate_left
        · simp only [Act.put, List.setIfInBounds_toArray, List.set_cons_zero, List.set_cons_succ]
          rfl
        refine take_ (i := 14) (N := some 52) (v := _) (a' := ?_) #[true, true, true, true, true, true, true, true, true, true, true, true, true, true, true, false, false, false, false, false, false, false, false, false, false, false, false, false, false, false, false, false, false] rfl rfl (by kernel_rfl) (fun _ _ _ h => h) (yields_row (by rfl) _ rfl (w.heap.size) (by rfl) (f) (fun _ h => h.1.1)) hHeld ?_ ?_
        rotate_left
        · simp only [Act.put, List.setIfInBounds_toArray, List.set_cons_zero, List.set_cons_succ]
          rfl
        refine take_ (i := 16) (N := some 54) (v := _) (a' := ?_) #[true, true, true, true, true, true, true, true, true, true, true, true, true, true, true, false, true, false, false, false, false, false, false, false, false, false, false, false, false, false, false, false, false] rfl rfl (by kernel_rfl) (fun _ _ _ h => h) (yields_row (by rfl) _ rfl (g7) (by rfl) (double f) (fun _ h => h.2.1)) hHeld ?_ ?_
        rotate_left
        · simp only [Act.put, List.setIfInBounds_toArray, List.set_cons_zero, List.set_cons_succ]
          rfl
        refine one_ (i := 15) (N := some 53) #[true, true, true, true, true, true, true, true, true, true, true, true, true, true, true, true, true, false, false, false, false, false, false, false, false, false, false, false, false, false, false, false, false] rfl rfl (by kernel_rfl) (by decide) (fun K hK => ?_)
        refine goes_ Try.func19 (by kernel_rfl) rfl #[.agg (rowB 16 f), .int .i64 2] (by rfl) rfl rfl (by (try simp only [List.map_toArray, List.map_cons, List.map_nil]); first | done | rfl) ?_
        with_reducible refine (doubled_two f _).mono ?_
        rintro e w' ⟨rfl, hb⟩
        refine ⟨_, rfl, ?_⟩
        refine hK.out _ _ ⟨hHeld.1.below hb, block_below hb hHeld.2.1, block_below hb hHeld.2.2⟩ (fun hHeld => ?_)
        clear hK K
        refine norm_ (a' := ?_) ?_ ?_
        rotate_left
        · show Act.put _ (some 53) _ = _
          simp only [Act.put, List.setIfInBounds_toArray, List.set_cons_zero, List.set_cons_succ]
          rfl
        refine one_ (i := 17) (N := some 55) #[true, true, true, true, true, true, true, true, true, true, true, true, true, true, true, true, true, true, false, false, false, false, false, false, false, false, false, false, false, false, false, false, false] rfl rfl (by kernel_rfl) (by decide) (fun K hK => ?_)
        refine goes_ Try.func17 (by kernel_rfl) rfl #[.agg (rowB 16 (double f))] (by rfl) rfl rfl (by (try simp only [List.map_toArray, List.map_cons, List.map_nil]); first | done | rfl) ?_
        with_reducible refine (double_calls (double f) _).mono ?_
        rintro e w' ⟨rfl, hb⟩
        refine ⟨_, rfl, ?_⟩
        refine hK.out _ _ ⟨hHeld.1.below hb, block_below hb hHeld.2.1, block_below hb hHeld.2.2⟩ (fun hHeld => ?_)
        clear hK K
        refine norm_ (a' := ?_) ?_ ?_
        rotate_left
        · show Act.put _ (some 55) _ = _
          simp only [Act.put, List.setIfInBounds_toArray, List.set_cons_zero, List.set_cons_succ]
          rfl
        refine pure_ (i := 18) (N := some 56) (v := ?_) (a' := ?_) #[true, true, true, true, true, true, true, true, true, true, true, true, true, true, true, true, true, true, true, false, false, false, false, false, false, false, false, false, false, false, false, false, false] rfl rfl (by kernel_rfl) (fun _ _ _ h => h) (Or.inl ⟨by rfl, ?_⟩) ?_ ?_
        rotate_left
        · intro w'
          go_simp
          with_reducible rfl
        rotate_left
        · simp only [Act.put, List.setIfInBounds_toArray, List.set_cons_zero, List.set_cons_succ]
          rfl
        refine pure_ (i := 19) (N := some 57) (v := ?_) (a' := ?_) #[true, true, true, true, true, true, true, true, true, true, true, true, true, true, true, true, true, true, true, true, false, false, false, false, false, false, false, false, false, false, false, false, false] rfl rfl (by kernel_rfl) (fun _ _ _ h => h) (Or.inl ⟨by rfl, ?_⟩) ?_ ?_
        rotate_left
        · intro w'
          go_simp
          with_reducible rfl
        rotate_left
        · simp only [Act.put, List.setIfInBounds_toArray, List.set_cons_zero, List.set_cons_succ]
          rfl
        refine pure_ (i := 20) (N := some 58) (v := ?_) (a' := ?_) #[true, true, true, true, true, true, true, true, true, true, true, true, true, true, true, true, true, true, true, true, true, false, false, false, false, false, false, false, false, false, false, false, false] rfl rfl (by kernel_rfl) (fun _ _ _ h => h) (Or.inl ⟨by rfl, ?_⟩) ?_ ?_
        rotate_left
        · intro w'
          go_simp
          with_reducible rfl
        rotate_left
        · simp only [Act.put, List.setIfInBounds_toArray, List.set_cons_zero, List.set_cons_succ]
          rfl
        refine take_ (i := 21) (N := some 59) (v := _) (a' := ?_) #[true, true, true, true, true, true, true, true, true, true, true, true, true, true, true, true, true, true, true, true, true, true, false, false, false, false, false, false, false, false, false, false, false] rfl rfl (by kernel_rfl) (fun _ _ _ h => h) (yields_row (by rfl) _ rfl (w.heap.size) (by rfl) (f) (fun _ h => h.1.1)) hHeld ?_ ?_
        rotate_left
        · simp only [Act.put, List.setIfInBounds_toArray, List.set_cons_zero, List.set_cons_succ]
          rfl
        refine take_ (i := 23) (N := some 61) (v := _) (a' := ?_) #[true, true, true, true, true, true, true, true, true, true, true, true, true, true, true, true, true, true, true, true, true, true, false, true, false, false, false, false, false, false, false, false, false] rfl rfl (by kernel_rfl) (fun _ _ _ h => h) (yields_row (by rfl) _ rfl (w.heap.size) (by rfl) (f) (fun _ h => h.1.1)) hHeld ?_ ?_
        rotate_left
        · simp only [Act.put, List.setIfInBounds_toArray, List.set_cons_zero, List.set_cons_succ]
          rfl
        refine one_ (i := 22) (N := some 60) #[true, true, true, true, true, true, true, true, true, true, true, true, true, true, true, true, true, true, true, true, true, true, true, true, false, false, false, false, false, false, false, false, false] rfl rfl (by kernel_rfl) (by decide) (fun K hK => ?_)
        refine goes_ Try.func19 (by kernel_rfl) rfl #[.agg (rowB 16 f), .int .i64 0] (by rfl) rfl rfl (by (try simp only [List.map_toArray, List.map_cons, List.map_nil]); first | done | rfl) ?_
        with_reducible refine (doubled_none f 0 (by omega) _).mono ?_
        rintro e w' ⟨rfl, hb⟩
        refine ⟨_, rfl, ?_⟩
        refine hK.out _ _ ⟨hHeld.1.below hb, block_below hb hHeld.2.1, block_below hb hHeld.2.2⟩ (fun hHeld => ?_)
        clear hK K
        refine norm_ (a' := ?_) ?_ ?_
        rotate_left
        · show Act.put _ (some 60) _ = _
          simp only [Act.put, List.setIfInBounds_toArray, List.set_cons_zero, List.set_cons_succ]
          rfl
        refine pure_ (i := 24) (N := some 62) (v := ?_) (a' := ?_) #[true, true, true, true, true, true, true, true, true, true, true, true, true, true, true, true, true, true, true, true, true, true, true, true, true, false, false, false, false, false, false, false, false] rfl rfl (by kernel_rfl) (fun _ _ _ h => h) (Or.inl ⟨by rfl, ?_⟩) ?_ ?_
        rotate_left
        · intro w'
          go_simp
          with_reducible rfl
        rotate_left
        · simp only [Act.put, List.setIfInBounds_toArray, List.set_cons_zero, List.set_cons_succ]
          rfl
        refine pure_ (i := 25) (N := some 63) (v := ?_) (a' := ?_) #[true, true, true, true, true, true, true, true, true, true, true, true, true, true, true, true, true, true, true, true, true, true, true, true, true, true, false, false, false, false, false, false, false] rfl rfl (by kernel_rfl) (fun _ _ _ h => h) (Or.inl ⟨by rfl, ?_⟩) ?_ ?_
        rotate_left
        · intro w'
          go_simp
          with_reducible rfl
        rotate_left
        · simp only [Act.put, List.setIfInBounds_toArray, List.set_cons_zero, List.set_cons_succ]
          rfl
        refine pure_ (i := 26) (N := some 64) (v := ?_) (a' := ?_) #[true, true, true, true, true, true, true, true, true, true, true, true, true, true, true, true, true, true, true, true, true, true, true, true, true, true, true, false, false, false, false, false, false] rfl rfl (by kernel_rfl) (fun _ _ _ h => h) (Or.inl ⟨by rfl, ?_⟩) ?_ ?_
        rotate_left
        · intro w'
          go_simp
          with_reducible rfl
        rotate_left
        · simp only [Act.put, List.setIfInBounds_toArray, List.set_cons_zero, List.set_cons_succ]
          rfl
        refine take_ (i := 27) (N := some 65) (v := _) (a' := ?_) #[true, true, true, true, true, true, true, true, true, true, true, true, true, true, true, true, true, true, true, true, true, true, true, true, true, true, true, true, false, false, false, false, false] rfl rfl (by kernel_rfl) (fun _ _ _ h => h) (yields_row (by rfl) _ rfl (w.heap.size) (by rfl) (f) (fun _ h => h.1.1)) hHeld ?_ ?_
        rotate_left
        · simp only [Act.put, List.setIfInBounds_toArray, List.set_cons_zero, List.set_cons_succ]
          rfl
        refine take_ (i := 29) (N := some 67) (v := _) (a' := ?_) #[true, true, true, true, true, true, true, true, true, true, true, true, true, true, true, true, true, true, true, true, true, true, true, true, true, true, true, true, false, true, false, false, false] rfl rfl (by kernel_rfl) (fun _ _ _ h => h) (yields_row (by rfl) _ rfl (w.heap.size) (by rfl) (f) (fun _ h => h.1.1)) hHeld ?_ ?_
        rotate_left
        · simp only [Act.put, List.setIfInBounds_toArray, List.set_cons_zero, List.set_cons_succ]
          rfl
        refine one_ (i := 28) (N := some 66) #[true, true, true, true, true, true, true, true, true, true, true, true, true, true, true, true, true, true, true, true, true, true, true, true, true, true, true, true, true, true, false, false, false] rfl rfl (by kernel_rfl) (by decide) (fun K hK => ?_)
        refine goes_ Try.func19 (by kernel_rfl) rfl #[.agg (rowB 16 f), .int .i64 (-1)] (by rfl) rfl rfl (by (try simp only [List.map_toArray, List.map_cons, List.map_nil]); first | done | rfl) ?_
        with_reducible refine (doubled_none f (-1) (by omega) _).mono ?_
        rintro e w' ⟨rfl, hb⟩
        refine ⟨_, rfl, ?_⟩
        refine hK.out _ _ ⟨hHeld.1.below hb, block_below hb hHeld.2.1, block_below hb hHeld.2.2⟩ (fun hHeld => ?_)
        clear hK K
        refine norm_ (a' := ?_) ?_ ?_
        rotate_left
        · show Act.put _ (some 66) _ = _
          simp only [Act.put, List.setIfInBounds_toArray, List.set_cons_zero, List.set_cons_succ]
          rfl
        refine pure_ (i := 30) (N := some 68) (v := ?_) (a' := ?_) #[true, true, true, true, true, true, true, true, true, true, true, true, true, true, true, true, true, true, true, true, true, true, true, true, true, true, true, true, true, true, true, false, false] rfl rfl (by kernel_rfl) (fun _ _ _ h => h) (Or.inl ⟨by rfl, ?_⟩) ?_ ?_
        rotate_left
        · intro w'
          go_simp
          with_reducible rfl
        rotate_left
        · simp only [Act.put, List.setIfInBounds_toArray, List.set_cons_zero, List.set_cons_succ]
          rfl
        refine pure_ (i := 31) (N := some 69) (v := ?_) (a' := ?_) #[true, true, true, true, true, true, true, true, true, true, true, true, true, true, true, true, true, true, true, true, true, true, true, true, true, true, true, true, true, true, true, true, false] rfl rfl (by kernel_rfl) (fun _ _ _ h => h) (Or.inl ⟨by rfl, ?_⟩) ?_ ?_
        rotate_left
        · intro w'
          go_simp
          with_reducible rfl
        rotate_left
        · simp only [Act.put, List.setIfInBounds_toArray, List.set_cons_zero, List.set_cons_succ]
          rfl
        refine pure_ (i := 32) (N := some 4) (v := ?_) (a' := ?_) #[true, true, true, true, true, true, true, true, true, true, true, true, true, true, true, true, true, true, true, true, true, true, true, true, true, true, true, true, true, true, true, true, true] rfl rfl (by kernel_rfl) (fun _ _ _ h => h) (Or.inl ⟨by rfl, ?_⟩) ?_ ?_
        rotate_left
        · intro w'
          go_simp
          with_reducible rfl
        rotate_left
        · simp only [Act.put, List.setIfInBounds_toArray, List.set_cons_zero, List.set_cons_succ]
          rfl
        refine done_ (by kernel_rfl) ?_
        go_wp2
        go_ret
        exact ⟨rfl, hHeld.1.2.2.2.2⟩
theorem walk_row (f g : Nat → F) (w : World) : Calls Try.prog 5 #[.agg (rowB 16 f), .agg (rowB 16 g)] w fun e w' => e = .returned (.bool true) ∧ Below w.heap.size w w' := walk f g w
end Go.Proofs.Ytphoelhelmnibaa.WkGfApart
