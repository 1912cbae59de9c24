/-
The statement SplitSplits, in plain terms: for any secret and any rows the answer is true.
-/
import Derived.Test.YtphoelhelmnibaaSl
import Derived.Test.YtphoelhelmnibaaAw
import Derived.Test.YtphoelhelmnibaaPQs
namespace Go.Proofs.Ytphoelhelmnibaa.Ss
open Go.RowKit Go.Proofs.Ytphoelhelmnibaa.Gf Go.Proofs.Ytphoelhelmnibaa.Pl Go.Proofs.Ytphoelhelmnibaa.Pv Go.Proofs.Ytphoelhelmnibaa.Pw Go.Proofs.Ytphoelhelmnibaa.Op Go.Proofs.Ytphoelhelmnibaa.Sl Go.Proofs.Ytphoelhelmnibaa.Aw Go.Proofs.Ytphoelhelmnibaa.PQ Go.Proofs.YtphoelhelmnibaaW.PrintWords Go.Proofs.YtphoelhelmnibaaW.PrintLast
/-- The innermost loop: the bytes of a share. -/
theorem bytes_loop (s : List F) (rows : List (List F)) (he : ∀ r ∈ rows, r.length = s.length) (hr : rows.length < 2 ^ 20) (hs : s.length < 2 ^ 20) (i : Nat) (hi : i < 255) (n : Nat) (l : List S54) (K : Nat) (r : Option Bool) : ∀ (d t k : Nat), t + d = s.length → K + d + rows.length + 40 ≤ k →
    (∀ k', K ≤ k' → chatelainelaw45_SplitSplits.l1 k' (byI s) (rws rows) l (n : Int) ((i + 1 : Nat) : Int) = r) →
    chatelainelaw45_SplitSplits.l2 k (byI s) (rws rows) (i : Int) l (n : Int) (i : Int) (s.length : Int) (t : Int) (toI (plc (i + 1))) (byI (dealt s rows (plc (i + 1)))) = r
  | 0, t, k, hd, hk, h => by
    obtain ⟨k, rfl⟩ : ∃ m, k = m + 1 := ⟨k - 1, by omega⟩
    rw [chatelainelaw45_SplitSplits.l2, if_neg (by omega), show wrap64 ((i : Int) + 1) = ((i + 1 : Nat) : Int) by unfold wrap64; omega]
    exact h k (by omega)
  | d + 1, t, k, hd, hk, h => by
    obtain ⟨k, rfl⟩ : ∃ m, k = m + 1 := ⟨k - 1, by omega⟩
    have ht : t < s.length := by omega
    have e1 : wrap64 ((i : Int) + 1) = toI (plc (i + 1)) := by rw [toI_plc _ (by omega)]; unfold wrap64; omega
    have e2 : wrap64 ((t : Int) + 1) = ((t + 1 : Nat) : Int) := by unfold wrap64; omega
    have e3 : (dealt s rows (plc (i + 1)))[t]'(by rw [dealt_length]; exact ht) = ev (coef s rows t) (plc (i + 1)) := by simp [dealt]
    rw [chatelainelaw45_SplitSplits.l2, if_pos (by omega), if_pos (by omega), if_pos (by rw [byI_length, dealt_length]; omega), row_eq s rows (by omega) t ht (fun r hr' => by rw [he r hr']; exact ht) k (by omega), Option.bind_some, e1, ref_value_eq _ _ (by rw [coef_length]; omega) k (by rw [coef_length]; omega), Option.bind_some, rd_byI _ t (by rw [dealt_length]; exact ht), e3, wrap64_toI, if_pos rfl, e2]
    exact bytes_loop s rows he hr hs i hi n l K r d (t + 1) k (by omega) (by omega) h
/-- The outer loop: all shares are as the document says. -/
theorem shares_loop (B : Nat) (hB : 45 ≤ B) (s : List F) (rows : List (List F)) (he : ∀ r ∈ rows, r.length = s.length) (hr : rows.length < 2 ^ 20) (hs : s.length < 2 ^ 20) (n : Nat) (hn : n ≤ 255) : ∀ (d i k : Nat), i + d = n → d * (s.length + rows.length + B) + B ≤ k →
    chatelainelaw45_SplitSplits.l1 k (byI s) (rws rows) (shs (deal s rows n)) (n : Int) (i : Int) = some true
  | 0, i, k, hd, hk => by
    obtain ⟨k, rfl⟩ : ∃ m, k = m + 1 := ⟨k - 1, by omega⟩
    rw [chatelainelaw45_SplitSplits.l1, if_neg (by omega)]
  | d + 1, i, k, hd, hk => by
    have hm : (d + 1) * (s.length + rows.length + B) = d * (s.length + rows.length + B) + (s.length + rows.length + B) := Nat.succ_mul _ _
    rw [hm] at hk
    generalize hK : d * (s.length + rows.length + B) = K at hk
    obtain ⟨k, rfl⟩ : ∃ m, k = m + 1 := ⟨k - 1, by omega⟩
    obtain ⟨k, rfl⟩ : ∃ m, k = m + 1 := ⟨k - 1, by omega⟩
    have hi : i < (deal s rows n).length := by rw [deal_length]; omega
    have e1 : wrap64 ((i : Int) + 1) = toI (plc (i + 1)) := by rw [toI_plc _ (by omega)]; unfold wrap64; omega
    have e5 : rd_T54 (shs (deal s rows n)) (i : Int) = ⟨toI (plc (i + 1)), byI (dealt s rows (plc (i + 1)))⟩ := by
      rw [rd_shs _ i hi, deal_get s rows n i (by omega)]
      rfl
    rw [chatelainelaw45_SplitSplits.l1, if_pos (by omega), if_pos (by omega), if_pos (by rw [shs_length, deal_length]; omega), e5]
    dsimp only
    rw [if_pos (by rw [e1, wrap64_toI]), byI_length, byI_length, dealt_length]
    have hd0 : ((s.length : Int) != (s.length : Int)) = false := by simp
    rw [hd0, chatelainelaw45_SplitSplits.j5, if_neg (by simp), byI_length]
    refine bytes_loop s rows he hr hs i (by omega) n _ (K + B) (some true) s.length 0 k (by omega) (by omega) ?_
    intro k' hk'
    exact shares_loop B hB s rows he hr hs n hn d (i + 1) k' (by omega) (by rw [hK]; exact hk')
/-- The loop over the rows: is each as long as the secret? (The last one decides, if all is well so far.) -/
theorem rows_loop (s : List F) (rows : List (List F)) (hr : rows.length ≤ 9223372036854775807) (n e : Int) (l : List S54) (K : Nat) (r : Option Bool) : ∀ (d i k : Nat) (b : Bool), i + d = rows.length → K + d + 1 ≤ k →
    (∀ k', K ≤ k' → (if (b && (rows.drop i).all fun x => decide (x.length = s.length)) = true then (if e = 0 then (chatelainelaw45_SplitSplits.j3 k' (byI s) (rws rows) l ((l.length : Int) != n)) else (chatelainelaw45_SplitSplits.j3 k' (byI s) (rws rows) l true)) else (if e = 2 then (some ((l.length : Int) == 0)) else (some false))) = r) →
    chatelainelaw45_SplitSplits.l0 k (byI s) n (rws rows) l e b (rws rows) (rows.length : Int) (i : Int) = r
  | 0, i, k, b, hd, hk, h => by
    obtain ⟨k, rfl⟩ : ∃ m, k = m + 1 := ⟨k - 1, by omega⟩
    have h' := h k (by omega)
    rw [List.drop_eq_nil_of_le (by omega), List.all_nil, Bool.and_true] at h'
    rw [chatelainelaw45_SplitSplits.l0, if_neg (by omega)]
    exact h'
  | d + 1, i, k, b, hd, hk, h => by
    obtain ⟨k, rfl⟩ : ∃ m, k = m + 1 := ⟨k - 1, by omega⟩
    have hi : i < rows.length := by omega
    have ej : wrap64 ((i : Int) + 1) = ((i + 1 : Nat) : Int) := by unfold wrap64; omega
    rw [chatelainelaw45_SplitSplits.l0, if_pos (by omega), if_pos (by omega), if_pos (by rw [rws_length]; omega), ej]
    cases b
    · rw [if_neg (by simp)]
      refine rows_loop s rows hr n e l K r d (i + 1) k false (by omega) (by omega) ?_
      intro k' hk'
      have := h k' hk'
      rw [Bool.false_and] at this ⊢
      exact this
    · rw [if_pos rfl, rd_rws rows i hi, byI_length, byI_length]
      refine rows_loop s rows hr n e l K r d (i + 1) k _ (by omega) (by omega) ?_
      intro k' hk'
      have := h k' hk'
      rw [List.drop_eq_getElem_cons hi, List.all_cons, Bool.true_and] at this
      have e1 : ((rows[i].length : Int) == (s.length : Int)) = decide (rows[i].length = s.length) := by
        rw [Bool.eq_iff_iff, beq_iff_eq, decide_eq_true_eq]; omega
      rw [e1]
      exact this
theorem splits_true (s : List F) (hs : s.length ≤ 9223372036854775807) (n kk : Int) (rows : List (List F)) (hr : rows.length ≤ 9223372036854775807) : ∃ K, ∀ k, K ≤ k →
    chatelainelaw45_SplitSplits.f k (byI s) n (rws rows) (if may s n kk rows = true then shs (deal s rows n.toNat) else []) kk (if may s n kk rows = true then 0 else 2) = some true := by
  obtain ⟨K0, hK0⟩ : ∃ x, 255 * (s.length + rows.length + 45) + 45 ≤ x := ⟨_, Nat.le_refl _⟩
  refine ⟨rows.length + K0 + 200, fun k hk => ?_⟩
  obtain ⟨k, rfl⟩ : ∃ m, k = m + 5 := ⟨k - 5, by omega⟩
  have hj : ∀ n kk l e, chatelainelaw45_SplitSplits.j0 (k + 5) (byI s) n (rws rows) l kk e true = some true := fun n kk l e => by rw [chatelainelaw45_SplitSplits.j0, if_pos rfl]
  unfold chatelainelaw45_SplitSplits.f
  rw [awake_eq _ (by omega), Option.bind_some, if_pos rfl, few_eq s rows hr _ (by omega), Option.bind_some]
  by_cases hf : fewB s rows rows = true
  · rw [if_pos hf]
    have hsz : s.length ≤ 40 ∧ rows.length ≤ 8 := by
      unfold fewB at hf
      rw [Bool.and_eq_true, Bool.and_eq_true, decide_eq_true_eq, decide_eq_true_eq] at hf
      exact hf.2
    have hgo : chatelainelaw45_SplitSplits.j0 (k + 5) (byI s) n (rws rows) (if may s n kk rows = true then shs (deal s rows n.toNat) else []) kk (if may s n kk rows = true then 0 else 2) false = some true := by
      have tail : ∀ b : Bool, (b && rows.all fun x => decide (x.length = s.length)) = may s n kk rows →
          chatelainelaw45_SplitSplits.j1 (k + 4) (byI s) n (rws rows) (if may s n kk rows = true then shs (deal s rows n.toNat) else []) (if may s n kk rows = true then 0 else 2) b = some true := by
        intro b hb
        rw [chatelainelaw45_SplitSplits.j1, rws_length]
        refine rows_loop s rows hr n _ _ (K0 + 1) (some true) rows.length 0 (k + 3) b (by omega) (by omega) ?_
        intro k' hk'
        rw [List.drop_zero, hb]
        obtain ⟨k', rfl⟩ : ∃ m, k' = m + 1 := ⟨k' - 1, by omega⟩
        cases hm : may s n kk rows
        · rfl
        · have hm' := hm
          unfold may at hm'
          rw [Bool.and_eq_true, decide_eq_true_eq] at hm'
          obtain ⟨⟨h1, h2, h3, h4, h5, h6, h7⟩, h8⟩ := hm'
          have he : ∀ r ∈ rows, r.length = s.length := fun r hr' => of_decide_eq_true ((List.all_eq_true.mp h8) r hr')
          have hl : (((shs (deal s rows n.toNat)).length : Int) != n) = false := by
            rw [shs_length, deal_length]
            simp
            omega
          rw [if_pos rfl, if_pos rfl, if_pos rfl, if_pos rfl, hl, chatelainelaw45_SplitSplits.j3, if_neg (by simp), shs_length, deal_length]
          have hmul := Nat.mul_le_mul_right (s.length + rows.length + 45) (show n.toNat ≤ 255 by omega)
          exact shares_loop 45 (Nat.le_refl _) s rows he (by omega) (by omega) n.toNat (by omega) n.toNat 0 k' (by omega) (by omega)
      rw [chatelainelaw45_SplitSplits.j0, if_neg (by simp), byI_length, rws_length]
      have bad : (¬ (1 ≤ s.length ∧ s.length ≤ 256 ∧ 1 ≤ n ∧ n ≤ 255 ∧ 1 ≤ kk ∧ kk ≤ n ∧ (rows.length : Int) = kk - 1)) → (false && rows.all fun x => decide (x.length = s.length)) = may s n kk rows := fun h => by
        unfold may
        simp only [decide_eq_false h, Bool.false_and]
      by_cases h1 : (s.length : Int) ≥ 1
      · rw [if_pos h1]
        by_cases h2 : n ≥ 1
        · rw [if_pos h2]
          by_cases h3 : n ≤ 255
          · rw [if_pos h3]
            by_cases h4 : kk ≥ 1
            · rw [if_pos h4]
              by_cases h5 : kk ≤ n
              · rw [if_pos h5, show wrap64 (kk - 1) = kk - 1 by unfold wrap64; omega]
                refine tail _ ?_
                unfold may
                congr 1
                rw [Bool.eq_iff_iff, beq_iff_eq, decide_eq_true_eq]
                omega
              · rw [if_neg h5]
                exact tail false (bad (by omega))
            · rw [if_neg h4]
              exact tail false (bad (by omega))
          · rw [if_neg h3]
            exact tail false (bad (by omega))
        · rw [if_neg h2]
          exact tail false (bad (by omega))
      · rw [if_neg h1]
        exact tail false (bad (by omega))
    by_cases h20 : n > 20
    · rw [if_pos h20]
      by_cases h255 : n ≤ 255
      · have hd : decide (n ≤ 255) = true := decide_eq_true h255
        rw [hd, hj]
      · have hd : decide (n ≤ 255) = false := decide_eq_false h255
        rw [hd, hgo]
    · rw [if_neg h20, hgo]
  · rw [if_neg hf, hj]
end Go.Proofs.Ytphoelhelmnibaa.Ss
