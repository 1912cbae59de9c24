/-
The program's test of shares is the plain one.
-/
import Derived.Test.YtphoelhelmnibaaPw
import Derived.Test.YtphoelhelmnibaaPQx3
namespace Go.Proofs.Ytphoelhelmnibaa.Rt
open Go.RowKit Go.Proofs.Ytphoelhelmnibaa.Gf Go.Proofs.Ytphoelhelmnibaa.Pl Go.Proofs.Ytphoelhelmnibaa.Pv Go.Proofs.Ytphoelhelmnibaa.Pw Go.Proofs.Ytphoelhelmnibaa.PQ Go.Proofs.YtphoelhelmnibaaW.PrintWords Go.Proofs.YtphoelhelmnibaaW.PrintLast
/-- Share i is well made and its place is none of the earlier ones. -/
def Ok (l : List (F × List F)) (i : Nat) (h : i < l.length) : Prop :=
  l[i].1 ≠ 0#8 ∧ l[i].2.length = (l.getD 0 (0#8, [])).2.length ∧ 1 ≤ l[i].2.length ∧ l[i].2.length ≤ 256 ∧ ∀ j (hj : j < i), l[j].1 ≠ l[i].1
def Oks (l : List (F × List F)) (i : Nat) : Prop := ∀ j (h : j < l.length), j < i → Ok l j h
/-- Right shares. -/
def RightP (l : List (F × List F)) : Prop := 1 ≤ l.length ∧ l.length ≤ 255 ∧ Oks l l.length
theorem within_eq (a b c : Int) : split_within.f a b c = some (decide (b ≤ a ∧ a ≤ c)) := by
  unfold split_within.f
  by_cases h : a ≥ b
  · rw [if_pos h]
    have h' : b ≤ a := h
    simp [h']
  · rw [if_neg h]
    have h' : ¬ b ≤ a := h
    simp [h']
theorem toI_eq_zero (a : F) : toI a = 0 ↔ a = 0#8 := by
  constructor
  · intro h
    exact toI_inj (by rw [h, toI_zero])
  · rintro rfl; exact toI_zero
def met (l : List (F × List F)) (i : Nat) : List Int := ((l.take i).map fun s => toI s.1).reverse
theorem met_succ (l : List (F × List F)) (i : Nat) (h : i < l.length) : met l (i + 1) = toI l[i].1 :: met l i := by
  unfold met
  rw [List.take_succ_eq_append_getElem h, List.map_append, List.reverse_append]
  rfl
theorem met_has (l : List (F × List F)) (i : Nat) (h : i < l.length) : (met l i).contains (toI l[i].1) = true ↔ ∃ j, ∃ hj : j < i, l[j].1 = l[i].1 := by
  rw [List.contains_iff_mem]
  unfold met
  rw [List.mem_reverse, List.mem_map]
  constructor
  · rintro ⟨s, hs, e⟩
    obtain ⟨j, hj, rfl⟩ := List.getElem_of_mem hs
    have hj' : j < i := by rw [List.length_take] at hj; omega
    refine ⟨j, hj', ?_⟩
    rw [List.getElem_take] at e
    exact toI_inj e
  · rintro ⟨j, hj, e⟩
    refine ⟨l[j], ?_, by rw [e]⟩
    rw [List.mem_take_iff_getElem]
    exact ⟨j, by omega, rfl⟩
theorem right_loop (l : List (F × List F)) (hl : l.length < 2 ^ 40) : ∀ (d i k : Nat), i + d = l.length → d + 40 ≤ k → Oks l i →
    ∃ b, split_Right.l0 k (shs l) (met l i) (shs l) (l.length : Int) (i : Int) = some b ∧ (b = true ↔ RightP l)
  | 0, i, k, hd, hk, ho => by
    obtain ⟨k, rfl⟩ : ∃ m, k = m + 1 := ⟨k - 1, by omega⟩
    obtain rfl : i = l.length := by omega
    rw [split_Right.l0, if_neg (by omega), shs_length, within_eq, Option.bind_some]
    refine ⟨_, rfl, ?_⟩
    rw [decide_eq_true_eq]
    constructor
    · rintro ⟨h1, h2⟩
      exact ⟨by omega, by omega, ho⟩
    · rintro ⟨h1, h2, _⟩
      exact ⟨by omega, by omega⟩
  | d + 1, i, k, hd, hk, ho => by
    obtain ⟨k, rfl⟩ : ∃ m, k = m + 1 := ⟨k - 1, by omega⟩
    have hi : i < l.length := by omega
    have ej : wrap64 ((i : Int) + 1) = ((i + 1 : Nat) : Int) := by unfold wrap64; omega
    have hbad : ¬ Ok l i hi → ∃ b, (some false : Option Bool) = some b ∧ (b = true ↔ RightP l) := fun hn => ⟨false, rfl, by
      constructor
      · intro h; cases h
      · intro h; exact absurd (h.2.2 i hi hi) hn⟩
    have er := toI_range l[i].1
    have e0 : rd_T54 (shs l) 0 = shI (l.getD 0 (0#8, [])) := by
      have := rd_shs l 0 (by omega)
      rw [show ((0 : Nat) : Int) = 0 from rfl] at this
      rw [this]
      simp [show 0 < l.length by omega]
    rw [split_Right.l0, if_pos (by omega), if_pos (by omega), if_pos (by rw [shs_length]; omega), rd_shs l i hi, e0]
    show ∃ b, (if toI l[i].1 = 0 then (some false) else (if 0 ≤ toI l[i].1 then (if toI l[i].1 < 256 then (if (met l i).contains (toI l[i].1) = true then (some false) else ((split_within.f ((byI l[i].2).length : Int) 1 256).bind fun t127 => (if t127 = true then (if 0 < ((shs l).length : Int) then (if ((byI l[i].2).length : Int) = ((byI (l.getD 0 (0#8, [])).2).length : Int) then (split_Right.l0 k (shs l) (toI l[i].1 :: met l i) (shs l) (l.length : Int) (wrap64 ((i : Int) + 1))) else (some false)) else (none)) else (some false)))) else (none)) else (none))) = some b ∧ _
    by_cases hz : l[i].1 = 0#8
    · rw [if_pos ((toI_eq_zero _).mpr hz)]
      exact hbad fun h => h.1 hz
    rw [if_neg (fun h => hz ((toI_eq_zero _).mp h)), if_pos (by omega), if_pos (by omega)]
    by_cases hm : (met l i).contains (toI l[i].1) = true
    · rw [if_pos hm]
      obtain ⟨j, hj, e⟩ := (met_has l i hi).mp hm
      exact hbad fun h => h.2.2.2.2 j hj e
    rw [if_neg hm, within_eq, Option.bind_some, byI_length, byI_length, shs_length]
    by_cases hw : (1 : Int) ≤ (l[i].2.length : Int) ∧ (l[i].2.length : Int) ≤ 256
    · rw [if_pos (by rw [decide_eq_true_eq]; exact hw), if_pos (by omega)]
      by_cases hs : l[i].2.length = (l.getD 0 (0#8, [])).2.length
      · rw [if_pos (by omega), ej, ← met_succ l i hi]
        refine right_loop l hl d (i + 1) k (by omega) (by omega) ?_
        intro j hj hji
        by_cases e : j = i
        · subst e
          exact ⟨hz, hs, by omega, by omega, fun j' hj' he => hm ((met_has l j hj).mpr ⟨j', hj', he⟩)⟩
        · exact ho j hj (by omega)
      · rw [if_neg (by omega)]
        exact hbad fun h => hs h.2.1
    · rw [if_neg (by rw [decide_eq_true_eq]; exact hw)]
      exact hbad fun h => hw ⟨by have := h.2.2.1; omega, by have := h.2.2.2.1; omega⟩
theorem right_eq (l : List (F × List F)) (hl : l.length < 2 ^ 40) (k : Nat) (hk : l.length + 40 ≤ k) : ∃ b, split_Right.f k (shs l) = some b ∧ (b = true ↔ RightP l) := by
  unfold split_Right.f
  rw [shs_length]
  exact right_loop l hl l.length 0 k (by omega) hk fun j h hj => absurd hj (by omega)
theorem RightP.nodup {l : List (F × List F)} (h : RightP l) : (l.map Prod.fst).Nodup := by
  rw [List.nodup_iff_pairwise_ne, List.pairwise_iff_getElem]
  intro i j hi hj hij
  simp only [List.getElem_map]
  have hj' : j < l.length := by simpa using hj
  exact (h.2.2 j hj' hj').2.2.2.2 i hij
theorem RightP.len {l : List (F × List F)} (h : RightP l) (i : Nat) (hi : i < l.length) : l[i].2.length = (l.getD 0 (0#8, [])).2.length := (h.2.2 i hi hi).2.1
theorem RightP.take {l : List (F × List F)} (h : RightP l) (n : Nat) (hn : 1 ≤ n) : RightP (l.take n) := by
  obtain ⟨h1, h2, h3⟩ := h
  refine ⟨by rw [List.length_take]; omega, by rw [List.length_take]; omega, ?_⟩
  intro j hj _
  have hj' : j < l.length := by rw [List.length_take] at hj; omega
  obtain ⟨a, b, c, d, e⟩ := h3 j hj' hj'
  have e0 : ((l.take n).getD 0 (0#8, [])) = l.getD 0 (0#8, []) := by
    simp [show 0 < n by omega]
  refine ⟨?_, ?_, ?_, ?_, ?_⟩
  · rw [List.getElem_take]; exact a
  · rw [List.getElem_take, e0]; exact b
  · rw [List.getElem_take]; exact c
  · rw [List.getElem_take]; exact d
  · intro t ht
    rw [List.getElem_take, List.getElem_take]; exact e t ht
end Go.Proofs.Ytphoelhelmnibaa.Rt
