/-
The statement SplitBack, in plain terms: any shares that suffice are joined to the secret.
-/
import Derived.Test.YtphoelhelmnibaaSv
import Derived.Test.YtphoelhelmnibaaSl
import Derived.Test.YtphoelhelmnibaaAw
import Derived.Test.YtphoelhelmnibaaPQb
namespace Go.Proofs.Ytphoelhelmnibaa.Bp
open Go.RowKit Go.Proofs.Ytphoelhelmnibaa.Gf Go.Proofs.Ytphoelhelmnibaa.Pl Go.Proofs.Ytphoelhelmnibaa.Pv Go.Proofs.Ytphoelhelmnibaa.Pw Go.Proofs.Ytphoelhelmnibaa.Rt Go.Proofs.Ytphoelhelmnibaa.Sv Go.Proofs.Ytphoelhelmnibaa.Op Go.Proofs.Ytphoelhelmnibaa.Sl Go.Proofs.Ytphoelhelmnibaa.Aw Go.Proofs.Ytphoelhelmnibaa.PQ Go.Proofs.YtphoelhelmnibaaW.PrintWords Go.Proofs.YtphoelhelmnibaaW.PrintLast
theorem dealt_get (s : List F) (rows : List (List F)) (x : F) (t : Nat) (ht : t < s.length) : (dealt s rows x).getD t 0#8 = ev (coef s rows t) x := by
  simp [dealt, ht]
theorem dealt_zero (s : List F) (rows : List (List F)) : dealt s rows 0#8 = s := by
  apply List.ext_getElem
  · rw [dealt_length]
  · intro t h1 h2
    have h := dealt_get s rows 0#8 t h2
    have e : (dealt s rows 0#8)[t]'h1 = (dealt s rows 0#8).getD t 0#8 := by
      rw [List.getD_eq_getElem?_getD, List.getElem?_eq_getElem h1, Option.getD_some]
    rw [e, h]
    simp [coef, ev, zero_mul, h2]
/-- Shares of one secret by the same rows. -/
def Of (s : List F) (rows : List (List F)) (l : List (F × List F)) : Prop := (l.map Prod.fst).Nodup ∧ ∀ p ∈ l, p.1 ≠ 0#8 ∧ p.2 = dealt s rows p.1
theorem Of.right {s : List F} {rows : List (List F)} {l : List (F × List F)} (h : Of s rows l) (h1 : 1 ≤ l.length) (h2 : l.length ≤ 255) (hs1 : 1 ≤ s.length) (hs2 : s.length ≤ 256) : RightP l := by
  refine ⟨h1, h2, ?_⟩
  intro j hj _
  have hp := h.2 l[j] (List.getElem_mem hj)
  have hp0 := h.2 l[0] (List.getElem_mem (by omega))
  have e0 : l.getD 0 (0#8, []) = l[0] := by
    rw [List.getD_eq_getElem?_getD, List.getElem?_eq_getElem (by omega), Option.getD_some]
  have hl : l[j].2.length = s.length := by rw [hp.2, dealt_length]
  refine ⟨hp.1, by rw [hl, e0, hp0.2, dealt_length], by omega, by omega, ?_⟩
  intro t ht he
  have := (List.getElem_inj (h₀ := by simpa using (show t < l.length by omega)) (h₁ := by simpa using hj) h.1).mp (by simpa using he)
  omega
theorem Of.wide {s : List F} {rows : List (List F)} {l : List (F × List F)} (h : Of s rows l) (h1 : 1 ≤ l.length) : wide l = s.length := by
  have hp0 := h.2 l[0] (List.getElem_mem (by omega))
  unfold Sv.wide
  rw [List.getD_eq_getElem?_getD, List.getElem?_eq_getElem (by omega), Option.getD_some, hp0.2, dealt_length]
theorem Of.sub {s : List F} {rows : List (List F)} {l r : List (F × List F)} (h : Of s rows l) (hs : r.Sublist l) : Of s rows r :=
  ⟨(hs.map Prod.fst).nodup h.1, fun p hp => h.2 p (hs.subset hp)⟩
/-- As many shares as suffice give the values anywhere. -/
theorem Of.values {s : List F} {rows : List (List F)} {l : List (F × List F)} (h : Of s rows l) (h1 : rows.length + 1 ≤ l.length) (x : F) : vals l x = dealt s rows x := by
  have hw := h.wide (by omega)
  apply List.ext_getElem
  · rw [vals_length, dealt_length, hw]
  · intro t h2 h3
    have ht : t < s.length := by rw [dealt_length] at h3; exact h3
    have hd : Deg l.length (ev (coef s rows t)) := by
      have := Deg.ev (coef s rows t)
      rw [coef_length] at this
      exact this.more h1
    have hg := vals_get l h.1 t (by rw [hw]; exact ht) (ev (coef s rows t)) hd (fun i hi => by rw [(h.2 l[i] (List.getElem_mem hi)).2, dealt_get s rows _ t ht]) x
    have e1 : (vals l x)[t]'h2 = (vals l x).getD t 0#8 := by rw [List.getD_eq_getElem?_getD, List.getElem?_eq_getElem h2, Option.getD_some]
    have e2 : (dealt s rows x)[t]'h3 = (dealt s rows x).getD t 0#8 := by rw [List.getD_eq_getElem?_getD, List.getElem?_eq_getElem h3, Option.getD_some]
    rw [e1, e2, hg, dealt_get s rows x t ht]
theorem fit_true {s : List F} {rows : List (List F)} {l r : List (F × List F)} (h : Of s rows l) (hr : Of s rows r) (h1 : rows.length + 1 ≤ l.length) : fit l r = true := by
  unfold fit
  rw [List.all_eq_true]
  intro p hp
  rw [decide_eq_true_eq, h.values h1, (hr.2 p hp).2]
/-- What is asked of the shares that were taken, once all are taken. -/
theorem taken_true (s : List F) (rows : List (List F)) (kk : Int) (l : List (F × List F)) (h : Of s rows l) (hl : l.length ≤ 9) (hs1 : 1 ≤ s.length) (hs2 : s.length ≤ 40) (hk1 : 1 ≤ kk) (hr : (rows.length : Int) = kk - 1) (k : Nat) (hk : 10000 ≤ k) :
    chatelainelaw45_SplitBack.j2 k (byI s) kk (shs l) = some true := by
  obtain ⟨k, rfl⟩ : ∃ m, k = m + 1 := ⟨k - 1, by omega⟩
  rw [chatelainelaw45_SplitBack.j2, shs_length]
  by_cases hlt : (l.length : Int) < kk
  · rw [if_pos hlt]
  rw [if_neg hlt]
  have hR := h.right (by omega) (by omega) hs1 (by omega)
  have hw := h.wide (by omega)
  have he := enough_mono (m := l.length) (m' := 9) (n := wide l) (n' := 40) hl (by omega)
  have he2 : enough 9 40 = 5662 := by decide
  have hm : min kk.toNat l.length = kk.toNat := by omega
  have ht := h.sub (List.take_sublist kk.toNat l)
  have htl : (l.take kk.toNat).length = kk.toNat := by rw [List.length_take]; omega
  have hRt := ht.right (by omega) (by omega) hs1 (by omega)
  have hwt := ht.wide (by omega)
  have het := enough_mono (m := (l.take kk.toNat).length) (m' := 9) (n := wide (l.take kk.toNat)) (n' := 40) (by omega) (by omega)
  have e1 : wrap64 ((l.length : Int) - 1) = ((l.length - 1 : Nat) : Int) := by unfold wrap64; omega
  have hlast : l.length - 1 < l.length := by omega
  have hp := h.2 l[l.length - 1] (List.getElem_mem hlast)
  rw [join_right l hR k (by omega), Option.bind_some, fits_right l hR kk k (by omega), Option.bind_some, if_pos (by omega), if_pos (by omega), e1, if_pos (by omega), if_pos (by omega), rd_shs l _ hlast, shs_take, if_pos (show 1 ≤ kk ∧ kk ≤ 255 by omega), hm]
  show (split_At.f k (shs (l.take kk.toNat)) (toI l[l.length - 1].1)).bind (fun bt266 => (if (0 : Int) = 0 then ((chatelaineref01_Same.f k (byI (vals l 0#8)) (byI s)).bind fun t270 => (if t270 = true then (if (0 : Int) = 0 then (if fit (l.take kk.toNat) (l.drop kk.toNat) = true then (if bt266.2 = 0 then ((chatelaineref01_Same.f k bt266.1 (byI l[l.length - 1].2)).bind fun t272 => (some t272)) else (some false)) else (some false)) else (some false)) else (some false))) else (some false))) = some true
  rw [at_right _ hRt _ k (by omega), Option.bind_some, if_pos rfl, h.values (by omega), dealt_zero, same_eq _ _ (by omega) k (by omega), Option.bind_some, if_pos (by simp), if_pos rfl, fit_true ht (h.sub (List.drop_sublist _ _)) (by omega), if_pos rfl, if_pos rfl, ht.values (by omega), ← hp.2, same_eq _ _ (by rw [hp.2, dealt_length]; omega) k (by rw [hp.2, dealt_length]; omega), Option.bind_some]
  simp
/-- A place in what is left. -/
theorem place (o : Int) (n : Nat) (h0 : 0 < n) (h9 : n ≤ 9) : ∃ j : Nat, j < n ∧ Int.tmod (wrap64 (Int.tmod o (n : Int) + (n : Int))) (n : Int) = (j : Int) := by
  have a1 : -(n : Int) < Int.tmod o (n : Int) := by
    have := Int.lt_tmod_of_pos o (show (0 : Int) < (n : Int) by omega)
    omega
  have a2 : Int.tmod o (n : Int) < (n : Int) := Int.tmod_lt_of_pos o (by omega)
  have e : wrap64 (Int.tmod o (n : Int) + (n : Int)) = Int.tmod o (n : Int) + (n : Int) := by
    generalize Int.tmod o (n : Int) = z at a1 a2 ⊢
    unfold wrap64
    omega
  rw [e]
  have b1 := Int.tmod_nonneg (n : Int) (show 0 ≤ Int.tmod o (n : Int) + (n : Int) by omega)
  have b2 := Int.tmod_lt_of_pos (Int.tmod o (n : Int) + (n : Int)) (show (0 : Int) < (n : Int) by omega)
  exact ⟨(Int.tmod (Int.tmod o (n : Int) + (n : Int)) (n : Int)).toNat, by omega, by omega⟩
theorem taken_perm (l r : List (F × List F)) (j : Nat) (hj : j < l.length) : ((l.take j ++ l.drop (j + 1)) ++ (r ++ [l[j]])).Perm (l ++ r) := by
  have h1 : ((l.take j ++ l.drop (j + 1)) ++ (r ++ [l[j]])).Perm ((l.take j ++ l.drop (j + 1)) ++ ([l[j]] ++ r)) := List.Perm.append_left _ List.perm_append_comm
  have h2 : ((l.take j ++ l.drop (j + 1)) ++ ([l[j]] ++ r)) = ((l.take j ++ l.drop (j + 1)) ++ [l[j]]) ++ r := by simp only [List.append_assoc]
  have h3 : ((l.take j ++ l.drop (j + 1)) ++ [l[j]]).Perm (l.take j ++ ([l[j]] ++ l.drop (j + 1))) := by
    rw [List.append_assoc]
    exact List.Perm.append_left _ List.perm_append_comm
  have h4 : l.take j ++ ([l[j]] ++ l.drop (j + 1)) = l := by
    rw [List.singleton_append, ← List.drop_eq_getElem_cons hj, List.take_append_drop]
  rw [h2] at h1
  rw [h4] at h3
  exact h1.trans (h3.append_right r)
theorem Of.perm {s : List F} {rows : List (List F)} {l r : List (F × List F)} (h : Of s rows l) (hp : r.Perm l) : Of s rows r :=
  ⟨((hp.map Prod.fst).nodup_iff).mpr h.1, fun p hq => h.2 p ((hp.mem_iff).mp hq)⟩
theorem pick_loop (s : List F) (rows : List (List F)) (kk : Int) (order : List Int) (ho : order.length ≤ 9223372036854775807) (K : Nat) (hj : ∀ k' l, K ≤ k' → Of s rows l → l.length ≤ 9 → chatelainelaw45_SplitBack.j2 k' (byI s) kk (shs l) = some true) : ∀ (d i k : Nat) (left some_ : List (F × List F)), i + d = order.length → K + d + 1 ≤ k → Of s rows (left ++ some_) → (left ++ some_).length ≤ 9 →
    chatelainelaw45_SplitBack.l0 k (byI s) kk (shs left) (shs some_) order (order.length : Int) (i : Int) = some true
  | 0, i, k, left, some_, hd, hk, h, hl => by
    obtain ⟨k, rfl⟩ : ∃ m, k = m + 1 := ⟨k - 1, by omega⟩
    rw [chatelainelaw45_SplitBack.l0, if_neg (by omega)]
    exact hj k some_ (by omega) (h.sub (List.sublist_append_right _ _)) (by rw [List.length_append] at hl; omega)
  | d + 1, i, k, left, some_, hd, hk, h, hl => by
    obtain ⟨k, rfl⟩ : ∃ m, k = m + 1 := ⟨k - 1, by omega⟩
    have ej : wrap64 ((i : Int) + 1) = ((i + 1 : Nat) : Int) := by unfold wrap64; omega
    have hl' := hl
    rw [List.length_append] at hl'
    rw [chatelainelaw45_SplitBack.l0, if_pos (by omega), if_pos (by omega), if_pos (by omega), shs_length, shs_length, ej]
    by_cases h0 : left.length = 0
    · rw [if_pos (by omega)]
      exact hj k some_ (by omega) (h.sub (List.sublist_append_right _ _)) (by omega)
    · rw [if_neg (by omega)]
      obtain ⟨j, hjl, hE⟩ := place (rd order (i : Int)) left.length (by omega) (by omega)
      rw [hE]
      clear hE ej
      rw [if_pos (by omega), if_pos (by omega), if_pos (by omega), Option.bind_some, if_pos (by omega), Option.bind_some, Int.toNat_natCast, shs_take, if_pos (by rw [shs_length, List.length_take, List.length_nil]; omega), Option.bind_some, show wrap64 ((j : Int) + 1) = ((j + 1 : Nat) : Int) by unfold wrap64; omega, if_pos (by omega), if_pos (by omega), Option.bind_some, Int.toNat_natCast, shs_drop, if_pos (by rw [List.nil_append, shs_length, shs_length, List.length_take, List.length_drop]; omega), rd_shs left j hjl, List.nil_append]
      have e3 : shs (left.take j) ++ shs (left.drop (j + 1)) = shs (left.take j ++ left.drop (j + 1)) := by simp [shs]
      have e4 : shs some_ ++ [(⟨(shI left[j]).f0, (shI left[j]).f1⟩ : S54)] = shs (some_ ++ [left[j]]) := by simp [shs]
      rw [e3, e4]
      have hp := taken_perm left some_ j hjl
      exact pick_loop s rows kk order ho K hj d (i + 1) k _ _ (by omega) (by omega) (h.perm hp) (by rw [hp.length_eq]; exact hl)
theorem deal_of (s : List F) (rows : List (List F)) (n : Nat) (hn : n ≤ 255) : Of s rows (deal s rows n) := by
  refine ⟨?_, ?_⟩
  · rw [List.nodup_iff_pairwise_ne, List.pairwise_iff_getElem]
    intro i j hi hj hij
    rw [List.length_map, deal_length] at hi hj
    simp only [List.getElem_map, deal_get s rows n i hi, deal_get s rows n j hj]
    intro he
    have := plc_inj (by omega) (by omega) he
    omega
  · intro p hp
    unfold deal at hp
    obtain ⟨i, hi, rfl⟩ := List.mem_map.1 hp
    have hi' := List.mem_range.1 hi
    refine ⟨fun h0 => ?_, rfl⟩
    have := toI_plc (i + 1) (by omega)
    dsimp only at h0
    rw [h0, toI_zero] at this
    omega
theorem back_true (s : List F) (n kk : Int) (h9 : n ≤ 9) (rows : List (List F)) (hr : rows.length ≤ 9223372036854775807) (order : List Int) (ho : order.length ≤ 9223372036854775807) (k : Nat) (hk : rows.length + order.length + 20000 ≤ k) :
    chatelainelaw45_SplitBack.f k (byI s) (if may s n kk rows = true then shs (deal s rows n.toNat) else []) order kk (if may s n kk rows = true then 0 else 2) (rws rows) = some true := by
  obtain ⟨k, rfl⟩ : ∃ m, k = m + 1 := ⟨k - 1, by omega⟩
  unfold chatelainelaw45_SplitBack.f
  rw [awake_eq _ (by omega), Option.bind_some, if_pos rfl, few_eq s rows hr _ (by omega), Option.bind_some]
  by_cases hf : fewB s rows rows = true
  · have hsz : s.length ≤ 40 ∧ rows.length ≤ 8 := by
      unfold fewB at hf
      rw [Bool.and_eq_true, Bool.and_eq_true, decide_eq_true_eq, decide_eq_true_eq] at hf
      exact hf.2
    rw [if_pos hf, chatelainelaw45_SplitBack.j0]
    by_cases h20 : (order.length : Int) > 20
    · rw [if_pos (decide_eq_true h20)]
    rw [if_neg (by rw [decide_eq_true_eq]; exact h20)]
    cases hm : may s n kk rows
    · rfl
    · rw [if_pos rfl, if_pos rfl, if_pos rfl]
      have hm' := hm
      unfold may at hm'
      rw [Bool.and_eq_true, decide_eq_true_eq] at hm'
      obtain ⟨⟨h1, h2, h3, h4, h5, h6, h7⟩, _⟩ := hm'
      have hd := deal_of s rows n.toNat (by omega)
      rw [Option.bind_some, if_pos (by rw [shs_length, deal_length, List.length_nil]; omega), List.nil_append]
      exact pick_loop s rows kk order ho 10000 (fun k' l hk' hl hle => taken_true s rows kk l hl hle h1 (by omega) h5 h7 k' hk') order.length 0 k (deal s rows n.toNat) [] (by omega) (by omega) (by rw [List.append_nil]; exact hd) (by rw [List.append_nil, deal_length]; omega)
  · rw [if_neg hf, chatelainelaw45_SplitBack.j0, if_pos rfl]
end Go.Proofs.Ytphoelhelmnibaa.Bp
