/-
Lagrange's weights: of degree below the number of shares.
-/
import Derived.Test.YtphoelhelmnibaaPy
namespace Go.Proofs.Ytphoelhelmnibaa.Pz
open Go.Proofs.Ytphoelhelmnibaa.Gf Go.Proofs.Ytphoelhelmnibaa.Pl Go.Proofs.Ytphoelhelmnibaa.Pv Go.Proofs.Ytphoelhelmnibaa.Pw Go.Proofs.Ytphoelhelmnibaa.Py
theorem wl_deg_far (xi : F) (i : Nat) : ∀ (r : List (F × List F)) (j m : Nat) (acc : F → F), i < j → Deg m acc → Deg (m + r.length) fun x => wl x xi i j r (acc x)
  | [], j, m, acc, _, h => h
  | b :: r, j, m, acc, hj, h => by
    have h1 : Deg (m + 1) fun x => mul (acc x) (mul (x ^^^ b.1) (inv (xi ^^^ b.1))) := by
      obtain ⟨p, hp, e⟩ := (h.scale (inv (xi ^^^ b.1))).lin b.1
      refine ⟨p, hp, fun x => ?_⟩
      rw [← e x]
      show mul (acc x) (mul (x ^^^ b.1) (inv (xi ^^^ b.1))) = mul (x ^^^ b.1) (mul (inv (xi ^^^ b.1)) (acc x))
      rw [mul_comm (acc x), mul_assoc]
    have h2 := wl_deg_far xi i r (j + 1) (m + 1) _ (by omega) h1
    obtain ⟨p, hp, e⟩ := h2
    refine ⟨p, by simp only [List.length_cons]; omega, fun x => ?_⟩
    rw [← e x]
    simp only [wl, if_neg (show ¬ j = i by omega)]
theorem wl_deg (xi : F) (i : Nat) : ∀ (r : List (F × List F)) (j m : Nat) (acc : F → F), j ≤ i → i < j + r.length → Deg m acc → Deg (m + r.length - 1) fun x => wl x xi i j r (acc x)
  | [], j, m, acc, h0, h1, h => by simp only [List.length_nil] at h1; omega
  | b :: r, j, m, acc, h0, hj, h => by
    simp only [List.length_cons] at hj ⊢
    by_cases e : j = i
    · obtain ⟨p, hp, e'⟩ := wl_deg_far xi i r (j + 1) m acc (by omega) h
      refine ⟨p, by omega, fun x => ?_⟩
      rw [← e' x]
      simp only [wl, if_pos e]
    · have h1 : Deg (m + 1) fun x => mul (acc x) (mul (x ^^^ b.1) (inv (xi ^^^ b.1))) := by
        obtain ⟨p, hp, e⟩ := (h.scale (inv (xi ^^^ b.1))).lin b.1
        refine ⟨p, hp, fun x => ?_⟩
        rw [← e x]
        show mul (acc x) (mul (x ^^^ b.1) (inv (xi ^^^ b.1))) = mul (x ^^^ b.1) (mul (inv (xi ^^^ b.1)) (acc x))
        rw [mul_comm (acc x), mul_assoc]
      obtain ⟨p, hp, e'⟩ := wl_deg xi i r (j + 1) (m + 1) _ (by omega) (by omega) h1
      refine ⟨p, by omega, fun x => ?_⟩
      rw [← e' x]
      simp only [wl, if_neg e]
/-- A weight is of degree below the number of shares. -/
theorem wgt_deg (l : List (F × List F)) (i : Nat) (hi : i < l.length) : Deg l.length fun x => wgt x l i := by
  have h := wl_deg (l.getD i (0#8, [])).1 i l 0 1 (fun _ => 1#8) (by omega) (by omega) (Deg.const 1#8)
  exact h.more (by omega)
theorem wl_null (x xi : F) (i : Nat) : ∀ (r : List (F × List F)) (j : Nat), wl x xi i j r 0#8 = 0#8
  | [], _ => rfl
  | b :: r, j => by
    by_cases e : j = i
    · simp only [wl, if_pos e]; exact wl_null x xi i r (j + 1)
    · simp only [wl, if_neg e, zero_mul]; exact wl_null x xi i r (j + 1)
/-- At its own place a weight is one. -/
theorem wl_own (xi : F) (i : Nat) : ∀ (r : List (F × List F)) (j : Nat) (acc : F), (∀ t (h : t < r.length), j + t ≠ i → r[t].1 ≠ xi) → wl xi xi i j r acc = acc
  | [], _, _, _ => rfl
  | b :: r, j, acc, h => by
    have hr : ∀ t (h' : t < r.length), (j + 1) + t ≠ i → r[t].1 ≠ xi := fun t h' hne => h (t + 1) (by simp only [List.length_cons]; omega) (by omega)
    by_cases e : j = i
    · simp only [wl, if_pos e]; exact wl_own xi i r (j + 1) acc hr
    · have hb : b.1 ≠ xi := h 0 (by simp) (by omega)
      have hne : xi ^^^ b.1 ≠ 0#8 := fun h0 => hb (xor_cancel _ _ h0).symm
      simp only [wl, if_neg e, mul_inv _ hne, mul_one]
      exact wl_own xi i r (j + 1) acc hr
/-- At another share's place it is nothing. -/
theorem wl_other (x xi : F) (i : Nat) : ∀ (r : List (F × List F)) (j : Nat) (acc : F) (t : Nat) (h : t < r.length), j + t ≠ i → r[t].1 = x → wl x xi i j r acc = 0#8
  | [], _, _, t, h, _, _ => by simp at h
  | b :: r, j, acc, 0, _, hne, hx => by
    have hb : b.1 = x := hx
    simp only [wl, if_neg (show ¬ j = i by omega), hb, BitVec.xor_self, zero_mul, mul_zero]
    exact wl_null x xi i r (j + 1)
  | b :: r, j, acc, t + 1, h, hne, hx => by
    have := wl_other x xi i r (j + 1) (if j = i then acc else mul acc (mul (x ^^^ b.1) (inv (xi ^^^ b.1)))) t (by simp only [List.length_cons] at h; omega) (by omega) hx
    exact this
/-- The sum of the first n. -/
def xs (g : Nat → F) : Nat → F
  | 0 => 0#8
  | n + 1 => xs g n ^^^ g n
theorem xs_deg (m : Nat) (g : F → Nat → F) : ∀ n, (∀ i, i < n → Deg m fun x => g x i) → Deg m fun x => xs (g x) n
  | 0, _ => Deg.zero m
  | n + 1, h => (xs_deg m g n fun i hi => h i (by omega)).add (h n (by omega))
theorem xs_null (g : Nat → F) : ∀ n, (∀ i, i < n → g i = 0#8) → xs g n = 0#8
  | 0, _ => rfl
  | n + 1, h => by
    show xs g n ^^^ g n = 0#8
    rw [xs_null g n fun i hi => h i (by omega), h n (by omega), BitVec.xor_zero]
theorem xs_one (g : Nat → F) (j : Nat) : ∀ n, j < n → (∀ i, i < n → i ≠ j → g i = 0#8) → xs g n = g j
  | 0, hj, _ => absurd hj (by omega)
  | n + 1, hj, h => by
    show xs g n ^^^ g n = g j
    by_cases e : j = n
    · subst e
      rw [xs_null g j fun i hi => h i (by omega) (by omega), BitVec.zero_xor]
    · rw [xs_one g j n (by omega) fun i hi hne => h i (by omega) hne, h n (by omega) (by omega), BitVec.xor_zero]
/-- The weighted sum is the one function of degree below m through the shares. -/
theorem lagrange (l : List (F × List F)) (hn : (l.map Prod.fst).Nodup) (f : F → F) (hf : Deg l.length f) (y : Nat → F) (hy : ∀ i (h : i < l.length), f l[i].1 = y i) (x : F) :
    xs (fun i => mul (wgt x l i) (y i)) l.length = f x := by
  have hd : Deg l.length fun x => xs (fun i => mul (wgt x l i) (y i)) l.length :=
    xs_deg l.length (fun x i => mul (wgt x l i) (y i)) l.length fun i hi => by
      obtain ⟨p, hp, e⟩ := (wgt_deg l i hi).scale (y i)
      exact ⟨p, hp, fun x => by rw [← e x]; exact mul_comm _ _⟩
  refine Deg.same hd hf (l.map Prod.fst) hn (by simp) ?_ x
  intro z hz
  obtain ⟨j, hj, rfl⟩ := List.getElem_of_mem hz
  have hj' : j < l.length := by simpa using hj
  have hne : ∀ i (h : i < l.length), i ≠ j → l[i].1 ≠ l[j].1 := by
    intro i h hij he
    exact hij ((List.getElem_inj (h₀ := by simpa using h) (h₁ := by simpa using hj) hn).mp (by simpa using he))
  simp only [List.getElem_map]
  rw [xs_one _ j l.length hj' ?_]
  · have : wgt l[j].1 l j = 1#8 := by
      unfold wgt
      rw [show (l.getD j (0#8, [])) = l[j] by simp [hj']]
      exact wl_own _ j l 0 1#8 fun t h hne' => hne t h (by omega)
    rw [this, one_mul, ← hy j hj']
  · intro i hi hij
    have : wgt l[j].1 l i = 0#8 := by
      unfold wgt
      exact wl_other _ _ i l 0 1#8 j hj' (by omega) rfl
    rw [this, zero_mul]
/-- Byte t of the sums. -/
theorem sums_get (ws : List F) (l : List (F × List F)) (n t : Nat) (ht : t < n) : ∀ i, (sums ws l n i).getD t 0#8 = xs (fun j => mul (ws.getD j 0#8) ((l.getD j (0#8, [])).2.getD t 0#8)) i
  | 0 => by simp [sums, xs, ht]
  | i + 1 => by
    have h := sums_get ws l n t ht i
    have hl := sums_length ws l n i
    show (mix (ws.getD i 0#8) (sums ws l n i) (l.getD i (0#8, [])).2 n).getD t 0#8 = xs _ i ^^^ _
    rw [← h]
    simp [mix, hl, ht]
theorem wgts_get (x : F) (l : List (F × List F)) (m j : Nat) (h : j < m) : (wgts x l m).getD j 0#8 = wgt x l j := by simp [wgts, h]
theorem xs_congr (g g' : Nat → F) : ∀ n, (∀ i, i < n → g i = g' i) → xs g n = xs g' n
  | 0, _ => rfl
  | n + 1, h => by
    show xs g n ^^^ g n = xs g' n ^^^ g' n
    rw [xs_congr g g' n fun i hi => h i (by omega), h n (by omega)]
/-- Byte t of the values at a place: the one function of degree below m through the shares' bytes t. -/
theorem sums_point (l : List (F × List F)) (hn : (l.map Prod.fst).Nodup) (n t : Nat) (ht : t < n) (f : F → F) (hf : Deg l.length f) (hy : ∀ i (h : i < l.length), f l[i].1 = l[i].2.getD t 0#8) (x : F) :
    (sums (wgts x l l.length) l n l.length).getD t 0#8 = f x := by
  rw [sums_get _ _ _ _ ht, ← lagrange l hn f hf (fun i => (l.getD i (0#8, [])).2.getD t 0#8) (fun i h => by rw [hy i h]; simp [h]) x]
  exact xs_congr _ _ _ fun i hi => by rw [wgts_get _ _ _ _ hi]
end Go.Proofs.Ytphoelhelmnibaa.Pz
