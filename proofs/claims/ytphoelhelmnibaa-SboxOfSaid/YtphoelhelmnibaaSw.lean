/-
A list of 256 bytes turned the other way, in plain Lean: no program in sight.
-/
import Derived.Test.YtphoelhelmnibaaAr
namespace Go.Proofs.Ytphoelhelmnibaa.Sw
open Go.Proofs.Ytphoelhelmnibaa.Gf Go.Proofs.Ytphoelhelmnibaa.Ar
/-- which bytes were met in the first k places -/
def metK (f : Nat → F) : Nat → Nat → Bool
  | 0, _ => false
  | k + 1, c => if c = (f k).toNat then true else metK f k c
/-- where they were met last -/
def outK (f : Nat → F) : Nat → Nat → F
  | 0, _ => 0#8
  | k + 1, c => if c = (f k).toNat then BitVec.ofNat 8 k else outK f k c
def cntK (f : Nat → F) : Nat → Nat → Nat
  | 0, _ => 0
  | k + 1, c => if c = (f k).toNat then cntK f k c + 1 else cntK f k c
def Distinct (f : Nat → F) (k : Nat) : Prop := ∀ j, j < k → metK f j (f j).toNat = false
theorem metK_iff (f : Nat → F) (k c : Nat) : metK f k c = true ↔ ∃ j, j < k ∧ (f j).toNat = c := by
  induction k with
  | zero => simp [metK]
  | succ k ih =>
    simp only [metK]
    by_cases h : c = (f k).toNat
    · rw [if_pos h]; exact ⟨fun _ => ⟨k, by omega, h.symm⟩, fun _ => rfl⟩
    · rw [if_neg h, ih]
      constructor
      · rintro ⟨j, hj, e⟩; exact ⟨j, by omega, e⟩
      · rintro ⟨j, hj, e⟩
        rcases Nat.lt_or_eq_of_le (Nat.le_of_lt_succ hj) with h1 | h1
        · exact ⟨j, h1, e⟩
        · subst h1; exact absurd e.symm h
theorem Distinct.ne {f : Nat → F} {k : Nat} (h : Distinct f k) {i j : Nat} (hij : i < j) (hj : j < k) : (f i).toNat ≠ (f j).toNat := by
  intro e
  have h1 := h j hj
  rw [(metK_iff f j _).2 ⟨i, hij, e⟩] at h1; cases h1
theorem Distinct.inj {f : Nat → F} {k : Nat} (h : Distinct f k) {i j : Nat} (hi : i < k) (hj : j < k) (e : (f i).toNat = (f j).toNat) : i = j := by
  rcases Nat.lt_trichotomy i j with h1 | h1 | h1
  · exact absurd e (h.ne h1 hj)
  · exact h1
  · exact absurd e.symm (h.ne h1 hi)
theorem Distinct.of_inj {f : Nat → F} {k : Nat} (h : ∀ i j, i < k → j < k → (f i).toNat = (f j).toNat → i = j) : Distinct f k := by
  intro j hj
  cases e : metK f j (f j).toNat
  · rfl
  · obtain ⟨i, hi, e2⟩ := (metK_iff f j _).1 e
    have := h i j (by omega) hj e2; omega
theorem outK_at (f : Nat → F) (k : Nat) (h : Distinct f k) (j : Nat) (hj : j < k) : outK f k (f j).toNat = BitVec.ofNat 8 j := by
  induction k with
  | zero => omega
  | succ k ih =>
    simp only [outK]
    rcases Nat.lt_or_eq_of_le (Nat.le_of_lt_succ hj) with h1 | h1
    · rw [if_neg (h.ne h1 (by omega))]; exact ih (fun i hi => h i (by omega)) h1
    · subst h1; rw [if_pos rfl]
theorem cnt_zero (f : Nat → F) (k c : Nat) : cntK f k c = 0 ↔ metK f k c = false := by
  induction k with
  | zero => simp [cntK, metK]
  | succ k ih =>
    simp only [cntK, metK]
    by_cases h : c = (f k).toNat
    · rw [if_pos h, if_pos h]; simp
    · rw [if_neg h, if_neg h]; exact ih
theorem cnt_mono (f : Nat → F) (c k d : Nat) : cntK f k c ≤ cntK f (k + d) c := by
  induction d with
  | zero => exact Nat.le_refl _
  | succ d ih =>
    refine Nat.le_trans ih ?_
    show _ ≤ cntK f (k + d + 1) c
    simp only [cntK]; split <;> omega
def sumTo : Nat → (Nat → Nat) → Nat
  | 0, _ => 0
  | n + 1, g => sumTo n g + g n
theorem sumTo_zero (n : Nat) (g : Nat → Nat) (h : ∀ c, c < n → g c = 0) : sumTo n g = 0 := by
  induction n with
  | zero => rfl
  | succ n ih => simp only [sumTo]; rw [ih (fun c hc => h c (by omega)), h n (by omega)]
theorem sumTo_step (n : Nat) (g g' : Nat → Nat) (a : Nat) (h : ∀ c, c < n → g' c = if c = a then g c + 1 else g c) : sumTo n g' = sumTo n g + (if a < n then 1 else 0) := by
  induction n with
  | zero => rfl
  | succ n ih =>
    simp only [sumTo]
    rw [ih (fun c hc => h c (by omega)), h n (by omega)]
    by_cases e : n = a
    · subst e; rw [if_pos rfl, if_neg (by omega), if_pos (by omega)]; omega
    · rw [if_neg e]
      by_cases e2 : a < n
      · rw [if_pos e2, if_pos (by omega)]; omega
      · rw [if_neg e2, if_neg (by omega)]; omega
theorem sum_cnt (f : Nat → F) (k : Nat) : sumTo 256 (cntK f k) = k := by
  induction k with
  | zero => exact sumTo_zero 256 _ (fun _ _ => rfl)
  | succ k ih =>
    rw [sumTo_step 256 (cntK f k) (cntK f (k + 1)) (f k).toNat (fun c _ => by simp only [cntK]), ih, if_pos (f k).isLt]
theorem all_one (n : Nat) (g : Nat → Nat) (h : ∀ c, c < n → g c ≤ 1) (hs : sumTo n g = n) : ∀ c, c < n → g c = 1 := by
  have hle : ∀ m, m ≤ n → sumTo m g ≤ m := by
    intro m
    induction m with
    | zero => intro _; exact Nat.le_refl _
    | succ m ih => intro hm; simp only [sumTo]; have := ih (by omega); have := h m (by omega); omega
  induction n with
  | zero => intro c hc; omega
  | succ n ih =>
    simp only [sumTo] at hs
    have h1 := hle n (by omega)
    have h2 := h n (by omega)
    intro c hc
    rcases Nat.lt_or_eq_of_le (Nat.le_of_lt_succ hc) with h3 | h3
    · exact ih (fun c hc => h c (by omega)) (by omega) (fun m hm => hle m (by omega)) c h3
    · subst h3; omega
theorem cnt_le (f : Nat → F) (k : Nat) (h : Distinct f k) (c : Nat) : cntK f k c ≤ 1 := by
  induction k with
  | zero => simp [cntK]
  | succ k ih =>
    simp only [cntK]
    by_cases e : c = (f k).toNat
    · subst e; rw [if_pos rfl, (cnt_zero f k _).2 (h k (by omega))]; omega
    · rw [if_neg e]; exact ih (fun j hj => h j (by omega))
theorem once_of_distinct (f : Nat → F) (h : Distinct f 256) : ∀ c, c < 256 → cntK f 256 c = 1 :=
  all_one 256 (cntK f 256) (fun c _ => cnt_le f 256 h c) (sum_cnt f 256)
theorem distinct_of_once (f : Nat → F) (h : ∀ c, c < 256 → cntK f 256 c = 1) : Distinct f 256 := by
  intro j hj
  cases e : metK f j (f j).toNat
  · rfl
  · have h1 : cntK f j (f j).toNat ≠ 0 := fun h0 => by rw [(cnt_zero f j _).1 h0] at e; cases e
    have h2 : cntK f (j + 1) (f j).toNat = cntK f j (f j).toNat + 1 := by simp only [cntK]; rw [if_pos trivial]
    have h3 := cnt_mono f (f j).toNat (j + 1) (256 - (j + 1))
    rw [show j + 1 + (256 - (j + 1)) = 256 from by omega, h (f j).toNat (f j).isLt] at h3
    omega
theorem hit (f : Nat → F) (h : Distinct f 256) (c : Nat) (hc : c < 256) : ∃ j, j < 256 ∧ (f j).toNat = c := by
  have h1 := once_of_distinct f h c hc
  have : metK f 256 c = true := by
    cases e : metK f 256 c
    · have := (cnt_zero f 256 c).2 e; omega
    · rfl
  exact (metK_iff f 256 c).1 this
/-- the other way -/
def turnK (f : Nat → F) : Nat → F := outK f 256
theorem turnK_at (f : Nat → F) (h : Distinct f 256) (j : Nat) (hj : j < 256) : (turnK f (f j).toNat).toNat = j := by
  unfold turnK; rw [outK_at f 256 h j hj, BitVec.toNat_ofNat]; omega
theorem turnK_distinct (f : Nat → F) (h : Distinct f 256) : Distinct (turnK f) 256 := by
  apply Distinct.of_inj
  intro i j hi hj e
  obtain ⟨a, ha, rfl⟩ := hit f h i hi
  obtain ⟨b, hb, rfl⟩ := hit f h j hj
  rw [turnK_at f h a ha, turnK_at f h b hb] at e
  rw [e]
theorem turn_twice (f : Nat → F) (h : Distinct f 256) (c : Nat) (hc : c < 256) : turnK (turnK f) c = f c := by
  have h1 := turnK_at (turnK f) (turnK_distinct f h) (f c).toNat (f c).isLt
  rw [turnK_at f h c hc] at h1
  exact BitVec.eq_of_toNat_eq h1
end Go.Proofs.Ytphoelhelmnibaa.Sw
