/-
For all bytes a, b and every n: the program's product, inverse and power are the document's.
-/
import Derived.Test.YtphoelhelmnibaaPGfTimesx2
import Derived.Test.YtphoelhelmnibaaGlGfTimes
namespace Go.Proofs.Ytphoelhelmnibaa.Pure
open Go.RowKit Go.Proofs.Ytphoelhelmnibaa.PGfTimes Go.Proofs.Ytphoelhelmnibaa.Gf Go.Proofs.Ytphoelhelmnibaa.LGfTimes Go.Proofs.YtphoelhelmnibaaW.PrintWords Go.Proofs.YtphoelhelmnibaaW.PrintLast

theorem awake_gf (k : Nat) (hk : 9 ≤ k) : chatelainelaw02_awake.f k = some true := by
  unfold chatelainelaw02_awake.f
  rw [show (gf_Times.f k 2 128) = some (toI (mul 2#8 128#8)) from times k hk 2#8 128#8]
  rw [Option.bind_some]
  congr 1
theorem want_loop (a by' : F) (n : Int) (m : Nat) (hm : m ≤ 300) (K : Nat) (hp : ∀ k, K ≤ k → gf_Power.f k (toI a) n = some (toI (powN by' m))) (d : Nat) :
    ∀ (k i : Nat), i + d = m → K + 17 + d < k → chatelainelaw02_GfTimes.l0 k (toI a) n (toI by') (toI (powN by' i)) (m : Int) (i : Int) = some true := by
  induction d with
  | zero =>
    intro k i hi hk
    obtain ⟨k, rfl⟩ : ∃ m, k = m + 1 := ⟨k - 1, by omega⟩
    obtain rfl : i = m := by omega
    rw [chatelainelaw02_GfTimes.l0, if_neg (by omega), hp k (by omega)]
    rw [Option.bind_some]
    rw [wrap64_toI, beq_self_eq_true]
  | succ d ih =>
    intro k i hi hk
    obtain ⟨k, rfl⟩ : ∃ m, k = m + 1 := ⟨k - 1, by omega⟩
    rw [chatelainelaw02_GfTimes.l0, if_pos (by omega), refTimes k (by omega)]
    rw [Option.bind_some]
    rw [show wrap64 ((i : Int) + 1) = ((i + 1 : Nat) : Int) from by unfold wrap64; omega]
    exact ih k (i + 1) (by omega) (by omega)
theorem want (a by' : F) (n : Int) (m : Nat) (hp : ∀ k, 74 ≤ k → gf_Power.f k (toI a) n = some (toI (powN by' m))) (k : Nat) (hk : 400 ≤ k) :
    chatelainelaw02_GfTimes.j2 k (toI a) n (toI by') (m : Int) = some true := by
  obtain ⟨k, rfl⟩ : ∃ m, k = m + 1 := ⟨k - 1, by omega⟩
  rw [chatelainelaw02_GfTimes.j2]
  by_cases h : (m : Int) > 300
  · rw [if_pos h]
  · rw [if_neg h]
    exact want_loop a by' n m (by omega) 74 hp m k 0 (by omega) (by omega)
theorem GfTimes_at (a b : F) (n : Int) (hn : -9223372036854775808 ≤ n ∧ n ≤ 9223372036854775807) (k : Nat) (hk : 500 ≤ k) : chatelainelaw02_GfTimes.f (k + 1 + 1) (toI a) (toI b) n = some true := by
  unfold chatelainelaw02_GfTimes.f
  rw [awake_gf _ (by omega)]
  rw [Option.bind_some, if_pos rfl]
  rw [times _ (by omega), Option.bind_some, wrap64_toI, wrap64_toI, refTimes _ (by omega), Option.bind_some]
  rw [wrap64_toI, if_pos rfl, inverse _ (by omega), Option.bind_some, refInverse _ (by omega), Option.bind_some]
  rw [wrap64_toI, bne_self_eq_false, chatelainelaw02_GfTimes.j0, if_neg (by decide)]
  by_cases hneg : n < 0
  · rw [if_pos hneg, wrap64_toI, refInverse _ (by omega)]
    rw [Option.bind_some]
    have e1 : Int.tmod n 255 = -(((-n) % 255)) := by
      obtain ⟨m, rfl⟩ : ∃ m : Nat, n = -(m : Int) := ⟨(-n).toNat, by omega⟩
      rw [Int.neg_tmod, Int.neg_neg]; rfl
    have e2 : wrap64 (-(Int.tmod n 255)) = (((-(Int.tmod n 255)).toNat : Nat) : Int) := by rw [e1]; unfold wrap64; omega
    rw [e2]
    have hb : ∀ k, 74 ≤ k → gf_Power.f k (toI a) n = some (toI (powN (inv a) (back n))) := fun k hk => power_below k hk a n hneg hn.1
    unfold back at hb
    generalize (-(Int.tmod n 255)).toNat = m at *
    by_cases ha : toI a = 0
    · obtain rfl : a = 0#8 := toI_inj ha
      rw [if_pos ha, chatelainelaw02_GfTimes.j1, if_neg (by decide), if_pos ha, hb k (by omega), inv_zero]
      rw [Option.bind_some]
      rw [powN_zero _ (by split <;> omega), toI_zero, beq_self_eq_true]
    · rw [if_neg ha, chatelainelaw02_GfTimes.j1]
      have ha' : a ≠ 0#8 := fun e => ha (by rw [e, toI_zero])
      by_cases h0 : m = 0
      · subst h0
        rw [if_pos (by decide), hb k (by omega), if_pos rfl, powSq _ (inv_ne a ha')]
        rw [Option.bind_some]
        rw [toI_one, beq_self_eq_true]
      · rw [if_neg (by simpa using h0), if_neg ha]
        rw [if_neg h0] at hb
        exact want a (inv a) n m hb k (by omega)
  · rw [if_neg hneg, wrap64_toI]
    obtain ⟨m, rfl⟩ := Int.eq_ofNat_of_zero_le (by omega : 0 ≤ n)
    exact want a a m m (fun k hk => power k hk a m (by omega)) _ (by omega)
theorem GfTimes : chatelainelaw02_GfTimes.Pure := by
  intro a0 b0 n h0 h1 h2
  obtain ⟨a, rfl⟩ := exists_byte a0 h0
  obtain ⟨b, rfl⟩ := exists_byte b0 h1
  exact ⟨_, GfTimes_at a b n (wf_i64 n h2) 500 (Nat.le_refl _)⟩

end Go.Proofs.Ytphoelhelmnibaa.Pure
