/- Small plain laws of the round keys and of the box turned round; no program in sight. -/
import Derived.Test.YtjmeiloklhbllaaBase
namespace Go.Proofs.Ytjmeiloklhbllaa

theorem nk_lt (last : Nat → UInt8) (x : UInt8) (j : Nat) (h : j < 4) : nk last x j = last j ^^^ (sb (last (12 + (j + 1) % 4)) ^^^ (if j = 0 then x else 0)) := by
  unfold nk
  rw [Nat.div_eq_of_lt h, Nat.mod_eq_of_lt h]; rfl
theorem nk_ge (last : Nat → UInt8) (x : UInt8) (j : Nat) (h : 4 ≤ j) : nk last x j = last j ^^^ nk last x (j - 4) := by
  unfold nk
  have e1 : j / 4 = (j - 4) / 4 + 1 := by omega
  have e2 : j % 4 = (j - 4) % 4 := by omega
  rw [e1, e2, nkc]
  congr 2
  omega
/-- All round keys, one behind the other. -/
def rkF (key : Nat → UInt8) (p : Nat) : UInt8 := rk key (p / 16) (p % 16)
theorem rkF_at (key : Nat → UInt8) (i j : Nat) (h : j < 16) : rkF key (16 * i + j) = rk key i j := by
  unfold rkF
  rw [show (16 * i + j) / 16 = i by omega, show (16 * i + j) % 16 = j by omega]
/-- The cells of a cipher: the first n bytes of the round keys are laid. -/
def kst (key : Nat → UInt8) (g : Nat → Value) (n : Nat) : Nat → Value := fun m => if 19 ≤ m ∧ m < 19 + n then byt (rkF key) (m - 19) else g m
theorem kst_next (key : Nat → UInt8) (g : Nat → Value) (n : Nat) : upd (kst key g n) (19 + n) (byt (rkF key) n) = kst key g (n + 1) := by
  funext m; simp only [upd, kst]
  by_cases h : m = 19 + n
  · subst h; simp
  · rw [if_neg h]
    by_cases h2 : 19 ≤ m ∧ m < 19 + n
    · rw [if_pos h2, if_pos (by omega)]
    · rw [if_neg h2, if_neg (by omega)]
theorem kst_at (key : Nat → UInt8) (g : Nat → Value) (n p : Nat) (h : p < n) : kst key g n (19 + p) = byt (rkF key) p := by
  unfold kst; rw [if_pos (by omega)]; congr 1; omega
/-- The cells of a cipher: the first n boxes are laid the other way round. -/
def backTo (g : Nat → Value) : Nat → Nat → Value
  | 0 => g
  | n + 1 => upd (backTo g n) (195 + (sbN n).toNat) (.int .u8 (n : Int))
theorem isb_sb_N : ∀ i, i < 256 → isbN (sbN i).toNat = UInt8.ofNat i := by decide +kernel
theorem sb_isb_N : ∀ y, y < 256 → sbN (isbN y).toNat = UInt8.ofNat y := by decide +kernel
theorem backTo_out (g : Nat → Value) (n m : Nat) (h : ¬ (195 ≤ m ∧ m < 451)) : backTo g n m = g m := by
  induction n with
  | zero => rfl
  | succ n ih =>
    have := (sbN n).toNat_lt
    rw [backTo, upd_other _ _ _ _ (by omega), ih]
theorem backTo_in (g : Nat → Value) (y : Nat) (hy : y < 256) (n : Nat) (hn : n ≤ 256) : backTo g n (195 + y) = if (isbN y).toNat < n then byt isbN y else g (195 + y) := by
  induction n with
  | zero => simp [backTo]
  | succ n ih =>
    have hb := (isbN y).toNat_lt
    rw [backTo]
    by_cases h : (isbN y).toNat = n
    · have hs : (sbN n).toNat = y := by rw [← h, sb_isb_N y hy]; simp; omega
      rw [hs, upd_same, if_pos (by omega)]
      unfold byt; rw [h]
    · have hs : y ≠ (sbN n).toNat := by
        intro e; apply h
        have := isb_sb_N n (by omega)
        rw [← e] at this; rw [this]; simp; omega
      rw [upd_other _ _ _ _ (by omega), ih (by omega)]
      by_cases h2 : (isbN y).toNat < n
      · rw [if_pos h2, if_pos (by omega)]
      · rw [if_neg h2, if_neg (by omega)]
/-- The cells of a cipher that is at work. -/
def begun (key : Nat → UInt8) (g : Nat → Value) : Nat → Value := fun m => if m < 19 then g m else if m < 195 then byt (rkF key) (m - 19) else byt isbN (m - 195)
theorem kst_begun (key : Nat → UInt8) (g : Nat → Value) : ∀ m, m < 451 → kst key (backTo g 256) 176 m = begun key g m := by
  intro m hm
  unfold kst begun
  by_cases h1 : m < 19
  · rw [if_neg (by omega), if_pos h1, backTo_out _ _ _ (by omega)]
  · by_cases h2 : m < 195
    · rw [if_pos (by omega), if_neg h1, if_pos h2]
    · rw [if_neg (by omega), if_neg h1, if_neg h2]
      obtain ⟨y, rfl⟩ : ∃ y, m = 195 + y := ⟨m - 195, by omega⟩
      have e := backTo_in g y (by omega) 256 (Nat.le_refl _)
      rw [if_pos (isbN y).toNat_lt] at e
      have e2 : 195 + y - 195 = y := by omega
      rw [e2]
      exact e

end Go.Proofs.Ytjmeiloklhbllaa
