/- The walks of the reference's bit and Box: the reference's box of a byte is the table's. No condition. -/
import Derived.Test.YtjmeiloklhbllaaT15
import Derived.Test.YtjmeiloklhbllaaField
namespace Go.Proofs.Ytjmeiloklhbllaa
open Go.RowKit

theorem u8_mul2_B (x : UInt8) : ((x.toNat : Int) * (2 : Int) % (256 : Int)) = ((x * 2).toNat : Int) := by
  rw [UInt8.toNat_mul]; simp
theorem u8_add_B (x y : UInt8) : (((x.toNat : Int) + (y.toNat : Int)) % (256 : Int)) = ((x + y).toNat : Int) := by
  rw [UInt8.toNat_add]; simp
/-- x, k bits less. -/
def halfN (x : UInt8) : Nat → UInt8
  | 0 => x
  | k + 1 => halfN x k >>> 1
/-- Bit n of x, the number taken modulo 8. -/
def bitF (x : UInt8) (n : Nat) : UInt8 := halfN x (n % 8) &&& 1
theorem bitF_B (x : UInt8) (n : Nat) : ((halfN x (n % 8)).toNat : Int) % (2 : Int) = ((bitF x n).toNat : Int) := by
  unfold bitF
  rw [UInt8.toNat_and]
  have := Nat.and_two_pow_sub_one_eq_mod (halfN x (n % 8)).toNat 1
  have e : (halfN x (n % 8)).toNat &&& (1 : UInt8).toNat = (halfN x (n % 8)).toNat % 2 := this
  rw [e]; omega

set_option maxRecDepth 100000 in
set_option maxHeartbeats 400000 in
theorem bit_any (x : UInt8) (n : Nat) (hn : n ≤ 255) (w : World) :
    Calls Try.prog 34 #[.int .u8 x.toNat, .int .i64 n] w fun e w' => e = .returned (.int .u8 (bitF x n).toNat) ∧ w' = w := by
  go_enter Try.func34, Try.ntmps34
  go_wp2
  go_loop [0, 5] (fun v k => ∃ j : Nat, j ≤ n % 8 ∧ v = .int .u8 (halfN x j).toNat ∧ k = .int .i64 j) (fun _ k => n % 8 - (intOf k).toNat)
  case atStart => exact ⟨0, by omega, rfl, rfl⟩
  case round =>
    obtain ⟨j, hj, rfl, rfl⟩ := hrel
    by_cases hlt : j < n % 8
    · have hb := (halfN x j).toNat_lt
      go_wp2
      go_round
      case rel => exact ⟨j + 1, by omega, by rw [u8_shr1_B]; rfl, by go_num⟩
      case measure => simp [intOf]; omega
    · obtain rfl : j = n % 8 := by omega
      go_wp2
      go_ret
      exact ⟨by rw [← bitF_B]; rfl, rfl⟩
theorem bit_at (x : UInt8) (i : Int) (n : Nat) (h : i = (n : Int)) (hn : n ≤ 255) (w : World) :
    Calls Try.prog 34 #[.int .u8 x.toNat, .int .i64 i] w fun e w' => e = .returned (.int .u8 (bitF x n).toNat) ∧ w' = w := by
  subst h; exact bit_any x n hn w

/-- The last byte up to n with which the product is 1. -/
def yTo (x : UInt8) : Nat → UInt8
  | 0 => 0
  | n + 1 => if tm x (UInt8.ofNat (n + 1)) = 1 then UInt8.ofNat (n + 1) else yTo x n
theorem yTo_zero (n : Nat) : yTo 0 n = 0 := by
  induction n with
  | zero => rfl
  | succ n ih => rw [yTo, tm_zero_left, if_neg (by decide), ih]
theorem yTo_inv (x : UInt8) (hx : x ≠ 0) (n : Nat) (hn : n ≤ 255) : yTo x n = if (inv x).toNat ≤ n then inv x else 0 := by
  have hi : inv x ≠ 0 := by
    intro e
    have := tm_inv x hx
    rw [e, tm_zero_right] at this
    exact absurd this (by decide)
  have hi0 : (inv x).toNat ≠ 0 := fun e => hi (UInt8.toNat_inj.1 (by simpa using e))
  induction n with
  | zero => rw [yTo, if_neg (by omega)]
  | succ n ih =>
    have h := tm_one_iff x (UInt8.ofNat (n + 1)) hx
    rw [yTo]
    by_cases e : UInt8.ofNat (n + 1) = inv x
    · rw [if_pos (h.2 e), e]
      have : (inv x).toNat = n + 1 := by rw [← e]; simp; omega
      rw [if_pos (by omega)]
    · rw [if_neg (fun k => e (h.1 k)), ih (by omega)]
      have : (inv x).toNat ≠ n + 1 := by
        intro k; apply e
        apply UInt8.toNat_inj.1
        rw [k]; simp; omega
      by_cases h2 : (inv x).toNat ≤ n
      · rw [if_pos h2, if_pos (by omega)]
      · rw [if_neg h2, if_neg (by omega)]
/-- The first k bits of the box, out of y. -/
def outTo (y : UInt8) : Nat → UInt8
  | 0 => 0
  | k + 1 => outTo y k * 2 + (bitF y (7 - k) ^^^ bitF y (7 - k + 4) ^^^ bitF y (7 - k + 5) ^^^ bitF y (7 - k + 6) ^^^ bitF y (7 - k + 7) ^^^ bitF 99 (7 - k))
theorem box_all : ∀ n, n < 256 → outTo (if UInt8.ofNat n = 0 then 0 else inv (UInt8.ofNat n)) 8 = sb (UInt8.ofNat n) := by decide +kernel
theorem outTo_sb (x : UInt8) : outTo (yTo x 255) 8 = sb x := by
  have h := of_all (p := fun x => outTo (if x = 0 then 0 else inv x) 8 = sb x) box_all x
  rw [← h]
  congr 1
  by_cases hx : x = 0
  · rw [if_pos hx, hx, yTo_zero]
  · rw [if_neg hx, yTo_inv x hx 255 (Nat.le_refl _), if_pos (by have := (inv x).toNat_lt; omega)]

theorem refTimes_at (x b : UInt8) (j : Int) (h : j = ((b.toNat : Nat) : Int)) (w : World) :
    Calls Try.prog 17 #[.int .u8 x.toNat, .int .u8 j] w fun e w' => e = .returned (.int .u8 (tm x b).toNat) ∧ w' = w := by
  subst h; exact refTimes_any x b w

set_option maxRecDepth 100000 in
set_option maxHeartbeats 400000 in
theorem refBox_any (x : UInt8) (w : World) :
    Calls Try.prog 19 #[.int .u8 x.toNat] w fun e w' => e = .returned (.int .u8 (sb x).toNat) ∧ w' = w := by
  go_enter Try.func19, Try.ntmps19
  go_wp2_with fail
  go_loop [3, 4] (fun y i => ∃ k : Nat, k ≤ 255 ∧ y = .int .u8 (yTo x k).toNat ∧ i = .int .i64 ((k : Int) + 1)) (fun _ i => 256 - (intOf i).toNat)
  case atStart => exact ⟨0, by omega, rfl, rfl⟩
  case round =>
    obtain ⟨k, hk, rfl, rfl⟩ := hrel
    by_cases hlt : k < 255
    · obtain ⟨z, hzz⟩ : ∃ z : UInt8, z = UInt8.ofNat (k + 1) := ⟨_, rfl⟩
      have HZ := Lib.hid (show ((z.toNat : Nat) : Int) = (k : Int) + 1 by rw [hzz, u8_ofNat_B _ (by omega)]; omega)
      by_cases ht : tm x z = 1
      · have htb : (((tm x z).toNat : Int) == 1) = true := by
          rw [ht]; rfl
        have HY := Lib.hid (show yTo x (k + 1) = z by rw [yTo, ← hzz, if_pos ht])
        clear ht hzz
        go_wp2_with fail
        refine (refTimes_at x z _ HZ.out.symm _).mono ?_
        rintro e w' ⟨rfl, rfl⟩
        go_wp2_with fail
        go_round
        case rel => exact ⟨k + 1, by omega, by rw [HY.out, HZ.out], by go_num⟩
        case measure => simp [intOf]; omega
      · have htb : (((tm x z).toNat : Int) == 1) = false := by
          rw [beq_eq_false_iff_ne]; intro e; exact ht (UInt8.toNat_inj.1 (by simp; omega))
        have HY := Lib.hid (show yTo x (k + 1) = yTo x k by rw [yTo, ← hzz, if_neg ht])
        clear ht hzz
        go_wp2_with fail
        refine (refTimes_at x z _ HZ.out.symm _).mono ?_
        rintro e w' ⟨rfl, rfl⟩
        go_wp2_with fail
        go_round
        case rel => exact ⟨k + 1, by omega, by rw [HY.out], by go_num⟩
        case measure => simp [intOf]; omega
    · obtain rfl : k = 255 := by omega
      have HO := Lib.hid (outTo_sb x)
      generalize yTo x 255 = y at HO ⊢
      go_wp2_with fail
      go_loop [5, 6] (fun o i => ∃ k : Nat, k ≤ 8 ∧ o = .int .u8 (outTo y k).toNat ∧ i = .int .i64 (7 - (k : Int))) (fun _ i => (intOf i + 1).toNat)
      case atStart => exact ⟨0, by omega, rfl, rfl⟩
      case round =>
        obtain ⟨k, hk, rfl, rfl⟩ := hrel
        by_cases hlt : k < 8
        · have hb := (outTo y k).toNat_lt
          go_wp2_with fail
          refine (bit_at y _ (7 - k) (by omega) (by omega) _).mono ?_
          rintro e w' ⟨rfl, rfl⟩
          go_wp2_with fail
          refine (bit_at y _ (7 - k + 4) (by omega) (by omega) _).mono ?_
          rintro e w' ⟨rfl, rfl⟩
          go_wp2_with fail
          refine (bit_at y _ (7 - k + 5) (by omega) (by omega) _).mono ?_
          rintro e w' ⟨rfl, rfl⟩
          go_wp2_with fail
          refine (bit_at y _ (7 - k + 6) (by omega) (by omega) _).mono ?_
          rintro e w' ⟨rfl, rfl⟩
          go_wp2_with fail
          refine (bit_at y _ (7 - k + 7) (by omega) (by omega) _).mono ?_
          rintro e w' ⟨rfl, rfl⟩
          go_wp2_with fail
          refine (bit_at 99 _ (7 - k) (by omega) (by omega) _).mono ?_
          rintro e w' ⟨rfl, rfl⟩
          go_wp2_with fail
          go_round
          case rel => exact ⟨k + 1, by omega, by rw [u8_xor_B, u8_xor_B, u8_xor_B, u8_xor_B, u8_xor_B, u8_mul2_B, u8_add_B]; rfl, congrArg (Value.int .i64) (by omega)⟩
          case measure => simp [intOf]; omega
        · obtain rfl : k = 8 := by omega
          go_wp2_with fail
          go_ret
          exact ⟨by rw [HO.out]; rfl, rfl⟩

end Go.Proofs.Ytjmeiloklhbllaa
