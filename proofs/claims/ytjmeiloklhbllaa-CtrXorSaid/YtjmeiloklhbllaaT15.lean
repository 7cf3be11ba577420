/- The walks of aes.Times and of the reference's Times: both answer the product of the two bytes. No condition. -/
import Derived.Test.YtjmeiloklhbllaaBase
namespace Go.Proofs.Ytjmeiloklhbllaa
open Go.RowKit

theorem step_a (p : UInt8) : bits .xor .u8 ((p.toNat : Int) * 2 % 256) (bits .and .u8 27 (-((p.toNat : Int) / 128) % 256)) = ((xt p).toNat : Int) := by
  rw [u8_shr7_B, u8_neg_B, u8_shl1_B, show (27 : Int) = ((27 : UInt8).toNat : Int) from rfl, u8_and_B, u8_xor_B]; rfl
theorem step_o (p q r : UInt8) : bits .xor .u8 (r.toNat : Int) (bits .and .u8 (p.toNat : Int) (-(bits .and .u8 (q.toNat : Int) 1) % 256)) = ((r ^^^ (p &&& ((0 : UInt8) - (q &&& 1)))).toNat : Int) := by
  rw [show (1 : Int) = ((1 : UInt8).toNat : Int) from rfl, u8_and_B, u8_neg_B, u8_and_B, u8_xor_B]
theorem tmGo_zero (n : Nat) (p r : UInt8) : tmGo n p 0 r = r := by
  induction n generalizing p r with
  | zero => rfl
  | succ n ih => unfold tmGo; simp [ih]

/-- What is still to come. -/
def TmI (a b p q r : UInt8) : Prop := ∃ n, q.toNat < 2 ^ n ∧ tmGo n p q r = tm a b
theorem TmI.next {a b p q r : UInt8} (h : TmI a b p q r) (hq : q ≠ 0) : TmI a b (xt p) (q >>> 1) (r ^^^ (p &&& ((0 : UInt8) - (q &&& 1)))) := by
  obtain ⟨n, hn, he⟩ := h
  cases n with
  | zero => exact absurd (UInt8.toNat_inj.1 (by simp at hn ⊢; omega)) hq
  | succ n =>
    refine ⟨n, ?_, he⟩
    rw [UInt8.toNat_shiftRight]; simp [Nat.shiftRight_eq_div_pow]; rw [Nat.pow_succ] at hn; omega
theorem TmI.done {a b p q r : UInt8} (h : TmI a b p q r) (hq : q = 0) : r = tm a b := by
  obtain ⟨n, _, he⟩ := h
  rw [hq, tmGo_zero] at he; exact he
theorem ret_u8 {a b : UInt8} (h : a = b) : Ending.returned (.int .u8 (a.toNat : Int)) = .returned (.int .u8 (b.toNat : Int)) := by rw [h]

set_option maxHeartbeats 400000 in
theorem times_any (a b : UInt8) (w : World) :
    Calls Try.prog 15 #[.int .u8 a.toNat, .int .u8 b.toNat] w fun e w' => e = .returned (.int .u8 (tm a b).toNat) ∧ w' = w := by
  go_enter Try.func15, Try.ntmps15
  go_wp2
  go_loop [0, 1, 4] (fun x y o => ∃ p q r : UInt8, x = .int .u8 p.toNat ∧ y = .int .u8 q.toNat ∧ o = .int .u8 r.toNat ∧ TmI a b p q r) (fun _ y _ => (intOf y).toNat)
  case atStart => exact ⟨a, b, 0, rfl, rfl, rfl, 8, b.toNat_lt, rfl⟩
  case round =>
    obtain ⟨p, q, r, rfl, rfl, rfl, hI⟩ := hrel
    by_cases hq : q = 0
    · subst hq
      have hz : ((0 : UInt8).toNat : Int) = 0 := rfl
      have HI := hI.done rfl
      rw [hz]
      go_wp2
      go_ret
      exact ⟨rfl, rfl⟩
    · have hne : ((q.toNat : Int) != 0) = true := by
        rw [bne_iff_ne]; intro h; exact hq (UInt8.toNat_inj.1 (by simp; omega))
      have hpos : 0 < (q.toNat : Int) := by
        have : q.toNat ≠ 0 := fun h => hq (UInt8.toNat_inj.1 (by simpa using h))
        omega
      have HI := hI.next hq
      go_wp2
      go_round
      case rel => exact ⟨xt p, q >>> 1, _, by rw [step_a], by rw [u8_shr1_B], by rw [step_o], HI⟩
      case measure => simp [intOf]; omega

/-! The reference. -/
theorem odd_mask : ∀ n, n < 256 → ((UInt8.ofNat n &&& 1) = if n % 2 = 1 then 1 else 0) := by decide +kernel
theorem high_mask : ∀ n, n < 256 → (UInt8.ofNat n >>> 7) = if 128 ≤ n then 1 else 0 := by decide +kernel
theorem mask_odd (p q : UInt8) : (p &&& ((0 : UInt8) - (q &&& 1))) = if q.toNat % 2 = 1 then p else 0 := by
  have h := odd_mask q.toNat q.toNat_lt
  rw [UInt8.ofNat_toNat] at h
  rw [h]; split <;> simp
theorem mask_high (p : UInt8) : xt p = (p <<< 1) ^^^ (if 128 ≤ p.toNat then 27 else 0) := by
  have h := high_mask p.toNat p.toNat_lt
  rw [UInt8.ofNat_toNat] at h
  unfold xt; rw [h]; split <;> simp

theorem lt_of_i (i : Nat) (h : (i : Int) < 8) : i < 8 := by omega
theorem ref_a_hi (p : UInt8) (h : 128 ≤ p.toNat) : bits .xor .u8 ((p.toNat : Int) * 2 % 256) 27 = ((xt p).toNat : Int) := by
  rw [u8_shl1_B, show (27 : Int) = ((27 : UInt8).toNat : Int) from rfl, u8_xor_B, mask_high, if_pos h]
theorem ref_a_lo (p : UInt8) (h : ¬ 128 ≤ p.toNat) : (p.toNat : Int) * 2 = ((xt p).toNat : Int) := by
  have e : (p.toNat : Int) * 2 = (p.toNat : Int) * 2 % 256 := by omega
  rw [e, u8_shl1_B, mask_high, if_neg h]; simp
theorem ref_o_odd (p q r : UInt8) (h : q.toNat % 2 = 1) : bits .xor .u8 (r.toNat : Int) (p.toNat : Int) = ((r ^^^ (p &&& ((0 : UInt8) - (q &&& 1)))).toNat : Int) := by
  rw [u8_xor_B, mask_odd, if_pos h]
theorem ref_o_even (p q r : UInt8) (h : ¬ q.toNat % 2 = 1) : (r.toNat : Int) = ((r ^^^ (p &&& ((0 : UInt8) - (q &&& 1)))).toNat : Int) := by
  rw [mask_odd, if_neg h]; simp
/-- What is still to come behind i rounds. -/
def RtI (a b p q r : UInt8) (i : Nat) : Prop := i ≤ 8 ∧ tmGo (8 - i) p q r = tm a b
theorem RtI.next {a b p q r : UInt8} {i : Nat} (h : RtI a b p q r i) (hi : i < 8) : RtI a b (xt p) (q >>> 1) (r ^^^ (p &&& ((0 : UInt8) - (q &&& 1)))) (i + 1) := by
  obtain ⟨_, he⟩ := h
  refine ⟨by omega, ?_⟩
  rw [show 8 - i = (8 - (i + 1)) + 1 by omega] at he
  exact he

set_option maxRecDepth 100000 in
set_option maxHeartbeats 400000 in
theorem refTimes_any (a b : UInt8) (w : World) :
    Calls Try.prog 17 #[.int .u8 a.toNat, .int .u8 b.toNat] w fun e w' => e = .returned (.int .u8 (tm a b).toNat) ∧ w' = w := by
  go_enter Try.func17, Try.ntmps17
  go_wp2
  go_loop [0, 1, 5, 6] (fun x y o i => ∃ (p q r : UInt8) (j : Nat), x = .int .u8 p.toNat ∧ y = .int .u8 q.toNat ∧ o = .int .u8 r.toNat ∧ i = .int .i64 j ∧ RtI a b p q r j) (fun _ _ _ i => 8 - (intOf i).toNat)
  case atStart => exact ⟨a, b, 0, 0, rfl, rfl, rfl, rfl, by omega, rfl⟩
  case round =>
    obtain ⟨p, q, r, j, rfl, rfl, rfl, rfl, hI⟩ := hrel
    by_cases hlt : j < 8
    · have HI := hI.next hlt
      have hb := p.toNat_lt
      have hb2 := q.toNat_lt
      by_cases ho : q.toNat % 2 = 1
      · have hob : (((q.toNat : Int) % 2) == 1) = true := by rw [beq_iff_eq]; omega
        by_cases hh : 128 ≤ p.toNat
        · go_wp2
          go_round
          case rel => exact ⟨xt p, q >>> 1, _, j + 1, by rw [ref_a_hi p hh], by rw [u8_shr1_B], by rw [ref_o_odd p q r ho], by go_num, HI⟩
          case measure => simp [intOf]; omega
        · go_wp2
          go_round
          case rel => exact ⟨xt p, q >>> 1, _, j + 1, by rw [ref_a_lo p hh], by rw [u8_shr1_B], by rw [ref_o_odd p q r ho], by go_num, HI⟩
          case measure => simp [intOf]; omega
      · have hob : (((q.toNat : Int) % 2) == 1) = false := by rw [beq_eq_false_iff_ne]; omega
        by_cases hh : 128 ≤ p.toNat
        · go_wp2
          go_round
          case rel => exact ⟨xt p, q >>> 1, _, j + 1, by rw [ref_a_hi p hh], by rw [u8_shr1_B], by rw [← ref_o_even p q r ho], by go_num, HI⟩
          case measure => simp [intOf]; omega
        · go_wp2
          go_round
          case rel => exact ⟨xt p, q >>> 1, _, j + 1, by rw [ref_a_lo p hh], by rw [u8_shr1_B], by rw [← ref_o_even p q r ho], by go_num, HI⟩
          case measure => simp [intOf]; omega
    · have hj : j = 8 := by have := hI.1; omega
      have he : r = tm a b := by have := hI.2; rw [hj] at this; exact this
      subst hj
      have HE := Lib.hid he
      clear he
      go_wp2
      go_ret
      exact ⟨ret_u8 HE.out, rfl⟩

end Go.Proofs.Ytjmeiloklhbllaa
