/- The walk of the law AesField: it answers true, whatever the three bytes. -/
import Derived.Test.YtjmeiloklhbllaaShown
import Derived.Test.YtjmeiloklhbllaaField
namespace Go.Proofs.Ytjmeiloklhbllaa
open Go.RowKit

theorem beq_of_eq {x y : UInt8} (h : x = y) : (((x.toNat : Nat) : Int) == (y.toNat : Int)) = true := by rw [h]; simp
theorem beq_zero_of_ne {x : UInt8} (h : x ≠ 0) : (((x.toNat : Nat) : Int) == 0) = false := by
  rw [beq_eq_false_iff_ne]; intro e; exact h (UInt8.toNat_inj.1 (by simp; omega))
theorem bne_zero_of_ne {x : UInt8} (h : x ≠ 0) : (((x.toNat : Nat) : Int) != 0) = true := by
  rw [bne_iff_ne]; intro e; exact h (UInt8.toNat_inj.1 (by simp; omega))

set_option maxRecDepth 100000 in
set_option maxHeartbeats 1000000 in
theorem field_any (a b c : UInt8) (w : World) :
    Calls Try.prog 3 #[.int .u8 a.toNat, .int .u8 b.toNat, .int .u8 c.toNat] w fun e w' => e = .returned (.bool true) ∧ Below w.heap.size w w' := by
  have e1 := beq_of_eq (tm_comm a b)
  have e2 := beq_of_eq (tm_assoc a b c)
  have e3 : (((tm a (b ^^^ c)).toNat : Int) == (((tm a b).toNat ^^^ (tm a c).toNat : Nat) : Int)) = true := by rw [tm_xor_right, UInt8.toNat_xor]; simp
  have e4 := beq_of_eq (tm_one a)
  have x1 := u8_xor_B b c
  have x2 := u8_xor_B (tm a b) (tm a c)
  by_cases ha : a = 0
  · have a0 : ((a.toNat : Int) == 0) = true := by rw [ha]; rfl
    clear ha
    go_enter Try.func3, Try.ntmps3
    go_wp2_with fail
    refine (times_any a b _).mono ?_
    rintro e w' ⟨rfl, rfl⟩
    go_wp2_with fail
    refine (times_any b a _).mono ?_
    rintro e w' ⟨rfl, rfl⟩
    go_wp2_with fail
    refine (times_any b c _).mono ?_
    rintro e w' ⟨rfl, rfl⟩
    go_wp2_with fail
    refine (times_any a (tm b c) _).mono ?_
    rintro e w' ⟨rfl, rfl⟩
    go_wp2_with fail
    refine (times_any a b _).mono ?_
    rintro e w' ⟨rfl, rfl⟩
    go_wp2_with fail
    refine (times_any (tm a b) c _).mono ?_
    rintro e w' ⟨rfl, rfl⟩
    go_wp2_with fail
    refine (times_any a (b ^^^ c) _).mono ?_
    rintro e w' ⟨rfl, rfl⟩
    go_wp2_with fail
    refine (times_any a b _).mono ?_
    rintro e w' ⟨rfl, rfl⟩
    go_wp2_with fail
    refine (times_any a c _).mono ?_
    rintro e w' ⟨rfl, rfl⟩
    go_wp2_with fail
    refine (times_any a 1 _).mono ?_
    rintro e w' ⟨rfl, rfl⟩
    go_wp2_with fail
    refine (shown_any _).mono ?_
    rintro e w' ⟨rfl, hb⟩
    go_wp2_with fail
    go_ret
    exact ⟨rfl, hb⟩
  · have a0 := beq_zero_of_ne ha
    by_cases hb0 : b = 0
    · have b0 : ((b.toNat : Int) == 0) = true := by rw [hb0]; rfl
      clear hb0 ha
      go_enter Try.func3, Try.ntmps3
      go_wp2_with fail
      refine (times_any a b _).mono ?_
      rintro e w' ⟨rfl, rfl⟩
      go_wp2_with fail
      refine (times_any b a _).mono ?_
      rintro e w' ⟨rfl, rfl⟩
      go_wp2_with fail
      refine (times_any b c _).mono ?_
      rintro e w' ⟨rfl, rfl⟩
      go_wp2_with fail
      refine (times_any a (tm b c) _).mono ?_
      rintro e w' ⟨rfl, rfl⟩
      go_wp2_with fail
      refine (times_any a b _).mono ?_
      rintro e w' ⟨rfl, rfl⟩
      go_wp2_with fail
      refine (times_any (tm a b) c _).mono ?_
      rintro e w' ⟨rfl, rfl⟩
      go_wp2_with fail
      refine (times_any a (b ^^^ c) _).mono ?_
      rintro e w' ⟨rfl, rfl⟩
      go_wp2_with fail
      refine (times_any a b _).mono ?_
      rintro e w' ⟨rfl, rfl⟩
      go_wp2_with fail
      refine (times_any a c _).mono ?_
      rintro e w' ⟨rfl, rfl⟩
      go_wp2_with fail
      refine (times_any a 1 _).mono ?_
      rintro e w' ⟨rfl, rfl⟩
      go_wp2_with fail
      refine (shown_any _).mono ?_
      rintro e w' ⟨rfl, hb⟩
      go_wp2_with fail
      go_ret
      exact ⟨rfl, hb⟩
    · have b0 := beq_zero_of_ne hb0
      have e5 := bne_zero_of_ne (tm_ne_zero a b ha hb0)
      clear hb0 ha
      go_enter Try.func3, Try.ntmps3
      go_wp2_with fail
      refine (times_any a b _).mono ?_
      rintro e w' ⟨rfl, rfl⟩
      go_wp2_with fail
      refine (times_any b a _).mono ?_
      rintro e w' ⟨rfl, rfl⟩
      go_wp2_with fail
      refine (times_any b c _).mono ?_
      rintro e w' ⟨rfl, rfl⟩
      go_wp2_with fail
      refine (times_any a (tm b c) _).mono ?_
      rintro e w' ⟨rfl, rfl⟩
      go_wp2_with fail
      refine (times_any a b _).mono ?_
      rintro e w' ⟨rfl, rfl⟩
      go_wp2_with fail
      refine (times_any (tm a b) c _).mono ?_
      rintro e w' ⟨rfl, rfl⟩
      go_wp2_with fail
      refine (times_any a (b ^^^ c) _).mono ?_
      rintro e w' ⟨rfl, rfl⟩
      go_wp2_with fail
      refine (times_any a b _).mono ?_
      rintro e w' ⟨rfl, rfl⟩
      go_wp2_with fail
      refine (times_any a c _).mono ?_
      rintro e w' ⟨rfl, rfl⟩
      go_wp2_with fail
      refine (times_any a 1 _).mono ?_
      rintro e w' ⟨rfl, rfl⟩
      go_wp2_with fail
      refine (times_any a b _).mono ?_
      rintro e w' ⟨rfl, rfl⟩
      go_wp2_with fail
      refine (shown_any _).mono ?_
      rintro e w' ⟨rfl, hb⟩
      go_wp2_with fail
      go_ret
      exact ⟨rfl, hb⟩

end Go.Proofs.Ytjmeiloklhbllaa
