/- The walks of the laws AesBytes and AesBoxes: they answer true, whatever the two bytes. -/
import Derived.Test.YtjmeiloklhbllaaShown
import Derived.Test.YtjmeiloklhbllaaRefBox
import Derived.Test.YtjmeiloklhbllaaAesField
namespace Go.Proofs.Ytjmeiloklhbllaa
open Go.RowKit

theorem isb_sb (x : UInt8) : isb (sb x) = x := by
  have := isb_sb_N x.toNat x.toNat_lt
  rwa [UInt8.ofNat_toNat] at this
theorem sb_isb (x : UInt8) : sb (isb x) = x := by
  have := sb_isb_N x.toNat x.toNat_lt
  rwa [UInt8.ofNat_toNat] at this
theorem sb_ne_all : ∀ n, n < 256 → sb (UInt8.ofNat n) ≠ UInt8.ofNat n := by decide +kernel
theorem sb_ne (x : UInt8) : sb x ≠ x := of_all (p := fun x => sb x ≠ x) sb_ne_all x
theorem sb_inj {x y : UInt8} (h : sb x = sb y) : x = y := by rw [← isb_sb x, h, isb_sb]
theorem beq_of_ne {x y : UInt8} (h : x ≠ y) : (((x.toNat : Nat) : Int) == (y.toNat : Int)) = false := by
  rw [beq_eq_false_iff_ne]; intro e; exact h (UInt8.toNat_inj.1 (by omega))
theorem bne_of_ne {x y : UInt8} (h : x ≠ y) : (((x.toNat : Nat) : Int) != (y.toNat : Int)) = true := by
  rw [bne_iff_ne]; intro e; exact h (UInt8.toNat_inj.1 (by omega))

set_option maxRecDepth 100000 in
set_option maxHeartbeats 1000000 in
theorem bytes_any (a b : UInt8) (w : World) :
    Calls Try.prog 4 #[.int .u8 a.toNat, .int .u8 b.toNat] w fun e w' => e = .returned (.bool true) ∧ Below w.heap.size w w' := by
  go_enter Try.func4, Try.ntmps4
  go_wp2_with fail
  refine (times_any a b _).mono ?_
  rintro e w' ⟨rfl, rfl⟩
  go_wp2_with fail
  refine (refTimes_any a b _).mono ?_
  rintro e w' ⟨rfl, rfl⟩
  go_wp2_with fail
  refine (Box_any a _).mono ?_
  rintro e w1 ⟨rfl, hb1⟩
  go_wp2_with fail
  refine (refBox_any a _).mono ?_
  rintro e w' ⟨rfl, rfl⟩
  go_wp2_with fail
  refine (shown_any _).mono ?_
  rintro e w2 ⟨rfl, hb2⟩
  go_wp2_with fail
  go_ret
  exact ⟨rfl, hb1.trans (hb2.mono hb1.size)⟩

set_option maxRecDepth 100000 in
set_option maxHeartbeats 1000000 in
theorem boxes_any (a b : UInt8) (w : World) :
    Calls Try.prog 5 #[.int .u8 a.toNat, .int .u8 b.toNat] w fun e w' => e = .returned (.bool true) ∧ Below w.heap.size w w' := by
  have e3 := bne_of_ne (sb_ne a)
  by_cases h : a = b
  · have e1 := beq_of_eq h
    have e2 := beq_of_eq (congrArg sb h)
    clear h
    go_enter Try.func5, Try.ntmps5
    go_wp2_with fail
    refine (Box_any a _).mono ?_
    rintro e w1 ⟨rfl, hb1⟩
    go_wp2_with fail
    refine (Box_any b _).mono ?_
    rintro e w2 ⟨rfl, hb2⟩
    go_wp2_with fail
    refine (Box_any a _).mono ?_
    rintro e w3 ⟨rfl, hb3⟩
    go_wp2_with fail
    refine (shown_any _).mono ?_
    rintro e w4 ⟨rfl, hb4⟩
    go_wp2_with fail
    go_ret
    have s1 := hb1.size
    have s2 := hb2.size
    have s3 := hb3.size
    exact ⟨rfl, ((hb1.trans (hb2.mono s1)).trans (hb3.mono (by omega))).trans (hb4.mono (by omega))⟩
  · have e1 := beq_of_ne h
    have e2 := beq_of_ne (fun e => h (sb_inj e))
    clear h
    go_enter Try.func5, Try.ntmps5
    go_wp2_with fail
    refine (Box_any a _).mono ?_
    rintro e w1 ⟨rfl, hb1⟩
    go_wp2_with fail
    refine (Box_any b _).mono ?_
    rintro e w2 ⟨rfl, hb2⟩
    go_wp2_with fail
    refine (Box_any a _).mono ?_
    rintro e w3 ⟨rfl, hb3⟩
    go_wp2_with fail
    refine (shown_any _).mono ?_
    rintro e w4 ⟨rfl, hb4⟩
    go_wp2_with fail
    go_ret
    have s1 := hb1.size
    have s2 := hb2.size
    have s3 := hb3.size
    exact ⟨rfl, ((hb1.trans (hb2.mono s1)).trans (hb3.mono (by omega))).trans (hb4.mono (by omega))⟩

end Go.Proofs.Ytjmeiloklhbllaa
