/- The walk of 'shown' of the stream's statements: it answers true. And the plain law: what is hidden twice is not hidden. -/
import Derived.Test.YtjmeiloklhbllaaCrypt
import Derived.Test.YtjmeiloklhbllaaShownLaw5
namespace Go.Proofs.Ytjmeiloklhbllaa
open Go.RowKit

theorem atL_length (key : Nat → UInt8) (n at' : Nat) (l : List UInt8) : (atL key n at' l).length = l.length := by simp [atL]
theorem ofL_map (f : Nat → UInt8) (m j : Nat) (h : j < m) : ofL ((List.range m).map f) j = f j := by
  unfold ofL
  rw [List.getD_eq_getElem?_getD, List.getElem?_map, List.getElem?_range h]; rfl
theorem list_ofL (l : List UInt8) : (List.range l.length).map (ofL l) = l := by
  apply List.ext_getElem?
  intro i
  rw [List.getElem?_map]
  by_cases h : i < l.length
  · rw [List.getElem?_range h]; simp [ofL, h]
  · rw [List.getElem?_eq_none (by simpa using h), List.getElem?_eq_none (by simpa using h)]; rfl
theorem atL_twice (key : Nat → UInt8) (n at' : Nat) (l : List UInt8) : atL key n at' (atL key n at' l) = l := by
  conv => rhs; rw [← list_ofL l]
  unfold atL
  rw [List.length_map, List.length_range]
  refine List.map_congr_left fun j hj => ?_
  rw [ofL_map _ _ _ (List.mem_range.1 hj), UInt8.xor_assoc, UInt8.xor_self, UInt8.xor_zero]
theorem cryL_length (key : Nat → UInt8) (n : Nat) (l : List UInt8) (h : l.length ≤ 4096) : (cryL key n l).length = l.length := by
  unfold cryL; rw [if_pos h, atL_length]
theorem cryL_twice (key : Nat → UInt8) (n : Nat) (l : List UInt8) (h : l.length ≤ 4096) : cryL key n (cryL key n l) = l := by
  have h2 := cryL_length key n l h
  unfold cryL at h2 ⊢
  rw [if_pos h] at h2 ⊢
  rw [if_pos (by omega), atL_twice]

/-- What the example's text is hidden as. -/
def shX5 : ByteArray := ⟨(cryL shK5 2 [97, 98, 99]).toArray⟩
theorem crypt_sh (w : World) : Calls Try.prog 28 #[.agg (rowF 16 (byt shK5)), .int .u64 2, .string ⟨#[97, 98, 99]⟩] w fun e w' => e = .returned (.string shX5) ∧ Below w.heap.size w w' :=
  crypt_any shK5 2 (by omega) [97, 98, 99] (by decide) w
theorem crypt_shBack (w : World) : Calls Try.prog 28 #[.agg (rowF 16 (byt shK5)), .int .u64 2, .string shX5] w fun e w' => e = .returned (.string ⟨#[97, 98, 99]⟩) ∧ Below w.heap.size w w' := by
  have h := crypt_any shK5 2 (by omega) (cryL shK5 2 [97, 98, 99]) (by rw [cryL_length _ _ _ (by decide)]; decide) w
  rw [cryL_twice _ _ _ (by decide)] at h
  exact h
theorem shX5_size : shX5.size = 3 := by
  show (cryL shK5 2 [97, 98, 99]).toArray.size = 3
  rw [List.size_toArray, cryL_length _ _ _ (by decide)]; rfl
theorem shX5_ne : ¬ shX5.toList = [97, 98, 99] := by
  intro h
  have h2 : cryL shK5 2 [97, 98, 99] = [97, 98, 99] := by
    unfold shX5 at h
    rw [ByteArray.toList_mk] at h
    exact h
  unfold cryL at h2
  rw [if_pos (by decide)] at h2
  have h3 := congrArg (fun l => ofL l 0) h2
  unfold atL at h3
  rw [ofL_map _ _ _ (by decide), Nat.add_zero, shown5_first] at h3
  revert h3
  decide
theorem shK5_row : (#[.int .u8 1, .int .u8 0, .int .u8 0, .int .u8 0, .int .u8 0, .int .u8 0, .int .u8 0, .int .u8 0, .int .u8 0, .int .u8 0, .int .u8 0, .int .u8 0, .int .u8 0, .int .u8 0, .int .u8 0, .int .u8 0] : Array Value) = rowF 16 (byt shK5) := by kernel_rfl

set_option maxRecDepth 100000 in
set_option maxHeartbeats 1000000 in
theorem shown5_any (w : World) :
    Calls Try.prog 27 #[] w fun e w' => e = .returned (.bool true) ∧ Below w.heap.size w w' := by
  have hs := shX5_size
  have hc := crypt_sh
  have hc2 := crypt_shBack
  have hne := shX5_ne
  generalize shX5 = X at hs hc hc2 hne
  have HC := Lib.hid hc
  have HC2 := Lib.hid hc2
  clear hc hc2
  have hne2 : (X.toList == [97, 98, 99]) = false := by simpa using hne
  go_enter Try.func27, Try.ntmps27
  go_wp2_with (first | (refine wpList_build_at rfl 28 #[(0, .const (.int .u8 1))] rfl [(0, .int .u8 1)] (by kernel_rfl) (rowF 16 (byt shK5)) (by kernel_rfl) ?_))
  refine (HC.out _).mono ?_
  rintro e w1 ⟨rfl, hb1⟩
  clear HC
  go_wp2_with fail
  rw [shK5_row]
  refine (HC2.out _).mono ?_
  rintro e w2 ⟨rfl, hb2⟩
  clear HC2
  go_wp2_with fail
  go_ret
  exact ⟨rfl, hb1.trans (hb2.mono hb1.size)⟩

end Go.Proofs.Ytjmeiloklhbllaa
