/- The walk of the reference's Stream: the first bytes of the stream, at most 4096. -/
import Derived.Test.YtjmeiloklhbllaaTakeKey
import Derived.Test.YtjmeiloklhbllaaRefLock
namespace Go.Proofs.Ytjmeiloklhbllaa
open Go.RowKit

/-- Block i of the stream, locked. -/
def blkF (key : Nat → UInt8) (n i : Nat) : Nat → UInt8 := lockF key (ofL (leL n 8 ++ leL i 8))
/-- Byte p of the stream. -/
def sAt (key : Nat → UInt8) (n p : Nat) : UInt8 := blkF key n (p / 16) (p % 16)
/-- Its first m bytes. -/
def sL (key : Nat → UInt8) (n m : Nat) : List UInt8 := (List.range m).map (sAt key n)
theorem sL_length (key : Nat → UInt8) (n m : Nat) : (sL key n m).length = m := by simp [sL]
theorem sAt_block (key : Nat → UInt8) (n i j : Nat) (hj : j < 16) : sAt key n (16 * i + j) = blkF key n i j := by
  unfold sAt
  rw [show (16 * i + j) / 16 = i by omega, show (16 * i + j) % 16 = j by omega]
attribute [local irreducible] sAt blkF in
theorem sL_block (key : Nat → UInt8) (n i : Nat) : sL key n (16 * (i + 1)) = sL key n (16 * i) ++ (List.range 16).map (blkF key n i) := by
  have e : (List.range 16).map (blkF key n i) = (List.range 16).map (fun j => sAt key n (16 * i + j)) :=
    List.map_congr_left fun j hj => (sAt_block key n i j (List.mem_range.1 hj)).symm
  rw [e, show 16 * (i + 1) = 16 * i + 16 by omega]
  unfold sL
  rw [List.range_add, List.map_append, List.map_map]
  rfl
def blkL (key : Nat → UInt8) (n i : Nat) : List UInt8 := (List.range 16).map (blkF key n i)
theorem blkL_length (key : Nat → UInt8) (n i : Nat) : (blkL key n i).length = 16 := by simp [blkL]
theorem sL_take (key : Nat → UInt8) (n m k : Nat) (h : k ≤ m) : (sL key n m).take k = sL key n k := by
  simp [sL, ← List.map_take, List.take_range, Nat.min_eq_left h]

theorem ba_append (a b : List UInt8) : (⟨a.toArray⟩ : ByteArray) ++ ⟨b.toArray⟩ = ⟨(a ++ b).toArray⟩ := by
  apply ByteArray.ext
  simp
theorem ba_take (l : List UInt8) (m : Nat) : (⟨l.toArray⟩ : ByteArray).extract 0 m = ⟨(l.take m).toArray⟩ := by
  apply ByteArray.ext
  simp
/-- An array of sixteen bytes as a text. -/
theorem Has.text {w : World} {b T : Nat} {f : Nat → UInt8} (h : Has w b T 16 (byt f)) : (convert 52 9 (.slice (some ⟨b, 0, none⟩) 16 16)).run Try.prog w = .ok (.string ⟨((List.range 16).map f).toArray⟩) w := by
  have := run_convert_bytes_back (P := Try.prog) w 52 9 5 ⟨b, 0, none⟩ 16 ((List.range 16).map f) Try.underlying52 Try.underlying5 Try.underlying9 fun j hj => by
    have hj' : j < 16 := by simpa using hj
    have e : (⟨b, 0, none⟩ : Addr).add j = ⟨b, j, none⟩ := by unfold Addr.add; split <;> simp_all
    rw [e, h.cell hj']
    simp [byt]
  simpa only [List.length_map, List.length_range] using this
theorem sL_cut (key : Nat → UInt8) (n i : Nat) (k : Int) (hi : i ≤ 256) (hl : ¬(16 * (i : Int) < k ∧ i < 256)) :
    (⟨(sL key n (16 * i)).toArray⟩ : ByteArray).extract 0 (min (max k 0) (16 * (i : Int))).toNat = ⟨(sL key n (min k.toNat 4096)).toArray⟩ := by
  rw [ba_take, sL_take _ _ _ _ (by omega)]
  rw [show (min (max k 0) (16 * (i : Int))).toNat = min k.toNat 4096 by omega]

set_option maxRecDepth 100000 in
set_option maxHeartbeats 1000000 in
theorem refStream_any (key : Nat → UInt8) (n : Nat) (hn : n < 18446744073709551616) (k : Int) (hk : k < 9223372036854775808) (w : World) :
    Calls Try.prog 31 #[.agg (rowF 16 (byt key)), .int .u64 (n : Int), .int .i64 k] w fun e w' => e = .returned (.string ⟨(sL key n (min k.toNat 4096)).toArray⟩) ∧ Below w.heap.size w w' := by
  have hK := Has.new w 28 16 (byt key)
  go_enter Try.func31, Try.ntmps31
  go_wp2_with (first | (go_at_call 40; refine (refNumber8_any n hn _).mono ?_; rintro e w1 ⟨rfl, hb1⟩))
  have hI0 : Below w.heap.size w w1 := ((Below.refl _ _).alloc (Nat.le_refl _) _).trans (hb1.mono (by simp))
  have hK0 := hK.below hb1 hK.lt
  go_loopw [7, 10] (fun s v wr => ∃ i : Nat, i ≤ 256 ∧ s = .string ⟨(sL key n (16 * i)).toArray⟩ ∧ v = .int .i64 i ∧ (i = 0 ∨ 16 * ((i : Int) - 1) < k) ∧ Below w.heap.size w wr ∧ Has wr w.heap.size 28 16 (byt key)) (fun _ v _ => 256 - (intOf v).toNat)
  case atStart => exact ⟨0, by omega, rfl, rfl, .inl rfl, hI0, hK0⟩
  case round =>
    clear hI0 hK0 hb1
    obtain ⟨i, hi, rfl, rfl, hg, hI, hK⟩ := hrel
    have hlen := sL_length key n (16 * i)
    by_cases hlt : 16 * (i : Int) < k ∧ i < 256
    · have d1 : decide (16 * (i : Int) < k) = true := by simp; omega
      have d2 : decide ((i : Int) < 256) = true := by simp; omega
      go_wp2_with fail
      refine (refNumber8_any i (by omega) _).mono ?_
      rintro e w2 ⟨rfl, hb2⟩
      have hK2 := hK.below hb2 hK.lt
      have hl2 : (leL n 8).length + (leL i 8).length ≤ 9223372036854775807 := by simp [leL_length]
      go_wp2_with fail
      rw [ba_append]
      refine (takeKey_any (leL n 8 ++ leL i 8) (by simp [leL_length]) _).mono ?_
      rintro e w3 ⟨rfl, hb3⟩
      have hK3 := hK2.below hb3 hK2.lt
      have ne3 : w.heap.size ≠ w3.heap.size := by have := hK3.lt; omega
      have hT : Has (w3.alloc (.cells (rowF 16 (byt fun _ => 0)) 28)) w3.heap.size 28 16 (byt fun _ => 0) := Has.new _ _ _ _
      have hT2 := hT.setRow (byt (ofL (leL n 8 ++ leL i 8)))
      have hK4 := (hK3.alloc (.cells (rowF 16 (byt fun _ => 0)) 28)).setRowOther w3.heap.size (rowF 16 (byt (ofL (leL n 8 ++ leL i 8)))) ne3
      go_wp2_with (first | (rw [zeros16]; refine wpList_store_has rfl 28 (.tmp 13) (.tmp 43) rfl _ rfl hT _ rfl info28 ?_) | (refine wpList_load_has rfl 28 (.tmp 3) rfl _ rfl hK4 5 und28 info28 ?_) | (refine wpList_load_has rfl 28 (.tmp 13) rfl _ rfl hT2 5 und28 info28 ?_))
      refine (refLock_any key (ofL (leL n 8 ++ leL i 8)) _).mono ?_
      rintro e w4 ⟨rfl, hb4⟩
      have hU : Has (w4.alloc (.cells (rowF 16 (byt fun _ => 0)) 28)) w4.heap.size 28 16 (byt fun _ => 0) := Has.new _ _ _ _
      have hU2 := hU.setRow (byt (blkF key n i))
      have hcv := hU2.text
      rw [show (List.range 16).map (blkF key n i) = blkL key n i from rfl] at hcv
      unfold blkF at hcv
      have hl3 : (sL key n (16 * i)).length + (blkL key n i).length ≤ 9223372036854775807 := by rw [hlen, blkL_length]; omega
      go_wp2_with (first | (rw [zeros16]; refine wpList_store_has rfl 28 (.tmp 16) (.tmp 48) rfl _ rfl hU _ rfl info28 ?_))
      have hs := hI.size
      have hn2 := hb2.size
      have hn3 := hb3.size
      have hI3 := (hI.trans (hb2.mono hs)).trans (hb3.mono (by omega))
      have hI4 := (Below.setRow (hI3.alloc (by omega) (.cells (rowF 16 (byt fun _ => 0)) 28)) (c := w3.heap.size) (by omega) (rowF 16 (byt (ofL (leL n 8 ++ leL i 8))))).trans (hb4.mono (by simp; omega))
      have hn4 : w3.heap.size + 1 ≤ w4.heap.size := by have := hb4.size; simpa using this
      have hI5 := Below.setRow (hI4.alloc (by omega) (.cells (rowF 16 (byt fun _ => 0)) 28)) (c := w4.heap.size) (by omega) (rowF 16 (byt (lockF key (ofL (leL n 8 ++ leL i 8)))))
      have hK5 := ((hK4.below hb4 hK4.lt).alloc (.cells (rowF 16 (byt fun _ => 0)) 28)).setRowOther w4.heap.size (rowF 16 (byt (lockF key (ofL (leL n 8 ++ leL i 8))))) (by have := hK3.lt; omega)
      go_roundw
      case rel => exact ⟨i + 1, by omega, by rw [ba_append, sL_block]; rfl, by go_num, .inr (by omega), hI5, hK5⟩
      case measure => simp [intOf]; omega
    · have hres := sL_cut key n i k hi hlt
      by_cases h1 : 16 * (i : Int) < k
      · have d1 : decide (16 * (i : Int) < k) = true := by simp; omega
        have d2 : decide ((i : Int) < 256) = false := by simp; omega
        have HR := Lib.hid hres
        clear hres
        go_wp2_with fail
        go_ret
        exact ⟨by rw [HR.out]; rfl, hI⟩
      · have d1 : decide (16 * (i : Int) < k) = false := by simp; omega
        have HR := Lib.hid hres
        clear hres
        go_wp2_with fail
        go_ret
        exact ⟨by rw [HR.out]; rfl, hI⟩

end Go.Proofs.Ytjmeiloklhbllaa
