/- The walk of field.Number at width 8: the number's eight bytes, the lowest first. -/
import Derived.Test.YtjmeiloklhbllaaWrite
namespace Go.Proofs.Ytjmeiloklhbllaa
open Go.RowKit

/-- Byte i of a number. -/
def leB (n i : Nat) : UInt8 := UInt8.ofNat (n / 2 ^ (8 * i))
/-- Its first m bytes. -/
def leL (n m : Nat) : List UInt8 := (List.range m).map (leB n)
theorem leB_int (n i : Nat) : ((leB n i).toNat : Int) = (n : Int) / 2 ^ (8 * i) % 256 := by simp [leB]
theorem leL_succ (n m : Nat) : leL n (m + 1) = leL n m ++ [leB n m] := by simp [leL, List.range_succ]
theorem leL_length (n m : Nat) : (leL n m).length = m := by simp [leL]
theorem bitLenAux_le : ∀ f x, Lib.bitLenAux f x ≤ f
  | 0, _ => Nat.le_refl _
  | f + 1, x => by
    unfold Lib.bitLenAux
    have := bitLenAux_le f (x / 2)
    split <;> omega
theorem bitLen_le (x : Nat) : Lib.bitLen x ≤ 64 := bitLenAux_le 64 x
theorem byteCells_snoc (l : List UInt8) (b : UInt8) : Lib.byteCells (l ++ [b]) = Lib.byteCells l ++ [.int .u8 (b.toNat : Int)] := by simp [Lib.byteCells]

set_option maxRecDepth 100000 in
set_option maxHeartbeats 1000000 in
theorem number8_any (n : Nat) (hn : n < 18446744073709551616) (w : World) :
    Calls Try.prog 44 #[.int .u64 (n : Int), .int .i64 8] w fun e w' => e = .returned (.tuple #[.string ⟨(leL n 8).toArray⟩, .int .i64 0]) ∧ Below w.heap.size w w' := by
  have hb := bitLen_le n
  have d1 : decide (64 < (Lib.bitLen n : Int)) = false := by simp; omega
  go_enter Try.func44, Try.ntmps44
  go_wp2_with (first | (go_at_call 48; refine (len64_any (n : Int) _ (by omega) (by omega)).mono ?_; rintro e w1 ⟨rfl, hw1⟩; obtain rfl := hw1.symm; rw [Int.toNat_natCast]))
  have hB0 := Lib.fresh_isBuilder 89 5 w
  have hI0 : Below w.heap.size w (w.alloc (.cells #[.pointer none, .slice none 0 0] 89)) := (Below.refl _ _).alloc (Nat.le_refl _) _
  generalize World.alloc _ _ = w0 at hB0 hI0 ⊢
  go_loopw [22] (fun v wr => ∃ i : Nat, i ≤ 8 ∧ v = .int .i64 i ∧ Below w.heap.size w wr ∧ Lib.IsBuilder 89 5 w.heap.size w.heap.size (Lib.byteCells (leL n i)) wr) (fun v _ => 8 - (intOf v).toNat)
  case atStart => exact ⟨0, by omega, rfl, hI0, hB0⟩
  case round =>
    clear hB0 hI0
    obtain ⟨i, hi, rfl, hI, hB⟩ := hrel
    by_cases hlt : i < 8
    · have hd : decide ((i : Int) < 8) = true := by simp; omega
      have a1 : (0 : Int) ≤ 8 * (i : Int) := by omega
      have a2 : (8 * (i : Int)).toNat = 8 * i := by omega
      have hlen : (Lib.byteCells (leL n i)).length + 1 ≤ 140737488355328 := by rw [Lib.byteCells_length, leL_length]; omega
      go_wp2_with (first | (go_at_call 49; refine (writeByte_any _ _ _ _ _ hB hlen hI.size).mono ?_; rintro e w1 ⟨rfl, hB1, hb1⟩))
      go_roundw
      case rel => exact ⟨i + 1, by omega, by go_num, hI.trans hb1, by rw [leL_succ, byteCells_snoc, leB_int]; exact .inr hB1⟩
      case measure => simp [intOf]; omega
    · obtain rfl : i = 8 := by omega
      go_wp2_with (first | (go_at_call 50; refine (string_any _ _ _ _ hB hI.size).mono ?_; rintro e w1 ⟨rfl, hb1⟩))
      go_ret2
      exact ⟨rfl, hI.trans hb1⟩

end Go.Proofs.Ytjmeiloklhbllaa
