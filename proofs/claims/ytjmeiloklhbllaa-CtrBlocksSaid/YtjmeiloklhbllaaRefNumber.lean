/- The walk of the reference's Number at width 8. -/
import Derived.Test.YtjmeiloklhbllaaNumber
namespace Go.Proofs.Ytjmeiloklhbllaa
open Go.RowKit

/-- The slice v is the call's own and holds those bytes. -/
def OwnB (w : World) (B : Nat) (v : Value) (l : List UInt8) : Prop := w.ownsRow B 5 1 v l.length (Lib.byteCells l)
theorem OwnB.back {w : World} {B : Nat} {v : Value} {l : List UInt8} (h : OwnB w B v l) : (convert 52 9 v).run Try.prog w = .ok (.string ⟨l.toArray⟩) w := by
  rcases h.2 with ⟨rfl, h0⟩ | ⟨g, cap, cur, rfl, _, hg, hn, hm, hs, ht⟩
  · rw [List.eq_nil_of_length_eq_zero h0]
    exact run_convert_bytes_nil (P := Try.prog) w 52 5 Try.underlying52 Try.underlying5 0 0 9 Try.underlying9
  · refine run_convert_bytes_back (P := Try.prog) w 52 9 5 ⟨g, 0, none⟩ cap l Try.underlying52 Try.underlying5 Try.underlying9 fun j hj => ?_
    have e : (⟨g, 0, none⟩ : Addr).add j = ⟨g, j, none⟩ := by unfold Addr.add; split <;> simp_all
    rw [e, World.ownsRow.cellAt h j (by omega)]
    simp [Lib.byteCells, hj]
/-- One byte more. -/
theorem OwnB.snoc {w : World} {B : Nat} {v : Value} {l : List UInt8} {b : UInt8} {x : Int} (hx : x = (b.toNat : Int)) (h : w.ownsRow B 5 1 v (l.length + 1) (Lib.byteCells l ++ [.int .u8 x])) : OwnB w B v (l ++ [b]) := by
  unfold OwnB
  rw [byteCells_snoc, List.length_append, List.length_singleton, ← hx]
  exact h
theorem leB_div (n i : Nat) : ((n / 2 ^ (8 * i) : Nat) : Int) % 256 = ((leB n i).toNat : Int) := by simp [leB]
theorem infoByte : (Try.prog.info? 5).map (fun i => (i.zero, i.size, i.bytes)) = some (some (.int .u8 0), 1, 1) := by kernel_rfl

set_option maxRecDepth 100000 in
set_option maxHeartbeats 1000000 in
theorem refNumber8_any (n : Nat) (hn : n < 18446744073709551616) (w : World) :
    Calls Try.prog 40 #[.int .u64 (n : Int), .int .i64 8] w fun e w' => e = .returned (.tuple #[.string ⟨(leL n 8).toArray⟩, .int .i64 0]) ∧ Below w.heap.size w w' := by
  obtain ⟨i0, hi0, hz0, hz1, hz2⟩ := info_parts infoByte
  go_enter Try.func40, Try.ntmps40
  go_wp2_with fail
  have hB0 : OwnB (w.alloc (.cells #[] 5)) w.heap.size (.slice (some ⟨w.heap.size, 0, none⟩) 0 0) (leL n 0) :=
    ⟨rfl, .inr ⟨w.heap.size, 0, #[], rfl, Nat.le_refl _, heap_alloc_new w _, Nat.le_refl _, by decide, rfl, rfl⟩⟩
  have hI0 : Below w.heap.size w (w.alloc (.cells #[] 5)) := (Below.refl _ _).alloc (Nat.le_refl _) _
  generalize Value.slice (some ⟨w.heap.size, 0, none⟩) 0 0 = v0 at hB0 ⊢
  generalize World.alloc _ _ = w0 at hB0 hI0 ⊢
  go_loopw [0, 6, 7] (fun x s v wr => ∃ i : Nat, i ≤ 8 ∧ x = .int .u64 ((n / 2 ^ (8 * i) : Nat) : Int) ∧ v = .int .i64 i ∧ Below w.heap.size w wr ∧ OwnB wr w.heap.size s (leL n i)) (fun _ _ v _ => 8 - (intOf v).toNat)
  case atStart => exact ⟨0, by omega, by simp, rfl, hI0, hB0⟩
  case round =>
    clear hB0 hI0
    obtain ⟨i, hi, rfl, rfl, hI, hB⟩ := hrel
    by_cases hlt : i < 8
    · have hd : decide ((i : Int) < 8) = true := by simp; omega
      have hlen := leL_length n i
      have hs := hI.size
      have hle := leB_div n i
      have hnx : ((n / 2 ^ (8 * (i + 1)) : Nat) : Int) = ((n / 2 ^ (8 * i) : Nat) : Int) / 256 := by rw [Nat.mul_add, Nat.pow_add, ← Nat.div_div_eq_div_mul]; simp
      have hxb : n / 2 ^ (8 * i) < 18446744073709551616 := Nat.lt_of_le_of_lt (Nat.div_le_self _ _) hn
      generalize n / 2 ^ (8 * i) = x at hle hnx hxb ⊢
      have HN := Lib.hid hnx
      clear hnx
      go_wp2_with (at_builtin; refine wpList_append_own _ rfl _ _ 52 rfl w.heap.size 5 i0 (.int .u8 0) 1 1 Try.underlying52 hi0 hz0 hz1 hz2 rfl (by decide) _ _ _ rfl (World.ownsRow.alloc hB _) ⟨wr.heap.size, 0, none⟩ 1 1 [.int .u8 ((x : Int) % 256)] rfl rfl ?g1 ?g2 ?g3 ?g4 ?g5 ?_)
      case g1 =>
        intro j u hj
        match j, hj with
        | 0, hj => simp at hj; subst hj; simp [Addr.add, hle]
      case g2 => intro u hu; simp at hu; subst hu; rfl
      case g3 => unfold maxLen; omega
      case g4 => omega
      case g5 => simp; omega
      intro v' w2 hown' hgrow _
      have hB2 : OwnB w2 w.heap.size v' (leL n (i + 1)) := by rw [leL_succ]; exact OwnB.snoc rfl (by rw [hlen]; exact hown')
      have hI2 : Below w.heap.size w w2 := (hI.alloc hs _).grown hgrow (by simp; omega) (fun k hk => (World.ownsRow.lt hB k hk).1)
      go_wp2
      go_roundw
      case rel => exact ⟨i + 1, by omega, by rw [HN.out], by go_num, hI2, hB2⟩
      case measure => simp [intOf]; omega
    · obtain rfl : i = 8 := by omega
      have hz : n / 2 ^ (8 * 8) = 0 := Nat.div_eq_of_lt hn
      rw [hz]
      have hcv := hB.back
      go_wp2
      go_ret2
      exact ⟨rfl, hI⟩

end Go.Proofs.Ytjmeiloklhbllaa
