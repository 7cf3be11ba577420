/- The walk of aes.mixed. -/
import Derived.Test.YtjmeiloklhbllaaBase
namespace Go.Proofs.Ytjmeiloklhbllaa
open Go.RowKit

/-- s, its first i bytes xor k's. -/
def mixTo (s k : Nat → UInt8) (i : Nat) : Nat → UInt8 := fun j => if j < i then s j ^^^ k j else s j
theorem mixTo_zero (s k : Nat → UInt8) : mixTo s k 0 = s := by funext j; simp [mixTo]
theorem mixTo_succ (s k : Nat → UInt8) (i : Nat) : upd (mixTo s k i) i (s i ^^^ k i) = mixTo s k (i + 1) := by
  funext j; simp only [upd, mixTo]
  by_cases h : j = i
  · subst h; simp
  · by_cases h2 : j < i
    · simp [h, h2, Nat.lt_succ_of_lt h2]
    · simp [h, h2, show ¬ j < i + 1 by omega]
theorem mixTo_end (s k : Nat → UInt8) : rowF 16 (byt (mixTo s k 16)) = rowF 16 (byt (mixF s k)) := (rowF_byt_iff _ _ _).2 fun i hi => by simp [mixTo, mixF, hi]
structure MixI (w wr : World) (s k : Nat → UInt8) (i : Nat) : Prop where
  below : Below w.heap.size w wr
  hs : Has wr w.heap.size 28 16 (byt (mixTo s k i))
  hk : Has wr (w.heap.size + 1) 28 16 (byt k)
  hr : Has wr (w.heap.size + 1 + 1) 28 16 (byt fun _ => 0)

theorem MixI.start (w : World) (s k : Nat → UInt8) : MixI w (((w.alloc (.cells (rowF 16 (byt s)) 28)).alloc (.cells (rowF 16 (byt k)) 28)).alloc (.cells (rowF 16 (byt fun _ => 0)) 28)) s k 0 :=
  ⟨(((Below.refl _ _).alloc (Nat.le_refl _) _).alloc (by simp) _).alloc (by simp; omega) _, by rw [mixTo_zero]; exact ((Has.new _ _ _ _).alloc _).alloc _, (by have := ((Has.new (w.alloc (.cells (rowF 16 (byt s)) 28)) 28 16 (byt k)).alloc (.cells (rowF 16 (byt fun _ => 0)) 28)); simpa using this), (by have := Has.new ((w.alloc (.cells (rowF 16 (byt s)) 28)).alloc (.cells (rowF 16 (byt k)) 28)) 28 16 (byt fun _ => 0); simpa using this)⟩
theorem MixI.next {w wr : World} {s k : Nat → UInt8} {i : Nat} (h : MixI w wr s k i) : MixI w (wr.setCell ⟨w.heap.size, i, none⟩ (.int .u8 ((s i ^^^ k i).toNat : Int))).drew s k (i + 1) :=
  ⟨(h.below.setCell (p := ⟨w.heap.size, i, none⟩) (Nat.le_refl _) _).drew, by have := h.hs.set i (.int .u8 ((s i ^^^ k i).toNat : Int)); rw [upd_byt, mixTo_succ] at this; exact this, h.hk.setOther _ _ (by simp), h.hr.setOther _ _ (by simp; omega)⟩

set_option maxRecDepth 100000 in
set_option maxHeartbeats 400000 in
theorem mixed_any (s k : Nat → UInt8) (w : World) :
    Calls Try.prog 36 #[.agg (rowF 16 (byt s)), .agg (rowF 16 (byt k))] w fun e w' => e = .returned (.agg (rowF 16 (byt (mixF s k)))) ∧ Below w.heap.size w w' := by
  go_enter Try.func36, Try.ntmps36
  go_wp2
  rw [zeros16]
  go_loopw [6] (fun i wr => ∃ j : Nat, j ≤ 16 ∧ i = .int .i64 j ∧ MixI w wr s k j) (fun i _ => 16 - (intOf i).toNat)
  case atStart => exact ⟨0, by omega, rfl, MixI.start w s k⟩
  case round =>
    obtain ⟨j, hj, rfl, hI⟩ := hrel
    by_cases hlt : j < 16
    · have c1 : wr.cell? ⟨w.heap.size, j, none⟩ = some (.int .u8 ((s j).toNat : Int)) := by rw [hI.hs.cell hlt]; simp [byt, mixTo]
      have c2 : wr.cell? ⟨w.heap.size + 1, j, none⟩ = some (.int .u8 ((k j).toNat : Int)) := hI.hk.cell hlt
      have f1 := hI.hs.frozen j
      go_wp2
      go_still_tail 7, (by kernel_rfl)
      go_wp2
      go_roundw
      case rel => exact ⟨j + 1, by omega, by go_num, by rw [u8_xor_B]; exact hI.next⟩
      case measure => simp [intOf]; omega
    · obtain rfl : j = 16 := by omega
      go_wp2_with (first | (refine wpList_load_has rfl 28 (.tmp 2) rfl _ rfl hI.hs 5 und28 info28 ?_) | (refine wpList_store_has rfl 28 (.tmp 4) (.tmp 18) rfl _ rfl hI.hr _ rfl info28 ?_))
      exact ret_has (p := 4) (ty := 28) rfl _ rfl (hI.hr.setRow _) 5 und28 info28 rfl ⟨by rw [mixTo_end], Below.setRow hI.below (by omega) _⟩

end Go.Proofs.Ytjmeiloklhbllaa
