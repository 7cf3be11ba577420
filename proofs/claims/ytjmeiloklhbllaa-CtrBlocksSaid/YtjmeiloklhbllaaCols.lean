/- The walk of aes.columns. -/
import Derived.Test.YtjmeiloklhbllaaBase
import Derived.Test.YtjmeiloklhbllaaT15
namespace Go.Proofs.Ytjmeiloklhbllaa
open Go.RowKit

/-- The columns so far: i bytes are done, of the next one n terms. -/
def colSt (s q : Nat → UInt8) (i n : Nat) : Nat → UInt8 := fun m => if m < i then colF s q m else if m = i then colTo s q i n else 0
structure ColI (w wr : World) (s q : Nat → UInt8) (i n : Nat) : Prop where
  below : Below w.heap.size w wr
  hs : Has wr w.heap.size 28 16 (byt s)
  hq : Has wr (w.heap.size + 1) 74 4 (byt q)
  ht : Has wr (w.heap.size + 1 + 1) 28 16 (byt (colSt s q i n))
theorem colSt_zero (s q : Nat → UInt8) : colSt s q 0 0 = fun _ => 0 := by funext m; simp [colSt, colTo]
theorem colSt_next (s q : Nat → UInt8) (i n : Nat) : upd (colSt s q i n) i (colTo s q i n ^^^ tm (q n) (s (i / 4 * 4 + (i + n) % 4))) = colSt s q i (n + 1) := by
  funext m; simp only [upd, colSt]
  by_cases h : m = i
  · subst h; simp [colTo]
  · simp [h]
theorem colSt_row (s q : Nat → UInt8) (i : Nat) : colSt s q i 4 = colSt s q (i + 1) 0 := by
  funext m; simp only [colSt]
  by_cases h : m < i
  · simp [h, Nat.lt_succ_of_lt h]
  · by_cases h2 : m = i
    · subst h2; simp [colF]
    · simp [h, h2, show ¬ m < i + 1 by omega, colTo]
theorem ColI.start (w : World) (s q : Nat → UInt8) : ColI w (((w.alloc (.cells (rowF 16 (byt s)) 28)).alloc (.cells (rowF 4 (byt q)) 74)).alloc (.cells (rowF 16 (byt fun _ => 0)) 28)) s q 0 0 :=
  ⟨(((Below.refl _ _).alloc (Nat.le_refl _) _).alloc (by simp) _).alloc (by simp; omega) _, ((Has.new _ _ _ _).alloc _).alloc _, (by have := ((Has.new (w.alloc (.cells (rowF 16 (byt s)) 28)) 74 4 (byt q)).alloc (.cells (rowF 16 (byt fun _ => 0)) 28)); simpa using this), (by have := Has.new ((w.alloc (.cells (rowF 16 (byt s)) 28)).alloc (.cells (rowF 4 (byt q)) 74)) 28 16 (byt fun _ => 0); rw [colSt_zero]; simpa using this)⟩
theorem ColI.next {w wr : World} {s q : Nat → UInt8} {i n : Nat} (h : ColI w wr s q i n) : ColI w (wr.setCell ⟨w.heap.size + 1 + 1, i, none⟩ (.int .u8 ((colTo s q i n ^^^ tm (q n) (s (i / 4 * 4 + (i + n) % 4))).toNat : Int))).drew s q i (n + 1) :=
  ⟨(h.below.setCell (p := ⟨w.heap.size + 1 + 1, i, none⟩) (by simp; omega) _).drew, h.hs.setOther _ _ (by simp; omega), h.hq.setOther _ _ (by simp), by have := h.ht.set i (.int .u8 ((colTo s q i n ^^^ tm (q n) (s (i / 4 * 4 + (i + n) % 4))).toNat : Int)); rw [upd_byt, colSt_next] at this; exact this⟩
theorem andNot3 (i : Nat) (h : i < 16) : bits .andNot .i64 (i : Int) 3 = ((i / 4 * 4 : Nat) : Int) := by
  have : ∀ i : Nat, i < 16 → bits .andNot .i64 (i : Int) 3 = ((i / 4 * 4 : Nat) : Int) := by decide +kernel
  exact this i h

set_option maxRecDepth 100000 in
set_option maxHeartbeats 400000 in
theorem cols_any (s q : Nat → UInt8) (w : World) :
    Calls Try.prog 37 #[.agg (rowF 16 (byt s)), .agg (rowF 4 (byt q))] w fun e w' => e = .returned (.agg (rowF 16 (byt (colF s q)))) ∧ Below w.heap.size w w' := by
  go_enter Try.func37, Try.ntmps37
  go_wp2
  rw [zeros16]
  go_loopw [8] (fun i wr => ∃ j : Nat, j ≤ 16 ∧ i = .int .i64 j ∧ ColI w wr s q j 0) (fun i _ => 16 - (intOf i).toNat)
  case atStart => exact ⟨0, by omega, rfl, ColI.start w s q⟩
  case round =>
    obtain ⟨i, hj, rfl, hI⟩ := hrel
    by_cases hlt : i < 16
    · go_wp2_with (refine wpList_load_has rfl 74 (.tmp 3) rfl _ rfl hI.hq 5 und74 info74 ?_)
      obtain ⟨wo, rfl⟩ : ∃ wo : World, wo = wr := ⟨_, rfl⟩
      go_loopw [12] (fun n wr => ∃ j : Nat, j ≤ 4 ∧ n = .int .i64 j ∧ ColI w wr s q i j) (fun n _ => 4 - (intOf n).toNat)
      case atStart => exact ⟨0, by omega, rfl, hI⟩
      case round =>
        clear hI
        obtain ⟨n, hn, rfl, hI⟩ := hrel
        by_cases hl2 : n < 4
        · have hx := fun w => run_index_rowF (P := Try.prog) w 74 5 4 q .i64 n hl2 und74 (by kernel_rfl) (by kernel_rfl)
          have hidx : i / 4 * 4 + (i + n) % 4 < 16 := by omega
          have c1 : wr.cell? ⟨w.heap.size + 1 + 1, i, none⟩ = some (.int .u8 ((colTo s q i n).toNat : Int)) := by rw [hI.ht.cell hlt]; simp [byt, colSt]
          have c2 : wr.cell? ⟨w.heap.size, i / 4 * 4 + (i + n) % 4, none⟩ = some (.int .u8 ((s (i / 4 * 4 + (i + n) % 4)).toNat : Int)) := hI.hs.cell hidx
          have f1 := hI.ht.frozen i
          have hb1 : bits .andNot .i64 (i : Int) 3 = (i : Int) / 4 * 4 := andNot3 i hlt
          have hs1 : IntKind.i64.wrap ((i : Int) + (n : Int)) = (i : Int) + (n : Int) := IntWalk.i64_in _ (by omega)
          have hs2 : ((i : Int) + (n : Int)).tmod 4 = ((i : Int) + (n : Int)) % 4 := Int.tmod_eq_emod_of_nonneg (by omega)
          have hs3 : IntKind.i64.wrap ((i : Int) / 4 * 4 + ((i : Int) + (n : Int)) % 4) = (i : Int) / 4 * 4 + ((i : Int) + (n : Int)) % 4 := IntWalk.i64_in _ (by omega)
          have hs4 : ((i : Int) / 4 * 4 + ((i : Int) + (n : Int)) % 4).toNat = i / 4 * 4 + (i + n) % 4 := by omega
          have hs5 : 0 ≤ (i : Int) / 4 * 4 + ((i : Int) + (n : Int)) % 4 := by omega
          have hs6 : (i : Int) / 4 * 4 + ((i : Int) + (n : Int)) % 4 < 16 := by omega
          go_wp2
          refine wp_region_still_tail 15 (by kernel_rfl) (by kernel_rfl) ?_
          simp only [List.take_succ_cons, List.take_zero, List.drop_succ_cons, List.drop_zero]
          iterate 13 still_step
          still_call (times_any _ _ _)
          still_step
          refine wpStill_nil ?_
          clear hs1 hs2 hs3 hs4 hx
          go_wp2
          go_roundw
          case rel => exact ⟨n + 1, by omega, by go_num, by rw [u8_xor_B]; exact hI.next⟩
          case measure => simp [intOf]; omega
        · obtain rfl : n = 4 := by omega
          go_wp2
          go_roundw
          case rel => exact ⟨i + 1, by omega, by go_num, by have := hI; exact ⟨this.below, this.hs, this.hq, by have h := this.ht; rw [colSt_row] at h; exact h⟩⟩
          case measure => simp [intOf]; omega
    · obtain rfl : i = 16 := by omega
      go_wp2_with (first | (refine wpList_load_has rfl 28 (.tmp 4) rfl _ rfl hI.ht 5 und28 info28 ?_) | (refine wpList_store_has rfl 28 (.tmp 4) (.tmp 34) rfl _ rfl hI.ht _ rfl info28 ?_))
      exact ret_has (p := 4) (ty := 28) rfl _ rfl (hI.ht.setRow _) 5 und28 info28 rfl ⟨congrArg (fun r => Ending.returned (.agg r)) ((rowF_byt_iff _ _ _).2 fun i hi => by simp [colSt, hi]), Below.setRow hI.below (by omega) _⟩

end Go.Proofs.Ytjmeiloklhbllaa
