/- The walk of the reference's Xor of two texts, the second at least as long. -/
import Derived.Great.BuildSlice
import Derived.Test.YtjmeiloklhbllaaAppend
namespace Go.Proofs.Ytjmeiloklhbllaa
open Go.RowKit

/-- The first m bytes of two texts, xor. -/
def xorTo (a b : List UInt8) (m : Nat) : List UInt8 := (List.range m).map fun i => a.getD i 0 ^^^ b.getD i 0
def xorL (a b : List UInt8) : List UInt8 := xorTo a b a.length
theorem xorTo_succ (a b : List UInt8) (m : Nat) : xorTo a b (m + 1) = xorTo a b m ++ [a.getD m 0 ^^^ b.getD m 0] := by simp [xorTo, List.range_succ]
theorem xorTo_length (a b : List UInt8) (m : Nat) : (xorTo a b m).length = m := by simp [xorTo]

theorem xor_run (x y : UInt8) (w : World) : (binOp .xor 5 (.int .u8 (x.toNat : Int)) (.int .u8 (y.toNat : Int))).run Try.prog w = .ok (.int .u8 ((x ^^^ y).toNat : Int)) w := by rw [← u8_xor_B]; rfl
theorem cell_new (w : World) (v : Value) (T : TypeId) : (w.alloc (.cells #[v] T)).cell? ⟨w.heap.size, 0, none⟩ = some v := by simp
set_option maxRecDepth 100000 in
set_option maxHeartbeats 1000000 in
theorem refXorS_any (a b : List UInt8) (hab : a.length ≤ b.length) (ha : a.length ≤ 100000) (w : World) :
    Calls Try.prog 30 #[.string ⟨a.toArray⟩, .string ⟨b.toArray⟩] w fun e w' => e = .returned (.string ⟨(xorL a b).toArray⟩) ∧ Below w.heap.size w w' := by
  obtain ⟨i0, hi0, hz0, hz1, hz2⟩ := info_parts infoByte
  go_enter Try.func30, Try.ntmps30
  go_wp2_with fail
  have hB0 : OwnB (w.alloc (.cells #[] 5)) w.heap.size (.slice (some ⟨w.heap.size, 0, none⟩) 0 0) (xorTo a b 0) :=
    ⟨rfl, .inr ⟨w.heap.size, 0, #[], rfl, Nat.le_refl _, heap_alloc_new w _, Nat.le_refl _, by decide, rfl, rfl⟩⟩
  have hI0 : Below w.heap.size w (w.alloc (.cells #[] 5)) := (Below.refl _ _).alloc (Nat.le_refl _) _
  generalize Value.slice (some ⟨w.heap.size, 0, none⟩) 0 0 = v0 at hB0 ⊢
  generalize World.alloc _ _ = w0 at hB0 hI0 ⊢
  go_loopw [5, 6] (fun s v wr => ∃ i : Nat, i ≤ a.length ∧ v = .int .i64 i ∧ Below w.heap.size w wr ∧ OwnB wr w.heap.size s (xorTo a b i)) (fun _ v _ => a.length - (intOf v).toNat)
  case atStart => exact ⟨0, by omega, rfl, hI0, hB0⟩
  case round =>
    clear hB0 hI0
    obtain ⟨i, hi, rfl, hI, hB⟩ := hrel
    by_cases hlt : i < a.length
    · have hd : decide ((i : Int) < (a.length : Int)) = true := by simp; omega
      have hlen := xorTo_length a b i
      have hs := hI.size
      have hib : i < b.length := by omega
      have h1 : (0 : Int) ≤ (i : Int) := by omega
      have h2 : (i : Int) < (a.length : Int) := by omega
      have h3 : (i : Int) < (b.length : Int) := by omega
      have h4 : a[i]? = some (a.getD i 0) := by simp [hlt]
      have h5 : b[i]? = some (b.getD i 0) := by simp [hib]
      go_wp2_with fail
      refine wp_region_any (by kernel_rfl) ?_
      change wpAny _ _ _ _ _ _ _ (World.drew _)
      refine wpAny_mv (i := 0) rfl rfl rfl (by kernel_rfl) (by kernel_rfl) (by kernel_rfl) _ rfl (fun _ _ _ h => h) ?_
      simp only [Act.put, List.setIfInBounds_toArray, List.set_cons_zero, List.set_cons_succ]
      refine wpAny_mv (i := 1) rfl rfl rfl (by kernel_rfl) (by kernel_rfl) (by kernel_rfl) (.string ⟨a.toArray⟩) rfl (fun _ _ _ h => h) ?_
      simp only [Act.put, List.setIfInBounds_toArray, List.set_cons_zero, List.set_cons_succ]
      refine wpAny_mv (i := 2) rfl rfl rfl (by kernel_rfl) (by kernel_rfl) (by kernel_rfl) (.int .i64 (i : Int)) rfl (fun _ _ _ h => h) ?_
      simp only [Act.put, List.setIfInBounds_toArray, List.set_cons_zero, List.set_cons_succ]
      refine wpAny_mv (i := 4) rfl rfl rfl (by kernel_rfl) (by kernel_rfl) (by kernel_rfl) (.string ⟨b.toArray⟩) rfl (fun _ _ _ h => h) ?_
      simp only [Act.put, List.setIfInBounds_toArray, List.set_cons_zero, List.set_cons_succ]
      refine wpAny_mv (i := 5) rfl rfl rfl (by kernel_rfl) (by kernel_rfl) (by kernel_rfl) (.int .i64 (i : Int)) rfl (fun _ _ _ h => h) ?_
      simp only [Act.put, List.setIfInBounds_toArray, List.set_cons_zero, List.set_cons_succ]
      refine wpAny_two (i := 3) (j := 6) (by kernel_rfl) rfl rfl rfl rfl (fun K hK => ?_) (fun K hK => ?_)
      · skip
        refine wp_index_text (.tmp 15) (.tmp 16) rfl a i hlt rfl rfl ?_
        refine hK _ _ ?_
        clear hK K
        simp only [Act.put, List.setIfInBounds_toArray, List.set_cons_zero, List.set_cons_succ]
        refine wpAny_one (i := 6) (by kernel_rfl) rfl rfl (fun K hK => ?_)
        refine wp_index_text (.tmp 18) (.tmp 19) rfl b i hib rfl rfl ?_
        refine hK _ _ ?_
        clear hK K
        simp only [Act.put, List.setIfInBounds_toArray, List.set_cons_zero, List.set_cons_succ]
        refine wpAny_one (i := 7) (by kernel_rfl) rfl rfl (fun K hK => ?_)
        refine wp_bin_to .xor 5 (.tmp 17) (.tmp 20) 5 rfl (.int .u8 ((a.getD i 0).toNat : Int)) (.int .u8 ((b.getD i 0).toNat : Int)) (.int .u8 ((a.getD i 0 ^^^ b.getD i 0).toNat : Int)) rfl rfl rfl (xor_run _ _ _) ?_
        refine hK _ _ ?_
        clear hK K
        simp only [Act.put, List.setIfInBounds_toArray, List.set_cons_zero, List.set_cons_succ]
        refine wpAny_one (i := 8) (by kernel_rfl) rfl rfl (fun K hK => ?_)
        refine OpWp.mk (wp_buildSlice 52 5 1 #[(0, .tmp 21)] rfl #[.int .u8 ((a.getD i 0 ^^^ b.getD i 0).toNat : Int)] i0 (.int .u8 0) Try.underlying52 hi0 hz0 (by rw [hz1]; decide) (by rw [hz1]; decide) (by rw [hz1]; kernel_rfl) ?_)
        refine hK _ _ ?_
        clear hK K
        simp only [Act.put, List.setIfInBounds_toArray, List.set_cons_zero, List.set_cons_succ]
        refine wpAny_one (i := 9) (by kernel_rfl) rfl rfl (fun K hK => ?_)
        refine wp_append_byte (.tmp 14) (.tmp 22) rfl w.heap.size _ (xorTo a b i) (a.getD i 0 ^^^ b.getD i 0) wr.heap.size 1 rfl (World.ownsRow.alloc (w := wr.drew) hB _) rfl (cell_new _ _ _) (by omega) (by simp; omega) ?_
        rintro v' w2 hB2 hb2
        refine hK _ _ ?_
        clear hK K
        simp only [Act.put, List.setIfInBounds_toArray, List.set_cons_zero, List.set_cons_succ]
        refine wpAny_one (i := 10) (by kernel_rfl) rfl rfl (fun K hK => ?_)
        refine OpWp.mk (BigFrame.wp_assign (.tmp 23) rfl ?_)
        refine hK _ _ ?_
        clear hK K
        simp only [Act.put, List.setIfInBounds_toArray, List.set_cons_zero, List.set_cons_succ]
        refine wpAny_done (by kernel_rfl) ?_ _
        go_wp2
        go_roundw
        case rel => exact ⟨i + 1, by omega, by go_num, (hI.drew.alloc (by simpa using hs) _).trans hb2, by rw [xorTo_succ]; exact hB2⟩
        case measure => simp [intOf]; omega
      · skip
        refine wp_index_text (.tmp 18) (.tmp 19) rfl b i hib rfl rfl ?_
        refine hK _ _ ?_
        clear hK K
        simp only [Act.put, List.setIfInBounds_toArray, List.set_cons_zero, List.set_cons_succ]
        refine wpAny_one (i := 3) (by kernel_rfl) rfl rfl (fun K hK => ?_)
        refine wp_index_text (.tmp 15) (.tmp 16) rfl a i hlt rfl rfl ?_
        refine hK _ _ ?_
        clear hK K
        simp only [Act.put, List.setIfInBounds_toArray, List.set_cons_zero, List.set_cons_succ]
        refine wpAny_one (i := 7) (by kernel_rfl) rfl rfl (fun K hK => ?_)
        refine wp_bin_to .xor 5 (.tmp 17) (.tmp 20) 5 rfl (.int .u8 ((a.getD i 0).toNat : Int)) (.int .u8 ((b.getD i 0).toNat : Int)) (.int .u8 ((a.getD i 0 ^^^ b.getD i 0).toNat : Int)) rfl rfl rfl (xor_run _ _ _) ?_
        refine hK _ _ ?_
        clear hK K
        simp only [Act.put, List.setIfInBounds_toArray, List.set_cons_zero, List.set_cons_succ]
        refine wpAny_one (i := 8) (by kernel_rfl) rfl rfl (fun K hK => ?_)
        refine OpWp.mk (wp_buildSlice 52 5 1 #[(0, .tmp 21)] rfl #[.int .u8 ((a.getD i 0 ^^^ b.getD i 0).toNat : Int)] i0 (.int .u8 0) Try.underlying52 hi0 hz0 (by rw [hz1]; decide) (by rw [hz1]; decide) (by rw [hz1]; kernel_rfl) ?_)
        refine hK _ _ ?_
        clear hK K
        simp only [Act.put, List.setIfInBounds_toArray, List.set_cons_zero, List.set_cons_succ]
        refine wpAny_one (i := 9) (by kernel_rfl) rfl rfl (fun K hK => ?_)
        refine wp_append_byte (.tmp 14) (.tmp 22) rfl w.heap.size _ (xorTo a b i) (a.getD i 0 ^^^ b.getD i 0) wr.heap.size 1 rfl (World.ownsRow.alloc (w := wr.drew) hB _) rfl (cell_new _ _ _) (by omega) (by simp; omega) ?_
        rintro v' w2 hB2 hb2
        refine hK _ _ ?_
        clear hK K
        simp only [Act.put, List.setIfInBounds_toArray, List.set_cons_zero, List.set_cons_succ]
        refine wpAny_one (i := 10) (by kernel_rfl) rfl rfl (fun K hK => ?_)
        refine OpWp.mk (BigFrame.wp_assign (.tmp 23) rfl ?_)
        refine hK _ _ ?_
        clear hK K
        simp only [Act.put, List.setIfInBounds_toArray, List.set_cons_zero, List.set_cons_succ]
        refine wpAny_done (by kernel_rfl) ?_ _
        go_wp2
        go_roundw
        case rel => exact ⟨i + 1, by omega, by go_num, (hI.drew.alloc (by simpa using hs) _).trans hb2, by rw [xorTo_succ]; exact hB2⟩
        case measure => simp [intOf]; omega
    · obtain rfl : i = a.length := by omega
      have hcv := hB.back
      go_wp2
      go_ret
      exact ⟨rfl, hI⟩

end Go.Proofs.Ytjmeiloklhbllaa

