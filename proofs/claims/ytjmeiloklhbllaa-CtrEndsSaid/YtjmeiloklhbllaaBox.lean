/- The walks of aes.box and aes.Box: the table of all boxes, and the box of a byte. No condition. -/
import Derived.Test.YtjmeiloklhbllaaBase
namespace Go.Proofs.Ytjmeiloklhbllaa
open Go.RowKit

set_option maxRecDepth 100000 in
set_option maxHeartbeats 400000 in
theorem box_any (w : World) :
    Calls Try.prog 33 #[] w fun e w' => e = .returned (.agg (rowF 256 (byt sbN))) ∧ Below w.heap.size w w' := by
  have hz := zero33
  go_enter Try.func33, Try.ntmps33
  go_wp2_with (first | (refine wpList_build_is rfl 33 _ rfl (rowF 256 (byt sbN)) (by kernel_rfl) ?_) | (refine wpList_store_has rfl 33 (.tmp 0) (.tmp 1) rfl _ rfl (Has.new w 33 256 (byt fun _ => 0)) _ rfl info33 ?_))
  exact ret_has (p := 0) (ty := 33) rfl _ rfl ((Has.new w 33 256 (byt fun _ => 0)).setRow _) 5 und33 info33 rfl ⟨rfl, Below.setRow ((Below.refl _ _).alloc (Nat.le_refl _) _) (Nat.le_refl _) _⟩

set_option maxRecDepth 100000 in
set_option maxHeartbeats 400000 in
theorem Box_any (x : UInt8) (w : World) :
    Calls Try.prog 18 #[.int .u8 x.toNat] w fun e w' => e = .returned (.int .u8 (sb x).toNat) ∧ Below w.heap.size w w' := by
  have hi := fun w => run_index_rowF (P := Try.prog) w 33 5 256 sbN .u8 x.toNat x.toNat_lt und33 (by kernel_rfl) (by kernel_rfl)
  go_enter Try.func18, Try.ntmps18
  go_wp2_with (go_at_call 33; refine (box_any _).mono ?_; rintro e w' ⟨rfl, hb⟩)
  go_ret
  exact ⟨rfl, hb⟩

end Go.Proofs.Ytjmeiloklhbllaa
