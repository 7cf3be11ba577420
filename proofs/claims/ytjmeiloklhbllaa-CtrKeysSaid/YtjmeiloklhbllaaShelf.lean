/- The library's contracts that chapter ctr needs, laid at this program: bits.Len64, strings.Builder's String. -/
import Derived.Shelf.Lay
import Derived.Shelf.LaySoft
import Derived.Shelf.Small.Bits
import Derived.Shelf.Strings.Builder1
import Derived.Test.YtjmeiloklhbllaaBase
namespace Go.Proofs
open Go.Shelf Go.RowKit
shelf_lay Lays.n129 Nm 129 at Try as Ytjmeiloklhbllaa.lays129
shelf_lay Lays.n169 Nm 169 at Try as Ytjmeiloklhbllaa.lays169
theorem Ytjmeiloklhbllaa.Builder_Extra_169 : Builder.Extra Try.prog Ytjmeiloklhbllaa.lays169_ren where
  sizeBuilder := by kernel_rfl
  liesBuilder := by kernel_rfl
  t5 := Try.underlying5
  a5 := Try.isAgg5
  z5 := Try.sizeOf5
  v5 := Try.zeroValue5
  infoByte := by kernel_rfl
  cellsByte := by kernel_rfl
  sizeByte := by kernel_rfl
  neB5 := by decide
namespace Ytjmeiloklhbllaa
theorem len64_any (x : Int) (w : World) (h0 : 0 ≤ x) (h1 : x ≤ 18446744073709551615) :
    Calls Try.prog 48 #[.int .u64 x] w fun e w' => e = .returned (.int .i64 (Lib.bitLen x.toNat)) ∧ w' = w := Any.bits_Len64 lays129 x w h0 h1
theorem string_any (B b : Nat) (l : List UInt8) (w : World) (h : Lib.IsBuilder 89 5 B b (Lib.byteCells l) w) (hBw : B ≤ w.heap.size) :
    Calls Try.prog 50 #[.pointer (some ⟨b, 0, none⟩)] w fun e w' => e = .returned (.string ⟨l.toArray⟩) ∧ Below B w w' := Any.Builder_String_any lays169 Builder_Extra_169 B b l w h hBw
end Ytjmeiloklhbllaa
end Go.Proofs
