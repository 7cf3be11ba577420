/- The walk of ctr.stream: the iterator's value and what it holds. -/
import Derived.Test.YtjmeiloklhbllaaNumber
import Derived.Test.YtjmeiloklhbllaaOpen
namespace Go.Proofs.Ytjmeiloklhbllaa
open Go.RowKit

theorem row1 (v : Value) : rowF 1 (fun _ => v) = #[v] := rfl
/-- The eight bytes of a nonce. -/
def headS (n : Nat) : ByteArray := ⟨(leL n 8).toArray⟩
/-- What the iterator of stream(key, nonce) holds: a cipher, behind a pointer's variable, and the nonce's text. -/
structure SeqAt (key : Nat → UInt8) (n : Nat) (c p q : Nat) (w : World) : Prop where
  hp : Has w p 29 1 fun _ => .pointer (some ⟨c, 0, none⟩)
  hq : Has w q 9 1 fun _ => .string (headS n)
  hc : Ciph key c w
  lt1 : c < p
  lt2 : p < q

set_option maxRecDepth 100000 in
set_option maxHeartbeats 1000000 in
theorem stream_any (key : Nat → UInt8) (n : Nat) (hn : n < 18446744073709551616) (w : World) :
    Calls Try.prog 39 #[.agg (rowF 16 (byt key)), .int .u64 (n : Int)] w fun e w' => ∃ c p q, e = .returned (.func (.func 45) #[] #[.pointer (some ⟨p, 0, none⟩), .pointer (some ⟨q, 0, none⟩)]) ∧ Below w.heap.size w w' ∧ w.heap.size < c ∧ SeqAt key n c p q w' := by
  have hmf : ∀ (fn : Fn) (first cap : Array Value) (w : World), (Instr.makeFunc fn first cap).run Try.prog w = .ok (.func fn first cap) w := fun _ _ _ _ => rfl
  have hK := Has.new w 28 16 (byt key)
  go_enter Try.func39, Try.ntmps39
  go_wp2_with (first | (refine wpList_load_has rfl 28 (.tmp 2) rfl _ rfl hK 5 und28 info28 ?_) | (go_at_call 20; refine (new_any key _).mono ?_; rintro e w1 ⟨rfl, hb1, hs1, hn1⟩) | (go_at_call 44; refine (number8_any n hn _).mono ?_; rintro e w2 ⟨rfl, hb2⟩))
  go_ret
  have e1 : w1.heap.size = w.heap.size + 1 + 2 := by simpa using hs1
  have e2 : w.heap.size + 1 + 2 + 1 ≤ w2.heap.size := by have := hb2.size; simp [e1] at this; omega
  have hp : Has w2 (w.heap.size + 1 + 2) 29 1 fun _ => .pointer (some ⟨w.heap.size + 1 + 1, 0, none⟩) := by
    have := Has.new w1 29 1 fun _ => .pointer (some ⟨w.heap.size + 1 + 1, 0, none⟩)
    rw [e1] at this
    exact this.below hb2 this.lt
  have hc : Ciph key (w.heap.size + 1 + 1) w2 := by
    have h : Ciph key (w.heap.size + 1 + 1) w1 := ⟨_, by simpa using hn1, .inl (fresh_new key)⟩
    have h2 : Ciph key (w.heap.size + 1 + 1) (w1.alloc (.cells #[.pointer (some ⟨w.heap.size + 1 + 1, 0, none⟩)] 29)) := h.of_block (Below.heap_alloc _ _ _ h.lt)
    exact h2.of_block (hb2.block _ h2.lt)
  refine ⟨w.heap.size + 1 + 1, w.heap.size + 1 + 2, w2.heap.size, rfl, ?_, by omega, hp.alloc _, Has.new w2 9 1 fun _ => .string (headS n), hc.of_block (Below.heap_alloc _ _ _ hc.lt), by omega, by omega⟩
  exact ((((Below.refl _ _).alloc (Nat.le_refl _) _).trans (hb1.mono (by simp))).alloc (by omega) _ |>.trans (hb2.mono (by simp; omega))).alloc (by omega) _

end Go.Proofs.Ytjmeiloklhbllaa
