/- New, round and Round of the cipher: each a contract. -/
import Derived.Test.YtjmeiloklhbllaaOnce
namespace Go.Proofs.Ytjmeiloklhbllaa
open Go.RowKit

/-- The cells of a new cipher. -/
def newG (key : Nat → UInt8) : Nat → Value := fun j => if j < 16 then byt key j else if j = 16 then .int .u32 0 else if j = 17 then .int .i32 0 else if j = 18 then .int .u32 0 else .int .u8 0
theorem built71 (key : Nat → UInt8) : Try.prog.built 71 [(0, .agg (rowF 16 (byt key)))] = some (rowF 451 (newG key)) := by kernel_rfl
theorem fresh_new (key : Nat → UInt8) : FreshG key (newG key) := ⟨fun j hj => by simp [newG, hj], rfl, rfl⟩

set_option maxRecDepth 100000 in
set_option maxHeartbeats 200000 in
theorem new_any (key : Nat → UInt8) (w : World) :
    Calls Try.prog 20 #[.agg (rowF 16 (byt key))] w fun e w' => e = .returned (.pointer (some ⟨w.heap.size + 1, 0, none⟩)) ∧ Below w.heap.size w w' ∧ w'.heap.size = w.heap.size + 2 ∧ Has w' (w.heap.size + 1) 71 451 (newG key) := by
  have HB := Lib.hid (built71 key)
  go_enter Try.func20, Try.ntmps20
  go_wp2_with (refine wpList_load_has rfl 28 (.tmp 1) rfl _ rfl (Has.new w 28 16 (byt key)) 5 und28 info28 ?_; simp only [Act.put, List.setIfInBounds_toArray, List.set_cons_zero, List.set_cons_succ]; refine wpList_build_at rfl 71 #[(0, .tmp 3)] rfl [(0, .agg (rowF 16 (byt key)))] (by kernel_rfl) (rowF 451 (newG key)) HB.out ?_; refine wpList_box_agg rfl 71 (.tmp 4) rfl _ rfl ?_)
  go_ret
  refine ⟨by simp, ((Below.refl _ _).alloc (Nat.le_refl _) _).alloc (by simp) _, by simp, ?_⟩
  have := Has.new (w.alloc (.cells (rowF 16 (byt key)) 28)) 71 451 (newG key)
  simpa using this

theorem Work.ciph {key : Nat → UInt8} {c : Nat} {w : World} (h : Work key c w) : Ciph key c w := let ⟨g, a, b⟩ := h; ⟨g, a, .inr b⟩
theorem Ciph.lt {key : Nat → UInt8} {c : Nat} {w : World} (h : Ciph key c w) : c < w.heap.size := let ⟨_, a, _⟩ := h; a.lt
theorem Work.lt {key : Nat → UInt8} {c : Nat} {w : World} (h : Work key c w) : c < w.heap.size := let ⟨_, a, _⟩ := h; a.lt
theorem Ciph.of_block {key : Nat → UInt8} {c : Nat} {w w' : World} (h : Ciph key c w) (e : w'.heap[c]? = w.heap[c]?) : Ciph key c w' := let ⟨g, a, b⟩ := h; ⟨g, a.of_block e, b⟩
theorem Work.of_block {key : Nat → UInt8} {c : Nat} {w w' : World} (h : Work key c w) (e : w'.heap[c]? = w.heap[c]?) : Work key c w' := let ⟨g, a, b⟩ := h; ⟨g, a.of_block e, b⟩

theorem WorkG.row {key : Nat → UInt8} {g : Nat → Value} (h : WorkG key g) (n : Nat) (hn : n ≤ 10) : (rowF 16 fun j => g (19 + n * 16 + j)) = rowF 16 (byt (rk key n)) :=
  rowF_congr fun j hj => by
    rw [show 19 + n * 16 + j = 19 + (16 * n + j) by omega, h.keys _ (by omega)]
    unfold byt; rw [rkF_at _ _ _ hj]
theorem ButOne.setNew {c : Nat} {w w' : World} (h : ButOne c w w') {b : Nat} (hb : w.heap.size ≤ b) (cs : Array Value) : ButOne c w (w'.setRow b cs) :=
  ⟨h.os, h.tape, h.output, by simpa using h.size, fun k hk hc => (setRow_other _ _ _ _ (by omega)).trans (h.block k hk hc)⟩

set_option maxRecDepth 100000 in
set_option maxHeartbeats 1600000 in
/-- c.round(i): the i-th round key; the cipher is at work behind it. -/
theorem round_any (key : Nat → UInt8) (c : Nat) (i : Int) (h0 : 0 ≤ i) (h10 : i ≤ 10) (w : World) (h : Ciph key c w) :
    Calls Try.prog 35 #[.pointer (some ⟨c, 0, none⟩), .int .i64 i] w fun e w' => e = .returned (.agg (rowF 16 (byt (rk key i.toNat)))) ∧ ButOne c w w' ∧ Work key c w' := by
  obtain ⟨n, rfl⟩ := Int.eq_ofNat_of_zero_le h0
  have hn : n ≤ 10 := by omega
  have hmf : ∀ (fn : Fn) (first cap : Array Value) (w : World), (Instr.makeFunc fn first cap).run Try.prog w = .ok (.func fn first cap) w := fun _ _ _ _ => rfl
  have hlt := h.lt
  have HC := Lib.hid h; clear h
  go_enter Try.func35, Try.ntmps35
  go_wp2_with (first | (go_at_call 42; refine (do_any key c _ (HC.out.of_block (Below.heap_alloc _ _ _ hlt))).mono ?_; rintro e w1 ⟨rfl, hb, hw⟩; obtain ⟨g, hg, hW⟩ := hw; have hrow := WorkG.row hW n hn; have hr := (Has.new w 28 16 (byt fun _ => 0)).but hb (by omega)) | (refine wpList_load_mid_has rfl 28 (.tmp 15) rfl (19 + n * 16) rfl hg 16 5 (by omega) und28 info28 ?_; rw [hrow]) | (refine wpList_store_has rfl 28 (.tmp 4) (.tmp 16) rfl _ rfl hr _ rfl info28 ?_))
  have hbut : ButOne c w w1 := (ButOne.of_below ((Below.refl _ _).alloc (Nat.le_refl _) _)).trans hb
  refine ret_has (p := 4) (ty := 28) rfl _ rfl (hr.setRow _) 5 und28 info28 rfl ⟨rfl, hbut.setNew (by omega) _, g, hg.setRowOther _ _ (by omega), hW⟩

end Go.Proofs.Ytjmeiloklhbllaa
