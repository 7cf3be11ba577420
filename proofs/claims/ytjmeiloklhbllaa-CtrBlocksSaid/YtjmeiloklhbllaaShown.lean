/- The walk of the laws' own 'shown' (layer 4): it answers true. -/
import Derived.Test.YtjmeiloklhbllaaLock
import Derived.Test.YtjmeiloklhbllaaEq
import Derived.Test.YtjmeiloklhbllaaShownLaw
namespace Go.Proofs.Ytjmeiloklhbllaa
open Go.RowKit

/-- The first i bytes of f, zeros behind them. -/
def upTo (f : Nat → UInt8) (i : Nat) : Nat → UInt8 := fun j => if j < i then f j else 0
theorem upTo_zero (f : Nat → UInt8) : upTo f 0 = fun _ => 0 := by funext j; simp [upTo]
theorem upTo_next (f : Nat → UInt8) (i : Nat) : upd (upTo f i) i (f i) = upTo f (i + 1) := by
  funext j; simp only [upd, upTo]
  by_cases h : j = i
  · subst h; simp
  · rw [if_neg h]
    by_cases h2 : j < i
    · rw [if_pos h2, if_pos (by omega)]
    · rw [if_neg h2, if_neg (by omega)]
theorem upTo_end (f : Nat → UInt8) (n : Nat) : rowF n (byt (upTo f n)) = rowF n (byt f) := (rowF_byt_iff _ _ _).2 fun i hi => by simp [upTo, hi]
theorem Has.upTo {w : World} {b n : Nat} {T : TypeId} {f : Nat → UInt8} {i : Nat} (h : Has w b T n (byt (upTo f i))) {x : Int} (hx : x = ((f i).toNat : Int)) : Has (w.setCell ⟨b, i, none⟩ (.int .u8 x)) b T n (byt (upTo f (i + 1))) := by
  subst hx
  have := h.set i (.int .u8 ((f i).toNat : Int))
  rw [upd_byt, upTo_next] at this
  exact this
structure ShI (w wr : World) (i : Nat) : Prop where
  below : Below w.heap.size w wr
  hk : Has wr w.heap.size 28 16 (byt (upTo shK i))
  hb : Has wr (w.heap.size + 1) 28 16 (byt (upTo shB i))
theorem ShI.next {w wr : World} {i : Nat} (h : ShI w wr i) (hi : i < 16) : ShI w ((wr.setCell ⟨w.heap.size, i, none⟩ (.int .u8 (i : Int))).setCell ⟨w.heap.size + 1, i, none⟩ (.int .u8 (17 * (i : Int)))) (i + 1) :=
  ⟨(h.below.setCell (p := ⟨w.heap.size, i, none⟩) (Nat.le_refl _) _).setCell (p := ⟨w.heap.size + 1, i, none⟩) (by simp) _, (h.hk.upTo (by unfold shK; rw [u8_ofNat_B _ (by omega)])).setOther _ _ (by simp), (h.hb.setOther _ _ (by simp)).upTo (by unfold shB; rw [u8_ofNat_B _ (by omega)]; simp)⟩
/-- What the example's block is locked as. -/
def shX : Nat → UInt8 := fun j => sL10.getD j 0
theorem guard28 : Try.prog.eqGuardType Try.prog.depth 28 = false := by kernel_rfl
theorem shown_eq (w : World) : (binOp .eql 28 (.agg (rowF 16 (byt (lockF shK shB)))) (.agg (rowF 16 (byt shX)))).run Try.prog w = .ok (.bool true) w := by
  rw [eql28, show eqF 16 (lockF shK shB) shX = true from (eqF_iff _ _ _).2 shown_lock]

set_option maxRecDepth 100000 in
set_option maxHeartbeats 400000 in
theorem shown_any (w : World) :
    Calls Try.prog 16 #[] w fun e w' => e = .returned (.bool true) ∧ Below w.heap.size w w' := by
  go_enter Try.func16, Try.ntmps16
  go_wp2_with fail
  rw [zeros16]
  have hI0 : ShI w ((w.alloc (.cells (rowF 16 (byt fun _ => 0)) 28)).alloc (.cells (rowF 16 (byt fun _ => 0)) 28)) 0 := by
    refine ⟨((Below.refl _ _).alloc (Nat.le_refl _) _).alloc (by simp) _, ?_, ?_⟩
    · rw [upTo_zero]; exact (Has.new w 28 16 _).alloc _
    · rw [upTo_zero]
      have := Has.new (w.alloc (.cells (rowF 16 (byt fun _ => 0)) 28)) 28 16 (byt fun _ => 0)
      simpa using this
  generalize ((w.alloc (.cells (rowF 16 (byt fun _ => 0)) 28)).alloc (.cells (rowF 16 (byt fun _ => 0)) 28)) = w0 at hI0 ⊢
  go_loopw [3] (fun i wr => ∃ j : Nat, j ≤ 16 ∧ i = .int .i64 j ∧ ShI w wr j) (fun i _ => 16 - (intOf i).toNat)
  case atStart => exact ⟨0, by omega, rfl, hI0⟩
  case round =>
    clear hI0
    obtain ⟨j, hj, rfl, hI⟩ := hrel
    by_cases hlt : j < 16
    · have c1 := hI.hk.cell hlt
      have f1 := hI.hk.frozen j
      have hb1 := (hI.hk.setOther ⟨w.heap.size + 1, j, none⟩ (.int .u8 0) (by simp))
      have c2 : (wr.setCell ⟨w.heap.size, j, none⟩ (.int .u8 (j : Int))).cell? ⟨w.heap.size + 1, j, none⟩ = some (byt (upTo shB j) j) := (hI.hb.setOther ⟨w.heap.size, j, none⟩ (.int .u8 (j : Int)) (by simp)).cell hlt
      have f2 : (wr.setCell ⟨w.heap.size, j, none⟩ (.int .u8 (j : Int))).frozen? ⟨w.heap.size + 1, j, none⟩ = false := (hI.hb.setOther ⟨w.heap.size, j, none⟩ (.int .u8 (j : Int)) (by simp)).frozen j
      clear hb1
      go_wp2
      go_roundw
      case rel => exact ⟨j + 1, by omega, by go_num, hI.next hlt⟩
      case measure => simp [intOf]; omega
    · obtain rfl : j = 16 := by omega
      have hB := hI.hb
      rw [Has, upTo_end] at hB
      go_wp2_with (first | (refine wpList_load_has rfl 28 (.tmp 1) rfl _ rfl hI.hk 5 und28 info28 ?_; rw [upTo_end]) | (go_at_call 20; refine (new_any shK _).mono ?_; rintro e w1 ⟨rfl, hb, hsz, hn⟩; have hB2 := Has.below (b := w.heap.size + 1) (T := 28) (n := 16) (g := byt shB) hB hb hI.hb.lt) | (refine wpList_at rfl (fun K hK => wp_load_has 28 (.tmp 2) rfl (w.heap.size + 1) rfl hB2 5 und28 info28 ?_); refine hK _ _ ?_; clear hK K; simp only [Act.put, List.setIfInBounds_toArray, List.set_cons_zero, List.set_cons_succ]) | (refine wpList_at rfl (fun K hK => wp_build_to 28 #[(0, .const (.int .u8 105)), (1, .const (.int .u8 196)), (2, .const (.int .u8 224)), (3, .const (.int .u8 216)), (4, .const (.int .u8 106)), (5, .const (.int .u8 123)), (6, .const (.int .u8 4)), (7, .const (.int .u8 48)), (8, .const (.int .u8 216)), (9, .const (.int .u8 205)), (10, .const (.int .u8 183)), (11, .const (.int .u8 128)), (12, .const (.int .u8 112)), (13, .const (.int .u8 180)), (14, .const (.int .u8 197)), (15, .const (.int .u8 90))] rfl [(0, .int .u8 105), (1, .int .u8 196), (2, .int .u8 224), (3, .int .u8 216), (4, .int .u8 106), (5, .int .u8 123), (6, .int .u8 4), (7, .int .u8 48), (8, .int .u8 216), (9, .int .u8 205), (10, .int .u8 183), (11, .int .u8 128), (12, .int .u8 112), (13, .int .u8 180), (14, .int .u8 197), (15, .int .u8 90)] (by kernel_rfl) (rowF 16 (byt shX)) (by kernel_rfl) ?_); refine hK _ _ ?_; clear hK K; simp only [Act.put, List.setIfInBounds_toArray, List.set_cons_zero, List.set_cons_succ]) | (go_at_call 24; refine (lock_any shK shB _ _ ⟨_, hn, .inl (fresh_new shK)⟩).mono ?_; rintro e w2 ⟨rfl, hb2, hw2⟩) | (refine wpList_at rfl (fun K hK => wp_bin_to .eql 28 (.tmp 27) (.tmp 28) 28 rfl (.agg (rowF 16 (byt (lockF shK shB)))) (.agg (rowF 16 (byt shX))) (.bool true) rfl rfl (run_eqGuard_agg _ _ _ _ _ _ _ guard28) (shown_eq _) ?_); refine hK _ _ ?_; clear hK K; simp only [Act.put, List.setIfInBounds_toArray, List.set_cons_zero, List.set_cons_succ]))
      go_ret
      have h3 := hI.below.size
      exact ⟨rfl, (hI.below.trans (hb.mono h3)).trans (hb2.to_below (by omega) (by omega))⟩

end Go.Proofs.Ytjmeiloklhbllaa
