/- The walk of the stream's iterator: it yields byte after byte of the stream till a round says 'no more'. -/
import Derived.RangeFuncNested
import Derived.RangeFuncBound
import Derived.RangeFuncCalls
import Derived.RangeFuncLeaves
import Derived.Shelf.Abstract
import Derived.Shelf.RegionOpen
import Derived.OwnWalkIn
import Derived.TacticsInMore
import Derived.LoopNIn
import Derived.LoopIn
import Derived.Deep.Cut
import Derived.Test.YtjmeiloklhbllaaHeld
namespace Go.Proofs.Ytjmeiloklhbllaa
open Go.RowKit

/-- A round of loop l at byte number k. -/
def RoundB (key : Nat → UInt8) (n c p q l : Nat) (J : Nat → World → Prop) (Jx : World → Prop) (k : Nat) (w : World) : Prop :=
  YieldAt Fence.wide 0 Try.prog l #[.int .u8 ((sAt key n k).toNat : Int)] w fun e w' =>
    (e = .returned (.bool true) ∧ J (k + 1) w' ∧ SeqAt key n c p q w') ∨ (e = .returned (.bool false) ∧ Jx w')

theorem SeqAt.but {key : Nat → UInt8} {n c p q : Nat} {w w' : World} (h : SeqAt key n c p q w) (hb : ButOne c w w') (hw : Ciph key c w') : SeqAt key n c p q w' :=
  ⟨h.hp.but hb (by have := h.lt1; omega), h.hq.but hb (by have := h.lt1; have := h.lt2; omega), hw, h.lt1, h.lt2⟩
theorem SeqAt.below {key : Nat → UInt8} {n c p q : Nat} {w w' : World} (h : SeqAt key n c p q w) (hb : Below w.heap.size w w') : SeqAt key n c p q w' :=
  ⟨h.hp.below hb h.hp.lt, h.hq.below hb h.hq.lt, h.hc.of_block (hb.block _ h.hc.lt), h.lt1, h.lt2⟩

/-- The worlds of the iterator's drawn region: but for the cipher all that was there is as it was. -/
structure InS (key : Nat → UInt8) (c : Nat) (w1 w : World) : Prop where
  but : ButOne c w1 w
  hc : Ciph key c w
  lt : c < w1.heap.size
namespace InS
variable {key : Nat → UInt8} {c : Nat} {w1 w w' : World}
theorem below (h : InS key c w1 w) (hb : Below w.heap.size w w') : InS key c w1 w' := ⟨h.but.below hb, h.hc.of_block (hb.block _ h.hc.lt), h.lt⟩
theorem call (h : InS key c w1 w) (hb : ButOne c w w') (hw : Work key c w') : InS key c w1 w' := ⟨h.but.trans hb, by obtain ⟨g, hg, hk⟩ := hw; exact ⟨g, hg, .inr hk⟩, h.lt⟩
theorem row (h : InS key c w1 w) {b : Nat} (hb : w1.heap.size ≤ b) (cs : Array Value) : InS key c w1 (w.setRow b cs) := ⟨h.but.setNew hb cs, h.hc.of_block (setRow_other _ _ _ _ (by have := h.lt; omega)), h.lt⟩
end InS
theorem exec_array_at {w : World} {ρ : Operand → Value} {o : Oper} {x : Operand} (ho : o.op = .sliceToArrayPointer 28 x) {a : Option Addr} {cap : Nat} (hx : ρ x = .slice a 16 cap) : (execOp ρ o).run Try.prog w = .ok (.value (.pointer a)) w := by
  unfold execOp
  simp only [ho, hx, Instr.arrayAt, Sem.run_bind, run_underlying und28, Result.andThen_ok]
  rfl
theorem headS_short (n i : Nat) : ¬ 9223372036854775807 < (headS n).size + (headS i).size := by
  have : ∀ n, (headS n).size = 8 := fun n => by simp [headS, ByteArray.size, leL_length]
  rw [this, this]; omega
theorem headS_add (n i : Nat) : headS n ++ headS i = ⟨(leL n 8 ++ leL i 8).toArray⟩ := ba_append _ _
theorem wp_via3 {P : Program} {c : Code} {Q : Exit → Act → World → Prop} {a : Act} {w : World} {A : Nat → Nat → Nat → Act} (S : Nat → Nat → Nat → World → Prop) (h1 : ∀ K' : Act → World → Prop, (∀ b g m w', S b g m w' → K' (A b g m) w') → c.wp P (Exit.then K' Q) a w)
    (h2 : ∀ b g m w', S b g m w' → Q .normal (A b g m) w') : c.wp P Q a w :=
  wp_mono (h1 (Q .normal) h2) fun e a w h => by cases e <;> exact h

set_option maxRecDepth 100000 in
set_option maxHeartbeats 1000000 in
theorem seq_any (key : Nat → UInt8) (n c p q l N : Nat) (hN : N ≤ 1000000) (J : Nat → World → Prop) (Jx : World → Prop) (W : World)
    (hJ : ∀ k w w', J k w → ButOne c w w' → J k w') (hJN : ∀ k w, J k w → k ≤ N)
    (hY : ∀ k w, J k w → SeqAt key n c p q w → RoundB key n c p q l J Jx k w) (h0 : J 0 W) (hS : SeqAt key n c p q W) :
    Calls Try.prog 45 #[.func (.yield l) #[] #[], .pointer (some ⟨p, 0, none⟩), .pointer (some ⟨q, 0, none⟩)] W fun e w' => (∃ v, e = .returned v) ∧ Jx w' := by
  go_enter Try.func45, Try.ntmps45
  go_wp2_with fail
  go_loopw [4] (fun v wr => ∃ i : Nat, 16 * i ≤ N ∧ v = .int .u64 (i : Int) ∧ J (16 * i) wr ∧ SeqAt key n c p q wr) (fun v _ => N - 16 * (intOf v).toNat)
  case atStart => exact ⟨0, by omega, rfl, h0, hS⟩
  case round =>
    clear h0 hS
    obtain ⟨i, hi, rfl, hJi, hS⟩ := hrel
    go_wp2_with fail
    refine (number8_any i (by omega) _).mono ?_
    rintro e w1 ⟨rfl, hb1⟩
    replace hJi := hJ _ _ _ hJi (ButOne.of_below hb1)
    replace hS := hS.below hb1
    clear hb1
    go_wp2_with fail
    have hI0 : InS key c w1 w1.drew := ⟨(ButOne.refl c w1).drew, hS.hc.of_block rfl, hS.hc.lt⟩
    refine wp_via3 (A := ?A) (fun b _ _ w' => Has w' b 28 16 (byt (blkF key n i)) ∧ InS key c w1 w') (fun K' fin => ?h1) ?h2
    case h1 =>
      refine wp_region_held (S := InS key c w1) (by kernel_rfl) ?_
      change wpAnyH _ _ _ _ _ _ _ _ (World.drew _)
      refine wpAnyH_run (i := 2) rfl rfl (by kernel_rfl) (by kernel_rfl) (by kernel_rfl) (.string (headS i)) (fun _ _ => rfl) (fun _ _ _ h => h) hI0 ?_
      simp only [Act.put, List.setIfInBounds_toArray, List.set_cons_zero, List.set_cons_succ]
      refine wpAnyH_run (i := 0) rfl rfl (by kernel_rfl) (by kernel_rfl) (by kernel_rfl) (.pointer (some ⟨c, 0, none⟩)) (fun w hw => by have hc0 := (hS.hp.but hw.but (by have := hS.lt1; omega)).cell (i := 0) (by omega); go_simp) (fun _ _ _ h => h) hI0 ?_
      simp only [Act.put, List.setIfInBounds_toArray, List.set_cons_zero, List.set_cons_succ]
      refine wpAnyH_run (i := 1) rfl rfl (by kernel_rfl) (by kernel_rfl) (by kernel_rfl) (.string (headS n)) (fun w hw => by have hc0 := (hS.hq.but hw.but (by have := hS.lt1; have := hS.lt2; omega)).cell (i := 0) (by omega); go_simp) (fun _ _ _ h => h) hI0 ?_
      simp only [Act.put, List.setIfInBounds_toArray, List.set_cons_zero, List.set_cons_succ]
      refine wpAnyH_run (i := 3) rfl rfl (by kernel_rfl) (by kernel_rfl) (by kernel_rfl) (.string ⟨(leL n 8 ++ leL i 8).toArray⟩) (fun w _ => by go_simp; rw [if_neg (headS_short n i), headS_add]) (fun _ _ _ h => h) hI0 ?_
      simp only [Act.put, List.setIfInBounds_toArray, List.set_cons_zero, List.set_cons_succ]
      refine wpAnyH_two (i := 4) (j := 8) (by kernel_rfl) rfl rfl rfl rfl (fun K hK => ?_) (fun K hK => ?_)
      · skip
        refine wp_bytes_gen (.tmp 20) rfl (leL n 8 ++ leL i 8) 16 (by simp [leL_length]) rfl ?_
        rintro g cap w2 hg hcap hb hG
        have hI0' := hI0.below hb
        refine hK _ _ hI0' ?_
        clear hK K
        simp only [Act.put, List.setIfInBounds_toArray, List.set_cons_zero, List.set_cons_succ]
        have hgc : g ≠ c := by have := hI0.hc.lt; omega
        refine wpAnyH_weaken (S' := fun w' => InS key c w1 w' ∧ HasT w' g cap (byt (ofL (leL n 8 ++ leL i 8)))) (fun _ h => h.1) _ _ _ _ ?_
        refine wpAnyH_run (i := 5) rfl rfl (by kernel_rfl) (by kernel_rfl) (by kernel_rfl) (.pointer (some ⟨g, 0, none⟩)) (fun w _ => exec_array_at rfl rfl) (fun _ _ _ h => h) ⟨hI0', hG⟩ ?_
        simp only [Act.put, List.setIfInBounds_toArray, List.set_cons_zero, List.set_cons_succ]
        refine wpAnyH_run (i := 6) rfl rfl (by kernel_rfl) (by kernel_rfl) (by kernel_rfl) (.agg (rowF 16 (byt (ofL (leL n 8 ++ leL i 8))))) (fun w hw => exec_load_cell rfl rfl (run_loadVar_hasT hw.2 28 16 5 hcap und28 info28)) (fun _ _ _ h => h) ⟨hI0', hG⟩ ?_
        simp only [Act.put, List.setIfInBounds_toArray, List.set_cons_zero, List.set_cons_succ]
        refine wpAnyH_two (i := 7) (j := 8) (by kernel_rfl) rfl rfl rfl rfl (fun K hK => ?_) (fun K hK => ?_)
        · skip
          refine wp_call_to 24 _ _ rfl Try.call24 #[.pointer (some ⟨c, 0, none⟩), .agg (rowF 16 (byt (ofL (leL n 8 ++ leL i 8))))] (by kernel_rfl) (lock_any key (ofL (leL n 8 ++ leL i 8)) c _ hI0'.hc) ?_
          rintro e w3 ⟨rfl, hb3, hw3⟩
          refine ⟨_, rfl, ?_⟩
          refine hK _ _ ⟨hI0'.call hb3 hw3, hG.of_block (hb3.block _ hG.lt hgc)⟩ ?_
          clear hK K
          simp only [Act.put, List.setIfInBounds_toArray, List.set_cons_zero, List.set_cons_succ]
          have hI3 := hI0'.call hb3 hw3
          have hG3 := hG.of_block (hb3.block _ hG.lt hgc)
          refine wpAnyH_one (i := 8) (by kernel_rfl) rfl rfl (fun K hK => ?_)
          refine wp_alloc_gen 28 rfl 16 (byt fun _ => 0) (by intro w; kernel_rfl) ?_
          rintro b wb hbb hbw hB
          have hIb := hI3.below hbw
          have hGb := hG3.of_block (hbw.block _ hG3.lt)
          have hbg : g ≠ b := by have := hG3.lt; omega
          refine hK _ _ ⟨hIb, hGb⟩ ?_
          have hbn : w1.heap.size ≤ b := by have := hI3.but.size; omega
          clear hK K
          simp only [Act.put, List.setIfInBounds_toArray, List.set_cons_zero, List.set_cons_succ]
          refine wpAnyH_one (i := 9) (by kernel_rfl) rfl rfl (fun K hK => ?_)
          refine wp_store_has 28 (.tmp 7) (.tmp 24) rfl b rfl hB (blkF key n i) rfl info28 ?_
          refine hK _ _ ⟨hIb.row hbn _, hGb.of_block (setRow_other _ _ _ _ hbg)⟩ ?_
          clear hK K
          simp only [Act.put]
          refine wpAnyH_done (by kernel_rfl) ?_ _
          exact fin b g cap _ ⟨(hB).setRow _, hIb.row hbn _⟩
        · skip
          refine wp_alloc_gen 28 rfl 16 (byt fun _ => 0) (by intro w; kernel_rfl) ?_
          rintro b wb hbb hbw hB
          have hIb := hI0'.below hbw
          have hGb := hG.of_block (hbw.block _ hG.lt)
          have hbg : g ≠ b := by have := hG.lt; omega
          refine hK _ _ ⟨hIb, hGb⟩ ?_
          have hbn : w1.heap.size ≤ b := by have := hI0'.but.size; omega
          clear hK K
          simp only [Act.put, List.setIfInBounds_toArray, List.set_cons_zero, List.set_cons_succ]
          refine wpAnyH_one (i := 7) (by kernel_rfl) rfl rfl (fun K hK => ?_)
          refine wp_call_to 24 _ _ rfl Try.call24 #[.pointer (some ⟨c, 0, none⟩), .agg (rowF 16 (byt (ofL (leL n 8 ++ leL i 8))))] (by kernel_rfl) (lock_any key (ofL (leL n 8 ++ leL i 8)) c _ hIb.hc) ?_
          rintro e w3 ⟨rfl, hb3, hw3⟩
          refine ⟨_, rfl, ?_⟩
          refine hK _ _ ⟨hIb.call hb3 hw3, hGb.of_block (hb3.block _ hGb.lt hgc)⟩ ?_
          clear hK K
          simp only [Act.put, List.setIfInBounds_toArray, List.set_cons_zero, List.set_cons_succ]
          have hI3 := hIb.call hb3 hw3
          have hG3 := hGb.of_block (hb3.block _ hGb.lt hgc)
          have hB3 := hB.but hb3 (by have := hIb.lt; omega)
          refine wpAnyH_one (i := 9) (by kernel_rfl) rfl rfl (fun K hK => ?_)
          refine wp_store_has 28 (.tmp 7) (.tmp 24) rfl b rfl hB3 (blkF key n i) rfl info28 ?_
          refine hK _ _ ⟨hI3.row hbn _, hG3.of_block (setRow_other _ _ _ _ hbg)⟩ ?_
          clear hK K
          simp only [Act.put]
          refine wpAnyH_done (by kernel_rfl) ?_ _
          exact fin b g cap _ ⟨(hB3).setRow _, hI3.row hbn _⟩
      · skip
        refine wp_alloc_gen 28 rfl 16 (byt fun _ => 0) (by intro w; kernel_rfl) ?_
        rintro b wb hbb hbw hB
        have hIb := hI0.below hbw
        refine hK _ _ hIb ?_
        have hbn : w1.heap.size ≤ b := by have := hI0.but.size; omega
        clear hK K
        simp only [Act.put, List.setIfInBounds_toArray, List.set_cons_zero, List.set_cons_succ]
        refine wpAnyH_one (i := 4) (by kernel_rfl) rfl rfl (fun K hK => ?_)
        refine wp_bytes_gen (.tmp 20) rfl (leL n 8 ++ leL i 8) 16 (by simp [leL_length]) rfl ?_
        rintro g cap w2 hg hcap hb hG
        have hIb' := hIb.below hb
        refine hK _ _ hIb' ?_
        clear hK K
        simp only [Act.put, List.setIfInBounds_toArray, List.set_cons_zero, List.set_cons_succ]
        have hgc : g ≠ c := by have := hIb.hc.lt; omega
        refine wpAnyH_weaken (S' := fun w' => InS key c w1 w' ∧ HasT w' g cap (byt (ofL (leL n 8 ++ leL i 8)))) (fun _ h => h.1) _ _ _ _ ?_
        refine wpAnyH_run (i := 5) rfl rfl (by kernel_rfl) (by kernel_rfl) (by kernel_rfl) (.pointer (some ⟨g, 0, none⟩)) (fun w _ => exec_array_at rfl rfl) (fun _ _ _ h => h) ⟨hIb', hG⟩ ?_
        simp only [Act.put, List.setIfInBounds_toArray, List.set_cons_zero, List.set_cons_succ]
        refine wpAnyH_run (i := 6) rfl rfl (by kernel_rfl) (by kernel_rfl) (by kernel_rfl) (.agg (rowF 16 (byt (ofL (leL n 8 ++ leL i 8))))) (fun w hw => exec_load_cell rfl rfl (run_loadVar_hasT hw.2 28 16 5 hcap und28 info28)) (fun _ _ _ h => h) ⟨hIb', hG⟩ ?_
        simp only [Act.put, List.setIfInBounds_toArray, List.set_cons_zero, List.set_cons_succ]
        have hB2 := hB.below hb hB.lt
        have hbg : g ≠ b := by have := hB.lt; omega
        refine wpAnyH_one (i := 7) (by kernel_rfl) rfl rfl (fun K hK => ?_)
        refine wp_call_to 24 _ _ rfl Try.call24 #[.pointer (some ⟨c, 0, none⟩), .agg (rowF 16 (byt (ofL (leL n 8 ++ leL i 8))))] (by kernel_rfl) (lock_any key (ofL (leL n 8 ++ leL i 8)) c _ hIb'.hc) ?_
        rintro e w3 ⟨rfl, hb3, hw3⟩
        refine ⟨_, rfl, ?_⟩
        refine hK _ _ ⟨hIb'.call hb3 hw3, hG.of_block (hb3.block _ hG.lt hgc)⟩ ?_
        clear hK K
        simp only [Act.put, List.setIfInBounds_toArray, List.set_cons_zero, List.set_cons_succ]
        have hI3 := hIb'.call hb3 hw3
        have hG3 := hG.of_block (hb3.block _ hG.lt hgc)
        have hB3 := hB2.but hb3 (by have := hIb.lt; omega)
        refine wpAnyH_one (i := 9) (by kernel_rfl) rfl rfl (fun K hK => ?_)
        refine wp_store_has 28 (.tmp 7) (.tmp 24) rfl b rfl hB3 (blkF key n i) rfl info28 ?_
        refine hK _ _ ⟨hI3.row hbn _, hG3.of_block (setRow_other _ _ _ _ hbg)⟩ ?_
        clear hK K
        simp only [Act.put]
        refine wpAnyH_done (by kernel_rfl) ?_ _
        exact fin b g cap _ ⟨(hB3).setRow _, hI3.row hbn _⟩
    case h2 =>
      rintro b g cap w2 ⟨hX, hI2⟩
      have hJ2 := hJ _ _ _ hJi hI2.but
      have hS2 := hS.but hI2.but hI2.hc
      clear hI2 hJi hS
      go_wp2_with (refine wpList_load_has rfl 28 (.tmp 7) rfl _ rfl hX 5 und28 info28 ?_)
      clear hX
      obtain ⟨wo, rfl⟩ : ∃ wo : World, wo = wr := ⟨_, rfl⟩
      go_loopw [26] (fun v wr => ∃ j : Nat, j ≤ 16 ∧ v = .int .i64 (j : Int) ∧ J (16 * i + j) wr ∧ SeqAt key n c p q wr) (fun v _ => 16 - (intOf v).toNat)
      case atStart => exact ⟨0, by omega, rfl, hJ2, hS2⟩
      case round =>
        clear hJ2 hS2
        obtain ⟨j, hj, rfl, hJj, hSj⟩ := hrel
        by_cases hlt : j < 16
        · have hd : decide ((j : Int) < 16) = true := by simp; omega
          have hix := run_index_rowF (P := Try.prog) wr 28 5 16 (blkF key n i) .i64 j hlt und28 Try.underlying5 (by kernel_rfl)
          rw [← sAt_block key n i j hlt] at hix
          go_upto_region 7 with (fail)
          obtain ⟨fn, tm, asg, bd, hy, hR⟩ := hY (16 * i + j) wr hJj hSj
          rw [← wpIn_wide (n := 1)]
          gi_wp2
          refine hR.mono ?_
          clear hy hR hix
          rintro e w3 (⟨rfl, hJ3, hS3⟩ | ⟨rfl, hJx⟩)
          · gi_wp2
            go_wp2
            go_roundw
            case rel => exact ⟨j + 1, by omega, by go_num, by rw [← Nat.add_assoc]; exact hJ3, hS3⟩
            case measure => simp [intOf]; omega
          · gi_wp2
            go_wp2
            refine bodyPost_ret (results_none rfl _ _ _) rfl ?_
            exact ⟨⟨_, rfl⟩, hJx⟩
        · obtain rfl : j = 16 := by omega
          have hnx := hJN _ _ hJj
          go_wp2_with fail
          go_roundw
          case rel => exact ⟨i + 1, by omega, by go_num, by rw [Nat.mul_add]; exact hJj, hSj⟩
          case measure => simp [intOf]; omega

end Go.Proofs.Ytjmeiloklhbllaa
