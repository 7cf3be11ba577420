/- The walk of the law CtrKeys: it answers true, whatever the key, the nonce and the two lengths. -/
import Derived.Test.YtjmeiloklhbllaaCtrLaw
namespace Go.Proofs.Ytjmeiloklhbllaa
open Go.RowKit

set_option maxRecDepth 100000 in
set_option maxHeartbeats 4000000 in
theorem ctrKeys_any (k : Nat → UInt8) (n : Nat) (hn : n < 18446744073709551616) (a b : Nat) (ha : a < 256) (hb : b < 256) (W : World) :
    Calls Try.prog 14 #[.agg (rowF 16 (byt k)), .int .u64 (n : Int), .int .u8 (a : Int), .int .u8 (b : Int)] W fun e w' => e = .returned (.bool true) ∧ Below W.heap.size W w' := by
  have hS0 := KyS.start W k
  have hmx : max (a : Int) (b : Int) = ((max a b : Nat) : Int) := by omega
  have hmn : min (a : Int) (b : Int) = ((min a b : Nat) : Int) := by omega
  have hmM : min a b ≤ max a b := by omega
  have hM : max a b < 256 := by omega
  generalize max a b = M at hmx hmM hM
  generalize min a b = m at hmn hmM
  have HX := Lib.hid hmx
  have HN := Lib.hid hmn
  clear hmx hmn
  go_enter Try.func14, Try.ntmps14
  go_wp2_with (first | (refine wpList_load_has rfl 28 (.tmp 4) rfl _ rfl hS0.hk 5 und28 info28 ?_))
  rw [HX.out, HN.out]
  refine (ctrStream_nat k n hn M (by omega) _).mono ?_
  rintro e w1 ⟨rfl, hb1⟩
  have hS := (hS0.below hb1).drew
  clear hS0 hb1 HX HN
  go_wp2_with fail
  refine wp_region_quiet (C := fun w' => KyS W w' k) (by kernel_rfl) (by kernel_rfl) hS ?_
  simp only
  refine wpQ_at rfl (fun K hK => ?_)
  refine q_move (.tmp 11) rfl (.string ⟨(sL k n M).toArray⟩) rfl ?_
  refine hK _ ?_
  clear hK K
  simp only [Act.put, List.setIfInBounds_toArray, List.set_cons_zero, List.set_cons_succ]
  refine wpQ_at rfl (fun K hK => ?_)
  refine q_len (.tmp 26) rfl (sL k n M) rfl ?_
  refine hK _ ?_
  clear hK K
  simp only [Act.put, List.setIfInBounds_toArray, List.set_cons_zero, List.set_cons_succ]
  refine wpQ_at rfl (fun K hK => ?_)
  refine q_move (.tmp 10) rfl (.int .i64 (M : Int)) rfl ?_
  refine hK _ ?_
  clear hK K
  simp only [Act.put, List.setIfInBounds_toArray, List.set_cons_zero, List.set_cons_succ]
  refine wpQ_at rfl (fun K hK => ?_)
  refine q_int_eq (.tmp 27) (.tmp 28) rfl ((sL k n M).length : Int) (M : Int) rfl rfl (by rw [sL_length]) ?_
  refine hK _ ?_
  clear hK K
  simp only [Act.put, List.setIfInBounds_toArray, List.set_cons_zero, List.set_cons_succ]
  refine wpQ_at rfl (fun K hK => ?_)
  refine q_move (.tmp 29) rfl (.bool true) rfl ?_
  refine hK _ ?_
  clear hK K
  simp only [Act.put, List.setIfInBounds_toArray, List.set_cons_zero, List.set_cons_succ]
  refine wpQ_at rfl (fun K hK => ?_)
  refine q_load 28 (.tmp 4) rfl W.heap.size 0 rfl (fun w hw => hw.hk) 16 5 (by omega) und28 info28 (.agg (rowF 16 (byt k))) (by simp only [Nat.zero_add]) ?_
  refine hK _ ?_
  clear hK K
  simp only [Act.put, List.setIfInBounds_toArray, List.set_cons_zero, List.set_cons_succ]
  refine wpQ_at rfl (fun K hK => ?_)
  refine q_move (.tmp 1) rfl (.int .u64 (n : Int)) rfl ?_
  refine hK _ ?_
  clear hK K
  simp only [Act.put, List.setIfInBounds_toArray, List.set_cons_zero, List.set_cons_succ]
  refine wpQ_at rfl (fun K hK => ?_)
  refine q_move (.tmp 9) rfl (.int .i64 (m : Int)) rfl ?_
  refine hK _ ?_
  clear hK K
  simp only [Act.put, List.setIfInBounds_toArray, List.set_cons_zero, List.set_cons_succ]
  refine wpQ_at rfl (fun K hK => ?_)
  refine q_call 32 _ _ rfl Try.call32 #[(.agg (rowF 16 (byt k))), (.int .u64 (n : Int)), (.int .i64 (m : Int))] (by kernel_rfl) (.string ⟨(sL k n m).toArray⟩) (fun w hw => (ctrStream_nat k n hn m (by omega) w).mono (by rintro e w' ⟨rfl, hb⟩; exact ⟨rfl, hw.below hb⟩)) ?_
  refine hK _ ?_
  clear hK K
  simp only [Act.put, List.setIfInBounds_toArray, List.set_cons_zero, List.set_cons_succ]
  refine wpQ_at rfl (fun K hK => ?_)
  refine q_move (.tmp 11) rfl (.string ⟨(sL k n M).toArray⟩) rfl ?_
  refine hK _ ?_
  clear hK K
  simp only [Act.put, List.setIfInBounds_toArray, List.set_cons_zero, List.set_cons_succ]
  refine wpQ_at rfl (fun K hK => ?_)
  refine q_move (.tmp 9) rfl (.int .i64 (m : Int)) rfl ?_
  refine hK _ ?_
  clear hK K
  simp only [Act.put, List.setIfInBounds_toArray, List.set_cons_zero, List.set_cons_succ]
  refine wpQ_at rfl (fun K hK => ?_)
  refine q_slice (.tmp 35) none (some (.tmp 36)) rfl (.string ⟨((sL k n M).take m).toArray⟩) (fun w => run_text_to _ m (by rw [sL_length]; omega) w) ?_
  refine hK _ ?_
  clear hK K
  simp only [Act.put, List.setIfInBounds_toArray, List.set_cons_zero, List.set_cons_succ]
  refine wpQ_at rfl (fun K hK => ?_)
  refine q_text_eq (.tmp 34) (.tmp 37) rfl (sL k n m) ((sL k n M).take m) rfl rfl ((sL_take k n M m hmM).symm) ?_
  refine hK _ ?_
  clear hK K
  simp only [Act.put, List.setIfInBounds_toArray, List.set_cons_zero, List.set_cons_succ]
  refine wpQ_at rfl (fun K hK => ?_)
  refine q_pick (.tmp 30) (.tmp 38) (.const (.bool false)) rfl true rfl (.bool true) rfl ?_
  refine hK _ ?_
  clear hK K
  simp only [Act.put, List.setIfInBounds_toArray, List.set_cons_zero, List.set_cons_succ]
  refine wpQ_at rfl (fun K hK => ?_)
  refine q_move (.tmp 39) rfl (.bool true) rfl ?_
  refine hK _ ?_
  clear hK K
  simp only [Act.put, List.setIfInBounds_toArray, List.set_cons_zero, List.set_cons_succ]
  refine wpQ_at rfl (fun K hK => ?_)
  refine q_load 28 (.tmp 4) rfl W.heap.size 0 rfl (fun w hw => hw.hk) 16 5 (by omega) und28 info28 (.agg (rowF 16 (byt k))) (by simp only [Nat.zero_add]) ?_
  refine hK _ ?_
  clear hK K
  simp only [Act.put, List.setIfInBounds_toArray, List.set_cons_zero, List.set_cons_succ]
  refine wpQ_at rfl (fun K hK => ?_)
  refine q_move (.tmp 1) rfl (.int .u64 (n : Int)) rfl ?_
  refine hK _ ?_
  clear hK K
  simp only [Act.put, List.setIfInBounds_toArray, List.set_cons_zero, List.set_cons_succ]
  refine wpQ_at rfl (fun K hK => ?_)
  refine q_call 28 _ _ rfl Try.call28 #[(.agg (rowF 16 (byt k))), (.int .u64 (n : Int)), (.string ⟨([]).toArray⟩)] (by kernel_rfl) (.string ⟨([]).toArray⟩) (fun w hw => (crypt_good k n hn [] (by decide) w).mono (by rintro e w' ⟨rfl, hb⟩; exact ⟨rfl, hw.below hb⟩)) ?_
  refine hK _ ?_
  clear hK K
  simp only [Act.put, List.setIfInBounds_toArray, List.set_cons_zero, List.set_cons_succ]
  refine wpQ_at rfl (fun K hK => ?_)
  refine q_text_eq (.tmp 43) (.const (.string ⟨#[]⟩)) rfl ([]) ([]) rfl rfl (rfl) ?_
  refine hK _ ?_
  clear hK K
  simp only [Act.put, List.setIfInBounds_toArray, List.set_cons_zero, List.set_cons_succ]
  refine wpQ_at rfl (fun K hK => ?_)
  refine q_pick (.tmp 40) (.tmp 44) (.const (.bool false)) rfl true rfl (.bool true) rfl ?_
  refine hK _ ?_
  clear hK K
  simp only [Act.put, List.setIfInBounds_toArray, List.set_cons_zero, List.set_cons_succ]
  refine wpQ_at rfl (fun K hK => ?_)
  refine q_move (.tmp 45) rfl (.bool true) rfl ?_
  refine hK _ ?_
  clear hK K
  simp only [Act.put, List.setIfInBounds_toArray, List.set_cons_zero, List.set_cons_succ]
  refine wpQ_at rfl (fun K hK => ?_)
  refine q_load 28 (.tmp 4) rfl W.heap.size 0 rfl (fun w hw => hw.hk) 16 5 (by omega) und28 info28 (.agg (rowF 16 (byt k))) (by simp only [Nat.zero_add]) ?_
  refine hK _ ?_
  clear hK K
  simp only [Act.put, List.setIfInBounds_toArray, List.set_cons_zero, List.set_cons_succ]
  refine wpQ_at rfl (fun K hK => ?_)
  refine q_move (.tmp 1) rfl (.int .u64 (n : Int)) rfl ?_
  refine hK _ ?_
  clear hK K
  simp only [Act.put, List.setIfInBounds_toArray, List.set_cons_zero, List.set_cons_succ]
  refine wpQ_at rfl (fun K hK => ?_)
  refine q_call 32 _ _ rfl Try.call32 #[(.agg (rowF 16 (byt k))), (.int .u64 (n : Int)), (.int .i64 0)] (by kernel_rfl) (.string ⟨([]).toArray⟩) (fun w hw => (ctrStream_nat k n hn 0 (by decide) w).mono (by rintro e w' ⟨rfl, hb⟩; exact ⟨rfl, hw.below hb⟩)) ?_
  refine hK _ ?_
  clear hK K
  simp only [Act.put, List.setIfInBounds_toArray, List.set_cons_zero, List.set_cons_succ]
  refine wpQ_at rfl (fun K hK => ?_)
  refine q_text_eq (.tmp 49) (.const (.string ⟨#[]⟩)) rfl ([]) ([]) rfl rfl (rfl) ?_
  refine hK _ ?_
  clear hK K
  simp only [Act.put, List.setIfInBounds_toArray, List.set_cons_zero, List.set_cons_succ]
  refine wpQ_at rfl (fun K hK => ?_)
  refine q_pick (.tmp 46) (.tmp 50) (.const (.bool false)) rfl true rfl (.bool true) rfl ?_
  refine hK _ ?_
  clear hK K
  simp only [Act.put, List.setIfInBounds_toArray, List.set_cons_zero, List.set_cons_succ]
  refine wpQ_at rfl (fun K hK => ?_)
  refine q_move (.tmp 51) rfl (.bool true) rfl ?_
  refine hK _ ?_
  clear hK K
  simp only [Act.put, List.setIfInBounds_toArray, List.set_cons_zero, List.set_cons_succ]
  refine wpQ_at rfl (fun K hK => ?_)
  refine q_call 27 _ _ rfl Try.call27 #[] (by kernel_rfl) (.bool true) (fun w hw => (shown5_any w).mono (by rintro e w' ⟨rfl, hb⟩; exact ⟨rfl, hw.below hb⟩)) ?_
  refine hK _ ?_
  clear hK K
  simp only [Act.put, List.setIfInBounds_toArray, List.set_cons_zero, List.set_cons_succ]
  refine wpQ_at rfl (fun K hK => ?_)
  refine q_pick (.tmp 52) (.tmp 53) (.const (.bool false)) rfl true rfl (.bool true) rfl ?_
  refine hK _ ?_
  clear hK K
  simp only [Act.put, List.setIfInBounds_toArray, List.set_cons_zero, List.set_cons_succ]
  refine wpQ_at rfl (fun K hK => ?_)
  refine q_assign (.tmp 54) rfl (.bool true) rfl ?_
  refine hK _ ?_
  clear hK K
  simp only [Act.put, List.setIfInBounds_toArray, List.set_cons_zero, List.set_cons_succ]
  refine wpQuiet_nil ?_
  intro w2 hC
  go_wp2_with fail
  go_ret
  exact ⟨rfl, hC.bel⟩

end Go.Proofs.Ytjmeiloklhbllaa
