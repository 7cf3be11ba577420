/- The walk of the law CtrBack: it answers true, whatever the key, the nonce, the text and the cut. -/
import Derived.Test.YtjmeiloklhbllaaCtrLaw
namespace Go.Proofs.Ytjmeiloklhbllaa
open Go.RowKit

theorem ofL_take (l : List UInt8) (m j : Nat) (h : j < m) : ofL (l.take m) j = ofL l j := by
  unfold ofL
  rw [List.getD_eq_getElem?_getD, List.getD_eq_getElem?_getD, List.getElem?_take, if_pos h]
theorem ofL_drop (l : List UInt8) (m j : Nat) : ofL (l.drop m) j = ofL l (m + j) := by
  unfold ofL
  rw [List.getD_eq_getElem?_getD, List.getD_eq_getElem?_getD, List.getElem?_drop]
theorem atL_parts (key : Nat → UInt8) (n : Nat) (l : List UInt8) (m : Nat) (h : m ≤ l.length) : atL key n 0 (l.take m) ++ atL key n m (l.drop m) = atL key n 0 l := by
  have e : l.length = m + (l.length - m) := by omega
  unfold atL
  rw [List.length_take, List.length_drop, Nat.min_eq_left h]
  conv => rhs; rw [e, List.range_add, List.map_append, List.map_map]
  congr 1
  · refine List.map_congr_left fun j hj => ?_
    rw [ofL_take _ _ _ (List.mem_range.1 hj)]
  · refine List.map_congr_left fun j _ => ?_
    rw [ofL_drop]
    simp

set_option maxRecDepth 100000 in
set_option maxHeartbeats 4000000 in
theorem ctrBack_any (k : Nat → UInt8) (n : Nat) (hn : n < 18446744073709551616) (l : List UInt8) (c : Nat) (hc : c < 65536) (W : World) :
    Calls Try.prog 9 #[.agg (rowF 16 (byt k)), .int .u64 (n : Int), .string ⟨l.toArray⟩, .int .u16 (c : Int)] W fun e w' => e = .returned (.bool true) ∧ Below W.heap.size W w' := by
  have hS0 := KyS.start W k
  by_cases hlt : 1000 < l.length
  · have d1 : decide (1000 < (l.length : Int)) = true := by simp; omega
    go_enter Try.func9, Try.ntmps9
    go_wp2_with (first | (go_at_call 27; refine (shown5_any _).mono ?_; rintro e w1 ⟨rfl, hb1⟩))
    go_ret
    exact ⟨rfl, (hS0.below hb1).bel⟩
  · have d1 : decide (1000 < (l.length : Int)) = false := by simp; omega
    have hl : l.length ≤ 1000 := by omega
    go_enter Try.func9, Try.ntmps9
    go_wp2_with fail
    refine (shown5_any _).mono ?_
    rintro e w1 ⟨rfl, hb1⟩
    have hS1 := hS0.below hb1
    clear hS0 hb1 d1 hlt
    have z1 : ((l.length : Int) + 1 == 0) = false := by simp; omega
    go_wp2_with (first | (refine wpList_load_has rfl 28 (.tmp 4) rfl _ rfl hS1.hk 5 und28 info28 ?_))
    refine (crypt_good k n hn l (by omega) _).mono ?_
    rintro e w2 ⟨rfl, hb2⟩
    have hS := (hS1.below hb2).drew
    clear hS1 hb2
    go_wp2_with fail
    have hmod : (c : Int) % ((l.length : Int) + 1) = ((c % (l.length + 1) : Nat) : Int) := by simp
    have hm : c % (l.length + 1) ≤ l.length := by have := Nat.mod_lt c (show 0 < l.length + 1 by omega); omega
    rw [hmod]
    generalize c % (l.length + 1) = m at hm
    clear hmod z1
    refine wp_region_quiet (C := fun w' => KyS W w' k) (by kernel_rfl) (by kernel_rfl) hS ?_
    simp only
    refine wpQ_at rfl (fun K hK => ?_)
    refine q_move (.tmp 9) rfl (.string ⟨(atL k n 0 l).toArray⟩) rfl ?_
    refine hK _ ?_
    clear hK K
    simp only [Act.put, List.setIfInBounds_toArray, List.set_cons_zero, List.set_cons_succ]
    refine wpQ_at rfl (fun K hK => ?_)
    refine q_len (.tmp 29) rfl (atL k n 0 l) rfl ?_
    refine hK _ ?_
    clear hK K
    simp only [Act.put, List.setIfInBounds_toArray, List.set_cons_zero, List.set_cons_succ]
    refine wpQ_at rfl (fun K hK => ?_)
    refine q_move (.tmp 2) rfl (.string ⟨(l).toArray⟩) rfl ?_
    refine hK _ ?_
    clear hK K
    simp only [Act.put, List.setIfInBounds_toArray, List.set_cons_zero, List.set_cons_succ]
    refine wpQ_at rfl (fun K hK => ?_)
    refine q_len (.tmp 31) rfl (l) rfl ?_
    refine hK _ ?_
    clear hK K
    simp only [Act.put, List.setIfInBounds_toArray, List.set_cons_zero, List.set_cons_succ]
    refine wpQ_at rfl (fun K hK => ?_)
    refine q_int_eq (.tmp 30) (.tmp 32) rfl ((atL k n 0 l).length : Int) (l.length : Int) rfl rfl (by rw [atL_length]) ?_
    refine hK _ ?_
    clear hK K
    simp only [Act.put, List.setIfInBounds_toArray, List.set_cons_zero, List.set_cons_succ]
    refine wpQ_at rfl (fun K hK => ?_)
    refine q_move (.tmp 33) rfl (.bool true) rfl ?_
    refine hK _ ?_
    clear hK K
    simp only [Act.put, List.setIfInBounds_toArray, List.set_cons_zero, List.set_cons_succ]
    refine wpQ_at rfl (fun K hK => ?_)
    refine q_load 28 (.tmp 4) rfl W.heap.size 0 rfl (fun w hw => hw.hk) 16 5 (by omega) und28 info28 (.agg (rowF 16 (byt k))) (by simp only [Nat.zero_add]) ?_
    refine hK _ ?_
    clear hK K
    simp only [Act.put, List.setIfInBounds_toArray, List.set_cons_zero, List.set_cons_succ]
    refine wpQ_at rfl (fun K hK => ?_)
    refine q_move (.tmp 1) rfl (.int .u64 (n : Int)) rfl ?_
    refine hK _ ?_
    clear hK K
    simp only [Act.put, List.setIfInBounds_toArray, List.set_cons_zero, List.set_cons_succ]
    refine wpQ_at rfl (fun K hK => ?_)
    refine q_move (.tmp 9) rfl (.string ⟨(atL k n 0 l).toArray⟩) rfl ?_
    refine hK _ ?_
    clear hK K
    simp only [Act.put, List.setIfInBounds_toArray, List.set_cons_zero, List.set_cons_succ]
    refine wpQ_at rfl (fun K hK => ?_)
    refine q_call 28 _ _ rfl Try.call28 #[(.agg (rowF 16 (byt k))), (.int .u64 (n : Int)), (.string ⟨(atL k n 0 l).toArray⟩)] (by kernel_rfl) (.string ⟨(atL k n 0 (atL k n 0 l)).toArray⟩) (fun w hw => (crypt_good k n hn (atL k n 0 l) (by rw [atL_length]; omega) w).mono (by rintro e w' ⟨rfl, hb⟩; exact ⟨rfl, hw.below hb⟩)) ?_
    refine hK _ ?_
    clear hK K
    simp only [Act.put, List.setIfInBounds_toArray, List.set_cons_zero, List.set_cons_succ]
    refine wpQ_at rfl (fun K hK => ?_)
    refine q_move (.tmp 2) rfl (.string ⟨(l).toArray⟩) rfl ?_
    refine hK _ ?_
    clear hK K
    simp only [Act.put, List.setIfInBounds_toArray, List.set_cons_zero, List.set_cons_succ]
    refine wpQ_at rfl (fun K hK => ?_)
    refine q_text_eq (.tmp 38) (.tmp 39) rfl (atL k n 0 (atL k n 0 l)) (l) rfl rfl (atL_twice k n 0 l) ?_
    refine hK _ ?_
    clear hK K
    simp only [Act.put, List.setIfInBounds_toArray, List.set_cons_zero, List.set_cons_succ]
    refine wpQ_at rfl (fun K hK => ?_)
    refine q_pick (.tmp 34) (.tmp 40) (.const (.bool false)) rfl true rfl (.bool true) rfl ?_
    refine hK _ ?_
    clear hK K
    simp only [Act.put, List.setIfInBounds_toArray, List.set_cons_zero, List.set_cons_succ]
    refine wpQ_at rfl (fun K hK => ?_)
    refine q_move (.tmp 41) rfl (.bool true) rfl ?_
    refine hK _ ?_
    clear hK K
    simp only [Act.put, List.setIfInBounds_toArray, List.set_cons_zero, List.set_cons_succ]
    refine wpQ_at rfl (fun K hK => ?_)
    refine q_load 28 (.tmp 4) rfl W.heap.size 0 rfl (fun w hw => hw.hk) 16 5 (by omega) und28 info28 (.agg (rowF 16 (byt k))) (by simp only [Nat.zero_add]) ?_
    refine hK _ ?_
    clear hK K
    simp only [Act.put, List.setIfInBounds_toArray, List.set_cons_zero, List.set_cons_succ]
    refine wpQ_at rfl (fun K hK => ?_)
    refine q_move (.tmp 1) rfl (.int .u64 (n : Int)) rfl ?_
    refine hK _ ?_
    clear hK K
    simp only [Act.put, List.setIfInBounds_toArray, List.set_cons_zero, List.set_cons_succ]
    refine wpQ_at rfl (fun K hK => ?_)
    refine q_move (.tmp 2) rfl (.string ⟨(l).toArray⟩) rfl ?_
    refine hK _ ?_
    clear hK K
    simp only [Act.put, List.setIfInBounds_toArray, List.set_cons_zero, List.set_cons_succ]
    refine wpQ_at rfl (fun K hK => ?_)
    refine q_move (.tmp 10) rfl (.int .i64 (m : Int)) rfl ?_
    refine hK _ ?_
    clear hK K
    simp only [Act.put, List.setIfInBounds_toArray, List.set_cons_zero, List.set_cons_succ]
    refine wpQ_at rfl (fun K hK => ?_)
    refine q_slice (.tmp 45) none (some (.tmp 46)) rfl (.string ⟨(l.take m).toArray⟩) (fun w => run_text_to _ m hm w) ?_
    refine hK _ ?_
    clear hK K
    simp only [Act.put, List.setIfInBounds_toArray, List.set_cons_zero, List.set_cons_succ]
    refine wpQ_at rfl (fun K hK => ?_)
    refine q_call 29 _ _ rfl Try.call29 #[(.agg (rowF 16 (byt k))), (.int .u64 (n : Int)), (.int .i64 0), (.string ⟨(l.take m).toArray⟩)] (by kernel_rfl) (.string ⟨(atL k n 0 (l.take m)).toArray⟩) (fun w hw => (at_good0 k n hn (l.take m) (by simp; omega) w).mono (by rintro e w' ⟨rfl, hb⟩; exact ⟨rfl, hw.below hb⟩)) ?_
    refine hK _ ?_
    clear hK K
    simp only [Act.put, List.setIfInBounds_toArray, List.set_cons_zero, List.set_cons_succ]
    refine wpQ_at rfl (fun K hK => ?_)
    refine q_load 28 (.tmp 4) rfl W.heap.size 0 rfl (fun w hw => hw.hk) 16 5 (by omega) und28 info28 (.agg (rowF 16 (byt k))) (by simp only [Nat.zero_add]) ?_
    refine hK _ ?_
    clear hK K
    simp only [Act.put, List.setIfInBounds_toArray, List.set_cons_zero, List.set_cons_succ]
    refine wpQ_at rfl (fun K hK => ?_)
    refine q_move (.tmp 1) rfl (.int .u64 (n : Int)) rfl ?_
    refine hK _ ?_
    clear hK K
    simp only [Act.put, List.setIfInBounds_toArray, List.set_cons_zero, List.set_cons_succ]
    refine wpQ_at rfl (fun K hK => ?_)
    refine q_move (.tmp 10) rfl (.int .i64 (m : Int)) rfl ?_
    refine hK _ ?_
    clear hK K
    simp only [Act.put, List.setIfInBounds_toArray, List.set_cons_zero, List.set_cons_succ]
    refine wpQ_at rfl (fun K hK => ?_)
    refine q_move (.tmp 2) rfl (.string ⟨(l).toArray⟩) rfl ?_
    refine hK _ ?_
    clear hK K
    simp only [Act.put, List.setIfInBounds_toArray, List.set_cons_zero, List.set_cons_succ]
    refine wpQ_at rfl (fun K hK => ?_)
    refine q_move (.tmp 10) rfl (.int .i64 (m : Int)) rfl ?_
    refine hK _ ?_
    clear hK K
    simp only [Act.put, List.setIfInBounds_toArray, List.set_cons_zero, List.set_cons_succ]
    refine wpQ_at rfl (fun K hK => ?_)
    refine q_slice (.tmp 52) (some (.tmp 53)) none rfl (.string ⟨(l.drop m).toArray⟩) (fun w => run_text_from _ m hm w) ?_
    refine hK _ ?_
    clear hK K
    simp only [Act.put, List.setIfInBounds_toArray, List.set_cons_zero, List.set_cons_succ]
    refine wpQ_at rfl (fun K hK => ?_)
    refine q_call 29 _ _ rfl Try.call29 #[(.agg (rowF 16 (byt k))), (.int .u64 (n : Int)), (.int .i64 (m : Int)), (.string ⟨(l.drop m).toArray⟩)] (by kernel_rfl) (.string ⟨(atL k n m (l.drop m)).toArray⟩) (fun w hw => (at_good k n m hn (l.drop m) (by simp; omega) w).mono (by rintro e w' ⟨rfl, hb⟩; exact ⟨rfl, hw.below hb⟩)) ?_
    refine hK _ ?_
    clear hK K
    simp only [Act.put, List.setIfInBounds_toArray, List.set_cons_zero, List.set_cons_succ]
    refine wpQ_at rfl (fun K hK => ?_)
    refine q_text_add (.tmp 48) (.tmp 55) rfl (atL k n 0 (l.take m)) (atL k n m (l.drop m)) rfl rfl (by rw [atL_length, atL_length]; simp; omega) ?_
    refine hK _ ?_
    clear hK K
    simp only [Act.put, List.setIfInBounds_toArray, List.set_cons_zero, List.set_cons_succ]
    refine wpQ_at rfl (fun K hK => ?_)
    refine q_move (.tmp 9) rfl (.string ⟨(atL k n 0 l).toArray⟩) rfl ?_
    refine hK _ ?_
    clear hK K
    simp only [Act.put, List.setIfInBounds_toArray, List.set_cons_zero, List.set_cons_succ]
    refine wpQ_at rfl (fun K hK => ?_)
    refine q_text_eq (.tmp 56) (.tmp 57) rfl (atL k n 0 (l.take m) ++ atL k n m (l.drop m)) (atL k n 0 l) rfl rfl (atL_parts k n l m hm) ?_
    refine hK _ ?_
    clear hK K
    simp only [Act.put, List.setIfInBounds_toArray, List.set_cons_zero, List.set_cons_succ]
    refine wpQ_at rfl (fun K hK => ?_)
    refine q_pick (.tmp 42) (.tmp 58) (.const (.bool false)) rfl true rfl (.bool true) rfl ?_
    refine hK _ ?_
    clear hK K
    simp only [Act.put, List.setIfInBounds_toArray, List.set_cons_zero, List.set_cons_succ]
    refine wpQ_at rfl (fun K hK => ?_)
    refine q_assign (.tmp 59) rfl (.bool true) rfl ?_
    refine hK _ ?_
    clear hK K
    simp only [Act.put, List.setIfInBounds_toArray, List.set_cons_zero, List.set_cons_succ]
    refine wpQuiet_nil ?_
    intro w2 hC
    go_wp2_with fail
    go_ret
    exact ⟨rfl, hC.bel⟩

end Go.Proofs.Ytjmeiloklhbllaa
