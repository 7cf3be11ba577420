/- The walk of the law CtrXor: it answers true, whatever the key, the nonce and the two texts. -/
import Derived.Test.YtjmeiloklhbllaaCtrLaw
namespace Go.Proofs.Ytjmeiloklhbllaa
open Go.RowKit

theorem getD_atL (key : Nat → UInt8) (n at' : Nat) (l : List UInt8) (i : Nat) (h : i < l.length) : (atL key n at' l).getD i 0 = ofL l i ^^^ sAt key n (at' + i) := ofL_map _ _ _ h
theorem xor_hidden (x y s : UInt8) : (x ^^^ s) ^^^ (y ^^^ s) = x ^^^ y := by
  rw [UInt8.xor_comm y s, UInt8.xor_assoc, ← UInt8.xor_assoc s s y, UInt8.xor_self, UInt8.zero_xor]
theorem xorL_hidden (key : Nat → UInt8) (n : Nat) (a b : List UInt8) (h : a.length = b.length) : xorL (atL key n 0 a) (atL key n 0 b) = xorL a b := by
  unfold xorL xorTo
  rw [atL_length]
  refine List.map_congr_left fun i hi => ?_
  have hi' := List.mem_range.1 hi
  rw [getD_atL _ _ _ _ _ hi', getD_atL _ _ _ _ _ (by omega), xor_hidden]
  rfl

set_option maxRecDepth 100000 in
set_option maxHeartbeats 4000000 in
theorem ctrXor_any (k : Nat → UInt8) (n : Nat) (hn : n < 18446744073709551616) (a b : List UInt8) (W : World) :
    Calls Try.prog 10 #[.agg (rowF 16 (byt k)), .int .u64 (n : Int), .string ⟨a.toArray⟩, .string ⟨b.toArray⟩] W fun e w' => e = .returned (.bool true) ∧ Below W.heap.size W w' := by
  have hS0 := KyS.start W k
  by_cases hlt : 600 < min a.length b.length
  · have d1 : decide (600 < min (a.length : Int) (b.length : Int)) = true := by simp; omega
    go_enter Try.func10, Try.ntmps10
    go_wp2_with (first | (go_at_call 27; refine (shown5_any _).mono ?_; rintro e w1 ⟨rfl, hb1⟩))
    go_ret
    exact ⟨rfl, (hS0.below hb1).bel⟩
  · have d1 : decide (600 < min (a.length : Int) (b.length : Int)) = false := by simp; omega
    have hmin : min (a.length : Int) (b.length : Int) = ((min a.length b.length : Nat) : Int) := by omega
    have hNa : min a.length b.length ≤ a.length := by omega
    have hNb : min a.length b.length ≤ b.length := by omega
    have hN : min a.length b.length ≤ 600 := by omega
    generalize min a.length b.length = N at hmin hNa hNb hN
    have HN := Lib.hid hmin
    clear hmin hlt
    go_enter Try.func10, Try.ntmps10
    go_wp2_with fail
    refine (shown5_any _).mono ?_
    rintro e w1 ⟨rfl, hb1⟩
    have hS := (hS0.below hb1).drew
    clear hS0 hb1
    rw [HN.out]
    clear HN d1
    have i0 : (0 : Int) ≤ (N : Int) := by omega
    have i1 : (N : Int) ≤ (a.length : Int) := by omega
    have i2 : (N : Int) ≤ (b.length : Int) := by omega
    go_wp2_with fail
    rw [ba_take, ba_take]
    obtain ⟨la, hla⟩ : ∃ la, la = a.take N := ⟨_, rfl⟩
    obtain ⟨lb, hlb⟩ : ∃ lb, lb = b.take N := ⟨_, rfl⟩
    have hl1 : la.length = N := by rw [hla]; simp; omega
    have hl2 : lb.length = N := by rw [hlb]; simp; omega
    rw [← hla, ← hlb]
    clear hla hlb i0 i1 i2 hNa hNb
    have hlab : la.length = lb.length := by omega
    refine wp_region_quiet (C := fun w' => KyS W w' k) (by kernel_rfl) (by kernel_rfl) hS ?_
    simp only
    refine wpQ_at rfl (fun K hK => ?_)
    refine q_load 28 (.tmp 4) rfl W.heap.size 0 rfl (fun w hw => hw.hk) 16 5 (by omega) und28 info28 (.agg (rowF 16 (byt k))) (by simp only [Nat.zero_add]) ?_
    refine hK _ ?_
    clear hK K
    simp only [Act.put, List.setIfInBounds_toArray, List.set_cons_zero, List.set_cons_succ]
    refine wpQ_at rfl (fun K hK => ?_)
    refine q_move (.tmp 1) rfl (.int .u64 (n : Int)) rfl ?_
    refine hK _ ?_
    clear hK K
    simp only [Act.put, List.setIfInBounds_toArray, List.set_cons_zero, List.set_cons_succ]
    refine wpQ_at rfl (fun K hK => ?_)
    refine q_move (.tmp 2) rfl (.string ⟨(la).toArray⟩) rfl ?_
    refine hK _ ?_
    clear hK K
    simp only [Act.put, List.setIfInBounds_toArray, List.set_cons_zero, List.set_cons_succ]
    refine wpQ_at rfl (fun K hK => ?_)
    refine q_call 28 _ _ rfl Try.call28 #[(.agg (rowF 16 (byt k))), (.int .u64 (n : Int)), (.string ⟨(la).toArray⟩)] (by kernel_rfl) (.string ⟨(atL k n 0 la).toArray⟩) (fun w hw => (crypt_good k n hn la (by omega) w).mono (by rintro e w' ⟨rfl, hb⟩; exact ⟨rfl, hw.below hb⟩)) ?_
    refine hK _ ?_
    clear hK K
    simp only [Act.put, List.setIfInBounds_toArray, List.set_cons_zero, List.set_cons_succ]
    refine wpQ_at rfl (fun K hK => ?_)
    refine q_load 28 (.tmp 4) rfl W.heap.size 0 rfl (fun w hw => hw.hk) 16 5 (by omega) und28 info28 (.agg (rowF 16 (byt k))) (by simp only [Nat.zero_add]) ?_
    refine hK _ ?_
    clear hK K
    simp only [Act.put, List.setIfInBounds_toArray, List.set_cons_zero, List.set_cons_succ]
    refine wpQ_at rfl (fun K hK => ?_)
    refine q_move (.tmp 1) rfl (.int .u64 (n : Int)) rfl ?_
    refine hK _ ?_
    clear hK K
    simp only [Act.put, List.setIfInBounds_toArray, List.set_cons_zero, List.set_cons_succ]
    refine wpQ_at rfl (fun K hK => ?_)
    refine q_move (.tmp 3) rfl (.string ⟨(lb).toArray⟩) rfl ?_
    refine hK _ ?_
    clear hK K
    simp only [Act.put, List.setIfInBounds_toArray, List.set_cons_zero, List.set_cons_succ]
    refine wpQ_at rfl (fun K hK => ?_)
    refine q_call 28 _ _ rfl Try.call28 #[(.agg (rowF 16 (byt k))), (.int .u64 (n : Int)), (.string ⟨(lb).toArray⟩)] (by kernel_rfl) (.string ⟨(atL k n 0 lb).toArray⟩) (fun w hw => (crypt_good k n hn lb (by omega) w).mono (by rintro e w' ⟨rfl, hb⟩; exact ⟨rfl, hw.below hb⟩)) ?_
    refine hK _ ?_
    clear hK K
    simp only [Act.put, List.setIfInBounds_toArray, List.set_cons_zero, List.set_cons_succ]
    refine wpQ_at rfl (fun K hK => ?_)
    refine q_call 30 _ _ rfl Try.call30 #[(.string ⟨(atL k n 0 la).toArray⟩), (.string ⟨(atL k n 0 lb).toArray⟩)] (by kernel_rfl) (.string ⟨(xorL (atL k n 0 la) (atL k n 0 lb)).toArray⟩) (fun w hw => (refXorS_any (atL k n 0 la) (atL k n 0 lb) (by rw [atL_length, atL_length]; omega) (by rw [atL_length]; omega) w).mono (by rintro e w' ⟨rfl, hb⟩; exact ⟨rfl, hw.below hb⟩)) ?_
    refine hK _ ?_
    clear hK K
    simp only [Act.put, List.setIfInBounds_toArray, List.set_cons_zero, List.set_cons_succ]
    refine wpQ_at rfl (fun K hK => ?_)
    refine q_move (.tmp 2) rfl (.string ⟨(la).toArray⟩) rfl ?_
    refine hK _ ?_
    clear hK K
    simp only [Act.put, List.setIfInBounds_toArray, List.set_cons_zero, List.set_cons_succ]
    refine wpQ_at rfl (fun K hK => ?_)
    refine q_move (.tmp 3) rfl (.string ⟨(lb).toArray⟩) rfl ?_
    refine hK _ ?_
    clear hK K
    simp only [Act.put, List.setIfInBounds_toArray, List.set_cons_zero, List.set_cons_succ]
    refine wpQ_at rfl (fun K hK => ?_)
    refine q_call 30 _ _ rfl Try.call30 #[(.string ⟨(la).toArray⟩), (.string ⟨(lb).toArray⟩)] (by kernel_rfl) (.string ⟨(xorL la lb).toArray⟩) (fun w hw => (refXorS_any la lb (by omega) (by omega) w).mono (by rintro e w' ⟨rfl, hb⟩; exact ⟨rfl, hw.below hb⟩)) ?_
    refine hK _ ?_
    clear hK K
    simp only [Act.put, List.setIfInBounds_toArray, List.set_cons_zero, List.set_cons_succ]
    refine wpQ_at rfl (fun K hK => ?_)
    refine q_text_eq (.tmp 36) (.tmp 39) rfl (xorL (atL k n 0 la) (atL k n 0 lb)) (xorL la lb) rfl rfl (xorL_hidden k n la lb hlab) ?_
    refine hK _ ?_
    clear hK K
    simp only [Act.put, List.setIfInBounds_toArray, List.set_cons_zero, List.set_cons_succ]
    refine wpQ_at rfl (fun K hK => ?_)
    refine q_assign (.tmp 40) rfl (.bool true) rfl ?_
    refine hK _ ?_
    clear hK K
    simp only [Act.put, List.setIfInBounds_toArray, List.set_cons_zero, List.set_cons_succ]
    refine wpQuiet_nil ?_
    intro w2 hC
    go_wp2_with fail
    go_ret
    exact ⟨rfl, hC.bel⟩

end Go.Proofs.Ytjmeiloklhbllaa
