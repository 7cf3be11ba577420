/- The walk of the law CtrStreams: it answers true, whatever the key, the nonce, the length and the text. -/
import Derived.Test.YtjmeiloklhbllaaCtrLaw
namespace Go.Proofs.Ytjmeiloklhbllaa
open Go.RowKit

theorem atL_xor (key : Nat → UInt8) (n : Nat) (l : List UInt8) (M : Nat) (h : l.length ≤ M) : atL key n 0 l = xorL l (sL key n M) := by
  unfold atL xorL xorTo
  refine List.map_congr_left fun j hj => ?_
  have hj' := List.mem_range.1 hj
  have e : (sL key n M).getD j 0 = sAt key n j := ofL_map _ _ _ (by omega)
  rw [e, Nat.zero_add]
  rfl
theorem refStream_nat (key : Nat → UInt8) (n : Nat) (hn : n < 18446744073709551616) (m : Nat) (hm : m ≤ 4096) (w : World) :
    Calls Try.prog 31 #[.agg (rowF 16 (byt key)), .int .u64 (n : Int), .int .i64 (m : Int)] w fun e w' => e = .returned (.string ⟨(sL key n m).toArray⟩) ∧ Below w.heap.size w w' := by
  have h := refStream_any key n hn (m : Int) (by omega) w
  rw [show min (m : Int).toNat 4096 = m by simp; omega] at h
  exact h

set_option maxRecDepth 100000 in
set_option maxHeartbeats 4000000 in
theorem ctrStreams_any (k : Nat → UInt8) (n : Nat) (hn : n < 18446744073709551616) (a : Nat) (ha : a < 256) (l : List UInt8) (W : World) :
    Calls Try.prog 11 #[.agg (rowF 16 (byt k)), .int .u64 (n : Int), .int .u8 (a : Int), .string ⟨l.toArray⟩] W fun e w' => e = .returned (.bool true) ∧ Below W.heap.size W w' := by
  have hS0 := KyS.start W k
  by_cases hlt : 60 < l.length
  · have d1 : decide (60 < (l.length : Int)) = true := by simp; omega
    go_enter Try.func11, Try.ntmps11
    go_wp2_with (first | (go_at_call 27; refine (shown5_any _).mono ?_; rintro e w1 ⟨rfl, hb1⟩))
    go_ret
    exact ⟨rfl, (hS0.below hb1).bel⟩
  · have d1 : decide (60 < (l.length : Int)) = false := by simp; omega
    have hl : l.length ≤ 60 := by omega
    go_enter Try.func11, Try.ntmps11
    go_wp2_with fail
    refine (shown5_any _).mono ?_
    rintro e w1 ⟨rfl, hb1⟩
    have hS1 := hS0.below hb1
    clear hS0 hb1 d1 hlt
    go_wp2_with (first | (refine wpList_load_has rfl 28 (.tmp 4) rfl _ rfl hS1.hk 5 und28 info28 ?_))
    have hm : a % 60 < 60 := Nat.mod_lt _ (by omega)
    have hmod : (a : Int) % 60 = ((a % 60 : Nat) : Int) := by simp
    have hmx : max ((a % 60 : Nat) : Int) (l.length : Int) = ((max (a % 60) l.length : Nat) : Int) := by omega
    have hmM : a % 60 ≤ max (a % 60) l.length := by omega
    have hlM : l.length ≤ max (a % 60) l.length := by omega
    have hM : max (a % 60) l.length ≤ 60 := by omega
    rw [hmod, hmx]
    generalize max (a % 60) l.length = M at hmM hlM hM
    generalize a % 60 = m at hm hmM
    refine (refStream_nat k n hn M (by omega) _).mono ?_
    rintro e w2 ⟨rfl, hb2⟩
    have hS := (hS1.below hb2).drew
    clear hS1 hb2 hmod hmx
    go_wp2_with fail
    refine wp_region_quiet (C := fun w' => KyS W w' k) (by kernel_rfl) (by kernel_rfl) hS ?_
    simp only
    refine wpQ_at rfl (fun K hK => ?_)
    refine q_load 28 (.tmp 4) rfl W.heap.size 0 rfl (fun w hw => hw.hk) 16 5 (by omega) und28 info28 (.agg (rowF 16 (byt k))) (by simp only [Nat.zero_add]) ?_
    refine hK _ ?_
    clear hK K
    simp only [Act.put, List.setIfInBounds_toArray, List.set_cons_zero, List.set_cons_succ]
    refine wpQ_at rfl (fun K hK => ?_)
    refine q_move (.tmp 1) rfl (.int .u64 (n : Int)) rfl ?_
    refine hK _ ?_
    clear hK K
    simp only [Act.put, List.setIfInBounds_toArray, List.set_cons_zero, List.set_cons_succ]
    refine wpQ_at rfl (fun K hK => ?_)
    refine q_move (.tmp 9) rfl (.int .i64 (m : Int)) rfl ?_
    refine hK _ ?_
    clear hK K
    simp only [Act.put, List.setIfInBounds_toArray, List.set_cons_zero, List.set_cons_succ]
    refine wpQ_at rfl (fun K hK => ?_)
    refine q_call 32 _ _ rfl Try.call32 #[(.agg (rowF 16 (byt k))), (.int .u64 (n : Int)), (.int .i64 (m : Int))] (by kernel_rfl) (.string ⟨(sL k n m).toArray⟩) (fun w hw => (ctrStream_nat k n hn m (by omega) w).mono (by rintro e w' ⟨rfl, hb⟩; exact ⟨rfl, hw.below hb⟩)) ?_
    refine hK _ ?_
    clear hK K
    simp only [Act.put, List.setIfInBounds_toArray, List.set_cons_zero, List.set_cons_succ]
    refine wpQ_at rfl (fun K hK => ?_)
    refine q_move (.tmp 10) rfl (.string ⟨(sL k n M).toArray⟩) rfl ?_
    refine hK _ ?_
    clear hK K
    simp only [Act.put, List.setIfInBounds_toArray, List.set_cons_zero, List.set_cons_succ]
    refine wpQ_at rfl (fun K hK => ?_)
    refine q_move (.tmp 9) rfl (.int .i64 (m : Int)) rfl ?_
    refine hK _ ?_
    clear hK K
    simp only [Act.put, List.setIfInBounds_toArray, List.set_cons_zero, List.set_cons_succ]
    refine wpQ_at rfl (fun K hK => ?_)
    refine q_slice (.tmp 33) none (some (.tmp 34)) rfl (.string ⟨((sL k n M).take m).toArray⟩) (fun w => run_text_to _ m (by rw [sL_length]; omega) w) ?_
    refine hK _ ?_
    clear hK K
    simp only [Act.put, List.setIfInBounds_toArray, List.set_cons_zero, List.set_cons_succ]
    refine wpQ_at rfl (fun K hK => ?_)
    refine q_text_eq (.tmp 32) (.tmp 35) rfl (sL k n m) ((sL k n M).take m) rfl rfl ((sL_take k n M m hmM).symm) ?_
    refine hK _ ?_
    clear hK K
    simp only [Act.put, List.setIfInBounds_toArray, List.set_cons_zero, List.set_cons_succ]
    refine wpQ_at rfl (fun K hK => ?_)
    refine q_move (.tmp 36) rfl (.bool true) rfl ?_
    refine hK _ ?_
    clear hK K
    simp only [Act.put, List.setIfInBounds_toArray, List.set_cons_zero, List.set_cons_succ]
    refine wpQ_at rfl (fun K hK => ?_)
    refine q_load 28 (.tmp 4) rfl W.heap.size 0 rfl (fun w hw => hw.hk) 16 5 (by omega) und28 info28 (.agg (rowF 16 (byt k))) (by simp only [Nat.zero_add]) ?_
    refine hK _ ?_
    clear hK K
    simp only [Act.put, List.setIfInBounds_toArray, List.set_cons_zero, List.set_cons_succ]
    refine wpQ_at rfl (fun K hK => ?_)
    refine q_move (.tmp 1) rfl (.int .u64 (n : Int)) rfl ?_
    refine hK _ ?_
    clear hK K
    simp only [Act.put, List.setIfInBounds_toArray, List.set_cons_zero, List.set_cons_succ]
    refine wpQ_at rfl (fun K hK => ?_)
    refine q_move (.tmp 3) rfl (.string ⟨(l).toArray⟩) rfl ?_
    refine hK _ ?_
    clear hK K
    simp only [Act.put, List.setIfInBounds_toArray, List.set_cons_zero, List.set_cons_succ]
    refine wpQ_at rfl (fun K hK => ?_)
    refine q_call 28 _ _ rfl Try.call28 #[(.agg (rowF 16 (byt k))), (.int .u64 (n : Int)), (.string ⟨(l).toArray⟩)] (by kernel_rfl) (.string ⟨(atL k n 0 l).toArray⟩) (fun w hw => (crypt_good k n hn l (by omega) w).mono (by rintro e w' ⟨rfl, hb⟩; exact ⟨rfl, hw.below hb⟩)) ?_
    refine hK _ ?_
    clear hK K
    simp only [Act.put, List.setIfInBounds_toArray, List.set_cons_zero, List.set_cons_succ]
    refine wpQ_at rfl (fun K hK => ?_)
    refine q_move (.tmp 3) rfl (.string ⟨(l).toArray⟩) rfl ?_
    refine hK _ ?_
    clear hK K
    simp only [Act.put, List.setIfInBounds_toArray, List.set_cons_zero, List.set_cons_succ]
    refine wpQ_at rfl (fun K hK => ?_)
    refine q_move (.tmp 10) rfl (.string ⟨(sL k n M).toArray⟩) rfl ?_
    refine hK _ ?_
    clear hK K
    simp only [Act.put, List.setIfInBounds_toArray, List.set_cons_zero, List.set_cons_succ]
    refine wpQ_at rfl (fun K hK => ?_)
    refine q_call 30 _ _ rfl Try.call30 #[(.string ⟨(l).toArray⟩), (.string ⟨(sL k n M).toArray⟩)] (by kernel_rfl) (.string ⟨(xorL l (sL k n M)).toArray⟩) (fun w hw => (refXorS_any l (sL k n M) (by rw [sL_length]; omega) (by omega) w).mono (by rintro e w' ⟨rfl, hb⟩; exact ⟨rfl, hw.below hb⟩)) ?_
    refine hK _ ?_
    clear hK K
    simp only [Act.put, List.setIfInBounds_toArray, List.set_cons_zero, List.set_cons_succ]
    refine wpQ_at rfl (fun K hK => ?_)
    refine q_text_eq (.tmp 41) (.tmp 44) rfl (atL k n 0 l) (xorL l (sL k n M)) rfl rfl (atL_xor k n l M hlM) ?_
    refine hK _ ?_
    clear hK K
    simp only [Act.put, List.setIfInBounds_toArray, List.set_cons_zero, List.set_cons_succ]
    refine wpQ_at rfl (fun K hK => ?_)
    refine q_pick (.tmp 37) (.tmp 45) (.const (.bool false)) rfl true rfl (.bool true) rfl ?_
    refine hK _ ?_
    clear hK K
    simp only [Act.put, List.setIfInBounds_toArray, List.set_cons_zero, List.set_cons_succ]
    refine wpQ_at rfl (fun K hK => ?_)
    refine q_assign (.tmp 46) rfl (.bool true) rfl ?_
    refine hK _ ?_
    clear hK K
    simp only [Act.put, List.setIfInBounds_toArray, List.set_cons_zero, List.set_cons_succ]
    refine wpQuiet_nil ?_
    intro w3 hC
    go_wp2_with fail
    go_ret
    exact ⟨rfl, hC.bel⟩

end Go.Proofs.Ytjmeiloklhbllaa
