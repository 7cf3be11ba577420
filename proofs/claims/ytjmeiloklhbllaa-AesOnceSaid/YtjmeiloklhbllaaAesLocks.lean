/- The walk of the law AesLocks: it answers true, whatever the key and the block. -/
import Derived.Test.YtjmeiloklhbllaaAesRounds
import Derived.Test.YtjmeiloklhbllaaRefLock
import Derived.Test.YtjmeiloklhbllaaOpen
import Derived.Test.YtjmeiloklhbllaaBack
namespace Go.Proofs.Ytjmeiloklhbllaa
open Go.RowKit

theorem eql_eq16 {f g : Nat → UInt8} (h : Eq16 f g) (w : World) : (binOp .eql 28 (.agg (rowF 16 (byt f))) (.agg (rowF 16 (byt g)))).run Try.prog w = .ok (.bool true) w := by
  rw [eql28, (eqF_iff 16 f g).2 h]
structure LkS (W w : World) (k x : Nat → UInt8) (c : Nat) : Prop where
  bel : Below W.heap.size W w
  hk : Has w W.heap.size 28 16 (byt k)
  hx : Has w (W.heap.size + 1) 28 16 (byt x)
  hc : Ciph k c w
  lo : W.heap.size + 1 < c
theorem LkS.below {W w w' : World} {k x : Nat → UInt8} {c : Nat} (h : LkS W w k x c) (hb : Below w.heap.size w w') : LkS W w' k x c :=
  ⟨h.bel.trans (hb.mono h.bel.size), h.hk.below hb h.hk.lt, h.hx.below hb h.hx.lt, h.hc.of_block (hb.block _ h.hc.lt), h.lo⟩
theorem LkS.drew {W w : World} {k x : Nat → UInt8} {c : Nat} (h : LkS W w k x c) : LkS W w.drew k x c := ⟨h.bel.drew, h.hk.drew, h.hx.drew, h.hc.of_block rfl, h.lo⟩
theorem LkS.store {W w : World} {k x : Nat → UInt8} {c b : Nat} {cs : Array Value} (h : LkS W w k x c) (h1 : W.heap.size + 1 < b) (h2 : b ≠ c) : LkS W (w.setRow b cs) k x c :=
  ⟨Below.setRow h.bel (by omega) _, h.hk.setRowOther _ _ (by omega), h.hx.setRowOther _ _ (by omega), h.hc.of_block (setRow_other _ _ _ _ (Ne.symm h2)), h.lo⟩
theorem LkS.but {W w w' : World} {k x : Nat → UInt8} {c : Nat} (h : LkS W w k x c) (hb : ButOne c w w') (hw : Work k c w') : LkS W w' k x c :=
  ⟨h.bel.trans (hb.to_below h.bel.size (by have := h.lo; omega)), h.hk.but hb (by have := h.lo; omega), h.hx.but hb (Nat.ne_of_lt h.lo), hw.ciph, h.lo⟩

set_option maxRecDepth 100000 in
set_option maxHeartbeats 4000000 in
theorem locks_any (k x : Nat → UInt8) (W : World) :
    Calls Try.prog 7 #[.agg (rowF 16 (byt k)), .agg (rowF 16 (byt x))] W fun e w' => e = .returned (.bool true) ∧ Below W.heap.size W w' := by
  have hnot : ∀ (x : Bool) (w : World), (Op.unary .not (.bool x)).run Try.prog w = .ok (.bool (!x)) w := fun _ _ => rfl
  have h0 : Has ((W.alloc (.cells (rowF 16 (byt k)) 28)).alloc (.cells (rowF 16 (byt x)) 28)) W.heap.size 28 16 (byt k) := (Has.new W 28 16 (byt k)).alloc _
  have hx0 : Has ((W.alloc (.cells (rowF 16 (byt k)) 28)).alloc (.cells (rowF 16 (byt x)) 28)) (W.heap.size + 1) 28 16 (byt x) := by
    have := Has.new (W.alloc (.cells (rowF 16 (byt k)) 28)) 28 16 (byt x)
    simpa using this
  go_enter Try.func7, Try.ntmps7
  go_wp2_with (first | (refine wpList_load_has rfl 28 (.tmp 2) rfl _ rfl h0 5 und28 info28 ?_) | (go_at_call 20; refine (new_any k _).mono ?_; rintro e w1 ⟨rfl, hb1, hs1, hn1⟩) | (go_at_call 16; refine (shown_any _).mono ?_; rintro e w2 ⟨rfl, hb2⟩; have hS : LkS W w2 k x (W.heap.size + 1 + 1 + 1) := LkS.below ⟨(((Below.refl _ _).alloc (Nat.le_refl _) _).alloc (by simp) _).trans (hb1.mono (by simp; omega)), h0.below hb1 h0.lt, hx0.below hb1 hx0.lt, ⟨_, by simpa using hn1, .inl (fresh_new k)⟩, by omega⟩ hb2) | (refine wpList_load_has rfl 28 (.tmp 3) rfl _ rfl hS.hx 5 und28 info28 ?_) | (go_at_call 24; refine (lock_any k x _ _ hS.hc).mono ?_; rintro e w4 ⟨rfl, hb4, hw4⟩; have hS4 := hS.but hb4 hw4) | (refine wpList_at rfl (fun K hK => wp_alloc_gen 28 rfl 16 (byt fun _ => 0) zeroRow28 ?_); rintro t w5 hge hb5 hz5; refine hK _ _ ?_; clear hK K; simp only [Act.put, List.setIfInBounds_toArray, List.set_cons_zero, List.set_cons_succ]; have hS5 := hS4.below hb5; have hct : W.heap.size + 1 + 1 + 1 < t := Nat.lt_of_lt_of_le hS4.hc.lt hge) | (refine wpList_store_has rfl 28 (.tmp 6) (.tmp 17) rfl _ rfl hz5 _ rfl info28 ?_))
  have hS6 : LkS W (w5.setRow t (rowF 16 (byt (lockF k x)))).drew k x (W.heap.size + 1 + 1 + 1) := (hS5.store (by omega) (by omega)).drew
  have hT6 : Has (w5.setRow t (rowF 16 (byt (lockF k x)))).drew t 28 16 (byt (lockF k x)) := (hz5.setRow _).drew
  clear h0 hx0 hb1 hs1 hn1 hb2 hS hb4 hw4 hS4 hge hb5 hz5 hS5
  obtain ⟨c, hc⟩ : ∃ c, c = W.heap.size + 1 + 1 + 1 := ⟨_, rfl⟩
  rw [← hc] at hS6 hct ⊢
  clear hc
  refine wp_region_quiet (C := fun w' => LkS W w' k x c ∧ Has w' t 28 16 (byt (lockF k x))) (by kernel_rfl) (by kernel_rfl) ⟨hS6, hT6⟩ ?_
  clear hS6 hT6
  simp only
  refine wpQ_at rfl (fun K hK => ?_)
  refine q_load 28 (.tmp 6) rfl t 0 rfl (fun w hw => hw.2) 16 5 (by omega) und28 info28 (.agg (rowF 16 (byt (lockF k x)))) (by simp only [Nat.zero_add]) ?_
  refine hK _ ?_
  clear hK K
  simp only [Act.put, List.setIfInBounds_toArray, List.set_cons_zero, List.set_cons_succ]
  refine wpQ_at rfl (fun K hK => ?_)
  refine q_load 28 (.tmp 2) rfl W.heap.size 0 rfl (fun w hw => hw.1.hk) 16 5 (by omega) und28 info28 (.agg (rowF 16 (byt k))) (by simp only [Nat.zero_add]) ?_
  refine hK _ ?_
  clear hK K
  simp only [Act.put, List.setIfInBounds_toArray, List.set_cons_zero, List.set_cons_succ]
  refine wpQ_at rfl (fun K hK => ?_)
  refine q_load 28 (.tmp 3) rfl (W.heap.size + 1) 0 rfl (fun w hw => hw.1.hx) 16 5 (by omega) und28 info28 (.agg (rowF 16 (byt x))) (by simp only [Nat.zero_add]) ?_
  refine hK _ ?_
  clear hK K
  simp only [Act.put, List.setIfInBounds_toArray, List.set_cons_zero, List.set_cons_succ]
  refine wpQ_at rfl (fun K hK => ?_)
  refine q_call 25 _ _ rfl Try.call25 #[(.agg (rowF 16 (byt k))), (.agg (rowF 16 (byt x)))] (by kernel_rfl) (.agg (rowF 16 (byt (lockF k x)))) (fun w hw => (refLock_any k x w).mono (by rintro e w' ⟨rfl, hb⟩; exact ⟨rfl, hw.1.below hb, hw.2.below hb hw.2.lt⟩)) ?_
  refine hK _ ?_
  clear hK K
  simp only [Act.put, List.setIfInBounds_toArray, List.set_cons_zero, List.set_cons_succ]
  refine wpQ_at rfl (fun K hK => ?_)
  refine q_bin .eql 28 (.tmp 18) (.tmp 21) 28 rfl (.agg (rowF 16 (byt (lockF k x)))) (.agg (rowF 16 (byt (lockF k x)))) (.bool true) rfl rfl (fun w => run_eqGuard_agg w _ _ _ _ _ _ guard28) (fun w => eql_same _ w) ?_
  refine hK _ ?_
  clear hK K
  simp only [Act.put, List.setIfInBounds_toArray, List.set_cons_zero, List.set_cons_succ]
  refine wpQ_at rfl (fun K hK => ?_)
  refine q_move (.tmp 22) rfl (.bool true) rfl ?_
  refine hK _ ?_
  clear hK K
  simp only [Act.put, List.setIfInBounds_toArray, List.set_cons_zero, List.set_cons_succ]
  refine wpQ_at rfl (fun K hK => ?_)
  refine q_move (.tmp 5) rfl (.pointer (some ⟨c, 0, none⟩)) rfl ?_
  refine hK _ ?_
  clear hK K
  simp only [Act.put, List.setIfInBounds_toArray, List.set_cons_zero, List.set_cons_succ]
  refine wpQ_at rfl (fun K hK => ?_)
  refine q_load 28 (.tmp 6) rfl t 0 rfl (fun w hw => hw.2) 16 5 (by omega) und28 info28 (.agg (rowF 16 (byt (lockF k x)))) (by simp only [Nat.zero_add]) ?_
  refine hK _ ?_
  clear hK K
  simp only [Act.put, List.setIfInBounds_toArray, List.set_cons_zero, List.set_cons_succ]
  refine wpQ_at rfl (fun K hK => ?_)
  refine q_call 26 _ _ rfl Try.call26 #[(.pointer (some ⟨c, 0, none⟩)), (.agg (rowF 16 (byt (lockF k x))))] (by kernel_rfl) (.agg (rowF 16 (byt (openF k (lockF k x))))) (fun w hw => (open_any k (lockF k x) c w hw.1.hc).mono (by rintro e w' ⟨rfl, hb, hk⟩; exact ⟨rfl, hw.1.but hb hk, hw.2.but hb (by omega)⟩)) ?_
  refine hK _ ?_
  clear hK K
  simp only [Act.put, List.setIfInBounds_toArray, List.set_cons_zero, List.set_cons_succ]
  refine wpQ_at rfl (fun K hK => ?_)
  refine q_load 28 (.tmp 3) rfl (W.heap.size + 1) 0 rfl (fun w hw => hw.1.hx) 16 5 (by omega) und28 info28 (.agg (rowF 16 (byt x))) (by simp only [Nat.zero_add]) ?_
  refine hK _ ?_
  clear hK K
  simp only [Act.put, List.setIfInBounds_toArray, List.set_cons_zero, List.set_cons_succ]
  refine wpQ_at rfl (fun K hK => ?_)
  refine q_bin .eql 28 (.tmp 26) (.tmp 27) 28 rfl (.agg (rowF 16 (byt (openF k (lockF k x))))) (.agg (rowF 16 (byt x))) (.bool true) rfl rfl (fun w => run_eqGuard_agg w _ _ _ _ _ _ guard28) (fun w => eql_eq16 (open_lock k x) w) ?_
  refine hK _ ?_
  clear hK K
  simp only [Act.put, List.setIfInBounds_toArray, List.set_cons_zero, List.set_cons_succ]
  refine wpQ_at rfl (fun K hK => ?_)
  refine q_pick (.tmp 23) (.tmp 28) (.const (.bool false)) rfl true rfl (.bool true) rfl ?_
  refine hK _ ?_
  clear hK K
  simp only [Act.put, List.setIfInBounds_toArray, List.set_cons_zero, List.set_cons_succ]
  refine wpQ_at rfl (fun K hK => ?_)
  refine q_move (.tmp 29) rfl (.bool true) rfl ?_
  refine hK _ ?_
  clear hK K
  simp only [Act.put, List.setIfInBounds_toArray, List.set_cons_zero, List.set_cons_succ]
  refine wpQ_at rfl (fun K hK => ?_)
  refine q_move (.tmp 5) rfl (.pointer (some ⟨c, 0, none⟩)) rfl ?_
  refine hK _ ?_
  clear hK K
  simp only [Act.put, List.setIfInBounds_toArray, List.set_cons_zero, List.set_cons_succ]
  refine wpQ_at rfl (fun K hK => ?_)
  refine q_move (.tmp 5) rfl (.pointer (some ⟨c, 0, none⟩)) rfl ?_
  refine hK _ ?_
  clear hK K
  simp only [Act.put, List.setIfInBounds_toArray, List.set_cons_zero, List.set_cons_succ]
  refine wpQ_at rfl (fun K hK => ?_)
  refine q_load 28 (.tmp 3) rfl (W.heap.size + 1) 0 rfl (fun w hw => hw.1.hx) 16 5 (by omega) und28 info28 (.agg (rowF 16 (byt x))) (by simp only [Nat.zero_add]) ?_
  refine hK _ ?_
  clear hK K
  simp only [Act.put, List.setIfInBounds_toArray, List.set_cons_zero, List.set_cons_succ]
  refine wpQ_at rfl (fun K hK => ?_)
  refine q_call 26 _ _ rfl Try.call26 #[(.pointer (some ⟨c, 0, none⟩)), (.agg (rowF 16 (byt x)))] (by kernel_rfl) (.agg (rowF 16 (byt (openF k x)))) (fun w hw => (open_any k x c w hw.1.hc).mono (by rintro e w' ⟨rfl, hb, hk⟩; exact ⟨rfl, hw.1.but hb hk, hw.2.but hb (by omega)⟩)) ?_
  refine hK _ ?_
  clear hK K
  simp only [Act.put, List.setIfInBounds_toArray, List.set_cons_zero, List.set_cons_succ]
  refine wpQ_at rfl (fun K hK => ?_)
  refine q_call 24 _ _ rfl Try.call24 #[(.pointer (some ⟨c, 0, none⟩)), (.agg (rowF 16 (byt (openF k x))))] (by kernel_rfl) (.agg (rowF 16 (byt (lockF k (openF k x))))) (fun w hw => (lock_any k (openF k x) c w hw.1.hc).mono (by rintro e w' ⟨rfl, hb, hk⟩; exact ⟨rfl, hw.1.but hb hk, hw.2.but hb (by omega)⟩)) ?_
  refine hK _ ?_
  clear hK K
  simp only [Act.put, List.setIfInBounds_toArray, List.set_cons_zero, List.set_cons_succ]
  refine wpQ_at rfl (fun K hK => ?_)
  refine q_load 28 (.tmp 3) rfl (W.heap.size + 1) 0 rfl (fun w hw => hw.1.hx) 16 5 (by omega) und28 info28 (.agg (rowF 16 (byt x))) (by simp only [Nat.zero_add]) ?_
  refine hK _ ?_
  clear hK K
  simp only [Act.put, List.setIfInBounds_toArray, List.set_cons_zero, List.set_cons_succ]
  refine wpQ_at rfl (fun K hK => ?_)
  refine q_bin .eql 28 (.tmp 35) (.tmp 36) 28 rfl (.agg (rowF 16 (byt (lockF k (openF k x))))) (.agg (rowF 16 (byt x))) (.bool true) rfl rfl (fun w => run_eqGuard_agg w _ _ _ _ _ _ guard28) (fun w => eql_eq16 (lock_open k x) w) ?_
  refine hK _ ?_
  clear hK K
  simp only [Act.put, List.setIfInBounds_toArray, List.set_cons_zero, List.set_cons_succ]
  refine wpQ_at rfl (fun K hK => ?_)
  refine q_pick (.tmp 30) (.tmp 37) (.const (.bool false)) rfl true rfl (.bool true) rfl ?_
  refine hK _ ?_
  clear hK K
  simp only [Act.put, List.setIfInBounds_toArray, List.set_cons_zero, List.set_cons_succ]
  refine wpQ_at rfl (fun K hK => ?_)
  refine q_assign (.tmp 38) rfl (.bool true) rfl ?_
  refine hK _ ?_
  clear hK K
  simp only [Act.put, List.setIfInBounds_toArray, List.set_cons_zero, List.set_cons_succ]
  refine wpQuiet_nil ?_
  intro w6 hC
  obtain ⟨hS6, _⟩ := hC
  go_wp2_with fail
  go_ret
  exact ⟨rfl, hS6.bel⟩

end Go.Proofs.Ytjmeiloklhbllaa
