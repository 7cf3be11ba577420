/- The walk of the law AesOnce: it answers true, whatever the key and the blocks. -/
import Derived.Test.YtjmeiloklhbllaaAesLocks
namespace Go.Proofs.Ytjmeiloklhbllaa
open Go.RowKit

theorem Eq16.lk {s t : Nat → UInt8} (h : Eq16 s t) (k : Nat → UInt8) : ∀ i, Eq16 (Ytjmeiloklhbllaa.lk k s i) (Ytjmeiloklhbllaa.lk k t i)
  | 0 => h.mix _
  | i + 1 => by
    unfold Ytjmeiloklhbllaa.lk
    split
    · exact (((h.lk k i).sub).col _).mix _
    · exact ((h.lk k i).sub).mix _
theorem Eq16.op {s t : Nat → UInt8} (h : Eq16 s t) (k : Nat → UInt8) : ∀ i, Eq16 (Ytjmeiloklhbllaa.op k s i) (Ytjmeiloklhbllaa.op k t i)
  | 0 => h
  | i + 1 => (h.op k i).step _
theorem Eq16.symm {s t : Nat → UInt8} (h : Eq16 s t) : Eq16 t s := fun j hj => (h j hj).symm
theorem Eq16.lock {s t : Nat → UInt8} (h : Eq16 s t) (k : Nat → UInt8) : Eq16 (lockF k s) (lockF k t) := h.lk k 10
theorem Eq16.opened {s t : Nat → UInt8} (h : Eq16 s t) (k : Nat → UInt8) : Eq16 (openF k s) (openF k t) := (h.op k 10).mix _
theorem eqF_lock (k x y : Nat → UInt8) : eqF 16 (lockF k x) (lockF k y) = eqF 16 x y :=
  Bool.eq_iff_iff.2 ⟨fun h => (eqF_iff 16 _ _).2 ((open_lock k x).symm.trans ((Eq16.opened ((eqF_iff 16 _ _).1 h) k).trans (open_lock k y))), fun h => (eqF_iff 16 _ _).2 (Eq16.lock ((eqF_iff 16 _ _).1 h) k)⟩
theorem eqF_open (k x y : Nat → UInt8) : eqF 16 (openF k x) (openF k y) = eqF 16 x y :=
  Bool.eq_iff_iff.2 ⟨fun h => (eqF_iff 16 _ _).2 ((lock_open k x).symm.trans ((Eq16.lock ((eqF_iff 16 _ _).1 h) k).trans (lock_open k y))), fun h => (eqF_iff 16 _ _).2 (Eq16.opened ((eqF_iff 16 _ _).1 h) k)⟩
theorem und4 : Try.prog.underlying 4 = some .bool := by kernel_rfl
theorem eql_bool (p : Bool) (w : World) : (binOp .eql 4 (.bool p) (.bool p)).run Try.prog w = .ok (.bool true) w := by
  simp only [binOp]
  simp only [Op.equal, Op.maxDepth, Sem.run_bind, run_equalIn_bool' (P := Try.prog) w 9999 4 p p und4, Result.andThen_ok, Sem.run_pure, beq_self_eq_true]
theorem guard_bool (p : Bool) (a b : Operand) (w : World) : (eqGuard .eql 4 a b (.bool p) (.bool p)).run Try.prog w = .ok () w := by cases p <;> (unfold eqGuard; rfl)
structure OnS (W w : World) (k x y : Nat → UInt8) (c d : Nat) : Prop where
  bel : Below W.heap.size W w
  hx : Has w (W.heap.size + 1) 28 16 (byt x)
  hy : Has w (W.heap.size + 1 + 1) 28 16 (byt y)
  hc : Ciph k c w
  hd : Ciph k d w
  lo : W.heap.size + 1 + 1 < c
  lt : c < d
theorem OnS.drew {W w : World} {k x y : Nat → UInt8} {c d : Nat} (h : OnS W w k x y c d) : OnS W w.drew k x y c d := ⟨h.bel.drew, h.hx.drew, h.hy.drew, h.hc.of_block rfl, h.hd.of_block rfl, h.lo, h.lt⟩
theorem OnS.below {W w w' : World} {k x y : Nat → UInt8} {c d : Nat} (h : OnS W w k x y c d) (hb : Below w.heap.size w w') : OnS W w' k x y c d :=
  ⟨h.bel.trans (hb.mono h.bel.size), h.hx.below hb h.hx.lt, h.hy.below hb h.hy.lt, h.hc.of_block (hb.block _ h.hc.lt), h.hd.of_block (hb.block _ h.hd.lt), h.lo, h.lt⟩
theorem OnS.butC {W w w' : World} {k x y : Nat → UInt8} {c d : Nat} (h : OnS W w k x y c d) (hb : ButOne c w w') (hw : Work k c w') : OnS W w' k x y c d :=
  have h1 := h.lo
  have h2 := h.lt
  ⟨h.bel.trans (hb.to_below h.bel.size (by omega)), h.hx.but hb (by omega), h.hy.but hb (by omega), hw.ciph, h.hd.of_block (hb.block _ h.hd.lt (by omega)), h.lo, h.lt⟩
theorem OnS.butD {W w w' : World} {k x y : Nat → UInt8} {c d : Nat} (h : OnS W w k x y c d) (hb : ButOne d w w') (hw : Work k d w') : OnS W w' k x y c d :=
  have h1 := h.lo
  have h2 := h.lt
  ⟨h.bel.trans (hb.to_below h.bel.size (by omega)), h.hx.but hb (by omega), h.hy.but hb (by omega), h.hc.of_block (hb.block _ h.hc.lt (by omega)), hw.ciph, h.lo, h.lt⟩
theorem three (W : World) (k x y : Nat → UInt8) : Below W.heap.size W (((W.alloc (.cells (rowF 16 (byt k)) 28)).alloc (.cells (rowF 16 (byt x)) 28)).alloc (.cells (rowF 16 (byt y)) 28)) ∧ Has (((W.alloc (.cells (rowF 16 (byt k)) 28)).alloc (.cells (rowF 16 (byt x)) 28)).alloc (.cells (rowF 16 (byt y)) 28)) W.heap.size 28 16 (byt k) ∧ Has (((W.alloc (.cells (rowF 16 (byt k)) 28)).alloc (.cells (rowF 16 (byt x)) 28)).alloc (.cells (rowF 16 (byt y)) 28)) (W.heap.size + 1) 28 16 (byt x) ∧ Has (((W.alloc (.cells (rowF 16 (byt k)) 28)).alloc (.cells (rowF 16 (byt x)) 28)).alloc (.cells (rowF 16 (byt y)) 28)) (W.heap.size + 1 + 1) 28 16 (byt y) :=
  ⟨(((Below.refl _ _).alloc (Nat.le_refl _) _).alloc (by simp) _).alloc (by simp; omega) _, ((Has.new _ _ _ _).alloc _).alloc _, (by have := ((Has.new (W.alloc (.cells (rowF 16 (byt k)) 28)) 28 16 (byt x)).alloc (.cells (rowF 16 (byt y)) 28)); simpa using this), (by have := Has.new ((W.alloc (.cells (rowF 16 (byt k)) 28)).alloc (.cells (rowF 16 (byt x)) 28)) 28 16 (byt y); simpa using this)⟩

set_option maxRecDepth 100000 in
set_option maxHeartbeats 4000000 in
theorem once_any (k x y : Nat → UInt8) (W : World) :
    Calls Try.prog 8 #[.agg (rowF 16 (byt k)), .agg (rowF 16 (byt x)), .agg (rowF 16 (byt y))] W fun e w' => e = .returned (.bool true) ∧ Below W.heap.size W w' := by
  have hnot : ∀ (x : Bool) (w : World), (Op.unary .not (.bool x)).run Try.prog w = .ok (.bool (!x)) w := fun _ _ => rfl
  obtain ⟨hB, hK, hX, hY⟩ := three W k x y
  go_enter Try.func8, Try.ntmps8
  go_wp2_with (first
    | (refine wpList_load_has rfl 28 (.tmp 3) rfl _ rfl hK1 5 und28 info28 ?_)
    | (refine wpList_load_has rfl 28 (.tmp 3) rfl _ rfl hK 5 und28 info28 ?_)
    | (have _q := hK1; go_at_call 20; refine (new_any k _).mono ?_; rintro e w2 ⟨rfl, hb2, hs2, hn2⟩)
    | (go_at_call 20; refine (new_any k _).mono ?_; rintro e w1 ⟨rfl, hb1, hs1, hn1⟩; have hK1 := hK.below hb1 hK.lt)
    | (go_at_call 16; refine (shown_any _).mono ?_; rintro e w3 ⟨rfl, hb3⟩; have hC1 : Ciph k (W.heap.size + 1 + 1 + 1 + 1) w1 := ⟨_, by simpa using hn1, .inl (fresh_new k)⟩; have hS3 : OnS W w3 k x y (W.heap.size + 1 + 1 + 1 + 1) (w1.heap.size + 1) := OnS.below ⟨(hB.trans (hb1.mono (by simp; omega))).trans (hb2.mono (by have := hX.lt; have := hb1.size; omega)), (hX.below hb1 hX.lt).below hb2 (hX.below hb1 hX.lt).lt, (hY.below hb1 hY.lt).below hb2 (hY.below hb1 hY.lt).lt, hC1.of_block (hb2.block _ hC1.lt), ⟨_, hn2, .inl (fresh_new k)⟩, by omega, by have := hC1.lt; omega⟩ hb3)
    | (refine wpList_load_has rfl 28 (.tmp 5) rfl _ rfl hS3.hy 5 und28 info28 ?_)
    | (go_at_call 26; refine (open_any k y _ _ hS3.hc).mono ?_; rintro e w4 ⟨rfl, hb4, hw4⟩; have hS4 := hS3.butC hb4 hw4))
  clear hB hK hX hY hK1 hb1 hn1 hb2 hs2 hn2 hb3 hC1 hS3 hb4 hw4
  rw [show w1.heap.size + 1 = W.heap.size + 1 + 1 + 1 + 2 + 1 by have := hs1; simp at this; omega] at hS4
  generalize W.heap.size + 1 + 1 + 1 + 2 + 1 = d at hS4 ⊢
  obtain ⟨c, hc⟩ : ∃ c, c = W.heap.size + 1 + 1 + 1 + 1 := ⟨_, rfl⟩
  rw [← hc] at hS4 ⊢
  clear hc
  refine wp_region_quiet (C := fun w' => OnS W w' k x y c d) (by kernel_rfl) (by kernel_rfl) hS4.drew ?_
  clear hS4 hs1
  simp only
  refine wpQ_at rfl (fun K hK => ?_)
  refine q_move (.tmp 7) rfl (.pointer (some ⟨c, 0, none⟩)) rfl ?_
  refine hK _ ?_
  clear hK K
  simp only [Act.put, List.setIfInBounds_toArray, List.set_cons_zero, List.set_cons_succ]
  refine wpQ_at rfl (fun K hK => ?_)
  refine q_load 28 (.tmp 4) rfl (W.heap.size + 1) 0 rfl (fun w hw => hw.hx) 16 5 (by omega) und28 info28 (.agg (rowF 16 (byt x))) (by simp only [Nat.zero_add]) ?_
  refine hK _ ?_
  clear hK K
  simp only [Act.put, List.setIfInBounds_toArray, List.set_cons_zero, List.set_cons_succ]
  refine wpQ_at rfl (fun K hK => ?_)
  refine q_call 24 _ _ rfl Try.call24 #[(.pointer (some ⟨c, 0, none⟩)), (.agg (rowF 16 (byt x)))] (by kernel_rfl) (.agg (rowF 16 (byt (lockF k x)))) (fun w hw => (lock_any k x c w hw.hc).mono (by rintro e w' ⟨rfl, hb, hk⟩; exact ⟨rfl, hw.butC hb hk⟩)) ?_
  refine hK _ ?_
  clear hK K
  simp only [Act.put, List.setIfInBounds_toArray, List.set_cons_zero, List.set_cons_succ]
  refine wpQ_at rfl (fun K hK => ?_)
  refine q_move (.tmp 8) rfl (.pointer (some ⟨d, 0, none⟩)) rfl ?_
  refine hK _ ?_
  clear hK K
  simp only [Act.put, List.setIfInBounds_toArray, List.set_cons_zero, List.set_cons_succ]
  refine wpQ_at rfl (fun K hK => ?_)
  refine q_load 28 (.tmp 4) rfl (W.heap.size + 1) 0 rfl (fun w hw => hw.hx) 16 5 (by omega) und28 info28 (.agg (rowF 16 (byt x))) (by simp only [Nat.zero_add]) ?_
  refine hK _ ?_
  clear hK K
  simp only [Act.put, List.setIfInBounds_toArray, List.set_cons_zero, List.set_cons_succ]
  refine wpQ_at rfl (fun K hK => ?_)
  refine q_call 24 _ _ rfl Try.call24 #[(.pointer (some ⟨d, 0, none⟩)), (.agg (rowF 16 (byt x)))] (by kernel_rfl) (.agg (rowF 16 (byt (lockF k x)))) (fun w hw => (lock_any k x d w hw.hd).mono (by rintro e w' ⟨rfl, hb, hk⟩; exact ⟨rfl, hw.butD hb hk⟩)) ?_
  refine hK _ ?_
  clear hK K
  simp only [Act.put, List.setIfInBounds_toArray, List.set_cons_zero, List.set_cons_succ]
  refine wpQ_at rfl (fun K hK => ?_)
  refine q_bin .eql 28 (.tmp 28) (.tmp 31) 28 rfl (.agg (rowF 16 (byt (lockF k x)))) (.agg (rowF 16 (byt (lockF k x)))) (.bool true) rfl rfl (fun w => run_eqGuard_agg w _ _ _ _ _ _ guard28) (fun w => eql_same _ w) ?_
  refine hK _ ?_
  clear hK K
  simp only [Act.put, List.setIfInBounds_toArray, List.set_cons_zero, List.set_cons_succ]
  refine wpQ_at rfl (fun K hK => ?_)
  refine q_move (.tmp 32) rfl (.bool true) rfl ?_
  refine hK _ ?_
  clear hK K
  simp only [Act.put, List.setIfInBounds_toArray, List.set_cons_zero, List.set_cons_succ]
  refine wpQ_at rfl (fun K hK => ?_)
  refine q_move (.tmp 7) rfl (.pointer (some ⟨c, 0, none⟩)) rfl ?_
  refine hK _ ?_
  clear hK K
  simp only [Act.put, List.setIfInBounds_toArray, List.set_cons_zero, List.set_cons_succ]
  refine wpQ_at rfl (fun K hK => ?_)
  refine q_load 28 (.tmp 5) rfl (W.heap.size + 1 + 1) 0 rfl (fun w hw => hw.hy) 16 5 (by omega) und28 info28 (.agg (rowF 16 (byt y))) (by simp only [Nat.zero_add]) ?_
  refine hK _ ?_
  clear hK K
  simp only [Act.put, List.setIfInBounds_toArray, List.set_cons_zero, List.set_cons_succ]
  refine wpQ_at rfl (fun K hK => ?_)
  refine q_call 26 _ _ rfl Try.call26 #[(.pointer (some ⟨c, 0, none⟩)), (.agg (rowF 16 (byt y)))] (by kernel_rfl) (.agg (rowF 16 (byt (openF k y)))) (fun w hw => (open_any k y c w hw.hc).mono (by rintro e w' ⟨rfl, hb, hk⟩; exact ⟨rfl, hw.butC hb hk⟩)) ?_
  refine hK _ ?_
  clear hK K
  simp only [Act.put, List.setIfInBounds_toArray, List.set_cons_zero, List.set_cons_succ]
  refine wpQ_at rfl (fun K hK => ?_)
  refine q_move (.tmp 8) rfl (.pointer (some ⟨d, 0, none⟩)) rfl ?_
  refine hK _ ?_
  clear hK K
  simp only [Act.put, List.setIfInBounds_toArray, List.set_cons_zero, List.set_cons_succ]
  refine wpQ_at rfl (fun K hK => ?_)
  refine q_load 28 (.tmp 5) rfl (W.heap.size + 1 + 1) 0 rfl (fun w hw => hw.hy) 16 5 (by omega) und28 info28 (.agg (rowF 16 (byt y))) (by simp only [Nat.zero_add]) ?_
  refine hK _ ?_
  clear hK K
  simp only [Act.put, List.setIfInBounds_toArray, List.set_cons_zero, List.set_cons_succ]
  refine wpQ_at rfl (fun K hK => ?_)
  refine q_call 26 _ _ rfl Try.call26 #[(.pointer (some ⟨d, 0, none⟩)), (.agg (rowF 16 (byt y)))] (by kernel_rfl) (.agg (rowF 16 (byt (openF k y)))) (fun w hw => (open_any k y d w hw.hd).mono (by rintro e w' ⟨rfl, hb, hk⟩; exact ⟨rfl, hw.butD hb hk⟩)) ?_
  refine hK _ ?_
  clear hK K
  simp only [Act.put, List.setIfInBounds_toArray, List.set_cons_zero, List.set_cons_succ]
  refine wpQ_at rfl (fun K hK => ?_)
  refine q_bin .eql 28 (.tmp 36) (.tmp 39) 28 rfl (.agg (rowF 16 (byt (openF k y)))) (.agg (rowF 16 (byt (openF k y)))) (.bool true) rfl rfl (fun w => run_eqGuard_agg w _ _ _ _ _ _ guard28) (fun w => eql_same _ w) ?_
  refine hK _ ?_
  clear hK K
  simp only [Act.put, List.setIfInBounds_toArray, List.set_cons_zero, List.set_cons_succ]
  refine wpQ_at rfl (fun K hK => ?_)
  refine q_pick (.tmp 33) (.tmp 40) (.const (.bool false)) rfl true rfl (.bool true) rfl ?_
  refine hK _ ?_
  clear hK K
  simp only [Act.put, List.setIfInBounds_toArray, List.set_cons_zero, List.set_cons_succ]
  refine wpQ_at rfl (fun K hK => ?_)
  refine q_move (.tmp 41) rfl (.bool true) rfl ?_
  refine hK _ ?_
  clear hK K
  simp only [Act.put, List.setIfInBounds_toArray, List.set_cons_zero, List.set_cons_succ]
  refine wpQ_at rfl (fun K hK => ?_)
  refine q_move (.tmp 7) rfl (.pointer (some ⟨c, 0, none⟩)) rfl ?_
  refine hK _ ?_
  clear hK K
  simp only [Act.put, List.setIfInBounds_toArray, List.set_cons_zero, List.set_cons_succ]
  refine wpQ_at rfl (fun K hK => ?_)
  refine q_load 28 (.tmp 4) rfl (W.heap.size + 1) 0 rfl (fun w hw => hw.hx) 16 5 (by omega) und28 info28 (.agg (rowF 16 (byt x))) (by simp only [Nat.zero_add]) ?_
  refine hK _ ?_
  clear hK K
  simp only [Act.put, List.setIfInBounds_toArray, List.set_cons_zero, List.set_cons_succ]
  refine wpQ_at rfl (fun K hK => ?_)
  refine q_call 24 _ _ rfl Try.call24 #[(.pointer (some ⟨c, 0, none⟩)), (.agg (rowF 16 (byt x)))] (by kernel_rfl) (.agg (rowF 16 (byt (lockF k x)))) (fun w hw => (lock_any k x c w hw.hc).mono (by rintro e w' ⟨rfl, hb, hk⟩; exact ⟨rfl, hw.butC hb hk⟩)) ?_
  refine hK _ ?_
  clear hK K
  simp only [Act.put, List.setIfInBounds_toArray, List.set_cons_zero, List.set_cons_succ]
  refine wpQ_at rfl (fun K hK => ?_)
  refine q_move (.tmp 7) rfl (.pointer (some ⟨c, 0, none⟩)) rfl ?_
  refine hK _ ?_
  clear hK K
  simp only [Act.put, List.setIfInBounds_toArray, List.set_cons_zero, List.set_cons_succ]
  refine wpQ_at rfl (fun K hK => ?_)
  refine q_load 28 (.tmp 5) rfl (W.heap.size + 1 + 1) 0 rfl (fun w hw => hw.hy) 16 5 (by omega) und28 info28 (.agg (rowF 16 (byt y))) (by simp only [Nat.zero_add]) ?_
  refine hK _ ?_
  clear hK K
  simp only [Act.put, List.setIfInBounds_toArray, List.set_cons_zero, List.set_cons_succ]
  refine wpQ_at rfl (fun K hK => ?_)
  refine q_call 24 _ _ rfl Try.call24 #[(.pointer (some ⟨c, 0, none⟩)), (.agg (rowF 16 (byt y)))] (by kernel_rfl) (.agg (rowF 16 (byt (lockF k y)))) (fun w hw => (lock_any k y c w hw.hc).mono (by rintro e w' ⟨rfl, hb, hk⟩; exact ⟨rfl, hw.butC hb hk⟩)) ?_
  refine hK _ ?_
  clear hK K
  simp only [Act.put, List.setIfInBounds_toArray, List.set_cons_zero, List.set_cons_succ]
  refine wpQ_at rfl (fun K hK => ?_)
  refine q_bin .eql 28 (.tmp 45) (.tmp 48) 28 rfl (.agg (rowF 16 (byt (lockF k x)))) (.agg (rowF 16 (byt (lockF k y)))) (.bool (eqF 16 x y)) rfl rfl (fun w => run_eqGuard_agg w _ _ _ _ _ _ guard28) (fun w => by rw [eql28, eqF_lock]) ?_
  refine hK _ ?_
  clear hK K
  simp only [Act.put, List.setIfInBounds_toArray, List.set_cons_zero, List.set_cons_succ]
  refine wpQ_at rfl (fun K hK => ?_)
  refine q_load 28 (.tmp 4) rfl (W.heap.size + 1) 0 rfl (fun w hw => hw.hx) 16 5 (by omega) und28 info28 (.agg (rowF 16 (byt x))) (by simp only [Nat.zero_add]) ?_
  refine hK _ ?_
  clear hK K
  simp only [Act.put, List.setIfInBounds_toArray, List.set_cons_zero, List.set_cons_succ]
  refine wpQ_at rfl (fun K hK => ?_)
  refine q_load 28 (.tmp 5) rfl (W.heap.size + 1 + 1) 0 rfl (fun w hw => hw.hy) 16 5 (by omega) und28 info28 (.agg (rowF 16 (byt y))) (by simp only [Nat.zero_add]) ?_
  refine hK _ ?_
  clear hK K
  simp only [Act.put, List.setIfInBounds_toArray, List.set_cons_zero, List.set_cons_succ]
  refine wpQ_at rfl (fun K hK => ?_)
  refine q_bin .eql 28 (.tmp 50) (.tmp 51) 28 rfl (.agg (rowF 16 (byt x))) (.agg (rowF 16 (byt y))) (.bool (eqF 16 x y)) rfl rfl (fun w => run_eqGuard_agg w _ _ _ _ _ _ guard28) (fun w => by rw [eql28]) ?_
  refine hK _ ?_
  clear hK K
  simp only [Act.put, List.setIfInBounds_toArray, List.set_cons_zero, List.set_cons_succ]
  refine wpQ_at rfl (fun K hK => ?_)
  refine q_bin .eql 4 (.tmp 49) (.tmp 52) 4 rfl (.bool (eqF 16 x y)) (.bool (eqF 16 x y)) (.bool true) rfl rfl (fun w => guard_bool _ _ _ w) (fun w => eql_bool _ w) ?_
  refine hK _ ?_
  clear hK K
  simp only [Act.put, List.setIfInBounds_toArray, List.set_cons_zero, List.set_cons_succ]
  refine wpQ_at rfl (fun K hK => ?_)
  refine q_pick (.tmp 42) (.tmp 53) (.const (.bool false)) rfl true rfl (.bool true) rfl ?_
  refine hK _ ?_
  clear hK K
  simp only [Act.put, List.setIfInBounds_toArray, List.set_cons_zero, List.set_cons_succ]
  refine wpQ_at rfl (fun K hK => ?_)
  refine q_move (.tmp 54) rfl (.bool true) rfl ?_
  refine hK _ ?_
  clear hK K
  simp only [Act.put, List.setIfInBounds_toArray, List.set_cons_zero, List.set_cons_succ]
  refine wpQ_at rfl (fun K hK => ?_)
  refine q_move (.tmp 7) rfl (.pointer (some ⟨c, 0, none⟩)) rfl ?_
  refine hK _ ?_
  clear hK K
  simp only [Act.put, List.setIfInBounds_toArray, List.set_cons_zero, List.set_cons_succ]
  refine wpQ_at rfl (fun K hK => ?_)
  refine q_load 28 (.tmp 4) rfl (W.heap.size + 1) 0 rfl (fun w hw => hw.hx) 16 5 (by omega) und28 info28 (.agg (rowF 16 (byt x))) (by simp only [Nat.zero_add]) ?_
  refine hK _ ?_
  clear hK K
  simp only [Act.put, List.setIfInBounds_toArray, List.set_cons_zero, List.set_cons_succ]
  refine wpQ_at rfl (fun K hK => ?_)
  refine q_call 26 _ _ rfl Try.call26 #[(.pointer (some ⟨c, 0, none⟩)), (.agg (rowF 16 (byt x)))] (by kernel_rfl) (.agg (rowF 16 (byt (openF k x)))) (fun w hw => (open_any k x c w hw.hc).mono (by rintro e w' ⟨rfl, hb, hk⟩; exact ⟨rfl, hw.butC hb hk⟩)) ?_
  refine hK _ ?_
  clear hK K
  simp only [Act.put, List.setIfInBounds_toArray, List.set_cons_zero, List.set_cons_succ]
  refine wpQ_at rfl (fun K hK => ?_)
  refine q_move (.tmp 7) rfl (.pointer (some ⟨c, 0, none⟩)) rfl ?_
  refine hK _ ?_
  clear hK K
  simp only [Act.put, List.setIfInBounds_toArray, List.set_cons_zero, List.set_cons_succ]
  refine wpQ_at rfl (fun K hK => ?_)
  refine q_load 28 (.tmp 5) rfl (W.heap.size + 1 + 1) 0 rfl (fun w hw => hw.hy) 16 5 (by omega) und28 info28 (.agg (rowF 16 (byt y))) (by simp only [Nat.zero_add]) ?_
  refine hK _ ?_
  clear hK K
  simp only [Act.put, List.setIfInBounds_toArray, List.set_cons_zero, List.set_cons_succ]
  refine wpQ_at rfl (fun K hK => ?_)
  refine q_call 26 _ _ rfl Try.call26 #[(.pointer (some ⟨c, 0, none⟩)), (.agg (rowF 16 (byt y)))] (by kernel_rfl) (.agg (rowF 16 (byt (openF k y)))) (fun w hw => (open_any k y c w hw.hc).mono (by rintro e w' ⟨rfl, hb, hk⟩; exact ⟨rfl, hw.butC hb hk⟩)) ?_
  refine hK _ ?_
  clear hK K
  simp only [Act.put, List.setIfInBounds_toArray, List.set_cons_zero, List.set_cons_succ]
  refine wpQ_at rfl (fun K hK => ?_)
  refine q_bin .eql 28 (.tmp 58) (.tmp 61) 28 rfl (.agg (rowF 16 (byt (openF k x)))) (.agg (rowF 16 (byt (openF k y)))) (.bool (eqF 16 x y)) rfl rfl (fun w => run_eqGuard_agg w _ _ _ _ _ _ guard28) (fun w => by rw [eql28, eqF_open]) ?_
  refine hK _ ?_
  clear hK K
  simp only [Act.put, List.setIfInBounds_toArray, List.set_cons_zero, List.set_cons_succ]
  refine wpQ_at rfl (fun K hK => ?_)
  refine q_load 28 (.tmp 4) rfl (W.heap.size + 1) 0 rfl (fun w hw => hw.hx) 16 5 (by omega) und28 info28 (.agg (rowF 16 (byt x))) (by simp only [Nat.zero_add]) ?_
  refine hK _ ?_
  clear hK K
  simp only [Act.put, List.setIfInBounds_toArray, List.set_cons_zero, List.set_cons_succ]
  refine wpQ_at rfl (fun K hK => ?_)
  refine q_load 28 (.tmp 5) rfl (W.heap.size + 1 + 1) 0 rfl (fun w hw => hw.hy) 16 5 (by omega) und28 info28 (.agg (rowF 16 (byt y))) (by simp only [Nat.zero_add]) ?_
  refine hK _ ?_
  clear hK K
  simp only [Act.put, List.setIfInBounds_toArray, List.set_cons_zero, List.set_cons_succ]
  refine wpQ_at rfl (fun K hK => ?_)
  refine q_bin .eql 28 (.tmp 63) (.tmp 64) 28 rfl (.agg (rowF 16 (byt x))) (.agg (rowF 16 (byt y))) (.bool (eqF 16 x y)) rfl rfl (fun w => run_eqGuard_agg w _ _ _ _ _ _ guard28) (fun w => by rw [eql28]) ?_
  refine hK _ ?_
  clear hK K
  simp only [Act.put, List.setIfInBounds_toArray, List.set_cons_zero, List.set_cons_succ]
  refine wpQ_at rfl (fun K hK => ?_)
  refine q_bin .eql 4 (.tmp 62) (.tmp 65) 4 rfl (.bool (eqF 16 x y)) (.bool (eqF 16 x y)) (.bool true) rfl rfl (fun w => guard_bool _ _ _ w) (fun w => eql_bool _ w) ?_
  refine hK _ ?_
  clear hK K
  simp only [Act.put, List.setIfInBounds_toArray, List.set_cons_zero, List.set_cons_succ]
  refine wpQ_at rfl (fun K hK => ?_)
  refine q_pick (.tmp 55) (.tmp 66) (.const (.bool false)) rfl true rfl (.bool true) rfl ?_
  refine hK _ ?_
  clear hK K
  simp only [Act.put, List.setIfInBounds_toArray, List.set_cons_zero, List.set_cons_succ]
  refine wpQ_at rfl (fun K hK => ?_)
  refine q_assign (.tmp 67) rfl (.bool true) rfl ?_
  refine hK _ ?_
  clear hK K
  simp only [Act.put, List.setIfInBounds_toArray, List.set_cons_zero, List.set_cons_succ]
  refine wpQuiet_nil ?_
  intro w6 hC
  go_wp2_with fail
  go_ret
  exact ⟨rfl, hC.bel⟩

end Go.Proofs.Ytjmeiloklhbllaa
