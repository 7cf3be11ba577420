/- The walk of the law CtrBlocks: it answers true, whatever the key, the nonce and the block's number. -/
import Derived.IntWalk
import Derived.Test.YtjmeiloklhbllaaCtrLaw
import Derived.Test.YtjmeiloklhbllaaRefLock
namespace Go.Proofs.Ytjmeiloklhbllaa
open Go.RowKit

theorem sL_last (key : Nat → UInt8) (n i : Nat) : (sL key n (16 * i + 16)).drop (16 * i) = blkL key n i := by
  rw [show 16 * i + 16 = 16 * (i + 1) by omega, sL_block]
  rw [List.drop_left' (sL_length key n (16 * i))]
  rfl
theorem q_class {P : Program} {C : World → Prop} {a : Act} {o : Oper} {K : Act → Prop} (v : Value) (hr : ∀ w, C w → (execOp a.eval o).run P w = .ok (.value v) w) (h : K (a.put o.dst v)) : o.quiet P a C K := by
  refine ⟨v, fun w hw => ?_, h⟩
  unfold Oper.quietAt
  rw [hr w hw]
  exact ⟨rfl, rfl⟩
theorem exec_convert {P : Program} {w : World} {ρ : Operand → Value} {o : Oper} {x : Operand} {s d : TypeId} (ho : o.op = .convert s d x) {u v : Value} (hx : ρ x = u) (hr : (convert s d u).run P w = .ok v w) : (execOp ρ o).run P w = .ok (.value v) w := by
  unfold execOp
  simp only [ho, hx, Sem.run_bind, hr, Result.andThen_ok, Sem.run_pure]

/-- The first m bytes of the nonce are laid. -/
def nonTo (n m : Nat) : Nat → UInt8 := fun j => if j < m ∧ j < 8 then leB n j else 0
theorem nonTo_succ (n m : Nat) (h : m < 8) : upd (nonTo n m) m (leB n m) = nonTo n (m + 1) := by
  funext j
  unfold upd nonTo
  by_cases e : j = m
  · subst e; rw [if_pos rfl, if_pos ⟨by omega, h⟩]
  · rw [if_neg e]
    by_cases h2 : j < m ∧ j < 8
    · rw [if_pos h2, if_pos ⟨by omega, h2.2⟩]
    · rw [if_neg h2, if_neg (by omega)]
/-- The block that is locked. -/
theorem block_eq (n i : Nat) (hi : i < 256) : upd (nonTo n 8) 8 (UInt8.ofNat i) = ofL (leL n 8 ++ leL i 8) := by
  have hl : ∀ n, leL n 8 = [leB n 0, leB n 1, leB n 2, leB n 3, leB n 4, leB n 5, leB n 6, leB n 7] := fun n => rfl
  have hz : ∀ j, 1 ≤ j → leB i j = 0 := fun j hj => by
    unfold leB
    have : 2 ^ 8 ≤ 2 ^ (8 * j) := Nat.pow_le_pow_right (by omega) (by omega)
    rw [Nat.div_eq_of_lt (by omega)]
    rfl
  have h0 : leB i 0 = UInt8.ofNat i := by unfold leB; simp
  funext j
  rw [hl n, hl i, h0, hz 1 (by omega), hz 2 (by omega), hz 3 (by omega), hz 4 (by omega), hz 5 (by omega), hz 6 (by omega), hz 7 (by omega)]
  unfold upd nonTo ofL
  match j with
  | 0 => rfl
  | 1 => rfl
  | 2 => rfl
  | 3 => rfl
  | 4 => rfl
  | 5 => rfl
  | 6 => rfl
  | 7 => rfl
  | 8 => rfl
  | 9 => rfl
  | 10 => rfl
  | 11 => rfl
  | 12 => rfl
  | 13 => rfl
  | 14 => rfl
  | 15 => rfl
  | j + 16 => rw [if_neg (by omega), if_neg (by omega)]; rfl

theorem i64_small (x : Int) (h0 : 0 ≤ x) (h1 : x ≤ 1000000) : IntKind.i64.wrap x = x := IntWalk.i64_in _ (by omega)
/-- The worlds of the law: the key, and the block. -/
structure BkS (W w : World) (k : Nat → UInt8) (c : Nat) (f : Nat → UInt8) : Prop where
  ky : KyS W w k
  hb : Has w c 28 16 (byt f)
  lt : W.heap.size < c

theorem BkS.set {W w : World} {k : Nat → UInt8} {c : Nat} {f : Nat → UInt8} (h : BkS W w k c f) (j : Nat) (u : UInt8) : BkS W (w.setCell ⟨c, j, none⟩ (.int .u8 (u.toNat : Int))) k c (upd f j u) :=
  ⟨⟨Below.setCell h.ky.bel (p := ⟨c, j, none⟩) (by have := h.lt; simp; omega) _, h.ky.hk.setOther _ _ (by have := h.lt; simp; omega)⟩, by have := h.hb.set j (.int .u8 (u.toNat : Int)); rwa [upd_byt] at this, h.lt⟩
theorem BkS.put {W w : World} {k : Nat → UInt8} {c n j : Nat} (h : BkS W w k c (nonTo n j)) (hj : j < 8) : BkS W (w.setCell ⟨c, j, none⟩ (.int .u8 ((n : Int) / 2 ^ (8 * j) % 256))) k c (nonTo n (j + 1)) := by
  have := h.set j (leB n j)
  rw [nonTo_succ n j hj, leB_int] at this
  exact this
theorem BkS.last {W w : World} {k : Nat → UInt8} {c n i : Nat} (h : BkS W w k c (nonTo n 8)) (hi : i < 256) : BkS W (w.setCell ⟨c, 8, none⟩ (.int .u8 (i : Int))) k c (ofL (leL n 8 ++ leL i 8)) := by
  have := h.set 8 (UInt8.ofNat i)
  rw [block_eq n i hi, u8_ofNat_B i hi] at this
  exact this
theorem BkS.below {W w w' : World} {k : Nat → UInt8} {c : Nat} {f : Nat → UInt8} (h : BkS W w k c f) (hb : Below w.heap.size w w') : BkS W w' k c f := ⟨h.ky.below hb, h.hb.below hb h.hb.lt, h.lt⟩

set_option maxRecDepth 100000 in
set_option maxHeartbeats 4000000 in
theorem ctrBlocks_any (k : Nat → UInt8) (n : Nat) (hn : n < 18446744073709551616) (i : Nat) (hi : i < 256) (W : World) :
    Calls Try.prog 13 #[.agg (rowF 16 (byt k)), .int .u64 (n : Int), .int .u8 (i : Int)] W fun e w' => e = .returned (.bool true) ∧ Below W.heap.size W w' := by
  have hS0 := KyS.start W k
  go_enter Try.func13, Try.ntmps13
  go_wp2_with fail
  refine (shown5_any _).mono ?_
  rintro e w1 ⟨rfl, hb1⟩
  have hS1 := hS0.below hb1
  clear hS0 hb1
  have hT : Has (w1.alloc (.cells (rowF 16 (byt fun _ => 0)) 28)) w1.heap.size 28 16 (byt fun _ => 0) := Has.new _ _ _ _
  go_wp2_with (first | (refine wpList_build_at rfl 28 #[] rfl [] (by kernel_rfl) (rowF 16 (byt fun _ => 0)) (by kernel_rfl) ?_) | (rw [zeros16]; refine wpList_store_has rfl 28 (.tmp 7) (.tmp 13) rfl _ rfl hT _ rfl info28 ?_))
  have hB0 : BkS W ((w1.alloc (.cells (rowF 16 (byt fun _ => 0)) 28)).setRow w1.heap.size (rowF 16 (byt fun _ => 0))) k w1.heap.size (nonTo n 0) := by
    have h1 := hS1.bel.size
    have h2 := hS1.hk.lt
    refine ⟨⟨Below.setRow (hS1.bel.alloc (by omega) _) (by omega) _, (hS1.hk.alloc _).setRowOther _ _ (by omega)⟩, ?_, by omega⟩
    have e : nonTo n 0 = fun _ => 0 := by funext j; simp [nonTo]
    rw [e]
    exact hT.setRow _
  generalize World.setRow _ _ _ = w2 at hB0 ⊢
  clear hT hS1
  generalize w1.heap.size = c at hB0 ⊢
  go_loopw [8] (fun v wr => ∃ j : Nat, j ≤ 8 ∧ v = .int .i64 j ∧ BkS W wr k c (nonTo n j)) (fun v _ => 8 - (intOf v).toNat)
  case atStart => exact ⟨0, by omega, rfl, hB0⟩
  case round =>
    clear hB0
    obtain ⟨j, hj, rfl, hB⟩ := hrel
    by_cases hlt : j < 8
    · have hd : decide ((j : Int) < 8) = true := by simp; omega
      have a1 : (0 : Int) ≤ 8 * (j : Int) := by omega
      have a2 : (8 * (j : Int)).toNat = 8 * j := by omega
      have c1 := hB.hb.cell (i := j) (by omega)
      have f1 := hB.hb.frozen j
      go_wp2
      go_roundw
      case rel => exact ⟨j + 1, by omega, by go_num, hB.put hlt⟩
      case measure => simp [intOf]; omega
    · obtain rfl : j = 8 := by omega
      have c1 := hB.hb.cell (i := 8) (by omega)
      have f1 := hB.hb.frozen 8
      have hB2 := hB.last hi
      go_wp2_with (first | (refine wpList_load_has rfl 28 (.tmp 3) rfl _ rfl hB2.ky.hk 5 und28 info28 ?_))
      have h16 : 16 * (i : Int) + 16 = ((16 * i + 16 : Nat) : Int) := by simp
      rw [h16]
      refine (ctrStream_nat k n hn (16 * i + 16) (by omega) _).mono ?_
      rintro e w3 ⟨rfl, hb3⟩
      have hB3 := hB2.below hb3
      clear hB hB2 hb3 c1 f1 hlt h16
      go_wp2_with (first | (refine wpList_load_has rfl 28 (.tmp 3) rfl _ rfl hB3.ky.hk 5 und28 info28 ?_) | (refine wpList_load_has rfl 28 (.tmp 7) rfl _ rfl hB3.hb 5 und28 info28 ?_))
      refine (refLock_any k (ofL (leL n 8 ++ leL i 8)) _).mono ?_
      rintro e w4 ⟨rfl, hb4⟩
      have hS4 := hB3.ky.below hb4
      clear hB3 hb4
      have hU : Has (w4.alloc (.cells (rowF 16 (byt fun _ => 0)) 28)) w4.heap.size 28 16 (byt fun _ => 0) := Has.new _ _ _ _
      go_wp2_with (first | (rw [zeros16]; refine wpList_store_has rfl 28 (.tmp 10) (.tmp 36) rfl _ rfl hU _ rfl info28 ?_))
      have hS : KyS W ((w4.alloc (.cells (rowF 16 (byt fun _ => 0)) 28)).setRow w4.heap.size (rowF 16 (byt (lockF k (ofL (leL n 8 ++ leL i 8)))))) k := by
        have h1 := hS4.bel.size
        have h2 := hS4.hk.lt
        exact ⟨Below.setRow (hS4.bel.alloc (by omega) _) (by omega) _, (hS4.hk.alloc _).setRowOther _ _ (by omega)⟩
      have hX : Has ((w4.alloc (.cells (rowF 16 (byt fun _ => 0)) 28)).setRow w4.heap.size (rowF 16 (byt (lockF k (ofL (leL n 8 ++ leL i 8)))))) w4.heap.size 28 16 (byt (blkF k n i)) := hU.setRow _
      clear hU hS4
      generalize w4.heap.size = b at hS hX ⊢
      generalize World.setRow _ _ _ = w5 at hS hX ⊢
      refine wp_region_quiet (C := fun w' => KyS W w' k ∧ Has w' b 28 16 (byt (blkF k n i))) (by kernel_rfl) (by kernel_rfl) ⟨hS.drew, hX.drew⟩ ?_
      simp only
      refine wpQ_at rfl (fun K hK => ?_)
      refine q_move (.tmp 9) rfl (.string ⟨(sL k n (16 * i + 16)).toArray⟩) rfl ?_
      refine hK _ ?_
      clear hK K
      simp only [Act.put, List.setIfInBounds_toArray, List.set_cons_zero, List.set_cons_succ]
      refine wpQ_at rfl (fun K hK => ?_)
      refine q_len (.tmp 37) rfl (sL k n (16 * i + 16)) rfl ?_
      refine hK _ ?_
      clear hK K
      simp only [Act.put, List.setIfInBounds_toArray, List.set_cons_zero, List.set_cons_succ]
      refine wpQ_at rfl (fun K hK => ?_)
      refine q_move (.tmp 2) rfl (.int .u8 (i : Int)) rfl ?_
      refine hK _ ?_
      clear hK K
      simp only [Act.put, List.setIfInBounds_toArray, List.set_cons_zero, List.set_cons_succ]
      refine wpQ_at rfl (fun K hK => ?_)
      refine q_run (.int .i64 (i : Int)) (fun w => by go_simp; exact i64_small _ (by omega) (by omega)) ?_
      refine hK _ ?_
      clear hK K
      simp only [Act.put, List.setIfInBounds_toArray, List.set_cons_zero, List.set_cons_succ]
      refine wpQ_at rfl (fun K hK => ?_)
      refine q_run (.int .i64 ((16 * i : Nat) : Int)) (fun w => by go_simp; exact i64_small _ (by omega) (by omega)) ?_
      refine hK _ ?_
      clear hK K
      simp only [Act.put, List.setIfInBounds_toArray, List.set_cons_zero, List.set_cons_succ]
      refine wpQ_at rfl (fun K hK => ?_)
      refine q_run (.int .i64 ((16 * i + 16 : Nat) : Int)) (fun w => by go_simp; exact i64_small _ (by omega) (by omega)) ?_
      refine hK _ ?_
      clear hK K
      simp only [Act.put, List.setIfInBounds_toArray, List.set_cons_zero, List.set_cons_succ]
      refine wpQ_at rfl (fun K hK => ?_)
      refine q_int_eq (.tmp 38) (.tmp 42) rfl ((sL k n (16 * i + 16)).length : Int) ((16 * i + 16 : Nat) : Int) rfl rfl (by rw [sL_length]) ?_
      refine hK _ ?_
      clear hK K
      simp only [Act.put, List.setIfInBounds_toArray, List.set_cons_zero, List.set_cons_succ]
      refine wpQ_at rfl (fun K hK => ?_)
      refine q_move (.tmp 43) rfl (.bool true) rfl ?_
      refine hK _ ?_
      clear hK K
      simp only [Act.put, List.setIfInBounds_toArray, List.set_cons_zero, List.set_cons_succ]
      refine wpQ_at rfl (fun K hK => ?_)
      refine q_move (.tmp 9) rfl (.string ⟨(sL k n (16 * i + 16)).toArray⟩) rfl ?_
      refine hK _ ?_
      clear hK K
      simp only [Act.put, List.setIfInBounds_toArray, List.set_cons_zero, List.set_cons_succ]
      refine wpQ_at rfl (fun K hK => ?_)
      refine q_move (.tmp 2) rfl (.int .u8 (i : Int)) rfl ?_
      refine hK _ ?_
      clear hK K
      simp only [Act.put, List.setIfInBounds_toArray, List.set_cons_zero, List.set_cons_succ]
      refine wpQ_at rfl (fun K hK => ?_)
      refine q_run (.int .i64 (i : Int)) (fun w => by go_simp; exact i64_small _ (by omega) (by omega)) ?_
      refine hK _ ?_
      clear hK K
      simp only [Act.put, List.setIfInBounds_toArray, List.set_cons_zero, List.set_cons_succ]
      refine wpQ_at rfl (fun K hK => ?_)
      refine q_run (.int .i64 ((16 * i : Nat) : Int)) (fun w => by go_simp; exact i64_small _ (by omega) (by omega)) ?_
      refine hK _ ?_
      clear hK K
      simp only [Act.put, List.setIfInBounds_toArray, List.set_cons_zero, List.set_cons_succ]
      refine wpQ_at rfl (fun K hK => ?_)
      refine q_slice (.tmp 45) (some (.tmp 48)) none rfl (.string ⟨((sL k n (16 * i + 16)).drop (16 * i)).toArray⟩) (fun w => run_text_from _ (16 * i) (by rw [sL_length]; omega) w) ?_
      refine hK _ ?_
      clear hK K
      simp only [Act.put, List.setIfInBounds_toArray, List.set_cons_zero, List.set_cons_succ]
      refine wpQ_at rfl (fun K hK => ?_)
      refine q_run (.slice (some ⟨b, 0, none⟩) 16 16) (fun w => by go_simp) ?_
      refine hK _ ?_
      clear hK K
      simp only [Act.put, List.setIfInBounds_toArray, List.set_cons_zero, List.set_cons_succ]
      refine wpQ_at rfl (fun K hK => ?_)
      refine q_class (.string ⟨(blkL k n i).toArray⟩) (fun w hw => exec_convert rfl rfl hw.2.text) ?_
      refine hK _ ?_
      clear hK K
      simp only [Act.put, List.setIfInBounds_toArray, List.set_cons_zero, List.set_cons_succ]
      refine wpQ_at rfl (fun K hK => ?_)
      refine q_text_eq (.tmp 49) (.tmp 51) rfl ((sL k n (16 * i + 16)).drop (16 * i)) (blkL k n i) rfl rfl (sL_last k n i) ?_
      refine hK _ ?_
      clear hK K
      simp only [Act.put, List.setIfInBounds_toArray, List.set_cons_zero, List.set_cons_succ]
      refine wpQ_at rfl (fun K hK => ?_)
      refine q_pick (.tmp 44) (.tmp 52) (.const (.bool false)) rfl true rfl (.bool true) rfl ?_
      refine hK _ ?_
      clear hK K
      simp only [Act.put, List.setIfInBounds_toArray, List.set_cons_zero, List.set_cons_succ]
      refine wpQ_at rfl (fun K hK => ?_)
      refine q_assign (.tmp 53) rfl (.bool true) rfl ?_
      refine hK _ ?_
      clear hK K
      simp only [Act.put, List.setIfInBounds_toArray, List.set_cons_zero, List.set_cons_succ]
      refine wpQuiet_nil ?_
      intro w6 hC
      go_wp2_with fail
      go_ret
      exact ⟨rfl, hC.1.bel⟩

end Go.Proofs.Ytjmeiloklhbllaa
