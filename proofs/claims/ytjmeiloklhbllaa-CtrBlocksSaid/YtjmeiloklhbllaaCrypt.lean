/- The walks of ctr.At where it answers nothing, of ctr.Crypt and of ctr.Stream. -/
import Derived.Test.YtjmeiloklhbllaaAt
namespace Go.Proofs.Ytjmeiloklhbllaa
open Go.RowKit

set_option maxRecDepth 100000 in
set_option maxHeartbeats 1000000 in
theorem at_bad (key : Nat → UInt8) (n : Nat) (at' : Int) (l : List UInt8) (_hl : l.length ≤ 1000000) (h1 : -9223372036854775808 ≤ at') (h2 : at' < 9223372036854775808) (hb : at' < 0 ∨ 4096 < at' + l.length) (w : World) :
    Calls Try.prog 29 #[.agg (rowF 16 (byt key)), .int .u64 (n : Int), .int .i64 at', .string ⟨l.toArray⟩] w fun e w' => e = .returned (.string ⟨#[]⟩) ∧ Below w.heap.size w w' := by
  refine (callsIn_wide (n := 2)).1 (callsIn_of_wp_marks Try.func29 rfl trivial ?_)
  rw [wpIn_wide]
  simp only [Try.ntmps29, List.size_toArray, List.length_cons, List.length_nil, Nat.reduceAdd, Nat.reduceSub, Array.replicate_succ, Array.replicate_zero, List.push_toArray, List.append_toArray, List.nil_append, List.cons_append]
  by_cases c1 : at' < 0
  · have d1 : decide (at' < 0) = true := by simpa using c1
    go_wp2
    exact ⟨_, results_tmp rfl _ _ _, rfl, (Below.refl _ _).alloc (Nat.le_refl _) _⟩
  · have d1 : decide (at' < 0) = false := by simpa using c1
    by_cases c2 : 4096 < at'
    · have d2 : decide (4096 < at') = true := by simpa using c2
      go_wp2
      exact ⟨_, results_tmp rfl _ _ _, rfl, (Below.refl _ _).alloc (Nat.le_refl _) _⟩
    · have d2 : decide (4096 < at') = false := by simpa using c2
      have d3 : decide (4096 - at' < (l.length : Int)) = true := by simp; omega
      have h0 : 0 ≤ at' := by omega
      have h4 : at' ≤ 4096 := by omega
      clear hb c1 c2
      go_wp2
      exact ⟨_, results_tmp rfl _ _ _, rfl, (Below.refl _ _).alloc (Nat.le_refl _) _⟩
theorem at_good0 (key : Nat → UInt8) (n : Nat) (hn : n < 18446744073709551616) (l : List UInt8) (hl : l.length ≤ 4096) (w : World) :
    Calls Try.prog 29 #[.agg (rowF 16 (byt key)), .int .u64 (n : Int), .int .i64 0, .string ⟨l.toArray⟩] w fun e w' => e = .returned (.string ⟨(atL key n 0 l).toArray⟩) ∧ Below w.heap.size w w' :=
  at_good key n 0 hn l (by omega) w
/-- What Crypt answers. -/
def cryL (key : Nat → UInt8) (n : Nat) (l : List UInt8) : List UInt8 := if l.length ≤ 4096 then atL key n 0 l else []
theorem at_zero (key : Nat → UInt8) (n : Nat) (hn : n < 18446744073709551616) (l : List UInt8) (hl : l.length ≤ 1000000) (w : World) :
    Calls Try.prog 29 #[.agg (rowF 16 (byt key)), .int .u64 (n : Int), .int .i64 0, .string ⟨l.toArray⟩] w fun e w' => e = .returned (.string ⟨(cryL key n l).toArray⟩) ∧ Below w.heap.size w w' := by
  unfold cryL
  by_cases h : l.length ≤ 4096
  · rw [if_pos h]; exact at_good0 key n hn l h w
  · rw [if_neg h]; exact at_bad key n 0 l hl (by omega) (by omega) (.inr (by omega)) w

set_option maxRecDepth 100000 in
set_option maxHeartbeats 1000000 in
theorem crypt_any (key : Nat → UInt8) (n : Nat) (hn : n < 18446744073709551616) (l : List UInt8) (hl : l.length ≤ 1000000) (w : World) :
    Calls Try.prog 28 #[.agg (rowF 16 (byt key)), .int .u64 (n : Int), .string ⟨l.toArray⟩] w fun e w' => e = .returned (.string ⟨(cryL key n l).toArray⟩) ∧ Below w.heap.size w w' := by
  have hK := Has.new w 28 16 (byt key)
  go_enter Try.func28, Try.ntmps28
  go_wp2_with (first | (refine wpList_load_has rfl 28 (.tmp 3) rfl _ rfl hK 5 und28 info28 ?_) | (go_at_call 29; refine (at_zero key n hn l hl _).mono ?_; rintro e w1 ⟨rfl, hb1⟩))
  go_ret
  exact ⟨rfl, ((Below.refl _ _).alloc (Nat.le_refl _) _).trans (hb1.mono (by simp))⟩

/-- 'make([]byte, n)'. -/
theorem run_make_zero (n : Nat) (hn : n ≤ 1000000) (w : World) : ∃ v w', (Instr.makeSlice 52 (.int .i64 (n : Int)) (.int .i64 (n : Int))).run Try.prog w = .ok v w' ∧ OwnB w' w.heap.size v (List.replicate n 0) ∧ Below w.heap.size w w' := by
  obtain ⟨i0, hi0, hz0, hz1, hz2⟩ := info_parts infoByte
  obtain ⟨w', hr, hown, hg⟩ := run_make_full (P := Try.prog) w w.heap.size 52 5 i0 (.int .u8 0) 1 Try.underlying52 hi0 hz0 hz1 .i64 .i64 n (by rw [hz2]; omega) (by unfold maxLen; omega) (Nat.le_refl _)
  refine ⟨_, w', hr, ?_, (Below.refl _ w).grown hg (Nat.le_refl _) (fun k e => by cases e)⟩
  unfold OwnB
  rw [List.length_replicate]
  have e : (madeCells (Value.int .u8 0).cells (n * 1)).toList = Lib.byteCells (List.replicate n 0) := by
    apply List.ext_getElem?
    intro i
    rw [Nat.mul_one, Array.getElem?_toList]
    unfold madeCells Lib.byteCells
    rw [List.getElem?_map, List.getElem?_replicate]
    by_cases h : i < n
    · rw [if_pos h]
      simp [h, Value.cells, Nat.mod_one]
    · rw [if_neg h]
      simp [h]
  rw [← e]
  exact hown
theorem wp_make_gen {Q : Exit → Act → World → Prop} {a : Act} {w : World} {o : Oper} {K : Act → World → Prop} (x y : Operand) (ho : o.op = .makeSlice 52 x y) (n : Nat) (hn : n ≤ 1000000) (hx : a.eval x = .int .i64 (n : Int)) (hy : a.eval y = .int .i64 (n : Int))
    (h : ∀ v w', OwnB w' w.heap.size v (List.replicate n 0) → Below w.heap.size w w' → K (a.put o.dst v) w') : OpWp Try.prog o a w K Q := by
  obtain ⟨v, w', hr, hown, hb⟩ := run_make_zero n hn w
  refine OpWp.mk ?_
  unfold Oper.wp execOp
  simp only [ho, hx, hy, Sem.run_bind, hr, Result.andThen_ok, Sem.run_pure]
  exact h _ _ hown hb
theorem wp_back_to {Q : Exit → Act → World → Prop} {a : Act} {w : World} {o : Oper} {K : Act → World → Prop} (x : Operand) (ho : o.op = .convert 52 9 x) (B : Nat) (v : Value) (l : List UInt8) (hx : a.eval x = v) (hv : OwnB w B v l)
    (h : K (a.put o.dst (.string ⟨l.toArray⟩)) w) : OpWp Try.prog o a w K Q := by
  refine OpWp.mk ?_
  unfold Oper.wp execOp
  simp only [ho, hx, Sem.run_bind, hv.back, Result.andThen_ok, Sem.run_pure]
  exact h
theorem ofL_zero (m j : Nat) : ofL (List.replicate m 0) j = 0 := by
  unfold ofL
  rw [List.getD_eq_getElem?_getD, List.getElem?_replicate]
  split <;> rfl
theorem cry_zero (key : Nat → UInt8) (n m : Nat) (hm : m ≤ 4096) : cryL key n (List.replicate m 0) = sL key n m := by
  unfold cryL
  rw [if_pos (by simpa using hm)]
  unfold atL sL
  rw [List.length_replicate]
  refine List.map_congr_left fun j _ => ?_
  rw [ofL_zero, Nat.zero_add]; simp

set_option maxRecDepth 100000 in
set_option maxHeartbeats 1000000 in
theorem ctrStream_any (key : Nat → UInt8) (n : Nat) (hn : n < 18446744073709551616) (k : Int) (w : World) :
    Calls Try.prog 32 #[.agg (rowF 16 (byt key)), .int .u64 (n : Int), .int .i64 k] w fun e w' => e = .returned (.string ⟨(sL key n (min k.toNat 4096)).toArray⟩) ∧ Below w.heap.size w w' := by
  have hK := Has.new w 28 16 (byt key)
  go_enter Try.func32, Try.ntmps32
  go_wp2_with fail
  refine wp_region_held (S := fun w' => Has w' w.heap.size 28 16 (byt key)) (by kernel_rfl) ?_
  change wpAnyH _ _ _ _ _ _ _ _ (World.drew _)
  refine wpAnyH_run (i := 0) rfl rfl (by kernel_rfl) (by kernel_rfl) (by kernel_rfl) (.agg (rowF 16 (byt key))) (fun w hw => exec_load_cell rfl rfl (by have := run_loadVar_has (P := Try.prog) hw 28 0 16 5 (by omega) und28 info28; simpa using this)) (fun _ _ _ h => h) hK.drew ?_
  simp only [Act.put, List.setIfInBounds_toArray, List.set_cons_zero, List.set_cons_succ]
  refine wpAnyH_run (i := 1) rfl rfl (by kernel_rfl) (by kernel_rfl) (by kernel_rfl) (.int .u64 (n : Int)) (fun _ _ => rfl) (fun _ _ _ h => h) hK.drew ?_
  simp only [Act.put, List.setIfInBounds_toArray, List.set_cons_zero, List.set_cons_succ]
  refine wpAnyH_run (i := 2) rfl rfl (by kernel_rfl) (by kernel_rfl) (by kernel_rfl) (.int .i64 k) (fun _ _ => rfl) (fun _ _ _ h => h) hK.drew ?_
  simp only [Act.put, List.setIfInBounds_toArray, List.set_cons_zero, List.set_cons_succ]
  refine wpAnyH_run (i := 3) rfl rfl (by kernel_rfl) (by kernel_rfl) (by kernel_rfl) (.int .i64 (k.toNat : Int)) (fun _ _ => by go_simp) (fun _ _ _ h => h) hK.drew ?_
  simp only [Act.put, List.setIfInBounds_toArray, List.set_cons_zero, List.set_cons_succ]
  refine wpAnyH_run (i := 4) rfl rfl (by kernel_rfl) (by kernel_rfl) (by kernel_rfl) (.int .i64 ((min k.toNat 4096 : Nat) : Int)) (fun _ _ => by go_simp; omega) (fun _ _ _ h => h) hK.drew ?_
  simp only [Act.put, List.setIfInBounds_toArray, List.set_cons_zero, List.set_cons_succ]
  refine wpAnyH_one (i := 5) (by kernel_rfl) rfl rfl (fun K hK2 => ?_)
  refine wp_make_gen (.tmp 11) (.tmp 11) rfl (min k.toNat 4096) (by omega) rfl rfl ?_
  rintro v w2 hv hb2
  have hk2 := hK.drew.below hb2 hK.lt
  refine hK2 _ _ hk2 ?_
  clear hK2 K
  simp only [Act.put, List.setIfInBounds_toArray, List.set_cons_zero, List.set_cons_succ]
  refine wpAnyH_one (i := 6) (by kernel_rfl) rfl rfl (fun K hK2 => ?_)
  refine wp_back_to (.tmp 12) rfl _ v _ rfl hv ?_
  refine hK2 _ _ hk2 ?_
  clear hK2 K
  simp only [Act.put, List.setIfInBounds_toArray, List.set_cons_zero, List.set_cons_succ]
  refine wpAnyH_one (i := 7) (by kernel_rfl) rfl rfl (fun K hK2 => ?_)
  refine wp_call_to 28 _ _ rfl Try.call28 #[.agg (rowF 16 (byt key)), .int .u64 (n : Int), .string ⟨(List.replicate (min k.toNat 4096) 0).toArray⟩] (by kernel_rfl) (crypt_any key n hn (List.replicate (min k.toNat 4096) 0) (by simp; omega) _) ?_
  rintro e w3 ⟨rfl, hb3⟩
  refine ⟨_, rfl, ?_⟩
  refine hK2 _ _ (hk2.below hb3 hk2.lt) ?_
  clear hK2 K
  simp only [Act.put, List.setIfInBounds_toArray, List.set_cons_zero, List.set_cons_succ]
  refine wpAnyH_one (i := 8) (by kernel_rfl) rfl rfl (fun K hK2 => ?_)
  refine OpWp.mk (BigFrame.wp_assign (.tmp 14) rfl ?_)
  refine hK2 _ _ (hk2.below hb3 hk2.lt) ?_
  clear hK2 K
  simp only [Act.put, List.setIfInBounds_toArray, List.set_cons_zero, List.set_cons_succ]
  refine wpAnyH_done (by kernel_rfl) ?_ _
  rw [cry_zero _ _ _ (by omega)]
  go_wp2
  go_ret
  exact ⟨rfl, ((((Below.refl _ w).alloc (Nat.le_refl _) _).drew).trans (hb2.mono (by simp))).trans (hb3.mono (by have := hb2.size; simp at this; omega))⟩

end Go.Proofs.Ytjmeiloklhbllaa
