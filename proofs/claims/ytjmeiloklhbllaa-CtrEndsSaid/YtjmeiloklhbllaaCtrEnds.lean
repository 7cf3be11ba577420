/- The walk of the law CtrEnds: it answers true, whatever the key, the nonce, the place and the length. -/
import Derived.IntWalk
import Derived.Test.YtjmeiloklhbllaaCtrLaw
namespace Go.Proofs.Ytjmeiloklhbllaa
open Go.RowKit

section
variable {P : Program} {ops : Array Oper} {Q : Exit → Act → World → Prop} {md : Region.Mode} {S : World → Prop} {fuel : Nat} {listed : Array Bool} {a : Act} {w : World}
/-- An operation whose guard says yes and whose run is known in every world that meets S is taken first. -/
theorem wpAnyH_runG {i : Nat} {o : Oper} {r : List Oper} (ho' : ops.toList.drop i = o :: r) (hg : Region.wanted o (yielded ops a.tmps) = true) (hs : Region.noSelect ops = true) (hf : Region.free md ops listed i = true) (hr : (Region.ready md ops listed).contains i = true)
    (v : Value) (hv : ∀ w, S w → (execOp a.eval o).run P w = .ok (.value v) w)
    (hQ : ∀ c (a : Act) w, Q (.panic c) (a.put o.dst v) w → Q (.panic c) a w) (hS : S w)
    (h : wpAnyH P md ops Q S fuel (listed.setIfInBounds i true) (a.put o.dst v) w) : wpAnyH P md ops Q S (fuel + 1) listed a w :=
  wpAnyH_take (at_of_drop ho') hs hf hr hQ (.inl ⟨hg, hv⟩) hS h
/-- The one operation that may come up, its guard saying yes. -/
theorem wpAnyH_oneG {i : Nat} {o : Oper} {r : List Oper} (hr : Region.ready md ops listed = [i]) (ho' : ops.toList.drop i = o :: r) (hg : Region.wanted o (yielded ops a.tmps) = true)
    (h : ∀ K : Act → World → Prop, (∀ a w, S w → wpAnyH P md ops Q S fuel (listed.setIfInBounds i true) a w → K a w) → OpWp P o a w K Q) : wpAnyH P md ops Q S (fuel + 1) listed a w :=
  wpAnyH_all hr (by simp) (by
    intro j hj
    simp only [List.mem_singleton] at hj
    subst hj
    unfold wpOp
    rw [at_of_drop ho']
    simp only [hg, if_true]
    exact .inl (h _ fun _ _ h1 h2 => ⟨h1, h2⟩).out)
end
theorem exec_slice {w : World} {ρ : Operand → Value} {o : Oper} {x : Operand} {lo hi : Option Operand} (ho : o.op = .slice 9 x lo hi none) {v : Value} (hr : (Instr.slice 9 (ρ x) (lo.map ρ) (hi.map ρ) none).run Try.prog w = .ok v w) : (execOp ρ o).run Try.prog w = .ok (.value v) w := by
  unfold execOp
  simp only [ho, Sem.run_bind, Instr.sliceAt, run_underlying Try.underlying9, Result.andThen_ok]
  simp only [Option.map_none] at hr ⊢
  simp only [hr, Result.andThen_ok, Sem.run_pure]
theorem exec_bin {w : World} {ρ : Operand → Value} {o : Oper} {op : BinOp} {T U : TypeId} {x y : Operand} (ho : o.op = .binOp op T x y U) {vx vy v : Value} (hx : ρ x = vx) (hy : ρ y = vy)
    (hg : (eqGuard op T x y vx vy).run Try.prog w = .ok () w) (hr : (binOp op T vx vy).run Try.prog w = .ok v w) : (execOp ρ o).run Try.prog w = .ok (.value v) w := by
  unfold execOp
  simp only [ho, hx, hy, Sem.run_bind, hg, hr, Result.andThen_ok, Sem.run_pure]
theorem i64_small (x : Int) (h0 : 0 ≤ x) (h1 : x ≤ 1000000) : IntKind.i64.wrap x = x := IntWalk.i64_in _ (by omega)

theorem stream_less (k : Nat → UInt8) (n : Nat) (hn : n < 18446744073709551616) (w : World) :
    Calls Try.prog 32 #[.agg (rowF 16 (byt k)), .int .u64 (n : Int), .int .i64 (-1)] w fun e w' => e = .returned (.string ⟨#[]⟩) ∧ Below w.heap.size w w' :=
  ctrStream_any k n hn (-1) w
theorem stream_long (k : Nat → UInt8) (n : Nat) (hn : n < 18446744073709551616) (w : World) :
    Calls Try.prog 32 #[.agg (rowF 16 (byt k)), .int .u64 (n : Int), .int .i64 5000] w fun e w' => e = .returned (.string ⟨(sL k n 4096).toArray⟩) ∧ Below w.heap.size w w' :=
  ctrStream_any k n hn 5000 w
theorem crypt_over (k : Nat → UInt8) (n : Nat) (hn : n < 18446744073709551616) (z : List UInt8) (h : 4096 < z.length) (h2 : z.length ≤ 1000000) (w : World) :
    Calls Try.prog 28 #[.agg (rowF 16 (byt k)), .int .u64 (n : Int), .string ⟨z.toArray⟩] w fun e w' => e = .returned (.string ⟨#[]⟩) ∧ Below w.heap.size w w' := by
  have := crypt_any k n hn z h2 w
  unfold cryL at this
  rw [if_neg (by omega)] at this
  exact this
theorem atL_zero (k : Nat → UInt8) (n p m : Nat) (h : p + m ≤ 4096) : atL k n p (List.replicate m 0) = ((sL k n 4096).drop p).take (p + m - p) := by
  unfold atL sL
  rw [List.length_replicate, ← List.map_drop, ← List.map_take]
  apply List.ext_getElem?
  intro j
  rw [List.getElem?_map, List.getElem?_map, List.getElem?_take, List.getElem?_drop]
  by_cases hj : j < m
  · rw [List.getElem?_range hj, if_pos (by omega), List.getElem?_range (by omega)]
    simp only [Option.map_some, ofL_zero]
    simp
  · rw [List.getElem?_eq_none (by simpa using hj), if_neg (by omega)]
    rfl

set_option maxRecDepth 100000 in
set_option maxHeartbeats 4000000 in
theorem ctrEnds_good (k : Nat → UInt8) (n : Nat) (hn : n < 18446744073709551616) (p m : Nat) (hm : m < 256) (hp : p + m ≤ 4096) (W : World) :
    Calls Try.prog 12 #[.agg (rowF 16 (byt k)), .int .u64 (n : Int), .int .i64 (p : Int), .int .u8 (m : Int)] W fun e w' => e = .returned (.bool true) ∧ Below W.heap.size W w' := by
  have hS0 := KyS.start W k
  have i0 : (0 : Int) ≤ (m : Int) := by omega
  have d1 : decide ((p : Int) < 0) = false := by simp
  have d2 : decide (4096 < (p : Int)) = false := by simp; omega
  have d3 : decide (4096 < (p : Int) + (m : Int)) = false := by simp; omega
  obtain ⟨v, w1, hr0, hv, hb1⟩ := run_make_zero 256 (by omega) (W.alloc (.cells (rowF 16 (byt k)) 28))
  have hr : (Instr.makeSlice 52 (.int .i64 256) (.int .i64 256)).run Try.prog (W.alloc (.cells (rowF 16 (byt k)) 28)) = .ok v w1 := hr0
  obtain ⟨z, hz⟩ : ∃ z, z = List.replicate 256 (0 : UInt8) := ⟨_, rfl⟩
  have hzl : (m : Int) ≤ (z.length : Int) := by rw [hz, List.length_replicate]; omega
  have hzm : z.take m = List.replicate m 0 := by rw [hz, List.take_replicate, Nat.min_eq_left (by omega)]
  rw [← hz] at hv
  have hcv := hv.back
  have HZ := Lib.hid hzm
  have hS1 := hS0.below hb1
  clear hz hzm hr0 hv hb1 hS0
  go_enter Try.func12, Try.ntmps12
  go_wp2_with (first | (refine wpList_load_has rfl 28 (.tmp 4) rfl _ rfl hS1.hk 5 und28 info28 ?_))
  clear hr hcv
  rw [ba_take, HZ.out]
  clear HZ hzl
  have hx := atL_zero k n p m hp
  have hL := sL_length k n 4096
  have hsl : p + (List.replicate m (0 : UInt8)).length ≤ 4096 := by rw [List.length_replicate]; exact hp
  refine (at_good k n p hn (List.replicate m 0) hsl _).mono ?_
  rintro e w2 ⟨rfl, hb2⟩
  have hS2 := hS1.below hb2
  clear hS1 hb2 hsl
  generalize atL k n p (List.replicate m 0) = x at hx ⊢
  have HX0 := Lib.hid hx
  have HL0 := Lib.hid hL
  clear hx hL
  go_wp2_with (first | (refine wpList_load_has rfl 28 (.tmp 4) rfl _ rfl hS2.hk 5 und28 info28 ?_))
  refine (stream_long k n hn _).mono ?_
  rintro e w3 ⟨rfl, hb3⟩
  have hS := (hS2.below hb3).drew
  have hx := HX0.out
  have hL := HL0.out
  clear hS2 hb3 HX0 HL0
  generalize sL k n 4096 = L at hx hL ⊢
  have HX := Lib.hid hx
  clear hx
  go_wp2_with fail
  refine wp_region_held (S := fun w' => KyS W w' k) (by kernel_rfl) ?_
  change wpAnyH _ _ _ _ _ _ _ _ (World.drew _)
  refine wpAnyH_runG (i := 0) rfl rfl (by kernel_rfl) (by kernel_rfl) (by kernel_rfl) (.string ⟨(x).toArray⟩) (fun w hw => rfl) (fun _ _ _ h => h) hS ?_
  simp only [Act.put, List.setIfInBounds_toArray, List.set_cons_zero, List.set_cons_succ]
  refine wpAnyH_runG (i := 1) rfl rfl (by kernel_rfl) (by kernel_rfl) (by kernel_rfl) (.string ⟨(L).toArray⟩) (fun w hw => rfl) (fun _ _ _ h => h) hS ?_
  simp only [Act.put, List.setIfInBounds_toArray, List.set_cons_zero, List.set_cons_succ]
  refine wpAnyH_runG (i := 2) rfl rfl (by kernel_rfl) (by kernel_rfl) (by kernel_rfl) (.int .i64 (p : Int)) (fun w hw => rfl) (fun _ _ _ h => h) hS ?_
  simp only [Act.put, List.setIfInBounds_toArray, List.set_cons_zero, List.set_cons_succ]
  refine wpAnyH_runG (i := 3) rfl rfl (by kernel_rfl) (by kernel_rfl) (by kernel_rfl) (.int .i64 (p : Int)) (fun w hw => rfl) (fun _ _ _ h => h) hS ?_
  simp only [Act.put, List.setIfInBounds_toArray, List.set_cons_zero, List.set_cons_succ]
  refine wpAnyH_runG (i := 4) rfl rfl (by kernel_rfl) (by kernel_rfl) (by kernel_rfl) (.int .u8 (m : Int)) (fun w hw => rfl) (fun _ _ _ h => h) hS ?_
  simp only [Act.put, List.setIfInBounds_toArray, List.set_cons_zero, List.set_cons_succ]
  refine wpAnyH_runG (i := 5) rfl rfl (by kernel_rfl) (by kernel_rfl) (by kernel_rfl) (.int .i64 (m : Int)) (fun w hw => by go_simp; exact i64_small _ (by omega) (by omega)) (fun _ _ _ h => h) hS ?_
  simp only [Act.put, List.setIfInBounds_toArray, List.set_cons_zero, List.set_cons_succ]
  refine wpAnyH_runG (i := 6) rfl rfl (by kernel_rfl) (by kernel_rfl) (by kernel_rfl) (.int .i64 ((p + m : Nat) : Int)) (fun w hw => by go_simp; exact i64_small _ (by omega) (by omega)) (fun _ _ _ h => h) hS ?_
  simp only [Act.put, List.setIfInBounds_toArray, List.set_cons_zero, List.set_cons_succ]
  refine wpAnyH_runG (i := 7) rfl rfl (by kernel_rfl) (by kernel_rfl) (by kernel_rfl) (.string ⟨(((L.drop p).take (p + m - p))).toArray⟩) (fun w hw => exec_slice rfl (run_text_mid L p (p + m) (by omega) (by omega) w)) (fun _ _ _ h => h) hS ?_
  simp only [Act.put, List.setIfInBounds_toArray, List.set_cons_zero, List.set_cons_succ]
  refine wpAnyH_runG (i := 8) rfl rfl (by kernel_rfl) (by kernel_rfl) (by kernel_rfl) (.bool true) (fun w hw => exec_bin rfl rfl rfl (by go_simp) (run_text_eq x ((L.drop p).take (p + m - p)) HX.out w)) (fun _ _ _ h => h) hS ?_
  simp only [Act.put, List.setIfInBounds_toArray, List.set_cons_zero, List.set_cons_succ]
  refine wpAnyH_runG (i := 9) rfl rfl (by kernel_rfl) (by kernel_rfl) (by kernel_rfl) (.bool true) (fun w hw => rfl) (fun _ _ _ h => h) hS ?_
  simp only [Act.put, List.setIfInBounds_toArray, List.set_cons_zero, List.set_cons_succ]
  refine wpAnyH_runG (i := 10) rfl rfl (by kernel_rfl) (by kernel_rfl) (by kernel_rfl) (.string ⟨(L).toArray⟩) (fun w hw => rfl) (fun _ _ _ h => h) hS ?_
  simp only [Act.put, List.setIfInBounds_toArray, List.set_cons_zero, List.set_cons_succ]
  refine wpAnyH_runG (i := 11) rfl rfl (by kernel_rfl) (by kernel_rfl) (by kernel_rfl) (.int .i64 (L.length : Int)) (fun w hw => by go_simp) (fun _ _ _ h => h) hS ?_
  simp only [Act.put, List.setIfInBounds_toArray, List.set_cons_zero, List.set_cons_succ]
  refine wpAnyH_runG (i := 12) rfl rfl (by kernel_rfl) (by kernel_rfl) (by kernel_rfl) (.bool true) (fun w hw => by go_simp) (fun _ _ _ h => h) hS ?_
  simp only [Act.put, List.setIfInBounds_toArray, List.set_cons_zero, List.set_cons_succ]
  refine wpAnyH_runG (i := 13) rfl rfl (by kernel_rfl) (by kernel_rfl) (by kernel_rfl) (.bool true) (fun w hw => rfl) (fun _ _ _ h => h) hS ?_
  simp only [Act.put, List.setIfInBounds_toArray, List.set_cons_zero, List.set_cons_succ]
  refine wpAnyH_runG (i := 14) rfl rfl (by kernel_rfl) (by kernel_rfl) (by kernel_rfl) (.bool true) (fun w hw => rfl) (fun _ _ _ h => h) hS ?_
  simp only [Act.put, List.setIfInBounds_toArray, List.set_cons_zero, List.set_cons_succ]
  refine wpAnyH_runG (i := 15) rfl rfl (by kernel_rfl) (by kernel_rfl) (by kernel_rfl) (.agg (rowF 16 (byt k))) (fun w hw => exec_load_cell rfl rfl (by have := run_loadVar_has (P := Try.prog) hw.hk 28 0 16 5 (by omega) und28 info28; simpa using this)) (fun _ _ _ h => h) hS ?_
  simp only [Act.put, List.setIfInBounds_toArray, List.set_cons_zero, List.set_cons_succ]
  refine wpAnyH_runG (i := 16) rfl rfl (by kernel_rfl) (by kernel_rfl) (by kernel_rfl) (.int .u64 (n : Int)) (fun w hw => rfl) (fun _ _ _ h => h) hS ?_
  simp only [Act.put, List.setIfInBounds_toArray, List.set_cons_zero, List.set_cons_succ]
  refine wpAnyH_oneG (i := 17) (by kernel_rfl) rfl rfl (fun K hK => ?_)
  refine wp_call_to 32 _ _ rfl Try.call32 #[(.agg (rowF 16 (byt k))), (.int .u64 (n : Int)), (.int .i64 (-1))] (by kernel_rfl) (stream_less k n hn _) ?_
  rintro e w7 ⟨rfl, hb⟩
  refine ⟨_, rfl, ?_⟩
  replace hS := hS.below hb
  refine hK _ _ hS ?_
  clear hK K hb
  simp only [Act.put, List.setIfInBounds_toArray, List.set_cons_zero, List.set_cons_succ]
  refine wpAnyH_runG (i := 18) rfl rfl (by kernel_rfl) (by kernel_rfl) (by kernel_rfl) (.bool true) (fun w hw => exec_bin rfl rfl rfl (by go_simp) (run_text_eq [] [] rfl w)) (fun _ _ _ h => h) hS ?_
  simp only [Act.put, List.setIfInBounds_toArray, List.set_cons_zero, List.set_cons_succ]
  refine wpAnyH_runG (i := 19) rfl rfl (by kernel_rfl) (by kernel_rfl) (by kernel_rfl) (.bool true) (fun w hw => rfl) (fun _ _ _ h => h) hS ?_
  simp only [Act.put, List.setIfInBounds_toArray, List.set_cons_zero, List.set_cons_succ]
  refine wpAnyH_runG (i := 20) rfl rfl (by kernel_rfl) (by kernel_rfl) (by kernel_rfl) (.bool true) (fun w hw => rfl) (fun _ _ _ h => h) hS ?_
  simp only [Act.put, List.setIfInBounds_toArray, List.set_cons_zero, List.set_cons_succ]
  refine wpAnyH_runG (i := 21) rfl rfl (by kernel_rfl) (by kernel_rfl) (by kernel_rfl) (.agg (rowF 16 (byt k))) (fun w hw => exec_load_cell rfl rfl (by have := run_loadVar_has (P := Try.prog) hw.hk 28 0 16 5 (by omega) und28 info28; simpa using this)) (fun _ _ _ h => h) hS ?_
  simp only [Act.put, List.setIfInBounds_toArray, List.set_cons_zero, List.set_cons_succ]
  refine wpAnyH_runG (i := 22) rfl rfl (by kernel_rfl) (by kernel_rfl) (by kernel_rfl) (.int .u64 (n : Int)) (fun w hw => rfl) (fun _ _ _ h => h) hS ?_
  simp only [Act.put, List.setIfInBounds_toArray, List.set_cons_zero, List.set_cons_succ]
  refine wpAnyH_oneG (i := 23) (by kernel_rfl) rfl rfl (fun K hK => ?_)
  refine wp_make_gen (.const (.int .i64 4097)) (.const (.int .i64 4097)) rfl 4097 (by omega) rfl rfl ?_
  rintro v w8 hv hb
  obtain ⟨z, hz⟩ : ∃ z, z = List.replicate 4097 (0 : UInt8) := ⟨_, rfl⟩
  have hzl : 4096 < z.length := by rw [hz, List.length_replicate]; omega
  have hzl2 : z.length ≤ 1000000 := by rw [hz, List.length_replicate]; omega
  rw [← hz] at hv
  clear hz
  replace hS := hS.below hb
  refine hK _ _ hS ?_
  clear hK K hb
  simp only [Act.put, List.setIfInBounds_toArray, List.set_cons_zero, List.set_cons_succ]
  refine wpAnyH_oneG (i := 24) (by kernel_rfl) rfl rfl (fun K hK => ?_)
  refine wp_back_to (.tmp 74) rfl _ v _ rfl hv ?_
  refine hK _ _ hS ?_
  clear hK K hv
  simp only [Act.put, List.setIfInBounds_toArray, List.set_cons_zero, List.set_cons_succ]
  refine wpAnyH_oneG (i := 25) (by kernel_rfl) rfl rfl (fun K hK => ?_)
  refine wp_call_to 28 _ _ rfl Try.call28 #[(.agg (rowF 16 (byt k))), (.int .u64 (n : Int)), (.string ⟨(z).toArray⟩)] (by kernel_rfl) (crypt_over k n hn z hzl hzl2 _) ?_
  rintro e w9 ⟨rfl, hb⟩
  refine ⟨_, rfl, ?_⟩
  replace hS := hS.below hb
  refine hK _ _ hS ?_
  clear hK K hb
  simp only [Act.put, List.setIfInBounds_toArray, List.set_cons_zero, List.set_cons_succ]
  refine wpAnyH_runG (i := 26) rfl rfl (by kernel_rfl) (by kernel_rfl) (by kernel_rfl) (.bool true) (fun w hw => exec_bin rfl rfl rfl (by go_simp) (run_text_eq [] [] rfl w)) (fun _ _ _ h => h) hS ?_
  simp only [Act.put, List.setIfInBounds_toArray, List.set_cons_zero, List.set_cons_succ]
  refine wpAnyH_runG (i := 27) rfl rfl (by kernel_rfl) (by kernel_rfl) (by kernel_rfl) (.bool true) (fun w hw => rfl) (fun _ _ _ h => h) hS ?_
  simp only [Act.put, List.setIfInBounds_toArray, List.set_cons_zero, List.set_cons_succ]
  refine wpAnyH_runG (i := 28) rfl rfl (by kernel_rfl) (by kernel_rfl) (by kernel_rfl) (.bool true) (fun w hw => rfl) (fun _ _ _ h => h) hS ?_
  simp only [Act.put, List.setIfInBounds_toArray, List.set_cons_zero, List.set_cons_succ]
  refine wpAnyH_oneG (i := 29) (by kernel_rfl) rfl rfl (fun K hK => ?_)
  refine wp_call_to 27 _ _ rfl Try.call27 #[] (by kernel_rfl) (shown5_any _) ?_
  rintro e w10 ⟨rfl, hb⟩
  refine ⟨_, rfl, ?_⟩
  replace hS := hS.below hb
  refine hK _ _ hS ?_
  clear hK K hb
  simp only [Act.put, List.setIfInBounds_toArray, List.set_cons_zero, List.set_cons_succ]
  refine wpAnyH_runG (i := 30) rfl rfl (by kernel_rfl) (by kernel_rfl) (by kernel_rfl) (.bool true) (fun w hw => rfl) (fun _ _ _ h => h) hS ?_
  simp only [Act.put, List.setIfInBounds_toArray, List.set_cons_zero, List.set_cons_succ]
  refine wpAnyH_runG (i := 31) rfl rfl (by kernel_rfl) (by kernel_rfl) (by kernel_rfl) (.bool true) (fun w hw => rfl) (fun _ _ _ h => h) hS ?_
  simp only [Act.put, List.setIfInBounds_toArray, List.set_cons_zero, List.set_cons_succ]
  refine wpAnyH_done (by kernel_rfl) ?_ _
  go_wp2_with fail
  go_ret
  exact ⟨rfl, hS.bel⟩

set_option maxRecDepth 100000 in
set_option maxHeartbeats 4000000 in
theorem ctrEnds_bad (k : Nat → UInt8) (n : Nat) (hn : n < 18446744073709551616) (p : Int) (m : Nat) (hm : m < 256) (h1 : -9223372036854775808 ≤ p) (h2 : p ≤ 9223372036854775807) (hp : p < 0 ∨ 4096 < p + m) (W : World) :
    Calls Try.prog 12 #[.agg (rowF 16 (byt k)), .int .u64 (n : Int), .int .i64 p, .int .u8 (m : Int)] W fun e w' => e = .returned (.bool true) ∧ Below W.heap.size W w' := by
  have hS0 := KyS.start W k
  have i0 : (0 : Int) ≤ (m : Int) := by omega
  obtain ⟨v, w1, hr0, hv, hb1⟩ := run_make_zero 256 (by omega) (W.alloc (.cells (rowF 16 (byt k)) 28))
  have hr : (Instr.makeSlice 52 (.int .i64 256) (.int .i64 256)).run Try.prog (W.alloc (.cells (rowF 16 (byt k)) 28)) = .ok v w1 := hr0
  obtain ⟨z, hz⟩ : ∃ z, z = List.replicate 256 (0 : UInt8) := ⟨_, rfl⟩
  have hzl : (m : Int) ≤ (z.length : Int) := by rw [hz, List.length_replicate]; omega
  have hzm : (z.take m).length = m := by rw [hz, List.length_take, List.length_replicate]; omega
  rw [← hz] at hv
  have hcv := hv.back
  have HZ := Lib.hid hzm
  have hS1 := hS0.below hb1
  clear hz hzm hr0 hv hb1 hS0
  go_enter Try.func12, Try.ntmps12
  go_wp2_with (first | (refine wpList_load_has rfl 28 (.tmp 4) rfl _ rfl hS1.hk 5 und28 info28 ?_))
  clear hr hcv hzl
  rw [ba_take]
  have hzm := HZ.out
  clear HZ
  generalize z.take m = s at hzm ⊢
  refine (at_bad k n p s (by omega) (by omega) (by omega) (by omega) _).mono ?_
  rintro e w2 ⟨rfl, hb2⟩
  have hS2 := hS1.below hb2
  clear hS1 hb2 hzm
  go_wp2_with (first | (refine wpList_load_has rfl 28 (.tmp 4) rfl _ rfl hS2.hk 5 und28 info28 ?_))
  refine (stream_long k n hn _).mono ?_
  rintro e w3 ⟨rfl, hb3⟩
  have hS := hS2.below hb3
  have hL := sL_length k n 4096
  clear hS2 hb3
  generalize sL k n 4096 = L at hL ⊢
  by_cases c1 : p < 0
  · have d1 : decide (p < 0) = true := by simpa using c1
    clear hp
    go_wp2_with (first | (go_at_call 27; refine (shown5_any _).mono ?_; rintro e w4 ⟨rfl, hb4⟩))
    go_ret
    exact ⟨rfl, (hS.below hb4).bel⟩
  · have d1 : decide (p < 0) = false := by simpa using c1
    by_cases c2 : 4096 < p
    · have d2 : decide (4096 < p) = true := by simpa using c2
      clear hp
      go_wp2_with (first | (go_at_call 27; refine (shown5_any _).mono ?_; rintro e w4 ⟨rfl, hb4⟩))
      go_ret
      exact ⟨rfl, (hS.below hb4).bel⟩
    · have d2 : decide (4096 < p) = false := by simpa using c2
      have d3 : decide (4096 < p + (m : Int)) = true := by simp; omega
      have j0 : 0 ≤ p := by omega
      have j1 : p ≤ 4096 := by omega
      clear hp c1 c2
      go_wp2_with (first | (go_at_call 27; refine (shown5_any _).mono ?_; rintro e w4 ⟨rfl, hb4⟩))
      go_ret
      exact ⟨rfl, (hS.below hb4).bel⟩
theorem ctrEnds_any (k : Nat → UInt8) (n : Nat) (hn : n < 18446744073709551616) (p : Int) (m : Nat) (hm : m < 256) (h1 : -9223372036854775808 ≤ p) (h2 : p ≤ 9223372036854775807) (W : World) :
    Calls Try.prog 12 #[.agg (rowF 16 (byt k)), .int .u64 (n : Int), .int .i64 p, .int .u8 (m : Int)] W fun e w' => e = .returned (.bool true) ∧ Below W.heap.size W w' := by
  by_cases hp : p < 0 ∨ 4096 < p + m
  · exact ctrEnds_bad k n hn p m hm h1 h2 hp W
  · obtain ⟨q, rfl⟩ : ∃ q : Nat, p = (q : Int) := ⟨p.toNat, by omega⟩
    exact ctrEnds_good k n hn q m hm (by omega) W

end Go.Proofs.Ytjmeiloklhbllaa
