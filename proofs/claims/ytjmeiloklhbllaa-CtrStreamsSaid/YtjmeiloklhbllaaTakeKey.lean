/- The walk of the reference's TakeKey of a text of sixteen bytes. -/
import Derived.Test.YtjmeiloklhbllaaAppend
import Derived.Test.YtjmeiloklhbllaaShown
namespace Go.Proofs.Ytjmeiloklhbllaa
open Go.RowKit

/-- A text's bytes. -/
def ofL (l : List UInt8) : Nat → UInt8 := fun i => l.getD i 0

theorem wp_slice_16 {o : Oper} {a : Act} {w : World} {K : Act → World → Prop} {Q : Exit → Act → World → Prop} (x : Operand) (ho : o.op = .slice 9 x (some (.const (.int .i64 16))) none none) (l : List UInt8) (hl : l.length = 16)
    (hx : a.eval x = .string ⟨l.toArray⟩) (h : K (a.put o.dst (.string ⟨#[]⟩)) w) : OpWp Try.prog o a w K Q := by
  have hs : (⟨l.toArray⟩ : ByteArray).size = 16 := by simpa [ByteArray.size] using hl
  refine OpWp.mk ?_
  unfold Oper.wp execOp
  simp only [ho, hx]
  go_simp
  exact h
theorem results_cell_tmp_tmp {fn : Func} {p u v : Tmp} {ty : TypeId} (h : fn.results = #[.cell p ty, .tmp u, .tmp v]) (tmps : Array Value) (P : Program) (w : World) :
    (results fn tmps).run P w = ((asAddr (tmps.getD p undef)).run P w).andThen fun a w₁ => ((loadVar ty a).run P w₁).andThen fun x w₂ => .ok (.tuple #[x, tmps.getD u undef, tmps.getD v undef]) w₂ := by
  simp only [results, h]
  simp [Sem.run_bind, Result.andThen]
theorem ret_has3 {P : Program} {fn : Func} {R : Ending → World → Prop} {a : Act} {w : World} {p u v : Tmp} {ty : TypeId} (hr : fn.results = #[.cell p ty, .tmp u, .tmp v]) (b : Nat) (hp : a.tmps.getD p undef = .pointer (some ⟨b, 0, none⟩))
    {T : TypeId} {n : Nat} {g : Nat → Value} (hh : Has w b T n g) (e : TypeId) (hu : P.underlying ty = some (.array n e)) (hi : (P.info? ty).map (·.size) = some n) (hd : a.defers = [])
    (hR : R (.returned (.tuple #[.agg (rowF n g), a.tmps.getD u undef, a.tmps.getD v undef])) w) : bodyPost P fn R .ret a w := by
  refine bodyPost_ret (v := .tuple #[.agg (rowF n g), a.tmps.getD u undef, a.tmps.getD v undef]) ?_ hd hR
  have h1 := run_loadVar_has (P := P) hh ty 0 n e (by omega) hu hi
  simp only [Nat.zero_add] at h1
  rw [results_cell_tmp_tmp hr]
  simp only [hp, asAddr, Sem.run_pure, Result.andThen_ok, h1]
theorem two0 (w : World) : Below w.heap.size w ((w.alloc (.cells (rowF 16 (byt fun _ => 0)) 28)).alloc (.cells (rowF 16 (byt fun _ => 0)) 28)) ∧ Has ((w.alloc (.cells (rowF 16 (byt fun _ => 0)) 28)).alloc (.cells (rowF 16 (byt fun _ => 0)) 28)) w.heap.size 28 16 (byt fun _ => 0) ∧ Has ((w.alloc (.cells (rowF 16 (byt fun _ => 0)) 28)).alloc (.cells (rowF 16 (byt fun _ => 0)) 28)) (w.heap.size + 1) 28 16 (byt fun _ => 0) :=
  ⟨((Below.refl _ _).alloc (Nat.le_refl _) _).alloc (by simp) _, (Has.new _ _ _ _).alloc _, (by have := Has.new (w.alloc (.cells (rowF 16 (byt fun _ => 0)) 28)) 28 16 (byt fun _ => 0); simpa using this)⟩
set_option maxRecDepth 100000 in
set_option maxHeartbeats 1000000 in
theorem takeKey_any (l : List UInt8) (hl : l.length = 16) (w : World) :
    Calls Try.prog 41 #[.string ⟨l.toArray⟩] w fun e w' => e = .returned (.tuple #[.agg (rowF 16 (byt (ofL l))), .string ⟨#[]⟩, .int .i64 0]) ∧ Below w.heap.size w w' := by
  have hd0 : decide ((l.length : Int) < 16) = false := by rw [hl]; rfl
  go_enter Try.func41, Try.ntmps41
  go_wp2_with (first | (refine wpList_build_at rfl 28 #[] rfl [] (by kernel_rfl) (rowF 16 (byt fun _ => 0)) (by kernel_rfl) ?_) | (rw [zeros16]; refine wpList_store_has rfl 28 (.tmp 5) (.tmp 7) rfl _ rfl (two0 w).2.2 _ rfl info28 ?_))
  have hT := two0 w
  have hI0 : Below w.heap.size w (((w.alloc (.cells (rowF 16 (byt fun _ => 0)) 28)).alloc (.cells (rowF 16 (byt fun _ => 0)) 28)).setRow (w.heap.size + 1) (rowF 16 (byt fun _ => 0))) := Below.setRow hT.1 (by omega) _
  have hR0 := hT.2.1.setRowOther (w.heap.size + 1) (rowF 16 (byt fun _ => 0)) (by omega)
  have hX0 := hT.2.2.setRow (byt (upTo (ofL l) 0))
  rw [upTo_zero] at hX0
  clear hT
  generalize World.setRow _ _ _ = w0 at hI0 hR0 hX0 ⊢
  go_loopw [6] (fun v wr => ∃ i : Nat, i ≤ 16 ∧ v = .int .i64 i ∧ Below w.heap.size w wr ∧ Has wr w.heap.size 28 16 (byt fun _ => 0) ∧ Has wr (w.heap.size + 1) 28 16 (byt (upTo (ofL l) i))) (fun v _ => 16 - (intOf v).toNat)
  case atStart => exact ⟨0, by omega, rfl, hI0, hR0, by rw [upTo_zero]; exact hX0⟩
  case round =>
    clear hI0 hR0 hX0
    obtain ⟨i, hi, rfl, hI, hR, hX⟩ := hrel
    by_cases hlt : i < 16
    · have hd : decide ((i : Int) < 16) = true := by simp; omega
      have c1 := hX.cell hlt
      have f1 := hX.frozen i
      have hil : i < l.length := by omega
      go_wp2_with (refine wpList_at rfl (fun K hK => wp_index_text (.tmp 17) (.tmp 18) rfl l i (by omega) rfl rfl ?_); refine hK _ _ ?_; clear hK K; simp only [Act.put, List.setIfInBounds_toArray, List.set_cons_zero, List.set_cons_succ])
      go_roundw
      case rel => exact ⟨i + 1, by omega, by go_num, Below.setCell hI (p := ⟨w.heap.size + 1, i, none⟩) (by simp) _, hR.setOther _ _ (by simp), hX.upTo (by simp [ofL, hil])⟩
      case measure => simp [intOf]; omega
    · obtain rfl : i = 16 := by omega
      replace hX := hX.congr (g' := byt (ofL l)) (fun i hi => by simp [byt, upTo, hi])
      go_wp2_with fail
      refine wp_region_any (by kernel_rfl) ?_
      change wpAny _ _ _ _ _ _ _ (World.drew _)
      refine wpAny_mv (i := 1) rfl rfl rfl (by kernel_rfl) (by kernel_rfl) (by kernel_rfl) (.string ⟨l.toArray⟩) rfl (fun _ _ _ h => h) ?_
      simp only [Act.put, List.setIfInBounds_toArray, List.set_cons_zero, List.set_cons_succ]
      refine wpAny_two (i := 0) (j := 2) (by kernel_rfl) rfl rfl rfl rfl (fun K hK => ?_) (fun K hK => ?_)
      · skip
        refine wp_load_has 28 (.tmp 5) rfl (w.heap.size + 1) rfl hX.drew 5 und28 info28 ?_
        refine hK _ _ ?_
        clear hK K
        simp only [Act.put, List.setIfInBounds_toArray, List.set_cons_zero, List.set_cons_succ]
        refine wpAny_two (i := 2) (j := 3) (by kernel_rfl) rfl rfl rfl rfl (fun K hK => ?_) (fun K hK => ?_)
        · skip
          refine wp_slice_16 (.tmp 22) rfl l hl rfl ?_
          refine hK _ _ ?_
          clear hK K
          simp only [Act.put, List.setIfInBounds_toArray, List.set_cons_zero, List.set_cons_succ]
          refine wpAny_one (i := 3) (by kernel_rfl) rfl rfl (fun K hK => ?_)
          refine wp_store_has 28 (.tmp 2) (.tmp 21) rfl w.heap.size rfl hR.drew (ofL l) rfl info28 ?_
          refine hK _ _ ?_
          clear hK K
          simp only [Act.put]
          refine wpAny_one (i := 4) (by kernel_rfl) rfl rfl (fun K hK => ?_)
          refine OpWp.mk (BigFrame.wp_assign (.tmp 23) rfl ?_)
          refine hK _ _ ?_
          clear hK K
          simp only [Act.put, List.setIfInBounds_toArray, List.set_cons_zero, List.set_cons_succ]
          refine wpAny_one (i := 5) (by kernel_rfl) rfl rfl (fun K hK => ?_)
          refine OpWp.mk (BigFrame.wp_assign (.const (.int .i64 0)) rfl ?_)
          refine hK _ _ ?_
          clear hK K
          simp only [Act.put, List.setIfInBounds_toArray, List.set_cons_zero, List.set_cons_succ]
          refine wpAny_done (by kernel_rfl) ?_ _
          go_wp2_with fail
          exact ret_has3 (p := 2) (u := 3) (v := 4) (ty := 28) rfl _ rfl (hR.drew.setRow _) 5 und28 info28 rfl ⟨rfl, Below.setRow hI.drew (Nat.le_refl _) _⟩
        · skip
          refine wp_store_has 28 (.tmp 2) (.tmp 21) rfl w.heap.size rfl hR.drew (ofL l) rfl info28 ?_
          refine hK _ _ ?_
          clear hK K
          simp only [Act.put]
          refine wpAny_one (i := 2) (by kernel_rfl) rfl rfl (fun K hK => ?_)
          refine wp_slice_16 (.tmp 22) rfl l hl rfl ?_
          refine hK _ _ ?_
          clear hK K
          simp only [Act.put, List.setIfInBounds_toArray, List.set_cons_zero, List.set_cons_succ]
          refine wpAny_one (i := 4) (by kernel_rfl) rfl rfl (fun K hK => ?_)
          refine OpWp.mk (BigFrame.wp_assign (.tmp 23) rfl ?_)
          refine hK _ _ ?_
          clear hK K
          simp only [Act.put, List.setIfInBounds_toArray, List.set_cons_zero, List.set_cons_succ]
          refine wpAny_one (i := 5) (by kernel_rfl) rfl rfl (fun K hK => ?_)
          refine OpWp.mk (BigFrame.wp_assign (.const (.int .i64 0)) rfl ?_)
          refine hK _ _ ?_
          clear hK K
          simp only [Act.put, List.setIfInBounds_toArray, List.set_cons_zero, List.set_cons_succ]
          refine wpAny_done (by kernel_rfl) ?_ _
          go_wp2_with fail
          exact ret_has3 (p := 2) (u := 3) (v := 4) (ty := 28) rfl _ rfl (hR.drew.setRow _) 5 und28 info28 rfl ⟨rfl, Below.setRow hI.drew (Nat.le_refl _) _⟩
      · skip
        refine wp_slice_16 (.tmp 22) rfl l hl rfl ?_
        refine hK _ _ ?_
        clear hK K
        simp only [Act.put, List.setIfInBounds_toArray, List.set_cons_zero, List.set_cons_succ]
        refine wpAny_one (i := 0) (by kernel_rfl) rfl rfl (fun K hK => ?_)
        refine wp_load_has 28 (.tmp 5) rfl (w.heap.size + 1) rfl hX.drew 5 und28 info28 ?_
        refine hK _ _ ?_
        clear hK K
        simp only [Act.put, List.setIfInBounds_toArray, List.set_cons_zero, List.set_cons_succ]
        refine wpAny_one (i := 3) (by kernel_rfl) rfl rfl (fun K hK => ?_)
        refine wp_store_has 28 (.tmp 2) (.tmp 21) rfl w.heap.size rfl hR.drew (ofL l) rfl info28 ?_
        refine hK _ _ ?_
        clear hK K
        simp only [Act.put]
        refine wpAny_one (i := 4) (by kernel_rfl) rfl rfl (fun K hK => ?_)
        refine OpWp.mk (BigFrame.wp_assign (.tmp 23) rfl ?_)
        refine hK _ _ ?_
        clear hK K
        simp only [Act.put, List.setIfInBounds_toArray, List.set_cons_zero, List.set_cons_succ]
        refine wpAny_one (i := 5) (by kernel_rfl) rfl rfl (fun K hK => ?_)
        refine OpWp.mk (BigFrame.wp_assign (.const (.int .i64 0)) rfl ?_)
        refine hK _ _ ?_
        clear hK K
        simp only [Act.put, List.setIfInBounds_toArray, List.set_cons_zero, List.set_cons_succ]
        refine wpAny_done (by kernel_rfl) ?_ _
        go_wp2_with fail
        exact ret_has3 (p := 2) (u := 3) (v := 4) (ty := 28) rfl _ rfl (hR.drew.setRow _) 5 und28 info28 rfl ⟨rfl, Below.setRow hI.drew (Nat.le_refl _) _⟩

end Go.Proofs.Ytjmeiloklhbllaa
