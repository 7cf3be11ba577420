/- A region that draws its order and whose operations each yield one value in every world of a class: operation by operation; and more words for a region taken order by order. -/
import Derived.Test.YtjmeiloklhbllaaAny
namespace Go.Proofs.Ytjmeiloklhbllaa
open Go.RowKit

section
variable {P : Program} {ops : Array Oper} {rest : List Oper} {C : World → Prop} {Q : Act → Prop} {a : Act} {o : Oper} {K : Act → Prop}
/-- An operation that is carried out. -/
theorem wpQ_at (hw : Region.wanted o (yielded ops a.tmps) = true) (h : ∀ K : Act → Prop, (∀ a, wpQuiet P ops C Q rest a → K a) → o.quiet P a C K) : wpQuiet P ops C Q (o :: rest) a :=
  BigFrame.wpQuiet_want hw h
theorem q_move (x : Operand) (ho : o.op = .move x) (v : Value) (hv : a.eval x = v) (h : K (a.put o.dst v)) : o.quiet P a C K := by
  subst hv; exact BigFrame.quiet_move x ho h
theorem q_assign (x : Operand) (ho : o.op = .assign x) (v : Value) (hv : a.eval x = v) (h : K (a.put o.dst v)) : o.quiet P a C K := by
  subst hv; exact BigFrame.quiet_assign x ho h
theorem q_load (ty : TypeId) (x : Operand) (ho : o.op = .load ty x) (b off : Nat) (hx : a.eval x = .pointer (some ⟨b, off, none⟩)) {T : TypeId} {n : Nat} {g : Nat → Value} (hh : ∀ w, C w → Has w b T n g)
    (m e : Nat) (hm : off + m ≤ n) (hu : P.underlying ty = some (.array m e)) (hi : (P.info? ty).map (·.size) = some m) (v : Value) (hv : (.agg (rowF m fun j => g (off + j))) = v) (h : K (a.put o.dst v)) : o.quiet P a C K := by
  subst hv
  refine ⟨_, fun w hw => ?_, h⟩
  unfold Oper.quietAt execOp
  simp only [ho, hx, Instr.loadAt, Instr.sureAddr, Sem.run_bind, Sem.run_pure, Result.andThen_ok, run_loadVar_has (hh w hw) ty off m e hm hu hi]
  exact ⟨rfl, rfl⟩
theorem q_bin (op : BinOp) (T : TypeId) (x y : Operand) (U : TypeId) (ho : o.op = .binOp op T x y U) (vx vy v : Value) (hx : a.eval x = vx) (hy : a.eval y = vy)
    (hg : ∀ w, (eqGuard op T x y vx vy).run P w = .ok () w) (hr : ∀ w, (binOp op T vx vy).run P w = .ok v w) (h : K (a.put o.dst v)) : o.quiet P a C K := by
  refine ⟨v, fun w _ => ?_, h⟩
  unfold Oper.quietAt execOp
  simp only [ho, hx, hy, Sem.run_bind, hg, hr, Result.andThen_ok, Sem.run_pure]
  exact ⟨rfl, rfl⟩
theorem q_pick (c x y : Operand) (ho : o.op = .pick c x y) (t : Bool) (hc : a.eval c = .bool t) (v : Value) (hv : (if t then a.eval x else a.eval y) = v) (h : K (a.put o.dst v)) : o.quiet P a C K := by
  refine ⟨v, fun w _ => ?_, h⟩
  unfold Oper.quietAt execOp
  subst hv
  simp only [ho, hc, asBool, Sem.run_bind, Sem.run_pure, Result.andThen_ok]
  exact ⟨rfl, rfl⟩
/-- An operation whose run, in whatever world, is known. -/
theorem q_run (v : Value) (hr : ∀ w, (execOp a.eval o).run P w = .ok (.value v) w) (h : K (a.put o.dst v)) : o.quiet P a C K := by
  refine ⟨v, fun w _ => ?_, h⟩
  unfold Oper.quietAt
  rw [hr]
  exact ⟨rfl, rfl⟩
theorem q_index_addr (T : TypeId) (x i : Operand) (ho : o.op = .indexAddr T x i) (v : Value) (hr : ∀ w, (Instr.indexAt T (a.eval x) (a.eval i)).run P w = .ok v w) (h : K (a.put o.dst v)) : o.quiet P a C K := by
  refine ⟨v, fun w _ => ?_, h⟩
  unfold Oper.quietAt execOp
  simp only [ho, Sem.run_bind, hr, Result.andThen_ok, Sem.run_pure]
  exact ⟨rfl, rfl⟩
theorem q_call (f : FuncId) (xs : Array Operand) (ats : Array TypeId) (ho : o.op = .call { callee := .value (.func f), args := xs, argTypes := ats })
    (henter : ∀ (args : Array Value) (w : World), (callFunc f args).run P w = .ok (.enter f args) w) (args : Array Value) (hargs : xs.map a.eval = args) (v : Value)
    (hc : ∀ w, C w → Calls P f args w fun e w' => e = .returned v ∧ C w') (h : K (a.put o.dst v)) : o.quiet P a C K := by
  refine ⟨v, fun w hw => ?_, h⟩
  obtain ⟨dst, op, ty, pos, after, guard⟩ := o
  simp only at ho
  subst ho
  unfold Oper.quietAt
  rw [execOp_call_go]
  simp only [Array.append_empty, Array.empty_append, hargs, henter]
  exact ⟨rfl, hc w hw⟩
end
section
variable {P : Program} {ops : Array Oper} {Q : Exit → Act → World → Prop} {md : Region.Mode} {fuel : Nat} {listed : Array Bool} {a : Act} {w : World}
theorem wpAny_three {i j k : Nat} {oi oj ok : Oper} {ri rj rk : List Oper} (hr : Region.ready md ops listed = [i, j, k]) (hi' : ops.toList.drop i = oi :: ri) (hj' : ops.toList.drop j = oj :: rj) (hk' : ops.toList.drop k = ok :: rk)
    (hgi : oi.guard = none) (hgj : oj.guard = none) (hgk : ok.guard = none)
    (h1 : ∀ K : Act → World → Prop, (∀ a w, wpAny P md ops Q fuel (listed.setIfInBounds i true) a w → K a w) → OpWp P oi a w K Q)
    (h2 : ∀ K : Act → World → Prop, (∀ a w, wpAny P md ops Q fuel (listed.setIfInBounds j true) a w → K a w) → OpWp P oj a w K Q)
    (h3 : ∀ K : Act → World → Prop, (∀ a w, wpAny P md ops Q fuel (listed.setIfInBounds k true) a w → K a w) → OpWp P ok a w K Q) : wpAny P md ops Q (fuel + 1) listed a w :=
  wpAny_all hr (by simp) (by
    intro l hl
    rcases List.mem_cons.1 hl with rfl | hl
    · unfold wpOp
      rw [at_of_drop hi']
      simp only [Region.wanted, hgi, if_true]
      exact .inl (h1 _ fun _ _ h => h).out
    · rcases List.mem_cons.1 hl with rfl | hl
      · unfold wpOp
        rw [at_of_drop hj']
        simp only [Region.wanted, hgj, if_true]
        exact .inl (h2 _ fun _ _ h => h).out
      · simp only [List.mem_singleton] at hl
        subst hl
        unfold wpOp
        rw [at_of_drop hk']
        simp only [Region.wanted, hgk, if_true]
        exact .inl (h3 _ fun _ _ h => h).out)
/-- A new variable that holds the zero value. -/
theorem wp_alloc_to {o : Oper} {K : Act → World → Prop} (T : TypeId) (ho : o.op = .alloc T) (cs : Array Value) (hz : ∀ w, (zeroValue T).run P w = .ok (.agg cs) w)
    (h : K (a.put o.dst (.pointer (some ⟨w.heap.size, 0, none⟩))) (w.alloc (.cells cs T))) : OpWp P o a w K Q := by
  refine OpWp.mk ?_
  unfold Oper.wp execOp
  simp only [ho, Instr.alloc, Sem.run_bind, hz, Result.andThen_ok, newVar, newRow, Value.cells, run_newObj_alloc, Sem.run_pure]
  exact h
theorem wp_alloc_gen {o : Oper} {K : Act → World → Prop} (T : TypeId) (ho : o.op = .alloc T) (n : Nat) (g : Nat → Value) (hz : ∀ w, (zeroValue T).run P w = .ok (.agg (rowF n g)) w)
    (h : ∀ b w', w.heap.size ≤ b → Below w.heap.size w w' → Has w' b T n g → K (a.put o.dst (.pointer (some ⟨b, 0, none⟩))) w') : OpWp P o a w K Q :=
  wp_alloc_to T ho _ hz (h _ _ (Nat.le_refl _) ((Below.refl _ _).alloc (Nat.le_refl _) _) (Has.new w T n g))
/-- The frame hangs on a number (a new variable's block). -/
theorem wp_viaN {c : Code} {A : Nat → Act} (S : Nat → World → Prop) (h1 : ∀ K' : Act → World → Prop, (∀ b w', S b w' → K' (A b) w') → c.wp P (Exit.then K' Q) a w)
    (h2 : ∀ b w', S b w' → Q .normal (A b) w') : c.wp P Q a w :=
  wp_mono (h1 (Q .normal) h2) fun e a w h => by cases e <;> exact h
end

end Go.Proofs.Ytjmeiloklhbllaa
