/- A region that draws its order, taken order by order: one operation that may come up, or two; a call by its contract. -/
import Derived.Test.YtjmeiloklhbllaaBase
namespace Go.Proofs.Ytjmeiloklhbllaa
open Go.RowKit

/-- 'o.wp', which nothing unfolds. -/
def OpWp (P : Program) (o : Oper) (a : Act) (w : World) (K : Act → World → Prop) (Q : Exit → Act → World → Prop) : Prop := o.wp P a w K Q
theorem OpWp.mk {P : Program} {o : Oper} {a : Act} {w : World} {K : Act → World → Prop} {Q : Exit → Act → World → Prop} (h : o.wp P a w K Q) : OpWp P o a w K Q := h
theorem OpWp.out {P : Program} {o : Oper} {a : Act} {w : World} {K : Act → World → Prop} {Q : Exit → Act → World → Prop} (h : OpWp P o a w K Q) : o.wp P a w K Q := h
attribute [irreducible] OpWp
theorem at_of_drop {ops : Array Oper} {i : Nat} {o : Oper} {r : List Oper} (h : ops.toList.drop i = o :: r) : ops[i]? = some o := by
  rw [← Array.getElem?_toList]
  have := congrArg (fun l : List Oper => l[0]?) h
  simpa using this
section
variable {P : Program} {ops : Array Oper} {Q : Exit → Act → World → Prop} {md : Region.Mode} {fuel : Nat} {listed : Array Bool} {a : Act} {w : World}
theorem wpAny_one {i : Nat} {o : Oper} {r : List Oper} (hr : Region.ready md ops listed = [i]) (ho' : ops.toList.drop i = o :: r) (hg : o.guard = none)
    (h : ∀ K : Act → World → Prop, (∀ a w, wpAny P md ops Q fuel (listed.setIfInBounds i true) a w → K a w) → OpWp P o a w K Q) : wpAny P md ops Q (fuel + 1) listed a w :=
  wpAny_all hr (by simp) (by
    have ho : ops[i]? = some o := at_of_drop ho'
    intro j hj
    simp only [List.mem_singleton] at hj
    subst hj
    unfold wpOp
    rw [ho]
    simp only [Region.wanted, hg, if_true]
    exact .inl (h _ fun _ _ h => h).out)
theorem wpAny_two {i j : Nat} {oi oj : Oper} {ri rj : List Oper} (hr : Region.ready md ops listed = [i, j]) (hi' : ops.toList.drop i = oi :: ri) (hj' : ops.toList.drop j = oj :: rj) (hgi : oi.guard = none) (hgj : oj.guard = none)
    (h1 : ∀ K : Act → World → Prop, (∀ a w, wpAny P md ops Q fuel (listed.setIfInBounds i true) a w → K a w) → OpWp P oi a w K Q)
    (h2 : ∀ K : Act → World → Prop, (∀ a w, wpAny P md ops Q fuel (listed.setIfInBounds j true) a w → K a w) → OpWp P oj a w K Q) : wpAny P md ops Q (fuel + 1) listed a w :=
  wpAny_all hr (by simp) (by
    have hi : ops[i]? = some oi := at_of_drop hi'
    have hj : ops[j]? = some oj := at_of_drop hj'
    intro k hk
    rcases List.mem_cons.1 hk with rfl | hk
    · unfold wpOp
      rw [hi]
      simp only [Region.wanted, hgi, if_true]
      exact .inl (h1 _ fun _ _ h => h).out
    · simp only [List.mem_singleton] at hk
      subst hk
      unfold wpOp
      rw [hj]
      simp only [Region.wanted, hgj, if_true]
      exact .inl (h2 _ fun _ _ h => h).out)
/-- A copy may be taken first. -/
theorem wpAny_mv {i : Nat} {o : Oper} {r : List Oper} {x : Operand} (ho' : ops.toList.drop i = o :: r) (hx : o.op = .move x) (hg : o.guard = none) (hs : Region.noSelect ops = true) (hf : Region.free md ops listed i = true) (hr : (Region.ready md ops listed).contains i = true)
    (v : Value) (hv : a.eval x = v)
    (hQ : ∀ c (a : Act) w, Q (.panic c) (a.put o.dst v) w → Q (.panic c) a w)
    (h : wpAny P md ops Q fuel (listed.setIfInBounds i true) (a.put o.dst v) w) : wpAny P md ops Q (fuel + 1) listed a w :=
  wpAny_take (at_of_drop ho') hs hf hr hQ (.inl ⟨by simp [Region.wanted, hg], fun w => by unfold execOp; rw [hx]; simp only [hv]; rfl⟩) h
/-- A call of a named function, by its contract. -/
theorem wp_call_to {o : Oper} {K : Act → World → Prop} (f : FuncId) (xs : Array Operand) (ats : Array TypeId) (ho : o.op = .call { callee := .value (.func f), args := xs, argTypes := ats })
    (henter : ∀ (args : Array Value) (w : World), (callFunc f args).run P w = .ok (.enter f args) w) (args : Array Value) (hargs : xs.map a.eval = args) {R : Ending → World → Prop} (hc : Calls P f args w R)
    (hR : ∀ e w', R e w' → ∃ v, e = .returned v ∧ K (a.put o.dst v) w') : OpWp P o a w K Q := by
  refine OpWp.mk ?_
  obtain ⟨dst, op, ty, pos, after, guard⟩ := o
  simp only at ho
  subst ho
  unfold Oper.wp
  rw [execOp_call_go]
  simp only [Array.append_empty, Array.empty_append, hargs, henter, Oper.upon_enter]
  refine hc.mono ?_
  intro e w' hr
  obtain ⟨v, rfl, hk⟩ := hR e w' hr
  exact hk
theorem wp_load_has {o : Oper} {K : Act → World → Prop} (ty : TypeId) (x : Operand) (ho : o.op = .load ty x) (b : Nat) (hx : a.eval x = .pointer (some ⟨b, 0, none⟩))
    {T : TypeId} {n : Nat} {g : Nat → Value} (hh : Has w b T n g) (e : TypeId) (hu : P.underlying ty = some (.array n e)) (hi : (P.info? ty).map (·.size) = some n)
    (h : K (a.put o.dst (.agg (rowF n g))) w) : OpWp P o a w K Q :=
  OpWp.mk (wp_load_row ty x ho b hx T _ (0, 0) _ hh hu rfl (by rw [rowF_size]; exact hi) h)
theorem wp_store_has {o : Oper} {K : Act → World → Prop} (ty : TypeId) (x y : Operand) (ho : o.op = .store ty x y) (b : Nat) (hx : a.eval x = .pointer (some ⟨b, 0, none⟩))
    {T : TypeId} {n : Nat} {g : Nat → Value} (hh : Has w b T n g) (f : Nat → UInt8) (hy : a.eval y = .agg (rowF n (byt f))) (hi : (P.info? ty).map (·.size) = some n)
    (h : K (a.put o.dst undef) (w.setRow b (rowF n (byt f)))) : OpWp P o a w K Q :=
  OpWp.mk (wp_store_row ty x y ho b _ hx hy T _ hh (by rw [rowF_size]; exact hi) (by rw [rowF_size, rowF_size]) (rowF_oneCell n f) h)
end
/-- What stands behind a piece of code is shown of whatever world it may leave; the frame is read off the first way. -/
theorem wp_via {P : Program} {c : Code} {K : Act → World → Prop} {Q : Exit → Act → World → Prop} {a : Act} {w : World} {A : Act} (S : World → Prop) (h1 : ∀ K' : Act → World → Prop, (∀ w', S w' → K' A w') → c.wp P (Exit.then K' Q) a w)
    (h2 : ∀ w', S w' → K A w') : c.wp P (Exit.then K Q) a w := h1 K h2
theorem wp_build_to {P : Program} {Q : Exit → Act → World → Prop} {a : Act} {w : World} {o : Oper} {K : Act → World → Prop} (t : TypeId) (parts : Array (Nat × Operand)) (ho : o.op = .build t parts)
    (l : List (Nat × Value)) (hl : (parts.map fun (i, x) => (i, a.eval x)).toList = l) (cells : Array Value) (hf : P.built t l = some cells) (h : K (a.put o.dst (.agg cells)) w) : OpWp P o a w K Q :=
  OpWp.mk (wp_build t parts ho (by rw [hl, hf]; rfl) (by rw [hl, hf]; exact h))
theorem wp_bin_to {P : Program} {Q : Exit → Act → World → Prop} {a : Act} {w : World} {o : Oper} {K : Act → World → Prop} (op : BinOp) (T : TypeId) (x y : Operand) (U : TypeId) (ho : o.op = .binOp op T x y U) (vx vy v : Value) (hx : a.eval x = vx) (hy : a.eval y = vy)
    (hg : (eqGuard op T x y vx vy).run P w = .ok () w) (hr : (binOp op T vx vy).run P w = .ok v w) (h : K (a.put o.dst v) w) : OpWp P o a w K Q := by
  refine OpWp.mk ?_
  unfold Oper.wp execOp
  simp only [ho, hx, hy, Sem.run_bind, hg, hr, Result.andThen_ok, Sem.run_pure]
  exact h
/-- An operation whose guard says yes. -/
theorem wpList_at {P : Program} {ops : Array Oper} {Q : Exit → Act → World → Prop} {a : Act} {w : World} {o : Oper} {rest : List Oper} (hw : Region.wanted o (yielded ops a.tmps) = true)
    (h : ∀ K : Act → World → Prop, (∀ a w, wpList P ops Q rest a w → K a w) → OpWp P o a w K Q) : wpList P ops Q (o :: rest) a w :=
  BigFrame.wpList_want hw fun K hK => (h K hK).out
theorem wp_via2 {P : Program} {c : Code} {Q : Exit → Act → World → Prop} {a : Act} {w : World} {A : Act} (S : World → Prop) (h1 : ∀ K' : Act → World → Prop, (∀ w', S w' → K' A w') → c.wp P (Exit.then K' Q) a w)
    (h2 : ∀ w', S w' → Q .normal A w') : c.wp P Q a w :=
  wp_mono (h1 (Q .normal) h2) fun e a w h => by cases e <;> exact h

end Go.Proofs.Ytjmeiloklhbllaa
