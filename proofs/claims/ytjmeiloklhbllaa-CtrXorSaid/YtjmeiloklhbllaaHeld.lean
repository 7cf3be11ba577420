/- Words for chapter ctr: a block that '[]byte(s)' makes; a region that draws its order, where loads whose cells nobody writes are taken first. -/
import Derived.OrdersHeld
import Derived.Great.BuildSlice
import Derived.Test.YtjmeiloklhbllaaRefStream
import Derived.Test.YtjmeiloklhbllaaStream
import Derived.Test.YtjmeiloklhbllaaQuiet
namespace Go.Proofs.Ytjmeiloklhbllaa
open Go.RowKit

/-- Block g holds n cells of bytes, as f says; the run-time's mark lies behind them. -/
def HasT (w : World) (g n : Nat) (f : Nat → Value) : Prop := w.heap[g]? = some (.cells (rowF n f) 5 (n, n + 1))
namespace HasT
variable {w w' : World} {g n : Nat} {f : Nat → Value}
theorem lt (h : HasT w g n f) : g < w.heap.size := (Array.getElem?_eq_some_iff.1 h).1
theorem cell (h : HasT w g n f) {i : Nat} (hi : i < n) : w.cell? ⟨g, i, none⟩ = some (f i) := by
  rw [cell_of_row w g i _ 5 (n, n + 1) h]; exact rowF_get hi
theorem frozen (h : HasT w g n f) {i : Nat} (hi : i < n) : w.frozen? ⟨g, i, none⟩ = false := by
  simp [World.frozen?, show w.heap[g]? = _ from h]; omega
theorem set (h : HasT w g n f) (i : Nat) (v : Value) : HasT (w.setCell ⟨g, i, none⟩ v) g n (upd f i v) := by
  unfold HasT
  rw [setCell_eq_setRow w g i _ 5 (n, n + 1) v h, rowF_set]
  exact setRow_heap w g _ _ 5 _ h
theorem setOther (h : HasT w g n f) (a : Addr) (v : Value) (hb : g ≠ a.block) : HasT (w.setCell a v) g n f := by
  unfold HasT
  rw [heap_setCell_other w a g v hb]; exact h
theorem of_block (h : HasT w g n f) (e : w'.heap[g]? = w.heap[g]?) : HasT w' g n f := by unfold HasT; rw [e]; exact h
theorem alloc (h : HasT w g n f) (o : Obj) : HasT (w.alloc o) g n f := h.of_block (Below.heap_alloc w o g h.lt)
theorem below (h : HasT w g n f) {B : Nat} (hb : Below B w w') (hl : g < B) : HasT w' g n f := h.of_block (hb.block g hl)
theorem drew (h : HasT w g n f) : HasT w.drew g n f := h
end HasT
theorem bytesRow_eq (l : List UInt8) (cap : Nat) (h : l.length ≤ cap) : bytesRow ⟨l.toArray⟩ cap = rowF cap (byt (ofL l)) := by
  apply Array.ext_getElem?
  intro i
  unfold bytesRow
  have hs : (⟨l.toArray⟩ : ByteArray).size = l.length := by simp [ByteArray.size]
  rw [Array.getElem?_append]
  by_cases hi : i < cap
  · rw [rowF_get hi]
    by_cases hl : i < l.length
    · rw [if_pos (by simpa using hl)]
      simp [byt, ofL, hl]
    · rw [if_neg (by simpa using hl), Array.getElem?_replicate, hs, if_pos (by simp; omega)]
      simp [byt, ofL, hl]
  · rw [if_neg (by simp; omega), Array.getElem?_replicate, hs, if_neg (by simp; omega)]
    simp [rowF, hi]
/-- '[]byte(s)': a new block that begins with the text's bytes. -/
theorem run_bytes_to (l : List UInt8) (w : World) : ∃ cap w', (convert 9 52 (.string ⟨l.toArray⟩)).run Try.prog w = .ok (.slice (some ⟨w.heap.size, 0, none⟩) l.length cap) w' ∧ l.length ≤ cap ∧ Below w.heap.size w w' ∧ HasT w' w.heap.size cap (byt (ofL l)) := by
  have h := run_bytes_of_string (P := Try.prog) w 9 52 5 ⟨l.toArray⟩ Try.underlying9 Try.underlying52 Try.underlying5
  have hs : (⟨l.toArray⟩ : ByteArray).size = l.length := by simp [ByteArray.size]
  rw [hs] at h
  have hc := grownCap_ge w l.length 0 5
  rw [bytesRow_eq l _ hc, rowF_size] at h
  refine ⟨_, _, h, hc, ?_, ?_⟩
  · exact (Below.drew (Below.refl _ _)).alloc (Nat.le_refl _) _
  · exact heap_alloc_new w.drew _
theorem wp_bytes_gen {Q : Exit → Act → World → Prop} {a : Act} {w : World} {o : Oper} {K : Act → World → Prop} (x : Operand) (ho : o.op = .convert 9 52 x) (l : List UInt8) (n : Nat) (hl : l.length = n) (hx : a.eval x = .string ⟨l.toArray⟩)
    (h : ∀ g cap w', w.heap.size ≤ g → n ≤ cap → Below w.heap.size w w' → HasT w' g cap (byt (ofL l)) → K (a.put o.dst (.slice (some ⟨g, 0, none⟩) n cap)) w') : OpWp Try.prog o a w K Q := by
  subst hl
  obtain ⟨cap, w', hr, hc, hb, hh⟩ := run_bytes_to l w
  refine OpWp.mk ?_
  unfold Oper.wp execOp
  simp only [ho, hx, Sem.run_bind, hr, Result.andThen_ok, Sem.run_pure]
  exact h _ _ _ (Nat.le_refl _) hc hb hh

section
variable {P : Program} {ops : Array Oper} {Q : Exit → Act → World → Prop} {md : Region.Mode} {S : World → Prop} {fuel : Nat} {listed : Array Bool} {a : Act} {w : World}
theorem wpAnyH_weaken {S' : World → Prop} (hS : ∀ w, S' w → S w) : ∀ (fuel : Nat) (listed : Array Bool) (a : Act) (w : World), wpAnyH P md ops Q S' fuel listed a w → wpAnyH P md ops Q S fuel listed a w
  | 0, _, _, _, h => h
  | fuel + 1, _, _, _, h => ⟨h.1, fun i hi => wpOp_mono (fun _ _ h' => ⟨hS _ h'.1, wpAnyH_weaken hS fuel _ _ _ h'.2⟩) (h.2 i hi)⟩
theorem wpAnyH_one {i : Nat} {o : Oper} {r : List Oper} (hr : Region.ready md ops listed = [i]) (ho' : ops.toList.drop i = o :: r) (hg : o.guard = none)
    (h : ∀ K : Act → World → Prop, (∀ a w, S w → wpAnyH P md ops Q S fuel (listed.setIfInBounds i true) a w → K a w) → OpWp P o a w K Q) : wpAnyH P md ops Q S (fuel + 1) listed a w :=
  wpAnyH_all hr (by simp) (by
    intro j hj
    simp only [List.mem_singleton] at hj
    subst hj
    unfold wpOp
    rw [at_of_drop ho']
    simp only [Region.wanted, hg, if_true]
    exact .inl (h _ fun _ _ h1 h2 => ⟨h1, h2⟩).out)
theorem wpAnyH_two {i j : Nat} {oi oj : Oper} {ri rj : List Oper} (hr : Region.ready md ops listed = [i, j]) (hi' : ops.toList.drop i = oi :: ri) (hj' : ops.toList.drop j = oj :: rj) (hgi : oi.guard = none) (hgj : oj.guard = none)
    (h1 : ∀ K : Act → World → Prop, (∀ a w, S w → wpAnyH P md ops Q S fuel (listed.setIfInBounds i true) a w → K a w) → OpWp P oi a w K Q)
    (h2 : ∀ K : Act → World → Prop, (∀ a w, S w → wpAnyH P md ops Q S fuel (listed.setIfInBounds j true) a w → K a w) → OpWp P oj a w K Q) : wpAnyH P md ops Q S (fuel + 1) listed a w :=
  wpAnyH_all hr (by simp) (by
    intro k hk
    rcases List.mem_cons.1 hk with rfl | hk
    · unfold wpOp
      rw [at_of_drop hi']
      simp only [Region.wanted, hgi, if_true]
      exact .inl (h1 _ fun _ _ h1 h2 => ⟨h1, h2⟩).out
    · simp only [List.mem_singleton] at hk
      subst hk
      unfold wpOp
      rw [at_of_drop hj']
      simp only [Region.wanted, hgj, if_true]
      exact .inl (h2 _ fun _ _ h1 h2 => ⟨h1, h2⟩).out)
/-- An operation whose run is known in every world that meets S is taken first. -/
theorem wpAnyH_run {i : Nat} {o : Oper} {r : List Oper} (ho' : ops.toList.drop i = o :: r) (hg : o.guard = none) (hs : Region.noSelect ops = true) (hf : Region.free md ops listed i = true) (hr : (Region.ready md ops listed).contains i = true)
    (v : Value) (hv : ∀ w, S w → (execOp a.eval o).run P w = .ok (.value v) w)
    (hQ : ∀ c (a : Act) w, Q (.panic c) (a.put o.dst v) w → Q (.panic c) a w) (hS : S w)
    (h : wpAnyH P md ops Q S fuel (listed.setIfInBounds i true) (a.put o.dst v) w) : wpAnyH P md ops Q S (fuel + 1) listed a w :=
  wpAnyH_take (at_of_drop ho') hs hf hr hQ (.inl ⟨by simp [Region.wanted, hg], hv⟩) hS h
end
/-- The first cells of a block of bytes as a whole array. -/
theorem run_loadVar_hasT {w : World} {g n : Nat} {f : Nat → Value} (hh : HasT w g n f) (ty m e : Nat) (hm : m ≤ n) (hu : Try.prog.underlying ty = some (.array m e)) (hi : (Try.prog.info? ty).map (·.size) = some m) :
    (loadVar ty ⟨g, 0, none⟩).run Try.prog w = .ok (.agg (rowF m f)) w := by
  have hc : w.rangeAt g 0 (rowF m f).toList := by
    intro j v hv
    rw [Array.getElem?_toList] at hv
    by_cases hj : j < m
    · rw [rowF_get hj] at hv
      rw [hh.cell (by omega), ← hv, Nat.zero_add]
    · simp [rowF, hj] at hv
  have := run_loadVar_mid (P := Try.prog) w g 0 ty _ _ hc hu rfl (by rw [Array.length_toList, rowF_size]; exact hi)
  simpa using this
/-- One cell, loaded. -/
theorem exec_load_cell {P : Program} {w : World} {ρ : Operand → Value} {o : Oper} {ty : TypeId} {x : Operand} (ho : o.op = .load ty x) {a : Addr} (hx : ρ x = .pointer (some a)) {v : Value} (hr : (loadVar ty a).run P w = .ok v w) : (execOp ρ o).run P w = .ok (.value v) w := by
  unfold execOp
  simp only [ho, hx, Instr.loadAt, Instr.sureAddr, Sem.run_bind, Sem.run_pure, Result.andThen_ok, hr]

end Go.Proofs.Ytjmeiloklhbllaa
