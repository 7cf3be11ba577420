/- Words and small laws that all texts of this seat use: a block of cells given by number, the bytes in it, what a store does to it. No condition. -/
import Derived.Test.YtjmeiloklhbllaaRows
import Derived.WalkKit
import Derived.WalkSpells
import Derived.WalkLawsBesides
import Derived.StillTailTactics
import Derived.BigQuiet
import Derived.Deep.QuietTactic
import Derived.Deep.MidRow
import Derived.Deep.WholeRow
import Derived.Lib.Hide
import Derived.Test.YtjmeiloklhbllaaDefs
namespace Go.Proofs.Ytjmeiloklhbllaa
open Go.RowKit

/-- n cells, each given by its number. -/
def rowF (n : Nat) (g : Nat → Value) : Array Value := Array.ofFn (n := n) fun i => g i
/-- A byte as a value. -/
def byt (f : Nat → UInt8) : Nat → Value := fun i => .int .u8 ((f i).toNat : Int)
/-- g, but v at i. -/
def upd {α : Type} (g : Nat → α) (i : Nat) (v : α) : Nat → α := fun j => if j = i then v else g j

theorem upd_same {α : Type} (g : Nat → α) (i : Nat) (v : α) : upd g i v i = v := by simp [upd]
theorem upd_other {α : Type} (g : Nat → α) (i j : Nat) (v : α) (h : j ≠ i) : upd g i v j = g j := by simp [upd, h]
theorem upd_byt (f : Nat → UInt8) (i : Nat) (u : UInt8) : upd (byt f) i (.int .u8 (u.toNat : Int)) = byt (upd f i u) := by
  funext j; simp only [upd, byt]; split <;> rfl

theorem rowF_size (n : Nat) (g : Nat → Value) : (rowF n g).size = n := by simp [rowF]
theorem rowF_get {n : Nat} {g : Nat → Value} {i : Nat} (h : i < n) : (rowF n g)[i]? = some (g i) := by simp [rowF, h]
theorem rowF_congr {n : Nat} {g h : Nat → Value} (e : ∀ i, i < n → g i = h i) : rowF n g = rowF n h := by
  apply Array.ext_getElem?; intro i
  by_cases hi : i < n
  · rw [rowF_get hi, rowF_get hi, e i hi]
  · simp [rowF, hi]
theorem rowF_set (n : Nat) (g : Nat → Value) (i : Nat) (v : Value) : (rowF n g).setIfInBounds i v = rowF n (upd g i v) := by
  apply Array.ext_getElem?; intro j
  rw [Array.getElem?_setIfInBounds]
  by_cases hj : j < n
  · rw [rowF_get hj, rowF_get hj]
    by_cases h : i = j
    · subst h; simp [rowF_size, hj, upd_same]
    · simp [h, upd_other g i j v (fun e => h e.symm)]
  · have hn : ¬ j < (rowF n g).size := by rw [rowF_size]; exact hj
    by_cases h : i = j
    · subst h; simp [rowF, hj]
    · simp [rowF, hj, h]
theorem byt_inj {f g : Nat → UInt8} {i j : Nat} (h : byt f i = byt g j) : f i = g j := by
  simp only [byt, Value.int.injEq, true_and] at h
  exact UInt8.toNat_inj.1 (by omega)
theorem rowF_byt_iff (n : Nat) (f g : Nat → UInt8) : rowF n (byt f) = rowF n (byt g) ↔ ∀ i, i < n → f i = g i := by
  constructor
  · intro h i hi
    have := congrArg (fun a : Array Value => a[i]?) h
    simp only [rowF_get hi, Option.some.injEq] at this
    exact byt_inj this
  · intro h
    exact rowF_congr fun i hi => by simp only [byt, h i hi]

theorem rowF_oneCell (n : Nat) (f : Nat → UInt8) : (rowF n (byt f)).all (·.oneCell') = true := by
  rw [Array.all_eq_true]
  intro i hi
  have hn : i < n := by rw [rowF_size] at hi; exact hi
  have : (rowF n (byt f))[i] = byt f i := by
    have := rowF_get (n := n) (g := byt f) hn
    rw [Array.getElem?_eq_getElem hi] at this
    exact Option.some.inj this
  rw [this]; rfl

/-- Block b holds n cells of type T, as g says; none is frozen. -/
def Has (w : World) (b : Nat) (T : TypeId) (n : Nat) (g : Nat → Value) : Prop := w.heap[b]? = some (.cells (rowF n g) T (0, 0))

namespace Has
variable {w w' : World} {b : Nat} {T : TypeId} {n : Nat} {g : Nat → Value}
theorem lt (h : Has w b T n g) : b < w.heap.size := (Array.getElem?_eq_some_iff.1 h).1
theorem cell (h : Has w b T n g) {i : Nat} (hi : i < n) : w.cell? ⟨b, i, none⟩ = some (g i) := by
  rw [cell_of_row w b i _ T (0, 0) h]; exact rowF_get hi
theorem frozen (h : Has w b T n g) (i : Nat) : w.frozen? ⟨b, i, none⟩ = false := frozen_of_row w b i _ T h
theorem set (h : Has w b T n g) (i : Nat) (v : Value) : Has (w.setCell ⟨b, i, none⟩ v) b T n (upd g i v) := by
  unfold Has
  rw [heap_setCell_same w b i _ T v h, rowF_set]
theorem setOther (h : Has w b T n g) (a : Addr) (v : Value) (hb : b ≠ a.block) : Has (w.setCell a v) b T n g := by
  unfold Has
  rw [heap_setCell_other w a b v hb]; exact h
theorem alloc (h : Has w b T n g) (o : Obj) : Has (w.alloc o) b T n g := by
  unfold Has
  rw [Below.heap_alloc w o b h.lt]; exact h
theorem new (w : World) (T : TypeId) (n : Nat) (g : Nat → Value) : Has (w.alloc (.cells (rowF n g) T)) w.heap.size T n g := heap_alloc_new w _
theorem drew (h : Has w b T n g) : Has w.drew b T n g := h
theorem of_block (h : Has w b T n g) (e : w'.heap[b]? = w.heap[b]?) : Has w' b T n g := by unfold Has; rw [e]; exact h
theorem below (h : Has w b T n g) {B : Nat} (hb : Below B w w') (hl : b < B) : Has w' b T n g := h.of_block (hb.block b hl)
theorem congr {g' : Nat → Value} (h : Has w b T n g) (e : ∀ i, i < n → g i = g' i) : Has w b T n g' := by
  unfold Has; rw [← rowF_congr e]; exact h
theorem setRow (h : Has w b T n g) (g' : Nat → Value) : Has (w.setRow b (rowF n g')) b T n g' := setRow_heap w b _ _ T _ h
theorem setRowOther (h : Has w b T n g) (c : Nat) (cs : Array Value) (hb : b ≠ c) : Has (w.setRow c cs) b T n g := by
  unfold Has
  rw [setRow_other w c b cs hb]; exact h
end Has

theorem Below.setRow {B : Nat} {a w : World} (h : Below B a w) {c : Nat} (hp : B ≤ c) (cs : Array Value) : Below B a (w.setRow c cs) :=
  h.trans ⟨rfl, rfl, rfl, by simp, fun k hk => setRow_other _ _ _ _ (by omega)⟩

/-- Sixteen zeros, as the walk writes them. -/
theorem zeros16 : (#[.int .u8 0, .int .u8 0, .int .u8 0, .int .u8 0, .int .u8 0, .int .u8 0, .int .u8 0, .int .u8 0, .int .u8 0, .int .u8 0, .int .u8 0, .int .u8 0, .int .u8 0, .int .u8 0, .int .u8 0, .int .u8 0] : Array Value) = rowF 16 (byt fun _ => 0) := rfl

section
variable {P : Program} {ops : Array Oper} {rest : List Oper} {o : Oper} {a : Act} {w : World} {Q : Exit → Act → World → Prop}
/-- A whole array out of a block that holds it. -/
theorem wpList_load_has (hgd : o.guard = none) (ty : TypeId) (x : Operand) (ho : o.op = .load ty x) (b : Nat) (hx : a.eval x = .pointer (some ⟨b, 0, none⟩))
    {T : TypeId} {n : Nat} {g : Nat → Value} (hh : Has w b T n g) (e : TypeId) (hu : P.underlying ty = some (.array n e)) (hi : (P.info? ty).map (·.size) = some n)
    (h : wpList P ops Q rest (a.put o.dst (.agg (rowF n g))) w) : wpList P ops Q (o :: rest) a w :=
  wpList_load_row hgd ty x ho b hx T _ (0, 0) _ hh hu rfl (by rw [rowF_size]; exact hi) h
/-- A whole array of bytes into a block that holds one. -/
theorem wpList_store_has (hgd : o.guard = none) (ty : TypeId) (x y : Operand) (ho : o.op = .store ty x y) (b : Nat) (hx : a.eval x = .pointer (some ⟨b, 0, none⟩))
    {T : TypeId} {n : Nat} {g : Nat → Value} (hh : Has w b T n g) (f : Nat → UInt8) (hy : a.eval y = .agg (rowF n (byt f))) (hi : (P.info? ty).map (·.size) = some n)
    (h : wpList P ops Q rest (a.put o.dst undef) (w.setRow b (rowF n (byt f)))) : wpList P ops Q (o :: rest) a w :=
  wpList_store_row hgd ty x y ho b _ hx hy T _ hh (by rw [rowF_size]; exact hi) (by rw [rowF_size, rowF_size]) (rowF_oneCell n f) h
end

/-- An array or a struct that is written out. -/
theorem wpList_build_is {P : Program} {ops : Array Oper} {rest : List Oper} {o : Oper} {a : Act} {w : World} {Q : Exit → Act → World → Prop} (hgd : o.guard = none) (t : TypeId) (parts : Array (Nat × Operand)) (ho : o.op = .build t parts) (cells : Array Value)
    (hf : P.built t (parts.map fun (i, x) => (i, a.eval x)).toList = some cells) (h : wpList P ops Q rest (a.put o.dst (.agg cells)) w) : wpList P ops Q (o :: rest) a w :=
  wpList_plain hgd fun _ hK => wp_build t parts ho (by rw [hf]; rfl) (by rw [hf]; exact hK _ _ h)
theorem wpList_build_at {P : Program} {ops : Array Oper} {rest : List Oper} {o : Oper} {a : Act} {w : World} {Q : Exit → Act → World → Prop} (hgd : o.guard = none) (t : TypeId) (parts : Array (Nat × Operand)) (ho : o.op = .build t parts)
    (l : List (Nat × Value)) (hl : (parts.map fun (i, x) => (i, a.eval x)).toList = l) (cells : Array Value) (hf : P.built t l = some cells) (h : wpList P ops Q rest (a.put o.dst (.agg cells)) w) : wpList P ops Q (o :: rest) a w :=
  wpList_build_is hgd t parts ho cells (by rw [hl]; exact hf) h
/-- An array or a struct gets a variable of its own. -/
theorem wpList_box_agg {P : Program} {ops : Array Oper} {rest : List Oper} {o : Oper} {a : Act} {w : World} {Q : Exit → Act → World → Prop} (hgd : o.guard = none) (T : TypeId) (x : Operand) (ho : o.op = .box T x) (cs : Array Value) (hx : a.eval x = .agg cs)
    (h : wpList P ops Q rest (a.put o.dst (.pointer (some ⟨w.heap.size, 0, none⟩))) (w.alloc (.cells cs T))) : wpList P ops Q (o :: rest) a w :=
  wpList_plain hgd fun K hK => by
    unfold Oper.wp execOp
    simp only [ho, hx, Instr.box, newVar, newRow, Value.cells, Sem.run_bind, Sem.run_pure, Result.andThen_ok, run_newObj_alloc]
    exact hK _ _ h
/-- The result is a whole array that lies in memory. -/
theorem ret_has {P : Program} {fn : Func} {R : Ending → World → Prop} {a : Act} {w : World} {p : Tmp} {ty : TypeId} (hr : fn.results = #[.cell p ty]) (b : Nat) (hp : a.tmps.getD p undef = .pointer (some ⟨b, 0, none⟩))
    {T : TypeId} {n : Nat} {g : Nat → Value} (hh : Has w b T n g) (e : TypeId) (hu : P.underlying ty = some (.array n e)) (hi : (P.info? ty).map (·.size) = some n) (hd : a.defers = [])
    (hR : R (.returned (.agg (rowF n g))) w) : bodyPost P fn R .ret a w :=
  bodyPost_ret (results_cell_row hr _ _ b T _ (0, 0) _ hp hh hu rfl (by rw [rowF_size]; exact hi)) hd hR

/-! Bytes. -/
theorem u8_xor_B (x y : UInt8) : bits .xor .u8 (x.toNat : Int) (y.toNat : Int) = ((x ^^^ y).toNat : Int) := by
  rw [u8_xor_nat _ _ x.toNat_lt y.toNat_lt, UInt8.toNat_xor]
theorem u8_and_B (x y : UInt8) : bits .and .u8 (x.toNat : Int) (y.toNat : Int) = ((x &&& y).toNat : Int) := by
  rw [u8_and_nat _ _ x.toNat_lt y.toNat_lt, UInt8.toNat_and]
theorem u8_neg_B (x : UInt8) : (-(x.toNat : Int)) % (256 : Int) = (((0 : UInt8) - x).toNat : Int) := by
  have h := x.toNat_lt
  rw [UInt8.toNat_sub]; simp; omega
theorem u8_shr7_B (x : UInt8) : ((x.toNat : Int) / (128 : Int)) = ((x >>> 7).toNat : Int) := by
  have h := x.toNat_lt
  rw [UInt8.toNat_shiftRight]; simp [Nat.shiftRight_eq_div_pow]
theorem u8_shr1_B (x : UInt8) : ((x.toNat : Int) / (2 : Int)) = ((x >>> 1).toNat : Int) := by
  rw [UInt8.toNat_shiftRight]; simp [Nat.shiftRight_eq_div_pow]
theorem u8_shl1_B (x : UInt8) : ((x.toNat : Int) * (2 : Int) % (256 : Int)) = ((x <<< 1).toNat : Int) := by
  rw [UInt8.toNat_shiftLeft]; simp [Nat.shiftLeft_eq]
theorem u8_ofNat_B (j : Nat) (h : j < 256) : ((UInt8.ofNat j).toNat : Int) = (j : Int) := by
  rw [UInt8.toNat_ofNat']; congr 1; omega
theorem zero33 : Try.zeroCells33 = rowF 256 (byt fun _ => 0) := by kernel_rfl
theorem info28 : (Try.prog.info? 28).map (·.size) = some 16 := by kernel_rfl
theorem info33 : (Try.prog.info? 33).map (·.size) = some 256 := by kernel_rfl
theorem info74 : (Try.prog.info? 74).map (·.size) = some 4 := by kernel_rfl
theorem info31 : (Try.prog.info? 31).map (·.size) = some 176 := by kernel_rfl
theorem und28 : Try.prog.underlying 28 = some (.array 16 5) := by kernel_rfl
theorem und33 : Try.prog.underlying 33 = some (.array 256 5) := by kernel_rfl
theorem und74 : Try.prog.underlying 74 = some (.array 4 5) := by kernel_rfl
theorem und31 : Try.prog.underlying 31 = some (.array 11 28) := by kernel_rfl


/-- A cell of an array, by value. -/
theorem run_index_rowF {P : Program} (w : World) (T E n : Nat) (f : Nat → UInt8) (k : IntKind) (j : Nat) (hj : j < n) (hT : P.underlying T = some (.array n E)) (hE : P.underlying E = some (.int .u8)) (hz : (P.info? E).map (·.size) = some 1) :
    (Instr.index T (.agg (rowF n (byt f))) (.int k (j : Int))).run P w = .ok (.int .u8 ((f j).toNat : Int)) w := by
  have hi : (sizeOf E).run P w = .ok 1 w := by
    cases hq : P.info? E with
    | none => simp [hq] at hz
    | some i => simp [sizeOf, typeInfo, hq]; simpa [hq] using hz
  have ha : (isAgg E).run P w = .ok false w := by
    unfold isAgg; rw [Sem.run_bind, run_underlying hE w]; rfl
  unfold Instr.index
  simp only [asIntOf, Sem.run_bind, Sem.run_pure, Result.andThen_ok, run_underlying hT w]
  rw [if_pos ⟨by omega, by omega⟩]
  simp [Sem.run_bind, hi, part, ha, rowF_get hj, byt]

/-- g, but h from o on, m cells of it. -/
def updR (g : Nat → Value) (o m : Nat) (h : Nat → Value) : Nat → Value := fun j => if o ≤ j ∧ j < o + m then h (j - o) else g j
section
variable {P : Program} {w : World} {b : Nat} {T : TypeId} {n : Nat} {g : Nat → Value}
/-- A whole array out of the middle of a block. -/
theorem run_loadVar_has (hh : Has w b T n g) (ty off m e : Nat) (hm : off + m ≤ n) (hu : P.underlying ty = some (.array m e)) (hi : (P.info? ty).map (·.size) = some m) :
    (loadVar ty ⟨b, off, none⟩).run P w = .ok (.agg (rowF m fun j => g (off + j))) w := by
  have hc : w.rangeAt b off (rowF m fun j => g (off + j)).toList := by
    intro j v hv
    rw [Array.getElem?_toList] at hv
    by_cases hj : j < m
    · rw [rowF_get hj] at hv
      rw [hh.cell (by omega), ← hv]
    · simp [rowF, hj] at hv
  have := run_loadVar_mid (P := P) w b off ty _ _ hc hu rfl (by rw [Array.length_toList, rowF_size]; exact hi)
  simpa using this
/-- A whole array of bytes into the middle of a block. -/
theorem run_storeVar_has (hh : Has w b T n g) (ty off m : Nat) (f : Nat → UInt8) (hm : off + m ≤ n) (hi : (P.info? ty).map (·.size) = some m) :
    (storeVar ty ⟨b, off, none⟩ (.agg (rowF m (byt f)))).run P w = .ok () (w.setRow b (rowF n (updR g off m (byt f)))) := by
  have h1 : ∀ v ∈ (rowF m (byt f)).toList, v.oneCell' = true := fun v hv => (Array.all_eq_true_iff_forall_mem.1 (rowF_oneCell m f)) v (by simpa using hv)
  have := run_storeCells_at (P := P) b off T (rowF m (byt f)).toList 0 (rowF n g) w hh (by rw [Array.length_toList, rowF_size, rowF_size]; omega) h1
  have e : ((rowF n g).toList.take (off + 0) ++ (rowF m (byt f)).toList ++ (rowF n g).toList.drop (off + 0 + (rowF m (byt f)).toList.length)).toArray = rowF n (updR g off m (byt f)) := by
    apply Array.ext_getElem?
    intro j
    simp only [List.getElem?_toArray, Nat.add_zero, Array.length_toList, rowF_size]
    rw [List.append_assoc, List.getElem?_append, List.length_take, Array.length_toList, rowF_size]
    by_cases hj : j < n
    · rw [rowF_get hj]
      by_cases h2 : j < off
      · rw [if_pos (by omega), List.getElem?_take, if_pos h2, Array.getElem?_toList, rowF_get hj]
        simp [updR, show ¬ off ≤ j by omega]
      · rw [if_neg (by omega), List.getElem?_append, Array.length_toList, rowF_size]
        by_cases h3 : j < off + m
        · rw [if_pos (by omega), Array.getElem?_toList, rowF_get (by omega)]
          simp [updR, show off ≤ j by omega, h3, show j - min off n = j - off by omega]
        · rw [if_neg (by omega), List.getElem?_drop, Array.getElem?_toList, rowF_get (by omega)]
          simp [updR, h3, show off + m + (j - min off n - m) = j by omega]
    · rw [if_neg (by omega), List.getElem?_append, Array.length_toList, rowF_size, if_neg (by omega), List.getElem?_drop, Array.getElem?_toList]
      simp [rowF, hj, show ¬ off + m + (j - min off n - m) < n by omega]
  rw [e] at this
  cases hq : P.info? ty with
  | none => simp [hq] at hi
  | some i =>
    have hs : i.size = m := by simpa [hq] using hi
    simp [storeVar, sizeOf, typeInfo, hq, hs, Value.cells, rowF_size, this]
end
section
variable {P : Program} {ops : Array Oper} {rest : List Oper} {o : Oper} {a : Act} {w : World} {Q : Exit → Act → World → Prop} {L : Act → Prop} {b : Nat} {T : TypeId} {n : Nat} {g : Nat → Value}
theorem wpStill_load_has (hgd : o.guard = none) (ty : TypeId) (x : Operand) (ho : o.op = .load ty x) (off : Nat) (hx : a.eval x = .pointer (some ⟨b, off, none⟩))
    (hh : Has w b T n g) (m e : Nat) (hm : off + m ≤ n) (hu : P.underlying ty = some (.array m e)) (hi : (P.info? ty).map (·.size) = some m)
    (h : wpStill P ops w L rest (a.put o.dst (.agg (rowF m fun j => g (off + j))))) : wpStill P ops w L (o :: rest) a :=
  wpStill_step fun K hK => by
    rw [if_pos (by simp [Region.wanted, hgd])]
    unfold Oper.still execOp
    simp only [ho, hx, Instr.loadAt, Instr.sureAddr, Sem.run_bind, Sem.run_pure, Result.andThen_ok, run_loadVar_has hh ty off m e hm hu hi]
    exact ⟨rfl, hK _ h⟩
theorem wpList_load_mid_has (hgd : o.guard = none) (ty : TypeId) (x : Operand) (ho : o.op = .load ty x) (off : Nat) (hx : a.eval x = .pointer (some ⟨b, off, none⟩))
    (hh : Has w b T n g) (m e : Nat) (hm : off + m ≤ n) (hu : P.underlying ty = some (.array m e)) (hi : (P.info? ty).map (·.size) = some m)
    (h : wpList P ops Q rest (a.put o.dst (.agg (rowF m fun j => g (off + j)))) w) : wpList P ops Q (o :: rest) a w :=
  wpList_plain hgd fun K hK => by
    unfold Oper.wp execOp
    simp only [ho, hx, Instr.loadAt, Instr.sureAddr, Sem.run_bind, Sem.run_pure, Result.andThen_ok, run_loadVar_has hh ty off m e hm hu hi]
    exact hK _ _ h
theorem wp_store_mid_has {K : Act → World → Prop} (ty : TypeId) (x y : Operand) (ho : o.op = .store ty x y) (off : Nat) (hx : a.eval x = .pointer (some ⟨b, off, none⟩))
    (hh : Has w b T n g) (m : Nat) (f : Nat → UInt8) (hy : a.eval y = .agg (rowF m (byt f))) (hm : off + m ≤ n) (hi : (P.info? ty).map (·.size) = some m)
    (h : K (a.put o.dst undef) (w.setRow b (rowF n (updR g off m (byt f))))) : o.wp P a w K Q := by
  unfold Oper.wp execOp
  simp only [ho, hx, hy, Instr.storeAt, Instr.sureAddr, Sem.run_bind, Sem.run_pure, Result.andThen_ok, run_storeVar_has hh ty off m f hm hi]
  exact h
theorem wpList_store_mid_has (hgd : o.guard = none) (ty : TypeId) (x y : Operand) (ho : o.op = .store ty x y) (off : Nat) (hx : a.eval x = .pointer (some ⟨b, off, none⟩))
    (hh : Has w b T n g) (m : Nat) (f : Nat → UInt8) (hy : a.eval y = .agg (rowF m (byt f))) (hm : off + m ≤ n) (hi : (P.info? ty).map (·.size) = some m)
    (h : wpList P ops Q rest (a.put o.dst undef) (w.setRow b (rowF n (updR g off m (byt f))))) : wpList P ops Q (o :: rest) a w :=
  wpList_plain hgd fun _ hK => wp_store_mid_has ty x y ho off hx hh m f hy hm hi (hK _ _ h)
end

/-- All that was there is as it was, but for block c. -/
structure ButOne (c : Nat) (w w' : World) : Prop where
  os : w'.os = w.os
  tape : w'.tape = w.tape
  output : w'.output = w.output
  size : w.heap.size ≤ w'.heap.size
  block : ∀ k, k < w.heap.size → k ≠ c → w'.heap[k]? = w.heap[k]?
namespace ButOne
variable {c : Nat} {w w' a : World}
theorem refl (c : Nat) (w : World) : ButOne c w w := ⟨rfl, rfl, rfl, Nat.le_refl _, fun _ _ _ => rfl⟩
theorem trans (h : ButOne c a w) (k : ButOne c w w') : ButOne c a w' :=
  ⟨k.os.trans h.os, k.tape.trans h.tape, k.output.trans h.output, Nat.le_trans h.size k.size, fun i hi hc => (k.block i (Nat.lt_of_lt_of_le hi h.size) hc).trans (h.block i hi hc)⟩
theorem of_below (h : Below w.heap.size w w') : ButOne c w w' := ⟨h.os, h.tape, h.output, h.size, fun k hk _ => h.block k hk⟩
theorem below (h : ButOne c a w) (k : Below w.heap.size w w') : ButOne c a w' := h.trans (of_below k)
theorem drew (h : ButOne c a w) : ButOne c a w.drew := ⟨h.os, h.tape, h.output, h.size, h.block⟩
theorem set (h : ButOne c a w) (i : Nat) (v : Value) : ButOne c a (w.setCell ⟨c, i, none⟩ v) :=
  h.trans ⟨rfl, rfl, rfl, by simp [World.setCell], fun k _ hc => Below.heap_setCell _ _ _ _ hc⟩
theorem setRow (h : ButOne c a w) (cs : Array Value) : ButOne c a (w.setRow c cs) :=
  h.trans ⟨rfl, rfl, rfl, by simp, fun k _ hc => setRow_other _ _ _ _ hc⟩
theorem to_below (h : ButOne c w w') {B : Nat} (hB : B ≤ w.heap.size) (hc : B ≤ c) : Below B w w' :=
  ⟨h.os, h.tape, h.output, h.size, fun k hk => h.block k (by omega) (by omega)⟩
end ButOne
theorem Has.but {w w' : World} {b c : Nat} {T : TypeId} {n : Nat} {g : Nat → Value} (h : Has w b T n g) (hb : ButOne c w w') (hc : b ≠ c) : Has w' b T n g := h.of_block (hb.block b h.lt hc)

end Go.Proofs.Ytjmeiloklhbllaa
