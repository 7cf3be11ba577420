/- A byte behind a slice that is the call's own: one goal. -/
import Derived.Test.YtjmeiloklhbllaaRefNumber
import Derived.Test.YtjmeiloklhbllaaAny
namespace Go.Proofs.Ytjmeiloklhbllaa
open Go.RowKit

theorem wpList_append_byte {ops : Array Oper} {rest : List Oper} {o : Oper} {a : Act} {w : World} {Q : Exit → Act → World → Prop} (hgd : o.guard = none) (s x : Operand)
    (ho : o.op = .call { callee := .builtin .append, args := #[s, x], argTypes := #[52, 52] }) (B : Nat) (v : Value) (l : List UInt8) (b : UInt8) (g c : Nat) (hs : a.eval s = v) (hown : OwnB w B v l)
    (hx : a.eval x = .slice (some ⟨g, 0, none⟩) 1 c) (hc : w.cell? ⟨g, 0, none⟩ = some (.int .u8 (b.toNat : Int))) (hl : l.length + 1 ≤ 140737488355328) (hB : B ≤ w.heap.size)
    (h : ∀ v' w', OwnB w' B v' (l ++ [b]) → Below B w w' → wpList Try.prog ops Q rest (a.put o.dst v') w') : wpList Try.prog ops Q (o :: rest) a w := by
  obtain ⟨i0, hi0, hz0, hz1, hz2⟩ := info_parts infoByte
  refine wpList_append_own w hgd s x 52 ho B 5 i0 (.int .u8 0) 1 1 Try.underlying52 hi0 hz0 hz1 hz2 rfl (by decide) v l.length _ hs hown ⟨g, 0, none⟩ 1 c [.int .u8 (b.toNat : Int)] hx rfl ?_ ?_ ?_ ?_ hB ?_
  · intro j u hj
    match j, hj with
    | 0, hj => simp at hj; subst hj; simpa [Addr.add] using hc
  · intro u hu; simp at hu; subst hu; rfl
  · unfold maxLen; omega
  · omega
  · intro v' w' hown' hgrow _
    exact h v' w' (OwnB.snoc rfl hown') ((Below.refl B w).grown hgrow hB fun k hk => (World.ownsRow.lt hown k hk).1)

/-- A byte of a text. -/
theorem wp_index_text {o : Oper} {a : Act} {w : World} {K : Act → World → Prop} {Q : Exit → Act → World → Prop} (x i : Operand) (ho : o.op = .index 9 x i) (l : List UInt8) (j : Nat) (hj : j < l.length)
    (hx : a.eval x = .string ⟨l.toArray⟩) (hi : a.eval i = .int .i64 (j : Int)) (h : K (a.put o.dst (.int .u8 ((l.getD j 0).toNat : Int))) w) : OpWp Try.prog o a w K Q := by
  have hr : (Instr.index 9 (.string ⟨l.toArray⟩) (.int .i64 (j : Int))).run Try.prog w = .ok (.int .u8 ((l.getD j 0).toNat : Int)) w := by
    have h1 : (0 : Int) ≤ (j : Int) := by omega
    have h2 : (j : Int) < (l.length : Int) := by omega
    rw [run_index_string w 9 ⟨l.toArray⟩ .i64 (j : Int) Try.underlying9]
    have h3 : j < (⟨l.toArray⟩ : ByteArray).size := by simpa [ByteArray.size] using hj
    simp only [Int.toNat_natCast]
    rw [dif_pos ⟨h1, by exact_mod_cast h3⟩]
    have h4 : (⟨l.toArray⟩ : ByteArray)[j]'h3 = l[j] := rfl
    rw [h4]; simp [hj]
  refine OpWp.mk ?_
  unfold Oper.wp execOp
  simp only [ho, hx, hi, Sem.run_bind, hr, Result.andThen_ok, Sem.run_pure]
  exact h
/-- .. and order by order. -/
theorem wp_append_byte {o : Oper} {a : Act} {w : World} {K : Act → World → Prop} {Q : Exit → Act → World → Prop} (s x : Operand)
    (ho : o.op = .call { callee := .builtin .append, args := #[s, x], argTypes := #[52, 52] }) (B : Nat) (v : Value) (l : List UInt8) (b : UInt8) (g c : Nat) (hs : a.eval s = v) (hown : OwnB w B v l)
    (hx : a.eval x = .slice (some ⟨g, 0, none⟩) 1 c) (hc : w.cell? ⟨g, 0, none⟩ = some (.int .u8 (b.toNat : Int))) (hl : l.length + 1 ≤ 140737488355328) (hB : B ≤ w.heap.size)
    (h : ∀ v' w', OwnB w' B v' (l ++ [b]) → Below B w w' → K (a.put o.dst v') w') : OpWp Try.prog o a w K Q := by
  obtain ⟨i0, hi0, hz0, hz1, hz2⟩ := info_parts infoByte
  refine OpWp.mk (wp_append_own w s x 52 ho B 5 i0 (.int .u8 0) 1 1 Try.underlying52 hi0 hz0 hz1 hz2 rfl (by decide) v l.length _ hs hown ⟨g, 0, none⟩ 1 c [.int .u8 (b.toNat : Int)] hx rfl ?_ ?_ ?_ ?_ hB ?_)
  · intro j u hj
    match j, hj with
    | 0, hj => simp at hj; subst hj; simpa [Addr.add] using hc
  · intro u hu; simp at hu; subst hu; rfl
  · unfold maxLen; omega
  · omega
  · intro v' w' hown' hgrow _
    exact h v' w' (OwnB.snoc rfl hown') ((Below.refl B w).grown hgrow hB fun k hk => (World.ownsRow.lt hown k hk).1)

end Go.Proofs.Ytjmeiloklhbllaa
