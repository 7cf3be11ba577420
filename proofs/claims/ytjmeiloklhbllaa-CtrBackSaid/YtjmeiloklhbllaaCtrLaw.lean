/- What the walks of the stream's statements share: operations on texts in a region whose operations each yield one value; calls by contract; plain laws. -/
import Derived.OpenShut
import Derived.Test.YtjmeiloklhbllaaShown5
import Derived.Test.YtjmeiloklhbllaaQuiet
import Derived.Test.YtjmeiloklhbllaaRefXor
namespace Go.Proofs.Ytjmeiloklhbllaa
open Go.RowKit Go.ChangeShapes

/-- The worlds of a law's region: the key lies in its variable, nothing that was there has changed. -/
structure KyS (W w : World) (k : Nat → UInt8) : Prop where
  bel : Below W.heap.size W w
  hk : Has w W.heap.size 28 16 (byt k)
theorem KyS.below {W w w' : World} {k : Nat → UInt8} (h : KyS W w k) (hb : Below w.heap.size w w') : KyS W w' k := ⟨h.bel.trans (hb.mono h.bel.size), h.hk.below hb h.hk.lt⟩
theorem KyS.drew {W w : World} {k : Nat → UInt8} (h : KyS W w k) : KyS W w.drew k := ⟨h.bel.drew, h.hk.drew⟩
theorem KyS.start (W : World) (k : Nat → UInt8) : KyS W (W.alloc (.cells (rowF 16 (byt k)) 28)) k := ⟨(Below.refl _ _).alloc (Nat.le_refl _) _, Has.new W 28 16 (byt k)⟩

theorem ctrStream_nat (key : Nat → UInt8) (n : Nat) (hn : n < 18446744073709551616) (m : Nat) (hm : m ≤ 4096) (w : World) :
    Calls Try.prog 32 #[.agg (rowF 16 (byt key)), .int .u64 (n : Int), .int .i64 (m : Int)] w fun e w' => e = .returned (.string ⟨(sL key n m).toArray⟩) ∧ Below w.heap.size w w' := by
  have h := ctrStream_any key n hn (m : Int) w
  rw [show min (m : Int).toNat 4096 = m by simp; omega] at h
  exact h
theorem crypt_good (key : Nat → UInt8) (n : Nat) (hn : n < 18446744073709551616) (l : List UInt8) (hl : l.length ≤ 4096) (w : World) :
    Calls Try.prog 28 #[.agg (rowF 16 (byt key)), .int .u64 (n : Int), .string ⟨l.toArray⟩] w fun e w' => e = .returned (.string ⟨(atL key n 0 l).toArray⟩) ∧ Below w.heap.size w w' := by
  have h := crypt_any key n hn l (by omega) w
  unfold cryL at h
  rw [if_pos hl] at h
  exact h

/-! Arguments. -/
theorem open_u64 {a : Int} (h : (Lit.int .u64 a).wf = true) : ∃ n : Nat, n < 18446744073709551616 ∧ a = (n : Int) := by
  have hb := bounds_u64 h
  exact ⟨a.toNat, by omega, by omega⟩
theorem open_u16 {a : Int} (h : (Lit.int .u16 a).wf = true) : ∃ n : Nat, n < 65536 ∧ a = (n : Int) := by
  have hb := bounds_u16 h
  exact ⟨a.toNat, by omega, by omega⟩
theorem open_text (s : ByteArray) : ∃ l : List UInt8, s = ⟨l.toArray⟩ := ⟨s.data.toList, by simp⟩
theorem text_short {l : List UInt8} (h : (⟨l.toArray⟩ : ByteArray).size ≤ maxLen) : l.length ≤ 9223372036854775807 := by
  unfold maxLen at h
  have e : (⟨l.toArray⟩ : ByteArray).size = l.length := by simp [ByteArray.size]
  omega

/-! Texts. -/
theorem run_text_eq (l m : List UInt8) (h : l = m) (w : World) : (binOp .eql 9 (.string ⟨l.toArray⟩) (.string ⟨m.toArray⟩)).run Try.prog w = .ok (.bool true) w := by
  subst h; go_simp
theorem run_text_add (l m : List UInt8) (h : l.length + m.length ≤ 1000000) (w : World) : (binOp .add 9 (.string ⟨l.toArray⟩) (.string ⟨m.toArray⟩)).run Try.prog w = .ok (.string ⟨(l ++ m).toArray⟩) w := by
  go_simp
  rw [if_neg (by omega), ba_append]
theorem run_text_to (l : List UInt8) (m : Nat) (h : m ≤ l.length) (w : World) : (Instr.slice 9 (.string ⟨l.toArray⟩) none (some (.int .i64 (m : Int))) none).run Try.prog w = .ok (.string ⟨(l.take m).toArray⟩) w := by
  rw [run_slice_string_to_if w 9 _ _ _ Try.underlying9, if_pos ⟨by omega, by simp [ByteArray.size]; omega⟩, ba_take, Int.toNat_natCast]
theorem run_text_from (l : List UInt8) (m : Nat) (h : m ≤ l.length) (w : World) : (Instr.slice 9 (.string ⟨l.toArray⟩) (some (.int .i64 (m : Int))) none none).run Try.prog w = .ok (.string ⟨(l.drop m).toArray⟩) w := by
  have hs : (⟨l.toArray⟩ : ByteArray).size = l.length := by simp [ByteArray.size]
  rw [run_slice_string_from_if w 9 _ _ _ Try.underlying9, if_pos ⟨by omega, by rw [hs]; omega⟩, ByteArray.extract_mk, Int.toNat_natCast, hs]
  congr 4
  exact List.take_of_length_le (by simp)
theorem run_text_mid (l : List UInt8) (i j : Nat) (h : i ≤ j) (h2 : j ≤ l.length) (w : World) : (Instr.slice 9 (.string ⟨l.toArray⟩) (some (.int .i64 (i : Int))) (some (.int .i64 (j : Int))) none).run Try.prog w = .ok (.string ⟨((l.drop i).take (j - i)).toArray⟩) w := by
  have hs : (⟨l.toArray⟩ : ByteArray).size = l.length := by simp [ByteArray.size]
  rw [run_slice_string w 9 _ _ _ _ _ Try.underlying9 (by omega) (by omega) (by rw [hs]; omega), ByteArray.extract_mk]
  rfl

section
variable {ops : Array Oper} {rest : List Oper} {C : World → Prop} {Q : Act → Prop} {a : Act} {o : Oper} {K : Act → Prop}
theorem q_len (x : Operand) (ho : o.op = .call { callee := .builtin .len, args := #[x], argTypes := #[9] }) (l : List UInt8) (hx : a.eval x = .string ⟨l.toArray⟩) (h : K (a.put o.dst (.int .i64 (l.length : Int)))) : o.quiet Try.prog a C K :=
  q_run _ (fun w => by
    unfold execOp
    simp only [ho]
    have : (#[x].map a.eval) = #[.string ⟨l.toArray⟩] := by simp [hx]
    go_simp) h
theorem q_text_eq (x y : Operand) (ho : o.op = .binOp .eql 9 x y 9) (l m : List UInt8) (hx : a.eval x = .string ⟨l.toArray⟩) (hy : a.eval y = .string ⟨m.toArray⟩) (e : l = m) (h : K (a.put o.dst (.bool true))) : o.quiet Try.prog a C K :=
  q_bin .eql 9 x y 9 ho _ _ _ hx hy (fun w => by go_simp) (fun w => run_text_eq l m e w) h
theorem q_text_add (x y : Operand) (ho : o.op = .binOp .add 9 x y 9) (l m : List UInt8) (hx : a.eval x = .string ⟨l.toArray⟩) (hy : a.eval y = .string ⟨m.toArray⟩) (e : l.length + m.length ≤ 1000000) (h : K (a.put o.dst (.string ⟨(l ++ m).toArray⟩))) : o.quiet Try.prog a C K :=
  q_bin .add 9 x y 9 ho _ _ _ hx hy (fun w => by go_simp) (fun w => run_text_add l m e w) h
theorem q_int_eq (x y : Operand) (ho : o.op = .binOp .eql 3 x y 3) (i j : Int) (hx : a.eval x = .int .i64 i) (hy : a.eval y = .int .i64 j) (e : i = j) (h : K (a.put o.dst (.bool true))) : o.quiet Try.prog a C K :=
  q_bin .eql 3 x y 3 ho _ _ _ hx hy (fun w => by go_simp) (fun w => by subst e; go_simp) h
theorem q_slice (x : Operand) (lo hi : Option Operand) (ho : o.op = .slice 9 x lo hi none) (v : Value) (hr : ∀ w, (Instr.slice 9 (a.eval x) (lo.map a.eval) (hi.map a.eval) none).run Try.prog w = .ok v w) (h : K (a.put o.dst v)) : o.quiet Try.prog a C K :=
  q_run _ (fun w => by
    unfold execOp
    simp only [ho, Sem.run_bind, Instr.sliceAt, run_underlying Try.underlying9, Result.andThen_ok]
    have := hr w
    simp only [Option.map_none] at this ⊢
    simp only [this, Result.andThen_ok, Sem.run_pure]) h
end
end Go.Proofs.Ytjmeiloklhbllaa
