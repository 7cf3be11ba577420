/- Two arrays of bytes are held against each other: what == and != answer. No condition. -/
import Derived.Test.YtjmeiloklhbllaaBase
namespace Go.Proofs.Ytjmeiloklhbllaa
open Go.RowKit

/-- The first n bytes are the same. -/
def eqF (n : Nat) (f g : Nat → UInt8) : Bool := (List.range' 0 n).all fun i => f i == g i
theorem eqF_iff (n : Nat) (f g : Nat → UInt8) : eqF n f g = true ↔ ∀ i, i < n → f i = g i := by
  simp [eqF, List.all_eq_true, List.mem_range']

section
variable {P : Program} (w : World) (n : Nat) (f g : Nat → UInt8) (T E : TypeId)
theorem run_part_byt (hE : P.underlying E = some (.int .u8)) (i : Nat) (hi : i < n) : (part E (rowF n (byt f)) (i * 1)).run P w = .ok (.int .u8 ((f i).toNat : Int)) w := by
  have ha : (isAgg E).run P w = .ok false w := by
    unfold isAgg; rw [Sem.run_bind, run_underlying hE w]; rfl
  simp [part, Sem.run_bind, ha, rowF_get hi, byt]
theorem run_equalIn_row (d : Nat) (hT : P.underlying T = some (.array n E)) (hE : P.underlying E = some (.int .u8)) (hz : (P.info? E).map (·.size) = some 1) :
    (Op.equalIn (d + 2) T (.agg (rowF n (byt f))) (.agg (rowF n (byt g)))).run P w = .ok (eqF n f g) w := by
  have hi : (sizeOf E).run P w = .ok 1 w := by
    cases hq : P.info? E with
    | none => simp [hq] at hz
    | some i => simp [sizeOf, typeInfo, hq]; simpa [hq] using hz
  have hloop : ∀ l : List Nat, (∀ i ∈ l, i < n) → (forIn l ((none : Option Bool), ()) fun i __s => do
            let __do_lift ← part E (rowF n (byt f)) (i * 1)
            let __do_lift_1 ← part E (rowF n (byt g)) (i * 1)
            let __do_lift ← Op.equalIn (d + 1) E __do_lift __do_lift_1
            if (!__do_lift) = true then pure (ForInStep.done (some false, ())) else pure (ForInStep.yield (none, ()))).run P w = .ok (if (l.all fun i => f i == g i) then (none, ()) else (some false, ())) w := by
    intro l
    induction l with
    | nil => intro _; rfl
    | cons i l ih =>
      intro hl
      have hlt := hl i (by simp)
      rw [List.forIn_cons]
      simp only [Sem.run_bind, run_part_byt w n f E hE i hlt, run_part_byt w n g E hE i hlt, Result.andThen_ok, run_equalIn_int w d E .u8 .u8 _ _ hE]
      by_cases h : f i = g i
      · have hb : (((f i).toNat : Int) == ((g i).toNat : Int)) = true := by rw [h]; simp
        simp only [hb, Bool.not_true, Bool.false_eq_true, if_false, Sem.run_pure, Result.andThen_ok]
        rw [ih (fun j hj => hl j (by simp [hj]))]
        simp [h]
      · have hb : (((f i).toNat : Int) == ((g i).toNat : Int)) = false := by
          rw [beq_eq_false_iff_ne]; intro e; exact h (UInt8.toNat_inj.1 (by omega))
        simp only [hb, Bool.not_false, if_true, Sem.run_pure, Result.andThen_ok]
        simp [h]
  unfold Op.equalIn
  simp only [Sem.run_bind, run_underlying hT, Result.andThen_ok, hi]
  rw [Std.Legacy.Range.forIn_eq_forIn_range']
  simp only [Std.Legacy.Range.size, Nat.sub_zero, Nat.add_sub_cancel, Nat.div_one]
  rw [hloop _ (fun i hi => by have := (List.mem_range'_1.1 hi).2; omega)]
  clear hloop
  simp only [Result.andThen_ok, eqF]
  cases h : ((List.range' 0 n).all fun i => f i == g i)
  · rfl
  · rfl
theorem run_eql_row (hT : P.underlying T = some (.array n E)) (hE : P.underlying E = some (.int .u8)) (hz : (P.info? E).map (·.size) = some 1) :
    (binOp .eql T (.agg (rowF n (byt f))) (.agg (rowF n (byt g)))).run P w = .ok (.bool (eqF n f g)) w := by
  rw [run_eql_struct, run_equalIn_row w n f g T E 9998 hT hE hz]; rfl
theorem run_neq_row (hT : P.underlying T = some (.array n E)) (hE : P.underlying E = some (.int .u8)) (hz : (P.info? E).map (·.size) = some 1) :
    (binOp .neq T (.agg (rowF n (byt f))) (.agg (rowF n (byt g)))).run P w = .ok (.bool (!eqF n f g)) w := by
  rw [run_neq_struct, run_equalIn_row w n f g T E 9998 hT hE hz]; rfl
end
/-- Keys held against each other. -/
theorem eql28 (f g : Nat → UInt8) (w : World) : (binOp .eql 28 (.agg (rowF 16 (byt f))) (.agg (rowF 16 (byt g)))).run Try.prog w = .ok (.bool (eqF 16 f g)) w :=
  run_eql_row w 16 f g 28 5 und28 (by kernel_rfl) (by kernel_rfl)
theorem neq28 (f g : Nat → UInt8) (w : World) : (binOp .neq 28 (.agg (rowF 16 (byt f))) (.agg (rowF 16 (byt g)))).run Try.prog w = .ok (.bool (!eqF 16 f g)) w :=
  run_neq_row w 16 f g 28 5 und28 (by kernel_rfl) (by kernel_rfl)

end Go.Proofs.Ytjmeiloklhbllaa
