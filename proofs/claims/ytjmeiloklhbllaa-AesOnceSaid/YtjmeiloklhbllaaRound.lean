/- The walk of (*Cipher).Round: the i-th round key, or the error where there is none. -/
import Derived.Test.YtjmeiloklhbllaaLock
namespace Go.Proofs.Ytjmeiloklhbllaa
open Go.RowKit

theorem ret_has2 {P : Program} {fn : Func} {R : Ending → World → Prop} {a : Act} {w : World} {p u : Tmp} {ty : TypeId} (hr : fn.results = #[.cell p ty, .tmp u]) (b : Nat) (hp : a.tmps.getD p undef = .pointer (some ⟨b, 0, none⟩))
    {T : TypeId} {n : Nat} {g : Nat → Value} (hh : Has w b T n g) (e : TypeId) (hu : P.underlying ty = some (.array n e)) (hi : (P.info? ty).map (·.size) = some n) (hd : a.defers = [])
    (hR : R (.returned (.tuple #[.agg (rowF n g), a.tmps.getD u undef])) w) : bodyPost P fn R .ret a w := by
  refine bodyPost_ret (v := .tuple #[.agg (rowF n g), a.tmps.getD u undef]) ?_ hd hR
  have h1 := run_loadVar_has (P := P) hh ty 0 n e (by omega) hu hi
  simp only [Nat.zero_add] at h1
  rw [results_cell_tmp hr]
  simp only [hp, asAddr, Sem.run_pure, Result.andThen_ok, h1]

set_option maxRecDepth 100000 in
set_option maxHeartbeats 400000 in
theorem Round_ok (key : Nat → UInt8) (c : Nat) (i : Int) (h0 : 0 ≤ i) (h10 : i ≤ 10) (w : World) (h : Ciph key c w) :
    Calls Try.prog 23 #[.pointer (some ⟨c, 0, none⟩), .int .i64 i] w fun e w' => e = .returned (.tuple #[.agg (rowF 16 (byt (rk key i.toNat))), .int .i64 0]) ∧ ButOne c w w' ∧ Work key c w' := by
  have hlt := h.lt
  have HC := Lib.hid h; clear h
  have d1 : decide (i < 0) = false := by simp; omega
  have d2 : decide (10 < i) = false := by simp; omega
  go_enter Try.func23, Try.ntmps23
  go_wp2_with fail
  rw [zeros16]
  refine (round_any key c i h0 h10 _ (Ciph.of_block HC.out (Below.heap_alloc _ _ _ hlt))).mono ?_
  rintro e w1 ⟨rfl, hb, hw⟩
  have hr := (Has.new w 28 16 (byt fun _ => 0)).but hb (by omega)
  have hbut : ButOne c w w1 := (ButOne.of_below ((Below.refl _ _).alloc (Nat.le_refl _) _)).trans hb
  go_wp2_with (refine wpList_store_has rfl 28 (.tmp 4) (.tmp 15) rfl _ rfl hr _ rfl info28 ?_)
  refine ret_has2 (p := 4) (u := 5) (ty := 28) rfl _ rfl (hr.setRow _) 5 und28 info28 rfl ⟨rfl, hbut.setNew (Nat.le_refl _) _, hw.of_block (setRow_other _ _ _ _ (by omega))⟩

set_option maxRecDepth 100000 in
set_option maxHeartbeats 400000 in
theorem Round_bad (c : Nat) (i : Int) (hi : i < 0 ∨ 10 < i) (w : World) :
    Calls Try.prog 23 #[.pointer (some ⟨c, 0, none⟩), .int .i64 i] w fun e w' => e = .returned (.tuple #[.agg (rowF 16 (byt fun _ => 0)), .int .i64 1]) ∧ Below w.heap.size w w' := by
  by_cases h1 : i < 0
  · have d1 : decide (i < 0) = true := by simpa using h1
    clear hi
    go_enter Try.func23, Try.ntmps23
    go_wp2_with fail
    rw [zeros16]
    refine ret_has2 (p := 4) (u := 5) (ty := 28) rfl _ rfl (Has.new w 28 16 (byt fun _ => 0)) 5 und28 info28 rfl ⟨rfl, (Below.refl _ _).alloc (Nat.le_refl _) _⟩
  · have d1 : decide (i < 0) = false := by simpa using h1
    have d2 : decide (10 < i) = true := by simp; omega
    clear hi
    go_enter Try.func23, Try.ntmps23
    go_wp2_with fail
    rw [zeros16]
    refine ret_has2 (p := 4) (u := 5) (ty := 28) rfl _ rfl (Has.new w 28 16 (byt fun _ => 0)) 5 und28 info28 rfl ⟨rfl, (Below.refl _ _).alloc (Nat.le_refl _) _⟩

end Go.Proofs.Ytjmeiloklhbllaa
