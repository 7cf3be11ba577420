/- What the proofs of all rows of this seat share: an argument that is a byte, a number, a key; what is asked behind the call. -/
import Derived.Test.YtjmeiloklhbllaaBase
import Derived.ProofKit
import Derived.OpenShut
namespace Go.Proofs.Ytjmeiloklhbllaa
open Go.ChangeShapes Go.WideShapes Go.ChangeAt Go.RowKit

theorem ownKnobNone : ownKnob Try.prog.godebug = none := by kernel_rfl
theorem laidOutAll : laidOutB Try.prog = true := by kernel_rfl
theorem open_u8 {a : Int} (h : (Lit.int .u8 a).wf = true) : ∃ x : UInt8, a = (x.toNat : Int) := by
  have hb := bounds_u8 h
  refine ⟨UInt8.ofNat a.toNat, ?_⟩
  rw [u8_ofNat_B _ (by omega)]; omega
set_option maxRecDepth 100000 in
theorem open_key {H : Type} {enc : TypeId × Value → H} {w w2 : World} {r : Reach} {base b2 : Nat} {spare : Nat → Bool} {held : Bool} {v : Value} {d : DataW H} {p : List MemPlace}
    (hv : Value.okWide Try.prog w r base 28 v) (h : DataW.Trod enc Try.prog w2 b2 spare held 28 v d p) : ∃ f : Nat → UInt8, v = .agg (rowF 16 (byt f)) ∧ p = [] := by
  unfold Value.okWide at hv
  rw [und28] at hv
  obtain ⟨cs, rfl, hsz, _⟩ := hv
  have hc : Try.prog.cellsOf 28 = 16 := by kernel_rfl
  have hc5 : Try.prog.cellsOf 5 = 1 := by kernel_rfl
  rw [hc] at hsz
  obtain ⟨fuel, hf⟩ := h
  obtain ⟨xs, m, _, hx, _, hlen, hall⟩ := DataW.trod_array und28 hf
  simp only [Prod.mk.injEq] at hx
  have hone : ∀ i, i < 16 → ∃ x : UInt8, cs[i]? = some (.int .u8 (x.toNat : Int)) ∧ (xs[i]?).map (·.2) = some [] := by
    intro i hi
    have h1 := hall i hi
    rw [hc5] at h1
    have hxi : ∃ y, xs[i]? = some y := by
      rw [List.getElem?_eq_getElem (by omega)]; exact ⟨_, rfl⟩
    obtain ⟨y, hy⟩ := hxi
    rw [hy] at h1
    obtain ⟨n, e1, e2, e3⟩ := DataW.trod_int Try.underlying5 h1
    obtain ⟨x, rfl⟩ := open_u8 e3
    refine ⟨x, ?_, ?_⟩
    · have := congrArg (fun l : List Value => l[0]?) e1
      simpa [Value.cells] using this
    · rw [hy, e2]; rfl
  refine ⟨fun i => match cs[i]? with | some (.int .u8 n) => UInt8.ofNat n.toNat | _ => 0, ?_, ?_⟩
  · congr 1
    apply Array.ext_getElem?
    intro i
    by_cases hi : i < 16
    · obtain ⟨x, hx1, _⟩ := hone i hi
      rw [rowF_get hi, hx1]
      simp only [byt, hx1]
      simp
    · have : ¬ i < cs.size := by omega
      simp [rowF, hi, this]
  · rw [hx.2, List.flatMap_eq_nil_iff]
    intro y hy
    obtain ⟨i, hi, rfl⟩ := List.mem_iff_getElem.1 hy
    obtain ⟨_, _, h2⟩ := hone i (by omega)
    rw [List.getElem?_eq_getElem hi] at h2
    simpa using h2

end Go.Proofs.Ytjmeiloklhbllaa
