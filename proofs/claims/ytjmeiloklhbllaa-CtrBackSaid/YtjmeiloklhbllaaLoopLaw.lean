/- The law of 'for x := range stream(key, nonce)': what the caller owes is an invariant of its own and one walk of its body. -/
import Derived.Test.YtjmeiloklhbllaaSeq
namespace Go.Proofs.Ytjmeiloklhbllaa
open Go.RowKit

/-- All that lay below B is as it was, but for block c. -/
structure Apart (c B : Nat) (w w' : World) : Prop where
  os : w'.os = w.os
  tape : w'.tape = w.tape
  output : w'.output = w.output
  size : w.heap.size ≤ w'.heap.size
  block : ∀ k, k < B → k < w.heap.size → k ≠ c → w'.heap[k]? = w.heap[k]?
/-- What a round's body keeps: the three blocks of the iterator, and whatever lies from B on. -/
structure KeepB (c p q B : Nat) (w w' : World) : Prop where
  size : w.heap.size ≤ w'.heap.size
  block : ∀ k, k = c ∨ k = p ∨ k = q ∨ B ≤ k → k < w.heap.size → w'.heap[k]? = w.heap[k]?
theorem ButOne.apart {c : Nat} {w w' : World} (h : ButOne c w w') (B : Nat) : Apart c B w w' := ⟨h.os, h.tape, h.output, h.size, fun k _ hk hc => h.block k hk hc⟩
theorem apart_putObj (c B l : Nat) (w : World) (o : Obj) (hl : B ≤ l) : Apart c B w (w.putObj l o) :=
  ⟨rfl, rfl, rfl, by simp, fun k hk _ _ => World.putObj_heap_other (by omega)⟩
theorem apart_alloc (c B : Nat) (w : World) (o : Obj) : Apart c B w (w.alloc o) :=
  ⟨rfl, rfl, rfl, by simp, fun k _ hk _ => Below.heap_alloc w o k hk⟩
theorem SeqAt.keep {key : Nat → UInt8} {n c p q B : Nat} {w w' : World} (h : SeqAt key n c p q w) (hb : KeepB c p q B w w') : SeqAt key n c p q w' :=
  ⟨h.hp.of_block (hb.block _ (.inr (.inl rfl)) h.hp.lt), h.hq.of_block (hb.block _ (.inr (.inr (.inl rfl))) h.hq.lt), h.hc.of_block (hb.block _ (.inl rfl) h.hc.lt), h.lt1, h.lt2⟩
theorem SeqAt.putObj {key : Nat → UInt8} {n c p q l : Nat} {w : World} (h : SeqAt key n c p q w) (o : Obj) (hl : q < l) : SeqAt key n c p q (w.putObj l o) :=
  ⟨h.hp.of_block (World.putObj_heap_other (by have := h.lt2; omega)), h.hq.of_block (World.putObj_heap_other (by omega)), h.hc.of_block (World.putObj_heap_other (by have := h.lt1; have := h.lt2; omega)), h.lt1, h.lt2⟩
theorem SeqAt.alloc {key : Nat → UInt8} {n c p q : Nat} {w : World} (h : SeqAt key n c p q w) (o : Obj) : SeqAt key n c p q (w.alloc o) := h.below ((Below.refl _ _).alloc (Nat.le_refl _) _)

/-- How the body of a round may be left. -/
def streamPost (c p q B : Nat) (I : World → Prop) (Ix : Nat → World → Prop) (W : World) : Exit → Act → World → Prop
  | .normal, _, W' => KeepB c p q B W W' ∧ I W'
  | .exit id, _, W' => KeepB c p q B W W' ∧ Ix id W'
  | _, _, _ => False

theorem wp_rangeStream {key : Nat → UInt8} {n c p q N : Nat} (hN : N ≤ 1000000) {g : Operand} {ps : Array Tmp} {assign body : Code} {Q : Exit → Act → World → Prop} {a : Act} {w : World}
    (hg : a.eval g = .func (.func 45) #[] #[.pointer (some ⟨p, 0, none⟩), .pointer (some ⟨q, 0, none⟩)]) (eg : ∀ args w, (callFunc 45 args).run Try.prog w = .ok (.enter 45 args) w) (hps : ps.size = 1) (hS : SeqAt key n c p q w)
    (I : Nat → World → Prop) (Ix : Nat → World → Prop) (hI : ∀ k W W', I k W → Apart c w.heap.size W W' → I k W') (hIx : ∀ k W W', Ix k W → Apart c w.heap.size W W' → Ix k W') (hIN : ∀ k W, I k W → k ≤ N) (h0 : I 0 w)
    (a₁ : Nat → Act)
    (hassign : ∀ (l k : Nat) (W : World) (K : Act → World → Prop), K (a₁ k) W →
      assign.wpIn (Fence.wide.inRound l) 0 Try.prog (Exit.then K (fun _ _ _ => False)) { tmps := (ps.zip #[.int .u8 ((sAt key n k).toNat : Int)]).foldl (fun t (p, v) => t.setIfInBounds p v) a.tmps, defers := [] } W)
    (hbody : ∀ (l k : Nat) (W : World), I k W → body.wpIn (Fence.wide.inRound l) 0 Try.prog (streamPost c p q w.heap.size (I (k + 1)) Ix W) (a₁ k) W)
    (hstop : ∀ (D id : Nat) (W : World), w.heap.size ≤ D → Ix id W → W.heap[D]? = some (.deferred (some [])) → Q (.exit id) { a with defers := { target := .collected D, args := #[] } :: a.defers } W) :
    (Code.rangeFunc g ps assign body).wp Try.prog Q a w := by
  rw [← wpIn_wide (n := 2)]
  refine wpIn_rangeFunc ?_
  intro fn hfn
  have hqlt := hS.hq.lt
  have hclt := hS.hc.lt
  obtain ⟨rec, hrec⟩ : ∃ rec : LoopState → Option Code → Loop, rec = fun st pe => { state := st, pending := pe, fn, tmps := a.tmps, params := ps, assign, body, defers := w.heap.size } := ⟨_, rfl⟩
  obtain ⟨W1, hW1⟩ : ∃ W1, (w.alloc (.deferred (some []))).alloc (.loop (rec .ready none)) = W1 := ⟨_, rfl⟩
  have hL1 : W1.heap[w.heap.size + 1]? = some (.loop (rec .ready none)) := by
    rw [← hW1]; have := World.alloc_heap_new (w.alloc (.deferred (some []))) (.loop (rec .ready none)); rwa [World.size_alloc] at this
  have hK1 : W1.heap[w.heap.size]? = some (.deferred (some [])) := by
    rw [← hW1]; exact (Below.heap_alloc _ _ _ (by simp)).trans (World.alloc_heap_new w _)
  have hI1 : I 0 W1 := by rw [← hW1]; exact hI _ _ _ (hI _ _ _ h0 (apart_alloc _ _ _ _)) (apart_alloc _ _ _ _)
  have hS1 : SeqAt key n c p q W1 := by rw [← hW1]; exact (hS.alloc _).alloc _
  refine ⟨w.heap.size + 1, [{ target := .collected w.heap.size, args := #[] }], W1, { target := .fn (.func 45) #[.pointer (some ⟨p, 0, none⟩), .pointer (some ⟨q, 0, none⟩)], args := #[.func (.yield (w.heap.size + 1)) #[] #[]] }, W1, 45,
    #[.func (.yield (w.heap.size + 1)) #[] #[]] ++ #[.pointer (some ⟨p, 0, none⟩), .pointer (some ⟨q, 0, none⟩)], W1, ?_, ?_, ?_, ?_, ?_, ?_⟩
  · rw [← hW1, hrec]; exact run_enterLoop_outer _ _ _ _ _
  · simp only [resolve, hg]
    simp [go_sem]
  · intro f' hf'; exact trivial
  · simp [invoke, go_sem, eg]
  · intro h; cases h
  · refine callsIn_wide.2 ((seq_any key n c p q (w.heap.size + 1) N hN
      (fun k W => I k W ∧ W.heap[w.heap.size + 1]? = some (.loop (rec .ready none)) ∧ W.heap[w.heap.size]? = some (.deferred (some [])))
      (fun W => ∃ id, Ix id W ∧ W.heap[w.heap.size + 1]? = some (.loop (rec .done (some (.exit id)))) ∧ W.heap[w.heap.size]? = some (.deferred (some [])))
      W1 ?_ (fun k W h => hIN k W h.1) ?_ ⟨hI1, hL1, hK1⟩ hS1).mono ?_)
    · rintro k W W' ⟨hi, hl, hk⟩ hb
      exact ⟨hI _ _ _ hi (hb.apart _), (hb.block _ (Array.getElem?_eq_some_iff.1 hl).1 (by omega)).trans hl, (hb.block _ (Array.getElem?_eq_some_iff.1 hk).1 (by omega)).trans hk⟩
    · -- one round
      rintro k W ⟨hi, hl, hk⟩ hSW
      have hlt : w.heap.size + 1 < W.heap.size := (Array.getElem?_eq_some_iff.1 hl).1
      have hy := run_yield (P := Try.prog) (args := #[.int .u8 ((sAt key n k).toNat : Int)]) hl (by rw [hrec]; simp [hps])
      rw [hrec] at hy
      refine ⟨fn, _, assign, body, hy, roundIn_of_wpIn hfn (hassign _ k W _ ⟨_, run_beginRound hl (by rw [hrec]), ?_⟩)⟩
      have hl2 : (W.putObj (w.heap.size + 1) (.loop { rec .ready none with state := .busy })).heap[w.heap.size + 1]? = some (.loop { rec .ready none with state := .busy }) := World.putObj_heap_same hlt
      have hk2 : (W.putObj (w.heap.size + 1) (.loop { rec .ready none with state := .busy })).heap[w.heap.size]? = some (.deferred (some [])) := (World.putObj_heap_other (by omega)).trans hk
      have hS2 : SeqAt key n c p q (W.putObj (w.heap.size + 1) (.loop { rec .ready none with state := .busy })) := hSW.putObj _ (by omega)
      have hi2 : I k (W.putObj (w.heap.size + 1) (.loop { rec .ready none with state := .busy })) := hI _ _ _ hi (apart_putObj _ _ _ _ _ (by omega))
      refine wpIn_mono (hbody _ k _ hi2) ?_
      have fin : ∀ (jump : Option Code) (W3 : World), KeepB c p q w.heap.size (W.putObj (w.heap.size + 1) (.loop { rec .ready none with state := .busy })) W3 →
          (Instr.endRound (w.heap.size + 1) jump).run Try.prog W3 = .ok (.bool jump.isNone) (W3.putObj (w.heap.size + 1) (.loop (rec (if jump.isNone then .ready else .done) jump))) ∧
          (W3.putObj (w.heap.size + 1) (.loop (rec (if jump.isNone then .ready else .done) jump))).heap[w.heap.size + 1]? = some (.loop (rec (if jump.isNone then .ready else .done) jump)) ∧
          (W3.putObj (w.heap.size + 1) (.loop (rec (if jump.isNone then .ready else .done) jump))).heap[w.heap.size]? = some (.deferred (some [])) := fun jump W3 hk3 => by
        have hl3 : W3.heap[w.heap.size + 1]? = some (.loop { rec .ready none with state := .busy }) := (hk3.block _ (.inr (.inr (.inr (by omega)))) (by simpa using hlt)).trans hl2
        have hd3 : W3.heap[w.heap.size]? = some (.deferred (some [])) := (hk3.block _ (.inr (.inr (.inr (by omega)))) (by simp; omega)).trans hk2
        have := run_endRound (P := Try.prog) jump hl3
        rw [hrec] at this ⊢
        exact ⟨this, World.putObj_heap_same (Array.getElem?_eq_some_iff.1 hl3).1, (World.putObj_heap_other (by omega)).trans hd3⟩
      rintro e a3 W3 hp
      cases e with
      | normal =>
        obtain ⟨hk3, hi3⟩ := hp
        obtain ⟨hr, hl4, hk4⟩ := fin none W3 hk3
        exact ⟨_, _, hr, .inl ⟨rfl, ⟨hI _ _ _ hi3 (apart_putObj _ _ _ _ _ (by omega)), hl4, hk4⟩, (hS2.keep hk3).putObj _ (by omega)⟩⟩
      | exit id =>
        obtain ⟨hk3, hi3⟩ := hp
        obtain ⟨hr, hl4, hk4⟩ := fin (some (.exit id)) W3 hk3
        exact ⟨_, _, hr, .inr ⟨rfl, id, hIx _ _ _ hi3 (apart_putObj _ _ _ _ _ (by omega)), hl4, hk4⟩⟩
      | ret => exact hp.elim
      | goto t => exact hp.elim
      | panic ch => exact hp.elim
      | outgrown => exact hp.elim
    · -- behind the iterator
      rintro e W2 ⟨⟨v, rfl⟩, id, hi, hl, hk⟩
      refine ⟨some (.exit id), _, by have := run_endLoop (P := Try.prog) hl (by rw [hrec]; simp); rw [hrec] at this; exact this, ?_⟩
      exact wpIn_exit (hstop _ id _ (Nat.le_refl _) (hIx _ _ _ hi (apart_putObj _ _ _ _ _ (by omega))) ((World.putObj_heap_other (by omega)).trans hk))

end Go.Proofs.Ytjmeiloklhbllaa
