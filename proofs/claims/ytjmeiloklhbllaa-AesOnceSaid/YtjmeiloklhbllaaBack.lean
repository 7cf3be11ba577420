/- What is locked opens to what it was, and what is opened locks to what it was: plain laws, no program in sight. -/
import Derived.Test.YtjmeiloklhbllaaField
import Derived.Test.YtjmeiloklhbllaaAesBytes
namespace Go.Proofs.Ytjmeiloklhbllaa

/-- The first 16 bytes are the same. -/
def Eq16 (s t : Nat → UInt8) : Prop := ∀ j, j < 16 → s j = t j
theorem Eq16.trans {s t u : Nat → UInt8} (h : Eq16 s t) (k : Eq16 t u) : Eq16 s u := fun j hj => (h j hj).trans (k j hj)
theorem Eq16.of_eq {s t : Nat → UInt8} (h : s = t) : Eq16 s t := fun _ _ => by rw [h]
theorem Eq16.mix {s t : Nat → UInt8} (h : Eq16 s t) (k : Nat → UInt8) : Eq16 (mixF s k) (mixF t k) := fun j hj => by unfold mixF; rw [h j hj]
theorem Eq16.sub {s t : Nat → UInt8} (h : Eq16 s t) : Eq16 (subF s) (subF t) := fun j _ => by unfold subF; rw [h _ (by omega)]
theorem Eq16.unsub {s t : Nat → UInt8} (h : Eq16 s t) : Eq16 (unsubF s) (unsubF t) := fun j _ => by unfold unsubF; rw [h _ (by omega)]
theorem Eq16.colTo {s t q : Nat → UInt8} (h : Eq16 s t) (i : Nat) (hi : i < 16) : ∀ n, Ytjmeiloklhbllaa.colTo s q i n = Ytjmeiloklhbllaa.colTo t q i n
  | 0 => rfl
  | n + 1 => by unfold Ytjmeiloklhbllaa.colTo; rw [Eq16.colTo h i hi n, h _ (by omega)]
theorem Eq16.col {s t : Nat → UInt8} (h : Eq16 s t) (q : Nat → UInt8) : Eq16 (colF s q) (colF t q) := fun i hi => h.colTo i hi 4
theorem mix_mix (s k : Nat → UInt8) : mixF (mixF s k) k = s := by
  funext j; simp only [mixF, UInt8.xor_assoc, UInt8.xor_self, UInt8.xor_zero]
theorem unsub_sub (s : Nat → UInt8) : Eq16 (unsubF (subF s)) s := fun m hm => by
  simp only [unsubF, subF, isb_sb]
  congr 1; omega
theorem sub_unsub (s : Nat → UInt8) : Eq16 (subF (unsubF s)) s := fun m hm => by
  simp only [unsubF, subF, sb_isb]
  congr 1; omega
/-- A column by four numbers. -/
theorem colF_four (s q : Nat → UInt8) (i : Nat) : colF s q i = tm (q 0) (s (i / 4 * 4 + i % 4)) ^^^ tm (q 1) (s (i / 4 * 4 + (i + 1) % 4)) ^^^ tm (q 2) (s (i / 4 * 4 + (i + 2) % 4)) ^^^ tm (q 3) (s (i / 4 * 4 + (i + 3) % 4)) := by
  simp only [colF, colTo, Nat.add_zero, UInt8.zero_xor]
theorem colF_at4 (s q : Nat → UInt8) (i n : Nat) : colF s q (i / 4 * 4 + (i + n) % 4) = tm (q 0) (s (i / 4 * 4 + (i + n) % 4)) ^^^ tm (q 1) (s (i / 4 * 4 + (i + n + 1) % 4)) ^^^ tm (q 2) (s (i / 4 * 4 + (i + n + 2) % 4)) ^^^ tm (q 3) (s (i / 4 * 4 + (i + n + 3) % 4)) := by
  rw [colF_four, show (i / 4 * 4 + (i + n) % 4) / 4 * 4 = i / 4 * 4 by omega, show (i / 4 * 4 + (i + n) % 4) % 4 = (i + n) % 4 by omega, show (i / 4 * 4 + (i + n) % 4 + 1) % 4 = (i + n + 1) % 4 by omega, show (i / 4 * 4 + (i + n) % 4 + 2) % 4 = (i + n + 2) % 4 by omega, show (i / 4 * 4 + (i + n) % 4 + 3) % 4 = (i + n + 3) % 4 by omega]
/-- Two rows of numbers, one behind the other. -/
theorem two_rows (p0 p1 p2 p3 q0 q1 q2 q3 x0 x1 x2 x3 : UInt8)
    (h0 : tm p0 q0 ^^^ tm p1 q3 ^^^ tm p2 q2 ^^^ tm p3 q1 = 1) (h1 : tm p0 q1 ^^^ tm p1 q0 ^^^ tm p2 q3 ^^^ tm p3 q2 = 0) (h2 : tm p0 q2 ^^^ tm p1 q1 ^^^ tm p2 q0 ^^^ tm p3 q3 = 0) (h3 : tm p0 q3 ^^^ tm p1 q2 ^^^ tm p2 q1 ^^^ tm p3 q0 = 0) :
    tm p0 (tm q0 x0 ^^^ tm q1 x1 ^^^ tm q2 x2 ^^^ tm q3 x3) ^^^ tm p1 (tm q0 x1 ^^^ tm q1 x2 ^^^ tm q2 x3 ^^^ tm q3 x0) ^^^ tm p2 (tm q0 x2 ^^^ tm q1 x3 ^^^ tm q2 x0 ^^^ tm q3 x1) ^^^ tm p3 (tm q0 x3 ^^^ tm q1 x0 ^^^ tm q2 x1 ^^^ tm q3 x2) = x0 := by
  have e0 : tm (tm p0 q0) x0 ^^^ tm (tm p1 q3) x0 ^^^ tm (tm p2 q2) x0 ^^^ tm (tm p3 q1) x0 = x0 := by rw [← tm_xor_left, ← tm_xor_left, ← tm_xor_left, h0, one_tm]
  have e1 : tm (tm p0 q1) x1 ^^^ tm (tm p1 q0) x1 ^^^ tm (tm p2 q3) x1 ^^^ tm (tm p3 q2) x1 = 0 := by rw [← tm_xor_left, ← tm_xor_left, ← tm_xor_left, h1, tm_zero_left]
  have e2 : tm (tm p0 q2) x2 ^^^ tm (tm p1 q1) x2 ^^^ tm (tm p2 q0) x2 ^^^ tm (tm p3 q3) x2 = 0 := by rw [← tm_xor_left, ← tm_xor_left, ← tm_xor_left, h2, tm_zero_left]
  have e3 : tm (tm p0 q3) x3 ^^^ tm (tm p1 q2) x3 ^^^ tm (tm p2 q1) x3 ^^^ tm (tm p3 q0) x3 = 0 := by rw [← tm_xor_left, ← tm_xor_left, ← tm_xor_left, h3, tm_zero_left]
  have e : x0 = (tm (tm p0 q0) x0 ^^^ tm (tm p1 q3) x0 ^^^ tm (tm p2 q2) x0 ^^^ tm (tm p3 q1) x0) ^^^ (tm (tm p0 q1) x1 ^^^ tm (tm p1 q0) x1 ^^^ tm (tm p2 q3) x1 ^^^ tm (tm p3 q2) x1) ^^^ (tm (tm p0 q2) x2 ^^^ tm (tm p1 q1) x2 ^^^ tm (tm p2 q0) x2 ^^^ tm (tm p3 q3) x2) ^^^ (tm (tm p0 q3) x3 ^^^ tm (tm p1 q2) x3 ^^^ tm (tm p2 q1) x3 ^^^ tm (tm p3 q0) x3) := by
    rw [e0, e1, e2, e3]; simp
  refine Eq.trans ?_ e.symm
  simp only [tm_xor_right, ← tm_assoc]
  ac_rfl
theorem cols_back (s q p : Nat → UInt8)
    (h0 : tm (p 0) (q 0) ^^^ tm (p 1) (q 3) ^^^ tm (p 2) (q 2) ^^^ tm (p 3) (q 1) = 1) (h1 : tm (p 0) (q 1) ^^^ tm (p 1) (q 0) ^^^ tm (p 2) (q 3) ^^^ tm (p 3) (q 2) = 0) (h2 : tm (p 0) (q 2) ^^^ tm (p 1) (q 1) ^^^ tm (p 2) (q 0) ^^^ tm (p 3) (q 3) = 0) (h3 : tm (p 0) (q 3) ^^^ tm (p 1) (q 2) ^^^ tm (p 2) (q 1) ^^^ tm (p 3) (q 0) = 0) :
    colF (colF s q) p = s := by
  funext i
  have c0 := colF_at4 s q i 0
  rw [Nat.add_zero] at c0
  rw [colF_four, c0, colF_at4 s q i 1, colF_at4 s q i 2, colF_at4 s q i 3]
  rw [show (i + 1 + 1) % 4 = (i + 2) % 4 by omega, show (i + 1 + 2) % 4 = (i + 3) % 4 by omega, show (i + 1 + 3) % 4 = i % 4 by omega, show (i + 2 + 1) % 4 = (i + 3) % 4 by omega, show (i + 2 + 3) % 4 = (i + 1) % 4 by omega, show (i + 3 + 3) % 4 = (i + 2) % 4 by omega]
  rw [two_rows _ _ _ _ _ _ _ _ _ _ _ _ h0 h1 h2 h3, show i / 4 * 4 + i % 4 = i by omega]
theorem im_mc (s : Nat → UInt8) : colF (colF s mc) im = s := cols_back s mc im (by decide) (by decide) (by decide) (by decide)
theorem mc_im (s : Nat → UInt8) : colF (colF s im) mc = s := cols_back s im mc (by decide) (by decide) (by decide) (by decide)
theorem Eq16.step {key s t : Nat → UInt8} (h : Eq16 s t) (i : Nat) : Eq16 (opStep key s i) (opStep key t i) := by
  unfold opStep
  split
  · exact ((h.mix _).col _).unsub
  · exact (h.mix _).unsub
theorem step_lk (key b : Nat → UInt8) (i : Nat) : Eq16 (opStep key (lk key b (i + 1)) (i + 1)) (lk key b i) := by
  unfold opStep
  rw [lk, mix_mix]
  split
  · rw [im_mc]; exact unsub_sub _
  · exact unsub_sub _
theorem op_lk (key b : Nat → UInt8) : ∀ n, n ≤ 10 → Eq16 (op key (lockF key b) n) (lk key b (10 - n))
  | 0, _ => .of_eq rfl
  | n + 1, h => by
    have e := (op_lk key b n (by omega)).step (key := key) (10 - n)
    rw [show 10 - n = (10 - (n + 1)) + 1 by omega] at e
    rw [op, show 10 - n = (10 - (n + 1)) + 1 by omega]
    exact e.trans (step_lk key b _)
theorem open_lock (key b : Nat → UInt8) : Eq16 (openF key (lockF key b)) b := by
  unfold openF
  exact ((op_lk key b 10 (Nat.le_refl _)).mix _).trans (.of_eq (by rw [lk, mix_mix]))
theorem lk_op (key s : Nat → UInt8) : ∀ i, i ≤ 10 → Eq16 (lk key (openF key s) i) (op key s (10 - i))
  | 0, _ => .of_eq (by rw [lk, openF, mix_mix])
  | i + 1, h => by
    have e := lk_op key s i (by omega)
    rw [show 10 - i = (10 - (i + 1)) + 1 by omega, op, show 10 - (10 - (i + 1)) = i + 1 by omega] at e
    rw [lk]
    unfold opStep at e
    split
    · next h10 =>
      rw [if_pos h10] at e
      have e2 := ((e.sub.trans (sub_unsub _)).col mc).mix (rk key (i + 1))
      rw [mc_im, mix_mix] at e2
      exact e2
    · next h10 =>
      rw [if_neg h10] at e
      have e2 := (e.sub.trans (sub_unsub _)).mix (rk key (i + 1))
      rw [mix_mix] at e2
      exact e2
theorem lock_open (key s : Nat → UInt8) : Eq16 (lockF key (openF key s)) s := lk_op key s 10 (Nat.le_refl _)

end Go.Proofs.Ytjmeiloklhbllaa
