/- Bytes are a field: the laws of the product, with no program in sight. -/
import Derived.Test.YtjmeiloklhbllaaDefs
namespace Go.Proofs.Ytjmeiloklhbllaa

theorem mask01 : ∀ n, n < 256 → (UInt8.ofNat n &&& 1 = 0 ∨ UInt8.ofNat n &&& 1 = 1) := by decide +kernel
theorem top01 : ∀ n, n < 256 → (UInt8.ofNat n >>> 7 = 0 ∨ UInt8.ofNat n >>> 7 = 1) := by decide +kernel
theorem of_all {p : UInt8 → Prop} (h : ∀ n, n < 256 → p (UInt8.ofNat n)) (a : UInt8) : p a := by
  have := h a.toNat a.toNat_lt
  rwa [UInt8.ofNat_toNat] at this
theorem mask01' (a : UInt8) : a &&& 1 = 0 ∨ a &&& 1 = 1 := of_all (p := fun a => a &&& 1 = 0 ∨ a &&& 1 = 1) mask01 a
theorem top01' (a : UInt8) : a >>> 7 = 0 ∨ a >>> 7 = 1 := of_all (p := fun a => a >>> 7 = 0 ∨ a >>> 7 = 1) top01 a
theorem and_xor_r (a b m : UInt8) : (a ^^^ b) &&& m = (a &&& m) ^^^ (b &&& m) := by
  apply UInt8.toBitVec_inj.1
  simp only [UInt8.toBitVec_and, UInt8.toBitVec_xor]
  ext i hi
  simp only [BitVec.getElem_and, BitVec.getElem_xor]
  cases a.toBitVec[i] <;> cases b.toBitVec[i] <;> cases m.toBitVec[i] <;> rfl
theorem xt_xor (a b : UInt8) : xt (a ^^^ b) = xt a ^^^ xt b := by
  unfold xt
  have h1 : (a ^^^ b) <<< 1 = (a <<< 1) ^^^ (b <<< 1) := UInt8.shiftLeft_xor
  have h2 : (a ^^^ b) >>> 7 = (a >>> 7) ^^^ (b >>> 7) := UInt8.shiftRight_xor
  rw [h1, h2]
  have h3 : ((27 : UInt8) &&& ((0 : UInt8) - ((a >>> 7) ^^^ (b >>> 7)))) = ((27 : UInt8) &&& ((0 : UInt8) - (a >>> 7))) ^^^ ((27 : UInt8) &&& ((0 : UInt8) - (b >>> 7))) := by
    rcases top01' a with ha | ha <;> rcases top01' b with hb | hb <;> rw [ha, hb] <;> decide
  rw [h3]
  ac_rfl
theorem tmGo_left : ∀ (n : Nat) (a a' b o o' : UInt8), tmGo n (a ^^^ a') b (o ^^^ o') = tmGo n a b o ^^^ tmGo n a' b o'
  | 0, _, _, _, _, _ => rfl
  | n + 1, a, a', b, o, o' => by
    unfold tmGo
    rw [xt_xor, and_xor_r, ← tmGo_left n]
    congr 1
    ac_rfl
theorem tmGo_right : ∀ (n : Nat) (a b b' o o' : UInt8), tmGo n a (b ^^^ b') (o ^^^ o') = tmGo n a b o ^^^ tmGo n a b' o'
  | 0, _, _, _, _, _ => rfl
  | n + 1, a, b, b', o, o' => by
    unfold tmGo
    have h2 : (b ^^^ b') >>> 1 = (b >>> 1) ^^^ (b' >>> 1) := UInt8.shiftRight_xor
    have h3 : (a &&& ((0 : UInt8) - ((b ^^^ b') &&& 1))) = (a &&& ((0 : UInt8) - (b &&& 1))) ^^^ (a &&& ((0 : UInt8) - (b' &&& 1))) := by
      rw [and_xor_r]
      rcases mask01' b with hb | hb <;> rcases mask01' b' with hb' | hb' <;> rw [hb, hb'] <;> simp
    rw [h2, h3, ← tmGo_right n]
    congr 1
    ac_rfl
theorem tm_xor_left (a a' b : UInt8) : tm (a ^^^ a') b = tm a b ^^^ tm a' b := by
  have := tmGo_left 8 a a' b 0 0
  simpa [tm] using this
theorem tm_xor_right (a b b' : UInt8) : tm a (b ^^^ b') = tm a b ^^^ tm a b' := by
  have := tmGo_right 8 a b b' 0 0
  simpa [tm] using this
theorem tm_zero_left (b : UInt8) : tm 0 b = 0 := by
  have := tm_xor_left 0 0 b
  simpa using this
theorem tm_zero_right (a : UInt8) : tm a 0 = 0 := by
  have := tm_xor_right a 0 0
  simpa using this
theorem split8 : ∀ n, n < 256 → ((UInt8.ofNat n &&& 1) ^^^ ((UInt8.ofNat n &&& 2) ^^^ ((UInt8.ofNat n &&& 4) ^^^ ((UInt8.ofNat n &&& 8) ^^^ ((UInt8.ofNat n &&& 16) ^^^ ((UInt8.ofNat n &&& 32) ^^^ ((UInt8.ofNat n &&& 64) ^^^ (UInt8.ofNat n &&& 128)))))))) = UInt8.ofNat n := by decide +kernel
def bases : List UInt8 := [1, 2, 4, 8, 16, 32, 64, 128]
theorem part8 : ∀ n, n < 256 → ∀ m ∈ bases, UInt8.ofNat n &&& m = 0 ∨ UInt8.ofNat n &&& m = m := by decide +kernel
/-- What holds of nothing, of each bit, and of sums, holds of every byte. -/
theorem u8_ind {p : UInt8 → Prop} (h0 : p 0) (hx : ∀ a b, p a → p b → p (a ^^^ b)) (hb : ∀ m ∈ bases, p m) (a : UInt8) : p a := by
  have hp : ∀ m ∈ bases, p (a &&& m) := fun m hm => by
    rcases of_all (p := fun a => ∀ m ∈ bases, a &&& m = 0 ∨ a &&& m = m) part8 a m hm with h | h <;> rw [h]
    · exact h0
    · exact hb m hm
  rw [← of_all (p := fun a => ((a &&& 1) ^^^ ((a &&& 2) ^^^ ((a &&& 4) ^^^ ((a &&& 8) ^^^ ((a &&& 16) ^^^ ((a &&& 32) ^^^ ((a &&& 64) ^^^ (a &&& 128)))))))) = a) split8 a]
  exact hx _ _ (hp 1 (by decide)) (hx _ _ (hp 2 (by decide)) (hx _ _ (hp 4 (by decide)) (hx _ _ (hp 8 (by decide)) (hx _ _ (hp 16 (by decide)) (hx _ _ (hp 32 (by decide)) (hx _ _ (hp 64 (by decide)) (hp 128 (by decide))))))))
theorem comm_bases : ∀ a ∈ bases, ∀ b ∈ bases, tm a b = tm b a := by decide +kernel
theorem assoc_bases : ∀ a ∈ bases, ∀ b ∈ bases, ∀ c ∈ bases, tm a (tm b c) = tm (tm a b) c := by decide +kernel
theorem tm_comm (a b : UInt8) : tm a b = tm b a := by
  refine u8_ind (p := fun a => ∀ b, tm a b = tm b a) (fun b => by rw [tm_zero_left, tm_zero_right]) (fun x y hx hy b => by rw [tm_xor_left, tm_xor_right, hx, hy]) ?_ a b
  intro m hm b
  exact u8_ind (p := fun b => tm m b = tm b m) (by rw [tm_zero_left, tm_zero_right]) (fun x y hx hy => by rw [tm_xor_left, tm_xor_right, hx, hy]) (fun k hk => comm_bases m hm k hk) b
theorem tm_assoc (a b c : UInt8) : tm a (tm b c) = tm (tm a b) c := by
  refine u8_ind (p := fun a => ∀ b c, tm a (tm b c) = tm (tm a b) c) (fun b c => by simp only [tm_zero_left]) (fun x y hx hy b c => by rw [tm_xor_left, tm_xor_left, tm_xor_left, hx, hy]) ?_ a b c
  intro m hm b c
  refine u8_ind (p := fun b => ∀ c, tm m (tm b c) = tm (tm m b) c) (fun c => by simp only [tm_zero_left, tm_zero_right]) (fun x y hx hy c => by rw [tm_xor_left, tm_xor_right, tm_xor_right, tm_xor_left, hx, hy]) ?_ b c
  intro k hk c
  exact u8_ind (p := fun c => tm m (tm k c) = tm (tm m k) c) (by simp only [tm_zero_right]) (fun x y hx hy => by rw [tm_xor_right, tm_xor_right, tm_xor_right, hx, hy]) (fun l hl => assoc_bases m hm k hk l hl) c
theorem one_all : ∀ n, n < 256 → tm (UInt8.ofNat n) 1 = UInt8.ofNat n := by decide +kernel
theorem tm_one (a : UInt8) : tm a 1 = a := of_all (p := fun a => tm a 1 = a) one_all a
theorem one_tm (a : UInt8) : tm 1 a = a := by rw [tm_comm, tm_one]
/-- The other byte with which the product is 1. -/
def invL : List UInt8 := [
  0, 1, 141, 246, 203, 82, 123, 209, 232, 79, 41, 192, 176, 225, 229, 199,
  116, 180, 170, 75, 153, 43, 96, 95, 88, 63, 253, 204, 255, 64, 238, 178,
  58, 110, 90, 241, 85, 77, 168, 201, 193, 10, 152, 21, 48, 68, 162, 194,
  44, 69, 146, 108, 243, 57, 102, 66, 242, 53, 32, 111, 119, 187, 89, 25,
  29, 254, 55, 103, 45, 49, 245, 105, 167, 100, 171, 19, 84, 37, 233, 9,
  237, 92, 5, 202, 76, 36, 135, 191, 24, 62, 34, 240, 81, 236, 97, 23,
  22, 94, 175, 211, 73, 166, 54, 67, 244, 71, 145, 223, 51, 147, 33, 59,
  121, 183, 151, 133, 16, 181, 186, 60, 182, 112, 208, 6, 161, 250, 129, 130,
  131, 126, 127, 128, 150, 115, 190, 86, 155, 158, 149, 217, 247, 2, 185, 164,
  222, 106, 50, 109, 216, 138, 132, 114, 42, 20, 159, 136, 249, 220, 137, 154,
  251, 124, 46, 195, 143, 184, 101, 72, 38, 200, 18, 74, 206, 231, 210, 98,
  12, 224, 31, 239, 17, 117, 120, 113, 165, 142, 118, 61, 189, 188, 134, 87,
  11, 40, 47, 163, 218, 212, 228, 15, 169, 39, 83, 4, 27, 252, 172, 230,
  122, 7, 174, 99, 197, 219, 226, 234, 148, 139, 196, 213, 157, 248, 144, 107,
  177, 13, 214, 235, 198, 14, 207, 173, 8, 78, 215, 227, 93, 80, 30, 179,
  91, 35, 56, 52, 104, 70, 3, 140, 221, 156, 125, 160, 205, 26, 65, 28]
def inv (a : UInt8) : UInt8 := invL.getD a.toNat 0
theorem inv_all : ∀ n, n < 256 → (UInt8.ofNat n = 0 ∨ tm (UInt8.ofNat n) (inv (UInt8.ofNat n)) = 1) := by decide +kernel
theorem tm_inv (a : UInt8) (h : a ≠ 0) : tm a (inv a) = 1 := (of_all (p := fun a => a = 0 ∨ tm a (inv a) = 1) inv_all a).resolve_left h
theorem tm_ne_zero (a b : UInt8) (ha : a ≠ 0) (hb : b ≠ 0) : tm a b ≠ 0 := by
  intro h
  have h1 : tm (inv a) (tm a b) = b := by rw [tm_assoc, tm_comm (inv a) a, tm_inv a ha, one_tm]
  rw [h, tm_zero_right] at h1
  exact hb h1.symm
/-- There is but one. -/
theorem tm_one_iff (a b : UInt8) (ha : a ≠ 0) : tm a b = 1 ↔ b = inv a := by
  constructor
  · intro h
    have h1 : tm (inv a) (tm a b) = b := by rw [tm_assoc, tm_comm (inv a) a, tm_inv a ha, one_tm]
    rw [h, tm_one] at h1
    exact h1.symm
  · intro h
    rw [h, tm_inv a ha]

end Go.Proofs.Ytjmeiloklhbllaa
