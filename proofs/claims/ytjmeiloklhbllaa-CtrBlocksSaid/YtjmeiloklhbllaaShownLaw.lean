/- The example of the document, reckoned in the plain functions: what that block is locked as. -/
import Derived.Test.YtjmeiloklhbllaaDefs
namespace Go.Proofs.Ytjmeiloklhbllaa

/-- f is the list l, sixteen bytes of it. -/
def Is (f : Nat → UInt8) (l : List UInt8) : Prop := ∀ j, j < 16 → f j = l.getD j 0
theorem nkc_congr {f g : Nat → UInt8} (h : ∀ j, j < 16 → f j = g j) (x : UInt8) : ∀ c r, c < 4 → r < 4 → nkc f x c r = nkc g x c r
  | 0, r, _, hr => by unfold nkc; rw [h r (by omega), h (12 + (r + 1) % 4) (by omega)]
  | c + 1, r, hc, hr => by unfold nkc; rw [h (4 * (c + 1) + r) (by omega), nkc_congr h x c r (by omega) hr]
theorem nk_congr {f g : Nat → UInt8} (h : ∀ j, j < 16 → f j = g j) (x : UInt8) : ∀ j, j < 16 → nk f x j = nk g x j :=
  fun j hj => nkc_congr h x _ _ (by omega) (by omega)
theorem mixF_congr {f g k l : Nat → UInt8} (h : ∀ j, j < 16 → f j = g j) (h2 : ∀ j, j < 16 → k j = l j) : ∀ j, j < 16 → mixF f k j = mixF g l j :=
  fun j hj => by unfold mixF; rw [h j hj, h2 j hj]
theorem subF_congr {f g : Nat → UInt8} (h : ∀ j, j < 16 → f j = g j) : ∀ j, j < 16 → subF f j = subF g j :=
  fun j hj => by unfold subF; rw [h _ (by omega)]
theorem colTo_congr {f g q : Nat → UInt8} (h : ∀ j, j < 16 → f j = g j) (i : Nat) (hi : i < 16) : ∀ n, colTo f q i n = colTo g q i n
  | 0 => rfl
  | n + 1 => by unfold colTo; rw [colTo_congr h i hi n, h (i / 4 * 4 + (i + n) % 4) (by omega)]
theorem colF_congr {f g q : Nat → UInt8} (h : ∀ j, j < 16 → f j = g j) : ∀ j, j < 16 → colF f q j = colF g q j :=
  fun j hj => colTo_congr h j hj 4
theorem rk_step {key : Nat → UInt8} {i : Nat} {l m : List UInt8} (h : Is (rk key i) l) (x : UInt8) (hx : rc i = x) (e : ∀ j, j < 16 → nk (fun j => l.getD j 0) x j = m.getD j 0) : Is (rk key (i + 1)) m :=
  fun j hj => by rw [rk, hx, nk_congr h x j hj, e j hj]
theorem lk_step {key b : Nat → UInt8} {i : Nat} {l k m : List UInt8} (h : Is (lk key b i) l) (hk : Is (rk key (i + 1)) k) (hi : i + 1 < 10)
    (e : ∀ j, j < 16 → mixF (colF (subF fun j => l.getD j 0) mc) (fun j => k.getD j 0) j = m.getD j 0) : Is (lk key b (i + 1)) m :=
  fun j hj => by rw [lk, if_pos hi, mixF_congr (colF_congr (subF_congr h)) hk j hj, e j hj]
theorem lk_last {key b : Nat → UInt8} {i : Nat} {l k m : List UInt8} (h : Is (lk key b i) l) (hk : Is (rk key (i + 1)) k) (hi : ¬ i + 1 < 10)
    (e : ∀ j, j < 16 → mixF (subF fun j => l.getD j 0) (fun j => k.getD j 0) j = m.getD j 0) : Is (lk key b (i + 1)) m :=
  fun j hj => by rw [lk, if_neg hi, mixF_congr (subF_congr h) hk j hj, e j hj]

/-- The example's key, and its block. -/
def shK : Nat → UInt8 := fun i => UInt8.ofNat i
def shB : Nat → UInt8 := fun i => UInt8.ofNat (17 * i)

def kL0 : List UInt8 := [0, 1, 2, 3, 4, 5, 6, 7, 8, 9, 10, 11, 12, 13, 14, 15]
def kL1 : List UInt8 := [214, 170, 116, 253, 210, 175, 114, 250, 218, 166, 120, 241, 214, 171, 118, 254]
def kL2 : List UInt8 := [182, 146, 207, 11, 100, 61, 189, 241, 190, 155, 197, 0, 104, 48, 179, 254]
def kL3 : List UInt8 := [182, 255, 116, 78, 210, 194, 201, 191, 108, 89, 12, 191, 4, 105, 191, 65]
def kL4 : List UInt8 := [71, 247, 247, 188, 149, 53, 62, 3, 249, 108, 50, 188, 253, 5, 141, 253]
def kL5 : List UInt8 := [60, 170, 163, 232, 169, 159, 157, 235, 80, 243, 175, 87, 173, 246, 34, 170]
def kL6 : List UInt8 := [94, 57, 15, 125, 247, 166, 146, 150, 167, 85, 61, 193, 10, 163, 31, 107]
def kL7 : List UInt8 := [20, 249, 112, 26, 227, 95, 226, 140, 68, 10, 223, 77, 78, 169, 192, 38]
def kL8 : List UInt8 := [71, 67, 135, 53, 164, 28, 101, 185, 224, 22, 186, 244, 174, 191, 122, 210]
def kL9 : List UInt8 := [84, 153, 50, 209, 240, 133, 87, 104, 16, 147, 237, 156, 190, 44, 151, 78]
def kL10 : List UInt8 := [19, 17, 29, 127, 227, 148, 74, 23, 243, 7, 167, 139, 77, 43, 48, 197]
def sL0 : List UInt8 := [0, 16, 32, 48, 64, 80, 96, 112, 128, 144, 160, 176, 192, 208, 224, 240]
def sL1 : List UInt8 := [137, 216, 16, 232, 133, 90, 206, 104, 45, 24, 67, 216, 203, 18, 143, 228]
def sL2 : List UInt8 := [73, 21, 89, 143, 85, 229, 215, 160, 218, 202, 148, 250, 31, 10, 99, 247]
def sL3 : List UInt8 := [250, 99, 106, 40, 37, 179, 57, 201, 64, 102, 138, 49, 87, 36, 77, 23]
def sL4 : List UInt8 := [36, 114, 64, 35, 105, 102, 179, 250, 110, 210, 117, 50, 136, 66, 91, 108]
def sL5 : List UInt8 := [200, 22, 119, 188, 155, 122, 201, 59, 37, 2, 121, 146, 176, 38, 25, 150]
def sL6 : List UInt8 := [198, 47, 225, 9, 247, 94, 237, 195, 204, 121, 57, 93, 132, 249, 207, 93]
def sL7 : List UInt8 := [209, 135, 108, 15, 121, 196, 48, 10, 180, 85, 148, 173, 214, 111, 244, 31]
def sL8 : List UInt8 := [253, 227, 186, 210, 5, 229, 208, 215, 53, 71, 150, 78, 241, 254, 55, 241]
def sL9 : List UInt8 := [189, 110, 124, 61, 242, 181, 119, 158, 11, 97, 33, 110, 139, 16, 182, 137]
def sL10 : List UInt8 := [105, 196, 224, 216, 106, 123, 4, 48, 216, 205, 183, 128, 112, 180, 197, 90]
theorem kI0 : Is (rk shK 0) kL0 := by unfold Is rk; decide +kernel
theorem rc0 : rc 0 = 1 := by decide +kernel
theorem kI1 : Is (rk shK 1) kL1 := rk_step kI0 1 rc0 (by decide +kernel)
theorem rc1 : rc 1 = 2 := by decide +kernel
theorem kI2 : Is (rk shK 2) kL2 := rk_step kI1 2 rc1 (by decide +kernel)
theorem rc2 : rc 2 = 4 := by decide +kernel
theorem kI3 : Is (rk shK 3) kL3 := rk_step kI2 4 rc2 (by decide +kernel)
theorem rc3 : rc 3 = 8 := by decide +kernel
theorem kI4 : Is (rk shK 4) kL4 := rk_step kI3 8 rc3 (by decide +kernel)
theorem rc4 : rc 4 = 16 := by decide +kernel
theorem kI5 : Is (rk shK 5) kL5 := rk_step kI4 16 rc4 (by decide +kernel)
theorem rc5 : rc 5 = 32 := by decide +kernel
theorem kI6 : Is (rk shK 6) kL6 := rk_step kI5 32 rc5 (by decide +kernel)
theorem rc6 : rc 6 = 64 := by decide +kernel
theorem kI7 : Is (rk shK 7) kL7 := rk_step kI6 64 rc6 (by decide +kernel)
theorem rc7 : rc 7 = 128 := by decide +kernel
theorem kI8 : Is (rk shK 8) kL8 := rk_step kI7 128 rc7 (by decide +kernel)
theorem rc8 : rc 8 = 27 := by decide +kernel
theorem kI9 : Is (rk shK 9) kL9 := rk_step kI8 27 rc8 (by decide +kernel)
theorem rc9 : rc 9 = 54 := by decide +kernel
theorem kI10 : Is (rk shK 10) kL10 := rk_step kI9 54 rc9 (by decide +kernel)
theorem sI0 : Is (lk shK shB 0) sL0 := by unfold Is lk rk; decide +kernel
theorem sI1 : Is (lk shK shB 1) sL1 := lk_step sI0 kI1 (by omega) (by decide +kernel)
theorem sI2 : Is (lk shK shB 2) sL2 := lk_step sI1 kI2 (by omega) (by decide +kernel)
theorem sI3 : Is (lk shK shB 3) sL3 := lk_step sI2 kI3 (by omega) (by decide +kernel)
theorem sI4 : Is (lk shK shB 4) sL4 := lk_step sI3 kI4 (by omega) (by decide +kernel)
theorem sI5 : Is (lk shK shB 5) sL5 := lk_step sI4 kI5 (by omega) (by decide +kernel)
theorem sI6 : Is (lk shK shB 6) sL6 := lk_step sI5 kI6 (by omega) (by decide +kernel)
theorem sI7 : Is (lk shK shB 7) sL7 := lk_step sI6 kI7 (by omega) (by decide +kernel)
theorem sI8 : Is (lk shK shB 8) sL8 := lk_step sI7 kI8 (by omega) (by decide +kernel)
theorem sI9 : Is (lk shK shB 9) sL9 := lk_step sI8 kI9 (by omega) (by decide +kernel)
theorem sI10 : Is (lk shK shB 10) sL10 := lk_last sI9 kI10 (by omega) (by decide +kernel)
/-- What the example's block is locked as. -/
theorem shown_lock : ∀ j, j < 16 → lockF shK shB j = sL10.getD j 0 := sI10

end Go.Proofs.Ytjmeiloklhbllaa
