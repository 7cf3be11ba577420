/- The example of the stream's statements, reckoned in the plain functions: its first block is not all zeros. -/
import Derived.Test.YtjmeiloklhbllaaShownLaw
import Derived.Test.YtjmeiloklhbllaaRefStream
namespace Go.Proofs.Ytjmeiloklhbllaa

/-- The example's key, and its first block. -/
def shK5 : Nat → UInt8 := fun j => if j = 0 then 1 else 0
def shB5 : Nat → UInt8 := ofL (leL 2 8 ++ leL 0 8)

def kM0 : List UInt8 := [1, 0, 0, 0, 0, 0, 0, 0, 0, 0, 0, 0, 0, 0, 0, 0]
def kM1 : List UInt8 := [99, 99, 99, 99, 99, 99, 99, 99, 99, 99, 99, 99, 99, 99, 99, 99]
def kM2 : List UInt8 := [154, 152, 152, 152, 249, 251, 251, 251, 154, 152, 152, 152, 249, 251, 251, 251]
def kM3 : List UInt8 := [145, 151, 151, 1, 104, 108, 108, 250, 242, 244, 244, 98, 11, 15, 15, 153]
def kM4 : List UInt8 := [239, 225, 121, 42, 135, 141, 21, 208, 117, 121, 225, 178, 126, 118, 238, 43]
def kM5 : List UInt8 := [199, 201, 136, 217, 64, 68, 157, 9, 53, 61, 124, 187, 75, 75, 146, 144]
def kM6 : List UInt8 := [84, 134, 232, 106, 20, 194, 117, 99, 33, 255, 9, 216, 106, 180, 155, 72]
def kM7 : List UInt8 := [153, 146, 186, 104, 141, 80, 207, 11, 172, 175, 198, 211, 198, 27, 93, 155]
def kM8 : List UInt8 := [182, 222, 174, 220, 59, 142, 97, 215, 151, 33, 167, 4, 81, 58, 250, 159]
def kM9 : List UInt8 := [45, 243, 117, 13, 22, 125, 20, 218, 129, 92, 179, 222, 208, 102, 73, 65]
def kM10 : List UInt8 := [40, 200, 246, 125, 62, 181, 226, 167, 191, 233, 81, 121, 111, 143, 24, 56]
def sM0 : List UInt8 := [3, 0, 0, 0, 0, 0, 0, 0, 0, 0, 0, 0, 0, 0, 0, 0]
def sM1 : List UInt8 := [48, 24, 24, 40, 0, 0, 0, 0, 0, 0, 0, 0, 0, 0, 0, 0]
def sM2 : List UInt8 := [55, 156, 156, 82, 205, 207, 97, 54, 55, 178, 124, 53, 211, 31, 86, 86]
def sM3 : List UInt8 := [154, 131, 111, 87, 225, 119, 159, 160, 93, 137, 6, 195, 199, 114, 211, 53]
def sM4 : List UInt8 := [121, 143, 75, 84, 163, 209, 107, 180, 101, 182, 157, 85, 51, 43, 27, 17]
def sM5 : List UInt8 := [46, 99, 33, 103, 9, 24, 252, 182, 153, 202, 49, 47, 192, 19, 195, 33]
def sM6 : List UInt8 := [224, 89, 253, 178, 33, 220, 200, 43, 210, 185, 169, 237, 182, 61, 158, 252]
def sM7 : List UInt8 := [178, 186, 171, 126, 170, 43, 43, 36, 17, 89, 244, 157, 161, 174, 236, 192]
def sM8 : List UInt8 := [213, 112, 216, 164, 3, 21, 143, 192, 235, 224, 95, 115, 157, 173, 39, 112]
def sM9 : List UInt8 := [94, 89, 89, 60, 93, 217, 214, 232, 55, 157, 216, 101, 99, 128, 42, 132]
def sM10 : List UInt8 := [112, 253, 151, 34, 114, 235, 7, 76, 37, 36, 154, 226, 148, 68, 238, 117]
theorem kJ0 : Is (rk shK5 0) kM0 := by unfold Is rk; decide +kernel
theorem kJ1 : Is (rk shK5 1) kM1 := rk_step kJ0 1 rc0 (by decide +kernel)
theorem kJ2 : Is (rk shK5 2) kM2 := rk_step kJ1 2 rc1 (by decide +kernel)
theorem kJ3 : Is (rk shK5 3) kM3 := rk_step kJ2 4 rc2 (by decide +kernel)
theorem kJ4 : Is (rk shK5 4) kM4 := rk_step kJ3 8 rc3 (by decide +kernel)
theorem kJ5 : Is (rk shK5 5) kM5 := rk_step kJ4 16 rc4 (by decide +kernel)
theorem kJ6 : Is (rk shK5 6) kM6 := rk_step kJ5 32 rc5 (by decide +kernel)
theorem kJ7 : Is (rk shK5 7) kM7 := rk_step kJ6 64 rc6 (by decide +kernel)
theorem kJ8 : Is (rk shK5 8) kM8 := rk_step kJ7 128 rc7 (by decide +kernel)
theorem kJ9 : Is (rk shK5 9) kM9 := rk_step kJ8 27 rc8 (by decide +kernel)
theorem kJ10 : Is (rk shK5 10) kM10 := rk_step kJ9 54 rc9 (by decide +kernel)
theorem sJ0 : Is (lk shK5 shB5 0) sM0 := by unfold Is lk rk; decide +kernel
theorem sJ1 : Is (lk shK5 shB5 1) sM1 := lk_step sJ0 kJ1 (by omega) (by decide +kernel)
theorem sJ2 : Is (lk shK5 shB5 2) sM2 := lk_step sJ1 kJ2 (by omega) (by decide +kernel)
theorem sJ3 : Is (lk shK5 shB5 3) sM3 := lk_step sJ2 kJ3 (by omega) (by decide +kernel)
theorem sJ4 : Is (lk shK5 shB5 4) sM4 := lk_step sJ3 kJ4 (by omega) (by decide +kernel)
theorem sJ5 : Is (lk shK5 shB5 5) sM5 := lk_step sJ4 kJ5 (by omega) (by decide +kernel)
theorem sJ6 : Is (lk shK5 shB5 6) sM6 := lk_step sJ5 kJ6 (by omega) (by decide +kernel)
theorem sJ7 : Is (lk shK5 shB5 7) sM7 := lk_step sJ6 kJ7 (by omega) (by decide +kernel)
theorem sJ8 : Is (lk shK5 shB5 8) sM8 := lk_step sJ7 kJ8 (by omega) (by decide +kernel)
theorem sJ9 : Is (lk shK5 shB5 9) sM9 := lk_step sJ8 kJ9 (by omega) (by decide +kernel)
theorem sJ10 : Is (lk shK5 shB5 10) sM10 := lk_last sJ9 kJ10 (by omega) (by decide +kernel)
/-- The first byte of the example's stream. -/
theorem shown5_first : sAt shK5 2 0 = 112 := by
  have h : lockF shK5 shB5 0 = 112 := sJ10 0 (by omega)
  exact h

end Go.Proofs.Ytjmeiloklhbllaa
