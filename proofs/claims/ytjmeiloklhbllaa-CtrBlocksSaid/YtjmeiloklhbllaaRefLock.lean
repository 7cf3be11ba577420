/- The walk of the reference's Lock: it locks a block as lockF says. No condition. -/
import Derived.Test.YtjmeiloklhbllaaRefRounds
import Derived.Test.YtjmeiloklhbllaaLock
import Derived.Test.YtjmeiloklhbllaaField
namespace Go.Proofs.Ytjmeiloklhbllaa
open Go.RowKit

theorem rkRow (key : Nat → UInt8) (i : Nat) : rowF 16 (fun j => byt (rkF key) (i * 16 + j)) = rowF 16 (byt (rk key i)) :=
  rowF_congr fun j hj => by simp only [byt]; rw [show i * 16 + j = 16 * i + j by omega, rkF_at _ _ _ hj]
structure RlP (w wr : World) (key s : Nat → UInt8) : Prop where
  below : Below w.heap.size w wr
  hk : Has wr w.heap.size 28 16 (byt key)
  hs : Has wr (w.heap.size + 1) 28 16 (byt s)
  hr : Has wr (w.heap.size + 1 + 1) 28 16 (byt fun _ => 0)
theorem RlP.start (w : World) (key s : Nat → UInt8) : RlP w (((w.alloc (.cells (rowF 16 (byt key)) 28)).alloc (.cells (rowF 16 (byt s)) 28)).alloc (.cells (rowF 16 (byt fun _ => 0)) 28)) key s :=
  ⟨(((Below.refl _ _).alloc (Nat.le_refl _) _).alloc (by simp) _).alloc (by simp; omega) _, ((Has.new _ _ _ _).alloc _).alloc _, (by have := ((Has.new (w.alloc (.cells (rowF 16 (byt key)) 28)) 28 16 (byt s)).alloc (.cells (rowF 16 (byt fun _ => 0)) 28)); simpa using this), (by have := Has.new ((w.alloc (.cells (rowF 16 (byt key)) 28)).alloc (.cells (rowF 16 (byt s)) 28)) 28 16 (byt fun _ => 0); simpa using this)⟩
theorem RlP.on {w wr w1 : World} {key s : Nat → UInt8} (h : RlP w wr key s) (hb : Below wr.heap.size wr w1) : RlP w w1 key s :=
  ⟨h.below.trans (hb.mono (by have := h.hk.lt; omega)), h.hk.below hb h.hk.lt, h.hs.below hb h.hs.lt, h.hr.below hb h.hr.lt⟩
theorem below_alloc_row (w : World) (A : Obj) (cs : Array Value) : Below w.heap.size w ((w.alloc A).setRow w.heap.size cs) := Below.setRow ((Below.refl _ _).alloc (Nat.le_refl _) _) (Nat.le_refl _) _

structure RlI (w wr : World) (key s : Nat → UInt8) (B L S : Nat) : Prop where
  below : Below w.heap.size w wr
  hr : Has wr (w.heap.size + 1 + 1) 28 16 (byt fun _ => 0)
  hb : Has wr B 33 256 (byt sbN)
  hl : Has wr L 31 176 (byt (rkF key))
  hs : Has wr S 28 16 (byt s)
theorem RlI.on {w wr w1 : World} {key s : Nat → UInt8} {B L S : Nat} (h : RlI w wr key s B L S) (hb : Below wr.heap.size wr w1) : RlI w w1 key s B L S :=
  ⟨h.below.trans (hb.mono (by have := h.hr.lt; omega)), h.hr.below hb h.hr.lt, h.hb.below hb h.hb.lt, h.hl.below hb h.hl.lt, h.hs.below hb h.hs.lt⟩
theorem RlI.past {w wr : World} {key s : Nat → UInt8} {B L S : Nat} (h : RlI w wr key s B L S) (a : Addr) (v : Value) (h1 : w.heap.size + 1 + 1 < B) (h2 : B < L) (h3 : L < S) (h4 : S < a.block) : RlI w (wr.setCell a v) key s B L S :=
  ⟨h.below.setCell (by omega) _, h.hr.setOther _ _ (by omega), h.hb.setOther _ _ (by omega), h.hl.setOther _ _ (by omega), h.hs.setOther _ _ (by omega)⟩
theorem RlI.drew {w wr : World} {key s : Nat → UInt8} {B L S : Nat} (h : RlI w wr key s B L S) : RlI w wr.drew key s B L S := ⟨h.below.drew, h.hr.drew, h.hb.drew, h.hl.drew, h.hs.drew⟩
theorem RlI.row {w wr : World} {key s : Nat → UInt8} {B L S : Nat} (h : RlI w wr key s B L S) (T : Nat) (cs : Array Value) (h1 : w.heap.size + 1 + 1 < B) (h2 : B < L) (h3 : L < S) (h4 : S < T) : RlI w (wr.setRow T cs) key s B L S :=
  ⟨Below.setRow h.below (by omega) _, h.hr.setRowOther _ _ (by omega), h.hb.setRowOther _ _ (by omega), h.hl.setRowOther _ _ (by omega), h.hs.setRowOther _ _ (by omega)⟩
theorem RlI.lay {w wr : World} {key s f : Nat → UInt8} {B L S : Nat} (h : RlI w wr key s B L S) (h1 : w.heap.size + 1 + 1 < B) (h2 : B < L) (h3 : L < S) : RlI w (wr.setRow S (rowF 16 (byt f))) key f B L S :=
  ⟨Below.setRow h.below (by omega) _, h.hr.setRowOther _ _ (by omega), h.hb.setRowOther _ _ (by omega), h.hl.setRowOther _ _ (by omega), h.hs.setRow _⟩

theorem Has.subAt {w : World} {b : Nat} {T : TypeId} {s : Nat → UInt8} {i j : Nat} (h : Has w b T 16 (byt (subTo s (4 * i + j)))) (hi : i < 4) (hj : j < 4) :
    Has (w.setCell ⟨b, 4 * i + j, none⟩ (.int .u8 ((sbN (s (4 * ((i + j) % 4) + j)).toNat).toNat : Int))) b T 16 (byt (subTo s (4 * i + j + 1))) := by
  have := h.sub (by omega)
  rw [show (4 * i + j + 4 * ((4 * i + j) % 4)) % 16 = 4 * ((i + j) % 4) + j by omega] at this
  exact this

theorem idx0 (i j : Nat) (hi : i < 4) (hj : j < 4) : IntKind.i64.wrap (4 * (i : Int)) = 4 * (i : Int) ∧ IntKind.i64.wrap (4 * (i : Int) + (j : Int)) = 4 * (i : Int) + (j : Int) ∧ (0 : Int) ≤ 4 * (i : Int) + (j : Int) ∧ 4 * (i : Int) + (j : Int) < 16 ∧ (4 * (i : Int) + (j : Int)).toNat = 4 * i + j :=
  ⟨IntWalk.i64_in _ (by omega), IntWalk.i64_in _ (by omega), by omega, by omega, by omega⟩
theorem idx3 (i j k : Nat) (K : Int) (hK : K = (k : Int)) (hi : i < 4) (hj : j < 4) (hk : k < 4) :
    IntKind.i64.wrap ((j : Int) + K) = (j : Int) + K ∧ ((j : Int) + K).tmod 4 = ((j : Int) + K) % 4 ∧ IntKind.i64.wrap (4 * (i : Int) + ((j : Int) + K) % 4) = 4 * (i : Int) + ((j : Int) + K) % 4 ∧ (0 : Int) ≤ 4 * (i : Int) + ((j : Int) + K) % 4 ∧ 4 * (i : Int) + ((j : Int) + K) % 4 < 16 ∧ (4 * (i : Int) + ((j : Int) + K) % 4).toNat = 4 * i + (j + k) % 4 := by
  subst hK
  exact ⟨IntWalk.i64_in _ (by omega), Int.tmod_eq_emod_of_nonneg (by omega), IntWalk.i64_in _ (by omega), by omega, by omega, by omega⟩
theorem colF_at (s : Nat → UInt8) (i j : Nat) (hj : j < 4) : colF s mc (4 * i + j) = tm (s (4 * i + j)) 2 ^^^ tm (s (4 * i + (j + 1) % 4)) 3 ^^^ s (4 * i + (j + 2) % 4) ^^^ s (4 * i + (j + 3) % 4) := by
  simp only [colF, colTo, mc, mcL, List.getD_cons_zero, List.getD_cons_succ]
  rw [show (4 * i + j) / 4 * 4 + (4 * i + j + 0) % 4 = 4 * i + j by omega, show (4 * i + j) / 4 * 4 + (4 * i + j + 1) % 4 = 4 * i + (j + 1) % 4 by omega, show (4 * i + j) / 4 * 4 + (4 * i + j + 2) % 4 = 4 * i + (j + 2) % 4 by omega, show (4 * i + j) / 4 * 4 + (4 * i + j + 3) % 4 = 4 * i + (j + 3) % 4 by omega, one_tm, one_tm, tm_comm 2, tm_comm 3]
  simp

set_option maxRecDepth 100000 in
set_option maxHeartbeats 2000000 in
theorem refLock_any (key b : Nat → UInt8) (w : World) :
    Calls Try.prog 25 #[.agg (rowF 16 (byt key)), .agg (rowF 16 (byt b))] w fun e w' => e = .returned (.agg (rowF 16 (byt (lockF key b)))) ∧ Below w.heap.size w w' := by
  have hz := zero33
  have hz2 := zero31
  go_enter Try.func25, Try.ntmps25
  go_wp2_with fail
  rw [zeros16]
  have hP := RlP.start w key b
  generalize World.alloc _ _ = w0 at hP ⊢
  go_at_call 22
  refine (refBoxes_any _).mono ?_
  rintro e w1 ⟨rfl, hb1⟩
  have hP1 := hP.on hb1
  have hX : Has (w1.alloc (.cells (rowF 256 (byt fun _ => 0)) 33)) w1.heap.size 33 256 (byt fun _ => 0) := Has.new _ _ _ _
  have hP2 := hP1.on (below_alloc_row w1 (.cells (rowF 256 (byt fun _ => 0)) 33) (rowF 256 (byt sbN)))
  have hX2 := hX.setRow (byt sbN)
  have oB : w.heap.size + 1 + 1 < w1.heap.size := hP1.hr.lt
  clear hP hP1 hb1
  go_wp2_with (first | (refine wpList_store_has rfl 33 (.tmp 5) (.tmp 15) rfl _ rfl hX _ rfl info33 ?_) | (refine wpList_load_has rfl 33 (.tmp 5) rfl _ rfl hX2 5 und33 info33 ?_) | (refine wpList_load_has rfl 28 (.tmp 2) rfl _ rfl hP2.hk 5 und28 info28 ?_))
  clear hX
  generalize World.setRow _ _ _ = w2 at hP2 hX2 ⊢
  generalize w1.heap.size = B at oB hX2 ⊢
  go_at_call 21
  refine (refRounds_any key _).mono ?_
  rintro e w3 ⟨rfl, hb3⟩
  have hP3 := (hP2.on hb3).on (below_alloc_row w3 (.cells (rowF 176 (byt fun _ => 0)) 31) (rowF 176 (byt (rkF key))))
  have hX3 : Has ((w3.alloc (.cells (rowF 176 (byt fun _ => 0)) 31)).setRow w3.heap.size (rowF 176 (byt (rkF key)))) B 33 256 (byt sbN) := (hX2.below hb3 hX2.lt).below (below_alloc_row w3 _ _) (hX2.below hb3 hX2.lt).lt
  have hY : Has (w3.alloc (.cells (rowF 176 (byt fun _ => 0)) 31)) w3.heap.size 31 176 (byt fun _ => 0) := Has.new _ _ _ _
  have hY2 := hY.setRow (byt (rkF key))
  have oL : B < w3.heap.size := (hX2.below hb3 hX2.lt).lt
  clear hP2 hX2 hb3
  go_wp2_with (first | (refine wpList_store_has rfl 31 (.tmp 6) (.tmp 18) rfl _ rfl hY _ rfl info31 ?_) | (refine wpList_load_has rfl 28 (.tmp 3) rfl _ rfl hP3.hs 5 und28 info28 ?_) | (refine wpList_load_mid_has rfl 28 (.tmp 20) rfl (0 * 16) rfl hY2 16 5 (by omega) und28 info28 ?_; rw [rkRow]))
  clear hY
  generalize World.setRow _ _ _ = w4 at hP3 hX3 hY2 ⊢
  generalize w3.heap.size = L at oL hY2 ⊢
  go_at_call 38
  refine (refXor_any _ _ _).mono ?_
  rintro e w5 ⟨rfl, hb5⟩
  have hX5 := hX3.below hb5 hX3.lt
  have hY5 := hY2.below hb5 hY2.lt
  have hP5 := hP3.on hb5
  have hI0 : RlI w ((w5.alloc (.cells (rowF 16 (byt fun _ => 0)) 28)).setRow w5.heap.size (rowF 16 (byt (mixF b (rk key 0))))) key (lk key b 0) B L w5.heap.size :=
    ⟨(hP5.on (below_alloc_row w5 _ _)).below, (hP5.on (below_alloc_row w5 _ _)).hr, hX5.below (below_alloc_row w5 _ _) hX5.lt, hY5.below (below_alloc_row w5 _ _) hY5.lt, (Has.new w5 28 16 (byt fun _ => 0)).setRow _⟩
  have oS : L < w5.heap.size := hY5.lt
  have hZ : Has (w5.alloc (.cells (rowF 16 (byt fun _ => 0)) 28)) w5.heap.size 28 16 (byt fun _ => 0) := Has.new _ _ _ _
  clear hP3 hX3 hY2 hb5 hX5 hY5 hP5
  go_wp2_with (first | (rw [zeros16]; refine wpList_store_has rfl 28 (.tmp 7) (.tmp 22) rfl _ rfl hZ _ rfl info28 ?_))
  clear hZ
  generalize World.setRow _ _ _ = w6 at hI0 ⊢
  generalize w5.heap.size = S at oS hI0 ⊢
  go_loopw [8] (fun i wr => ∃ n : Nat, n ≤ 10 ∧ i = .int .i64 ((n : Int) + 1) ∧ RlI w wr key (lk key b n) B L S) (fun i _ => 11 - (intOf i).toNat)
  case atStart => exact ⟨0, by omega, rfl, hI0⟩
  case round =>
    clear hI0
    obtain ⟨n, hn, rfl, hI⟩ := hrel
    by_cases hl : n < 10
    · have hd : decide ((n : Int) + 1 < 11) = true := by simp; omega
      have hZ : Has (wr.alloc (.cells (rowF 16 (byt fun _ => 0)) 28)) wr.heap.size 28 16 (byt fun _ => 0) := Has.new _ _ _ _
      have hI1 := hI.on (below_alloc_row wr (.cells (rowF 16 (byt fun _ => 0)) 28) (rowF 16 (byt fun _ => 0)))
      have hT : Has ((wr.alloc (.cells (rowF 16 (byt fun _ => 0)) 28)).setRow wr.heap.size (rowF 16 (byt fun _ => 0))) wr.heap.size 28 16 (byt (subTo (lk key b n) (4 * 0))) := by rw [show 4 * 0 = 0 from rfl, subTo_zero]; exact hZ.setRow _
      have oT : S < wr.heap.size := hI.hs.lt
      clear hI
      go_wp2_with (first | (refine wpList_build_at rfl 28 #[] rfl [] (by kernel_rfl) (rowF 16 (byt fun _ => 0)) (by kernel_rfl) ?_) | (rw [zeros16]; refine wpList_store_has rfl 28 (.tmp 9) (.tmp 27) rfl _ rfl hZ _ rfl info28 ?_))
      clear hZ
      generalize World.setRow _ _ _ = w7 at hI1 hT ⊢
      generalize wr.heap.size = T at oT hT ⊢
      go_loopw [10] (fun v wr => ∃ i : Nat, i ≤ 4 ∧ v = .int .i64 i ∧ RlI w wr key (lk key b n) B L S ∧ Has wr T 28 16 (byt (subTo (lk key b n) (4 * i)))) (fun v _ => 4 - (intOf v).toNat)
      case atStart => exact ⟨0, by omega, rfl, hI1, hT⟩
      case round =>
        clear hI1 hT
        obtain ⟨i, hi, rfl, hI, hT⟩ := hrel
        by_cases hi4 : i < 4
        · have hd : decide ((i : Int) < 4) = true := by simp; omega
          go_wp2_with fail
          go_loopw [11] (fun v wr => ∃ j : Nat, j ≤ 4 ∧ v = .int .i64 j ∧ RlI w wr key (lk key b n) B L S ∧ Has wr T 28 16 (byt (subTo (lk key b n) (4 * i + j)))) (fun v _ => 4 - (intOf v).toNat)
          case atStart => exact ⟨0, by omega, rfl, hI, hT⟩
          case round =>
            clear hI hT
            obtain ⟨j, hj, rfl, hI, hT⟩ := hrel
            by_cases hj4 : j < 4
            · have hd : decide ((j : Int) < 4) = true := by simp; omega
              have c1 : wr.cell? ⟨S, 4 * ((i + j) % 4) + j, none⟩ = some (.int .u8 ((lk key b n (4 * ((i + j) % 4) + j)).toNat : Int)) := hI.hs.cell (by omega)
              have c2 : wr.cell? ⟨B, (lk key b n (4 * ((i + j) % 4) + j)).toNat, none⟩ = some (.int .u8 ((sbN (lk key b n (4 * ((i + j) % 4) + j)).toNat).toNat : Int)) := hI.hb.cell (UInt8.toNat_lt _)
              have hB := (lk key b n (4 * ((i + j) % 4) + j)).toNat_lt
              have c3 := hT.cell (i := 4 * i + j) (by omega)
              have f3 := hT.frozen (4 * i + j)
              go_wp2_with fail
              go_roundw
              case rel => exact ⟨j + 1, by omega, by go_num, hI.past _ _ oB oL oS oT, hT.subAt (by omega) (by omega)⟩
              case measure => simp [intOf]; omega
            · obtain rfl : j = 4 := by omega
              go_wp2_with fail
              go_roundw
              case rel => exact ⟨i + 1, by omega, by go_num, hI, hT⟩
              case measure => simp [intOf]; omega
        · obtain rfl : i = 4 := by omega
          replace hT := hT.congr (g' := byt (subF (lk key b n))) (fun i hi => by simp [byt, subTo, hi])
          obtain ⟨sF, hsF⟩ : ∃ sF, sF = subF (lk key b n) := ⟨_, rfl⟩
          rw [← hsF] at hT
          by_cases h10 : n + 1 < 10
          · have HL := Lib.hid (show lk key b (n + 1) = mixF (colF sF mc) (rk key (n + 1)) by rw [hsF]; simp [lk, h10])
            clear hsF
            have hd2 : decide ((n : Int) + 1 < 10) = true := by simp; omega
            have hZ : Has (wr.alloc (.cells (rowF 16 (byt fun _ => 0)) 28)) wr.heap.size 28 16 (byt fun _ => 0) := Has.new _ _ _ _
            have hI1 := hI.on (below_alloc_row wr (.cells (rowF 16 (byt fun _ => 0)) 28) (rowF 16 (byt fun _ => 0)))
            have hT1 := hT.below (below_alloc_row wr (.cells (rowF 16 (byt fun _ => 0)) 28) (rowF 16 (byt fun _ => 0))) hT.lt
            have hU : Has ((wr.alloc (.cells (rowF 16 (byt fun _ => 0)) 28)).setRow wr.heap.size (rowF 16 (byt fun _ => 0))) wr.heap.size 28 16 (byt (upTo (colF sF mc) (4 * 0))) := by rw [show 4 * 0 = 0 from rfl, upTo_zero]; exact hZ.setRow _
            have oU : T < wr.heap.size := hT.lt
            clear hI hT
            go_wp2_with (first | (refine wpList_build_at rfl 28 #[] rfl [] (by kernel_rfl) (rowF 16 (byt fun _ => 0)) (by kernel_rfl) ?_) | (rw [zeros16]; refine wpList_store_has rfl 28 (.tmp 12) (.tmp 54) rfl _ rfl hZ _ rfl info28 ?_))
            clear hZ
            generalize World.setRow _ _ _ = w8 at hI1 hT1 hU ⊢
            generalize wr.heap.size = U at oU hU ⊢
            go_loopw [13] (fun v wr => ∃ i : Nat, i ≤ 4 ∧ v = .int .i64 i ∧ RlI w wr key (lk key b n) B L S ∧ Has wr T 28 16 (byt sF) ∧ Has wr U 28 16 (byt (upTo (colF sF mc) (4 * i)))) (fun v _ => 4 - (intOf v).toNat)
            case atStart => exact ⟨0, by omega, rfl, hI1, hT1, hU⟩
            case round =>
              clear hI1 hT1 hU
              obtain ⟨i, hi, rfl, hI, hT, hU⟩ := hrel
              by_cases hi4 : i < 4
              · have hd : decide ((i : Int) < 4) = true := by simp; omega
                go_wp2_with fail
                go_loopw [14] (fun v wr => ∃ j : Nat, j ≤ 4 ∧ v = .int .i64 j ∧ RlI w wr key (lk key b n) B L S ∧ Has wr T 28 16 (byt sF) ∧ Has wr U 28 16 (byt (upTo (colF sF mc) (4 * i + j)))) (fun v _ => 4 - (intOf v).toNat)
                case atStart => exact ⟨0, by omega, rfl, hI, hT, hU⟩
                case round =>
                  clear hI hT hU
                  obtain ⟨j, hj, rfl, hI, hT, hU⟩ := hrel
                  by_cases hj4 : j < 4
                  · have hd : decide ((j : Int) < 4) = true := by simp; omega
                    have c0 : wr.cell? ⟨T, 4 * i + j, none⟩ = some (.int .u8 ((sF (4 * i + j)).toNat : Int)) := hT.cell (by omega)
                    have c1 : wr.cell? ⟨T, 4 * i + (j + 1) % 4, none⟩ = some (.int .u8 ((sF (4 * i + (j + 1) % 4)).toNat : Int)) := hT.cell (by omega)
                    have c2 : wr.cell? ⟨T, 4 * i + (j + 2) % 4, none⟩ = some (.int .u8 ((sF (4 * i + (j + 2) % 4)).toNat : Int)) := hT.cell (by omega)
                    have c3 : wr.cell? ⟨T, 4 * i + (j + 3) % 4, none⟩ = some (.int .u8 ((sF (4 * i + (j + 3) % 4)).toNat : Int)) := hT.cell (by omega)
                    have c4 := hU.cell (i := 4 * i + j) (by omega)
                    have f4 := hU.frozen (4 * i + j)
                    have HV := Lib.hid (colF_at sF i j hj4)
                    go_wp2_with fail
                    obtain ⟨a1, a2, a3, a4, a5⟩ := idx0 i j hi4 hj4
                    obtain ⟨b1, b2, b3, b4, b5, b6⟩ := idx3 i j 1 1 rfl hi4 hj4 (by decide)
                    obtain ⟨d1, d2, d3, d4, d5, d6⟩ := idx3 i j 2 2 rfl hi4 hj4 (by decide)
                    obtain ⟨e1, e2, e3, e4, e5, e6⟩ := idx3 i j 3 3 rfl hi4 hj4 (by decide)
                    refine wp_region_still_tail 39 (by kernel_rfl) (by kernel_rfl) ?_
                    simp only [List.take_succ_cons, List.take_zero, List.drop_succ_cons, List.drop_zero]
                    iterate 10 still_step
                    still_call (refTimes_any _ 2 _)
                    iterate 8 still_step
                    still_call (refTimes_any _ 3 _)
                    iterate 19 still_step
                    refine wpStill_nil ?_
                    clear a1 a2 a3 a4 a5 b1 b2 b3 b4 b5 b6 d1 d2 d3 d4 d5 d6 e1 e2 e3 e4 e5 e6
                    go_wp2_with fail
                    go_roundw
                    case rel => exact ⟨j + 1, by omega, by go_num, (hI.past ⟨U, 4 * i + j, none⟩ _ oB oL oS (by show S < U; omega)).drew, (hT.setOther _ _ (by show T ≠ U; omega)).drew, (hU.upTo (by rw [u8_xor_B, u8_xor_B, u8_xor_B, HV.out])).drew⟩
                    case measure => simp [intOf]; omega
                  · obtain rfl : j = 4 := by omega
                    go_wp2_with fail
                    go_roundw
                    case rel => exact ⟨i + 1, by omega, by go_num, hI, hT, hU⟩
                    case measure => simp [intOf]; omega
              · obtain rfl : i = 4 := by omega
                replace hU := hU.congr (g' := byt (colF sF mc)) (fun i hi => by simp [byt, upTo, hi])
                have hT2 := hT.setRow (byt (colF sF mc))
                have hI2 := hI.row T (rowF 16 (byt (colF sF mc))) oB oL oS oT
                go_wp2_with (first | (refine wpList_load_has rfl 28 (.tmp 12) rfl _ rfl hU 5 und28 info28 ?_) | (refine wpList_store_has rfl 28 (.tmp 9) (.tmp 103) rfl _ rfl hT _ rfl info28 ?_))
                clear hT hI hU
                generalize World.setRow _ _ _ = w9 at hT2 hI2 ⊢
                have hn1 : (0 : Int) ≤ (n : Int) + 1 := by omega
                have hn2 : (n : Int) + 1 < 11 := by omega
                refine wp_region_still_tail 4 (by kernel_rfl) (by kernel_rfl) ?_
                simp only [List.take_succ_cons, List.take_zero, List.drop_succ_cons, List.drop_zero]
                refine wpStill_load_has rfl 28 (.tmp 9) rfl 0 rfl hT2.drew 16 5 (by omega) und28 info28 ?_
                simp only [Nat.zero_add]
                still_step
                still_step
                refine wpStill_load_has rfl 28 (.tmp 106) rfl ((n + 1) * 16) rfl hI2.hl.drew 16 5 (by omega) und28 info28 ?_
                rw [rkRow]
                refine wpStill_nil ?_
                have HS := Lib.hid hI2
                go_wp2_with (first | (go_at_call 38; refine (refXor_any _ _ _).mono ?_; rintro e w10 ⟨rfl, hb9⟩; have hI9 := HS.out.drew.on hb9) | (refine wpList_store_has rfl 28 (.tmp 7) (.tmp 108) rfl _ rfl hI9.hs _ rfl info28 ?_))
                go_roundw
                case rel => exact ⟨n + 1, by omega, by go_num, by rw [HL.out]; exact hI9.lay oB oL oS⟩
                case measure => simp [intOf]; omega
          · have HL := Lib.hid (show lk key b (n + 1) = mixF sF (rk key (n + 1)) by rw [hsF]; simp [lk, h10])
            clear hsF
            have hd2 : decide ((n : Int) + 1 < 10) = false := by simp; omega
            go_wp2_with fail
            have hn1 : (0 : Int) ≤ (n : Int) + 1 := by omega
            have hn2 : (n : Int) + 1 < 11 := by omega
            refine wp_region_still_tail 4 (by kernel_rfl) (by kernel_rfl) ?_
            simp only [List.take_succ_cons, List.take_zero, List.drop_succ_cons, List.drop_zero]
            refine wpStill_load_has rfl 28 (.tmp 9) rfl 0 rfl hT.drew 16 5 (by omega) und28 info28 ?_
            simp only [Nat.zero_add]
            still_step
            still_step
            refine wpStill_load_has rfl 28 (.tmp 106) rfl ((n + 1) * 16) rfl hI.hl.drew 16 5 (by omega) und28 info28 ?_
            rw [rkRow]
            refine wpStill_nil ?_
            have HS := Lib.hid hI
            go_wp2_with (first | (go_at_call 38; refine (refXor_any _ _ _).mono ?_; rintro e w9 ⟨rfl, hb9⟩; have hI9 := HS.out.drew.on hb9) | (refine wpList_store_has rfl 28 (.tmp 7) (.tmp 108) rfl _ rfl hI9.hs _ rfl info28 ?_))
            go_roundw
            case rel => exact ⟨n + 1, by omega, by go_num, by rw [HL.out]; exact hI9.lay oB oL oS⟩
            case measure => simp [intOf]; omega
    · obtain rfl : n = 10 := by omega
      go_wp2_with (first | (refine wpList_load_has rfl 28 (.tmp 7) rfl _ rfl hI.hs 5 und28 info28 ?_) | (refine wpList_store_has rfl 28 (.tmp 4) (.tmp 109) rfl _ rfl hI.hr _ rfl info28 ?_))
      exact ret_has (p := 4) (ty := 28) rfl _ rfl (hI.hr.setRow _) 5 und28 info28 rfl ⟨rfl, Below.setRow hI.below (by omega) _⟩
end Go.Proofs.Ytjmeiloklhbllaa
