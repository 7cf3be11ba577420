/- The walk of (*Cipher).begin: the round keys and the box turned round are laid into the cipher's own block. -/
import Derived.Test.YtjmeiloklhbllaaKeys
import Derived.Test.YtjmeiloklhbllaaT15
import Derived.Test.YtjmeiloklhbllaaBox
import Derived.Deep.RegionHeld3
namespace Go.Proofs.Ytjmeiloklhbllaa
open Go.RowKit

structure BegI (w wr : World) (c : Nat) (g : Nat → Value) : Prop where
  but : ButOne c w wr
  has : Has wr c 71 451 g

theorem BegI.back {w wr : World} {c : Nat} {g : Nat → Value} {n : Nat} (h : BegI w wr c (backTo g n)) : BegI w (wr.setCell ⟨c, 195 + (sbN n).toNat, none⟩ (.int .u8 (n : Int))) c (backTo g (n + 1)) :=
  ⟨h.but.set _ _, h.has.set _ _⟩

theorem BegI.keyRow {w wr : World} {c : Nat} {g : Nat → Value} {key : Nat → UInt8} (_h : BegI w wr c (backTo g 256)) (hk : ∀ j, j < 16 → g j = byt key j) :
    (rowF 16 fun j => backTo g 256 (0 + j)) = rowF 16 (byt key) := rowF_congr fun j hj => by rw [backTo_out _ _ _ (by omega), Nat.zero_add]; exact hk j hj
theorem BegI.first {w wr : World} {c : Nat} {g : Nat → Value} (h : BegI w wr c (backTo g 256)) (key : Nat → UInt8) :
    BegI w (World.setRow { wr with drawn := wr.drawn + 1 } c (rowF 451 (updR (backTo g 256) 19 16 (byt key)))) c (kst key (backTo g 256) (16 * 1 + 0)) :=
  ⟨(ButOne.drew h.but).setRow _, ((Has.drew h.has).setRow _).congr fun i hi => by
    simp only [updR, kst]
    by_cases h1 : 19 ≤ i ∧ i < 19 + 16
    · rw [if_pos h1, if_pos (by omega)]
      unfold byt
      rw [show rkF key (i - 19) = key (i - 19) by unfold rkF; rw [show (i - 19) / 16 = 0 by omega, show (i - 19) % 16 = i - 19 by omega]; rfl]
    · rw [if_neg h1, if_neg (by omega)]⟩

theorem BegI.key {w wr : World} {c : Nat} {g : Nat → Value} {key : Nat → UInt8} {n : Nat} (h : BegI w wr c (kst key g n)) (i j : Nat) (hj : j < 16) (hn : 16 * i + j < n) (hn2 : n ≤ 176 := by omega) :
    wr.cell? ⟨c, 19 + i * 16 + j, none⟩ = some (.int .u8 ((rk key i j).toNat : Int)) := by
  rw [show 19 + i * 16 + j = 19 + (16 * i + j) by omega, h.has.cell (by omega), kst_at _ _ _ _ hn]
  unfold byt; rw [rkF_at _ _ _ hj]
theorem BegI.keyPast {w wr : World} {c : Nat} {g : Nat → Value} {key : Nat → UInt8} {n : Nat} (h : BegI w wr c (kst key g n)) (i j m : Nat) (v : Value) (hj : j < 16) (hn : 16 * i + j < n) (hm : 19 + i * 16 + j ≠ m) (hn2 : n ≤ 176 := by omega) :
    (wr.setCell ⟨c, m, none⟩ v).cell? ⟨c, 19 + i * 16 + j, none⟩ = some (.int .u8 ((rk key i j).toNat : Int)) := by
  rw [World.cell?_setCell_other _ _ _ _ (fun e => hm (congrArg Addr.off e).symm)]
  exact h.key i j hj hn
theorem BegI.lay {w wr : World} {c : Nat} {g : Nat → Value} {key : Nat → UInt8} {n m : Nat} {v : Value} (h : BegI w wr c (kst key g n)) (hm : m = 19 + n) (hv : v = byt (rkF key) n) :
    BegI w (wr.setCell ⟨c, m, none⟩ v) c (kst key g (n + 1)) := by
  subst hm hv
  exact ⟨h.but.set _ _, by have := h.has.set (19 + n) (byt (rkF key) n); rw [kst_next] at this; exact this⟩
theorem BegI.layLow {w wr : World} {c : Nat} {g : Nat → Value} {key : Nat → UInt8} {k j : Nat} (h : BegI w wr c (kst key g (16 * (k + 1) + j))) (h4 : j < 4) (h0 : j ≠ 0) (_hk : k + 1 < 11) :
    BegI w (wr.setCell ⟨c, 19 + (k + 1) * 16 + j, none⟩ (.int .u8 (bits .xor .u8 ((rk key k j).toNat : Int) ((sbN (rk key k (12 + (j + 1) % 4)).toNat).toNat : Int)))) c (kst key g (16 * (k + 1) + (j + 1))) := by
  refine h.lay (by omega) ?_
  unfold byt
  rw [rkF_at _ _ _ (by omega), u8_xor_B, rk, nk_lt _ _ _ h4, if_neg h0]
  simp [sb]
theorem BegI.half {w wr : World} {c : Nat} {g : Nat → Value} (h : BegI w wr c g) (m : Nat) (v : Value) : BegI w (wr.setCell ⟨c, m, none⟩ v) c (upd g m v) :=
  ⟨h.but.set _ _, h.has.set _ _⟩
theorem BegI.layZero {w wr : World} {c : Nat} {g : Nat → Value} {key : Nat → UInt8} {k j : Nat} {v : Value} (h : BegI w wr c (upd (kst key g (16 * (k + 1) + j)) (19 + (k + 1) * 16 + j) v)) (h0 : j = 0) :
    BegI w (wr.setCell ⟨c, 19 + (k + 1) * 16 + j, none⟩ (.int .u8 (bits .xor .u8 (bits .xor .u8 ((rk key k j).toNat : Int) ((sbN (rk key k (12 + (j + 1) % 4)).toNat).toNat : Int)) ((rc k).toNat : Int)))).drew c (kst key g (16 * (k + 1) + (j + 1))) := by
  have e1 : 19 + (k + 1) * 16 + j = 19 + (16 * (k + 1) + j) := by omega
  refine ⟨(h.but.set _ _).drew, ?_⟩
  have := (h.has.set (19 + (k + 1) * 16 + j) (byt (rkF key) (16 * (k + 1) + j))).drew
  have e2 : ∀ (g : Nat → Value) (i : Nat) (a b : Value), upd (upd g i a) i b = upd g i b := fun g i a b => by funext m; simp only [upd]; split <;> rfl
  rw [e2, e1, kst_next] at this
  rw [e1]
  have e3 : (Value.int .u8 (bits .xor .u8 (bits .xor .u8 ((rk key k j).toNat : Int) ((sbN (rk key k (12 + (j + 1) % 4)).toNat).toNat : Int)) ((rc k).toNat : Int))) = byt (rkF key) (16 * (k + 1) + j) := by
    unfold byt
    rw [rkF_at _ _ _ (by omega), u8_xor_B, u8_xor_B, rk, nk_lt _ _ _ (by omega), if_pos h0]
    simp only [sb, UInt8.xor_assoc]
  rw [e3]
  exact this
theorem BegI.layHigh {w wr : World} {c : Nat} {g : Nat → Value} {key : Nat → UInt8} {k j : Nat} (h : BegI w wr c (kst key g (16 * (k + 1) + j))) (h4 : 4 ≤ j) (hj : j < 16) (_hk : k + 1 < 11) :
    BegI w (wr.setCell ⟨c, 19 + (k + 1) * 16 + j, none⟩ (.int .u8 (bits .xor .u8 ((rk key k j).toNat : Int) ((rk key (k + 1) (j - 4)).toNat : Int)))).drew c (kst key g (16 * (k + 1) + (j + 1))) := by
  have hv : (Value.int .u8 (bits .xor .u8 ((rk key k j).toNat : Int) ((rk key (k + 1) (j - 4)).toNat : Int))) = byt (rkF key) (16 * (k + 1) + j) := by
    unfold byt
    rw [rkF_at _ _ _ (by omega), u8_xor_B, rk, nk_ge _ _ j h4]
  have := h.lay (m := 19 + (k + 1) * 16 + j) (v := byt (rkF key) (16 * (k + 1) + j)) (by omega) rfl
  rw [hv]
  exact ⟨this.but.drew, this.has.drew⟩
theorem BegI.drewBelow {w wr w1 : World} {c : Nat} {g : Nat → Value} (h : BegI w wr c g) (hb : Below wr.drew.heap.size wr.drew w1) : BegI w w1 c g :=
  ⟨h.but.drew.below hb, h.has.drew.below hb h.has.lt⟩

set_option maxRecDepth 100000 in
set_option maxHeartbeats 1000000 in
theorem begin_any (key : Nat → UInt8) (g : Nat → Value) (c : Nat) (w : World) (hg : Has w c 71 451 g) (hk : ∀ j, j < 16 → g j = byt key j) :
    Calls Try.prog 43 #[.pointer (some ⟨c, 0, none⟩)] w fun e w' => e = .returned (.tuple #[]) ∧ ButOne c w w' ∧ Has w' c 71 451 (begun key g) := by
  have HG := Lib.hid hg; clear hg
  have HK := Lib.hid hk; clear hk
  go_enter Try.func43, Try.ntmps43
  go_wp2_with (go_at_call 33; refine (box_any _).mono ?_; rintro e w1 ⟨rfl, hb1⟩)
  have hI0 : BegI w w1 c (backTo g 0) := ⟨ButOne.of_below hb1, HG.out.below hb1 HG.out.lt⟩
  clear hb1
  go_loopw [10] (fun i wr => ∃ j : Nat, j ≤ 256 ∧ i = .int .i64 j ∧ BegI w wr c (backTo g j)) (fun i _ => 256 - (intOf i).toNat)
  case atStart => exact ⟨0, by omega, rfl, hI0⟩
  case round =>
    clear hI0
    obtain ⟨j, hj, rfl, hI⟩ := hrel
    by_cases hlt : j < 256
    · have hx := fun w => run_index_rowF (P := Try.prog) w 33 5 256 sbN .i64 j hlt und33 (by kernel_rfl) (by kernel_rfl)
      have hb := (sbN j).toNat_lt
      have c1 := hI.has.cell (i := 195 + (sbN j).toNat) (by omega)
      have f1 := hI.has.frozen (195 + (sbN j).toNat)
      go_wp2
      go_roundw
      case rel => exact ⟨j + 1, by omega, by go_num, hI.back⟩
      case measure => simp [intOf]; omega
    · obtain rfl : j = 256 := by omega
      go_wp2
      refine wp_region_still_tail 8 (by kernel_rfl) (by kernel_rfl) ?_
      simp only [List.take_succ_cons, List.take_zero, List.drop_succ_cons, List.drop_zero]
      iterate 4 still_step
      refine wpStill_load_has rfl 28 (.tmp 25) rfl 0 rfl (Has.drew hI.has) 16 5 (by omega) und28 info28 ?_
      rw [hI.keyRow HK.out]
      simp only [Act.put, List.setIfInBounds_toArray, List.set_cons_zero, List.set_cons_succ]
      iterate 3 still_step
      refine wpStill_nil ?_
      refine wpList_store_mid_has rfl 28 (.tmp 29) (.tmp 26) rfl 19 rfl (Has.drew hI.has) 16 key rfl (by omega) info28 ?_
      have hJ0 := hI.first key
      clear hI
      generalize World.setRow _ _ _ = w2 at hJ0 ⊢
      simp only [Act.put]
      go_wp2
      go_loopw [4, 5] (fun x i wr => ∃ k : Nat, k ≤ 10 ∧ x = .int .u8 ((rc k).toNat : Int) ∧ i = .int .i64 ((k : Int) + 1) ∧ BegI w wr c (kst key (backTo g 256) (16 * (k + 1) + 0))) (fun _ i _ => 11 - (intOf i).toNat)
      case atStart => exact ⟨0, by omega, rfl, rfl, hJ0⟩
      case round =>
        clear hJ0
        obtain ⟨k, hk, rfl, rfl, hI⟩ := hrel
        by_cases hlt : k < 10
        · go_wp2
          have a1 : IntKind.i64.wrap (k : Int) = (k : Int) := IntWalk.i64_in _ (by omega)
          have a2 : ((k : Int) + 1).toNat = k + 1 := by omega
          have a3 : (0 : Int) ≤ (k : Int) + 1 := by omega
          have a4 : (k : Int) + 1 < 11 := by omega
          have a5 : (k : Int) < 11 := by omega
          have a6 : (0 : Int) ≤ (k : Int) := by omega
          go_still (by kernel_rfl)
          clear a1 a2 a3 a4 a5 a6
          go_wp2
          have hI2 : BegI w { wr with drawn := wr.drawn + 1 } c (kst key (backTo g 256) (16 * (k + 1) + 0)) := ⟨hI.but.drew, hI.has⟩
          clear hI
          generalize ({ wr with drawn := wr.drawn + 1 } : World) = wo at hI2 ⊢
          go_loopw [45] (fun n wr => ∃ j : Nat, j ≤ 16 ∧ n = .int .i64 j ∧ BegI w wr c (kst key (backTo g 256) (16 * (k + 1) + j))) (fun n _ => 16 - (intOf n).toNat)
          case atStart => exact ⟨0, by omega, rfl, hI2⟩
          case round =>
            clear hI2
            obtain ⟨j, hj, rfl, hI⟩ := hrel
            by_cases h4 : j < 4
            · have c1 : wr.cell? ⟨c, 19 + k * 16 + j, none⟩ = some (.int .u8 ((rk key k j).toNat : Int)) := hI.key k j (by omega) (by omega)
              have c2 : wr.cell? ⟨c, 19 + k * 16 + (12 + (j + 1) % 4), none⟩ = some (.int .u8 ((rk key k (12 + (j + 1) % 4)).toNat : Int)) := hI.key k _ (by omega) (by omega)
              have hx := fun w => run_index_rowF (P := Try.prog) w 33 5 256 sbN .u8 (rk key k (12 + (j + 1) % 4)).toNat (UInt8.toNat_lt _) und33 (by kernel_rfl) (by kernel_rfl)
              go_wp2
              have a1 : IntKind.i64.wrap ((j : Int) + 1) = (j : Int) + 1 := IntWalk.i64_in _ (by omega)
              have a2 : ((j : Int) + 1).tmod 4 = ((j : Int) + 1) % 4 := Int.tmod_eq_emod_of_nonneg (by omega)
              have a3 : IntKind.i64.wrap (12 + ((j : Int) + 1) % 4) = 12 + ((j : Int) + 1) % 4 := IntWalk.i64_in _ (by omega)
              have a4 : (12 + ((j : Int) + 1) % 4).toNat = 12 + (j + 1) % 4 := by omega
              have a5 : (0 : Int) ≤ 12 + ((j : Int) + 1) % 4 := by omega
              have a6 : 12 + ((j : Int) + 1) % 4 < 16 := by omega
              have a7 : (0 : Int) ≤ (j : Int) := by omega
              have a8 : (j : Int) < 16 := by omega
              go_region_held3 (fun w' => w'.cell? ⟨c, 19 + k * 16 + j, none⟩ = some (.int .u8 ((rk key k j).toNat : Int)) ∧ w'.cell? ⟨c, 19 + k * 16 + (12 + (j + 1) % 4), none⟩ = some (.int .u8 ((rk key k (12 + (j + 1) % 4)).toNat : Int)))
                (first | go_keep | exact ⟨hJ.key k j (by omega) (by omega), hJ.key k _ (by omega) (by omega)⟩ | exact ⟨hJ.keyPast k j _ _ (by omega) (by omega) (by omega), hJ.keyPast k _ _ _ (by omega) (by omega) (by omega)⟩)
                (first | (go_at_call 33; refine (box_any _).mono ?_; rintro e w1 ⟨rfl, hb⟩; have hJ := hI.drewBelow hb; have c3 := hJ.has.cell (i := 19 + (k + 1) * 16 + j) (by omega); have f3 := hJ.has.frozen (19 + (k + 1) * 16 + j)))
              clear a1 a2 a3 a4 a5 a6 a7 a8
              by_cases h0 : j = 0
              · have h0b : ((j : Int) == 0) = true := by rw [beq_iff_eq]; omega
                have H0 := Lib.hid h0; clear h0
                have hB := hJ.half (19 + (k + 1) * 16 + j) (.int .u8 (bits .xor .u8 ((rk key k j).toNat : Int) ((sbN (rk key k (12 + (j + 1) % 4)).toNat).toNat : Int)))
                clear c1 c2 c3 f3 hx hJ hI
                go_wp2
                generalize World.setCell _ _ _ = w2 at hB ⊢
                have a7 : (0 : Int) ≤ (j : Int) := by omega
                have a8 : (j : Int) < 16 := by omega
                have c4 := hB.has.cell (i := 19 + (k + 1) * 16 + j) (by omega)
                rw [upd_same] at c4
                have f4 := hB.has.frozen (19 + (k + 1) * 16 + j)
                refine wp_region_still_tail 8 (by kernel_rfl) (by kernel_rfl) ?_
                simp only [List.take_succ_cons, List.take_zero, List.drop_succ_cons, List.drop_zero]
                iterate 8 still_step
                refine wpStill_nil ?_
                clear a7 a8
                go_wp2
                go_roundw
                case rel => exact ⟨j + 1, by omega, by go_num, hB.layZero H0.out⟩
                case measure => simp [intOf]; omega
              · have h0b : ((j : Int) == 0) = false := by rw [beq_eq_false_iff_ne]; omega
                go_wp2
                go_roundw
                case rel => exact ⟨j + 1, by omega, by go_num, hJ.layLow h4 h0 (by omega)⟩
                case measure => simp [intOf]; omega
            · by_cases hl2 : j < 16
              · have h4b : ((j : Int) < 4) = False := by simp; omega
                have h0b : ((j : Int) == 0) = false := by rw [beq_eq_false_iff_ne]; omega
                have c1 : wr.cell? ⟨c, 19 + k * 16 + j, none⟩ = some (.int .u8 ((rk key k j).toNat : Int)) := hI.key k j (by omega) (by omega)
                have c2 : wr.cell? ⟨c, 19 + (k + 1) * 16 + (j - 4), none⟩ = some (.int .u8 ((rk key (k + 1) (j - 4)).toNat : Int)) := hI.key (k + 1) (j - 4) (by omega) (by omega)
                have c3 := hI.has.cell (i := 19 + (k + 1) * 16 + j) (by omega)
                have f3 := hI.has.frozen (19 + (k + 1) * 16 + j)
                have hK := hI.layHigh (by omega) hl2 (by omega)
                go_wp2
                have a1 : IntKind.i64.wrap ((j : Int) - 4) = (j : Int) - 4 := IntWalk.i64_in _ (by omega)
                have a2 : ((j : Int) - 4).toNat = j - 4 := by omega
                have a3 : (0 : Int) ≤ (j : Int) - 4 := by omega
                have a4 : (j : Int) - 4 < 16 := by omega
                have a5 : (4 : Int) ≤ (j : Int) := by omega
                have a7 : (0 : Int) ≤ (j : Int) := by omega
                have a8 : (j : Int) < 16 := by omega
                have a9 : (j : Int) < 20 := by omega
                refine wp_region_still_tail 15 (by kernel_rfl) (by kernel_rfl) ?_
                simp only [List.take_succ_cons, List.take_zero, List.drop_succ_cons, List.drop_zero]
                iterate 15 still_step
                refine wpStill_nil ?_
                clear a1 a2 a3 a4 a5 a7 a8 a9
                go_wp2
                go_roundw
                case rel => exact ⟨j + 1, by omega, by go_num, hK⟩
                case measure => simp [intOf]; omega
              · obtain rfl : j = 16 := by omega
                go_wp2_with (go_at_call 15; refine (times_any _ 2 _).mono ?_; rintro e w' ⟨rfl, rfl⟩)
                go_roundw
                case rel => exact ⟨k + 1, by omega, rfl, by go_num, by rw [show 16 * (k + 1 + 1) + 0 = 16 * (k + 1) + 16 by omega]; exact hI⟩
                case measure => simp [intOf]; omega
        · obtain rfl : k = 10 := by omega
          go_wp2
          go_end0
          exact ⟨rfl, hI.but, hI.has.congr (fun m hm => kst_begun key g m hm)⟩

end Go.Proofs.Ytjmeiloklhbllaa
