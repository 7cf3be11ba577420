/- The walks of the reference's xor, Boxes and Rounds. No condition. -/
import Derived.Test.YtjmeiloklhbllaaShown
import Derived.Test.YtjmeiloklhbllaaRefBox
namespace Go.Proofs.Ytjmeiloklhbllaa
open Go.RowKit

/-- A whole array of arrays out of a block that holds it. -/
theorem wpList_load_flat {P : Program} {ops : Array Oper} {rest : List Oper} {o : Oper} {a : Act} {w : World} {Q : Exit → Act → World → Prop} (hgd : o.guard = none) (ty : TypeId) (x : Operand) (ho : o.op = .load ty x) (b : Nat) (hx : a.eval x = .pointer (some ⟨b, 0, none⟩))
    {T : TypeId} {n : Nat} {g : Nat → Value} (hh : Has w b T n g) (m e : Nat) (hu : P.underlying ty = some (.array m e)) (hi : (P.info? ty).map (·.size) = some n)
    (h : wpList P ops Q rest (a.put o.dst (.agg (rowF n g))) w) : wpList P ops Q (o :: rest) a w :=
  wpList_load_row hgd ty x ho b hx T _ (0, 0) _ hh hu rfl (by rw [rowF_size]; exact hi) h
/-- The result is a whole array of arrays that lies in memory. -/
theorem ret_flat {P : Program} {fn : Func} {R : Ending → World → Prop} {a : Act} {w : World} {p : Tmp} {ty : TypeId} (hr : fn.results = #[.cell p ty]) (b : Nat) (hp : a.tmps.getD p undef = .pointer (some ⟨b, 0, none⟩))
    {T : TypeId} {n : Nat} {g : Nat → Value} (hh : Has w b T n g) (m e : Nat) (hu : P.underlying ty = some (.array m e)) (hi : (P.info? ty).map (·.size) = some n) (hd : a.defers = [])
    (hR : R (.returned (.agg (rowF n g))) w) : bodyPost P fn R .ret a w :=
  bodyPost_ret (results_cell_row hr _ _ b T _ (0, 0) _ hp hh hu rfl (by rw [rowF_size]; exact hi)) hd hR

set_option maxRecDepth 100000 in
set_option maxHeartbeats 400000 in
theorem refXor_any (s k : Nat → UInt8) (w : World) :
    Calls Try.prog 38 #[.agg (rowF 16 (byt s)), .agg (rowF 16 (byt k))] w fun e w' => e = .returned (.agg (rowF 16 (byt (mixF s k)))) ∧ Below w.heap.size w w' := by
  go_enter Try.func38, Try.ntmps38
  go_wp2
  rw [zeros16]
  go_loopw [5] (fun i wr => ∃ j : Nat, j ≤ 16 ∧ i = .int .i64 j ∧ MixI w wr s k j) (fun i _ => 16 - (intOf i).toNat)
  case atStart => exact ⟨0, by omega, rfl, MixI.start w s k⟩
  case round =>
    obtain ⟨j, hj, rfl, hI⟩ := hrel
    by_cases hlt : j < 16
    · have c1 : wr.cell? ⟨w.heap.size, j, none⟩ = some (.int .u8 ((s j).toNat : Int)) := by rw [hI.hs.cell hlt]; simp [byt, mixTo]
      have c2 : wr.cell? ⟨w.heap.size + 1, j, none⟩ = some (.int .u8 ((k j).toNat : Int)) := hI.hk.cell hlt
      have f1 := hI.hs.frozen j
      go_wp2
      go_still_tail 8, (by kernel_rfl)
      go_wp2
      go_roundw
      case rel => exact ⟨j + 1, by omega, by go_num, by rw [u8_xor_B]; exact hI.next⟩
      case measure => simp [intOf]; omega
    · obtain rfl : j = 16 := by omega
      go_wp2_with (first | (refine wpList_load_has rfl 28 (.tmp 2) rfl _ rfl hI.hs 5 und28 info28 ?_) | (refine wpList_store_has rfl 28 (.tmp 4) (.tmp 19) rfl _ rfl hI.hr _ rfl info28 ?_))
      exact ret_has (p := 4) (ty := 28) rfl _ rfl (hI.hr.setRow _) 5 und28 info28 rfl ⟨by rw [mixTo_end], Below.setRow hI.below (by omega) _⟩

theorem refBox_at (j : Nat) (hj : j < 256) (w : World) :
    Calls Try.prog 19 #[.int .u8 (j : Int)] w fun e w' => e = .returned (.int .u8 (sbN j).toNat) ∧ w' = w := by
  have h := refBox_any (UInt8.ofNat j) w
  rw [u8_ofNat_B j hj] at h
  have e : sb (UInt8.ofNat j) = sbN j := by unfold sb; congr 1; simp; omega
  rw [e] at h
  exact h
/-! Boxes. -/
structure BxI (w wr : World) (i : Nat) : Prop where
  below : Below w.heap.size w wr
  hr : Has wr w.heap.size 33 256 (byt fun _ => 0)
  hl : Has wr (w.heap.size + 1) 33 256 (byt (upTo sbN i))
theorem BxI.start (w : World) : BxI w (((w.alloc (.cells (rowF 256 (byt fun _ => 0)) 33)).alloc (.cells (rowF 256 (byt fun _ => 0)) 33)).setRow (w.heap.size + 1) (rowF 256 (byt fun _ => 0))) 0 := by
  have h1 : Has ((w.alloc (.cells (rowF 256 (byt fun _ => 0)) 33)).alloc (.cells (rowF 256 (byt fun _ => 0)) 33)) (w.heap.size + 1) 33 256 (byt fun _ => 0) := by
    have := Has.new (w.alloc (.cells (rowF 256 (byt fun _ => 0)) 33)) 33 256 (byt fun _ => 0)
    simpa using this
  exact ⟨Below.setRow (((Below.refl _ _).alloc (Nat.le_refl _) _).alloc (by simp) _) (by omega) _, ((Has.new w 33 256 _).alloc _).setRowOther _ _ (by omega), by rw [upTo_zero]; exact h1.setRow _⟩
theorem BxI.next {w wr : World} {i : Nat} (h : BxI w wr i) : BxI w (wr.setCell ⟨w.heap.size + 1, i, none⟩ (.int .u8 ((sbN i).toNat : Int))) (i + 1) :=
  ⟨h.below.setCell (p := ⟨w.heap.size + 1, i, none⟩) (by simp) _, h.hr.setOther _ _ (by simp), h.hl.upTo rfl⟩

set_option maxRecDepth 100000 in
set_option maxHeartbeats 400000 in
theorem refBoxes_any (w : World) :
    Calls Try.prog 22 #[] w fun e w' => e = .returned (.agg (rowF 256 (byt sbN))) ∧ Below w.heap.size w w' := by
  have hz := zero33
  have h1 : Has ((w.alloc (.cells (rowF 256 (byt fun _ => 0)) 33)).alloc (.cells (rowF 256 (byt fun _ => 0)) 33)) (w.heap.size + 1) 33 256 (byt fun _ => 0) := by
    have := Has.new (w.alloc (.cells (rowF 256 (byt fun _ => 0)) 33)) 33 256 (byt fun _ => 0)
    simpa using this
  go_enter Try.func22, Try.ntmps22
  go_wp2_with (first | (refine wpList_build_at rfl 33 #[] rfl [] (by kernel_rfl) (rowF 256 (byt fun _ => 0)) (by kernel_rfl) ?_) | (refine wpList_store_has rfl 33 (.tmp 1) (.tmp 3) rfl _ rfl h1 _ rfl info33 ?_))
  clear h1
  have hI0 := BxI.start w
  generalize World.setRow _ _ _ = w0 at hI0 ⊢
  go_loopw [2] (fun i wr => ∃ j : Nat, j ≤ 256 ∧ i = .int .i64 j ∧ BxI w wr j) (fun i _ => 256 - (intOf i).toNat)
  case atStart => exact ⟨0, by omega, rfl, hI0⟩
  case round =>
    clear hI0
    obtain ⟨j, hj, rfl, hI⟩ := hrel
    by_cases hlt : j < 256
    · have c1 := hI.hl.cell hlt
      have f1 := hI.hl.frozen j
      go_wp2_with (go_at_call 19; refine (refBox_at j hlt _).mono ?_; rintro e w' ⟨rfl, rfl⟩)
      go_roundw
      case rel => exact ⟨j + 1, by omega, by go_num, hI.next⟩
      case measure => simp [intOf]; omega
    · obtain rfl : j = 256 := by omega
      go_wp2_with (first | (refine wpList_load_has rfl 33 (.tmp 1) rfl _ rfl hI.hl 5 und33 info33 ?_; rw [upTo_end]) | (refine wpList_store_has rfl 33 (.tmp 0) (.tmp 13) rfl _ rfl hI.hr _ rfl info33 ?_))
      exact ret_has (p := 0) (ty := 33) rfl _ rfl (hI.hr.setRow _) 5 und33 info33 rfl ⟨rfl, Below.setRow hI.below (Nat.le_refl _) _⟩

/-! Rounds. -/
/-- The first n bytes of all round keys. -/
def lst (key : Nat → UInt8) (n : Nat) : Nat → UInt8 := fun p => if p < n then rkF key p else 0
theorem lst_next (key : Nat → UInt8) (n : Nat) : upd (lst key n) n (rkF key n) = lst key (n + 1) := by
  funext j; simp only [upd, lst]
  by_cases h : j = n
  · subst h; simp
  · rw [if_neg h]
    by_cases h2 : j < n
    · rw [if_pos h2, if_pos (by omega)]
    · rw [if_neg h2, if_neg (by omega)]
theorem lst_end (key : Nat → UInt8) : rowF 176 (byt (lst key (16 * (10 + 1) + 0))) = rowF 176 (byt (rkF key)) := (rowF_byt_iff _ _ _).2 fun i hi => by simp only [lst]; rw [if_pos (by omega)]
structure RrI (w wr : World) (key : Nat → UInt8) (n : Nat) : Prop where
  below : Below w.heap.size w wr
  hb : Has wr w.heap.size 33 256 (byt sbN)
  hr : Has wr (w.heap.size + 1 + 1) 31 176 (byt fun _ => 0)
  hl : Has wr (w.heap.size + 1 + 1 + 1) 31 176 (byt (lst key n))
theorem RrI.key {w wr : World} {key : Nat → UInt8} {n : Nat} (h : RrI w wr key n) (i j : Nat) (hj : j < 16) (hn : 16 * i + j < n) (hn2 : n ≤ 176 := by omega) :
    wr.cell? ⟨w.heap.size + 1 + 1 + 1, i * 16 + j, none⟩ = some (.int .u8 ((rk key i j).toNat : Int)) := by
  rw [show i * 16 + j = 16 * i + j by omega, h.hl.cell (by omega)]
  simp only [byt, lst, if_pos hn, rkF_at _ _ _ hj]
theorem RrI.lay {w wr : World} {key : Nat → UInt8} {n m : Nat} {x : Int} (h : RrI w wr key n) (hm : m = n) (hx : x = ((rkF key n).toNat : Int)) : RrI w (wr.setCell ⟨w.heap.size + 1 + 1 + 1, m, none⟩ (.int .u8 x)).drew key (n + 1) := by
  subst hm hx
  refine ⟨(h.below.setCell (p := ⟨w.heap.size + 1 + 1 + 1, m, none⟩) (by simp; omega) _).drew, h.hb.setOther _ _ (by simp; omega), h.hr.setOther _ _ (by simp), ?_⟩
  have := h.hl.set m (.int .u8 ((rkF key m).toNat : Int))
  rw [upd_byt, lst_next] at this
  exact this.drew
theorem RrI.val (key : Nat → UInt8) (k j : Nat) (h4 : j < 4) : rkF key (16 * (k + 1) + j) = rk key k j ^^^ (sbN (rk key k (12 + (j + 1) % 4)).toNat ^^^ (if j = 0 then rc k else 0)) := by
  rw [rkF_at _ _ _ (by omega), rk, nk_lt _ _ _ h4]; rfl
theorem RrI.val2 (key : Nat → UInt8) (k j : Nat) (h4 : 4 ≤ j) (hj : j < 16) : rkF key (16 * (k + 1) + j) = rk key k j ^^^ rk key (k + 1) (j - 4) := by
  rw [rkF_at _ _ _ hj, rk, nk_ge _ _ j h4]
theorem rrL (w : World) (key : Nat → UInt8) : Has ((((w.alloc (.cells (rowF 256 (byt sbN)) 33)).alloc (.cells (rowF 16 (byt key)) 28)).alloc (.cells (rowF 176 (byt fun _ => 0)) 31)).alloc (.cells (rowF 176 (byt fun _ => 0)) 31)) (w.heap.size + 1 + 1 + 1) 31 176 (byt fun _ => 0) := by
  have := Has.new (((w.alloc (.cells (rowF 256 (byt sbN)) 33)).alloc (.cells (rowF 16 (byt key)) 28)).alloc (.cells (rowF 176 (byt fun _ => 0)) 31)) 31 176 (byt fun _ => 0)
  simpa using this
theorem rrR (w : World) (key : Nat → UInt8) : Has ((((w.alloc (.cells (rowF 256 (byt sbN)) 33)).alloc (.cells (rowF 16 (byt key)) 28)).alloc (.cells (rowF 176 (byt fun _ => 0)) 31)).alloc (.cells (rowF 176 (byt fun _ => 0)) 31)) (w.heap.size + 1 + 1) 31 176 (byt fun _ => 0) := by
  have := (Has.new ((w.alloc (.cells (rowF 256 (byt sbN)) 33)).alloc (.cells (rowF 16 (byt key)) 28)) 31 176 (byt fun _ => 0)).alloc (.cells (rowF 176 (byt fun _ => 0)) 31)
  simpa using this
theorem rrK (w : World) (key : Nat → UInt8) : Has (((((w.alloc (.cells (rowF 256 (byt sbN)) 33)).alloc (.cells (rowF 16 (byt key)) 28)).alloc (.cells (rowF 176 (byt fun _ => 0)) 31)).alloc (.cells (rowF 176 (byt fun _ => 0)) 31)).setRow (w.heap.size + 1 + 1 + 1) (rowF 176 (byt fun _ => 0))) (w.heap.size + 1) 28 16 (byt key) := by
  have := ((Has.new (w.alloc (.cells (rowF 256 (byt sbN)) 33)) 28 16 (byt key)).alloc (.cells (rowF 176 (byt fun _ => 0)) 31)).alloc (.cells (rowF 176 (byt fun _ => 0)) 31)
  refine Has.setRowOther ?_ _ _ (by omega)
  simpa using this
theorem RrI.start (w : World) (key : Nat → UInt8) : RrI w ((((((w.alloc (.cells (rowF 256 (byt sbN)) 33)).alloc (.cells (rowF 16 (byt key)) 28)).alloc (.cells (rowF 176 (byt fun _ => 0)) 31)).alloc (.cells (rowF 176 (byt fun _ => 0)) 31)).setRow (w.heap.size + 1 + 1 + 1) (rowF 176 (byt fun _ => 0))).setRow (w.heap.size + 1 + 1 + 1) (rowF 176 (updR (byt fun _ => 0) 0 16 (byt key)))) key (16 * (0 + 1) + 0) :=
  ⟨Below.setRow (Below.setRow (((((Below.refl _ _).alloc (Nat.le_refl _) _).alloc (by simp) _).alloc (by simp; omega) _).alloc (by simp; omega) _) (by omega) _) (by omega) _,
    (((((Has.new w 33 256 (byt sbN)).alloc _).alloc _).alloc _).setRowOther _ _ (by omega)).setRowOther _ _ (by omega),
    ((rrR w key).setRowOther _ _ (by omega)).setRowOther _ _ (by omega),
    (((rrL w key).setRow _).setRow _).congr fun i hi => by
      simp only [updR, byt, lst]
      by_cases h1 : i < 16
      · rw [if_pos (by omega), if_pos (by omega), show rkF key i = rk key 0 i by have := rkF_at key 0 i h1; simpa using this]; rfl
      · rw [if_neg (by omega), if_neg (by omega)]⟩
theorem zero31 : Try.zeroCells31 = rowF 176 (byt fun _ => 0) := by kernel_rfl

set_option maxRecDepth 100000 in
set_option maxHeartbeats 2000000 in
theorem refRounds_any (key : Nat → UInt8) (w : World) :
    Calls Try.prog 21 #[.agg (rowF 256 (byt sbN)), .agg (rowF 16 (byt key))] w fun e w' => e = .returned (.agg (rowF 176 (byt (rkF key)))) ∧ Below w.heap.size w w' := by
  have hz := zero31
  go_enter Try.func21, Try.ntmps21
  go_wp2_with (first | (refine wpList_build_at rfl 31 #[] rfl [] (by kernel_rfl) (rowF 176 (byt fun _ => 0)) (by kernel_rfl) ?_) | (refine wpList_store_has rfl 31 (.tmp 5) (.tmp 11) rfl _ rfl (rrL w key) _ rfl info31 ?_) | (refine wpList_load_has rfl 28 (.tmp 3) rfl _ rfl (rrK w key) 5 und28 info28 ?_) | (refine wpList_store_mid_has rfl 28 (.tmp 13) (.tmp 12) rfl 0 rfl ((rrL w key).setRow _) 16 key rfl (by omega) info28 ?_))
  have hI0 := RrI.start w key
  generalize World.setRow _ _ _ = w0 at hI0 ⊢
  go_loopw [6, 7] (fun x i wr => ∃ k : Nat, k ≤ 10 ∧ x = .int .u8 ((rc k).toNat : Int) ∧ i = .int .i64 ((k : Int) + 1) ∧ RrI w wr key (16 * (k + 1) + 0)) (fun _ i _ => 11 - (intOf i).toNat)
  case atStart => exact ⟨0, by omega, rfl, rfl, hI0⟩
  case round =>
    clear hI0
    obtain ⟨k, hk, rfl, rfl, hI⟩ := hrel
    by_cases hlt : k < 10
    · have hd : decide ((k : Int) + 1 < 11) = true := by simp; omega
      go_wp2_with fail
      obtain ⟨wo, rfl⟩ : ∃ wo : World, wo = wr := ⟨_, rfl⟩
      go_loopw [8] (fun n wr => ∃ j : Nat, j ≤ 4 ∧ n = .int .i64 j ∧ RrI w wr key (16 * (k + 1) + j)) (fun n _ => 4 - (intOf n).toNat)
      case atStart => exact ⟨0, by omega, rfl, hI⟩
      case round =>
        clear hI
        obtain ⟨j, hj, rfl, hI⟩ := hrel
        by_cases h4 : j < 4
        · have c1 : wr.cell? ⟨w.heap.size + 1 + 1 + 1, k * 16 + j, none⟩ = some (.int .u8 ((rk key k j).toNat : Int)) := hI.key k j (by omega) (by omega)
          have c2 : wr.cell? ⟨w.heap.size + 1 + 1 + 1, k * 16 + (12 + (j + 1) % 4), none⟩ = some (.int .u8 ((rk key k (12 + (j + 1) % 4)).toNat : Int)) := hI.key k _ (by omega) (by omega)
          have hb := (rk key k (12 + (j + 1) % 4)).toNat_lt
          have c3 : wr.cell? ⟨w.heap.size, (rk key k (12 + (j + 1) % 4)).toNat, none⟩ = some (.int .u8 ((sbN (rk key k (12 + (j + 1) % 4)).toNat).toNat : Int)) := hI.hb.cell (by omega)
          have c4 := hI.hl.cell (i := (k + 1) * 16 + j) (by omega)
          have f4 := hI.hl.frozen ((k + 1) * 16 + j)
          have a1 : IntKind.i64.wrap (k : Int) = (k : Int) := IntWalk.i64_in _ (by omega)
          have a2 : ((k : Int) + 1).toNat = k + 1 := by omega
          have a3 : (0 : Int) ≤ (k : Int) + 1 := by omega
          have a4 : (k : Int) + 1 < 11 := by omega
          have a5 : (k : Int) < 11 := by omega
          have a6 : (0 : Int) ≤ (k : Int) := by omega
          have a7 : (0 : Int) ≤ (j : Int) := by omega
          have a8 : (j : Int) < 16 := by omega
          have hval := RrI.val key k j h4
          have HV := Lib.hid hval
          clear hval
          by_cases h0 : j = 0
          · have h0b : ((j : Int) == 0) = true := by rw [beq_iff_eq]; omega
            have H0 := Lib.hid h0; clear h0
            go_wp2_with fail
            refine wp_region_still_tail 11 (by kernel_rfl) (by kernel_rfl) ?_
            simp only [List.take_succ_cons, List.take_zero, List.drop_succ_cons, List.drop_zero]
            iterate 11 still_step
            refine wpStill_nil ?_
            clear a1 a2 a3 a4 a5 a6 a7 a8
            go_wp2_with fail
            go_roundw
            case rel => exact ⟨j + 1, by omega, by go_num, hI.lay (by omega) (by rw [u8_xor_B, u8_xor_B, HV.out, if_pos H0.out])⟩
            case measure => simp [intOf]; omega
          · have h0b : ((j : Int) == 0) = false := by rw [beq_eq_false_iff_ne]; omega
            go_wp2_with fail
            refine wp_region_still_tail 11 (by kernel_rfl) (by kernel_rfl) ?_
            simp only [List.take_succ_cons, List.take_zero, List.drop_succ_cons, List.drop_zero]
            iterate 11 still_step
            refine wpStill_nil ?_
            clear a1 a2 a3 a4 a5 a6 a7 a8
            go_wp2_with fail
            go_roundw
            case rel => exact ⟨j + 1, by omega, by go_num, hI.lay (by omega) (by rw [u8_xor_B, HV.out, if_neg h0]; simp)⟩
            case measure => simp [intOf]; omega
        · obtain rfl : j = 4 := by omega
          rw [show ((4 : Nat) : Int) = 4 from rfl]
          go_wp2_with fail
          obtain ⟨wo, rfl⟩ : ∃ wo : World, wo = wr := ⟨_, rfl⟩
          go_loopw [10] (fun n wr => ∃ j : Nat, 4 ≤ j ∧ j ≤ 16 ∧ n = .int .i64 j ∧ RrI w wr key (16 * (k + 1) + j)) (fun n _ => 16 - (intOf n).toNat)
          case atStart => exact ⟨4, by omega, by omega, rfl, hI⟩
          case round =>
            clear hI
            obtain ⟨j, h4, hj, rfl, hI⟩ := hrel
            by_cases h16 : j < 16
            · have c1 : wr.cell? ⟨w.heap.size + 1 + 1 + 1, k * 16 + j, none⟩ = some (.int .u8 ((rk key k j).toNat : Int)) := hI.key k j (by omega) (by omega)
              have c2 : wr.cell? ⟨w.heap.size + 1 + 1 + 1, (k + 1) * 16 + (j - 4), none⟩ = some (.int .u8 ((rk key (k + 1) (j - 4)).toNat : Int)) := hI.key (k + 1) (j - 4) (by omega) (by omega)
              have c4 := hI.hl.cell (i := (k + 1) * 16 + j) (by omega)
              have f4 := hI.hl.frozen ((k + 1) * 16 + j)
              have HV := Lib.hid (RrI.val2 key k j h4 h16)
              go_wp2_with fail
              have a1 : IntKind.i64.wrap (k : Int) = (k : Int) := IntWalk.i64_in _ (by omega)
              have a2 : ((k : Int) + 1).toNat = k + 1 := by omega
              have a3 : (0 : Int) ≤ (k : Int) + 1 := by omega
              have a4 : (k : Int) + 1 < 11 := by omega
              have a5 : (k : Int) < 11 := by omega
              have a6 : (0 : Int) ≤ (k : Int) := by omega
              have a7 : (0 : Int) ≤ (j : Int) := by omega
              have a8 : (j : Int) < 16 := by omega
              have b1 : IntKind.i64.wrap ((j : Int) - 4) = (j : Int) - 4 := IntWalk.i64_in _ (by omega)
              have b2 : ((j : Int) - 4).toNat = j - 4 := by omega
              have b3 : (4 : Int) ≤ (j : Int) := by omega
              have b4 : (j : Int) < 20 := by omega
              have b5 : (j : Int) - 4 < 16 := by omega
              have b6 : (0 : Int) ≤ (j : Int) - 4 := by omega
              refine wp_region_still_tail 16 (by kernel_rfl) (by kernel_rfl) ?_
              simp only [List.take_succ_cons, List.take_zero, List.drop_succ_cons, List.drop_zero]
              iterate 16 still_step
              refine wpStill_nil ?_
              clear a1 a2 a3 a4 a5 a6 a7 a8 b1 b2 b3 b4 b5 b6
              go_wp2_with fail
              go_roundw
              case rel => exact ⟨j + 1, by omega, by omega, by go_num, hI.lay (by omega) (by rw [u8_xor_B, HV.out])⟩
              case measure => simp [intOf]; omega
            · obtain rfl : j = 16 := by omega
              go_wp2_with (go_at_call 17; refine (refTimes_any _ 2 _).mono ?_; rintro e w' ⟨rfl, rfl⟩)
              go_roundw
              case rel => exact ⟨k + 1, by omega, rfl, by go_num, by rw [show 16 * (k + 1 + 1) + 0 = 16 * (k + 1) + 16 by omega]; exact hI⟩
              case measure => simp [intOf]; omega
    · obtain rfl : k = 10 := by omega
      go_wp2_with (first | (refine wpList_load_flat rfl 31 (.tmp 5) rfl _ rfl hI.hl 11 28 und31 info31 ?_; rw [lst_end]) | (refine wpList_store_has rfl 31 (.tmp 4) (.tmp 73) rfl _ rfl hI.hr _ rfl info31 ?_))
      exact ret_flat (p := 4) (ty := 31) rfl _ rfl (hI.hr.setRow _) 11 28 und31 info31 rfl ⟨rfl, Below.setRow hI.below (by omega) _⟩

end Go.Proofs.Ytjmeiloklhbllaa
