/- The walk of (*Cipher).Open. -/
import Derived.Test.YtjmeiloklhbllaaLock
namespace Go.Proofs.Ytjmeiloklhbllaa
open Go.RowKit

structure OpenI (w wr : World) (key s : Nat → UInt8) (c : Nat) : Prop where
  but : ButOne c w wr
  ciph : Ciph key c wr
  hs : Has wr w.heap.size 28 16 (byt s)
  hr : Has wr (w.heap.size + 1) 28 16 (byt fun _ => 0)
theorem OpenI.start {w : World} {key : Nat → UInt8} {c : Nat} (s : Nat → UInt8) (h : Ciph key c w) : OpenI w ((w.alloc (.cells (rowF 16 (byt s)) 28)).alloc (.cells (rowF 16 (byt fun _ => 0)) 28)) key s c :=
  ⟨ButOne.of_below (((Below.refl _ _).alloc (Nat.le_refl _) _).alloc (by simp) _), ciph_two h _ _, (Has.new w 28 16 (byt s)).alloc _, by
    have := Has.new (w.alloc (.cells (rowF 16 (byt s)) 28)) 28 16 (byt fun _ => 0)
    simpa using this⟩
theorem LockI.drew {w wr : World} {key s : Nat → UInt8} {c : Nat} (h : LockI w wr key s c) : LockI w wr.drew key s c := ⟨h.but.drew, h.work.of_block rfl, h.hs.drew, h.hr.drew⟩
theorem LockI.rename {w wr : World} {key s f : Nat → UInt8} {c : Nat} (h : LockI w wr key s c) (e : f = s) : LockI w wr key f c := e ▸ h
theorem OpenI.rename {w wr : World} {key s f : Nat → UInt8} {c : Nat} (h : OpenI w wr key s c) (e : f = s) : OpenI w wr key f c := e ▸ h
theorem LockI.lay {w wr : World} {key s f : Nat → UInt8} {c : Nat} (h : LockI w wr key s c) (hlt : c < w.heap.size) : LockI w (wr.setRow w.heap.size (rowF 16 (byt f))) key f c :=
  ⟨h.but.setNew (Nat.le_refl _) _, h.work.of_block (setRow_other _ _ _ _ (by omega)), h.hs.setRow _, h.hr.setRowOther _ _ (by omega)⟩
theorem Work.backAt {key : Nat → UInt8} {c : Nat} {w : World} (h : Work key c w) (x : UInt8) : w.cell? ⟨c, 195 + x.toNat, none⟩ = some (.int .u8 ((isb x).toNat : Int)) := by
  obtain ⟨g, hg, hW⟩ := h
  have hx := x.toNat_lt
  rw [hg.cell (by omega), hW.back _ (by omega)]; rfl
/-- The first m bytes are turned back and replaced. -/
def unTo (s : Nat → UInt8) (m : Nat) : Nat → UInt8 := fun j => if (j + 12 * (j % 4)) % 16 < m then unsubF s j else 0
theorem unTo_zero (s : Nat → UInt8) : unTo s 0 = fun _ => 0 := by funext j; simp [unTo]
theorem unTo_end (s : Nat → UInt8) (i : Nat) (_hi : i < 16) : unTo s 16 i = unsubF s i := by unfold unTo; rw [if_pos (by omega)]
theorem Has.unAt {w : World} {b : Nat} {T : TypeId} {s : Nat → UInt8} {m : Nat} (h : Has w b T 16 (byt (unTo s m))) (hm : m < 16) :
    Has (w.setCell ⟨b, (m + 4 * (m % 4)) % 16, none⟩ (.int .u8 ((isb (s m)).toNat : Int))) b T 16 (byt (unTo s (m + 1))) := by
  refine (h.set _ _).congr fun j hj => ?_
  by_cases e : j = (m + 4 * (m % 4)) % 16
  · subst e
    simp only [upd, if_true, byt, unTo]
    have e2 : ((m + 4 * (m % 4)) % 16 + 12 * ((m + 4 * (m % 4)) % 16 % 4)) % 16 = m := by omega
    rw [if_pos (by omega)]; simp only [unsubF, e2]
  · have e2 : (j + 12 * (j % 4)) % 16 ≠ m := by omega
    simp only [upd, if_neg e, byt, unTo]
    by_cases h3 : (j + 12 * (j % 4)) % 16 < m
    · rw [if_pos h3, if_pos (by omega)]
    · rw [if_neg h3, if_neg (by omega)]
theorem idxT (m : Nat) (hm : m < 16) : ((m : Int)).tmod 4 = (m : Int) % 4 ∧ IntKind.i64.wrap (4 * ((m : Int) % 4)) = 4 * ((m : Int) % 4) ∧ IntKind.i64.wrap ((m : Int) + 4 * ((m : Int) % 4)) = (m : Int) + 4 * ((m : Int) % 4) ∧ ((m : Int) + 4 * ((m : Int) % 4)).tmod 16 = ((m : Int) + 4 * ((m : Int) % 4)) % 16 ∧ (((m : Int) + 4 * ((m : Int) % 4)) % 16).toNat = (m + 4 * (m % 4)) % 16 ∧ (0 : Int) ≤ ((m : Int) + 4 * ((m : Int) % 4)) % 16 ∧ ((m : Int) + 4 * ((m : Int) % 4)) % 16 < 16 ∧ (0 : Int) ≤ (m : Int) ∧ (m : Int) < 16 :=
  ⟨Int.tmod_eq_emod_of_nonneg (by omega), IntWalk.i64_in _ (by omega), IntWalk.i64_in _ (by omega), Int.tmod_eq_emod_of_nonneg (by omega), by omega, by omega, by omega, by omega, by omega⟩
theorem opNext (key s : Nat → UInt8) (k : Nat) (h : k < 10) : op key s (10 - k) = opStep key (op key s (10 - (k + 1))) (k + 1) := by
  rw [show 10 - k = 10 - (k + 1) + 1 by omega, op, show 10 - (10 - (k + 1)) = k + 1 by omega]

set_option maxRecDepth 100000 in
set_option maxHeartbeats 2000000 in
/-- c.Open(s): the block as it is opened; the cipher is at work behind it. -/
theorem open_any (key s : Nat → UInt8) (c : Nat) (w : World) (h : Ciph key c w) :
    Calls Try.prog 26 #[.pointer (some ⟨c, 0, none⟩), .agg (rowF 16 (byt s))] w fun e w' => e = .returned (.agg (rowF 16 (byt (openF key s)))) ∧ ButOne c w w' ∧ Work key c w' := by
  have hlt := h.lt
  have hI0 := OpenI.start s h
  clear h
  go_enter Try.func26, Try.ntmps26
  go_wp2_with fail
  rw [zeros16]
  generalize ((w.alloc (.cells (rowF 16 (byt s)) 28)).alloc (.cells (rowF 16 (byt fun _ => 0)) 28)) = w0 at hI0 ⊢
  go_loopw [5] (fun i wr => ∃ n : Nat, n ≤ 10 ∧ i = .int .i64 (n : Int) ∧ OpenI w wr key (op key s (10 - n)) c) (fun i _ => (intOf i).toNat)
  case atStart => exact ⟨10, by omega, rfl, hI0⟩
  case round =>
    clear hI0
    obtain ⟨n, hn, rfl, hI⟩ := hrel
    by_cases hl : 0 < n
    · obtain ⟨k, rfl⟩ : ∃ k, n = k + 1 := ⟨n - 1, by omega⟩
      clear hl
      rw [show (((k + 1 : Nat)) : Int) = (k : Int) + 1 from by omega]
      have hd : decide (0 < (k : Int) + 1) = true := by simp
      obtain ⟨so, hso⟩ : ∃ so, so = op key s (10 - (k + 1)) := ⟨_, rfl⟩
      replace hI := hI.rename hso
      have HSO := Lib.hid hso
      clear hso
      go_wp2_with fail
      refine wp_via (A := ?A1) (fun w' => LockI w w' key (mixF so (rk key (k + 1))) c) (fun K' fin => ?ha1) ?hb1
      case ha1 =>
        refine wp_region_any (by kernel_rfl) ?_
        change wpAny _ _ _ _ _ _ _ (World.drew _)
        refine wpAny_mv (i := 1) rfl rfl rfl (by kernel_rfl) (by kernel_rfl) (by kernel_rfl) (.pointer (some ⟨c, 0, none⟩)) rfl (fun _ _ _ h => h) ?_
        simp only [Act.put, List.setIfInBounds_toArray, List.set_cons_zero, List.set_cons_succ]
        refine wpAny_mv (i := 2) rfl rfl rfl (by kernel_rfl) (by kernel_rfl) (by kernel_rfl) (.int .i64 ((k : Int) + 1)) rfl (fun _ _ _ h => h) ?_
        simp only [Act.put, List.setIfInBounds_toArray, List.set_cons_zero, List.set_cons_succ]
        refine wpAny_two (i := 0) (j := 3) (by kernel_rfl) rfl rfl rfl rfl (fun K hK => ?_) (fun K hK => ?_)
        · skip
          refine wp_load_has 28 (.tmp 3) rfl w.heap.size rfl (Has.drew hI.hs) 5 und28 info28 ?_
          refine hK _ _ ?_
          clear hK K
          simp only [Act.put, List.setIfInBounds_toArray, List.set_cons_zero, List.set_cons_succ]
          refine wpAny_one (i := 3) (by kernel_rfl) rfl rfl (fun K hK => ?_)
          refine wp_call_to 35 _ _ rfl Try.call35 #[.pointer (some ⟨c, 0, none⟩), .int .i64 ((k : Int) + 1)] (by kernel_rfl) (round_succ key c k (by omega) _ (ciph_drew hI.ciph)) ?_
          rintro e w1 ⟨rfl, hb, hw⟩
          refine ⟨_, rfl, ?_⟩
          refine hK _ _ ?_
          clear hK K
          simp only [Act.put, List.setIfInBounds_toArray, List.set_cons_zero, List.set_cons_succ]
          refine wpAny_one (i := 4) (by kernel_rfl) rfl rfl (fun K hK => ?_)
          refine wp_call_to 36 _ _ rfl Try.call36 #[.agg (rowF 16 (byt so)), .agg (rowF 16 (byt (rk key (k + 1))))] (by kernel_rfl) (mixed_any so (rk key (k + 1)) _) ?_
          rintro e w2 ⟨rfl, hb2⟩
          refine ⟨_, rfl, ?_⟩
          refine hK _ _ ?_
          clear hK K
          simp only [Act.put, List.setIfInBounds_toArray, List.set_cons_zero, List.set_cons_succ]
          refine wpAny_one (i := 5) (by kernel_rfl) rfl rfl (fun K hK => ?_)
          have hS2 : Has w2 w.heap.size 28 16 (byt so) := (hI.hs.drew.but hb (by omega)).below hb2 (hI.hs.drew.but hb (by omega)).lt
          refine wp_store_has 28 (.tmp 3) (.tmp 16) rfl w.heap.size rfl hS2 (mixF so (rk key (k + 1))) rfl info28 ?_
          refine hK _ _ ?_
          refine wpAny_done (by kernel_rfl) ?_ _
          simp only [Exit.then, Act.put]
          exact fin _ (LockI.mixed hI.but hw hS2 hI.hr hb hb2 hlt)
        · skip
          refine wp_call_to 35 _ _ rfl Try.call35 #[.pointer (some ⟨c, 0, none⟩), .int .i64 ((k : Int) + 1)] (by kernel_rfl) (round_succ key c k (by omega) _ (ciph_drew hI.ciph)) ?_
          rintro e w1 ⟨rfl, hb, hw⟩
          refine ⟨_, rfl, ?_⟩
          refine hK _ _ ?_
          clear hK K
          simp only [Act.put, List.setIfInBounds_toArray, List.set_cons_zero, List.set_cons_succ]
          refine wpAny_one (i := 0) (by kernel_rfl) rfl rfl (fun K hK => ?_)
          refine wp_load_has 28 (.tmp 3) rfl w.heap.size rfl ((hI.hs).drew.but hb (by omega)) 5 und28 info28 ?_
          refine hK _ _ ?_
          clear hK K
          simp only [Act.put, List.setIfInBounds_toArray, List.set_cons_zero, List.set_cons_succ]
          refine wpAny_one (i := 4) (by kernel_rfl) rfl rfl (fun K hK => ?_)
          refine wp_call_to 36 _ _ rfl Try.call36 #[.agg (rowF 16 (byt so)), .agg (rowF 16 (byt (rk key (k + 1))))] (by kernel_rfl) (mixed_any so (rk key (k + 1)) _) ?_
          rintro e w2 ⟨rfl, hb2⟩
          refine ⟨_, rfl, ?_⟩
          refine hK _ _ ?_
          clear hK K
          simp only [Act.put, List.setIfInBounds_toArray, List.set_cons_zero, List.set_cons_succ]
          refine wpAny_one (i := 5) (by kernel_rfl) rfl rfl (fun K hK => ?_)
          have hS2 : Has w2 w.heap.size 28 16 (byt so) := (hI.hs.drew.but hb (by omega)).below hb2 (hI.hs.drew.but hb (by omega)).lt
          refine wp_store_has 28 (.tmp 3) (.tmp 16) rfl w.heap.size rfl hS2 (mixF so (rk key (k + 1))) rfl info28 ?_
          refine hK _ _ ?_
          refine wpAny_done (by kernel_rfl) ?_ _
          simp only [Exit.then, Act.put]
          exact fin _ (LockI.mixed hI.but hw hS2 hI.hr hb hb2 hlt)
      case hb1 =>
        intro w3 hL
        clear hI
        by_cases h10 : k + 1 < 10
        · have hd2 : decide ((k : Int) + 1 < 10) = true := by simp; omega
          go_wp2_with (first | (refine wpList_load_has rfl 28 (.tmp 3) rfl _ rfl hL.hs 5 und28 info28 ?_; simp only [Act.put, List.setIfInBounds_toArray, List.set_cons_zero, List.set_cons_succ]; refine wpList_build_at rfl 74 #[(0, .const (.int .u8 14)), (1, .const (.int .u8 11)), (2, .const (.int .u8 13)), (3, .const (.int .u8 9))] rfl [(0, .int .u8 14), (1, .int .u8 11), (2, .int .u8 13), (3, .int .u8 9)] (by kernel_rfl) (rowF 4 (byt im)) (by kernel_rfl) ?_; simp only [Act.put, List.setIfInBounds_toArray, List.set_cons_zero, List.set_cons_succ]) | (go_at_call 37; refine (cols_any _ _ _).mono ?_; rintro e w4 ⟨rfl, hb⟩; have hL2 := (hL.belowOnly hb hlt).lay (f := colF (mixF so (rk key (k + 1))) im) hlt; have hL1 := hL.belowOnly hb hlt) | (refine wpList_store_has rfl 28 (.tmp 3) (.tmp 21) rfl _ rfl hL1.hs (colF (mixF so (rk key (k + 1))) im) rfl info28 ?_))
          clear hL hL1 hb
          have hL := hL2
          clear hL2
          obtain ⟨g, hg⟩ : ∃ g, g = colF (mixF so (rk key (k + 1))) im := ⟨_, rfl⟩
          replace hL := hL.rename hg
          have HG := Lib.hid hg
          clear hg
          rw [zeros16]
          have hI1 := hL.alloc (.cells (rowF 16 (byt fun _ => 0)) 28) hlt
          have hT : Has ((w4.setRow w.heap.size (rowF 16 (byt (colF (mixF so (rk key (k + 1))) im)))).alloc (.cells (rowF 16 (byt fun _ => 0)) 28)) w4.heap.size 28 16 (byt (unTo g 0)) := by rw [unTo_zero]; have := Has.new (w4.setRow w.heap.size (rowF 16 (byt (colF (mixF so (rk key (k + 1))) im)))) 28 16 (byt fun _ => 0); simpa using this
          have ht : w.heap.size + 1 < w4.heap.size := by have := hL.hr.lt; simpa using this
          clear hL
          generalize World.alloc _ _ = wt at hI1 hT ⊢
          generalize w4.heap.size = t at hT ht ⊢
          go_loopw [22] (fun j wr => ∃ m : Nat, m ≤ 16 ∧ j = .int .i64 m ∧ LockI w wr key g c ∧ Has wr t 28 16 (byt (unTo g m))) (fun j _ => 16 - (intOf j).toNat)
          case atStart => exact ⟨0, by omega, rfl, hI1, hT⟩
          case round =>
            clear hI1 hT
            obtain ⟨m, hm, rfl, hI, hT⟩ := hrel
            by_cases hl2 : m < 16
            · have c1 : wr.cell? ⟨w.heap.size, m, none⟩ = some (.int .u8 ((g m).toNat : Int)) := hI.hs.cell hl2
              have hB : ((g m).toNat : Int) < 256 := by have := (g m).toNat_lt; omega
              have c2 : wr.cell? ⟨c, 195 + (g m).toNat, none⟩ = some (.int .u8 ((isb (g m)).toNat : Int)) := hI.work.backAt (g m)
              have c3 := hT.cell (i := (m + 4 * (m % 4)) % 16) (by omega)
              have f3 := hT.frozen ((m + 4 * (m % 4)) % 16)
              go_wp2_with fail
              obtain ⟨b1, b2, b3, b4, b5, b6, b7, b8, b9⟩ := idxT m hl2
              refine wp_region_still_tail 14 (by kernel_rfl) (by kernel_rfl) ?_
              simp only [List.take_succ_cons, List.take_zero, List.drop_succ_cons, List.drop_zero]
              iterate 14 still_step
              refine wpStill_nil ?_
              go_wp2_with fail
              go_roundw
              case rel => exact ⟨m + 1, by omega, by go_num, (hI.setOther ⟨t, (m + 4 * (m % 4)) % 16, none⟩ _ (by simpa using ht) (by omega) (by show t ≠ c; omega)).drew, (hT.unAt hl2).drew⟩
              case measure => simp [intOf]; omega
            · obtain rfl : m = 16 := by omega
              replace hT := hT.congr (g' := byt (unsubF g)) (fun i hi => by simp only [byt, unTo_end _ i hi])
              go_wp2_with (first | (refine wpList_load_has rfl 28 (.tmp 6) rfl _ rfl hT 5 und28 info28 ?_) | (refine wpList_store_has rfl 28 (.tmp 3) (.tmp 41) rfl _ rfl hI.hs _ rfl info28 ?_))
              go_roundw
              case rel => exact ⟨k, by omega, by go_num, by rw [opNext key s k (by omega), ← HSO.out]; rw [opStep, if_pos h10, ← HG.out]; exact ⟨hI.but.setNew (Nat.le_refl _) _, hI.work.ciph.of_block (setRow_other _ _ _ _ (by omega)), hI.hs.setRow _, hI.hr.setRowOther _ _ (by omega)⟩⟩
              case measure => simp [intOf]
        · have hd2 : decide ((k : Int) + 1 < 10) = false := by simp; omega
          obtain ⟨g, hg⟩ : ∃ g, g = mixF so (rk key (k + 1)) := ⟨_, rfl⟩
          rw [← hg] at hL
          have HG := Lib.hid hg
          clear hg
          go_wp2_with fail
          rw [zeros16]
          have hI1 := hL.alloc (.cells (rowF 16 (byt fun _ => 0)) 28) hlt
          have hT : Has (w3.alloc (.cells (rowF 16 (byt fun _ => 0)) 28)) w3.heap.size 28 16 (byt (unTo g 0)) := by rw [unTo_zero]; have := Has.new w3 28 16 (byt fun _ => 0); simpa using this
          have ht : w.heap.size + 1 < w3.heap.size := by have := hL.hr.lt; simpa using this
          clear hL
          generalize World.alloc _ _ = wt at hI1 hT ⊢
          generalize w3.heap.size = t at hT ht ⊢
          go_loopw [22] (fun j wr => ∃ m : Nat, m ≤ 16 ∧ j = .int .i64 m ∧ LockI w wr key g c ∧ Has wr t 28 16 (byt (unTo g m))) (fun j _ => 16 - (intOf j).toNat)
          case atStart => exact ⟨0, by omega, rfl, hI1, hT⟩
          case round =>
            clear hI1 hT
            obtain ⟨m, hm, rfl, hI, hT⟩ := hrel
            by_cases hl2 : m < 16
            · have c1 : wr.cell? ⟨w.heap.size, m, none⟩ = some (.int .u8 ((g m).toNat : Int)) := hI.hs.cell hl2
              have hB : ((g m).toNat : Int) < 256 := by have := (g m).toNat_lt; omega
              have c2 : wr.cell? ⟨c, 195 + (g m).toNat, none⟩ = some (.int .u8 ((isb (g m)).toNat : Int)) := hI.work.backAt (g m)
              have c3 := hT.cell (i := (m + 4 * (m % 4)) % 16) (by omega)
              have f3 := hT.frozen ((m + 4 * (m % 4)) % 16)
              go_wp2_with fail
              obtain ⟨b1, b2, b3, b4, b5, b6, b7, b8, b9⟩ := idxT m hl2
              refine wp_region_still_tail 14 (by kernel_rfl) (by kernel_rfl) ?_
              simp only [List.take_succ_cons, List.take_zero, List.drop_succ_cons, List.drop_zero]
              iterate 14 still_step
              refine wpStill_nil ?_
              go_wp2_with fail
              go_roundw
              case rel => exact ⟨m + 1, by omega, by go_num, (hI.setOther ⟨t, (m + 4 * (m % 4)) % 16, none⟩ _ (by simpa using ht) (by omega) (by show t ≠ c; omega)).drew, (hT.unAt hl2).drew⟩
              case measure => simp [intOf]; omega
            · obtain rfl : m = 16 := by omega
              replace hT := hT.congr (g' := byt (unsubF g)) (fun i hi => by simp only [byt, unTo_end _ i hi])
              go_wp2_with (first | (refine wpList_load_has rfl 28 (.tmp 6) rfl _ rfl hT 5 und28 info28 ?_) | (refine wpList_store_has rfl 28 (.tmp 3) (.tmp 41) rfl _ rfl hI.hs _ rfl info28 ?_))
              go_roundw
              case rel => exact ⟨k, by omega, by go_num, by rw [opNext key s k (by omega), ← HSO.out]; rw [opStep, if_neg h10, ← HG.out]; exact ⟨hI.but.setNew (Nat.le_refl _) _, hI.work.ciph.of_block (setRow_other _ _ _ _ (by omega)), hI.hs.setRow _, hI.hr.setRowOther _ _ (by omega)⟩⟩
              case measure => simp [intOf]
    · obtain rfl : n = 0 := by omega
      clear hl
      rw [show ((0 : Nat) : Int) = 0 from rfl]
      go_wp2_with fail
      refine wp_via (A := ?A2) (fun w' => Has w' (w.heap.size + 1) 28 16 (byt (mixF (op key s 10) (rk key 0))) ∧ ButOne c w w' ∧ Work key c w') (fun K' fin => ?ha2) ?hb2
      case ha2 =>
        refine wp_region_any (by kernel_rfl) ?_
        change wpAny _ _ _ _ _ _ _ (World.drew _)
        refine wpAny_mv (i := 1) rfl rfl rfl (by kernel_rfl) (by kernel_rfl) (by kernel_rfl) (.pointer (some ⟨c, 0, none⟩)) rfl (fun _ _ _ h => h) ?_
        simp only [Act.put, List.setIfInBounds_toArray, List.set_cons_zero, List.set_cons_succ]
        refine wpAny_two (i := 0) (j := 2) (by kernel_rfl) rfl rfl rfl rfl (fun K hK => ?_) (fun K hK => ?_)
        · skip
          refine wp_load_has 28 (.tmp 3) rfl w.heap.size rfl (Has.drew hI.hs) 5 und28 info28 ?_
          refine hK _ _ ?_
          clear hK K
          simp only [Act.put, List.setIfInBounds_toArray, List.set_cons_zero, List.set_cons_succ]
          refine wpAny_one (i := 2) (by kernel_rfl) rfl rfl (fun K hK => ?_)
          refine wp_call_to 35 _ _ rfl Try.call35 #[.pointer (some ⟨c, 0, none⟩), .int .i64 ((0 : Nat) : Int)] (by kernel_rfl) (round_nat key c 0 (by omega) _ (ciph_drew hI.ciph)) ?_
          rintro e w1 ⟨rfl, hb, hw⟩
          refine ⟨_, rfl, ?_⟩
          refine hK _ _ ?_
          clear hK K
          simp only [Act.put, List.setIfInBounds_toArray, List.set_cons_zero, List.set_cons_succ]
          refine wpAny_one (i := 3) (by kernel_rfl) rfl rfl (fun K hK => ?_)
          refine wp_call_to 36 _ _ rfl Try.call36 #[.agg (rowF 16 (byt (op key s 10))), .agg (rowF 16 (byt (rk key 0)))] (by kernel_rfl) (mixed_any (op key s 10) (rk key 0) _) ?_
          rintro e w2 ⟨rfl, hb2⟩
          refine ⟨_, rfl, ?_⟩
          refine hK _ _ ?_
          clear hK K
          simp only [Act.put, List.setIfInBounds_toArray, List.set_cons_zero, List.set_cons_succ]
          refine wpAny_one (i := 4) (by kernel_rfl) rfl rfl (fun K hK => ?_)
          have hS2 : Has w2 (w.heap.size + 1) 28 16 (byt fun _ => 0) := (hI.hr.drew.but hb (by omega)).below hb2 (hI.hr.drew.but hb (by omega)).lt
          refine wp_store_has 28 (.tmp 4) (.tmp 45) rfl (w.heap.size + 1) rfl hS2 (mixF (op key s 10) (rk key 0)) rfl info28 ?_
          refine hK _ _ ?_
          refine wpAny_done (by kernel_rfl) ?_ _
          simp only [Exit.then, Act.put]
          exact fin _ ⟨hS2.setRow _, ((hI.but.drew.trans hb).below hb2).setNew (by omega) _, hw.of_block ((setRow_other _ _ _ _ (by omega)).trans (hb2.block _ hw.lt))⟩
        · skip
          refine wp_call_to 35 _ _ rfl Try.call35 #[.pointer (some ⟨c, 0, none⟩), .int .i64 ((0 : Nat) : Int)] (by kernel_rfl) (round_nat key c 0 (by omega) _ (ciph_drew hI.ciph)) ?_
          rintro e w1 ⟨rfl, hb, hw⟩
          refine ⟨_, rfl, ?_⟩
          refine hK _ _ ?_
          clear hK K
          simp only [Act.put, List.setIfInBounds_toArray, List.set_cons_zero, List.set_cons_succ]
          refine wpAny_one (i := 0) (by kernel_rfl) rfl rfl (fun K hK => ?_)
          refine wp_load_has 28 (.tmp 3) rfl w.heap.size rfl ((hI.hs).drew.but hb (by omega)) 5 und28 info28 ?_
          refine hK _ _ ?_
          clear hK K
          simp only [Act.put, List.setIfInBounds_toArray, List.set_cons_zero, List.set_cons_succ]
          refine wpAny_one (i := 3) (by kernel_rfl) rfl rfl (fun K hK => ?_)
          refine wp_call_to 36 _ _ rfl Try.call36 #[.agg (rowF 16 (byt (op key s 10))), .agg (rowF 16 (byt (rk key 0)))] (by kernel_rfl) (mixed_any (op key s 10) (rk key 0) _) ?_
          rintro e w2 ⟨rfl, hb2⟩
          refine ⟨_, rfl, ?_⟩
          refine hK _ _ ?_
          clear hK K
          simp only [Act.put, List.setIfInBounds_toArray, List.set_cons_zero, List.set_cons_succ]
          refine wpAny_one (i := 4) (by kernel_rfl) rfl rfl (fun K hK => ?_)
          have hS2 : Has w2 (w.heap.size + 1) 28 16 (byt fun _ => 0) := (hI.hr.drew.but hb (by omega)).below hb2 (hI.hr.drew.but hb (by omega)).lt
          refine wp_store_has 28 (.tmp 4) (.tmp 45) rfl (w.heap.size + 1) rfl hS2 (mixF (op key s 10) (rk key 0)) rfl info28 ?_
          refine hK _ _ ?_
          refine wpAny_done (by kernel_rfl) ?_ _
          simp only [Exit.then, Act.put]
          exact fin _ ⟨hS2.setRow _, ((hI.but.drew.trans hb).below hb2).setNew (by omega) _, hw.of_block ((setRow_other _ _ _ _ (by omega)).trans (hb2.block _ hw.lt))⟩
      case hb2 =>
        rintro w3 ⟨hR, hbut, hw⟩
        clear hI
        go_wp2_with fail
        exact ret_has (p := 4) (ty := 28) rfl _ rfl hR 5 und28 info28 rfl ⟨rfl, hbut, hw⟩

end Go.Proofs.Ytjmeiloklhbllaa
