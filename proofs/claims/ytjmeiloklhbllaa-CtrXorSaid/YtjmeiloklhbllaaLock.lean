/- The walk of (*Cipher).Lock. -/
import Derived.Test.YtjmeiloklhbllaaNew
import Derived.Test.YtjmeiloklhbllaaMixed
import Derived.Test.YtjmeiloklhbllaaCols
import Derived.Test.YtjmeiloklhbllaaAny
namespace Go.Proofs.Ytjmeiloklhbllaa
open Go.RowKit

structure LockI (w wr : World) (key s : Nat → UInt8) (c : Nat) : Prop where
  but : ButOne c w wr
  work : Work key c wr
  hs : Has wr w.heap.size 28 16 (byt s)
  hr : Has wr (w.heap.size + 1) 28 16 (byt fun _ => 0)
theorem ciph_two {w : World} {key : Nat → UInt8} {c : Nat} (h : Ciph key c w) (A B : Obj) : Ciph key c ((w.alloc A).alloc B) := by
  have hlt := h.lt
  refine h.of_block ?_
  rw [Below.heap_alloc _ _ _ (by simp; omega), Below.heap_alloc _ _ _ hlt]

theorem round_nat (key : Nat → UInt8) (c n : Nat) (h10 : n ≤ 10) (w : World) (h : Ciph key c w) :
    Calls Try.prog 35 #[.pointer (some ⟨c, 0, none⟩), .int .i64 (n : Int)] w fun e w' => e = .returned (.agg (rowF 16 (byt (rk key n)))) ∧ ButOne c w w' ∧ Work key c w' :=
  round_any key c (n : Int) (by omega) (by omega) w h
theorem round_succ (key : Nat → UInt8) (c n : Nat) (h10 : n + 1 ≤ 10) (w : World) (h : Ciph key c w) :
    Calls Try.prog 35 #[.pointer (some ⟨c, 0, none⟩), .int .i64 ((n : Int) + 1)] w fun e w' => e = .returned (.agg (rowF 16 (byt (rk key (n + 1))))) ∧ ButOne c w w' ∧ Work key c w' :=
  round_any key c ((n : Int) + 1) (by omega) (by omega) w h
theorem ciph_drew {key : Nat → UInt8} {c : Nat} {w : World} (h : Ciph key c w) : Ciph key c w.drew := h.of_block rfl
theorem LockI.mixed {w w0 w1 w2 : World} {key s f : Nat → UInt8} {c : Nat} (hBut : ButOne c w w0) (hw : Work key c w1) (hS2 : Has w2 w.heap.size 28 16 (byt s)) (hR : Has w0 (w.heap.size + 1) 28 16 (byt fun _ => 0))
    (hb : ButOne c w0.drew w1) (hb2 : Below w1.heap.size w1 w2) (hlt : c < w.heap.size) : LockI w (w2.setRow w.heap.size (rowF 16 (byt f))) key f c :=
  ⟨(((hBut.drew.trans hb).below hb2).setNew (Nat.le_refl _) _), hw.of_block ((setRow_other _ _ _ _ (by omega)).trans (hb2.block _ hw.lt)), hS2.setRow _, ((hR.drew.but hb (by omega)).below hb2 (hR.drew.but hb (by omega)).lt).setRowOther _ _ (by omega)⟩

/-- The first m bytes are replaced and turned. -/
def subTo (s : Nat → UInt8) (m : Nat) : Nat → UInt8 := fun j => if j < m then subF s j else 0
theorem subTo_zero (s : Nat → UInt8) : subTo s 0 = fun _ => 0 := by funext j; simp [subTo]
theorem subTo_next (s : Nat → UInt8) (m : Nat) : upd (subTo s m) m (subF s m) = subTo s (m + 1) := by
  funext j; simp only [upd, subTo]
  by_cases h : j = m
  · subst h; simp
  · rw [if_neg h]
    by_cases h2 : j < m
    · rw [if_pos h2, if_pos (by omega)]
    · rw [if_neg h2, if_neg (by omega)]
theorem subTo_end (s : Nat → UInt8) : rowF 16 (byt (subTo s 16)) = rowF 16 (byt (subF s)) := (rowF_byt_iff _ _ _).2 fun i hi => by simp [subTo, hi]
theorem Has.sub {w : World} {b : Nat} {T : TypeId} {s : Nat → UInt8} {m : Nat} (h : Has w b T 16 (byt (subTo s m))) (_hm : m < 16) :
    Has (w.setCell ⟨b, m, none⟩ (.int .u8 ((sbN (s ((m + 4 * (m % 4)) % 16)).toNat).toNat : Int))) b T 16 (byt (subTo s (m + 1))) := by
  have := h.set m (.int .u8 ((subF s m).toNat : Int))
  rw [upd_byt, subTo_next] at this
  exact this
theorem LockI.alloc {w wr : World} {key s : Nat → UInt8} {c : Nat} (h : LockI w wr key s c) (o : Obj) (_hlt : c < w.heap.size) : LockI w (wr.alloc o) key s c :=
  ⟨h.but.below ((Below.refl _ _).alloc (Nat.le_refl _) _), h.work.of_block (Below.heap_alloc _ _ _ h.work.lt), h.hs.alloc _, h.hr.alloc _⟩
theorem LockI.drewBelow {w wr w1 : World} {key s : Nat → UInt8} {c : Nat} (h : LockI w wr key s c) (hb : Below wr.drew.heap.size wr.drew w1) (_hlt : c < w.heap.size) : LockI w w1 key s c :=
  ⟨h.but.drew.below hb, h.work.of_block (hb.block _ h.work.lt), h.hs.drew.below hb h.hs.lt, h.hr.drew.below hb h.hr.lt⟩
theorem LockI.belowOnly {w wr w1 : World} {key s : Nat → UInt8} {c : Nat} (h : LockI w wr key s c) (hb : Below wr.heap.size wr w1) (_hlt : c < w.heap.size) : LockI w w1 key s c :=
  ⟨h.but.below hb, h.work.of_block (hb.block _ h.work.lt), h.hs.below hb h.hs.lt, h.hr.below hb h.hr.lt⟩
theorem LockI.setRowOther {w wr : World} {key s : Nat → UInt8} {c : Nat} (h : LockI w wr key s c) (t : Nat) (cs : Array Value) (h1 : w.heap.size + 1 < t) (h2 : c < w.heap.size) : LockI w (wr.setRow t cs) key s c :=
  ⟨h.but.setNew (by omega) _, h.work.of_block (setRow_other _ _ _ _ (by omega)), h.hs.setRowOther _ _ (by omega), h.hr.setRowOther _ _ (by omega)⟩
theorem LockI.past {w wr : World} {key s : Nat → UInt8} {c : Nat} (h : LockI w wr key s c) {a : Addr} {v : Value} {i : Nat} (hi : i < 16) (ha : a.block ≠ w.heap.size) : (wr.setCell a v).cell? ⟨w.heap.size, i, none⟩ = some (.int .u8 ((s i).toNat : Int)) := by
  rw [World.cell?_setCell_other _ _ _ _ (fun e => ha (by rw [e]))]
  exact h.hs.cell hi
theorem LockI.setOther {w wr : World} {key s : Nat → UInt8} {c : Nat} (h : LockI w wr key s c) (a : Addr) (v : Value) (h1 : w.heap.size + 1 < a.block) (h2 : c < w.heap.size) (_h3 : a.block ≠ c) : LockI w (wr.setCell a v) key s c :=
  ⟨⟨h.but.os, h.but.tape, h.but.output, by simpa [World.setCell] using h.but.size, fun k hk hc => (heap_setCell_other _ _ _ _ (by omega)).trans (h.but.block k hk hc)⟩,
    h.work.of_block (heap_setCell_other _ _ _ _ (by omega)), h.hs.setOther _ _ (by omega), h.hr.setOther _ _ (by omega)⟩

set_option maxRecDepth 100000 in
set_option maxHeartbeats 400000 in
/-- c.Lock(s): the block as it is locked; the cipher is at work behind it. -/
theorem lock_any (key s : Nat → UInt8) (c : Nat) (w : World) (h : Ciph key c w) :
    Calls Try.prog 24 #[.pointer (some ⟨c, 0, none⟩), .agg (rowF 16 (byt s))] w fun e w' => e = .returned (.agg (rowF 16 (byt (lockF key s)))) ∧ ButOne c w w' ∧ Work key c w' := by
  have hlt := h.lt
  have HC := Lib.hid h; clear h
  go_enter Try.func24, Try.ntmps24
  go_wp2_with fail
  rw [zeros16]
  have hS : Has ((w.alloc (.cells (rowF 16 (byt s)) 28)).alloc (.cells (rowF 16 (byt fun _ => 0)) 28)) w.heap.size 28 16 (byt s) := (Has.new w 28 16 (byt s)).alloc _
  have hR : Has ((w.alloc (.cells (rowF 16 (byt s)) 28)).alloc (.cells (rowF 16 (byt fun _ => 0)) 28)) (w.heap.size + 1) 28 16 (byt fun _ => 0) := by
    have := Has.new (w.alloc (.cells (rowF 16 (byt s)) 28)) 28 16 (byt fun _ => 0)
    simpa using this
  have hCi := ciph_two HC.out (.cells (rowF 16 (byt s)) 28) (.cells (rowF 16 (byt fun _ => 0)) 28)
  have hBut : ButOne c w ((w.alloc (.cells (rowF 16 (byt s)) 28)).alloc (.cells (rowF 16 (byt fun _ => 0)) 28)) := ButOne.of_below (((Below.refl _ _).alloc (Nat.le_refl _) _).alloc (by simp) _)
  generalize ((w.alloc (.cells (rowF 16 (byt s)) 28)).alloc (.cells (rowF 16 (byt fun _ => 0)) 28)) = w0 at hS hR hCi hBut ⊢
  refine wp_via (A := ?A1) (fun w' => LockI w w' key (lk key s 0) c) (fun K' fin => ?ha1) ?hb1
  case ha1 =>
    refine wp_region_any (by kernel_rfl) ?_
    change wpAny _ _ _ _ _ _ _ (World.drew _)
    refine wpAny_mv (i := 1) rfl rfl rfl (by kernel_rfl) (by kernel_rfl) (by kernel_rfl) (.pointer (some ⟨c, 0, none⟩)) rfl (fun _ _ _ h => h) ?_
    simp only [Act.put, List.setIfInBounds_toArray, List.set_cons_zero, List.set_cons_succ]
    refine wpAny_two (i := 0) (j := 2) (by kernel_rfl) rfl rfl rfl rfl (fun K hK => ?_) (fun K hK => ?_)
    · refine wp_load_has 28 (.tmp 3) rfl w.heap.size rfl (Has.drew hS) 5 und28 info28 ?_
      refine hK _ _ ?_
      clear hK K
      simp only [Act.put, List.setIfInBounds_toArray, List.set_cons_zero, List.set_cons_succ]
      refine wpAny_one (i := 2) (by kernel_rfl) rfl rfl (fun K hK => ?_)
      refine wp_call_to 35 _ _ rfl Try.call35 #[.pointer (some ⟨c, 0, none⟩), .int .i64 ((0 : Nat) : Int)] (by kernel_rfl) (round_nat key c 0 (by omega) _ (ciph_drew hCi)) ?_
      rintro e w1 ⟨rfl, hb, hw⟩
      refine ⟨_, rfl, ?_⟩
      refine hK _ _ ?_
      clear hK K
      simp only [Act.put, List.setIfInBounds_toArray, List.set_cons_zero, List.set_cons_succ]
      refine wpAny_one (i := 3) (by kernel_rfl) rfl rfl (fun K hK => ?_)
      refine wp_call_to 36 _ _ rfl Try.call36 #[.agg (rowF 16 (byt s)), .agg (rowF 16 (byt (rk key 0)))] (by kernel_rfl) (mixed_any s (rk key 0) _) ?_
      rintro e w2 ⟨rfl, hb2⟩
      refine ⟨_, rfl, ?_⟩
      refine hK _ _ ?_
      clear hK K
      simp only [Act.put, List.setIfInBounds_toArray, List.set_cons_zero, List.set_cons_succ]
      refine wpAny_one (i := 4) (by kernel_rfl) rfl rfl (fun K hK => ?_)
      have hS2 : Has w2 w.heap.size 28 16 (byt s) := (hS.drew.but hb (by omega)).below hb2 (hS.drew.but hb (by omega)).lt
      refine wp_store_has 28 (.tmp 3) (.tmp 11) rfl w.heap.size rfl hS2 (mixF s (rk key 0)) rfl info28 ?_
      refine hK _ _ ?_
      refine wpAny_done (by kernel_rfl) ?_ _
      simp only [Exit.then, Act.put]
      exact fin _ (LockI.mixed hBut hw hS2 hR hb hb2 hlt)
    · refine wp_call_to 35 _ _ rfl Try.call35 #[.pointer (some ⟨c, 0, none⟩), .int .i64 ((0 : Nat) : Int)] (by kernel_rfl) (round_nat key c 0 (by omega) _ (ciph_drew hCi)) ?_
      rintro e w1 ⟨rfl, hb, hw⟩
      refine ⟨_, rfl, ?_⟩
      refine hK _ _ ?_
      clear hK K
      simp only [Act.put, List.setIfInBounds_toArray, List.set_cons_zero, List.set_cons_succ]
      refine wpAny_one (i := 0) (by kernel_rfl) rfl rfl (fun K hK => ?_)
      refine wp_load_has 28 (.tmp 3) rfl w.heap.size rfl (hS.drew.but hb (by omega)) 5 und28 info28 ?_
      refine hK _ _ ?_
      clear hK K
      simp only [Act.put, List.setIfInBounds_toArray, List.set_cons_zero, List.set_cons_succ]
      refine wpAny_one (i := 3) (by kernel_rfl) rfl rfl (fun K hK => ?_)
      refine wp_call_to 36 _ _ rfl Try.call36 #[.agg (rowF 16 (byt s)), .agg (rowF 16 (byt (rk key 0)))] (by kernel_rfl) (mixed_any s (rk key 0) _) ?_
      rintro e w2 ⟨rfl, hb2⟩
      refine ⟨_, rfl, ?_⟩
      refine hK _ _ ?_
      clear hK K
      simp only [Act.put, List.setIfInBounds_toArray, List.set_cons_zero, List.set_cons_succ]
      refine wpAny_one (i := 4) (by kernel_rfl) rfl rfl (fun K hK => ?_)
      have hS2 : Has w2 w.heap.size 28 16 (byt s) := (hS.drew.but hb (by omega)).below hb2 (hS.drew.but hb (by omega)).lt
      refine wp_store_has 28 (.tmp 3) (.tmp 11) rfl w.heap.size rfl hS2 (mixF s (rk key 0)) rfl info28 ?_
      refine hK _ _ ?_
      refine wpAny_done (by kernel_rfl) ?_ _
      simp only [Exit.then, Act.put]
      exact fin _ (LockI.mixed hBut hw hS2 hR hb hb2 hlt)
  case hb1 =>
    intro w1 hI0
    clear hS hR hCi hBut HC
    go_wp2
    go_loopw [5] (fun i wr => ∃ n : Nat, n ≤ 10 ∧ i = .int .i64 ((n : Int) + 1) ∧ LockI w wr key (lk key s n) c) (fun i _ => 11 - (intOf i).toNat)
    case atStart => exact ⟨0, by omega, rfl, hI0⟩
    case round =>
      clear hI0
      obtain ⟨n, hn, rfl, hI⟩ := hrel
      by_cases hl : n < 10
      · have hd : decide ((n : Int) + 1 ≤ 10) = true := by simp; omega
        go_wp2
        rw [zeros16]
        have hI1 := hI.alloc (.cells (rowF 16 (byt fun _ => 0)) 28) hlt
        have hT : Has (wr.alloc (.cells (rowF 16 (byt fun _ => 0)) 28)) wr.heap.size 28 16 (byt (subTo (lk key s n) 0)) := by rw [subTo_zero]; exact Has.new wr 28 16 _
        have ht : w.heap.size + 1 < wr.heap.size := hI.hr.lt
        clear hI
        generalize wr.heap.size = t at hT ht ⊢
        generalize wr.alloc (.cells (rowF 16 (byt fun _ => 0)) 28) = wt at hI1 hT ⊢
        go_loopw [16] (fun j wr => ∃ m : Nat, m ≤ 16 ∧ j = .int .i64 m ∧ LockI w wr key (lk key s n) c ∧ Has wr t 28 16 (byt (subTo (lk key s n) m))) (fun j _ => 16 - (intOf j).toNat)
        case atStart => exact ⟨0, by omega, rfl, hI1, hT⟩
        case round =>
          clear hI1 hT
          obtain ⟨m, hm, rfl, hI, hT⟩ := hrel
          by_cases hl2 : m < 16
          · have hidx : (m + 4 * (m % 4)) % 16 < 16 := by omega
            have c1 : wr.cell? ⟨w.heap.size, (m + 4 * (m % 4)) % 16, none⟩ = some (.int .u8 ((lk key s n ((m + 4 * (m % 4)) % 16)).toNat : Int)) := hI.hs.cell hidx
            have hx := fun w => run_index_rowF (P := Try.prog) w 33 5 256 sbN .u8 (lk key s n ((m + 4 * (m % 4)) % 16)).toNat (UInt8.toNat_lt _) und33 (by kernel_rfl) (by kernel_rfl)
            go_wp2
            have b1 : ((m : Int)).tmod 4 = (m : Int) % 4 := Int.tmod_eq_emod_of_nonneg (by omega)
            have b2 : IntKind.i64.wrap (4 * ((m : Int) % 4)) = 4 * ((m : Int) % 4) := IntWalk.i64_in _ (by omega)
            have b3 : IntKind.i64.wrap ((m : Int) + 4 * ((m : Int) % 4)) = (m : Int) + 4 * ((m : Int) % 4) := IntWalk.i64_in _ (by omega)
            have b4 : ((m : Int) + 4 * ((m : Int) % 4)).tmod 16 = ((m : Int) + 4 * ((m : Int) % 4)) % 16 := Int.tmod_eq_emod_of_nonneg (by omega)
            have b5 : (((m : Int) + 4 * ((m : Int) % 4)) % 16).toNat = (m + 4 * (m % 4)) % 16 := by omega
            have b6 : (0 : Int) ≤ ((m : Int) + 4 * ((m : Int) % 4)) % 16 := by omega
            have b7 : ((m : Int) + 4 * ((m : Int) % 4)) % 16 < 16 := by omega
            have b8 : (0 : Int) ≤ (m : Int) := by omega
            have b9 : (m : Int) < 16 := by omega
            go_region_held3 (fun w' => w'.cell? ⟨w.heap.size, (m + 4 * (m % 4)) % 16, none⟩ = some (.int .u8 ((lk key s n ((m + 4 * (m % 4)) % 16)).toNat : Int)))
              (first | go_keep | exact hI2.hs.cell hidx | exact hI2.past hidx (by show t ≠ w.heap.size; omega))
              (first | (go_at_call 33; refine (box_any _).mono ?_; rintro e w1 ⟨rfl, hb⟩; have hI2 := hI.drewBelow hb hlt; have hT2 := hT.drew.below hb hT.lt; have c3 := hT2.cell (i := m) (by omega); have f3 := hT2.frozen m))
            clear b1 b2 b3 b4 b5 b6 b7 b8 b9 hx
            go_wp2
            go_roundw
            case rel => exact ⟨m + 1, by omega, by go_num, hI2.setOther ⟨t, m, none⟩ _ (by simpa using ht) (by omega) (by show t ≠ c; omega), hT2.sub hl2⟩
            case measure => simp [intOf]; omega
          · obtain rfl : m = 16 := by omega
            by_cases h10 : n + 1 < 10
            · have HL := Lib.hid (show lk key s (n + 1) = mixF (colF (subF (lk key s n)) mc) (rk key (n + 1)) by simp [lk, h10])
              have hd2 : decide ((n : Int) + 1 < 10) = true := by simp; omega
              go_wp2_with (first | (refine wpList_load_has rfl 28 (.tmp 6) rfl _ rfl hT 5 und28 info28 ?_; rw [subTo_end]; simp only [Act.put, List.setIfInBounds_toArray, List.set_cons_zero, List.set_cons_succ]; refine wpList_build_at rfl 74 #[(0, .const (.int .u8 2)), (1, .const (.int .u8 3)), (2, .const (.int .u8 1)), (3, .const (.int .u8 1))] rfl [(0, .int .u8 2), (1, .int .u8 3), (2, .int .u8 1), (3, .int .u8 1)] (by kernel_rfl) (rowF 4 (byt mc)) (by kernel_rfl) ?_; simp only [Act.put, List.setIfInBounds_toArray, List.set_cons_zero, List.set_cons_succ]) | (go_at_call 37; refine (cols_any _ _ _).mono ?_; rintro e w1 ⟨rfl, hb⟩; have hI2 := hI.belowOnly hb hlt; have hT2 := hT.below hb hT.lt) | (refine wpList_store_has rfl 28 (.tmp 6) (.tmp 36) rfl _ rfl hT2 (colF (subF (lk key s n)) mc) rfl info28 ?_))
              have hT3 := hT2.setRow (byt (colF (subF (lk key s n)) mc))
              have hI3 := hI2.setRowOther t (rowF 16 (byt (colF (subF (lk key s n)) mc))) (by omega) (by omega)
              clear hT hI hT2 hI2
              generalize w1.setRow t (rowF 16 (byt (colF (subF (lk key s n)) mc))) = wr at hT3 hI3 ⊢
              have hT := hT3; have hI := hI3; clear hT3 hI3
              simp only [Act.put]
              refine wp_via2 (A := ?A2) (fun w' => LockI w w' key (mixF (colF (subF (lk key s n)) mc) (rk key (n + 1))) c) (fun K' fin => ?ha2) ?hb2
              case ha2 =>
                refine wp_region_any (by kernel_rfl) ?_
                change wpAny _ _ _ _ _ _ _ (World.drew _)
                refine wpAny_mv (i := 1) rfl rfl rfl (by kernel_rfl) (by kernel_rfl) (by kernel_rfl) (.pointer (some ⟨c, 0, none⟩)) rfl (fun _ _ _ h => h) ?_
                simp only [Act.put, List.setIfInBounds_toArray, List.set_cons_zero, List.set_cons_succ]
                refine wpAny_mv (i := 2) rfl rfl rfl (by kernel_rfl) (by kernel_rfl) (by kernel_rfl) (.int .i64 ((n : Int) + 1)) rfl (fun _ _ _ h => h) ?_
                simp only [Act.put, List.setIfInBounds_toArray, List.set_cons_zero, List.set_cons_succ]
                refine wpAny_two (i := 0) (j := 3) (by kernel_rfl) rfl rfl rfl rfl (fun K hK => ?_) (fun K hK => ?_)
                · refine wp_load_has 28 (.tmp 6) rfl t rfl (Has.drew hT) 5 und28 info28 ?_
                  refine hK _ _ ?_
                  clear hK K
                  simp only [Act.put, List.setIfInBounds_toArray, List.set_cons_zero, List.set_cons_succ]
                  refine wpAny_one (i := 3) (by kernel_rfl) rfl rfl (fun K hK => ?_)
                  refine wp_call_to 35 _ _ rfl Try.call35 #[.pointer (some ⟨c, 0, none⟩), .int .i64 ((n : Int) + 1)] (by kernel_rfl) (round_succ key c n (by omega) _ (ciph_drew hI.work.ciph)) ?_
                  rintro e w1 ⟨rfl, hb, hw⟩
                  refine ⟨_, rfl, ?_⟩
                  refine hK _ _ ?_
                  clear hK K
                  simp only [Act.put, List.setIfInBounds_toArray, List.set_cons_zero, List.set_cons_succ]
                  refine wpAny_one (i := 4) (by kernel_rfl) rfl rfl (fun K hK => ?_)
                  refine wp_call_to 36 _ _ rfl Try.call36 #[.agg (rowF 16 (byt (colF (subF (lk key s n)) mc))), .agg (rowF 16 (byt (rk key (n + 1))))] (by kernel_rfl) (mixed_any (colF (subF (lk key s n)) mc) (rk key (n + 1)) _) ?_
                  rintro e w2 ⟨rfl, hb2⟩
                  refine ⟨_, rfl, ?_⟩
                  refine hK _ _ ?_
                  clear hK K
                  simp only [Act.put, List.setIfInBounds_toArray, List.set_cons_zero, List.set_cons_succ]
                  refine wpAny_one (i := 5) (by kernel_rfl) rfl rfl (fun K hK => ?_)
                  have hS2 : Has w2 w.heap.size 28 16 (byt (lk key s n)) := (hI.hs.drew.but hb (by omega)).below hb2 (hI.hs.drew.but hb (by omega)).lt
                  refine wp_store_has 28 (.tmp 3) (.tmp 41) rfl w.heap.size rfl hS2 (mixF (colF (subF (lk key s n)) mc) (rk key (n + 1))) rfl info28 ?_
                  refine hK _ _ ?_
                  refine wpAny_done (by kernel_rfl) ?_ _
                  simp only [Exit.then, Act.put]
                  exact fin _ (LockI.mixed hI.but hw hS2 hI.hr hb hb2 hlt)
                · refine wp_call_to 35 _ _ rfl Try.call35 #[.pointer (some ⟨c, 0, none⟩), .int .i64 ((n : Int) + 1)] (by kernel_rfl) (round_succ key c n (by omega) _ (ciph_drew hI.work.ciph)) ?_
                  rintro e w1 ⟨rfl, hb, hw⟩
                  refine ⟨_, rfl, ?_⟩
                  refine hK _ _ ?_
                  clear hK K
                  simp only [Act.put, List.setIfInBounds_toArray, List.set_cons_zero, List.set_cons_succ]
                  refine wpAny_one (i := 0) (by kernel_rfl) rfl rfl (fun K hK => ?_)
                  refine wp_load_has 28 (.tmp 6) rfl t rfl (hT.drew.but hb (by omega)) 5 und28 info28 ?_
                  refine hK _ _ ?_
                  clear hK K
                  simp only [Act.put, List.setIfInBounds_toArray, List.set_cons_zero, List.set_cons_succ]
                  refine wpAny_one (i := 4) (by kernel_rfl) rfl rfl (fun K hK => ?_)
                  refine wp_call_to 36 _ _ rfl Try.call36 #[.agg (rowF 16 (byt (colF (subF (lk key s n)) mc))), .agg (rowF 16 (byt (rk key (n + 1))))] (by kernel_rfl) (mixed_any (colF (subF (lk key s n)) mc) (rk key (n + 1)) _) ?_
                  rintro e w2 ⟨rfl, hb2⟩
                  refine ⟨_, rfl, ?_⟩
                  refine hK _ _ ?_
                  clear hK K
                  simp only [Act.put, List.setIfInBounds_toArray, List.set_cons_zero, List.set_cons_succ]
                  refine wpAny_one (i := 5) (by kernel_rfl) rfl rfl (fun K hK => ?_)
                  have hS2 : Has w2 w.heap.size 28 16 (byt (lk key s n)) := (hI.hs.drew.but hb (by omega)).below hb2 (hI.hs.drew.but hb (by omega)).lt
                  refine wp_store_has 28 (.tmp 3) (.tmp 41) rfl w.heap.size rfl hS2 (mixF (colF (subF (lk key s n)) mc) (rk key (n + 1))) rfl info28 ?_
                  refine hK _ _ ?_
                  refine wpAny_done (by kernel_rfl) ?_ _
                  simp only [Exit.then, Act.put]
                  exact fin _ (LockI.mixed hI.but hw hS2 hI.hr hb hb2 hlt)
              case hb2 =>
                intro w1 hJ
                clear hT hI
                go_wp2
                go_roundw
                case rel => exact ⟨n + 1, by omega, by go_num, by rw [HL.out]; exact hJ⟩
                case measure => simp [intOf]; omega
            · have HL := Lib.hid (show lk key s (n + 1) = mixF (subF (lk key s n)) (rk key (n + 1)) by simp [lk, h10])
              have hd2 : decide ((n : Int) + 1 < 10) = false := by simp; omega
              replace hT := hT.congr (g' := byt (subF (lk key s n))) (fun i hi => by simp [byt, subTo, hi])
              go_wp2
              refine wp_via2 (A := ?A3) (fun w' => LockI w w' key (mixF (subF (lk key s n)) (rk key (n + 1))) c) (fun K' fin => ?ha3) ?hb3
              case ha3 =>
                refine wp_region_any (by kernel_rfl) ?_
                change wpAny _ _ _ _ _ _ _ (World.drew _)
                refine wpAny_mv (i := 1) rfl rfl rfl (by kernel_rfl) (by kernel_rfl) (by kernel_rfl) (.pointer (some ⟨c, 0, none⟩)) rfl (fun _ _ _ h => h) ?_
                simp only [Act.put, List.setIfInBounds_toArray, List.set_cons_zero, List.set_cons_succ]
                refine wpAny_mv (i := 2) rfl rfl rfl (by kernel_rfl) (by kernel_rfl) (by kernel_rfl) (.int .i64 ((n : Int) + 1)) rfl (fun _ _ _ h => h) ?_
                simp only [Act.put, List.setIfInBounds_toArray, List.set_cons_zero, List.set_cons_succ]
                refine wpAny_two (i := 0) (j := 3) (by kernel_rfl) rfl rfl rfl rfl (fun K hK => ?_) (fun K hK => ?_)
                · refine wp_load_has 28 (.tmp 6) rfl t rfl (Has.drew hT) 5 und28 info28 ?_
                  refine hK _ _ ?_
                  clear hK K
                  simp only [Act.put, List.setIfInBounds_toArray, List.set_cons_zero, List.set_cons_succ]
                  refine wpAny_one (i := 3) (by kernel_rfl) rfl rfl (fun K hK => ?_)
                  refine wp_call_to 35 _ _ rfl Try.call35 #[.pointer (some ⟨c, 0, none⟩), .int .i64 ((n : Int) + 1)] (by kernel_rfl) (round_succ key c n (by omega) _ (ciph_drew hI.work.ciph)) ?_
                  rintro e w1 ⟨rfl, hb, hw⟩
                  refine ⟨_, rfl, ?_⟩
                  refine hK _ _ ?_
                  clear hK K
                  simp only [Act.put, List.setIfInBounds_toArray, List.set_cons_zero, List.set_cons_succ]
                  refine wpAny_one (i := 4) (by kernel_rfl) rfl rfl (fun K hK => ?_)
                  refine wp_call_to 36 _ _ rfl Try.call36 #[.agg (rowF 16 (byt (subF (lk key s n)))), .agg (rowF 16 (byt (rk key (n + 1))))] (by kernel_rfl) (mixed_any (subF (lk key s n)) (rk key (n + 1)) _) ?_
                  rintro e w2 ⟨rfl, hb2⟩
                  refine ⟨_, rfl, ?_⟩
                  refine hK _ _ ?_
                  clear hK K
                  simp only [Act.put, List.setIfInBounds_toArray, List.set_cons_zero, List.set_cons_succ]
                  refine wpAny_one (i := 5) (by kernel_rfl) rfl rfl (fun K hK => ?_)
                  have hS2 : Has w2 w.heap.size 28 16 (byt (lk key s n)) := (hI.hs.drew.but hb (by omega)).below hb2 (hI.hs.drew.but hb (by omega)).lt
                  refine wp_store_has 28 (.tmp 3) (.tmp 41) rfl w.heap.size rfl hS2 (mixF (subF (lk key s n)) (rk key (n + 1))) rfl info28 ?_
                  refine hK _ _ ?_
                  refine wpAny_done (by kernel_rfl) ?_ _
                  simp only [Exit.then, Act.put]
                  exact fin _ (LockI.mixed hI.but hw hS2 hI.hr hb hb2 hlt)
                · refine wp_call_to 35 _ _ rfl Try.call35 #[.pointer (some ⟨c, 0, none⟩), .int .i64 ((n : Int) + 1)] (by kernel_rfl) (round_succ key c n (by omega) _ (ciph_drew hI.work.ciph)) ?_
                  rintro e w1 ⟨rfl, hb, hw⟩
                  refine ⟨_, rfl, ?_⟩
                  refine hK _ _ ?_
                  clear hK K
                  simp only [Act.put, List.setIfInBounds_toArray, List.set_cons_zero, List.set_cons_succ]
                  refine wpAny_one (i := 0) (by kernel_rfl) rfl rfl (fun K hK => ?_)
                  refine wp_load_has 28 (.tmp 6) rfl t rfl (hT.drew.but hb (by omega)) 5 und28 info28 ?_
                  refine hK _ _ ?_
                  clear hK K
                  simp only [Act.put, List.setIfInBounds_toArray, List.set_cons_zero, List.set_cons_succ]
                  refine wpAny_one (i := 4) (by kernel_rfl) rfl rfl (fun K hK => ?_)
                  refine wp_call_to 36 _ _ rfl Try.call36 #[.agg (rowF 16 (byt (subF (lk key s n)))), .agg (rowF 16 (byt (rk key (n + 1))))] (by kernel_rfl) (mixed_any (subF (lk key s n)) (rk key (n + 1)) _) ?_
                  rintro e w2 ⟨rfl, hb2⟩
                  refine ⟨_, rfl, ?_⟩
                  refine hK _ _ ?_
                  clear hK K
                  simp only [Act.put, List.setIfInBounds_toArray, List.set_cons_zero, List.set_cons_succ]
                  refine wpAny_one (i := 5) (by kernel_rfl) rfl rfl (fun K hK => ?_)
                  have hS2 : Has w2 w.heap.size 28 16 (byt (lk key s n)) := (hI.hs.drew.but hb (by omega)).below hb2 (hI.hs.drew.but hb (by omega)).lt
                  refine wp_store_has 28 (.tmp 3) (.tmp 41) rfl w.heap.size rfl hS2 (mixF (subF (lk key s n)) (rk key (n + 1))) rfl info28 ?_
                  refine hK _ _ ?_
                  refine wpAny_done (by kernel_rfl) ?_ _
                  simp only [Exit.then, Act.put]
                  exact fin _ (LockI.mixed hI.but hw hS2 hI.hr hb hb2 hlt)
              case hb3 =>
                intro w1 hJ
                clear hT hI
                go_wp2
                go_roundw
                case rel => exact ⟨n + 1, by omega, by go_num, by rw [HL.out]; exact hJ⟩
                case measure => simp [intOf]; omega
      · obtain rfl : n = 10 := by omega
        go_wp2_with (first | (refine wpList_load_has rfl 28 (.tmp 3) rfl _ rfl hI.hs 5 und28 info28 ?_) | (refine wpList_store_has rfl 28 (.tmp 4) (.tmp 42) rfl _ rfl hI.hr _ rfl info28 ?_))
        exact ret_has (p := 4) (ty := 28) rfl _ rfl (hI.hr.setRow _) 5 und28 info28 rfl ⟨rfl, hI.but.setNew (by omega) _, hI.work.of_block (setRow_other _ _ _ _ (by omega))⟩

end Go.Proofs.Ytjmeiloklhbllaa
