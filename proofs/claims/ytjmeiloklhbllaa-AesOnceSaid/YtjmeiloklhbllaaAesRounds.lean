/- The walk of the law AesRounds: it answers true, whatever the key and the number. -/
import Derived.Test.YtjmeiloklhbllaaRefRounds
import Derived.Test.YtjmeiloklhbllaaRound
import Derived.Test.YtjmeiloklhbllaaQuiet
namespace Go.Proofs.Ytjmeiloklhbllaa
open Go.RowKit

theorem zeroRow31 (w : World) : (zeroValue 31).run Try.prog w = .ok (.agg (rowF 176 (byt fun _ => 0))) w := by rw [Try.zeroValue31, zero31]
structure RdS (W w : World) (k : Nat → UInt8) (c : Nat) : Prop where
  bel : Below W.heap.size W w
  hk : Has w W.heap.size 28 16 (byt k)
  hc : Ciph k c w
  lo : W.heap.size < c
theorem RdS.below {W w w' : World} {k : Nat → UInt8} {c : Nat} (h : RdS W w k c) (hb : Below w.heap.size w w') : RdS W w' k c :=
  ⟨h.bel.trans (hb.mono h.bel.size), h.hk.below hb h.hk.lt, h.hc.of_block (hb.block _ h.hc.lt), h.lo⟩
theorem RdS.drew {W w : World} {k : Nat → UInt8} {c : Nat} (h : RdS W w k c) : RdS W w.drew k c := ⟨h.bel.drew, h.hk.drew, h.hc.of_block rfl, h.lo⟩
theorem RdS.store {W w : World} {k : Nat → UInt8} {c b : Nat} {cs : Array Value} (h : RdS W w k c) (h1 : W.heap.size < b) (h2 : b ≠ c) : RdS W (w.setRow b cs) k c :=
  ⟨Below.setRow h.bel (by omega) _, h.hk.setRowOther _ _ (by omega), h.hc.of_block (setRow_other _ _ _ _ (Ne.symm h2)), h.lo⟩
theorem RdS.but {W w w' : World} {k : Nat → UInt8} {c : Nat} (h : RdS W w k c) (hb : ButOne c w w') (hw : Work k c w') : RdS W w' k c :=
  ⟨h.bel.trans (hb.to_below h.bel.size (Nat.le_of_lt h.lo)), h.hk.but hb (Nat.ne_of_lt h.lo), hw.ciph, h.lo⟩

theorem zeroRow28 (w : World) : (zeroValue 28).run Try.prog w = .ok (.agg (rowF 16 (byt fun _ => 0))) w := by rw [Try.zeroValue28, zeros16]
theorem Round_nat (k : Nat → UInt8) (c j : Nat) (h : j ≤ 10) (w : World) (hc : Ciph k c w) :
    Calls Try.prog 23 #[.pointer (some ⟨c, 0, none⟩), .int .i64 (j : Int)] w fun e w' => e = .returned (.tuple #[.agg (rowF 16 (byt (rk k j))), .int .i64 0]) ∧ ButOne c w w' ∧ Work k c w' :=
  Round_ok k c (j : Int) (by omega) (by omega) w hc
theorem idx31 (b j : Nat) (hj : j < 11) (w : World) : (Instr.indexAt 31 (.pointer (some ⟨b, 0, none⟩)) (.int .i64 (j : Int))).run Try.prog w = .ok (.pointer (some ⟨b, j * 16, none⟩)) w := by
  have h1 : (0 : Int) ≤ (j : Int) := by omega
  have h2 : (j : Int) < 11 := by omega
  go_simp
theorem rowAt (k : Nat → UInt8) (j : Nat) : (Value.agg (rowF 16 fun m => byt (rkF k) (j * 16 + m))) = .agg (rowF 16 (byt (rk k j))) :=
  congrArg Value.agg (rowF_congr fun m hm => by unfold byt; rw [show j * 16 + m = 16 * j + m by omega, rkF_at _ _ _ hm])
theorem neq_same (f : Nat → UInt8) (w : World) : (binOp .neq 28 (.agg (rowF 16 (byt f))) (.agg (rowF 16 (byt f)))).run Try.prog w = .ok (.bool false) w := by
  rw [neq28, (eqF_iff 16 f f).2 (fun _ _ => rfl)]; rfl
theorem eql_same (f : Nat → UInt8) (w : World) : (binOp .eql 28 (.agg (rowF 16 (byt f))) (.agg (rowF 16 (byt f)))).run Try.prog w = .ok (.bool true) w := by
  rw [eql28, (eqF_iff 16 f f).2 (fun _ _ => rfl)]

set_option maxRecDepth 100000 in
set_option maxHeartbeats 4000000 in
theorem rounds_any (k : Nat → UInt8) (n : Int) (W : World) :
    Calls Try.prog 6 #[.agg (rowF 16 (byt k)), .int .i64 n] W fun e w' => e = .returned (.bool true) ∧ Below W.heap.size W w' := by
  have hnot : ∀ (x : Bool) (w : World), (Op.unary .not (.bool x)).run Try.prog w = .ok (.bool (!x)) w := fun _ _ => rfl
  go_enter Try.func6, Try.ntmps6
  go_wp2_with (first | (refine wpList_load_has rfl 28 (.tmp 2) rfl _ rfl (Has.new W 28 16 (byt k)) 5 und28 info28 ?_) | (go_at_call 20; refine (new_any k _).mono ?_; rintro e w1 ⟨rfl, hb1, hs1, hn1⟩) | (go_at_call 16; refine (shown_any _).mono ?_; rintro e w2 ⟨rfl, hb2⟩))
  have hS : RdS W w2 k (W.heap.size + 1 + 1) := by
    refine RdS.below ⟨((Below.refl _ _).alloc (Nat.le_refl _) _).trans (hb1.mono (by simp)), (Has.new W 28 16 (byt k)).below hb1 (Has.new W 28 16 (byt k)).lt, ⟨_, by simpa using hn1, .inl (fresh_new k)⟩, by omega⟩ hb2
  clear hb1 hs1 hn1 hb2
  obtain ⟨c, hc⟩ : ∃ c, c = W.heap.size + 1 + 1 := ⟨_, rfl⟩
  rw [← hc] at hS ⊢
  clear hc
  refine wp_viaN (A := ?A1) (fun b w' => c < b ∧ RdS W w' k c ∧ Has w' b 31 176 (byt (rkF k))) (fun K' fin => ?ha1) ?hb1
  case ha1 =>
    have hlo := hS.lo
    refine wp_region_any (by kernel_rfl) ?_
    change wpAny _ _ _ _ _ _ _ (World.drew _)
    refine wpAny_three (i := 0) (j := 1) (k := 3) (by kernel_rfl) rfl rfl rfl rfl rfl rfl (fun K hK => ?_) (fun K hK => ?_) (fun K hK => ?_)
    · skip
      refine wp_call_to 22 _ _ rfl Try.call22 #[] (by kernel_rfl) (refBoxes_any _) ?_
      rintro e x1 ⟨rfl, hb1⟩
      refine ⟨_, rfl, ?_⟩
      have s1 := hS.drew.below hb1
      refine hK _ _ ?_
      clear hK K
      simp only [Act.put, List.setIfInBounds_toArray, List.set_cons_zero, List.set_cons_succ]
      refine wpAny_two (i := 1) (j := 3) (by kernel_rfl) rfl rfl rfl rfl (fun K hK => ?_) (fun K hK => ?_)
      · skip
        refine wp_load_has 28 (.tmp 2) rfl W.heap.size rfl s1.hk 5 und28 info28 ?_
        refine hK _ _ ?_
        clear hK K
        simp only [Act.put, List.setIfInBounds_toArray, List.set_cons_zero, List.set_cons_succ]
        refine wpAny_two (i := 2) (j := 3) (by kernel_rfl) rfl rfl rfl rfl (fun K hK => ?_) (fun K hK => ?_)
        · skip
          refine wp_call_to 21 _ _ rfl Try.call21 #[.agg (rowF 256 (byt sbN)), .agg (rowF 16 (byt k))] (by kernel_rfl) (refRounds_any k _) ?_
          rintro e x3 ⟨rfl, hb3⟩
          refine ⟨_, rfl, ?_⟩
          have s3 := s1.below hb3
          refine hK _ _ ?_
          clear hK K
          simp only [Act.put, List.setIfInBounds_toArray, List.set_cons_zero, List.set_cons_succ]
          refine wpAny_one (i := 3) (by kernel_rfl) rfl rfl (fun K hK => ?_)
          refine wp_alloc_gen 31 rfl 176 (byt fun _ => 0) zeroRow31 ?_
          rintro b y4 hge hy4 z4
          have hbc : c < b := Nat.lt_of_lt_of_le s3.hc.lt hge
          have s4 := s3.below hy4
          refine hK _ _ ?_
          clear hK K
          simp only [Act.put, List.setIfInBounds_toArray, List.set_cons_zero, List.set_cons_succ]
          refine wpAny_one (i := 4) (by kernel_rfl) rfl rfl (fun K hK => ?_)
          refine wp_store_has 31 (.tmp 6) (.tmp 22) rfl b rfl z4 (rkF k) rfl info31 ?_
          refine hK _ _ ?_
          clear hK K
          simp only [Act.put]
          refine wpAny_done (by kernel_rfl) ?_ _
          simp only [Exit.then]
          exact fin b _ ⟨hbc, s4.store (by omega) (by omega), z4.setRow _⟩
        · skip
          refine wp_alloc_gen 31 rfl 176 (byt fun _ => 0) zeroRow31 ?_
          rintro b y6 hge hy6 z6
          have hbc : c < b := Nat.lt_of_lt_of_le s1.hc.lt hge
          have s6 := s1.below hy6
          refine hK _ _ ?_
          clear hK K
          simp only [Act.put, List.setIfInBounds_toArray, List.set_cons_zero, List.set_cons_succ]
          refine wpAny_one (i := 2) (by kernel_rfl) rfl rfl (fun K hK => ?_)
          refine wp_call_to 21 _ _ rfl Try.call21 #[.agg (rowF 256 (byt sbN)), .agg (rowF 16 (byt k))] (by kernel_rfl) (refRounds_any k _) ?_
          rintro e x7 ⟨rfl, hb7⟩
          refine ⟨_, rfl, ?_⟩
          have s7 := s6.below hb7
          have z7 := z6.below hb7 z6.lt
          refine hK _ _ ?_
          clear hK K
          simp only [Act.put, List.setIfInBounds_toArray, List.set_cons_zero, List.set_cons_succ]
          refine wpAny_one (i := 4) (by kernel_rfl) rfl rfl (fun K hK => ?_)
          refine wp_store_has 31 (.tmp 6) (.tmp 22) rfl b rfl z7 (rkF k) rfl info31 ?_
          refine hK _ _ ?_
          clear hK K
          simp only [Act.put]
          refine wpAny_done (by kernel_rfl) ?_ _
          simp only [Exit.then]
          exact fin b _ ⟨hbc, s7.store (by omega) (by omega), z7.setRow _⟩
      · skip
        refine wp_alloc_gen 31 rfl 176 (byt fun _ => 0) zeroRow31 ?_
        rintro b y9 hge hy9 z9
        have hbc : c < b := Nat.lt_of_lt_of_le s1.hc.lt hge
        have s9 := s1.below hy9
        refine hK _ _ ?_
        clear hK K
        simp only [Act.put, List.setIfInBounds_toArray, List.set_cons_zero, List.set_cons_succ]
        refine wpAny_one (i := 1) (by kernel_rfl) rfl rfl (fun K hK => ?_)
        refine wp_load_has 28 (.tmp 2) rfl W.heap.size rfl s9.hk 5 und28 info28 ?_
        refine hK _ _ ?_
        clear hK K
        simp only [Act.put, List.setIfInBounds_toArray, List.set_cons_zero, List.set_cons_succ]
        refine wpAny_one (i := 2) (by kernel_rfl) rfl rfl (fun K hK => ?_)
        refine wp_call_to 21 _ _ rfl Try.call21 #[.agg (rowF 256 (byt sbN)), .agg (rowF 16 (byt k))] (by kernel_rfl) (refRounds_any k _) ?_
        rintro e x11 ⟨rfl, hb11⟩
        refine ⟨_, rfl, ?_⟩
        have s11 := s9.below hb11
        have z11 := z9.below hb11 z9.lt
        refine hK _ _ ?_
        clear hK K
        simp only [Act.put, List.setIfInBounds_toArray, List.set_cons_zero, List.set_cons_succ]
        refine wpAny_one (i := 4) (by kernel_rfl) rfl rfl (fun K hK => ?_)
        refine wp_store_has 31 (.tmp 6) (.tmp 22) rfl b rfl z11 (rkF k) rfl info31 ?_
        refine hK _ _ ?_
        clear hK K
        simp only [Act.put]
        refine wpAny_done (by kernel_rfl) ?_ _
        simp only [Exit.then]
        exact fin b _ ⟨hbc, s11.store (by omega) (by omega), z11.setRow _⟩
    · skip
      refine wp_load_has 28 (.tmp 2) rfl W.heap.size rfl hS.drew.hk 5 und28 info28 ?_
      refine hK _ _ ?_
      clear hK K
      simp only [Act.put, List.setIfInBounds_toArray, List.set_cons_zero, List.set_cons_succ]
      refine wpAny_two (i := 0) (j := 3) (by kernel_rfl) rfl rfl rfl rfl (fun K hK => ?_) (fun K hK => ?_)
      · skip
        refine wp_call_to 22 _ _ rfl Try.call22 #[] (by kernel_rfl) (refBoxes_any _) ?_
        rintro e x14 ⟨rfl, hb14⟩
        refine ⟨_, rfl, ?_⟩
        have s14 := hS.drew.below hb14
        refine hK _ _ ?_
        clear hK K
        simp only [Act.put, List.setIfInBounds_toArray, List.set_cons_zero, List.set_cons_succ]
        refine wpAny_two (i := 2) (j := 3) (by kernel_rfl) rfl rfl rfl rfl (fun K hK => ?_) (fun K hK => ?_)
        · skip
          refine wp_call_to 21 _ _ rfl Try.call21 #[.agg (rowF 256 (byt sbN)), .agg (rowF 16 (byt k))] (by kernel_rfl) (refRounds_any k _) ?_
          rintro e x15 ⟨rfl, hb15⟩
          refine ⟨_, rfl, ?_⟩
          have s15 := s14.below hb15
          refine hK _ _ ?_
          clear hK K
          simp only [Act.put, List.setIfInBounds_toArray, List.set_cons_zero, List.set_cons_succ]
          refine wpAny_one (i := 3) (by kernel_rfl) rfl rfl (fun K hK => ?_)
          refine wp_alloc_gen 31 rfl 176 (byt fun _ => 0) zeroRow31 ?_
          rintro b y16 hge hy16 z16
          have hbc : c < b := Nat.lt_of_lt_of_le s15.hc.lt hge
          have s16 := s15.below hy16
          refine hK _ _ ?_
          clear hK K
          simp only [Act.put, List.setIfInBounds_toArray, List.set_cons_zero, List.set_cons_succ]
          refine wpAny_one (i := 4) (by kernel_rfl) rfl rfl (fun K hK => ?_)
          refine wp_store_has 31 (.tmp 6) (.tmp 22) rfl b rfl z16 (rkF k) rfl info31 ?_
          refine hK _ _ ?_
          clear hK K
          simp only [Act.put]
          refine wpAny_done (by kernel_rfl) ?_ _
          simp only [Exit.then]
          exact fin b _ ⟨hbc, s16.store (by omega) (by omega), z16.setRow _⟩
        · skip
          refine wp_alloc_gen 31 rfl 176 (byt fun _ => 0) zeroRow31 ?_
          rintro b y18 hge hy18 z18
          have hbc : c < b := Nat.lt_of_lt_of_le s14.hc.lt hge
          have s18 := s14.below hy18
          refine hK _ _ ?_
          clear hK K
          simp only [Act.put, List.setIfInBounds_toArray, List.set_cons_zero, List.set_cons_succ]
          refine wpAny_one (i := 2) (by kernel_rfl) rfl rfl (fun K hK => ?_)
          refine wp_call_to 21 _ _ rfl Try.call21 #[.agg (rowF 256 (byt sbN)), .agg (rowF 16 (byt k))] (by kernel_rfl) (refRounds_any k _) ?_
          rintro e x19 ⟨rfl, hb19⟩
          refine ⟨_, rfl, ?_⟩
          have s19 := s18.below hb19
          have z19 := z18.below hb19 z18.lt
          refine hK _ _ ?_
          clear hK K
          simp only [Act.put, List.setIfInBounds_toArray, List.set_cons_zero, List.set_cons_succ]
          refine wpAny_one (i := 4) (by kernel_rfl) rfl rfl (fun K hK => ?_)
          refine wp_store_has 31 (.tmp 6) (.tmp 22) rfl b rfl z19 (rkF k) rfl info31 ?_
          refine hK _ _ ?_
          clear hK K
          simp only [Act.put]
          refine wpAny_done (by kernel_rfl) ?_ _
          simp only [Exit.then]
          exact fin b _ ⟨hbc, s19.store (by omega) (by omega), z19.setRow _⟩
      · skip
        refine wp_alloc_gen 31 rfl 176 (byt fun _ => 0) zeroRow31 ?_
        rintro b y21 hge hy21 z21
        have hbc : c < b := Nat.lt_of_lt_of_le hS.drew.hc.lt hge
        have s21 := hS.drew.below hy21
        refine hK _ _ ?_
        clear hK K
        simp only [Act.put, List.setIfInBounds_toArray, List.set_cons_zero, List.set_cons_succ]
        refine wpAny_one (i := 0) (by kernel_rfl) rfl rfl (fun K hK => ?_)
        refine wp_call_to 22 _ _ rfl Try.call22 #[] (by kernel_rfl) (refBoxes_any _) ?_
        rintro e x22 ⟨rfl, hb22⟩
        refine ⟨_, rfl, ?_⟩
        have s22 := s21.below hb22
        have z22 := z21.below hb22 z21.lt
        refine hK _ _ ?_
        clear hK K
        simp only [Act.put, List.setIfInBounds_toArray, List.set_cons_zero, List.set_cons_succ]
        refine wpAny_one (i := 2) (by kernel_rfl) rfl rfl (fun K hK => ?_)
        refine wp_call_to 21 _ _ rfl Try.call21 #[.agg (rowF 256 (byt sbN)), .agg (rowF 16 (byt k))] (by kernel_rfl) (refRounds_any k _) ?_
        rintro e x23 ⟨rfl, hb23⟩
        refine ⟨_, rfl, ?_⟩
        have s23 := s22.below hb23
        have z23 := z22.below hb23 z22.lt
        refine hK _ _ ?_
        clear hK K
        simp only [Act.put, List.setIfInBounds_toArray, List.set_cons_zero, List.set_cons_succ]
        refine wpAny_one (i := 4) (by kernel_rfl) rfl rfl (fun K hK => ?_)
        refine wp_store_has 31 (.tmp 6) (.tmp 22) rfl b rfl z23 (rkF k) rfl info31 ?_
        refine hK _ _ ?_
        clear hK K
        simp only [Act.put]
        refine wpAny_done (by kernel_rfl) ?_ _
        simp only [Exit.then]
        exact fin b _ ⟨hbc, s23.store (by omega) (by omega), z23.setRow _⟩
    · skip
      refine wp_alloc_gen 31 rfl 176 (byt fun _ => 0) zeroRow31 ?_
      rintro b y25 hge hy25 z25
      have hbc : c < b := Nat.lt_of_lt_of_le hS.drew.hc.lt hge
      have s25 := hS.drew.below hy25
      refine hK _ _ ?_
      clear hK K
      simp only [Act.put, List.setIfInBounds_toArray, List.set_cons_zero, List.set_cons_succ]
      refine wpAny_two (i := 0) (j := 1) (by kernel_rfl) rfl rfl rfl rfl (fun K hK => ?_) (fun K hK => ?_)
      · skip
        refine wp_call_to 22 _ _ rfl Try.call22 #[] (by kernel_rfl) (refBoxes_any _) ?_
        rintro e x26 ⟨rfl, hb26⟩
        refine ⟨_, rfl, ?_⟩
        have s26 := s25.below hb26
        have z26 := z25.below hb26 z25.lt
        refine hK _ _ ?_
        clear hK K
        simp only [Act.put, List.setIfInBounds_toArray, List.set_cons_zero, List.set_cons_succ]
        refine wpAny_one (i := 1) (by kernel_rfl) rfl rfl (fun K hK => ?_)
        refine wp_load_has 28 (.tmp 2) rfl W.heap.size rfl s26.hk 5 und28 info28 ?_
        refine hK _ _ ?_
        clear hK K
        simp only [Act.put, List.setIfInBounds_toArray, List.set_cons_zero, List.set_cons_succ]
        refine wpAny_one (i := 2) (by kernel_rfl) rfl rfl (fun K hK => ?_)
        refine wp_call_to 21 _ _ rfl Try.call21 #[.agg (rowF 256 (byt sbN)), .agg (rowF 16 (byt k))] (by kernel_rfl) (refRounds_any k _) ?_
        rintro e x28 ⟨rfl, hb28⟩
        refine ⟨_, rfl, ?_⟩
        have s28 := s26.below hb28
        have z28 := z26.below hb28 z26.lt
        refine hK _ _ ?_
        clear hK K
        simp only [Act.put, List.setIfInBounds_toArray, List.set_cons_zero, List.set_cons_succ]
        refine wpAny_one (i := 4) (by kernel_rfl) rfl rfl (fun K hK => ?_)
        refine wp_store_has 31 (.tmp 6) (.tmp 22) rfl b rfl z28 (rkF k) rfl info31 ?_
        refine hK _ _ ?_
        clear hK K
        simp only [Act.put]
        refine wpAny_done (by kernel_rfl) ?_ _
        simp only [Exit.then]
        exact fin b _ ⟨hbc, s28.store (by omega) (by omega), z28.setRow _⟩
      · skip
        refine wp_load_has 28 (.tmp 2) rfl W.heap.size rfl s25.hk 5 und28 info28 ?_
        refine hK _ _ ?_
        clear hK K
        simp only [Act.put, List.setIfInBounds_toArray, List.set_cons_zero, List.set_cons_succ]
        refine wpAny_one (i := 0) (by kernel_rfl) rfl rfl (fun K hK => ?_)
        refine wp_call_to 22 _ _ rfl Try.call22 #[] (by kernel_rfl) (refBoxes_any _) ?_
        rintro e x31 ⟨rfl, hb31⟩
        refine ⟨_, rfl, ?_⟩
        have s31 := s25.below hb31
        have z31 := z25.below hb31 z25.lt
        refine hK _ _ ?_
        clear hK K
        simp only [Act.put, List.setIfInBounds_toArray, List.set_cons_zero, List.set_cons_succ]
        refine wpAny_one (i := 2) (by kernel_rfl) rfl rfl (fun K hK => ?_)
        refine wp_call_to 21 _ _ rfl Try.call21 #[.agg (rowF 256 (byt sbN)), .agg (rowF 16 (byt k))] (by kernel_rfl) (refRounds_any k _) ?_
        rintro e x32 ⟨rfl, hb32⟩
        refine ⟨_, rfl, ?_⟩
        have s32 := s31.below hb32
        have z32 := z31.below hb32 z31.lt
        refine hK _ _ ?_
        clear hK K
        simp only [Act.put, List.setIfInBounds_toArray, List.set_cons_zero, List.set_cons_succ]
        refine wpAny_one (i := 4) (by kernel_rfl) rfl rfl (fun K hK => ?_)
        refine wp_store_has 31 (.tmp 6) (.tmp 22) rfl b rfl z32 (rkF k) rfl info31 ?_
        refine hK _ _ ?_
        clear hK K
        simp only [Act.put]
        refine wpAny_done (by kernel_rfl) ?_ _
        simp only [Exit.then]
        exact fin b _ ⟨hbc, s32.store (by omega) (by omega), z32.setRow _⟩
  case hb1 =>
    intro b w3 hB
    obtain ⟨hcb, hS3, hL⟩ := hB
    clear hS
    go_wp2_with fail
    go_loopw [7] (fun i wr => ∃ j : Nat, j ≤ 11 ∧ i = .int .i64 j ∧ RdS W wr k c ∧ Has wr b 31 176 (byt (rkF k))) (fun i _ => 11 - (intOf i).toNat)
    case atStart => exact ⟨0, by omega, rfl, hS3, hL⟩
    case round =>
      clear hS3 hL
      obtain ⟨j, hj, rfl, hS, hL⟩ := hrel
      have hlo := hS.lo
      by_cases hlt : j < 11
      · go_wp2_with (first | (go_at_call 23; refine (Round_nat k c j (by omega) _ hS.hc).mono ?_; rintro e w4 ⟨rfl, hb4, hw4⟩; have hS4 := hS.but hb4 hw4; have hL4 := hL.but hb4 (by omega)) | (refine wpList_at rfl (fun K hK => wp_alloc_gen 28 rfl 16 (byt fun _ => 0) zeroRow28 ?_); rintro t w5 hge hb5 hz5; refine hK _ _ ?_; clear hK K; simp only [Act.put, List.setIfInBounds_toArray, List.set_cons_zero, List.set_cons_succ]; have hS5 := hS4.below hb5; have hL5 := hL4.below hb5 hL4.lt; have hct : c < t := Nat.lt_of_lt_of_le hS4.hc.lt hge; have hbt : b < t := Nat.lt_of_lt_of_le hL4.lt hge) | (refine wpList_store_has rfl 28 (.tmp 8) (.tmp 31) rfl _ rfl hz5 _ rfl info28 ?_))
        refine wp_region_quiet (C := fun w' => RdS W w' k c ∧ Has w' b 31 176 (byt (rkF k)) ∧ Has w' t 28 16 (byt (rk k j))) (by kernel_rfl) (by kernel_rfl) ⟨RdS.drew (hS5.store (by omega) (by omega)), Has.drew (hL5.setRowOther _ _ (by omega)), Has.drew (hz5.setRow _)⟩ ?_
        clear hS hL hS4 hL4 hS5 hL5 hz5
        simp only
        refine wpQ_at rfl (fun K hK => ?_)
        refine q_load 28 (.tmp 8) rfl t 0 rfl (fun w hw => hw.2.2) 16 5 (by omega) und28 info28 (.agg (rowF 16 (byt (rk k j)))) (by simp only [Nat.zero_add]) ?_
        refine hK _ ?_
        clear hK K
        simp only [Act.put, List.setIfInBounds_toArray, List.set_cons_zero, List.set_cons_succ]
        refine wpQ_at rfl (fun K hK => ?_)
        refine q_move (.tmp 7) rfl (.int .i64 (j : Int)) rfl ?_
        refine hK _ ?_
        clear hK K
        simp only [Act.put, List.setIfInBounds_toArray, List.set_cons_zero, List.set_cons_succ]
        refine wpQ_at rfl (fun K hK => ?_)
        refine q_index_addr 31 (.tmp 6) (.tmp 34) rfl (.pointer (some ⟨b, j * 16, none⟩)) (fun w => idx31 b j hlt w) ?_
        refine hK _ ?_
        clear hK K
        simp only [Act.put, List.setIfInBounds_toArray, List.set_cons_zero, List.set_cons_succ]
        refine wpQ_at rfl (fun K hK => ?_)
        refine q_load 28 (.tmp 35) rfl b (j * 16) rfl (fun w hw => hw.2.1) 16 5 (by omega) und28 info28 (.agg (rowF 16 (byt (rk k j)))) (rowAt k j) ?_
        refine hK _ ?_
        clear hK K
        simp only [Act.put, List.setIfInBounds_toArray, List.set_cons_zero, List.set_cons_succ]
        refine wpQ_at rfl (fun K hK => ?_)
        refine q_bin .neq 28 (.tmp 33) (.tmp 36) 28 rfl (.agg (rowF 16 (byt (rk k j)))) (.agg (rowF 16 (byt (rk k j)))) (.bool false) rfl rfl (fun w => run_eqGuard_agg w _ _ _ _ _ _ guard28) (fun w => neq_same _ w) ?_
        refine hK _ ?_
        clear hK K
        simp only [Act.put, List.setIfInBounds_toArray, List.set_cons_zero, List.set_cons_succ]
        refine wpQ_at rfl (fun K hK => ?_)
        refine q_move (.tmp 37) rfl (.bool false) rfl ?_
        refine hK _ ?_
        clear hK K
        simp only [Act.put, List.setIfInBounds_toArray, List.set_cons_zero, List.set_cons_succ]
        refine wpQ_at rfl (fun K hK => ?_)
        refine q_move (.tmp 9) rfl (.int .i64 0) rfl ?_
        refine hK _ ?_
        clear hK K
        simp only [Act.put, List.setIfInBounds_toArray, List.set_cons_zero, List.set_cons_succ]
        refine wpQ_at rfl (fun K hK => ?_)
        refine q_bin .neq 35 (.tmp 39) (.const (.int .i64 0)) 35 rfl (.int .i64 0) (.int .i64 0) (.bool false) rfl rfl (fun w => by rfl) (fun w => by rfl) ?_
        refine hK _ ?_
        clear hK K
        simp only [Act.put, List.setIfInBounds_toArray, List.set_cons_zero, List.set_cons_succ]
        refine wpQ_at rfl (fun K hK => ?_)
        refine q_pick (.tmp 38) (.const (.bool true)) (.tmp 40) rfl false rfl (.bool false) rfl ?_
        refine hK _ ?_
        clear hK K
        simp only [Act.put, List.setIfInBounds_toArray, List.set_cons_zero, List.set_cons_succ]
        refine wpQuiet_nil ?_
        intro w6 hC
        obtain ⟨hS6, hL6, _⟩ := hC
        go_wp2_with fail
        go_roundw
        case rel => exact ⟨j + 1, by omega, by go_num, hS6, hL6⟩
        case measure => simp [intOf]; omega
      · obtain rfl : j = 11 := by omega
        by_cases hn : n < 0 ∨ 10 < n
        · by_cases h1 : n < 0
          · have d1 : decide (n < 0) = true := by simpa using h1
            go_wp2_with (first | (go_at_call 23; refine (Round_bad c n hn _).mono ?_; rintro e w4 ⟨rfl, hb4⟩; have hS4 := hS.below hb4) | (refine wpList_at rfl (fun K hK => wp_alloc_gen 28 rfl 16 (byt fun _ => 0) zeroRow28 ?_); rintro t w5 hge hb5 hz5; refine hK _ _ ?_; clear hK K; simp only [Act.put, List.setIfInBounds_toArray, List.set_cons_zero, List.set_cons_succ]; have hS5 := hS4.below hb5; have hct : c < t := Nat.lt_of_lt_of_le hS4.hc.lt hge) | (refine wpList_store_has rfl 28 (.tmp 10) (.tmp 46) rfl _ rfl hz5 _ rfl info28 ?_) | (refine wpList_load_has rfl 28 (.tmp 10) rfl _ rfl (hz5.setRow _) 5 und28 info28 ?_) | (refine wpList_build_at rfl 28 #[] rfl [] (by kernel_rfl) (rowF 16 (byt fun _ => 0)) (by kernel_rfl) ?_; simp only [Act.put, List.setIfInBounds_toArray, List.set_cons_zero, List.set_cons_succ]) | (refine wpList_at rfl (fun K hK => wp_bin_to .eql 28 (.tmp 54) (.tmp 55) 28 rfl (.agg (rowF 16 (byt fun _ => 0))) (.agg (rowF 16 (byt fun _ => 0))) (.bool true) rfl rfl (run_eqGuard_agg _ _ _ _ _ _ _ guard28) (eql_same _ _) ?_); refine hK _ _ ?_; clear hK K; simp only [Act.put, List.setIfInBounds_toArray, List.set_cons_zero, List.set_cons_succ]))
            go_ret
            exact ⟨rfl, (hS5.store (by omega) (by omega)).bel⟩
          · have d1 : decide (n < 0) = false := by simpa using h1
            have d2 : decide (10 < n) = true := by simp; omega
            go_wp2_with (first | (go_at_call 23; refine (Round_bad c n hn _).mono ?_; rintro e w4 ⟨rfl, hb4⟩; have hS4 := hS.below hb4) | (refine wpList_at rfl (fun K hK => wp_alloc_gen 28 rfl 16 (byt fun _ => 0) zeroRow28 ?_); rintro t w5 hge hb5 hz5; refine hK _ _ ?_; clear hK K; simp only [Act.put, List.setIfInBounds_toArray, List.set_cons_zero, List.set_cons_succ]; have hS5 := hS4.below hb5; have hct : c < t := Nat.lt_of_lt_of_le hS4.hc.lt hge) | (refine wpList_store_has rfl 28 (.tmp 10) (.tmp 46) rfl _ rfl hz5 _ rfl info28 ?_) | (refine wpList_load_has rfl 28 (.tmp 10) rfl _ rfl (hz5.setRow _) 5 und28 info28 ?_) | (refine wpList_build_at rfl 28 #[] rfl [] (by kernel_rfl) (rowF 16 (byt fun _ => 0)) (by kernel_rfl) ?_; simp only [Act.put, List.setIfInBounds_toArray, List.set_cons_zero, List.set_cons_succ]) | (refine wpList_at rfl (fun K hK => wp_bin_to .eql 28 (.tmp 54) (.tmp 55) 28 rfl (.agg (rowF 16 (byt fun _ => 0))) (.agg (rowF 16 (byt fun _ => 0))) (.bool true) rfl rfl (run_eqGuard_agg _ _ _ _ _ _ _ guard28) (eql_same _ _) ?_); refine hK _ _ ?_; clear hK K; simp only [Act.put, List.setIfInBounds_toArray, List.set_cons_zero, List.set_cons_succ]))
            go_ret
            exact ⟨rfl, (hS5.store (by omega) (by omega)).bel⟩
        · have d1 : decide (n < 0) = false := by simp; omega
          have d2 : decide (10 < n) = false := by simp; omega
          obtain ⟨m, rfl⟩ := Int.eq_ofNat_of_zero_le (show 0 ≤ n by omega)
          have hm : m ≤ 10 := by omega
          clear hn
          go_wp2_with (first | (go_at_call 23; refine (Round_nat k c m hm _ hS.hc).mono ?_; rintro e w4 ⟨rfl, hb4, hw4⟩; have hS4 := hS.but hb4 hw4; have hL4 := hL.but hb4 (by omega)) | (refine wpList_at rfl (fun K hK => wp_alloc_gen 28 rfl 16 (byt fun _ => 0) zeroRow28 ?_); rintro t w5 hge hb5 hz5; refine hK _ _ ?_; clear hK K; simp only [Act.put, List.setIfInBounds_toArray, List.set_cons_zero, List.set_cons_succ]; have hS5 := hS4.below hb5; have hL5 := hL4.below hb5 hL4.lt; have hct : c < t := Nat.lt_of_lt_of_le hS4.hc.lt hge; have hbt : b < t := Nat.lt_of_lt_of_le hL4.lt hge) | (refine wpList_store_has rfl 28 (.tmp 10) (.tmp 46) rfl _ rfl hz5 _ rfl info28 ?_))
          refine wp_region_quiet (C := fun w' => RdS W w' k c ∧ Has w' b 31 176 (byt (rkF k)) ∧ Has w' t 28 16 (byt (rk k m))) (by kernel_rfl) (by kernel_rfl) ⟨RdS.drew (hS5.store (by omega) (by omega)), Has.drew (hL5.setRowOther _ _ (by omega)), Has.drew (hz5.setRow _)⟩ ?_
          clear hS hL hS4 hL4 hS5 hL5 hz5
          simp only
          refine wpQ_at rfl (fun K hK => ?_)
          refine q_load 28 (.tmp 10) rfl t 0 rfl (fun w hw => hw.2.2) 16 5 (by omega) und28 info28 (.agg (rowF 16 (byt (rk k m)))) (by simp only [Nat.zero_add]) ?_
          refine hK _ ?_
          clear hK K
          simp only [Act.put, List.setIfInBounds_toArray, List.set_cons_zero, List.set_cons_succ]
          refine wpQ_at rfl (fun K hK => ?_)
          refine q_move (.tmp 1) rfl (.int .i64 (m : Int)) rfl ?_
          refine hK _ ?_
          clear hK K
          simp only [Act.put, List.setIfInBounds_toArray, List.set_cons_zero, List.set_cons_succ]
          refine wpQ_at rfl (fun K hK => ?_)
          refine q_index_addr 31 (.tmp 6) (.tmp 62) rfl (.pointer (some ⟨b, m * 16, none⟩)) (fun w => idx31 b m (by omega) w) ?_
          refine hK _ ?_
          clear hK K
          simp only [Act.put, List.setIfInBounds_toArray, List.set_cons_zero, List.set_cons_succ]
          refine wpQ_at rfl (fun K hK => ?_)
          refine q_load 28 (.tmp 63) rfl b (m * 16) rfl (fun w hw => hw.2.1) 16 5 (by omega) und28 info28 (.agg (rowF 16 (byt (rk k m)))) (rowAt k m) ?_
          refine hK _ ?_
          clear hK K
          simp only [Act.put, List.setIfInBounds_toArray, List.set_cons_zero, List.set_cons_succ]
          refine wpQ_at rfl (fun K hK => ?_)
          refine q_bin .eql 28 (.tmp 61) (.tmp 64) 28 rfl (.agg (rowF 16 (byt (rk k m)))) (.agg (rowF 16 (byt (rk k m)))) (.bool true) rfl rfl (fun w => run_eqGuard_agg w _ _ _ _ _ _ guard28) (fun w => eql_same _ w) ?_
          refine hK _ ?_
          clear hK K
          simp only [Act.put, List.setIfInBounds_toArray, List.set_cons_zero, List.set_cons_succ]
          refine wpQ_at rfl (fun K hK => ?_)
          refine q_move (.tmp 65) rfl (.bool true) rfl ?_
          refine hK _ ?_
          clear hK K
          simp only [Act.put, List.setIfInBounds_toArray, List.set_cons_zero, List.set_cons_succ]
          refine wpQ_at rfl (fun K hK => ?_)
          refine q_move (.tmp 11) rfl (.int .i64 0) rfl ?_
          refine hK _ ?_
          clear hK K
          simp only [Act.put, List.setIfInBounds_toArray, List.set_cons_zero, List.set_cons_succ]
          refine wpQ_at rfl (fun K hK => ?_)
          refine q_bin .eql 35 (.tmp 67) (.const (.int .i64 0)) 35 rfl (.int .i64 0) (.int .i64 0) (.bool true) rfl rfl (fun w => by rfl) (fun w => by rfl) ?_
          refine hK _ ?_
          clear hK K
          simp only [Act.put, List.setIfInBounds_toArray, List.set_cons_zero, List.set_cons_succ]
          refine wpQ_at rfl (fun K hK => ?_)
          refine q_pick (.tmp 66) (.tmp 68) (.const (.bool false)) rfl true rfl (.bool true) rfl ?_
          refine hK _ ?_
          clear hK K
          simp only [Act.put, List.setIfInBounds_toArray, List.set_cons_zero, List.set_cons_succ]
          refine wpQ_at rfl (fun K hK => ?_)
          refine q_assign (.tmp 69) rfl (.bool true) rfl ?_
          refine hK _ ?_
          clear hK K
          simp only [Act.put, List.setIfInBounds_toArray, List.set_cons_zero, List.set_cons_succ]
          refine wpQuiet_nil ?_
          intro w6 hC
          obtain ⟨hS6, _, _⟩ := hC
          go_wp2_with fail
          go_ret
          exact ⟨rfl, hS6.bel⟩

end Go.Proofs.Ytjmeiloklhbllaa
