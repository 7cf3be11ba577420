/- sync.Once over the cipher: the lock, the two deferred calls, doSlow and Do, each a contract. One goroutine. -/
import Derived.Test.YtjmeiloklhbllaaBegin
import Derived.Laws.LoneSync
import Derived.RegionCalls
import Derived.Defers
namespace Go.Proofs.Ytjmeiloklhbllaa
open Go.RowKit

theorem disable (w : World) : (callFunc 61 #[]).run Try.prog w = .ok (.value (.tuple #[])) w := run_call_mark0 Try.func61 (by kernel_rfl) (by kernel_rfl) (by kernel_rfl) .disable (by kernel_rfl) w
theorem enable (w : World) : (callFunc 63 #[]).run Try.prog w = .ok (.value (.tuple #[])) w := run_call_mark0 Try.func63 (by kernel_rfl) (by kernel_rfl) (by kernel_rfl) .enable (by kernel_rfl) w
theorem acquire (a : Addr) (w : World) : (callFunc 64 #[.pointer (some a)]).run Try.prog w = .ok (.value (.tuple #[])) w := run_call_marked Try.func64 (by kernel_rfl) (by kernel_rfl) (by kernel_rfl) .acquire (by kernel_rfl) a w
theorem releaseMerge (a : Addr) (w : World) : (callFunc 66 #[.pointer (some a)]).run Try.prog w = .ok (.value (.tuple #[])) w := run_call_marked Try.func66 (by kernel_rfl) (by kernel_rfl) (by kernel_rfl) .releaseMerge (by kernel_rfl) a w

/-- '(*sync/atomic.Bool).Store(true)', entered as a deferred call: the cell holds 1. -/
theorem store_deferred (a : Addr) (x : Value) (u : FrameMode) (w : World) (hc : w.cell? a = some x) (hz : w.frozen? a = false) :
    CallsD Try.prog 54 #[.pointer (some a), .bool true] u w fun e u' w' => u' = u ∧ (e = .returned (.tuple #[]) ∧ w' = w.drew.setCell a (.int .u32 1)) := by
  have hc' : w.drew.cell? a = some x := by go_simp
  have hz' : w.drew.frozen? a = false := by go_simp
  have hst := run_call_store (P := Try.prog) Try.func58 (by kernel_rfl) (by kernel_rfl) (by kernel_rfl) (by kernel_rfl) (k := .u32) (y := 1) hc' hz'
  go_enter_d Try.func54, Try.ntmps54
  go_wp2
  go_region_calls
  all_goals (go_end0; exact ⟨rfl, rfl⟩)

set_option maxRecDepth 100000 in
set_option maxHeartbeats 1600000 in
/-- '(*sync.Mutex).Unlock', entered as a deferred call, the lock held and nobody waiting: the lock is free. -/
theorem unlock_deferred (a : Addr) (u : FrameMode) (w : World) (hc : w.cell? a = some (.int .i32 1)) (hz : w.frozen? a = false) :
    CallsD Try.prog 53 #[.pointer (some a)] u w fun e u' w' => u' = u ∧ (e = .returned (.tuple #[]) ∧ w' = w.setCell a (.int .i32 0)) := by
  have hd := disable
  have he := enable
  have hr := releaseMerge
  have hadd := run_call_add (P := Try.prog) Try.func67 (by kernel_rfl) (by kernel_rfl) (by kernel_rfl) .i32 (by kernel_rfl) (y := -1) (s := 0) hc hz (by simp [go_sem]; rfl)
  have hcv := run_convert_to_unsafe (P := Try.prog) (src := 104) (dst := 102) Try.underlying104 Try.underlying102 (by kernel_rfl) hc
  go_enter_d Try.func53, Try.ntmps53
  go_wp2
  go_end0
  go_wp2
  go_end0
  exact ⟨rfl, rfl⟩

set_option maxRecDepth 100000 in
set_option maxHeartbeats 1600000 in
/-- '(*sync.Mutex).Lock', the lock free: the lock is held. -/
theorem lock_free (a : Addr) (w : World) (hc : w.cell? a = some (.int .i32 0)) (hz : w.frozen? a = false) :
    Calls Try.prog 52 #[.pointer (some a)] w fun e w' => e = .returned (.tuple #[]) ∧ w' = w.setCell a (.int .i32 1) := by
  have hd := disable
  have he := enable
  have ha := acquire
  have hcas := run_call_cas_hit (P := Try.prog) Try.func62 (by kernel_rfl) (by kernel_rfl) (by kernel_rfl) .i32 (by kernel_rfl) (y := 1) hc hz
  have hc' : (w.setCell a (.int .i32 1)).cell? a = some (.int .i32 1) := World.cell?_setCell_same w a _ hc
  have hcv := run_convert_to_unsafe (P := Try.prog) (src := 104) (dst := 102) Try.underlying104 Try.underlying102 (by kernel_rfl) hc'
  go_enter Try.func52, Try.ntmps52
  go_wp2
  first | go_end0 | (simp only [Exit.inBlock, Exit.then]; refine bodyPost_ret (results_none rfl _ _ _) rfl ?_) | refine bodyPost_ret (results_none rfl _ _ _) rfl ?_
  go_wp2
  go_end0
  exact ⟨rfl, rfl⟩

/-- What the cipher's cells say of the work: not begun, and its lock free. -/
structure FreshG (key : Nat → UInt8) (g : Nat → Value) : Prop where
  key : ∀ j, j < 16 → g j = byt key j
  done : g 16 = .int .u32 0
  lock : g 17 = .int .i32 0
/-- .. at work. -/
structure WorkG (key : Nat → UInt8) (g : Nat → Value) : Prop where
  done : g 16 = .int .u32 1
  keys : ∀ p, p < 176 → g (19 + p) = byt (rkF key) p
  back : ∀ y, y < 256 → g (195 + y) = byt isbN y
/-- Block c holds the cipher of that key. -/
def Ciph (key : Nat → UInt8) (c : Nat) (w : World) : Prop := ∃ g, Has w c 71 451 g ∧ (FreshG key g ∨ WorkG key g)
def Work (key : Nat → UInt8) (c : Nat) (w : World) : Prop := ∃ g, Has w c 71 451 g ∧ WorkG key g

theorem work_begun (key : Nat → UInt8) (g : Nat → Value) : WorkG key (upd (upd (begun key g) 16 (.int .u32 1)) 17 (.int .i32 0)) :=
  ⟨rfl, fun p hp => by rw [upd_other _ _ _ _ (by omega), upd_other _ _ _ _ (by omega)]; unfold begun; rw [if_neg (by omega), if_pos (by omega), show 19 + p - 19 = p by omega],
    fun y hy => by rw [upd_other _ _ _ _ (by omega), upd_other _ _ _ _ (by omega)]; unfold begun; rw [if_neg (by omega), if_neg (by omega), show 195 + y - 195 = y by omega]⟩

set_option maxRecDepth 100000 in
set_option maxHeartbeats 1600000 in
theorem slow_any (key : Nat → UInt8) (g : Nat → Value) (c : Nat) (w : World) (hg : Has w c 71 451 g) (hf : FreshG key g) :
    Calls Try.prog 47 #[.pointer (some ⟨c, 16, none⟩), .func (.func 43) #[.pointer (some ⟨c, 0, none⟩)] #[]] w fun e w' => e = .returned (.tuple #[]) ∧ ButOne c w w' ∧ Work key c w' := by
  have h0 : w.cell? ⟨c, 16, none⟩ = some (.int .u32 0) := by rw [hg.cell (by omega), hf.done]
  have h1 : w.cell? ⟨c, 17, none⟩ = some (.int .i32 0) := by rw [hg.cell (by omega), hf.lock]
  have f0 := hg.frozen 16
  have f1 := hg.frozen 17
  have hl := run_call_load (P := Try.prog) Try.func51 (by kernel_rfl) (by kernel_rfl) (by kernel_rfl) .u32 (by kernel_rfl) (w := w.setCell ⟨c, 17, none⟩ (.int .i32 1)) (a := ⟨c, 16, none⟩) (x := 0) ((World.cell?_setCell_other _ ⟨c, 17, none⟩ ⟨c, 16, none⟩ _ (by simp)).trans h0)
  have hnot : ∀ (x : Bool) (w : World), (Op.unary .not (.bool x)).run Try.prog w = .ok (.bool (!x)) w := fun _ _ => rfl
  have hI : BegI w (w.setCell ⟨c, 17, none⟩ (.int .i32 1)) c (upd g 17 (.int .i32 1)) := ⟨(ButOne.refl c w).set _ _, hg.set _ _⟩
  have hk : ∀ j, j < 16 → upd g 17 (.int .i32 1) j = byt key j := fun j hj => by rw [upd_other _ _ _ _ (by omega)]; exact hf.key j hj
  have HK := Lib.hid hk; clear hk
  go_enter_defers Try.func47, Try.ntmps47
  go_wp2_with (go_at_call 52; refine (lock_free ⟨c, 17, none⟩ _ (by go_simp) (by go_simp)).mono ?_; rintro e w' ⟨rfl, rfl⟩)
  go_wp2_with (go_at_call 46; go_in)
  refine (begin_any key _ c _ hI.has HK.out).mono ?_
  rintro e w2 ⟨rfl, hb, hh⟩
  have hbut := hI.but.trans hb
  clear hl hb hI h0 h1 f0 f1
  go_wp2
  refine leaves_cons (f := 54) (args := #[.pointer (some ⟨c, 16, none⟩), .bool true]) (by simp) (by simp [go_sem]) ?_
  refine (store_deferred ⟨c, 16, none⟩ _ .returning _ (hh.cell (by omega)) (hh.frozen 16)).mono ?_
  rintro e u' w'' ⟨rfl, rfl, rfl⟩
  have hh2 := hh.drew.set 16 (.int .u32 1)
  have hlk : (w2.drew.setCell ⟨c, 16, none⟩ (.int .u32 1)).cell? ⟨c, 17, none⟩ = some (.int .i32 1) := by rw [hh2.cell (by omega)]; rfl
  refine leaves_cons (f := 53) (args := #[.pointer (some ⟨c, 17, none⟩)]) (by simp [settle]) (by simp [go_sem]) ?_
  refine (unlock_deferred ⟨c, 17, none⟩ _ _ hlk (hh2.frozen 17)).mono ?_
  rintro e u' w'' ⟨rfl, rfl, rfl⟩
  have hfin : ButOne c w ((w2.drew.setCell ⟨c, 16, none⟩ (.int .u32 1)).setCell ⟨c, 17, none⟩ (.int .i32 0)) ∧ Work key c ((w2.drew.setCell ⟨c, 16, none⟩ (.int .u32 1)).setCell ⟨c, 17, none⟩ (.int .i32 0)) :=
    ⟨(hbut.drew.set _ _).set _ _, _, hh2.set 17 _, work_begun key _⟩
  simp [Leaves, settle, results, Try.results47]
  exact hfin

/-- '(*sync.Once).Do', whether or not it was done. -/
theorem do_done (g : Nat → Value) (c : Nat) (fv : Value) (w : World) (hg : Has w c 71 451 g) (h16 : g 16 = .int .u32 1) :
    Calls Try.prog 42 #[.pointer (some ⟨c, 16, none⟩), fv] w fun e w' => e = .returned (.tuple #[]) ∧ w' = w := by
  have h0 : w.cell? ⟨c, 16, none⟩ = some (.int .u32 1) := by rw [hg.cell (by omega), h16]
  have hl := run_call_load (P := Try.prog) Try.func51 (by kernel_rfl) (by kernel_rfl) (by kernel_rfl) .u32 (by kernel_rfl) h0
  have hnot : ∀ (x : Bool) (w : World), (Op.unary .not (.bool x)).run Try.prog w = .ok (.bool (!x)) w := fun _ _ => rfl
  go_enter Try.func42, Try.ntmps42
  go_wp2
  go_end0
  exact ⟨rfl, rfl⟩
set_option maxRecDepth 100000 in
set_option maxHeartbeats 1600000 in
theorem do_first (key : Nat → UInt8) (g : Nat → Value) (c : Nat) (w : World) (hg : Has w c 71 451 g) (hf : FreshG key g) :
    Calls Try.prog 42 #[.pointer (some ⟨c, 16, none⟩), .func (.func 43) #[.pointer (some ⟨c, 0, none⟩)] #[]] w fun e w' => e = .returned (.tuple #[]) ∧ ButOne c w w' ∧ Work key c w' := by
  have h0 : w.cell? ⟨c, 16, none⟩ = some (.int .u32 0) := by rw [hg.cell (by omega), hf.done]
  have hl := run_call_load (P := Try.prog) Try.func51 (by kernel_rfl) (by kernel_rfl) (by kernel_rfl) .u32 (by kernel_rfl) h0
  have hnot : ∀ (x : Bool) (w : World), (Op.unary .not (.bool x)).run Try.prog w = .ok (.bool (!x)) w := fun _ _ => rfl
  have hs := slow_any key g c w hg hf
  have HS := Lib.hid hs; clear hs
  go_enter Try.func42, Try.ntmps42
  go_wp2_with (first | (go_at_call 47; refine HS.out.mono ?_; rintro e w' ⟨rfl, hb, hw⟩) | (go_at_call 46; go_in))
  go_end0
  exact ⟨rfl, hb, hw⟩
theorem do_any (key : Nat → UInt8) (c : Nat) (w : World) (h : Ciph key c w) :
    Calls Try.prog 42 #[.pointer (some ⟨c, 16, none⟩), .func (.func 43) #[.pointer (some ⟨c, 0, none⟩)] #[]] w fun e w' => e = .returned (.tuple #[]) ∧ ButOne c w w' ∧ Work key c w' := by
  obtain ⟨g, hg, hf | hw⟩ := h
  · exact do_first key g c w hg hf
  · exact (do_done g c _ w hg hw.done).mono fun e w' ⟨he, hw'⟩ => by subst hw'; exact ⟨he, ButOne.refl _ _, g, hg, hw⟩

end Go.Proofs.Ytjmeiloklhbllaa
