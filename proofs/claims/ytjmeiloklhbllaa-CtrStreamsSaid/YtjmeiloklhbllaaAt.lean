/- The walk of ctr.At: the text, xor the stream from a place on; nothing where it would go beyond 4096 bytes. -/
import Derived.Test.YtjmeiloklhbllaaLoopLaw
namespace Go.Proofs.Ytjmeiloklhbllaa
open Go.RowKit
attribute [local go_sem] Oper.semAt_some

/-- A text's bytes, hidden where the first m bytes of the stream reach. -/
def hidTo (key : Nat → UInt8) (n at' : Nat) (l : List UInt8) (m : Nat) : Nat → UInt8 := fun j => if at' + j < m then ofL l j ^^^ sAt key n (at' + j) else ofL l j
/-- A text, hidden from a place of the stream on. -/
def atL (key : Nat → UInt8) (n at' : Nat) (l : List UInt8) : List UInt8 := (List.range l.length).map fun j => ofL l j ^^^ sAt key n (at' + j)
theorem hidTo_zero (key : Nat → UInt8) (n at' : Nat) (l : List UInt8) (m : Nat) (h : m ≤ at') : hidTo key n at' l m = ofL l := by
  funext j; unfold hidTo; rw [if_neg (by omega)]
theorem hidTo_succ (key : Nat → UInt8) (n at' j : Nat) (l : List UInt8) : upd (hidTo key n at' l (at' + j)) j (hidTo key n at' l (at' + j) j ^^^ sAt key n (at' + j)) = hidTo key n at' l (at' + j + 1) := by
  funext i
  unfold upd hidTo
  by_cases h : i = j
  · subst h; rw [if_pos rfl, if_neg (by omega), if_pos (by omega)]
  · rw [if_neg h]
    by_cases h2 : at' + i < at' + j
    · rw [if_pos h2, if_pos (by omega)]
    · rw [if_neg h2, if_neg (by omega)]

/-- What holds when k bytes of the stream have come: b's variable, i's variable, the bytes. -/
structure AtI (key : Nat → UInt8) (n at' : Nat) (l : List UInt8) (w0 : World) (bB iB g cap k : Nat) (w : World) : Prop where
  hk : k ≤ at' + l.length
  hb : Has w bB 52 1 fun _ => .slice (some ⟨g, 0, none⟩) l.length cap
  hi : Has w iB 3 1 fun _ => .int .i64 ((k : Int) - (at' : Int))
  hg : HasT w g cap (byt (hidTo key n at' l k))
  below : Below w0.heap.size w0 w
  lt1 : w0.heap.size ≤ g
  lt2 : g < bB
  lt3 : bB < iB
namespace AtI
variable {key : Nat → UInt8} {n at' : Nat} {l : List UInt8} {w0 : World} {bB iB g cap k : Nat} {w w' : World}
theorem apart (h : AtI key n at' l w0 bB iB g cap k w) {c B : Nat} (ha : Apart c B w w') (hB : iB < B) (hc : iB < c) : AtI key n at' l w0 bB iB g cap k w' := by
  have h1 := h.lt1
  have h2 := h.lt2
  have h3 := h.lt3
  have h4 := h.below.size
  exact ⟨h.hk, h.hb.of_block (ha.block _ (by omega) h.hb.lt (by omega)), h.hi.of_block (ha.block _ (by omega) h.hi.lt (by omega)), h.hg.of_block (ha.block _ (by omega) h.hg.lt (by omega)),
    h.below.trans ⟨ha.os, ha.tape, ha.output, ha.size, fun k hk => ha.block k (by omega) (by omega) (by omega)⟩, h.lt1, h.lt2, h.lt3⟩
theorem skip (h : AtI key n at' l w0 bB iB g cap k w) (hk : k < at') (x : Int) (hx : x = (k : Int) - (at' : Int) + 1) : AtI key n at' l w0 bB iB g cap (k + 1) (w.setCell ⟨iB, 0, none⟩ (.int .i64 x)) := by
  have h1 := h.lt1
  have h2 := h.lt2
  have h3 := h.lt3
  refine ⟨by omega, h.hb.setOther _ _ (by simp; omega), ?_, ?_, Below.setCell h.below (p := ⟨iB, 0, none⟩) (by simp; omega) _, h1, h2, h3⟩
  · refine (h.hi.set 0 (.int .i64 x)).congr fun i hi => ?_
    obtain rfl : i = 0 := by omega
    rw [upd_same, hx]; congr 1; omega
  · have := h.hg
    rw [hidTo_zero _ _ _ _ _ (by omega)] at this ⊢
    exact this.setOther _ _ (by simp; omega)
theorem next {j : Nat} (h : AtI key n at' l w0 bB iB g cap (at' + j) w) (hj : j < l.length) (_hc : l.length ≤ cap) :
    AtI key n at' l w0 bB iB g cap (at' + j + 1) ((w.setCell ⟨g, j, none⟩ (.int .u8 ((hidTo key n at' l (at' + j) j ^^^ sAt key n (at' + j)).toNat : Int))).setCell ⟨iB, 0, none⟩ (.int .i64 ((j : Int) + 1))) := by
  have h1 := h.lt1
  have h2 := h.lt2
  have h3 := h.lt3
  refine ⟨by omega, (h.hb.setOther _ _ (by simp; omega)).setOther _ _ (by simp; omega), ?_, ?_, Below.setCell (Below.setCell h.below (p := ⟨g, j, none⟩) (by simp; omega) _) (p := ⟨iB, 0, none⟩) (by simp; omega) _, h1, h2, h3⟩
  · refine ((h.hi.setOther ⟨g, j, none⟩ _ (by simp; omega)).set 0 (.int .i64 ((j : Int) + 1))).congr fun i hi => ?_
    obtain rfl : i = 0 := by omega
    rw [upd_same]; congr 1; omega
  · have := (h.hg.set j (.int .u8 ((hidTo key n at' l (at' + j) j ^^^ sAt key n (at' + j)).toNat : Int))).setOther ⟨iB, 0, none⟩ (.int .i64 ((j : Int) + 1)) (by simp; omega)
    rw [upd_byt, hidTo_succ] at this
    exact this
end AtI
theorem KeepB.refl (c p q B : Nat) (w : World) : KeepB c p q B w w := ⟨Nat.le_refl _, fun _ _ _ => rfl⟩
theorem KeepB.trans {c p q B : Nat} {a b d : World} (h : KeepB c p q B a b) (k : KeepB c p q B b d) : KeepB c p q B a d :=
  ⟨Nat.le_trans h.size k.size, fun i hi hl => (k.block i hi (Nat.lt_of_lt_of_le hl h.size)).trans (h.block i hi hl)⟩
theorem keepB_set {c p q B : Nat} {w : World} (b i : Nat) (v : Value) (h1 : b ≠ c) (h2 : b ≠ p) (h3 : b ≠ q) (h4 : b < B) : KeepB c p q B w (w.setCell ⟨b, i, none⟩ v) :=
  ⟨by simp [World.setCell], fun k hk _ => heap_setCell_other w ⟨b, i, none⟩ k v (by show k ≠ b; omega)⟩
theorem HasT.text {w : World} {g cap m : Nat} {f : Nat → UInt8} (h : HasT w g cap (byt f)) (hm : m ≤ cap) : (convert 52 9 (.slice (some ⟨g, 0, none⟩) m cap)).run Try.prog w = .ok (.string ⟨((List.range m).map f).toArray⟩) w := by
  have := run_convert_bytes_back (P := Try.prog) w 52 9 5 ⟨g, 0, none⟩ cap ((List.range m).map f) Try.underlying52 Try.underlying5 Try.underlying9 fun j hj => by
    have hj' : j < m := by simpa using hj
    have e : (⟨g, 0, none⟩ : Addr).add j = ⟨g, j, none⟩ := by unfold Addr.add; split <;> simp_all
    rw [e, h.cell (by omega)]
    simp [byt]
  simpa only [List.length_map, List.length_range] using this
theorem hidTo_all (key : Nat → UInt8) (n at' : Nat) (l : List UInt8) : (List.range l.length).map (hidTo key n at' l (at' + l.length)) = atL key n at' l :=
  List.map_congr_left fun j hj => by
    have := List.mem_range.1 hj
    unfold hidTo; rw [if_pos (by omega)]

set_option maxRecDepth 100000 in
set_option maxHeartbeats 1000000 in
theorem at_good (key : Nat → UInt8) (n at' : Nat) (hn : n < 18446744073709551616) (l : List UInt8) (hl : at' + l.length ≤ 4096) (w : World) :
    Calls Try.prog 29 #[.agg (rowF 16 (byt key)), .int .u64 (n : Int), .int .i64 (at' : Int), .string ⟨l.toArray⟩] w fun e w' => e = .returned (.string ⟨(atL key n at' l).toArray⟩) ∧ Below w.heap.size w w' := by
  have hK0 := Has.new w 28 16 (byt key)
  have d1 : decide ((at' : Int) < 0) = false := by simp
  have d2 : decide (4096 < (at' : Int)) = false := by simp; omega
  have d3 : decide (4096 - (at' : Int) < (l.length : Int)) = false := by simp; omega
  refine (callsIn_wide (n := 2)).1 (callsIn_of_wp_marks Try.func29 rfl trivial ?_)
  rw [wpIn_wide]
  simp only [Try.ntmps29, List.size_toArray, List.length_cons, List.length_nil, Nat.reduceAdd, Nat.reduceSub, Array.replicate_succ, Array.replicate_zero, List.push_toArray, List.append_toArray, List.nil_append, List.cons_append]
  go_wp2_with (first | (refine wpList_at rfl (fun K hK => wp_bytes_gen (.tmp 25) rfl l _ rfl rfl ?_); rintro g cap w2 hg hcap hb2 hG; refine hK _ _ ?_; clear hK K; simp only [Act.put, List.setIfInBounds_toArray, List.set_cons_zero, List.set_cons_succ]; have hK2 := hK0.below hb2 hK0.lt) | (refine wpList_load_has rfl 28 (.tmp 4) rfl _ rfl ((hK2.alloc _).alloc _) 5 und28 info28 ?_) | (go_at_call 39; refine (stream_any key n hn _).mono ?_; rintro e w3 ⟨c, p, q, rfl, hb3, hc3, hS3⟩))
  have hg' : w.heap.size + 1 ≤ g := by simpa using hg
  have h23 : w.heap.size + 1 ≤ w2.heap.size := by simpa using hb2.size
  have hc3' : w2.heap.size + 1 < c := by simp at hc3; omega
  have hgl := hG.lt
  have hq3 := hS3.hq.lt
  have hl1 := hS3.lt1
  have hl2 := hS3.lt2
  have hAt : AtI key n at' l w w2.heap.size (w2.heap.size + 1) g cap 0 w3 := by
    refine ⟨by omega, ?_, ?_, ?_, ?_, by omega, by omega, by omega⟩
    · have := (Has.new w2 52 1 fun _ => .slice (some ⟨g, 0, none⟩) l.length cap).alloc (.cells #[.int .i64 (-(at' : Int))] 3)
      exact this.below hb3 this.lt
    · have := Has.new (w2.alloc (.cells #[.slice (some ⟨g, 0, none⟩) l.length cap] 52)) 3 1 fun _ => .int .i64 (((0 : Nat) : Int) - (at' : Int))
      rw [show (((0 : Nat) : Int) - (at' : Int)) = -(at' : Int) by omega] at this
      rw [show (((0 : Nat) : Int) - (at' : Int)) = -(at' : Int) by omega]
      have e := this.below hb3 this.lt
      simpa using e
    · rw [hidTo_zero _ _ _ _ _ (by omega)]
      have := (hG.alloc (.cells #[.slice (some ⟨g, 0, none⟩) l.length cap] 52)).alloc (.cells #[.int .i64 (-(at' : Int))] 3)
      exact this.below hb3 this.lt
    · exact ((((((Below.refl _ w).alloc (Nat.le_refl _) _).trans (hb2.mono (by simp))).alloc (by omega) _).alloc (by simp; omega) _).trans (hb3.mono (by simp; omega)))
  refine wp_rangeStream (N := at' + l.length) (by omega) rfl (enters_of Try.func45 (by kernel_rfl) rfl) rfl hS3 (fun k W => AtI key n at' l w w2.heap.size (w2.heap.size + 1) g cap k W)
    (fun id W => id = 0 ∧ AtI key n at' l w w2.heap.size (w2.heap.size + 1) g cap (at' + l.length) W) ?hI ?hIx (fun k W h => h.hk) hAt ?a1 ?assign ?body ?stop
  case assign =>
    intro lp k W K hK
    gi_wp2
    exact hK
  case body =>
    intro lp k W hA
    have hI := hA
    obtain ⟨hk, hb, hi, hg2, hB, lt1, lt2, lt3⟩ := hA
    have hcb := hb.cell (i := 0) (by omega)
    have hfi := hi.frozen 0
    rcases Nat.lt_or_ge k at' with hlt | hge
    · have hci := hi.cell (i := 0) (by omega)
      have hx1 : (k : Int) - (at' : Int) < 0 := by omega
      have hx2 : -9000000 ≤ (k : Int) - (at' : Int) := by omega
      clear hi hb hg2 hB
      generalize hx : (k : Int) - (at' : Int) = x at hci hx1 hx2
      have HX := Lib.hid hx
      clear hx
      have t1 : (x == (l.length : Int)) = false := by simp; omega
      have t2 : decide (0 ≤ x) = false := by simp; omega
      gi_wp2
      exact ⟨keepB_set _ _ _ (by omega) (by omega) (by omega) (by omega), hI.skip hlt _ (by rw [← HX.out])⟩
    · obtain ⟨j, rfl⟩ : ∃ j, k = at' + j := ⟨k - at', by omega⟩
      have hci : W.cell? ⟨w2.heap.size + 1, 0, none⟩ = some (.int .i64 (j : Int)) := by rw [hi.cell (i := 0) (by omega)]; congr 2; omega
      rcases Nat.lt_or_ge j l.length with hjl | hjl
      · have t1 : ((j : Int) == (l.length : Int)) = false := by simp; omega
        have t1' : (j == l.length) = false := by simp; omega
        have hcg := hg2.cell (i := j) (by omega)
        have hfg := hg2.frozen (i := j) (by omega)
        have hxb := u8_xor_B (hidTo key n at' l (at' + j) j) (sAt key n (at' + j))
        unfold byt at hcg
        clear hi hb hg2 hB
        gi_wp2
        rw [← UInt8.toNat_xor]
        exact ⟨(keepB_set _ _ _ (by omega) (by omega) (by omega) (by omega)).trans (keepB_set _ _ _ (by omega) (by omega) (by omega) (by omega)), hI.next hjl hcap⟩
      · obtain rfl : j = l.length := by omega
        clear hi hb hg2 hB
        gi_wp2
        exact ⟨KeepB.refl _ _ _ _ _, rfl, hI⟩
  case hI => exact fun k W W' h ha => h.apart ha (by omega) (by omega)
  case hIx => exact fun k W W' h ha => ⟨h.1, h.2.apart ha (by omega) (by omega)⟩
  case stop =>
    rintro D id W hD ⟨rfl, h⟩ hK
    have hcb := h.hb.cell (i := 0) (by omega)
    have hcv := h.hg.text hcap
    rw [hidTo_all] at hcv
    have hB := h.below
    clear h
    go_wp2
    refine ⟨by simp, .inl ⟨_, _, rfl, run_takeDeferred hK, ?_⟩⟩
    exact ⟨_, results_tmp rfl _ _ _, rfl, hB.trans (belowK_b (w := w) (Nat.le_refl _) W D _ _ (by omega) hK rfl rfl)⟩

end Go.Proofs.Ytjmeiloklhbllaa
