/- A part of the proof: walks of the code and plain laws, printed and by hand; no condition. -/
import Derived.Test.YtghommaokdhjmaaSXM2
namespace Go.Proofs.Ytghommaokdhjmaa.P
open Go.RowKit Go.Proofs.YtghommaokdhjmaaW.PrintWords Go.Proofs.YtghommaokdhjmaaW.PrintLast Go.Proofs.Ytghommaokdhjmaa.Gate
set_option linter.unusedVariables false
set_option linter.unusedSimpArgs false

/-! ### constableref01_Get: function 18 -/
def constableref01_Get.l0 : Nat → List (S39) → ByteArray → Int → Option (Int × Int × ByteArray × Bool)
 | 0, _, _, _ => none
 | k + 1, x0, x1, x6 => if x6 < (x0.length : Int) then (if 0 ≤ x6 then (if ((rd_T39 x0 x6).f0).toList = x1.toList then (some ((rd_T39 x0 x6).f1.f0, (rd_T39 x0 x6).f1.f1, (rd_T39 x0 x6).f1.f2, true)) else (constableref01_Get.l0 k x0 x1 (wrap64 (x6 + 1)))) else (none)) else (some (0, 0, (⟨#[]⟩ : ByteArray), false))
def constableref01_Get.f (k : Nat) (l0 : List (S39)) (a1 : ByteArray) : Option (Int × Int × ByteArray × Bool) := constableref01_Get.l0 k l0 a1 0
theorem constableref01_Get.mono_l : ∀ k, (∀ y0 y1 y2, LeO (constableref01_Get.l0 k y0 y1 y2) (constableref01_Get.l0 (k + 1) y0 y1 y2))
 | 0 => fun _ _ _ r h => by simp [constableref01_Get.l0] at h
 | k + 1 => by
  have ih0 := constableref01_Get.mono_l k
  ·intro y0 y1 y2
   unfold constableref01_Get.l0
   repeat' first
   | (with_reducible exact ih0 _ _ _)
   | (with_reducible exact LeO.refl _)
   | (with_reducible exact LeO.none _)
   | (with_reducible refine LeO.ite ?_ ?_)
   | (with_reducible refine LeO.bind ?_ (fun _ => ?_))
theorem constableref01_Get.mono : ∀ a0 a1 k, LeO (constableref01_Get.f k a0 a1) (constableref01_Get.f (k + 1) a0 a1) := by
 intro a0 a1 k
 have ih0 := constableref01_Get.mono_l k
 unfold constableref01_Get.f
 repeat' first
   | (with_reducible exact ih0 _ _ _)
   | (with_reducible exact LeO.refl _)
   | (with_reducible exact LeO.none _)
   | (with_reducible refine LeO.ite ?_ ?_)
   | (with_reducible refine LeO.bind ?_ (fun _ => ?_))
set_option maxHeartbeats 8000000 in
set_option maxRecDepth 100000 in
theorem constableref01_Get.calls (k : Nat) (A0 : Option Addr) (c0 : Nat) (l0 : List (S39)) (a1 : ByteArray) (r1 : Int) (r2 : Int) (r3 : ByteArray) (r4 : Bool) (w : World) (hr0 : Kd.C k39 w A0 l0.length l0) (hc0 : l0.length ≤ c0) (h : constableref01_Get.f k l0 a1 = some (r1, r2, r3, r4)) :
  Calls Try.prog 18 #[.slice A0 l0.length c0, .string a1] w fun e w' => e = .returned (.tuple #[.agg #[.int .i64 r1, .int .i64 r2, .string r3], .bool r4]) ∧ Below w.heap.size w w' := by
 have hu24 := Try.underlying24
 have HR0 := Aside0.mk hr0
 have HC0 := Aside0.mk hc0
 clear hr0 hc0
 have HB := Aside0.mk (Below.refl w.heap.size w)
 have H : (constableref01_Get.l0 k l0 a1 0) = some (r1, r2, r3, r4) := h
 clear h
 have H' := Aside0.mk H
 clear H
 go_enter Try.func18, Try.ntmps18
 go_wp2_with (first | ((with_reducible refine gate_dst (N := 4) rfl ?_); refine bE (N := 4) (cs := #[.int .i64 0, .int .i64 0, .string (⟨#[]⟩ : ByteArray)]) (t := 24) ?_; intro gb109 hg w3 hbox hb; have n0_ := Aside0.mk (below_step bB0 hb); have n1_ := Aside0.mk (hbox); have n2_ := Aside0.mk ((by rw [hg]; exact (below_size bB0) : w.heap.size ≤ gb109)); have n3_ := Aside0.mk ((by rw [hg]; exact (below_size bB0) : w.heap.size ≤ gb109)); clear HB; have HB := n0_; have BK109 := n1_; have GW109 := n2_; have GE109 := n3_; clear n0_ n1_ n2_ n3_; clear hb hbox hg))
 go_loopg [6] k (fun kq v6 w' => ∃ (x6_1 : Int) (x110000_1 : Int) (x110001_1 : Int) (x110002_1 : ByteArray), v6 = .int .i64 x6_1 ∧ Aside0 (constableref01_Get.l0 kq l0 a1 x6_1 = some (r1, r2, r3, r4)) ∧ Aside0 (kq ≤ k) ∧ Aside0 (w'.heap[gb109]? = some (.cells #[.int .i64 x110000_1, .int .i64 x110001_1, .string x110002_1] 24 (0, 0))) ∧ Aside0 (Below w.heap.size w w'))
 case atStart => exact ⟨(0), (0), (0), ((⟨#[]⟩ : ByteArray)), (by first | rfl | (simp; done) | (simp [*]; done)), H', ⟨Nat.le_refl _⟩, ⟨by refine bk ?_; exact BK109.out⟩, ⟨(bB1 GE109.out)⟩⟩
 case round =>
  clear H'
  (try clear c1); (try clear p2)
  obtain ⟨x6_1, x110000_1, x110001_1, x110002_1, rfl, HA, HK1, BK109, HB⟩ := hrel
  cases gk with
  | zero => exact absurd HA.out (by simp [constableref01_Get.l0])
  | succ k1 =>
   have H := HA.out
   clear HA
   simp only [constableref01_Get.l0] at H
   by_cases c4 : x6_1 < (l0.length : Int)
   ·rw [if_pos c4] at H
    have c4b0 : decide (x6_1 < (l0.length : Int)) = true := decide_eq_true c4
    clear c4
    by_cases c5 : 0 ≤ x6_1
    ·rw [if_pos c5] at H
     have c5b0 : decide (0 ≤ x6_1) = true := decide_eq_true c5
     clear c5
     by_cases c6 : ((rd_T39 l0 x6_1).f0).toList = a1.toList
     ·rw [if_pos c6] at H
      have c6b0 : (((rd_T39 l0 x6_1).f0).toList == a1.toList) = true := beq_iff_eq.mpr c6
      have c6b1 : (((rd_T39 l0 x6_1).f0).toList != a1.toList) = false := bne_eq_false_iff_eq.mpr c6
      clear c6
      simp only [Option.some.injEq, Prod.mk.injEq] at H
      obtain ⟨rfl, rfl, rfl, rfl⟩ := H
      have p110 : 0 ≤ (x6_1 : Int) := of_decide_eq_true (by first | (with_reducible assumption) | assumption)
      have q110 : x6_1 < (l0.length : Int) := of_decide_eq_true (by first | (with_reducible assumption) | assumption)
      obtain ⟨ad110, e110, hx110_0, hx110_1, hx110_2, hx110_3⟩ := at_T39 HR0.out x6_1 p110 q110
      cases e110
      replace hx110_0 := (HB.out.cell (World.block_lt_of_cell? w _ hx110_0)).trans hx110_0
      replace hx110_1 := (HB.out.cell (World.block_lt_of_cell? w _ hx110_1)).trans hx110_1
      replace hx110_2 := (HB.out.cell (World.block_lt_of_cell? w _ hx110_2)).trans hx110_2
      replace hx110_3 := (HB.out.cell (World.block_lt_of_cell? w _ hx110_3)).trans hx110_3
      replace p110 := eq_true p110
      replace q110 := eq_true q110
      have p111 : 0 ≤ (x6_1 : Int) := of_decide_eq_true (by first | (with_reducible assumption) | assumption)
      have q111 : x6_1 < (l0.length : Int) := of_decide_eq_true (by first | (with_reducible assumption) | assumption)
      obtain ⟨ad111, e111, hx111_0, hx111_1, hx111_2, hx111_3⟩ := at_T39 HR0.out x6_1 p111 q111
      obtain rfl : ad110 = ad111 := (by injection e111)
      replace hx111_0 := (HB.out.cell (World.block_lt_of_cell? w _ hx111_0)).trans hx111_0
      replace hx111_1 := (HB.out.cell (World.block_lt_of_cell? w _ hx111_1)).trans hx111_1
      replace hx111_2 := (HB.out.cell (World.block_lt_of_cell? w _ hx111_2)).trans hx111_2
      replace hx111_3 := (HB.out.cell (World.block_lt_of_cell? w _ hx111_3)).trans hx111_3
      replace p111 := eq_true p111
      replace q111 := eq_true q111
      have hcz7_0 : wr.cell? ⟨gb109, 0, none⟩ = some (.int .i64 x110000_1) := (blk_cell BK109.out 0).trans rfl
      have hcz7_1 : wr.cell? ⟨gb109, 1, none⟩ = some (.int .i64 x110001_1) := (blk_cell BK109.out 1).trans rfl
      have hcz7_2 : wr.cell? ⟨gb109, 2, none⟩ = some (.string x110002_1) := (blk_cell BK109.out 2).trans rfl
      have hfz7_0 := blk_frozen BK109.out 0
      have hfz7_1 := blk_frozen BK109.out 1
      have hfz7_2 := blk_frozen BK109.out 2
      go_wp2
      refine bodyPost_ret (results_ct rfl _ _ gb109 24 #[.int .i64 ((rd_T39 l0 x6_1).f1.f0), .int .i64 ((rd_T39 l0 x6_1).f1.f1), .string ((rd_T39 l0 x6_1).f1.f2)] (0, 0) _ rfl (by refine bk ?_; refine blk_put (cs := #[.int .i64 ((rd_T39 l0 x6_1).f1.f0), .int .i64 ((rd_T39 l0 x6_1).f1.f1), .string x110002_1]) ?_ 2 _ rfl; refine bk ?_; refine blk_put (cs := #[.int .i64 ((rd_T39 l0 x6_1).f1.f0), .int .i64 x110001_1, .string x110002_1]) ?_ 1 _ rfl; refine bk ?_; refine blk_put (cs := #[.int .i64 x110000_1, .int .i64 x110001_1, .string x110002_1]) ?_ 0 _ rfl; refine bk ?_; exact BK109.out) Try.underlying24 rfl (by kernel_rfl)) rfl ?_
      exact ⟨eW, (bB1 GE109.out)⟩
     ·rw [if_neg c6] at H
      have c6b0 : (((rd_T39 l0 x6_1).f0).toList == a1.toList) = false := beq_eq_false_iff_ne.mpr c6
      have c6b1 : (((rd_T39 l0 x6_1).f0).toList != a1.toList) = true := bne_iff_ne.mpr c6
      have H' := Aside0.mk H
      clear H
      have p110 : 0 ≤ (x6_1 : Int) := of_decide_eq_true (by first | (with_reducible assumption) | assumption)
      have q110 : x6_1 < (l0.length : Int) := of_decide_eq_true (by first | (with_reducible assumption) | assumption)
      obtain ⟨ad110, e110, hx110_0, hx110_1, hx110_2, hx110_3⟩ := at_T39 HR0.out x6_1 p110 q110
      cases e110
      replace hx110_0 := (HB.out.cell (World.block_lt_of_cell? w _ hx110_0)).trans hx110_0
      replace hx110_1 := (HB.out.cell (World.block_lt_of_cell? w _ hx110_1)).trans hx110_1
      replace hx110_2 := (HB.out.cell (World.block_lt_of_cell? w _ hx110_2)).trans hx110_2
      replace hx110_3 := (HB.out.cell (World.block_lt_of_cell? w _ hx110_3)).trans hx110_3
      replace p110 := eq_true p110
      replace q110 := eq_true q110
      go_wp2
      go_roundg k1
      case measure => have := HK1.out; omega
      case rel => exact ⟨(wrap64 (x6_1 + 1)), (x110000_1), (x110001_1), (x110002_1), (by first | rfl | (simp; done) | (simp [*]; done)), H', ⟨by have := HK1.out; omega⟩, ⟨by refine bk ?_; exact BK109.out⟩, ⟨(bB1 GE109.out)⟩⟩
    ·rw [if_neg c5] at H
     exact absurd H (by simp)
   ·rw [if_neg c4] at H
    have c4b0 : decide (x6_1 < (l0.length : Int)) = false := decide_eq_false c4
    clear c4
    simp only [Option.some.injEq, Prod.mk.injEq] at H
    obtain ⟨rfl, rfl, rfl, rfl⟩ := H
    have hcz8_0 : wr.cell? ⟨gb109, 0, none⟩ = some (.int .i64 x110000_1) := (blk_cell BK109.out 0).trans rfl
    have hcz8_1 : wr.cell? ⟨gb109, 1, none⟩ = some (.int .i64 x110001_1) := (blk_cell BK109.out 1).trans rfl
    have hcz8_2 : wr.cell? ⟨gb109, 2, none⟩ = some (.string x110002_1) := (blk_cell BK109.out 2).trans rfl
    have hfz8_0 := blk_frozen BK109.out 0
    have hfz8_1 := blk_frozen BK109.out 1
    have hfz8_2 := blk_frozen BK109.out 2
    go_wp2
    refine bodyPost_ret (results_ct rfl _ _ gb109 24 #[.int .i64 0, .int .i64 0, .string (⟨#[]⟩ : ByteArray)] (0, 0) _ rfl (by refine bk ?_; refine blk_put (cs := #[.int .i64 0, .int .i64 0, .string x110002_1]) ?_ 2 _ rfl; refine bk ?_; refine blk_put (cs := #[.int .i64 0, .int .i64 x110001_1, .string x110002_1]) ?_ 1 _ rfl; refine bk ?_; refine blk_put (cs := #[.int .i64 x110000_1, .int .i64 x110001_1, .string x110002_1]) ?_ 0 _ rfl; refine bk ?_; exact BK109.out) Try.underlying24 rfl (by kernel_rfl)) rfl ?_
    exact ⟨eW, (bB1 GE109.out)⟩

end Go.Proofs.Ytghommaokdhjmaa.P
namespace Go.Proofs.Ytghommaokdhjmaa.P
open Go.RowKit Go.Proofs.YtghommaokdhjmaaW.PrintWords Go.Proofs.YtghommaokdhjmaaW.PrintLast Go.Proofs.Ytghommaokdhjmaa.Gate
set_option linter.unusedVariables false
set_option linter.unusedSimpArgs false

/-! ### constableref01_In: function 63 -/
def constableref01_In.f (a0 : Int) (a1 : Int) (a2 : Int) : Option (Bool) := if a0 ≥ a1 then (some (decide (a0 ≤ a2))) else (some false)
set_option maxHeartbeats 8000000 in
set_option maxRecDepth 100000 in
theorem constableref01_In.calls (a0 : Int) (a1 : Int) (a2 : Int) (r : Bool) (w : World) (h : constableref01_In.f a0 a1 a2 = some r) :
  Calls Try.prog 63 #[.int .i64 a0, .int .i64 a1, .int .i64 a2] w fun e w' => e = .returned (.bool r) ∧ Drawn0 w w' := by
 have H : (if a0 ≥ a1 then (some (decide (a0 ≤ a2))) else (some false)) = some r := h
 clear h
 by_cases c4 : a0 ≥ a1
 ·rw [if_pos c4] at H
  have c4b0 : decide (a1 ≤ a0) = true := decide_eq_true c4
  clear c4
  obtain rfl := Option.some.inj H
  go_enter Try.func63, Try.ntmps63
  go_wp2
  go_ret
  exact ⟨by first | rfl | (simp; done) | (simp [*]; done), by repeat (first | exact Drawn0.refl _ | apply Drawn0.step)⟩
 ·rw [if_neg c4] at H
  have c4b0 : decide (a1 ≤ a0) = false := decide_eq_false c4
  clear c4
  obtain rfl := Option.some.inj H
  go_enter Try.func63, Try.ntmps63
  go_wp2
  go_ret
  exact ⟨by first | rfl | (simp; done) | (simp [*]; done), by repeat (first | exact Drawn0.refl _ | apply Drawn0.step)⟩

end Go.Proofs.Ytghommaokdhjmaa.P
namespace Go.Proofs.Ytghommaokdhjmaa.P
open Go.RowKit Go.Proofs.YtghommaokdhjmaaW.PrintWords Go.Proofs.YtghommaokdhjmaaW.PrintLast Go.Proofs.Ytghommaokdhjmaa.Gate
set_option linter.unusedVariables false
set_option linter.unusedSimpArgs false

/-! ### constableref01_Upper: function 64 -/
def constableref01_Upper.f (a0 : Int) : Option (Bool) := if a0 ≥ 65 then (some (decide (a0 ≤ 90))) else (some false)
set_option maxHeartbeats 8000000 in
set_option maxRecDepth 100000 in
theorem constableref01_Upper.calls (a0 : Int) (r : Bool) (w : World) (h : constableref01_Upper.f a0 = some r) :
  Calls Try.prog 64 #[.int .u8 a0] w fun e w' => e = .returned (.bool r) ∧ Drawn0 w w' := by
 have H : (if a0 ≥ 65 then (some (decide (a0 ≤ 90))) else (some false)) = some r := h
 clear h
 by_cases c2 : a0 ≥ 65
 ·rw [if_pos c2] at H
  have c2b0 : decide (65 ≤ a0) = true := decide_eq_true c2
  clear c2
  obtain rfl := Option.some.inj H
  go_enter Try.func64, Try.ntmps64
  go_wp2
  go_ret
  exact ⟨by first | rfl | (simp; done) | (simp [*]; done), by repeat (first | exact Drawn0.refl _ | apply Drawn0.step)⟩
 ·rw [if_neg c2] at H
  have c2b0 : decide (65 ≤ a0) = false := decide_eq_false c2
  clear c2
  obtain rfl := Option.some.inj H
  go_enter Try.func64, Try.ntmps64
  go_wp2
  go_ret
  exact ⟨by first | rfl | (simp; done) | (simp [*]; done), by repeat (first | exact Drawn0.refl _ | apply Drawn0.step)⟩

end Go.Proofs.Ytghommaokdhjmaa.P
namespace Go.Proofs.Ytghommaokdhjmaa.P
open Go.RowKit Go.Proofs.YtghommaokdhjmaaW.PrintWords Go.Proofs.YtghommaokdhjmaaW.PrintLast Go.Proofs.Ytghommaokdhjmaa.Gate
set_option linter.unusedVariables false
set_option linter.unusedSimpArgs false

/-! ### constableref01_Lower: function 65 -/
def constableref01_Lower.f (a0 : Int) : Option (Bool) := if a0 ≥ 97 then (some (decide (a0 ≤ 122))) else (some false)
set_option maxHeartbeats 8000000 in
set_option maxRecDepth 100000 in
theorem constableref01_Lower.calls (a0 : Int) (r : Bool) (w : World) (h : constableref01_Lower.f a0 = some r) :
  Calls Try.prog 65 #[.int .u8 a0] w fun e w' => e = .returned (.bool r) ∧ Drawn0 w w' := by
 have H : (if a0 ≥ 97 then (some (decide (a0 ≤ 122))) else (some false)) = some r := h
 clear h
 by_cases c2 : a0 ≥ 97
 ·rw [if_pos c2] at H
  have c2b0 : decide (97 ≤ a0) = true := decide_eq_true c2
  clear c2
  obtain rfl := Option.some.inj H
  go_enter Try.func65, Try.ntmps65
  go_wp2
  go_ret
  exact ⟨by first | rfl | (simp; done) | (simp [*]; done), by repeat (first | exact Drawn0.refl _ | apply Drawn0.step)⟩
 ·rw [if_neg c2] at H
  have c2b0 : decide (97 ≤ a0) = false := decide_eq_false c2
  clear c2
  obtain rfl := Option.some.inj H
  go_enter Try.func65, Try.ntmps65
  go_wp2
  go_ret
  exact ⟨by first | rfl | (simp; done) | (simp [*]; done), by repeat (first | exact Drawn0.refl _ | apply Drawn0.step)⟩

end Go.Proofs.Ytghommaokdhjmaa.P
namespace Go.Proofs.Ytghommaokdhjmaa.P
open Go.RowKit Go.Proofs.YtghommaokdhjmaaW.PrintWords Go.Proofs.YtghommaokdhjmaaW.PrintLast Go.Proofs.Ytghommaokdhjmaa.Gate
set_option linter.unusedVariables false
set_option linter.unusedSimpArgs false

/-! ### constableref01_Digit: function 91 -/
def constableref01_Digit.f (a0 : Int) : Option (Bool) := if a0 ≥ 48 then (some (decide (a0 ≤ 57))) else (some false)
set_option maxHeartbeats 8000000 in
set_option maxRecDepth 100000 in
theorem constableref01_Digit.calls (a0 : Int) (r : Bool) (w : World) (h : constableref01_Digit.f a0 = some r) :
  Calls Try.prog 91 #[.int .u8 a0] w fun e w' => e = .returned (.bool r) ∧ Drawn0 w w' := by
 have H : (if a0 ≥ 48 then (some (decide (a0 ≤ 57))) else (some false)) = some r := h
 clear h
 by_cases c2 : a0 ≥ 48
 ·rw [if_pos c2] at H
  have c2b0 : decide (48 ≤ a0) = true := decide_eq_true c2
  clear c2
  obtain rfl := Option.some.inj H
  go_enter Try.func91, Try.ntmps91
  go_wp2
  go_ret
  exact ⟨by first | rfl | (simp; done) | (simp [*]; done), by repeat (first | exact Drawn0.refl _ | apply Drawn0.step)⟩
 ·rw [if_neg c2] at H
  have c2b0 : decide (48 ≤ a0) = false := decide_eq_false c2
  clear c2
  obtain rfl := Option.some.inj H
  go_enter Try.func91, Try.ntmps91
  go_wp2
  go_ret
  exact ⟨by first | rfl | (simp; done) | (simp [*]; done), by repeat (first | exact Drawn0.refl _ | apply Drawn0.step)⟩

end Go.Proofs.Ytghommaokdhjmaa.P
namespace Go.Proofs.Ytghommaokdhjmaa.P
open Go.RowKit Go.Proofs.YtghommaokdhjmaaW.PrintWords Go.Proofs.YtghommaokdhjmaaW.PrintLast Go.Proofs.Ytghommaokdhjmaa.Gate
set_option linter.unusedVariables false
set_option linter.unusedSimpArgs false

/-! ### constableref01_inner: function 66 -/
def constableref01_inner.f (a0 : Int) : Option (Bool) := (constableref01_Lower.f a0).bind fun t151 => (if t151 = true then (some true) else ((constableref01_Upper.f a0).bind fun t152 => (if t152 = true then (some true) else ((constableref01_Digit.f a0).bind fun t153 => (if t153 = true then (some true) else (some (a0 == 95)))))))
set_option maxHeartbeats 8000000 in
set_option maxRecDepth 100000 in
theorem constableref01_inner.calls (a0 : Int) (r : Bool) (w : World) (h : constableref01_inner.f a0 = some r) :
  Calls Try.prog 66 #[.int .u8 a0] w fun e w' => e = .returned (.bool r) ∧ Drawn0 w w' := by
 have H : ((constableref01_Lower.f a0).bind fun t151 => (if t151 = true then (some true) else ((constableref01_Upper.f a0).bind fun t152 => (if t152 = true then (some true) else ((constableref01_Digit.f a0).bind fun t153 => (if t153 = true then (some true) else (some (a0 == 95)))))))) = some r := h
 clear h
 replace H := Option.bind_eq_some_iff.mp H
 obtain ⟨t151, A20, H⟩ := H
 replace H : (if t151 = true then (some true) else ((constableref01_Upper.f a0).bind fun t152 => (if t152 = true then (some true) else ((constableref01_Digit.f a0).bind fun t153 => (if t153 = true then (some true) else (some (a0 == 95))))))) = some r := H
 have A2 := Aside0.mk A20
 clear A20
 by_cases c3 : t151 = true
 ·subst c3
  have H1 : (some true) = some r := by rw [if_pos rfl] at H; exact H
  clear H
  have H := H1
  clear H1
  obtain rfl := Option.some.inj H
  go_enter Try.func66, Try.ntmps66
  go_wp2_with (first | ((with_reducible refine gate_callee (f := 65) rfl ?_); refine goesL_ (some 4) rfl rfl Try.func65 (by kernel_rfl) rfl #[.int .u8 a0] rfl aG ?_; (with_reducible refine (constableref01_Lower.calls a0 true _ A2.out).mono ?_); rintro e w' ⟨rfl, ⟨nd, rfl⟩⟩; refine ⟨_, rfl, ?_⟩))
  go_ret
  exact ⟨by first | rfl | (simp; done) | (simp [*]; done), by repeat (first | exact Drawn0.refl _ | apply Drawn0.step)⟩
 ·replace c3 := Bool.eq_false_iff.mpr c3
  subst c3
  have H1 : ((constableref01_Upper.f a0).bind fun t152 => (if t152 = true then (some true) else ((constableref01_Digit.f a0).bind fun t153 => (if t153 = true then (some true) else (some (a0 == 95)))))) = some r := by rw [if_neg (show ¬ (false = true) by decide)] at H; exact H
  clear H
  have H := H1
  clear H1
  replace H := Option.bind_eq_some_iff.mp H
  obtain ⟨t152, A40, H⟩ := H
  replace H : (if t152 = true then (some true) else ((constableref01_Digit.f a0).bind fun t153 => (if t153 = true then (some true) else (some (a0 == 95))))) = some r := H
  have A4 := Aside0.mk A40
  clear A40
  by_cases c5 : t152 = true
  ·subst c5
   have H1 : (some true) = some r := by rw [if_pos rfl] at H; exact H
   clear H
   have H := H1
   clear H1
   obtain rfl := Option.some.inj H
   go_enter Try.func66, Try.ntmps66
   go_wp2_with (first | ((with_reducible refine gate_callee (f := 65) rfl ?_); refine goesL_ (some 4) rfl rfl Try.func65 (by kernel_rfl) rfl #[.int .u8 a0] rfl aG ?_; (with_reducible refine (constableref01_Lower.calls a0 false _ A2.out).mono ?_); rintro e w' ⟨rfl, ⟨nd, rfl⟩⟩; refine ⟨_, rfl, ?_⟩) | (go_at_call 64; (with_reducible refine (constableref01_Upper.calls a0 true _ A4.out).mono ?_); rintro e w' ⟨rfl, ⟨nd, rfl⟩⟩))
   go_ret
   exact ⟨by first | rfl | (simp; done) | (simp [*]; done), by repeat (first | exact Drawn0.refl _ | apply Drawn0.step)⟩
  ·replace c5 := Bool.eq_false_iff.mpr c5
   subst c5
   have H1 : ((constableref01_Digit.f a0).bind fun t153 => (if t153 = true then (some true) else (some (a0 == 95)))) = some r := by rw [if_neg (show ¬ (false = true) by decide)] at H; exact H
   clear H
   have H := H1
   clear H1
   replace H := Option.bind_eq_some_iff.mp H
   obtain ⟨t153, A60, H⟩ := H
   replace H : (if t153 = true then (some true) else (some (a0 == 95))) = some r := H
   have A6 := Aside0.mk A60
   clear A60
   by_cases c7 : t153 = true
   ·subst c7
    have H1 : (some true) = some r := by rw [if_pos rfl] at H; exact H
    clear H
    have H := H1
    clear H1
    obtain rfl := Option.some.inj H
    go_enter Try.func66, Try.ntmps66
    go_wp2_with (first | ((with_reducible refine gate_callee (f := 65) rfl ?_); refine goesL_ (some 4) rfl rfl Try.func65 (by kernel_rfl) rfl #[.int .u8 a0] rfl aG ?_; (with_reducible refine (constableref01_Lower.calls a0 false _ A2.out).mono ?_); rintro e w' ⟨rfl, ⟨nd, rfl⟩⟩; refine ⟨_, rfl, ?_⟩) | (go_at_call 64; (with_reducible refine (constableref01_Upper.calls a0 false _ A4.out).mono ?_); rintro e w' ⟨rfl, ⟨nd, rfl⟩⟩) | (go_at_call 91; (with_reducible refine (constableref01_Digit.calls a0 true _ A6.out).mono ?_); rintro e w' ⟨rfl, ⟨nd, rfl⟩⟩))
    go_ret
    exact ⟨by first | rfl | (simp; done) | (simp [*]; done), by repeat (first | exact Drawn0.refl _ | apply Drawn0.step)⟩
   ·replace c7 := Bool.eq_false_iff.mpr c7
    subst c7
    have H1 : (some (a0 == 95)) = some r := by rw [if_neg (show ¬ (false = true) by decide)] at H; exact H
    clear H
    have H := H1
    clear H1
    obtain rfl := Option.some.inj H
    go_enter Try.func66, Try.ntmps66
    go_wp2_with (first | ((with_reducible refine gate_callee (f := 65) rfl ?_); refine goesL_ (some 4) rfl rfl Try.func65 (by kernel_rfl) rfl #[.int .u8 a0] rfl aG ?_; (with_reducible refine (constableref01_Lower.calls a0 false _ A2.out).mono ?_); rintro e w' ⟨rfl, ⟨nd, rfl⟩⟩; refine ⟨_, rfl, ?_⟩) | (go_at_call 64; (with_reducible refine (constableref01_Upper.calls a0 false _ A4.out).mono ?_); rintro e w' ⟨rfl, ⟨nd, rfl⟩⟩) | (go_at_call 91; (with_reducible refine (constableref01_Digit.calls a0 false _ A6.out).mono ?_); rintro e w' ⟨rfl, ⟨nd, rfl⟩⟩))
    go_ret
    exact ⟨by first | rfl | (simp; done) | (simp [*]; done), by repeat (first | exact Drawn0.refl _ | apply Drawn0.step)⟩

end Go.Proofs.Ytghommaokdhjmaa.P
namespace Go.Proofs.Ytghommaokdhjmaa.P
open Go.RowKit Go.Proofs.YtghommaokdhjmaaW.PrintWords Go.Proofs.YtghommaokdhjmaaW.PrintLast Go.Proofs.Ytghommaokdhjmaa.Gate
set_option linter.unusedVariables false
set_option linter.unusedSimpArgs false

/-! ### constableref01_Word: function 22 -/
mutual
def constableref01_Word.j0 : Nat → ByteArray → Bool → Option (Bool)
 | 0, _, _ => none
 | k + 1, x0, x26 => if x26 = true then (some false) else (constableref01_Word.l0 k x0 0)
def constableref01_Word.l0 : Nat → ByteArray → Int → Option (Bool)
 | 0, _, _ => none
 | k + 1, x0, x5 => if x5 < (x0.size : Int) then (if 0 ≤ x5 then ((constableref01_inner.f (bt x0 x5)).bind fun t157 => (if t157 = true then (constableref01_Word.l0 k x0 (wrap64 (x5 + 1))) else (some false))) else (none)) else (some true)
end
def constableref01_Word.f (k : Nat) (a0 : ByteArray) (a1 : Bool) : Option (Bool) := (constableref01_In.f (a0.size : Int) 1 24).bind fun t154 => (if t154 = true then (if 0 < (a0.size : Int) then ((constableref01_Upper.f (bt a0 0)).bind fun t155 => (if (a1 != t155) = true then (constableref01_Word.j0 k a0 true) else (if a1 = true then (constableref01_Word.j0 k a0 false) else ((constableref01_Lower.f (bt a0 0)).bind fun t156 => (constableref01_Word.j0 k a0 (!t156)))))) else (none)) else (constableref01_Word.j0 k a0 true))
theorem constableref01_Word.mono_l : ∀ k, (∀ y0 y1, LeO (constableref01_Word.j0 k y0 y1) (constableref01_Word.j0 (k + 1) y0 y1)) ∧ (∀ y0 y1, LeO (constableref01_Word.l0 k y0 y1) (constableref01_Word.l0 (k + 1) y0 y1))
 | 0 => ⟨fun _ _ r h => by simp [constableref01_Word.j0] at h, fun _ _ r h => by simp [constableref01_Word.l0] at h⟩
 | k + 1 => by
  obtain ⟨ih0, ih1⟩ := constableref01_Word.mono_l k
  refine ⟨?_, ?_⟩
  ·intro y0 y1
   unfold constableref01_Word.j0
   repeat' first
   | (with_reducible exact ih0 _ _)
   | (with_reducible exact ih1 _ _)
   | (with_reducible exact LeO.refl _)
   | (with_reducible exact LeO.none _)
   | (with_reducible refine LeO.ite ?_ ?_)
   | (with_reducible refine LeO.bind ?_ (fun _ => ?_))
  ·intro y0 y1
   unfold constableref01_Word.l0
   repeat' first
   | (with_reducible exact ih0 _ _)
   | (with_reducible exact ih1 _ _)
   | (with_reducible exact LeO.refl _)
   | (with_reducible exact LeO.none _)
   | (with_reducible refine LeO.ite ?_ ?_)
   | (with_reducible refine LeO.bind ?_ (fun _ => ?_))
theorem constableref01_Word.mono : ∀ a0 a1 k, LeO (constableref01_Word.f k a0 a1) (constableref01_Word.f (k + 1) a0 a1) := by
 intro a0 a1 k
 obtain ⟨ih0, ih1⟩ := constableref01_Word.mono_l k
 unfold constableref01_Word.f
 repeat' first
   | (with_reducible exact ih0 _ _)
   | (with_reducible exact ih1 _ _)
   | (with_reducible exact LeO.refl _)
   | (with_reducible exact LeO.none _)
   | (with_reducible refine LeO.ite ?_ ?_)
   | (with_reducible refine LeO.bind ?_ (fun _ => ?_))
set_option maxHeartbeats 8000000 in
set_option maxRecDepth 100000 in
theorem constableref01_Word.calls (k : Nat) (a0 : ByteArray) (a1 : Bool) (r : Bool) (w : World) (h : constableref01_Word.f k a0 a1 = some r) :
  Calls Try.prog 22 #[.string a0, .bool a1] w fun e w' => e = .returned (.bool r) ∧ Drawn0 w w' := by
 have H : ((constableref01_In.f (a0.size : Int) 1 24).bind fun t154 => (if t154 = true then (if 0 < (a0.size : Int) then ((constableref01_Upper.f (bt a0 0)).bind fun t155 => (if (a1 != t155) = true then (constableref01_Word.j0 k a0 true) else (if a1 = true then (constableref01_Word.j0 k a0 false) else ((constableref01_Lower.f (bt a0 0)).bind fun t156 => (constableref01_Word.j0 k a0 (!t156)))))) else (none)) else (constableref01_Word.j0 k a0 true))) = some r := h
 clear h
 have HC3 := Aside0.mk H
 clear H
 go_enter Try.func22, Try.ntmps22
 go_upto_region 1 with (fail)
 go_cut [26] (fun v26 wc => ∃ (kq : Nat) (x26_2 : Bool), v26 = .bool x26_2 ∧ Aside0 (constableref01_Word.j0 kq a0 x26_2 = some r) ∧ Aside0 (kq ≤ k) ∧ Drawn0 w wc)
 case first =>
  have H := HC3.out
  clear HC3
  replace H := Option.bind_eq_some_iff.mp H
  obtain ⟨t154, A40, H⟩ := H
  replace H : (if t154 = true then (if 0 < (a0.size : Int) then ((constableref01_Upper.f (bt a0 0)).bind fun t155 => (if (a1 != t155) = true then (constableref01_Word.j0 k a0 true) else (if a1 = true then (constableref01_Word.j0 k a0 false) else ((constableref01_Lower.f (bt a0 0)).bind fun t156 => (constableref01_Word.j0 k a0 (!t156)))))) else (none)) else (constableref01_Word.j0 k a0 true)) = some r := H
  have A4 := Aside0.mk A40
  clear A40
  by_cases c5 : t154 = true
  ·subst c5
   have H1 : (if 0 < (a0.size : Int) then ((constableref01_Upper.f (bt a0 0)).bind fun t155 => (if (a1 != t155) = true then (constableref01_Word.j0 k a0 true) else (if a1 = true then (constableref01_Word.j0 k a0 false) else ((constableref01_Lower.f (bt a0 0)).bind fun t156 => (constableref01_Word.j0 k a0 (!t156)))))) else (none)) = some r := by rw [if_pos rfl] at H; exact H
   clear H
   have H := H1
   clear H1
   by_cases c6 : 0 < (a0.size : Int)
   ·rw [if_pos c6] at H
    have c6b0 : decide (0 < (a0.size : Int)) = true := decide_eq_true c6
    have c6b1 : decide (0 < a0.size) = true := decide_eq_true (by omega)
    clear c6
    (first | rw [c6b0] | (simp only [i64_w, i32_w]; rw [c6b0]) | skip)
    replace H := Option.bind_eq_some_iff.mp H
    obtain ⟨t155, A80, H⟩ := H
    replace H : (if (a1 != t155) = true then (constableref01_Word.j0 k a0 true) else (if a1 = true then (constableref01_Word.j0 k a0 false) else ((constableref01_Lower.f (bt a0 0)).bind fun t156 => (constableref01_Word.j0 k a0 (!t156))))) = some r := H
    have A8 := Aside0.mk A80
    clear A80
    by_cases c9 : (a1 != t155) = true
    ·rw [if_pos c9] at H
     have c9b0 : (a1 != t155) = true := c9
     (try (have c9b1 : decide (a1 = t155) = false := by simpa using c9))
     (try (have c9b2 : (a1 == t155) = false := by simpa using c9))
     (try (have c9b3 : ¬ (a1 = t155) := by simpa using c9))
     clear c9
     have H' := Aside0.mk H
     clear H
     go_wp2_with (first | ((with_reducible refine gate_callee (f := 63) rfl ?_); refine goesL_ (some 8) rfl rfl Try.func63 (by kernel_rfl) rfl #[.int .i64 (a0.size : Int), .int .i64 1, .int .i64 24] rfl aG ?_; (with_reducible refine (constableref01_In.calls (a0.size : Int) 1 24 true _ A4.out).mono ?_); rintro e w' ⟨rfl, ⟨nd, rfl⟩⟩; refine ⟨_, rfl, ?_⟩; have p7 : 0 ≤ (0 : Int) := (by omega); have q7 : 0 < a0.size := (by have : (0 : Int) < (a0.size : Int) := of_decide_eq_true (by first | (with_reducible assumption) | assumption); omega); have hx7 : ∀ h : 0 < a0.size, ((a0[0]'h).toNat : Int) = bt a0 0 := bt_at a0 0; clear p7; have qi7 : (0 < (a0.size : Int)) = True := eq_true (of_decide_eq_true (by first | (with_reducible assumption) | assumption)); replace q7 := eq_true q7) | (go_at_call 64; (with_reducible refine (constableref01_Upper.calls (bt a0 0) t155 _ A8.out).mono ?_); rintro e w' ⟨rfl, ⟨nd, rfl⟩⟩))
     go_meet
     case rel => exact ⟨_, (true), (by first | rfl | (simp; done) | (simp [*]; done)), H', ⟨by first | omega | exact Nat.le_refl _⟩, by repeat (first | exact Drawn0.refl _ | apply Drawn0.step)⟩
    ·rw [if_neg c9] at H
     have c9b0 : (a1 != t155) = false := by simpa using c9
     (try (have c9b1 : decide (a1 = t155) = true := by simpa using c9))
     (try (have c9b2 : (a1 == t155) = true := by simpa using c9))
     clear c9
     by_cases c10 : a1 = true
     ·subst c10
      have H1 : (constableref01_Word.j0 k a0 false) = some r := by rw [if_pos rfl] at H; exact H
      clear H
      have H := H1
      clear H1
      have H' := Aside0.mk H
      clear H
      go_wp2_with (first | ((with_reducible refine gate_callee (f := 63) rfl ?_); refine goesL_ (some 8) rfl rfl Try.func63 (by kernel_rfl) rfl #[.int .i64 (a0.size : Int), .int .i64 1, .int .i64 24] rfl aG ?_; (with_reducible refine (constableref01_In.calls (a0.size : Int) 1 24 true _ A4.out).mono ?_); rintro e w' ⟨rfl, ⟨nd, rfl⟩⟩; refine ⟨_, rfl, ?_⟩; have p7 : 0 ≤ (0 : Int) := (by omega); have q7 : 0 < a0.size := (by have : (0 : Int) < (a0.size : Int) := of_decide_eq_true (by first | (with_reducible assumption) | assumption); omega); have hx7 : ∀ h : 0 < a0.size, ((a0[0]'h).toNat : Int) = bt a0 0 := bt_at a0 0; clear p7; have qi7 : (0 < (a0.size : Int)) = True := eq_true (of_decide_eq_true (by first | (with_reducible assumption) | assumption)); replace q7 := eq_true q7) | (go_at_call 64; (with_reducible refine (constableref01_Upper.calls (bt a0 0) t155 _ A8.out).mono ?_); rintro e w' ⟨rfl, ⟨nd, rfl⟩⟩))
      go_meet
      case rel => exact ⟨_, (false), (by first | rfl | (simp; done) | (simp [*]; done)), H', ⟨by first | omega | exact Nat.le_refl _⟩, by repeat (first | exact Drawn0.refl _ | apply Drawn0.step)⟩
     ·replace c10 := Bool.eq_false_iff.mpr c10
      subst c10
      have H1 : ((constableref01_Lower.f (bt a0 0)).bind fun t156 => (constableref01_Word.j0 k a0 (!t156))) = some r := by rw [if_neg (show ¬ (false = true) by decide)] at H; exact H
      clear H
      have H := H1
      clear H1
      replace H := Option.bind_eq_some_iff.mp H
      obtain ⟨t156, A120, H⟩ := H
      replace H : (constableref01_Word.j0 k a0 (!t156)) = some r := H
      have A12 := Aside0.mk A120
      clear A120
      have H' := Aside0.mk H
      clear H
      go_wp2_with (first | ((with_reducible refine gate_callee (f := 63) rfl ?_); refine goesL_ (some 8) rfl rfl Try.func63 (by kernel_rfl) rfl #[.int .i64 (a0.size : Int), .int .i64 1, .int .i64 24] rfl aG ?_; (with_reducible refine (constableref01_In.calls (a0.size : Int) 1 24 true _ A4.out).mono ?_); rintro e w' ⟨rfl, ⟨nd, rfl⟩⟩; refine ⟨_, rfl, ?_⟩; have p7 : 0 ≤ (0 : Int) := (by omega); have q7 : 0 < a0.size := (by have : (0 : Int) < (a0.size : Int) := of_decide_eq_true (by first | (with_reducible assumption) | assumption); omega); have hx7 : ∀ h : 0 < a0.size, ((a0[0]'h).toNat : Int) = bt a0 0 := bt_at a0 0; clear p7; have qi7 : (0 < (a0.size : Int)) = True := eq_true (of_decide_eq_true (by first | (with_reducible assumption) | assumption)); replace q7 := eq_true q7) | (go_at_call 64; (with_reducible refine (constableref01_Upper.calls (bt a0 0) t155 _ A8.out).mono ?_); rintro e w' ⟨rfl, ⟨nd, rfl⟩⟩; have p11 : 0 ≤ (0 : Int) := (by omega); have q11 : 0 < a0.size := (by have : (0 : Int) < (a0.size : Int) := of_decide_eq_true (by first | (with_reducible assumption) | assumption); omega); have hx11 : ∀ h : 0 < a0.size, ((a0[0]'h).toNat : Int) = bt a0 0 := bt_at a0 0; clear p11; have qi11 : (0 < (a0.size : Int)) = True := eq_true (of_decide_eq_true (by first | (with_reducible assumption) | assumption)); replace q11 := eq_true q11) | (go_at_call 65; (with_reducible refine (constableref01_Lower.calls (bt a0 0) t156 _ A12.out).mono ?_); rintro e w' ⟨rfl, ⟨nd, rfl⟩⟩))
      go_meet
      case rel => exact ⟨_, (!t156), (by first | rfl | (simp; done) | (simp [*]; done)), H', ⟨by first | omega | exact Nat.le_refl _⟩, by repeat (first | exact Drawn0.refl _ | apply Drawn0.step)⟩
   ·rw [if_neg c6] at H
    exact absurd H (by simp)
  ·replace c5 := Bool.eq_false_iff.mpr c5
   subst c5
   have H1 : (constableref01_Word.j0 k a0 true) = some r := by rw [if_neg (show ¬ (false = true) by decide)] at H; exact H
   clear H
   have H := H1
   clear H1
   have H' := Aside0.mk H
   clear H
   go_wp2_with (first | ((with_reducible refine gate_callee (f := 63) rfl ?_); refine goesL_ (some 8) rfl rfl Try.func63 (by kernel_rfl) rfl #[.int .i64 (a0.size : Int), .int .i64 1, .int .i64 24] rfl aG ?_; (with_reducible refine (constableref01_In.calls (a0.size : Int) 1 24 false _ A4.out).mono ?_); rintro e w' ⟨rfl, ⟨nd, rfl⟩⟩; refine ⟨_, rfl, ?_⟩))
   go_meet
   case rel => exact ⟨_, (true), (by first | rfl | (simp; done) | (simp [*]; done)), H', ⟨by first | omega | exact Nat.le_refl _⟩, by repeat (first | exact Drawn0.refl _ | apply Drawn0.step)⟩
 case rest =>
  clear HC3
  (try clear c1); (try clear p1); (try clear q1); (try clear hx1); (try clear qi1); (try clear c2); (try clear p2); (try clear c5); (try clear c6); (try clear c6b0); (try clear c6b1); (try clear p7); (try clear q7); (try clear hx7); (try clear qi7); (try clear c9); (try clear c9b0); (try clear c9b1); (try clear c9b2); (try clear c10); (try clear p11); (try clear q11); (try clear hx11); (try clear qi11); (try clear p11); (try clear p7); (try clear q11); (try clear q7)
  obtain ⟨kq, x26_2, rfl, HA, HJ2, ⟨mc2, rfl⟩⟩ := hcut
  cases kq with
  | zero => exact absurd HA.out (by simp [constableref01_Word.j0])
  | succ kj2 =>
   have H := HA.out
   clear HA
   simp only [constableref01_Word.j0] at H
   by_cases c13 : x26_2 = true
   ·subst c13
    have H1 : (some false) = some r := by rw [if_pos rfl] at H; exact H
    clear H
    have H := H1
    clear H1
    obtain rfl := Option.some.inj H
    go_wp2
    go_ret
    exact ⟨by first | rfl | (simp; done) | (simp [*]; done), by repeat (first | exact Drawn0.refl _ | apply Drawn0.step)⟩
   ·replace c13 := Bool.eq_false_iff.mpr c13
    subst c13
    have H1 : (constableref01_Word.l0 kj2 a0 0) = some r := by rw [if_neg (show ¬ (false = true) by decide)] at H; exact H
    clear H
    have H := H1
    clear H1
    have H' := Aside0.mk H
    clear H
    go_wp2
    go_loopg [5] kj2 (fun kq v5 w' => ∃ (x5_2 : Int), v5 = .int .i64 x5_2 ∧ Aside0 (constableref01_Word.l0 kq a0 x5_2 = some r) ∧ Aside0 (kq ≤ kj2) ∧ Drawn0 w w')
    case atStart => exact ⟨(0), (by first | rfl | (simp; done) | (simp [*]; done)), H', ⟨Nat.le_refl _⟩, by repeat (first | exact Drawn0.refl _ | apply Drawn0.step)⟩
    case round =>
     clear H'
     (try clear c1); (try clear p1); (try clear q1); (try clear hx1); (try clear qi1); (try clear c2); (try clear p2); (try clear c5); (try clear c6); (try clear c6b0); (try clear c6b1); (try clear p7); (try clear q7); (try clear hx7); (try clear qi7); (try clear c9); (try clear c9b0); (try clear c9b1); (try clear c9b2); (try clear c10); (try clear p11); (try clear q11); (try clear hx11); (try clear qi11); (try clear c13); (try clear p1); (try clear p11); (try clear p2); (try clear p7); (try clear q1); (try clear q11); (try clear q7)
     obtain ⟨x5_2, rfl, HA, HK2, ⟨m2, rfl⟩⟩ := hrel
     cases gk with
     | zero => exact absurd HA.out (by simp [constableref01_Word.l0])
     | succ k2 =>
      have H := HA.out
      clear HA
      simp only [constableref01_Word.l0] at H
      by_cases c14 : x5_2 < (a0.size : Int)
      ·rw [if_pos c14] at H
       have c14b0 : decide (x5_2 < (a0.size : Int)) = true := decide_eq_true c14
       clear c14
       by_cases c15 : 0 ≤ x5_2
       ·rw [if_pos c15] at H
        have c15b0 : decide (0 ≤ x5_2) = true := decide_eq_true c15
        clear c15
        replace H := Option.bind_eq_some_iff.mp H
        obtain ⟨t157, A170, H⟩ := H
        replace H : (if t157 = true then (constableref01_Word.l0 k2 a0 (wrap64 (x5_2 + 1))) else (some false)) = some r := H
        have A17 := Aside0.mk A170
        clear A170
        by_cases c18 : t157 = true
        ·subst c18
         have H1 : (constableref01_Word.l0 k2 a0 (wrap64 (x5_2 + 1))) = some r := by rw [if_pos rfl] at H; exact H
         clear H
         have H := H1
         clear H1
         have H' := Aside0.mk H
         clear H
         have p16 : 0 ≤ (x5_2 : Int) := of_decide_eq_true (by first | (with_reducible assumption) | assumption)
         have q16 : x5_2 < (a0.size : Int) := of_decide_eq_true (by first | (with_reducible assumption) | assumption)
         have hx16 := bt_at a0 x5_2
         replace p16 := eq_true p16
         replace q16 := eq_true q16
         go_wp2_with (first | ((with_reducible refine gate_callee (f := 66) rfl ?_); refine goesL_ (some 36) rfl rfl Try.func66 (by kernel_rfl) rfl #[.int .u8 (bt a0 x5_2)] rfl aG ?_; (with_reducible refine (constableref01_inner.calls (bt a0 x5_2) true _ A17.out).mono ?_); rintro e w' ⟨rfl, ⟨nd, rfl⟩⟩; refine ⟨_, rfl, ?_⟩))
         go_roundg k2
         case measure => have := HJ2.out; have := HK2.out; omega
         case rel => exact ⟨(wrap64 (x5_2 + 1)), (by first | rfl | (simp; done) | (simp [*]; done)), H', ⟨by have := HJ2.out; have := HK2.out; omega⟩, by repeat (first | exact Drawn0.refl _ | apply Drawn0.step)⟩
        ·replace c18 := Bool.eq_false_iff.mpr c18
         subst c18
         have H1 : (some false) = some r := by rw [if_neg (show ¬ (false = true) by decide)] at H; exact H
         clear H
         have H := H1
         clear H1
         obtain rfl := Option.some.inj H
         have p16 : 0 ≤ (x5_2 : Int) := of_decide_eq_true (by first | (with_reducible assumption) | assumption)
         have q16 : x5_2 < (a0.size : Int) := of_decide_eq_true (by first | (with_reducible assumption) | assumption)
         have hx16 := bt_at a0 x5_2
         replace p16 := eq_true p16
         replace q16 := eq_true q16
         go_wp2_with (first | ((with_reducible refine gate_callee (f := 66) rfl ?_); refine goesL_ (some 36) rfl rfl Try.func66 (by kernel_rfl) rfl #[.int .u8 (bt a0 x5_2)] rfl aG ?_; (with_reducible refine (constableref01_inner.calls (bt a0 x5_2) false _ A17.out).mono ?_); rintro e w' ⟨rfl, ⟨nd, rfl⟩⟩; refine ⟨_, rfl, ?_⟩))
         go_ret
         exact ⟨by first | rfl | (simp; done) | (simp [*]; done), by repeat (first | exact Drawn0.refl _ | apply Drawn0.step)⟩
       ·rw [if_neg c15] at H
        exact absurd H (by simp)
      ·rw [if_neg c14] at H
       have c14b0 : decide (x5_2 < (a0.size : Int)) = false := decide_eq_false c14
       clear c14
       obtain rfl := Option.some.inj H
       go_wp2
       go_ret
       exact ⟨by first | rfl | (simp; done) | (simp [*]; done), by repeat (first | exact Drawn0.refl _ | apply Drawn0.step)⟩

end Go.Proofs.Ytghommaokdhjmaa.P
namespace Go.Proofs.Ytghommaokdhjmaa.P
open Go.RowKit Go.Proofs.YtghommaokdhjmaaW.PrintWords Go.Proofs.YtghommaokdhjmaaW.PrintLast Go.Proofs.Ytghommaokdhjmaa.Gate
set_option linter.unusedVariables false
set_option linter.unusedSimpArgs false

/-! ### constableref01_words: function 99 -/
def constableref01_words.f  : Option (List ByteArray) := some (([(⟨#[102, 97, 99, 116]⟩ : ByteArray), (⟨#[114, 117, 108, 101]⟩ : ByteArray), (⟨#[112, 97, 116, 116, 101, 114, 110]⟩ : ByteArray), (⟨#[110, 111, 116]⟩ : ByteArray), (⟨#[97, 110, 100]⟩ : ByteArray), (⟨#[111, 114]⟩ : ByteArray), (⟨#[98, 101, 102, 111, 114, 101]⟩ : ByteArray), (⟨#[111, 110, 99, 101]⟩ : ByteArray), (⟨#[97, 108, 119, 97, 121, 115]⟩ : ByteArray), (⟨#[115, 105, 110, 99, 101]⟩ : ByteArray), (⟨#[100, 114, 111, 112]⟩ : ByteArray)] : List ByteArray))
set_option maxHeartbeats 8000000 in
set_option maxRecDepth 100000 in
theorem constableref01_words.calls  (r : List ByteArray) (w : World) (h : constableref01_words.f  = some r) :
  Calls Try.prog 99 #[] w fun e w' => ∃ v0_ : Value, e = .returned (v0_) ∧ Kd.R Kd.string 9 w' w.heap.size (fun _ => True) v0_ r ∧ Below w.heap.size w w' := by
 have HB := Aside0.mk (Below.refl w.heap.size w)
 have H : (some (([(⟨#[102, 97, 99, 116]⟩ : ByteArray), (⟨#[114, 117, 108, 101]⟩ : ByteArray), (⟨#[112, 97, 116, 116, 101, 114, 110]⟩ : ByteArray), (⟨#[110, 111, 116]⟩ : ByteArray), (⟨#[97, 110, 100]⟩ : ByteArray), (⟨#[111, 114]⟩ : ByteArray), (⟨#[98, 101, 102, 111, 114, 101]⟩ : ByteArray), (⟨#[111, 110, 99, 101]⟩ : ByteArray), (⟨#[97, 108, 119, 97, 121, 115]⟩ : ByteArray), (⟨#[115, 105, 110, 99, 101]⟩ : ByteArray), (⟨#[100, 114, 111, 112]⟩ : ByteArray)] : List ByteArray))) = some r := h
 clear h
 obtain ⟨y490, hy490⟩ : ∃ y_ : List ByteArray, y_ = (([(⟨#[102, 97, 99, 116]⟩ : ByteArray), (⟨#[114, 117, 108, 101]⟩ : ByteArray), (⟨#[112, 97, 116, 116, 101, 114, 110]⟩ : ByteArray), (⟨#[110, 111, 116]⟩ : ByteArray), (⟨#[97, 110, 100]⟩ : ByteArray), (⟨#[111, 114]⟩ : ByteArray), (⟨#[98, 101, 102, 111, 114, 101]⟩ : ByteArray), (⟨#[111, 110, 99, 101]⟩ : ByteArray), (⟨#[97, 108, 119, 97, 121, 115]⟩ : ByteArray), (⟨#[115, 105, 110, 99, 101]⟩ : ByteArray), (⟨#[100, 114, 111, 112]⟩ : ByteArray)] : List ByteArray)) := ⟨_, rfl⟩
 replace H : (some y490) = some r := by first | (rw [hy490]; with_reducible exact H) | (have H2_ := (Option.bind_some _ _).symm.trans H; rw [hy490]; with_reducible exact H2_) | (have H2_ := (Option.bind_some _ _).symm.trans H; with_reducible exact H2_) | with_reducible exact H | (rw [hy490]; exact H) | exact H
 have Ny490 := Aside0.mk hy490
 clear hy490
 obtain rfl := Option.some.inj H
 go_enter Try.func99, Try.ntmps99
 go_wp2_with (first | ((with_reducible refine gate_dst (N := 1) rfl ?_); refine Kd.R_lit Kd.string _ 9 ?hg (N := 1) ?hd (xs := ([(⟨#[102, 97, 99, 116]⟩ : ByteArray), (⟨#[114, 117, 108, 101]⟩ : ByteArray), (⟨#[112, 97, 116, 116, 101, 114, 110]⟩ : ByteArray), (⟨#[110, 111, 116]⟩ : ByteArray), (⟨#[97, 110, 100]⟩ : ByteArray), (⟨#[111, 114]⟩ : ByteArray), (⟨#[98, 101, 102, 111, 114, 101]⟩ : ByteArray), (⟨#[111, 110, 99, 101]⟩ : ByteArray), (⟨#[97, 108, 119, 97, 121, 115]⟩ : ByteArray), (⟨#[115, 105, 110, 99, 101]⟩ : ByteArray), (⟨#[100, 114, 111, 112]⟩ : ByteArray)] : List ByteArray)) (inner := [.string (⟨#[102, 97, 99, 116]⟩ : ByteArray), .string (⟨#[114, 117, 108, 101]⟩ : ByteArray), .string (⟨#[112, 97, 116, 116, 101, 114, 110]⟩ : ByteArray), .string (⟨#[110, 111, 116]⟩ : ByteArray), .string (⟨#[97, 110, 100]⟩ : ByteArray), .string (⟨#[111, 114]⟩ : ByteArray), .string (⟨#[98, 101, 102, 111, 114, 101]⟩ : ByteArray), .string (⟨#[111, 110, 99, 101]⟩ : ByteArray), .string (⟨#[97, 108, 119, 97, 121, 115]⟩ : ByteArray), .string (⟨#[115, 105, 110, 99, 101]⟩ : ByteArray), .string (⟨#[100, 114, 111, 112]⟩ : ByteArray)]) (ok := fun _ => True) (okp := fun _ => True) ?hr ?hp (fun _ hk => hk) trivial (Below.refl _ _) (Nat.le_refl _) (by simp) ?_; (case hd => rfl); (case hg => rfl); (case hr => first | (go_simp; done) | (go_simp; rfl)); (case hp => exact (Reps.one (show Kd.M Kd.string _ _ _ (⟨#[102, 97, 99, 116]⟩ : ByteArray) [.string (⟨#[102, 97, 99, 116]⟩ : ByteArray)] from rfl) (Reps.one (show Kd.M Kd.string _ _ _ (⟨#[114, 117, 108, 101]⟩ : ByteArray) [.string (⟨#[114, 117, 108, 101]⟩ : ByteArray)] from rfl) (Reps.one (show Kd.M Kd.string _ _ _ (⟨#[112, 97, 116, 116, 101, 114, 110]⟩ : ByteArray) [.string (⟨#[112, 97, 116, 116, 101, 114, 110]⟩ : ByteArray)] from rfl) (Reps.one (show Kd.M Kd.string _ _ _ (⟨#[110, 111, 116]⟩ : ByteArray) [.string (⟨#[110, 111, 116]⟩ : ByteArray)] from rfl) (Reps.one (show Kd.M Kd.string _ _ _ (⟨#[97, 110, 100]⟩ : ByteArray) [.string (⟨#[97, 110, 100]⟩ : ByteArray)] from rfl) (Reps.one (show Kd.M Kd.string _ _ _ (⟨#[111, 114]⟩ : ByteArray) [.string (⟨#[111, 114]⟩ : ByteArray)] from rfl) (Reps.one (show Kd.M Kd.string _ _ _ (⟨#[98, 101, 102, 111, 114, 101]⟩ : ByteArray) [.string (⟨#[98, 101, 102, 111, 114, 101]⟩ : ByteArray)] from rfl) (Reps.one (show Kd.M Kd.string _ _ _ (⟨#[111, 110, 99, 101]⟩ : ByteArray) [.string (⟨#[111, 110, 99, 101]⟩ : ByteArray)] from rfl) (Reps.one (show Kd.M Kd.string _ _ _ (⟨#[97, 108, 119, 97, 121, 115]⟩ : ByteArray) [.string (⟨#[97, 108, 119, 97, 121, 115]⟩ : ByteArray)] from rfl) (Reps.one (show Kd.M Kd.string _ _ _ (⟨#[115, 105, 110, 99, 101]⟩ : ByteArray) [.string (⟨#[115, 105, 110, 99, 101]⟩ : ByteArray)] from rfl) (Reps.one (show Kd.M Kd.string _ _ _ (⟨#[100, 114, 111, 112]⟩ : ByteArray) [.string (⟨#[100, 114, 111, 112]⟩ : ByteArray)] from rfl) (Reps.none _ _))))))))))))); intro v491 w1 ho2 hb hg_ hnew_; clear hg_ hnew_; (first | rw [← Ny490.out] at ho2 | (simp only [Int.reduceToNat] at ho2; rw [← Ny490.out] at ho2)); have n0_ := Aside0.mk (Kd.R_lower ho2 (below_size bB0)); have n1_ := Aside0.mk (below_step bB0 hb); clear HB; have HO492 := n0_; have HB := n1_; clear n0_ n1_; clear hb ho2))
 go_ret
 exact ⟨_, eW, by (with_reducible repeat (first | apply Kd.R_alloc | apply Kd.R_drewN | apply Kd.R_drew)); exact HO492.out, bB0⟩

end Go.Proofs.Ytghommaokdhjmaa.P
namespace Go.Proofs.Ytghommaokdhjmaa.P
open Go.RowKit Go.Proofs.YtghommaokdhjmaaW.PrintWords Go.Proofs.YtghommaokdhjmaaW.PrintLast Go.Proofs.Ytghommaokdhjmaa.Gate
set_option linter.unusedVariables false
set_option linter.unusedSimpArgs false

/-! ### constableref01_Name: function 74 -/
def constableref01_Name.l0 : Nat → ByteArray → List ByteArray → Int → Option (Bool)
 | 0, _, _, _ => none
 | k + 1, x0, x3, x4 => if x4 < (x3.length : Int) then (if 0 ≤ x4 then (if (rdOf ByteArray.empty x3 x4).toList = x0.toList then (some false) else (constableref01_Name.l0 k x0 x3 (wrap64 (x4 + 1)))) else (none)) else (some true)
def constableref01_Name.f (k : Nat) (a0 : ByteArray) : Option (Bool) := (constableref01_Word.f k a0 false).bind fun t493 => (if t493 = true then ((constableref01_words.f).bind fun t494 => (constableref01_Name.l0 k a0 t494 0)) else (some false))
theorem constableref01_Name.mono_l : ∀ k, (∀ y0 y1 y2, LeO (constableref01_Name.l0 k y0 y1 y2) (constableref01_Name.l0 (k + 1) y0 y1 y2))
 | 0 => fun _ _ _ r h => by simp [constableref01_Name.l0] at h
 | k + 1 => by
  have ih0 := constableref01_Name.mono_l k
  ·intro y0 y1 y2
   unfold constableref01_Name.l0
   repeat' first
   | (with_reducible exact ih0 _ _ _)
   | (with_reducible exact constableref01_Word.mono _ _ _)
   | (with_reducible exact LeO.refl _)
   | (with_reducible exact LeO.none _)
   | (with_reducible refine LeO.ite ?_ ?_)
   | (with_reducible refine LeO.bind ?_ (fun _ => ?_))
theorem constableref01_Name.mono : ∀ a0 k, LeO (constableref01_Name.f k a0) (constableref01_Name.f (k + 1) a0) := by
 intro a0 k
 have ih0 := constableref01_Name.mono_l k
 unfold constableref01_Name.f
 repeat' first
   | (with_reducible exact ih0 _ _ _)
   | (with_reducible exact constableref01_Word.mono _ _ _)
   | (with_reducible exact LeO.refl _)
   | (with_reducible exact LeO.none _)
   | (with_reducible refine LeO.ite ?_ ?_)
   | (with_reducible refine LeO.bind ?_ (fun _ => ?_))
set_option maxHeartbeats 8000000 in
set_option maxRecDepth 100000 in
theorem constableref01_Name.calls (k : Nat) (a0 : ByteArray) (r : Bool) (w : World) (h : constableref01_Name.f k a0 = some r) :
  Calls Try.prog 74 #[.string a0] w fun e w' => e = .returned (.bool r) ∧ Below w.heap.size w w' := by
 have HB := Aside0.mk (Below.refl w.heap.size w)
 have H : ((constableref01_Word.f k a0 false).bind fun t493 => (if t493 = true then ((constableref01_words.f).bind fun t494 => (constableref01_Name.l0 k a0 t494 0)) else (some false))) = some r := h
 clear h
 replace H := Option.bind_eq_some_iff.mp H
 obtain ⟨t493, A20, H⟩ := H
 replace H : (if t493 = true then ((constableref01_words.f).bind fun t494 => (constableref01_Name.l0 k a0 t494 0)) else (some false)) = some r := H
 have A2 := Aside0.mk A20
 clear A20
 by_cases c3 : t493 = true
 ·subst c3
  have H1 : ((constableref01_words.f).bind fun t494 => (constableref01_Name.l0 k a0 t494 0)) = some r := by rw [if_pos rfl] at H; exact H
  clear H
  have H := H1
  clear H1
  replace H := Option.bind_eq_some_iff.mp H
  obtain ⟨t494, A40, H⟩ := H
  replace H : (constableref01_Name.l0 k a0 t494 0) = some r := H
  have A4 := Aside0.mk A40
  clear A40
  have H' := Aside0.mk H
  clear H
  go_enter Try.func74, Try.ntmps74
  go_wp2_with (first | ((with_reducible refine gate_callee (f := 22) rfl ?_); refine goesL_ (some 6) rfl rfl Try.func22 (by kernel_rfl) rfl #[.string a0, .bool false] rfl aG ?_; (with_reducible refine (constableref01_Word.calls k a0 false true _ A2.out).mono ?_); rintro e w' ⟨rfl, ⟨nd, rfl⟩⟩; refine ⟨_, rfl, ?_⟩) | ((with_reducible refine gate_callee (f := 99) rfl ?_); refine goesL_ (some 8) rfl rfl Try.func99 (by kernel_rfl) rfl #[] rfl aG ?_; (with_reducible refine (constableref01_words.calls  t494 _ A4.out).mono ?_); rintro e w5 ⟨v495, rfl, ho0, hb⟩; refine ⟨_, rfl, ?_⟩; have n0_ := Aside0.mk (Kd.R_lower ho0 (below_size bB0)); have n1_ := Aside0.mk (below_step bB0 hb); clear HB; have HO496 := n0_; have HB := n1_; clear n0_ n1_; (try clear hb); (try clear hb2); (try clear hk); (try clear hi); (try clear ho0)))
  go_loopg [4] k (fun kq v4 w' => ∃ (x4_1 : Int), v4 = .int .i64 x4_1 ∧ Aside0 (constableref01_Name.l0 kq a0 t494 x4_1 = some r) ∧ Aside0 (kq ≤ k) ∧ Aside0 (Kd.R Kd.string 9 w' w.heap.size (fun _ => True) v495 t494) ∧ Aside0 (Below w.heap.size w w'))
  case atStart => exact ⟨(0), (by first | rfl | (simp; done) | (simp [*]; done)), H', ⟨Nat.le_refl _⟩, ⟨by (with_reducible repeat (first | apply Kd.R_alloc | apply Kd.R_drewN | apply Kd.R_drew)); exact HO496.out⟩, ⟨bB0⟩⟩
  case round =>
   clear H'
   (try clear c2); (try clear p2); (try clear c3)
   obtain ⟨x4_1, rfl, HA, HK1, HO_3, HB⟩ := hrel
   cases gk with
   | zero => exact absurd HA.out (by simp [constableref01_Name.l0])
   | succ k1 =>
    have H := HA.out
    clear HA
    simp only [constableref01_Name.l0] at H
    by_cases c6 : x4_1 < (t494.length : Int)
    ·rw [if_pos c6] at H
     have c6b0 : decide (x4_1 < (t494.length : Int)) = true := decide_eq_true c6
     clear c6
     by_cases c7 : 0 ≤ x4_1
     ·rw [if_pos c7] at H
      have c7b0 : decide (0 ≤ x4_1) = true := decide_eq_true c7
      clear c7
      by_cases c8 : (rdOf ByteArray.empty t494 x4_1).toList = a0.toList
      ·rw [if_pos c8] at H
       have c8b0 : ((rdOf ByteArray.empty t494 x4_1).toList == a0.toList) = true := beq_iff_eq.mpr c8
       have c8b1 : ((rdOf ByteArray.empty t494 x4_1).toList != a0.toList) = false := bne_eq_false_iff_eq.mpr c8
       clear c8
       obtain rfl := Option.some.inj H
       obtain ⟨Ao9, co9, eo9⟩ := Kd.R_slice HO_3.out
       subst eo9
       have p497 : 0 ≤ (x4_1 : Int) := of_decide_eq_true (by first | (with_reducible assumption) | assumption)
       have q497 : x4_1 < (t494.length : Int) := of_decide_eq_true (by first | (with_reducible assumption) | assumption)
       obtain ⟨ad497, e497, hx497_0⟩ := Kd.at_string (Kd.R_reads' HO_3.out).2.2 x4_1 p497 q497
       cases e497
       replace p497 := eq_true p497
       replace q497 := eq_true q497
       go_wp2
       go_ret
       exact ⟨eW, bB0⟩
      ·rw [if_neg c8] at H
       have c8b0 : ((rdOf ByteArray.empty t494 x4_1).toList == a0.toList) = false := beq_eq_false_iff_ne.mpr c8
       have c8b1 : ((rdOf ByteArray.empty t494 x4_1).toList != a0.toList) = true := bne_iff_ne.mpr c8
       have H' := Aside0.mk H
       clear H
       obtain ⟨Ao10, co10, eo10⟩ := Kd.R_slice HO_3.out
       subst eo10
       have p497 : 0 ≤ (x4_1 : Int) := of_decide_eq_true (by first | (with_reducible assumption) | assumption)
       have q497 : x4_1 < (t494.length : Int) := of_decide_eq_true (by first | (with_reducible assumption) | assumption)
       obtain ⟨ad497, e497, hx497_0⟩ := Kd.at_string (Kd.R_reads' HO_3.out).2.2 x4_1 p497 q497
       cases e497
       replace p497 := eq_true p497
       replace q497 := eq_true q497
       go_wp2
       go_roundg k1
       case measure => have := HK1.out; omega
       case rel => exact ⟨(wrap64 (x4_1 + 1)), (by first | rfl | (simp; done) | (simp [*]; done)), H', ⟨by have := HK1.out; omega⟩, ⟨by (with_reducible repeat (first | apply Kd.R_alloc | apply Kd.R_drewN | apply Kd.R_drew)); exact HO_3.out⟩, ⟨bB0⟩⟩
     ·rw [if_neg c7] at H
      exact absurd H (by simp)
    ·rw [if_neg c6] at H
     have c6b0 : decide (x4_1 < (t494.length : Int)) = false := decide_eq_false c6
     clear c6
     obtain rfl := Option.some.inj H
     obtain ⟨Ao11, co11, eo11⟩ := Kd.R_slice HO_3.out
     subst eo11
     go_wp2
     go_ret
     exact ⟨eW, bB0⟩
 ·replace c3 := Bool.eq_false_iff.mpr c3
  subst c3
  have H1 : (some false) = some r := by rw [if_neg (show ¬ (false = true) by decide)] at H; exact H
  clear H
  have H := H1
  clear H1
  obtain rfl := Option.some.inj H
  go_enter Try.func74, Try.ntmps74
  go_wp2_with (first | ((with_reducible refine gate_callee (f := 22) rfl ?_); refine goesL_ (some 6) rfl rfl Try.func22 (by kernel_rfl) rfl #[.string a0, .bool false] rfl aG ?_; (with_reducible refine (constableref01_Word.calls k a0 false false _ A2.out).mono ?_); rintro e w' ⟨rfl, ⟨nd, rfl⟩⟩; refine ⟨_, rfl, ?_⟩))
  go_ret
  exact ⟨eW, bB0⟩

end Go.Proofs.Ytghommaokdhjmaa.P
namespace Go.Proofs.Ytghommaokdhjmaa.P
open Go.RowKit Go.Proofs.YtghommaokdhjmaaW.PrintWords Go.Proofs.YtghommaokdhjmaaW.PrintLast Go.Proofs.Ytghommaokdhjmaa.Gate
set_option linter.unusedVariables false
set_option linter.unusedSimpArgs false

/-! ### constableref01_Value: function 26 -/
mutual
def constableref01_Value.j0 : Nat → Bool → Int → Int → ByteArray → Option (Bool)
 | 0, _, _, _, _ => none
 | k + 1, x37, x161000, x161001, x161002 => if x37 = true then (some false) else (constableref01_Value.l0 k 0 x161000 x161001 x161002)
def constableref01_Value.l0 : Nat → Int → Int → Int → ByteArray → Option (Bool)
 | 0, _, _, _, _ => none
 | k + 1, x3, x161000, x161001, x161002 => if x3 < (x161002.size : Int) then (if 0 ≤ x3 then ((constableref01_In.f (wrap64 (bt x161002 x3)) 32 126).bind fun t163 => (if t163 = true then (constableref01_Value.l0 k (wrap64 (x3 + 1)) x161000 x161001 x161002) else (some false))) else (none)) else (some true)
end
def constableref01_Value.f (k : Nat) (a0_0 : Int) (a0_1 : Int) (a0_2 : ByteArray) : Option (Bool) := if a0_0 = 1 then ((constableref01_In.f a0_1 (-4611686018427387904) 4611686018427387904).bind fun t161 => (if t161 = true then (some ((a0_2.size : Int) == 0)) else (some false))) else (if a0_0 = 2 then (if a0_1 = 0 then ((constableref01_Word.f k a0_2 false).bind fun t162 => (some t162)) else (some false)) else (if a0_0 = 3 then (if a0_1 = 0 then (constableref01_Value.j0 k (decide ((a0_2.size : Int) > 60)) a0_0 a0_1 a0_2) else (constableref01_Value.j0 k true a0_0 a0_1 a0_2)) else (some false)))
theorem constableref01_Value.mono_l : ∀ k, (∀ y0 y1 y2 y3, LeO (constableref01_Value.j0 k y0 y1 y2 y3) (constableref01_Value.j0 (k + 1) y0 y1 y2 y3)) ∧ (∀ y0 y1 y2 y3, LeO (constableref01_Value.l0 k y0 y1 y2 y3) (constableref01_Value.l0 (k + 1) y0 y1 y2 y3))
 | 0 => ⟨fun _ _ _ _ r h => by simp [constableref01_Value.j0] at h, fun _ _ _ _ r h => by simp [constableref01_Value.l0] at h⟩
 | k + 1 => by
  obtain ⟨ih0, ih1⟩ := constableref01_Value.mono_l k
  refine ⟨?_, ?_⟩
  ·intro y0 y1 y2 y3
   unfold constableref01_Value.j0
   repeat' first
   | (with_reducible exact ih0 _ _ _ _)
   | (with_reducible exact ih1 _ _ _ _)
   | (with_reducible exact constableref01_Word.mono _ _ _)
   | (with_reducible exact LeO.refl _)
   | (with_reducible exact LeO.none _)
   | (with_reducible refine LeO.ite ?_ ?_)
   | (with_reducible refine LeO.bind ?_ (fun _ => ?_))
  ·intro y0 y1 y2 y3
   unfold constableref01_Value.l0
   repeat' first
   | (with_reducible exact ih0 _ _ _ _)
   | (with_reducible exact ih1 _ _ _ _)
   | (with_reducible exact constableref01_Word.mono _ _ _)
   | (with_reducible exact LeO.refl _)
   | (with_reducible exact LeO.none _)
   | (with_reducible refine LeO.ite ?_ ?_)
   | (with_reducible refine LeO.bind ?_ (fun _ => ?_))
theorem constableref01_Value.mono : ∀ a0 a1 a2 k, LeO (constableref01_Value.f k a0 a1 a2) (constableref01_Value.f (k + 1) a0 a1 a2) := by
 intro a0 a1 a2 k
 obtain ⟨ih0, ih1⟩ := constableref01_Value.mono_l k
 unfold constableref01_Value.f
 repeat' first
   | (with_reducible exact ih0 _ _ _ _)
   | (with_reducible exact ih1 _ _ _ _)
   | (with_reducible exact constableref01_Word.mono _ _ _)
   | (with_reducible exact LeO.refl _)
   | (with_reducible exact LeO.none _)
   | (with_reducible refine LeO.ite ?_ ?_)
   | (with_reducible refine LeO.bind ?_ (fun _ => ?_))
set_option maxHeartbeats 8000000 in
set_option maxRecDepth 100000 in
theorem constableref01_Value.calls (k : Nat) (a0_0 : Int) (a0_1 : Int) (a0_2 : ByteArray) (r : Bool) (w : World) (h : constableref01_Value.f k a0_0 a0_1 a0_2 = some r) :
  Calls Try.prog 26 #[.agg #[.int .i64 a0_0, .int .i64 a0_1, .string a0_2]] w fun e w' => e = .returned (.bool r) ∧ Below w.heap.size w w' := by
 have hu24 := Try.underlying24
 have HB := Aside0.mk (Below.refl w.heap.size w)
 have H : (if a0_0 = 1 then ((constableref01_In.f a0_1 (-4611686018427387904) 4611686018427387904).bind fun t161 => (if t161 = true then (some ((a0_2.size : Int) == 0)) else (some false))) else (if a0_0 = 2 then (if a0_1 = 0 then ((constableref01_Word.f k a0_2 false).bind fun t162 => (some t162)) else (some false)) else (if a0_0 = 3 then (if a0_1 = 0 then (constableref01_Value.j0 k (decide ((a0_2.size : Int) > 60)) a0_0 a0_1 a0_2) else (constableref01_Value.j0 k true a0_0 a0_1 a0_2)) else (some false)))) = some r := h
 clear h
 by_cases c2 : a0_0 = 1
 ·rw [if_pos c2] at H
  have c2b0 : (a0_0 == 1) = true := beq_iff_eq.mpr c2
  have c2b1 : (a0_0 != 1) = false := bne_eq_false_iff_eq.mpr c2
  clear c2
  replace H := Option.bind_eq_some_iff.mp H
  obtain ⟨t161, A30, H⟩ := H
  replace H : (if t161 = true then (some ((a0_2.size : Int) == 0)) else (some false)) = some r := H
  have A3 := Aside0.mk A30
  clear A30
  by_cases c4 : t161 = true
  ·subst c4
   have H1 : (some ((a0_2.size : Int) == 0)) = some r := by rw [if_pos rfl] at H; exact H
   clear H
   have H := H1
   clear H1
   obtain rfl := Option.some.inj H
   go_enter Try.func26, Try.ntmps26
   go_wp2_with (first | ((with_reducible refine gate_dst (N := 1) rfl ?_); (try (refine gate_guard (by rfl) ?_; dsimp only)); refine bE (N := 1) (cs := #[.int .i64 a0_0, .int .i64 a0_1, .string a0_2]) (t := 24) ?_; intro gb160 hg w5 hbox hb; have n0_ := Aside0.mk (below_step bB0 hb); have n1_ := Aside0.mk (hbox); have n2_ := Aside0.mk ((by rw [hg]; exact (below_size bB0) : w.heap.size ≤ gb160)); have n3_ := Aside0.mk ((by rw [hg]; exact (below_size bB0) : w.heap.size ≤ gb160)); clear HB; have HB := n0_; have BK160 := n1_; have GW160 := n2_; have GE160 := n3_; clear n0_ n1_ n2_ n3_; clear hb hbox hg; have hcz6_0 : w5.cell? ⟨gb160, 0, none⟩ = some (.int .i64 a0_0) := (blk_cell BK160.out 0).trans rfl; have hcz6_1 : w5.cell? ⟨gb160, 1, none⟩ = some (.int .i64 a0_1) := (blk_cell BK160.out 1).trans rfl; have hcz6_2 : w5.cell? ⟨gb160, 2, none⟩ = some (.string a0_2) := (blk_cell BK160.out 2).trans rfl; have hfz6_0 := blk_frozen BK160.out 0; have hfz6_1 := blk_frozen BK160.out 1; have hfz6_2 := blk_frozen BK160.out 2) | ((with_reducible refine gate_callee (f := 63) rfl ?_); refine goesL_ (some 10) rfl rfl Try.func63 (by kernel_rfl) rfl #[.int .i64 a0_1, .int .i64 (-4611686018427387904), .int .i64 4611686018427387904] rfl aG ?_; (with_reducible refine (constableref01_In.calls a0_1 (-4611686018427387904) 4611686018427387904 true _ A3.out).mono ?_); rintro e w' ⟨rfl, ⟨nd, rfl⟩⟩; refine ⟨_, rfl, ?_⟩))
   go_ret
   exact ⟨eW, (bB1 GE160.out)⟩
  ·replace c4 := Bool.eq_false_iff.mpr c4
   subst c4
   have H1 : (some false) = some r := by rw [if_neg (show ¬ (false = true) by decide)] at H; exact H
   clear H
   have H := H1
   clear H1
   obtain rfl := Option.some.inj H
   go_enter Try.func26, Try.ntmps26
   go_wp2_with (first | ((with_reducible refine gate_dst (N := 1) rfl ?_); (try (refine gate_guard (by rfl) ?_; dsimp only)); refine bE (N := 1) (cs := #[.int .i64 a0_0, .int .i64 a0_1, .string a0_2]) (t := 24) ?_; intro gb160 hg w7 hbox hb; have n0_ := Aside0.mk (below_step bB0 hb); have n1_ := Aside0.mk (hbox); have n2_ := Aside0.mk ((by rw [hg]; exact (below_size bB0) : w.heap.size ≤ gb160)); have n3_ := Aside0.mk ((by rw [hg]; exact (below_size bB0) : w.heap.size ≤ gb160)); clear HB; have HB := n0_; have BK160 := n1_; have GW160 := n2_; have GE160 := n3_; clear n0_ n1_ n2_ n3_; clear hb hbox hg; have hcz8_0 : w7.cell? ⟨gb160, 0, none⟩ = some (.int .i64 a0_0) := (blk_cell BK160.out 0).trans rfl; have hcz8_1 : w7.cell? ⟨gb160, 1, none⟩ = some (.int .i64 a0_1) := (blk_cell BK160.out 1).trans rfl; have hcz8_2 : w7.cell? ⟨gb160, 2, none⟩ = some (.string a0_2) := (blk_cell BK160.out 2).trans rfl; have hfz8_0 := blk_frozen BK160.out 0; have hfz8_1 := blk_frozen BK160.out 1; have hfz8_2 := blk_frozen BK160.out 2) | ((with_reducible refine gate_callee (f := 63) rfl ?_); refine goesL_ (some 10) rfl rfl Try.func63 (by kernel_rfl) rfl #[.int .i64 a0_1, .int .i64 (-4611686018427387904), .int .i64 4611686018427387904] rfl aG ?_; (with_reducible refine (constableref01_In.calls a0_1 (-4611686018427387904) 4611686018427387904 false _ A3.out).mono ?_); rintro e w' ⟨rfl, ⟨nd, rfl⟩⟩; refine ⟨_, rfl, ?_⟩))
   go_ret
   exact ⟨eW, (bB1 GE160.out)⟩
 ·rw [if_neg c2] at H
  have c2b0 : (a0_0 == 1) = false := beq_eq_false_iff_ne.mpr c2
  have c2b1 : (a0_0 != 1) = true := bne_iff_ne.mpr c2
  by_cases c9 : a0_0 = 2
  ·rw [if_pos c9] at H
   have c9b0 : (a0_0 == 2) = true := beq_iff_eq.mpr c9
   have c9b1 : (a0_0 != 2) = false := bne_eq_false_iff_eq.mpr c9
   clear c9
   by_cases c10 : a0_1 = 0
   ·rw [if_pos c10] at H
    have c10b0 : (a0_1 == 0) = true := beq_iff_eq.mpr c10
    have c10b1 : (a0_1 != 0) = false := bne_eq_false_iff_eq.mpr c10
    clear c10
    replace H := Option.bind_eq_some_iff.mp H
    obtain ⟨t162, A110, H⟩ := H
    replace H : (some t162) = some r := H
    have A11 := Aside0.mk A110
    clear A110
    obtain rfl := Option.some.inj H
    go_enter Try.func26, Try.ntmps26
    go_wp2_with (first | ((with_reducible refine gate_dst (N := 1) rfl ?_); (try (refine gate_guard (by rfl) ?_; dsimp only)); refine bE (N := 1) (cs := #[.int .i64 a0_0, .int .i64 a0_1, .string a0_2]) (t := 24) ?_; intro gb160 hg w12 hbox hb; have n0_ := Aside0.mk (below_step bB0 hb); have n1_ := Aside0.mk (hbox); have n2_ := Aside0.mk ((by rw [hg]; exact (below_size bB0) : w.heap.size ≤ gb160)); have n3_ := Aside0.mk ((by rw [hg]; exact (below_size bB0) : w.heap.size ≤ gb160)); clear HB; have HB := n0_; have BK160 := n1_; have GW160 := n2_; have GE160 := n3_; clear n0_ n1_ n2_ n3_; clear hb hbox hg; have hcz13_0 : w12.cell? ⟨gb160, 0, none⟩ = some (.int .i64 a0_0) := (blk_cell BK160.out 0).trans rfl; have hcz13_1 : w12.cell? ⟨gb160, 1, none⟩ = some (.int .i64 a0_1) := (blk_cell BK160.out 1).trans rfl; have hcz13_2 : w12.cell? ⟨gb160, 2, none⟩ = some (.string a0_2) := (blk_cell BK160.out 2).trans rfl; have hfz13_0 := blk_frozen BK160.out 0; have hfz13_1 := blk_frozen BK160.out 1; have hfz13_2 := blk_frozen BK160.out 2) | (go_at_call 22; (with_reducible refine (constableref01_Word.calls k a0_2 false t162 _ A11.out).mono ?_); rintro e w' ⟨rfl, ⟨nd, rfl⟩⟩))
    go_ret
    exact ⟨eW, (bB1 GE160.out)⟩
   ·rw [if_neg c10] at H
    have c10b0 : (a0_1 == 0) = false := beq_eq_false_iff_ne.mpr c10
    have c10b1 : (a0_1 != 0) = true := bne_iff_ne.mpr c10
    obtain rfl := Option.some.inj H
    go_enter Try.func26, Try.ntmps26
    go_wp2_with (first | ((with_reducible refine gate_dst (N := 1) rfl ?_); (try (refine gate_guard (by rfl) ?_; dsimp only)); refine bE (N := 1) (cs := #[.int .i64 a0_0, .int .i64 a0_1, .string a0_2]) (t := 24) ?_; intro gb160 hg w14 hbox hb; have n0_ := Aside0.mk (below_step bB0 hb); have n1_ := Aside0.mk (hbox); have n2_ := Aside0.mk ((by rw [hg]; exact (below_size bB0) : w.heap.size ≤ gb160)); have n3_ := Aside0.mk ((by rw [hg]; exact (below_size bB0) : w.heap.size ≤ gb160)); clear HB; have HB := n0_; have BK160 := n1_; have GW160 := n2_; have GE160 := n3_; clear n0_ n1_ n2_ n3_; clear hb hbox hg; have hcz15_0 : w14.cell? ⟨gb160, 0, none⟩ = some (.int .i64 a0_0) := (blk_cell BK160.out 0).trans rfl; have hcz15_1 : w14.cell? ⟨gb160, 1, none⟩ = some (.int .i64 a0_1) := (blk_cell BK160.out 1).trans rfl; have hcz15_2 : w14.cell? ⟨gb160, 2, none⟩ = some (.string a0_2) := (blk_cell BK160.out 2).trans rfl; have hfz15_0 := blk_frozen BK160.out 0; have hfz15_1 := blk_frozen BK160.out 1; have hfz15_2 := blk_frozen BK160.out 2))
    go_ret
    exact ⟨eW, (bB1 GE160.out)⟩
  ·rw [if_neg c9] at H
   have c9b0 : (a0_0 == 2) = false := beq_eq_false_iff_ne.mpr c9
   have c9b1 : (a0_0 != 2) = true := bne_iff_ne.mpr c9
   by_cases c16 : a0_0 = 3
   ·rw [if_pos c16] at H
    have c16b0 : (a0_0 == 3) = true := beq_iff_eq.mpr c16
    have c16b1 : (a0_0 != 3) = false := bne_eq_false_iff_eq.mpr c16
    clear c16
    have HC17 := Aside0.mk H
    clear H
    go_enter Try.func26, Try.ntmps26
    go_upto_region 7 with (first | ((with_reducible refine gate_dst (N := 1) rfl ?_); (try (refine gate_guard (by rfl) ?_; dsimp only)); refine bE (N := 1) (cs := #[.int .i64 a0_0, .int .i64 a0_1, .string a0_2]) (t := 24) ?_; intro gb160 hg w18 hbox hb; have n0_ := Aside0.mk (below_step bB0 hb); have n1_ := Aside0.mk (hbox); have n2_ := Aside0.mk ((by rw [hg]; exact (below_size bB0) : w.heap.size ≤ gb160)); have n3_ := Aside0.mk ((by rw [hg]; exact (below_size bB0) : w.heap.size ≤ gb160)); clear HB; have HB := n0_; have BK160 := n1_; have GW160 := n2_; have GE160 := n3_; clear n0_ n1_ n2_ n3_; clear hb hbox hg; have hcz19_0 : w18.cell? ⟨gb160, 0, none⟩ = some (.int .i64 a0_0) := (blk_cell BK160.out 0).trans rfl; have hcz19_1 : w18.cell? ⟨gb160, 1, none⟩ = some (.int .i64 a0_1) := (blk_cell BK160.out 1).trans rfl; have hcz19_2 : w18.cell? ⟨gb160, 2, none⟩ = some (.string a0_2) := (blk_cell BK160.out 2).trans rfl; have hfz19_0 := blk_frozen BK160.out 0; have hfz19_1 := blk_frozen BK160.out 1; have hfz19_2 := blk_frozen BK160.out 2))
    (try simp only [Act.put, List.setIfInBounds_toArray, List.set_cons_zero, List.set_cons_succ])
    go_cut [37] (fun v37 wc => ∃ (kq : Nat) (x37_16 : Bool), v37 = .bool x37_16 ∧ Aside0 (constableref01_Value.j0 kq x37_16 a0_0 a0_1 a0_2 = some r) ∧ Aside0 (kq ≤ k) ∧ Aside0 (wc.heap[gb160]? = some (.cells #[.int .i64 a0_0, .int .i64 a0_1, .string a0_2] 24 (0, 0))) ∧ Aside0 (Below w.heap.size w wc))
    case first =>
     have H := HC17.out
     clear HC17
     by_cases c20 : a0_1 = 0
     ·rw [if_pos c20] at H
      have c20b0 : (a0_1 == 0) = true := beq_iff_eq.mpr c20
      have c20b1 : (a0_1 != 0) = false := bne_eq_false_iff_eq.mpr c20
      clear c20
      (first | rw [c20b0] | (simp only [i64_w, i32_w]; rw [c20b0]) | skip)
      have H' := Aside0.mk H
      clear H
      have hcz21_0 : w18.cell? ⟨gb160, 0, none⟩ = some (.int .i64 a0_0) := (blk_cell BK160.out 0).trans rfl
      have hcz21_1 : w18.cell? ⟨gb160, 1, none⟩ = some (.int .i64 a0_1) := (blk_cell BK160.out 1).trans rfl
      have hcz21_2 : w18.cell? ⟨gb160, 2, none⟩ = some (.string a0_2) := (blk_cell BK160.out 2).trans rfl
      have hfz21_0 := blk_frozen BK160.out 0
      have hfz21_1 := blk_frozen BK160.out 1
      have hfz21_2 := blk_frozen BK160.out 2
      go_wp2
      go_meet
      case rel => exact ⟨_, (decide ((a0_2.size : Int) > 60)), (by first | rfl | (simp; done) | (simp [*]; done)), H', ⟨by first | omega | exact Nat.le_refl _⟩, ⟨by refine bk ?_; exact BK160.out⟩, ⟨(bB1 GE160.out)⟩⟩
     ·rw [if_neg c20] at H
      have c20b0 : (a0_1 == 0) = false := beq_eq_false_iff_ne.mpr c20
      have c20b1 : (a0_1 != 0) = true := bne_iff_ne.mpr c20
      (first | rw [c20b0] | (simp only [i64_w, i32_w]; rw [c20b0]) | skip)
      have H' := Aside0.mk H
      clear H
      have hcz22_0 : w18.cell? ⟨gb160, 0, none⟩ = some (.int .i64 a0_0) := (blk_cell BK160.out 0).trans rfl
      have hcz22_1 : w18.cell? ⟨gb160, 1, none⟩ = some (.int .i64 a0_1) := (blk_cell BK160.out 1).trans rfl
      have hcz22_2 : w18.cell? ⟨gb160, 2, none⟩ = some (.string a0_2) := (blk_cell BK160.out 2).trans rfl
      have hfz22_0 := blk_frozen BK160.out 0
      have hfz22_1 := blk_frozen BK160.out 1
      have hfz22_2 := blk_frozen BK160.out 2
      go_wp2
      go_meet
      case rel => exact ⟨_, (true), (by first | rfl | (simp; done) | (simp [*]; done)), H', ⟨by first | omega | exact Nat.le_refl _⟩, ⟨by refine bk ?_; exact BK160.out⟩, ⟨(bB1 GE160.out)⟩⟩
    case rest =>
     clear HC17
     (try clear c1); (try clear c2); (try clear c2b0); (try clear c2b1); (try clear p2); (try clear c4); (try clear c6); (try clear c9); (try clear c9b0); (try clear c9b1); (try clear c10); (try clear c10b0); (try clear c10b1); (try clear c16); (try clear c16b0); (try clear c16b1); (try clear c20); (try clear c20b0); (try clear c20b1); (try clear hcz13_0); (try clear hcz13_1); (try clear hcz13_2); (try clear hcz15_0); (try clear hcz15_1); (try clear hcz15_2); (try clear hcz19_0); (try clear hcz19_1); (try clear hcz19_2); (try clear hcz21_0); (try clear hcz21_1); (try clear hcz21_2); (try clear hcz22_0); (try clear hcz22_1); (try clear hcz22_2); (try clear hcz6_0); (try clear hcz6_1); (try clear hcz6_2); (try clear hcz8_0); (try clear hcz8_1); (try clear hcz8_2); (try clear hfz13_0); (try clear hfz13_1); (try clear hfz13_2); (try clear hfz15_0); (try clear hfz15_1); (try clear hfz15_2); (try clear hfz19_0); (try clear hfz19_1); (try clear hfz19_2); (try clear hfz21_0); (try clear hfz21_1); (try clear hfz21_2); (try clear hfz22_0); (try clear hfz22_1); (try clear hfz22_2); (try clear hfz6_0); (try clear hfz6_1); (try clear hfz6_2); (try clear hfz8_0); (try clear hfz8_1); (try clear hfz8_2)
     obtain ⟨kq, x37_16, rfl, HA, HJ16, BK160, HB⟩ := hcut
     cases kq with
     | zero => exact absurd HA.out (by simp [constableref01_Value.j0])
     | succ kj16 =>
      have H := HA.out
      clear HA
      simp only [constableref01_Value.j0] at H
      by_cases c23 : x37_16 = true
      ·subst c23
       have H1 : (some false) = some r := by rw [if_pos rfl] at H; exact H
       clear H
       have H := H1
       clear H1
       obtain rfl := Option.some.inj H
       go_wp2
       go_ret
       exact ⟨eW, (bB1 GE160.out)⟩
      ·replace c23 := Bool.eq_false_iff.mpr c23
       subst c23
       have H1 : (constableref01_Value.l0 kj16 0 a0_0 a0_1 a0_2) = some r := by rw [if_neg (show ¬ (false = true) by decide)] at H; exact H
       clear H
       have H := H1
       clear H1
       have H' := Aside0.mk H
       clear H
       go_wp2
       go_loopg [3] kj16 (fun kq v3 w' => ∃ (x3_2 : Int), v3 = .int .i64 x3_2 ∧ Aside0 (constableref01_Value.l0 kq x3_2 a0_0 a0_1 a0_2 = some r) ∧ Aside0 (kq ≤ kj16) ∧ Aside0 (w'.heap[gb160]? = some (.cells #[.int .i64 a0_0, .int .i64 a0_1, .string a0_2] 24 (0, 0))) ∧ Aside0 (Below w.heap.size w w'))
       case atStart => exact ⟨(0), (by first | rfl | (simp; done) | (simp [*]; done)), H', ⟨Nat.le_refl _⟩, ⟨by refine bk ?_; exact BK160.out⟩, ⟨(bB1 GE160.out)⟩⟩
       case round =>
        clear H'
        (try clear c1); (try clear c2); (try clear c2b0); (try clear c2b1); (try clear p2); (try clear c4); (try clear c6); (try clear c9); (try clear c9b0); (try clear c9b1); (try clear c10); (try clear c10b0); (try clear c10b1); (try clear c16); (try clear c16b0); (try clear c16b1); (try clear c20); (try clear c20b0); (try clear c20b1); (try clear c23); (try clear hcz13_0); (try clear hcz13_1); (try clear hcz13_2); (try clear hcz15_0); (try clear hcz15_1); (try clear hcz15_2); (try clear hcz19_0); (try clear hcz19_1); (try clear hcz19_2); (try clear hcz21_0); (try clear hcz21_1); (try clear hcz21_2); (try clear hcz22_0); (try clear hcz22_1); (try clear hcz22_2); (try clear hcz6_0); (try clear hcz6_1); (try clear hcz6_2); (try clear hcz8_0); (try clear hcz8_1); (try clear hcz8_2); (try clear hfz13_0); (try clear hfz13_1); (try clear hfz13_2); (try clear hfz15_0); (try clear hfz15_1); (try clear hfz15_2); (try clear hfz19_0); (try clear hfz19_1); (try clear hfz19_2); (try clear hfz21_0); (try clear hfz21_1); (try clear hfz21_2); (try clear hfz22_0); (try clear hfz22_1); (try clear hfz22_2); (try clear hfz6_0); (try clear hfz6_1); (try clear hfz6_2); (try clear hfz8_0); (try clear hfz8_1); (try clear hfz8_2); (try clear p2)
        obtain ⟨x3_2, rfl, HA, HK2, BK160, HB⟩ := hrel
        cases gk with
        | zero => exact absurd HA.out (by simp [constableref01_Value.l0])
        | succ k2 =>
         have H := HA.out
         clear HA
         simp only [constableref01_Value.l0] at H
         by_cases c24 : x3_2 < (a0_2.size : Int)
         ·rw [if_pos c24] at H
          have c24b0 : decide (x3_2 < (a0_2.size : Int)) = true := decide_eq_true c24
          clear c24
          by_cases c25 : 0 ≤ x3_2
          ·rw [if_pos c25] at H
           have c25b0 : decide (0 ≤ x3_2) = true := decide_eq_true c25
           clear c25
           replace H := Option.bind_eq_some_iff.mp H
           obtain ⟨t163, A270, H⟩ := H
           replace H : (if t163 = true then (constableref01_Value.l0 k2 (wrap64 (x3_2 + 1)) a0_0 a0_1 a0_2) else (some false)) = some r := H
           have A27 := Aside0.mk A270
           clear A270
           by_cases c28 : t163 = true
           ·subst c28
            have H1 : (constableref01_Value.l0 k2 (wrap64 (x3_2 + 1)) a0_0 a0_1 a0_2) = some r := by rw [if_pos rfl] at H; exact H
            clear H
            have H := H1
            clear H1
            have H' := Aside0.mk H
            clear H
            have hcz29_0 : wr.cell? ⟨gb160, 0, none⟩ = some (.int .i64 a0_0) := (blk_cell BK160.out 0).trans rfl
            have hcz29_1 : wr.cell? ⟨gb160, 1, none⟩ = some (.int .i64 a0_1) := (blk_cell BK160.out 1).trans rfl
            have hcz29_2 : wr.cell? ⟨gb160, 2, none⟩ = some (.string a0_2) := (blk_cell BK160.out 2).trans rfl
            have hfz29_0 := blk_frozen BK160.out 0
            have hfz29_1 := blk_frozen BK160.out 1
            have hfz29_2 := blk_frozen BK160.out 2
            have p26 : 0 ≤ (x3_2 : Int) := of_decide_eq_true (by first | (with_reducible assumption) | assumption)
            have q26 : x3_2 < (a0_2.size : Int) := of_decide_eq_true (by first | (with_reducible assumption) | assumption)
            have hx26 := bt_at a0_2 x3_2
            replace p26 := eq_true p26
            replace q26 := eq_true q26
            go_wp2_with (first | ((with_reducible refine gate_callee (f := 63) rfl ?_); refine goesL_ (some 50) rfl rfl Try.func63 (by kernel_rfl) rfl #[.int .i64 (wrap64 (bt a0_2 x3_2)), .int .i64 32, .int .i64 126] rfl aG ?_; (with_reducible refine (constableref01_In.calls (wrap64 (bt a0_2 x3_2)) 32 126 true _ A27.out).mono ?_); rintro e w' ⟨rfl, ⟨nd, rfl⟩⟩; refine ⟨_, rfl, ?_⟩))
            go_roundg k2
            case measure => have := HJ16.out; have := HK2.out; omega
            case rel => exact ⟨(wrap64 (x3_2 + 1)), (by first | rfl | (simp; done) | (simp [*]; done)), H', ⟨by have := HJ16.out; have := HK2.out; omega⟩, ⟨by refine bk ?_; exact BK160.out⟩, ⟨(bB1 GE160.out)⟩⟩
           ·replace c28 := Bool.eq_false_iff.mpr c28
            subst c28
            have H1 : (some false) = some r := by rw [if_neg (show ¬ (false = true) by decide)] at H; exact H
            clear H
            have H := H1
            clear H1
            obtain rfl := Option.some.inj H
            have hcz30_0 : wr.cell? ⟨gb160, 0, none⟩ = some (.int .i64 a0_0) := (blk_cell BK160.out 0).trans rfl
            have hcz30_1 : wr.cell? ⟨gb160, 1, none⟩ = some (.int .i64 a0_1) := (blk_cell BK160.out 1).trans rfl
            have hcz30_2 : wr.cell? ⟨gb160, 2, none⟩ = some (.string a0_2) := (blk_cell BK160.out 2).trans rfl
            have hfz30_0 := blk_frozen BK160.out 0
            have hfz30_1 := blk_frozen BK160.out 1
            have hfz30_2 := blk_frozen BK160.out 2
            have p26 : 0 ≤ (x3_2 : Int) := of_decide_eq_true (by first | (with_reducible assumption) | assumption)
            have q26 : x3_2 < (a0_2.size : Int) := of_decide_eq_true (by first | (with_reducible assumption) | assumption)
            have hx26 := bt_at a0_2 x3_2
            replace p26 := eq_true p26
            replace q26 := eq_true q26
            go_wp2_with (first | ((with_reducible refine gate_callee (f := 63) rfl ?_); refine goesL_ (some 50) rfl rfl Try.func63 (by kernel_rfl) rfl #[.int .i64 (wrap64 (bt a0_2 x3_2)), .int .i64 32, .int .i64 126] rfl aG ?_; (with_reducible refine (constableref01_In.calls (wrap64 (bt a0_2 x3_2)) 32 126 false _ A27.out).mono ?_); rintro e w' ⟨rfl, ⟨nd, rfl⟩⟩; refine ⟨_, rfl, ?_⟩))
            go_ret
            exact ⟨eW, (bB1 GE160.out)⟩
          ·rw [if_neg c25] at H
           exact absurd H (by simp)
         ·rw [if_neg c24] at H
          have c24b0 : decide (x3_2 < (a0_2.size : Int)) = false := decide_eq_false c24
          clear c24
          obtain rfl := Option.some.inj H
          have hcz31_0 : wr.cell? ⟨gb160, 0, none⟩ = some (.int .i64 a0_0) := (blk_cell BK160.out 0).trans rfl
          have hcz31_1 : wr.cell? ⟨gb160, 1, none⟩ = some (.int .i64 a0_1) := (blk_cell BK160.out 1).trans rfl
          have hcz31_2 : wr.cell? ⟨gb160, 2, none⟩ = some (.string a0_2) := (blk_cell BK160.out 2).trans rfl
          have hfz31_0 := blk_frozen BK160.out 0
          have hfz31_1 := blk_frozen BK160.out 1
          have hfz31_2 := blk_frozen BK160.out 2
          go_wp2
          go_ret
          exact ⟨eW, (bB1 GE160.out)⟩
   ·rw [if_neg c16] at H
    have c16b0 : (a0_0 == 3) = false := beq_eq_false_iff_ne.mpr c16
    have c16b1 : (a0_0 != 3) = true := bne_iff_ne.mpr c16
    obtain rfl := Option.some.inj H
    go_enter Try.func26, Try.ntmps26
    go_wp2_with (first | ((with_reducible refine gate_dst (N := 1) rfl ?_); (try (refine gate_guard (by rfl) ?_; dsimp only)); refine bE (N := 1) (cs := #[.int .i64 a0_0, .int .i64 a0_1, .string a0_2]) (t := 24) ?_; intro gb160 hg w32 hbox hb; have n0_ := Aside0.mk (below_step bB0 hb); have n1_ := Aside0.mk (hbox); have n2_ := Aside0.mk ((by rw [hg]; exact (below_size bB0) : w.heap.size ≤ gb160)); have n3_ := Aside0.mk ((by rw [hg]; exact (below_size bB0) : w.heap.size ≤ gb160)); clear HB; have HB := n0_; have BK160 := n1_; have GW160 := n2_; have GE160 := n3_; clear n0_ n1_ n2_ n3_; clear hb hbox hg; have hcz33_0 : w32.cell? ⟨gb160, 0, none⟩ = some (.int .i64 a0_0) := (blk_cell BK160.out 0).trans rfl; have hcz33_1 : w32.cell? ⟨gb160, 1, none⟩ = some (.int .i64 a0_1) := (blk_cell BK160.out 1).trans rfl; have hcz33_2 : w32.cell? ⟨gb160, 2, none⟩ = some (.string a0_2) := (blk_cell BK160.out 2).trans rfl; have hfz33_0 := blk_frozen BK160.out 0; have hfz33_1 := blk_frozen BK160.out 1; have hfz33_2 := blk_frozen BK160.out 2))
    go_ret
    exact ⟨eW, (bB1 GE160.out)⟩

end Go.Proofs.Ytghommaokdhjmaa.P
namespace Go.Proofs.Ytghommaokdhjmaa.P
open Go.RowKit Go.Proofs.YtghommaokdhjmaaW.PrintWords Go.Proofs.YtghommaokdhjmaaW.PrintLast Go.Proofs.Ytghommaokdhjmaa.Gate
set_option linter.unusedVariables false
set_option linter.unusedSimpArgs false

attribute [local go_sem high] eqA24
/-! ### constableref01_Term: function 86 -/
def constableref01_Term.f (k : Nat) (a0_0 : ByteArray) (a0_1 : Int) (a0_2 : Int) (a0_3 : ByteArray) : Option (Bool) := if (a0_0.size : Int) > 0 then ((constableref01_Word.f k a0_0 true).bind fun t878 => (if t878 = true then (some (a0_1 == 0 && (a0_2 == 0 && (a0_3.toList == ([] : List UInt8))))) else (some false))) else ((constableref01_Value.f k a0_1 a0_2 a0_3).bind fun t879 => (some t879))
theorem constableref01_Term.mono : ∀ a0 a1 a2 a3 k, LeO (constableref01_Term.f k a0 a1 a2 a3) (constableref01_Term.f (k + 1) a0 a1 a2 a3) := by
 intro a0 a1 a2 a3 k
 unfold constableref01_Term.f
 repeat' first
   | (with_reducible exact constableref01_Value.mono _ _ _ _)
   | (with_reducible exact constableref01_Word.mono _ _ _)
   | (with_reducible exact LeO.refl _)
   | (with_reducible exact LeO.none _)
   | (with_reducible refine LeO.ite ?_ ?_)
   | (with_reducible refine LeO.bind ?_ (fun _ => ?_))
set_option maxHeartbeats 8000000 in
set_option maxRecDepth 100000 in
theorem constableref01_Term.calls (k : Nat) (a0_0 : ByteArray) (a0_1 : Int) (a0_2 : Int) (a0_3 : ByteArray) (r : Bool) (w : World) (h : constableref01_Term.f k a0_0 a0_1 a0_2 a0_3 = some r) :
  Calls Try.prog 86 #[.agg #[.string a0_0, .int .i64 a0_1, .int .i64 a0_2, .string a0_3]] w fun e w' => e = .returned (.bool r) ∧ Below w.heap.size w w' := by
 have hu77 := Try.underlying77
 have hu24 := Try.underlying24
 have HB := Aside0.mk (Below.refl w.heap.size w)
 have H : (if (a0_0.size : Int) > 0 then ((constableref01_Word.f k a0_0 true).bind fun t878 => (if t878 = true then (some (a0_1 == 0 && (a0_2 == 0 && (a0_3.toList == ([] : List UInt8))))) else (some false))) else ((constableref01_Value.f k a0_1 a0_2 a0_3).bind fun t879 => (some t879))) = some r := h
 clear h
 by_cases c2 : (a0_0.size : Int) > 0
 ·rw [if_pos c2] at H
  have c2b0 : decide (0 < (a0_0.size : Int)) = true := decide_eq_true c2
  have c2b1 : decide (0 < a0_0.size) = true := decide_eq_true (by omega)
  clear c2
  replace H := Option.bind_eq_some_iff.mp H
  obtain ⟨t878, A30, H⟩ := H
  replace H : (if t878 = true then (some (a0_1 == 0 && (a0_2 == 0 && (a0_3.toList == ([] : List UInt8))))) else (some false)) = some r := H
  have A3 := Aside0.mk A30
  clear A30
  by_cases c4 : t878 = true
  ·subst c4
   have H1 : (some (a0_1 == 0 && (a0_2 == 0 && (a0_3.toList == ([] : List UInt8))))) = some r := by rw [if_pos rfl] at H; exact H
   clear H
   have H := H1
   clear H1
   obtain rfl := Option.some.inj H
   go_enter Try.func86, Try.ntmps86
   go_wp2_with (first | ((with_reducible refine gate_dst (N := 1) rfl ?_); refine bE (N := 1) (cs := #[.string a0_0, .int .i64 a0_1, .int .i64 a0_2, .string a0_3]) (t := 77) ?_; intro gb877 hg w5 hbox hb; have n0_ := Aside0.mk (below_step bB0 hb); have n1_ := Aside0.mk (hbox); have n2_ := Aside0.mk ((by rw [hg]; exact (below_size bB0) : w.heap.size ≤ gb877)); have n3_ := Aside0.mk ((by rw [hg]; exact (below_size bB0) : w.heap.size ≤ gb877)); clear HB; have HB := n0_; have BK877 := n1_; have GW877 := n2_; have GE877 := n3_; clear n0_ n1_ n2_ n3_; clear hb hbox hg; have hcz6_0 : w5.cell? ⟨gb877, 0, none⟩ = some (.string a0_0) := (blk_cell BK877.out 0).trans rfl; have hcz6_1 : w5.cell? ⟨gb877, 1, none⟩ = some (.int .i64 a0_1) := (blk_cell BK877.out 1).trans rfl; have hcz6_2 : w5.cell? ⟨gb877, 2, none⟩ = some (.int .i64 a0_2) := (blk_cell BK877.out 2).trans rfl; have hcz6_3 : w5.cell? ⟨gb877, 3, none⟩ = some (.string a0_3) := (blk_cell BK877.out 3).trans rfl; have hfz6_0 := blk_frozen BK877.out 0; have hfz6_1 := blk_frozen BK877.out 1; have hfz6_2 := blk_frozen BK877.out 2; have hfz6_3 := blk_frozen BK877.out 3) | ((with_reducible refine gate_callee (f := 22) rfl ?_); refine goesL_ (some 9) rfl rfl Try.func22 (by kernel_rfl) rfl #[.string a0_0, .bool true] rfl aG ?_; (with_reducible refine (constableref01_Word.calls k a0_0 true true _ A3.out).mono ?_); rintro e w' ⟨rfl, ⟨nd, rfl⟩⟩; refine ⟨_, rfl, ?_⟩))
   go_ret
   exact ⟨eW, (bB1 GE877.out)⟩
  ·replace c4 := Bool.eq_false_iff.mpr c4
   subst c4
   have H1 : (some false) = some r := by rw [if_neg (show ¬ (false = true) by decide)] at H; exact H
   clear H
   have H := H1
   clear H1
   obtain rfl := Option.some.inj H
   go_enter Try.func86, Try.ntmps86
   go_wp2_with (first | ((with_reducible refine gate_dst (N := 1) rfl ?_); refine bE (N := 1) (cs := #[.string a0_0, .int .i64 a0_1, .int .i64 a0_2, .string a0_3]) (t := 77) ?_; intro gb877 hg w7 hbox hb; have n0_ := Aside0.mk (below_step bB0 hb); have n1_ := Aside0.mk (hbox); have n2_ := Aside0.mk ((by rw [hg]; exact (below_size bB0) : w.heap.size ≤ gb877)); have n3_ := Aside0.mk ((by rw [hg]; exact (below_size bB0) : w.heap.size ≤ gb877)); clear HB; have HB := n0_; have BK877 := n1_; have GW877 := n2_; have GE877 := n3_; clear n0_ n1_ n2_ n3_; clear hb hbox hg; have hcz8_0 : w7.cell? ⟨gb877, 0, none⟩ = some (.string a0_0) := (blk_cell BK877.out 0).trans rfl; have hcz8_1 : w7.cell? ⟨gb877, 1, none⟩ = some (.int .i64 a0_1) := (blk_cell BK877.out 1).trans rfl; have hcz8_2 : w7.cell? ⟨gb877, 2, none⟩ = some (.int .i64 a0_2) := (blk_cell BK877.out 2).trans rfl; have hcz8_3 : w7.cell? ⟨gb877, 3, none⟩ = some (.string a0_3) := (blk_cell BK877.out 3).trans rfl; have hfz8_0 := blk_frozen BK877.out 0; have hfz8_1 := blk_frozen BK877.out 1; have hfz8_2 := blk_frozen BK877.out 2; have hfz8_3 := blk_frozen BK877.out 3) | ((with_reducible refine gate_callee (f := 22) rfl ?_); refine goesL_ (some 9) rfl rfl Try.func22 (by kernel_rfl) rfl #[.string a0_0, .bool true] rfl aG ?_; (with_reducible refine (constableref01_Word.calls k a0_0 true false _ A3.out).mono ?_); rintro e w' ⟨rfl, ⟨nd, rfl⟩⟩; refine ⟨_, rfl, ?_⟩))
   go_ret
   exact ⟨eW, (bB1 GE877.out)⟩
 ·rw [if_neg c2] at H
  have c2b0 : decide (0 < (a0_0.size : Int)) = false := decide_eq_false c2
  have c2b1 : decide (0 < a0_0.size) = false := decide_eq_false (by omega)
  clear c2
  replace H := Option.bind_eq_some_iff.mp H
  obtain ⟨t879, A90, H⟩ := H
  replace H : (some t879) = some r := H
  have A9 := Aside0.mk A90
  clear A90
  obtain rfl := Option.some.inj H
  go_enter Try.func86, Try.ntmps86
  go_wp2_with (first | ((with_reducible refine gate_dst (N := 1) rfl ?_); refine bE (N := 1) (cs := #[.string a0_0, .int .i64 a0_1, .int .i64 a0_2, .string a0_3]) (t := 77) ?_; intro gb877 hg w10 hbox hb; have n0_ := Aside0.mk (below_step bB0 hb); have n1_ := Aside0.mk (hbox); have n2_ := Aside0.mk ((by rw [hg]; exact (below_size bB0) : w.heap.size ≤ gb877)); have n3_ := Aside0.mk ((by rw [hg]; exact (below_size bB0) : w.heap.size ≤ gb877)); clear HB; have HB := n0_; have BK877 := n1_; have GW877 := n2_; have GE877 := n3_; clear n0_ n1_ n2_ n3_; clear hb hbox hg; have hcz11_0 : w10.cell? ⟨gb877, 0, none⟩ = some (.string a0_0) := (blk_cell BK877.out 0).trans rfl; have hcz11_1 : w10.cell? ⟨gb877, 1, none⟩ = some (.int .i64 a0_1) := (blk_cell BK877.out 1).trans rfl; have hcz11_2 : w10.cell? ⟨gb877, 2, none⟩ = some (.int .i64 a0_2) := (blk_cell BK877.out 2).trans rfl; have hcz11_3 : w10.cell? ⟨gb877, 3, none⟩ = some (.string a0_3) := (blk_cell BK877.out 3).trans rfl; have hfz11_0 := blk_frozen BK877.out 0; have hfz11_1 := blk_frozen BK877.out 1; have hfz11_2 := blk_frozen BK877.out 2; have hfz11_3 := blk_frozen BK877.out 3) | ((with_reducible refine gate_callee (f := 26) rfl ?_); refine goesL_ (some 18) rfl rfl Try.func26 (by kernel_rfl) rfl #[.agg #[.int .i64 a0_1, .int .i64 a0_2, .string a0_3]] rfl aG ?_; (with_reducible refine (constableref01_Value.calls k a0_1 a0_2 a0_3 t879 _ A9.out).mono ?_); rintro e w12 ⟨rfl, hb⟩; refine ⟨_, rfl, ?_⟩; have n0_ := Aside0.mk (blk_below (g := gb877) (o := .cells #[.string a0_0, .int .i64 a0_1, .int .i64 a0_2, .string a0_3] 77 (0, 0)) (by refine bk ?_; exact BK877.out) hb); have n1_ := Aside0.mk (below_step (bB1 GE877.out) hb); clear BK877; clear HB; have BK877 := n0_; have HB := n1_; clear n0_ n1_; (try clear hb); (try clear hb2); (try clear hk); (try clear hi)))
  go_ret
  exact ⟨eW, (bB1 GE877.out)⟩

end Go.Proofs.Ytghommaokdhjmaa.P
namespace Go.Proofs.Ytghommaokdhjmaa.P
open Go.RowKit Go.Proofs.YtghommaokdhjmaaW.PrintWords Go.Proofs.YtghommaokdhjmaaW.PrintLast Go.Proofs.Ytghommaokdhjmaa.Gate
set_option linter.unusedVariables false
set_option linter.unusedSimpArgs false

/-! ### constableref01_Atom: function 54 -/
mutual
def constableref01_Atom.j0 : Nat → Bool → ByteArray → List (S77) → Option (Bool)
 | 0, _, _, _ => none
 | k + 1, x13, x881000, x881001 => if x13 = true then (some false) else (constableref01_Atom.l0 k 0 x881000 x881001)
def constableref01_Atom.l0 : Nat → Int → ByteArray → List (S77) → Option (Bool)
 | 0, _, _, _ => none
 | k + 1, x3, x881000, x881001 => if x3 < (x881001.length : Int) then (if 0 ≤ x3 then ((constableref01_Term.f k ((rd_T77 x881001 x3).f0) ((rd_T77 x881001 x3).f1.f0) ((rd_T77 x881001 x3).f1.f1) ((rd_T77 x881001 x3).f1.f2)).bind fun t883 => (if t883 = true then (constableref01_Atom.l0 k (wrap64 (x3 + 1)) x881000 x881001) else (some false))) else (none)) else (some true)
end
def constableref01_Atom.f (k : Nat) (a0_0 : ByteArray) (l0_1 : List (S77)) : Option (Bool) := (constableref01_Name.f k a0_0).bind fun t881 => (if t881 = true then (constableref01_Atom.j0 k (decide ((l0_1.length : Int) > 5)) a0_0 l0_1) else (constableref01_Atom.j0 k true a0_0 l0_1))
theorem constableref01_Atom.mono_l : ∀ k, (∀ y0 y1 y2, LeO (constableref01_Atom.j0 k y0 y1 y2) (constableref01_Atom.j0 (k + 1) y0 y1 y2)) ∧ (∀ y0 y1 y2, LeO (constableref01_Atom.l0 k y0 y1 y2) (constableref01_Atom.l0 (k + 1) y0 y1 y2))
 | 0 => ⟨fun _ _ _ r h => by simp [constableref01_Atom.j0] at h, fun _ _ _ r h => by simp [constableref01_Atom.l0] at h⟩
 | k + 1 => by
  obtain ⟨ih0, ih1⟩ := constableref01_Atom.mono_l k
  refine ⟨?_, ?_⟩
  ·intro y0 y1 y2
   unfold constableref01_Atom.j0
   repeat' first
   | (with_reducible exact ih0 _ _ _)
   | (with_reducible exact ih1 _ _ _)
   | (with_reducible exact constableref01_Name.mono _ _)
   | (with_reducible exact constableref01_Term.mono _ _ _ _ _)
   | (with_reducible exact LeO.refl _)
   | (with_reducible exact LeO.none _)
   | (with_reducible refine LeO.ite ?_ ?_)
   | (with_reducible refine LeO.bind ?_ (fun _ => ?_))
  ·intro y0 y1 y2
   unfold constableref01_Atom.l0
   repeat' first
   | (with_reducible exact ih0 _ _ _)
   | (with_reducible exact ih1 _ _ _)
   | (with_reducible exact constableref01_Name.mono _ _)
   | (with_reducible exact constableref01_Term.mono _ _ _ _ _)
   | (with_reducible exact LeO.refl _)
   | (with_reducible exact LeO.none _)
   | (with_reducible refine LeO.ite ?_ ?_)
   | (with_reducible refine LeO.bind ?_ (fun _ => ?_))
theorem constableref01_Atom.mono : ∀ a0 a1 k, LeO (constableref01_Atom.f k a0 a1) (constableref01_Atom.f (k + 1) a0 a1) := by
 intro a0 a1 k
 obtain ⟨ih0, ih1⟩ := constableref01_Atom.mono_l k
 unfold constableref01_Atom.f
 repeat' first
   | (with_reducible exact ih0 _ _ _)
   | (with_reducible exact ih1 _ _ _)
   | (with_reducible exact constableref01_Name.mono _ _)
   | (with_reducible exact constableref01_Term.mono _ _ _ _ _)
   | (with_reducible exact LeO.refl _)
   | (with_reducible exact LeO.none _)
   | (with_reducible refine LeO.ite ?_ ?_)
   | (with_reducible refine LeO.bind ?_ (fun _ => ?_))
set_option maxHeartbeats 8000000 in
set_option maxRecDepth 100000 in
theorem constableref01_Atom.calls (k : Nat) (a0_0 : ByteArray) (A0_1 : Option Addr) (c0_1 : Nat) (l0_1 : List (S77)) (r : Bool) (w : World) (hr0_1 : Kd.C k77 w A0_1 l0_1.length l0_1) (hc0_1 : l0_1.length ≤ c0_1) (h : constableref01_Atom.f k a0_0 l0_1 = some r) :
  Calls Try.prog 54 #[.agg #[.string a0_0, .slice A0_1 l0_1.length c0_1]] w fun e w' => e = .returned (.bool r) ∧ Below w.heap.size w w' := by
 have hu69 := Try.underlying69
 have hu77 := Try.underlying77
 have HR0_1 := Aside0.mk hr0_1
 have HC0_1 := Aside0.mk hc0_1
 clear hr0_1 hc0_1
 have HB := Aside0.mk (Below.refl w.heap.size w)
 have H : ((constableref01_Name.f k a0_0).bind fun t881 => (if t881 = true then (constableref01_Atom.j0 k (decide ((l0_1.length : Int) > 5)) a0_0 l0_1) else (constableref01_Atom.j0 k true a0_0 l0_1))) = some r := h
 clear h
 have HC2 := Aside0.mk H
 clear H
 go_enter Try.func54, Try.ntmps54
 go_upto_region 1 with (first | ((with_reducible refine gate_dst (N := 1) rfl ?_); (try (refine gate_guard (by rfl) ?_; dsimp only)); refine bE (N := 1) (cs := #[.string a0_0, .slice A0_1 l0_1.length c0_1]) (t := 69) ?_; intro gb880 hg w3 hbox hb; have n0_ := Aside0.mk (below_step bB0 hb); have n1_ := Aside0.mk (hbox); have n2_ := Aside0.mk ((by rw [hg]; exact (below_size bB0) : w.heap.size ≤ gb880)); have n3_ := Aside0.mk ((by rw [hg]; exact (below_size bB0) : w.heap.size ≤ gb880)); clear HB; have HB := n0_; have BK880 := n1_; have GW880 := n2_; have GE880 := n3_; clear n0_ n1_ n2_ n3_; clear hb hbox hg))
 (try simp only [Act.put, List.setIfInBounds_toArray, List.set_cons_zero, List.set_cons_succ])
 go_cut [13] (fun v13 wc => ∃ (kq : Nat) (x13_1 : Bool), v13 = .bool x13_1 ∧ Aside0 (constableref01_Atom.j0 kq x13_1 a0_0 l0_1 = some r) ∧ Aside0 (kq ≤ k) ∧ Aside0 (wc.heap[gb880]? = some (.cells #[.string a0_0, (.slice A0_1 l0_1.length c0_1)] 69 (0, 0))) ∧ Aside0 (Below w.heap.size w wc))
 case first =>
  have H := HC2.out
  clear HC2
  replace H := Option.bind_eq_some_iff.mp H
  obtain ⟨t881, A40, H⟩ := H
  replace H : (if t881 = true then (constableref01_Atom.j0 k (decide ((l0_1.length : Int) > 5)) a0_0 l0_1) else (constableref01_Atom.j0 k true a0_0 l0_1)) = some r := H
  have A4 := Aside0.mk A40
  clear A40
  by_cases c5 : t881 = true
  ·subst c5
   have H1 : (constableref01_Atom.j0 k (decide ((l0_1.length : Int) > 5)) a0_0 l0_1) = some r := by rw [if_pos rfl] at H; exact H
   clear H
   have H := H1
   clear H1
   have H' := Aside0.mk H
   clear H
   have hcz6_0 : w3.cell? ⟨gb880, 0, none⟩ = some (.string a0_0) := (blk_cell BK880.out 0).trans rfl
   have hcz6_1 : w3.cell? ⟨gb880, 1, none⟩ = some (.slice A0_1 l0_1.length c0_1) := (blk_cell BK880.out 1).trans rfl
   have hfz6_0 := blk_frozen BK880.out 0
   have hfz6_1 := blk_frozen BK880.out 1
   go_wp2_with (first | ((with_reducible refine gate_callee (f := 74) rfl ?_); refine goesL_ (some 6) rfl rfl Try.func74 (by kernel_rfl) rfl #[.string a0_0] rfl aG ?_; (with_reducible refine (constableref01_Name.calls k a0_0 true _ A4.out).mono ?_); rintro e w7 ⟨rfl, hb⟩; refine ⟨_, rfl, ?_⟩; have n0_ := Aside0.mk (blk_below (g := gb880) (o := .cells #[.string a0_0, .slice A0_1 l0_1.length c0_1] 69 (0, 0)) (by refine bk ?_; exact BK880.out) hb); have n1_ := Aside0.mk (below_step (bB1 GE880.out) hb); clear BK880; clear HB; have BK880 := n0_; have HB := n1_; clear n0_ n1_; (try clear hb); (try clear hb2); (try clear hk); (try clear hi); have hcz8_0 : w7.cell? ⟨gb880, 0, none⟩ = some (.string a0_0) := (blk_cell BK880.out 0).trans rfl; have hcz8_1 : w7.cell? ⟨gb880, 1, none⟩ = some (.slice A0_1 l0_1.length c0_1) := (blk_cell BK880.out 1).trans rfl; have hfz8_0 := blk_frozen BK880.out 0; have hfz8_1 := blk_frozen BK880.out 1))
   go_meet
   case rel => exact ⟨_, (decide ((l0_1.length : Int) > 5)), (by first | rfl | (simp; done) | (simp [*]; done)), H', ⟨by first | omega | exact Nat.le_refl _⟩, ⟨by refine bk ?_; exact BK880.out⟩, ⟨(bB1 GE880.out)⟩⟩
  ·replace c5 := Bool.eq_false_iff.mpr c5
   subst c5
   have H1 : (constableref01_Atom.j0 k true a0_0 l0_1) = some r := by rw [if_neg (show ¬ (false = true) by decide)] at H; exact H
   clear H
   have H := H1
   clear H1
   have H' := Aside0.mk H
   clear H
   have hcz9_0 : w3.cell? ⟨gb880, 0, none⟩ = some (.string a0_0) := (blk_cell BK880.out 0).trans rfl
   have hcz9_1 : w3.cell? ⟨gb880, 1, none⟩ = some (.slice A0_1 l0_1.length c0_1) := (blk_cell BK880.out 1).trans rfl
   have hfz9_0 := blk_frozen BK880.out 0
   have hfz9_1 := blk_frozen BK880.out 1
   go_wp2_with (first | ((with_reducible refine gate_callee (f := 74) rfl ?_); refine goesL_ (some 6) rfl rfl Try.func74 (by kernel_rfl) rfl #[.string a0_0] rfl aG ?_; (with_reducible refine (constableref01_Name.calls k a0_0 false _ A4.out).mono ?_); rintro e w10 ⟨rfl, hb⟩; refine ⟨_, rfl, ?_⟩; have n0_ := Aside0.mk (blk_below (g := gb880) (o := .cells #[.string a0_0, .slice A0_1 l0_1.length c0_1] 69 (0, 0)) (by refine bk ?_; exact BK880.out) hb); have n1_ := Aside0.mk (below_step (bB1 GE880.out) hb); clear BK880; clear HB; have BK880 := n0_; have HB := n1_; clear n0_ n1_; (try clear hb); (try clear hb2); (try clear hk); (try clear hi)))
   go_meet
   case rel => exact ⟨_, (true), (by first | rfl | (simp; done) | (simp [*]; done)), H', ⟨by first | omega | exact Nat.le_refl _⟩, ⟨by refine bk ?_; exact BK880.out⟩, ⟨(bB1 GE880.out)⟩⟩
 case rest =>
  clear HC2
  (try clear p2); (try clear c5); (try clear c7); (try clear hcz6_0); (try clear hcz6_1); (try clear hcz8_0); (try clear hcz8_1); (try clear hcz9_0); (try clear hcz9_1); (try clear hfz6_0); (try clear hfz6_1); (try clear hfz8_0); (try clear hfz8_1); (try clear hfz9_0); (try clear hfz9_1)
  obtain ⟨kq, x13_1, rfl, HA, HJ1, BK880, HB⟩ := hcut
  cases kq with
  | zero => exact absurd HA.out (by simp [constableref01_Atom.j0])
  | succ kj1 =>
   have H := HA.out
   clear HA
   simp only [constableref01_Atom.j0] at H
   by_cases c11 : x13_1 = true
   ·subst c11
    have H1 : (some false) = some r := by rw [if_pos rfl] at H; exact H
    clear H
    have H := H1
    clear H1
    obtain rfl := Option.some.inj H
    go_wp2
    go_ret
    exact ⟨eW, (bB1 GE880.out)⟩
   ·replace c11 := Bool.eq_false_iff.mpr c11
    subst c11
    have H1 : (constableref01_Atom.l0 kj1 0 a0_0 l0_1) = some r := by rw [if_neg (show ¬ (false = true) by decide)] at H; exact H
    clear H
    have H := H1
    clear H1
    have H' := Aside0.mk H
    clear H
    go_wp2
    go_loopg [3] kj1 (fun kq v3 w' => ∃ (x3_2 : Int), v3 = .int .i64 x3_2 ∧ Aside0 (constableref01_Atom.l0 kq x3_2 a0_0 l0_1 = some r) ∧ Aside0 (kq ≤ kj1) ∧ Aside0 (w'.heap[gb880]? = some (.cells #[.string a0_0, (.slice A0_1 l0_1.length c0_1)] 69 (0, 0))) ∧ Aside0 (Below w.heap.size w w'))
    case atStart => exact ⟨(0), (by first | rfl | (simp; done) | (simp [*]; done)), H', ⟨Nat.le_refl _⟩, ⟨by refine bk ?_; exact BK880.out⟩, ⟨(bB1 GE880.out)⟩⟩
    case round =>
     clear H'
     (try clear c1); (try clear p2); (try clear c5); (try clear c7); (try clear c11); (try clear hcz6_0); (try clear hcz6_1); (try clear hcz8_0); (try clear hcz8_1); (try clear hcz9_0); (try clear hcz9_1); (try clear hfz6_0); (try clear hfz6_1); (try clear hfz8_0); (try clear hfz8_1); (try clear hfz9_0); (try clear hfz9_1); (try clear p2)
     obtain ⟨x3_2, rfl, HA, HK2, BK880, HB⟩ := hrel
     cases gk with
     | zero => exact absurd HA.out (by simp [constableref01_Atom.l0])
     | succ k2 =>
      have H := HA.out
      clear HA
      simp only [constableref01_Atom.l0] at H
      by_cases c12 : x3_2 < (l0_1.length : Int)
      ·rw [if_pos c12] at H
       have c12b0 : decide (x3_2 < (l0_1.length : Int)) = true := decide_eq_true c12
       clear c12
       by_cases c13 : 0 ≤ x3_2
       ·rw [if_pos c13] at H
        have c13b0 : decide (0 ≤ x3_2) = true := decide_eq_true c13
        clear c13
        replace H := Option.bind_eq_some_iff.mp H
        obtain ⟨t883, A140, H⟩ := H
        replace H : (if t883 = true then (constableref01_Atom.l0 k2 (wrap64 (x3_2 + 1)) a0_0 l0_1) else (some false)) = some r := H
        have A14 := Aside0.mk A140
        clear A140
        by_cases c15 : t883 = true
        ·subst c15
         have H1 : (constableref01_Atom.l0 k2 (wrap64 (x3_2 + 1)) a0_0 l0_1) = some r := by rw [if_pos rfl] at H; exact H
         clear H
         have H := H1
         clear H1
         have H' := Aside0.mk H
         clear H
         have hcz16_0 : wr.cell? ⟨gb880, 0, none⟩ = some (.string a0_0) := (blk_cell BK880.out 0).trans rfl
         have hcz16_1 : wr.cell? ⟨gb880, 1, none⟩ = some (.slice A0_1 l0_1.length c0_1) := (blk_cell BK880.out 1).trans rfl
         have hfz16_0 := blk_frozen BK880.out 0
         have hfz16_1 := blk_frozen BK880.out 1
         have p882 : 0 ≤ (x3_2 : Int) := of_decide_eq_true (by first | (with_reducible assumption) | assumption)
         have q882 : x3_2 < (l0_1.length : Int) := of_decide_eq_true (by first | (with_reducible assumption) | assumption)
         obtain ⟨ad882, e882, hx882_0, hx882_1, hx882_2, hx882_3⟩ := at_T77 HR0_1.out x3_2 p882 q882
         cases e882
         replace hx882_0 := (HB.out.cell (World.block_lt_of_cell? w _ hx882_0)).trans hx882_0
         replace hx882_1 := (HB.out.cell (World.block_lt_of_cell? w _ hx882_1)).trans hx882_1
         replace hx882_2 := (HB.out.cell (World.block_lt_of_cell? w _ hx882_2)).trans hx882_2
         replace hx882_3 := (HB.out.cell (World.block_lt_of_cell? w _ hx882_3)).trans hx882_3
         replace p882 := eq_true p882
         replace q882 := eq_true q882
         go_wp2_with (first | ((with_reducible refine gate_callee (f := 86) rfl ?_); refine goesL_ (some 26) rfl rfl Try.func86 (by kernel_rfl) rfl #[.agg #[.string ((rd_T77 l0_1 x3_2).f0), .int .i64 ((rd_T77 l0_1 x3_2).f1.f0), .int .i64 ((rd_T77 l0_1 x3_2).f1.f1), .string ((rd_T77 l0_1 x3_2).f1.f2)]] rfl aG ?_; (with_reducible refine (constableref01_Term.calls k2 ((rd_T77 l0_1 x3_2).f0) ((rd_T77 l0_1 x3_2).f1.f0) ((rd_T77 l0_1 x3_2).f1.f1) ((rd_T77 l0_1 x3_2).f1.f2) true _ A14.out).mono ?_); rintro e w17 ⟨rfl, hb⟩; refine ⟨_, rfl, ?_⟩; have n0_ := Aside0.mk (blk_below (g := gb880) (o := .cells #[.string a0_0, .slice (some ad882) l0_1.length c0_1] 69 (0, 0)) (by refine bk ?_; exact BK880.out) hb); have n1_ := Aside0.mk (below_step (bB1 GE880.out) hb); clear BK880; clear HB; have BK880 := n0_; have HB := n1_; clear n0_ n1_; (try clear hb); (try clear hb2); (try clear hk); (try clear hi)))
         go_roundg k2
         case measure => have := HJ1.out; have := HK2.out; omega
         case rel => exact ⟨(wrap64 (x3_2 + 1)), (by first | rfl | (simp; done) | (simp [*]; done)), H', ⟨by have := HJ1.out; have := HK2.out; omega⟩, ⟨by refine bk ?_; exact BK880.out⟩, ⟨(bB1 GE880.out)⟩⟩
        ·replace c15 := Bool.eq_false_iff.mpr c15
         subst c15
         have H1 : (some false) = some r := by rw [if_neg (show ¬ (false = true) by decide)] at H; exact H
         clear H
         have H := H1
         clear H1
         obtain rfl := Option.some.inj H
         have hcz18_0 : wr.cell? ⟨gb880, 0, none⟩ = some (.string a0_0) := (blk_cell BK880.out 0).trans rfl
         have hcz18_1 : wr.cell? ⟨gb880, 1, none⟩ = some (.slice A0_1 l0_1.length c0_1) := (blk_cell BK880.out 1).trans rfl
         have hfz18_0 := blk_frozen BK880.out 0
         have hfz18_1 := blk_frozen BK880.out 1
         have p882 : 0 ≤ (x3_2 : Int) := of_decide_eq_true (by first | (with_reducible assumption) | assumption)
         have q882 : x3_2 < (l0_1.length : Int) := of_decide_eq_true (by first | (with_reducible assumption) | assumption)
         obtain ⟨ad882, e882, hx882_0, hx882_1, hx882_2, hx882_3⟩ := at_T77 HR0_1.out x3_2 p882 q882
         cases e882
         replace hx882_0 := (HB.out.cell (World.block_lt_of_cell? w _ hx882_0)).trans hx882_0
         replace hx882_1 := (HB.out.cell (World.block_lt_of_cell? w _ hx882_1)).trans hx882_1
         replace hx882_2 := (HB.out.cell (World.block_lt_of_cell? w _ hx882_2)).trans hx882_2
         replace hx882_3 := (HB.out.cell (World.block_lt_of_cell? w _ hx882_3)).trans hx882_3
         replace p882 := eq_true p882
         replace q882 := eq_true q882
         go_wp2_with (first | ((with_reducible refine gate_callee (f := 86) rfl ?_); refine goesL_ (some 26) rfl rfl Try.func86 (by kernel_rfl) rfl #[.agg #[.string ((rd_T77 l0_1 x3_2).f0), .int .i64 ((rd_T77 l0_1 x3_2).f1.f0), .int .i64 ((rd_T77 l0_1 x3_2).f1.f1), .string ((rd_T77 l0_1 x3_2).f1.f2)]] rfl aG ?_; (with_reducible refine (constableref01_Term.calls k2 ((rd_T77 l0_1 x3_2).f0) ((rd_T77 l0_1 x3_2).f1.f0) ((rd_T77 l0_1 x3_2).f1.f1) ((rd_T77 l0_1 x3_2).f1.f2) false _ A14.out).mono ?_); rintro e w19 ⟨rfl, hb⟩; refine ⟨_, rfl, ?_⟩; have n0_ := Aside0.mk (blk_below (g := gb880) (o := .cells #[.string a0_0, .slice (some ad882) l0_1.length c0_1] 69 (0, 0)) (by refine bk ?_; exact BK880.out) hb); have n1_ := Aside0.mk (below_step (bB1 GE880.out) hb); clear BK880; clear HB; have BK880 := n0_; have HB := n1_; clear n0_ n1_; (try clear hb); (try clear hb2); (try clear hk); (try clear hi)))
         go_ret
         exact ⟨eW, (bB1 GE880.out)⟩
       ·rw [if_neg c13] at H
        exact absurd H (by simp)
      ·rw [if_neg c12] at H
       have c12b0 : decide (x3_2 < (l0_1.length : Int)) = false := decide_eq_false c12
       clear c12
       obtain rfl := Option.some.inj H
       have hcz20_0 : wr.cell? ⟨gb880, 0, none⟩ = some (.string a0_0) := (blk_cell BK880.out 0).trans rfl
       have hcz20_1 : wr.cell? ⟨gb880, 1, none⟩ = some (.slice A0_1 l0_1.length c0_1) := (blk_cell BK880.out 1).trans rfl
       have hfz20_0 := blk_frozen BK880.out 0
       have hfz20_1 := blk_frozen BK880.out 1
       go_wp2
       go_ret
       exact ⟨eW, (bB1 GE880.out)⟩

end Go.Proofs.Ytghommaokdhjmaa.P
namespace Go.Proofs.Ytghommaokdhjmaa.P
open Go.RowKit Go.Proofs.YtghommaokdhjmaaW.PrintWords Go.Proofs.YtghommaokdhjmaaW.PrintLast Go.Proofs.Ytghommaokdhjmaa.Gate
set_option linter.unusedVariables false
set_option linter.unusedSimpArgs false

/-! ### constablekeep_TwinAtom: function 55 -/
def constablekeep_TwinAtom.f (a0_0 : ByteArray) (l0_1 : List (S77)) : Option (ByteArray × (List (S77))) := if ([] : List (S77)).length + l0_1.length < 2932031007402 then (some (a0_0, (([] : List (S77)) ++ l0_1))) else (none)
set_option maxHeartbeats 8000000 in
set_option maxRecDepth 100000 in
theorem constablekeep_TwinAtom.calls (a0_0 : ByteArray) (A0_1 : Option Addr) (c0_1 : Nat) (l0_1 : List (S77)) (r1 : ByteArray) (r2 : List (S77)) (w : World) (hr0_1 : Kd.C k77 w A0_1 l0_1.length l0_1) (hc0_1 : l0_1.length ≤ c0_1) (h : constablekeep_TwinAtom.f a0_0 l0_1 = some (r1, r2)) :
  Calls Try.prog 55 #[.agg #[.string a0_0, .slice A0_1 l0_1.length c0_1]] w fun e w' => ∃ v1_ : Value, e = .returned (.agg #[.string r1, v1_]) ∧ Kd.R k77 77 w' w.heap.size (fun _ => True) v1_ r2 ∧ Below w.heap.size w w' := by
 have hu69 := Try.underlying69
 have HR0_1 := Aside0.mk hr0_1
 have HC0_1 := Aside0.mk hc0_1
 clear hr0_1 hc0_1
 have HB := Aside0.mk (Below.refl w.heap.size w)
 have H : (if ([] : List (S77)).length + l0_1.length < 2932031007402 then (some (a0_0, (([] : List (S77)) ++ l0_1))) else (none)) = some (r1, r2) := h
 clear h
 by_cases c2 : ([] : List (S77)).length + l0_1.length < 2932031007402
 ·rw [if_pos c2] at H
  have LMc2 := Aside0.mk c2
  clear c2
  obtain ⟨y887, hy887⟩ : ∃ y_ : List (S77), y_ = (([] : List (S77)) ++ l0_1) := ⟨_, rfl⟩
  replace H : (some (a0_0, y887)) = some (r1, r2) := by first | (rw [hy887]; with_reducible exact H) | (have H2_ := (Option.bind_some _ _).symm.trans H; rw [hy887]; with_reducible exact H2_) | (have H2_ := (Option.bind_some _ _).symm.trans H; with_reducible exact H2_) | with_reducible exact H | (rw [hy887]; exact H) | exact H
  have Ny887 := Aside0.mk hy887
  clear hy887
  simp only [Option.some.injEq, Prod.mk.injEq] at H
  obtain ⟨rfl, rfl⟩ := H
  go_enter Try.func55, Try.ntmps55
  go_wp2_with (first | ((with_reducible refine gate_dst (N := 1) rfl ?_); refine bE (N := 1) (cs := #[.string a0_0, .slice A0_1 l0_1.length c0_1]) (t := 69) ?_; intro gb884 hg w3 hbox hb; have n0_ := Aside0.mk (below_step bB0 hb); have n1_ := Aside0.mk (hbox); have n2_ := Aside0.mk ((by rw [hg]; exact (below_size bB0) : w.heap.size ≤ gb884)); have n3_ := Aside0.mk ((by rw [hg]; exact (below_size bB0) : w.heap.size ≤ gb884)); clear HB; have HB := n0_; have BK884 := n1_; have GW884 := n2_; have GE884 := n3_; clear n0_ n1_ n2_ n3_; clear hb hbox hg) | ((with_reducible refine gate_dst (N := 2) rfl ?_); refine bE (N := 2) (cs := #[.string (⟨#[]⟩ : ByteArray), .slice none 0 0]) (t := 69) ?_; intro gb885 hg w4 hbox hb; have n0_ := Aside0.mk (blk_below (g := gb884) (o := .cells #[.string a0_0, .slice A0_1 l0_1.length c0_1] 69 (0, 0)) (by refine bk ?_; exact BK884.out) hb); have n1_ := Aside0.mk (below_step (bB1 GE884.out) hb); have n2_ := Aside0.mk (hbox); have n3_ := Aside0.mk ((by rw [hg]; exact (below_size (bB1 GE884.out)) : w.heap.size ≤ gb885)); have n4_ := Aside0.mk ((by rw [hg]; exact (below_size (bB1 GE884.out)) : w.heap.size ≤ gb885)); have n5_ := Aside0.mk ((by rw [hg]; exact Nat.ne_of_lt (blk_lt (g := gb884) (o := .cells #[.string a0_0, .slice A0_1 l0_1.length c0_1] 69 (0, 0)) (by refine bk ?_; exact BK884.out)) : gb884 ≠ gb885)); have n6_ := Aside0.mk ((by rw [hg]; exact Nat.ne_of_gt (blk_lt (g := gb884) (o := .cells #[.string a0_0, .slice A0_1 l0_1.length c0_1] 69 (0, 0)) (by refine bk ?_; exact BK884.out)) : gb885 ≠ gb884)); clear BK884; clear HB; have BK884 := n0_; have HB := n1_; have BK885 := n2_; have GW885 := n3_; have GE885 := n4_; have NB884_885 := n5_; have NB885_884 := n6_; clear n0_ n1_ n2_ n3_ n4_ n5_ n6_; clear hb hbox hg; have hnb5 := NB884_885.out; have hnc5 := NB885_884.out; have hcz6_0 : w4.cell? ⟨gb884, 0, none⟩ = some (.string a0_0) := (blk_cell BK884.out 0).trans rfl; have hcz6_1 : w4.cell? ⟨gb884, 1, none⟩ = some (.slice A0_1 l0_1.length c0_1) := (blk_cell BK884.out 1).trans rfl; have hfz6_0 := blk_frozen BK884.out 0; have hfz6_1 := blk_frozen BK884.out 1) | ((with_reducible refine gate_dst (N := 3) rfl ?_); refine bE (N := 3) (cs := #[.string (⟨#[]⟩ : ByteArray), .slice none 0 0]) (t := 69) ?_; intro gb886 hg w7 hbox hb; have n0_ := Aside0.mk (blk_below (g := gb884) (o := .cells #[.string a0_0, .slice A0_1 l0_1.length c0_1] 69 (0, 0)) (by refine bk ?_; exact BK884.out) hb); have n1_ := Aside0.mk (blk_below (g := gb885) (o := .cells #[.string (⟨#[]⟩ : ByteArray), .slice none 0 0] 69 (0, 0)) (by refine bk ?_; exact BK885.out) hb); have n2_ := Aside0.mk (below_step (bB2 GE884.out GE885.out) hb); have n3_ := Aside0.mk (hbox); have n4_ := Aside0.mk ((by rw [hg]; exact (below_size (bB2 GE884.out GE885.out)) : w.heap.size ≤ gb886)); have n5_ := Aside0.mk ((by rw [hg]; exact (below_size (bB2 GE884.out GE885.out)) : w.heap.size ≤ gb886)); have n6_ := Aside0.mk ((by rw [hg]; exact Nat.ne_of_lt (blk_lt (g := gb884) (o := .cells #[.string a0_0, .slice A0_1 l0_1.length c0_1] 69 (0, 0)) (by refine bk ?_; exact BK884.out)) : gb884 ≠ gb886)); have n7_ := Aside0.mk ((by rw [hg]; exact Nat.ne_of_gt (blk_lt (g := gb884) (o := .cells #[.string a0_0, .slice A0_1 l0_1.length c0_1] 69 (0, 0)) (by refine bk ?_; exact BK884.out)) : gb886 ≠ gb884)); have n8_ := Aside0.mk ((by rw [hg]; exact Nat.ne_of_lt (blk_lt (g := gb885) (o := .cells #[.string (⟨#[]⟩ : ByteArray), .slice none 0 0] 69 (0, 0)) (by refine bk ?_; exact BK885.out)) : gb885 ≠ gb886)); have n9_ := Aside0.mk ((by rw [hg]; exact Nat.ne_of_gt (blk_lt (g := gb885) (o := .cells #[.string (⟨#[]⟩ : ByteArray), .slice none 0 0] 69 (0, 0)) (by refine bk ?_; exact BK885.out)) : gb886 ≠ gb885)); clear BK884; clear BK885; clear HB; have BK884 := n0_; have BK885 := n1_; have HB := n2_; have BK886 := n3_; have GW886 := n4_; have GE886 := n5_; have NB884_886 := n6_; have NB886_884 := n7_; have NB885_886 := n8_; have NB886_885 := n9_; clear n0_ n1_ n2_ n3_ n4_ n5_ n6_ n7_ n8_ n9_; clear hb hbox hg; have hnb8 := NB886_884.out; have hnc8 := NB884_886.out; have hnb9 := NB886_885.out; have hnc9 := NB885_886.out; have hcz10_0 : w7.cell? ⟨gb886, 0, none⟩ = some (.string (⟨#[]⟩ : ByteArray)) := (blk_cell BK886.out 0).trans rfl; have hcz10_1 : w7.cell? ⟨gb886, 1, none⟩ = some (.slice none 0 0) := (blk_cell BK886.out 1).trans rfl; have hfz10_0 := blk_frozen BK886.out 0; have hfz10_1 := blk_frozen BK886.out 1; have hcz11_0 : w7.cell? ⟨gb884, 0, none⟩ = some (.string a0_0) := (blk_cell BK884.out 0).trans rfl; have hcz11_1 : w7.cell? ⟨gb884, 1, none⟩ = some (.slice A0_1 l0_1.length c0_1) := (blk_cell BK884.out 1).trans rfl; have hfz11_0 := blk_frozen BK884.out 0; have hfz11_1 := blk_frozen BK884.out 1) | ((with_reducible refine gate_builtin (b := .append) (xs := #[.tmp 8, .tmp 10]) rfl ?_); at_builtin; refine Kd.R_append_rows k77 (w0 := w) w.heap.size rfl (.tmp 8) (.tmp 10) 67 77 (.agg #[(.string ⟨#[]⟩), (.int .i64 0), (.int .i64 0), (.string ⟨#[]⟩)]) 48 rfl Try.underlying67 info77 rfl (by decide) (by omega) (.slice none 0 0) ([] : List (S77)) l0_1 _ _ _ (fun _ => True) (fun _ => False) rfl rfl ?aO ?aR (fun _ _ h => h) (fun _ h => h.elim) ?aF ?aB ?aS ?aL ?_; (case aR => exact Kd.C_below HR0_1.out (bB3 GE884.out GE885.out GE886.out)); (case aB => exact (bB3 GE884.out GE885.out GE886.out)); (case aF => exact (fun _ _ => trivial)); (case aO => exact ((Kd.R_nil _ _ _ _ (fun _ => True)))); (case aS => exact (below_size (bB3 GE884.out GE885.out GE886.out))); (case aL => have := LMc2.out; omega); intro v888 w12 ho hb hg hat; rw [← Ny887.out] at ho; have n0_ := Aside0.mk (blk_grown (g := gb884) (o := .cells #[.string a0_0, .slice A0_1 l0_1.length c0_1] 69 (0, 0)) (by refine bk ?_; refine blk_far ?_ NB884_886.out _; refine bk ?_; refine blk_far ?_ NB884_886.out _; refine bk ?_; exact BK884.out) hg (by simp [Value.ownBlock])); have n1_ := Aside0.mk (blk_grown (g := gb885) (o := .cells #[.string (⟨#[]⟩ : ByteArray), .slice none 0 0] 69 (0, 0)) (by refine bk ?_; refine blk_far ?_ NB885_886.out _; refine bk ?_; refine blk_far ?_ NB885_886.out _; refine bk ?_; exact BK885.out) hg (by simp [Value.ownBlock])); have n2_ := Aside0.mk (blk_grown (g := gb886) (o := .cells #[.string a0_0, .slice none 0 0] 69 (0, 0)) (by refine bk ?_; refine blk_put (cs := #[.string a0_0, .slice none 0 0]) ?_ 1 _ rfl; refine bk ?_; refine blk_put (cs := #[.string (⟨#[]⟩ : ByteArray), .slice none 0 0]) ?_ 0 _ rfl; refine bk ?_; exact BK886.out) hg (by simp [Value.ownBlock])); have n3_ := Aside0.mk (hb); have n4_ := Aside0.mk (ho); clear BK884; clear BK885; clear BK886; clear HB; have BK884 := n0_; have BK885 := n1_; have BK886 := n2_; have HB := n3_; have HO889 := n4_; clear n0_ n1_ n2_ n3_ n4_; clear ho hb hg hat; obtain ⟨Ao13, co13, eo13⟩ := Kd.R_slice HO889.out; subst eo13; have hcz14_0 : w12.cell? ⟨gb886, 0, none⟩ = some (.string a0_0) := (blk_cell BK886.out 0).trans rfl; have hcz14_1 : w12.cell? ⟨gb886, 1, none⟩ = some (.slice none 0 0) := (blk_cell BK886.out 1).trans rfl; have hfz14_0 := blk_frozen BK886.out 0; have hfz14_1 := blk_frozen BK886.out 1; have hcz15_0 : w12.cell? ⟨gb885, 0, none⟩ = some (.string (⟨#[]⟩ : ByteArray)) := (blk_cell BK885.out 0).trans rfl; have hcz15_1 : w12.cell? ⟨gb885, 1, none⟩ = some (.slice none 0 0) := (blk_cell BK885.out 1).trans rfl; have hfz15_0 := blk_frozen BK885.out 0; have hfz15_1 := blk_frozen BK885.out 1))
  refine bodyPost_ret (results_cell_row rfl _ _ gb885 69 #[.string a0_0, .slice Ao13 y887.length co13] (0, 0) _ rfl (by refine bk ?_; refine blk_put (cs := #[.string a0_0, .slice none 0 0]) ?_ 1 _ rfl; refine bk ?_; refine blk_put (cs := #[.string (⟨#[]⟩ : ByteArray), .slice none 0 0]) ?_ 0 _ rfl; refine bk ?_; refine blk_far ?_ NB885_886.out _; refine bk ?_; exact BK885.out) Try.underlying69 rfl (by kernel_rfl)) rfl ?_
  exact ⟨_, eW, by (with_reducible repeat (first | apply Kd.R_alloc | apply Kd.R_drewN | apply Kd.R_drew)); exact Kd.R_mono (Kd.R_far (p := ⟨gb885, 1, none⟩) (Kd.R_far (p := ⟨gb885, 0, none⟩) (Kd.R_far (p := ⟨gb886, 1, none⟩) (Kd.R_types (Kd.R_types HO889.out BK886.out (by decide)) BK885.out (by decide)) (fun _ hk => hk.1.2) (.slice Ao13 y887.length co13)) (fun _ hk => hk.2) (.string a0_0)) (fun _ hk => hk.2) (.slice Ao13 y887.length co13)) (fun _ hk => trivial), (bB3 GE884.out GE885.out GE886.out)⟩
 ·rw [if_neg c2] at H
  exact absurd H (by simp)

end Go.Proofs.Ytghommaokdhjmaa.P
namespace Go.Proofs.Ytghommaokdhjmaa.P
open Go.RowKit Go.Proofs.YtghommaokdhjmaaW.PrintWords Go.Proofs.YtghommaokdhjmaaW.PrintLast Go.Proofs.Ytghommaokdhjmaa.Gate
set_option linter.unusedVariables false
set_option linter.unusedSimpArgs false

attribute [local go_sem high] eqA24
/-! ### constablelaw06_MatchNamed: function 14 -/
mutual
def constablelaw06_MatchNamed.l0 : Nat → List ByteArray → List ByteArray → Int → ByteArray → List (S77) → ByteArray → List (S24) → ByteArray → List (S77) → Option (Bool)
 | 0, _, _, _, _, _, _, _, _, _ => none
 | k + 1, x5, x6, x8, x891000, x891001, x892000, x892001, x906000, x906001 => if x8 < (x906001.length : Int) then (constablelaw06_MatchNamed.l1 k x5 x6 x8 0 x891000 x891001 x892000 x892001 x906000 x906001) else ((match_One.f x891000 x891001 x892000 x892001 ([] : List (S39))).bind fun bt910 => ((match_One.f x906000 x906001 x892000 x892001 ([] : List (S39))).bind fun bt914 => (if (bt910.2 != bt914.2) = true then (none) else (if (bt910.1.length : Int) = (bt914.1.length : Int) then (constablelaw06_MatchNamed.l2 k x5 x6 bt910.1 bt910.2 bt914.1 0) else (none)))))
def constablelaw06_MatchNamed.l1 : Nat → List ByteArray → List ByteArray → Int → Int → ByteArray → List (S77) → ByteArray → List (S24) → ByteArray → List (S77) → Option (Bool)
 | 0, _, _, _, _, _, _, _, _, _, _ => none
 | k + 1, x5, x6, x8, x9, x891000, x891001, x892000, x892001, x906000, x906001 => if x9 < (x5.length : Int) then (if x9 < (x6.length : Int) then (if 0 ≤ x8 then (if x8 < (x891001.length : Int) then (if 0 ≤ x9 then (if ((rd_T77 x891001 x8).f0).toList = (rdOf ByteArray.empty x5 x9).toList then (if x8 < (x906001.length : Int) then (constablelaw06_MatchNamed.l1 k x5 x6 x8 (wrap64 (x9 + 1)) x891000 x891001 x892000 x892001 x906000 (x906001.set (x8 : Int).toNat (⟨rdOf ByteArray.empty x6 x9, (⟨(rd_T77 x906001 x8).f1.f0, (rd_T77 x906001 x8).f1.f1, (rd_T77 x906001 x8).f1.f2⟩ : S24)⟩ : S77))) else (none)) else (constablelaw06_MatchNamed.l1 k x5 x6 x8 (wrap64 (x9 + 1)) x891000 x891001 x892000 x892001 x906000 x906001)) else (none)) else (none)) else (none)) else (constablelaw06_MatchNamed.l0 k x5 x6 (wrap64 (x8 + 1)) x891000 x891001 x892000 x892001 x906000 x906001)) else (constablelaw06_MatchNamed.l0 k x5 x6 (wrap64 (x8 + 1)) x891000 x891001 x892000 x892001 x906000 x906001)
def constablelaw06_MatchNamed.l2 : Nat → List ByteArray → List ByteArray → List (S39) → Bool → List (S39) → Int → Option (Bool)
 | 0, _, _, _, _, _, _ => none
 | k + 1, x5, x6, x10, x11, x12, x14 => if x14 < (x5.length : Int) then (if x11 = true then (if 0 ≤ x14 then ((constableref01_Get.f k x10 (rdOf ByteArray.empty x5 x14)).bind fun bt919 => (if x14 < (x6.length : Int) then ((constableref01_Get.f k x12 (rdOf ByteArray.empty x6 x14)).bind fun bt925 => (if bt925.2.2.2 = true then (if (!(bt919.1 == bt925.1) || (!(bt919.2.1 == bt925.2.1) || (!(bt919.2.2.1.toList == bt925.2.2.1.toList)))) = true then (none) else (constablelaw06_MatchNamed.l2 k x5 x6 x10 x11 x12 (wrap64 (x14 + 1)))) else (none))) else (none))) else (none)) else ((constablelaw06_wakes.f k).bind fun t930 => (some t930))) else ((constablelaw06_wakes.f k).bind fun t931 => (some t931))
end
def constablelaw06_MatchNamed.f (k : Nat) (a0_0 : ByteArray) (l0_1 : List (S77)) (a1_0 : ByteArray) (l1_1 : List (S24)) : Option (Bool) := (constablelaw06_Heavy.f k a0_0 l0_1).bind fun t892 => (if t892 = true then (some true) else ((constablelaw03_Heavy.f k a1_0 l1_1).bind fun t893 => (if t893 = true then (some true) else ((constableref01_Atom.f k a0_0 l0_1).bind fun t894 => (if t894 = true then ((match_Vars.f k a0_0 l0_1).bind fun t895 => ((constablekeep_TwinAtom.f a0_0 l0_1).bind fun bt901 => (constablelaw06_MatchNamed.l0 k t895 (([(⟨#[65, 97]⟩ : ByteArray), (⟨#[66, 98]⟩ : ByteArray), (⟨#[67, 99]⟩ : ByteArray), (⟨#[68, 100]⟩ : ByteArray), (⟨#[69, 101]⟩ : ByteArray), (⟨#[70, 102]⟩ : ByteArray)] : List ByteArray)) 0 a0_0 l0_1 a1_0 l1_1 bt901.1 bt901.2))) else (some true))))))
def constablelaw06_MatchNamed.T12 : Bool × List (List Nat × List Nat) := (true, [([], []), ([0], [0]), ([], []), ([1, 2], [1, 2]), ([3], [3]), ([4], [4]), ([], []), ([], []), ([6, 7], [6, 7]), ([8], [8]), ([5, 9], [5, 9])])
def constablelaw06_MatchNamed.B12 : List Nat := [0, 1, 0, 7, 15, 31, 0, 0, 192, 448, 1023]
theorem constablelaw06_MatchNamed.tab12 : rtab .any (opsOf Try.f14 12) = constablelaw06_MatchNamed.T12 := by kernel_rfl
theorem constablelaw06_MatchNamed.bits12 : waitsOk constablelaw06_MatchNamed.T12.2 constablelaw06_MatchNamed.B12 = true := by kernel_rfl
def constablelaw06_MatchNamed.T13 : Bool × List (List Nat × List Nat) := (true, [([], []), ([0], [0]), ([], []), ([], []), ([], []), ([3, 4], [3, 4]), ([5], [5]), ([1, 2, 0, 1, 2, 3, 4, 5, 6], [1, 2]), ([7, 0, 1, 2, 3, 4, 5, 6], [7]), ([8, 6, 0, 1, 2, 3, 4, 5, 6], [6, 8])])
def constablelaw06_MatchNamed.B13 : List Nat := [0, 1, 0, 0, 0, 24, 56, 127, 255, 511]
theorem constablelaw06_MatchNamed.tab13 : rtab .any (opsOf Try.f14 13) = constablelaw06_MatchNamed.T13 := by kernel_rfl
theorem constablelaw06_MatchNamed.bits13 : waitsOk constablelaw06_MatchNamed.T13.2 constablelaw06_MatchNamed.B13 = true := by kernel_rfl
set_option maxHeartbeats 8000000 in
set_option maxRecDepth 100000 in
theorem constablelaw06_MatchNamed.calls (k : Nat) (a0_0 : ByteArray) (A0_1 : Option Addr) (c0_1 : Nat) (l0_1 : List (S77)) (a1_0 : ByteArray) (A1_1 : Option Addr) (c1_1 : Nat) (l1_1 : List (S24)) (r : Bool) (w : World) (hr0_1 : Kd.C k77 w A0_1 l0_1.length l0_1) (hc0_1 : l0_1.length ≤ c0_1) (hr1_1 : Kd.C k24 w A1_1 l1_1.length l1_1) (hc1_1 : l1_1.length ≤ c1_1) (h : constablelaw06_MatchNamed.f k a0_0 l0_1 a1_0 l1_1 = some r) :
  Calls Try.prog 14 #[.agg #[.string a0_0, .slice A0_1 l0_1.length c0_1], .agg #[.string a1_0, .slice A1_1 l1_1.length c1_1]] w fun e w' => e = .returned (.bool r) ∧ Below w.heap.size w w' := by
 have hu69 := Try.underlying69
 have hu53 := Try.underlying53
 have hu24 := Try.underlying24
 have HR0_1 := Aside0.mk hr0_1
 have HC0_1 := Aside0.mk hc0_1
 clear hr0_1 hc0_1
 have HR1_1 := Aside0.mk hr1_1
 have HC1_1 := Aside0.mk hc1_1
 clear hr1_1 hc1_1
 have HB := Aside0.mk (Below.refl w.heap.size w)
 have H : ((constablelaw06_Heavy.f k a0_0 l0_1).bind fun t892 => (if t892 = true then (some true) else ((constablelaw03_Heavy.f k a1_0 l1_1).bind fun t893 => (if t893 = true then (some true) else ((constableref01_Atom.f k a0_0 l0_1).bind fun t894 => (if t894 = true then ((match_Vars.f k a0_0 l0_1).bind fun t895 => ((constablekeep_TwinAtom.f a0_0 l0_1).bind fun bt901 => (constablelaw06_MatchNamed.l0 k t895 (([(⟨#[65, 97]⟩ : ByteArray), (⟨#[66, 98]⟩ : ByteArray), (⟨#[67, 99]⟩ : ByteArray), (⟨#[68, 100]⟩ : ByteArray), (⟨#[69, 101]⟩ : ByteArray), (⟨#[70, 102]⟩ : ByteArray)] : List ByteArray)) 0 a0_0 l0_1 a1_0 l1_1 bt901.1 bt901.2))) else (some true))))))) = some r := h
 clear h
 replace H := Option.bind_eq_some_iff.mp H
 obtain ⟨t892, A30, H⟩ := H
 replace H : (if t892 = true then (some true) else ((constablelaw03_Heavy.f k a1_0 l1_1).bind fun t893 => (if t893 = true then (some true) else ((constableref01_Atom.f k a0_0 l0_1).bind fun t894 => (if t894 = true then ((match_Vars.f k a0_0 l0_1).bind fun t895 => ((constablekeep_TwinAtom.f a0_0 l0_1).bind fun bt901 => (constablelaw06_MatchNamed.l0 k t895 (([(⟨#[65, 97]⟩ : ByteArray), (⟨#[66, 98]⟩ : ByteArray), (⟨#[67, 99]⟩ : ByteArray), (⟨#[68, 100]⟩ : ByteArray), (⟨#[69, 101]⟩ : ByteArray), (⟨#[70, 102]⟩ : ByteArray)] : List ByteArray)) 0 a0_0 l0_1 a1_0 l1_1 bt901.1 bt901.2))) else (some true)))))) = some r := H
 have A3 := Aside0.mk A30
 clear A30
 by_cases c4 : t892 = true
 ·subst c4
  have H1 : (some true) = some r := by rw [if_pos rfl] at H; exact H
  clear H
  have H := H1
  clear H1
  obtain rfl := Option.some.inj H
  go_enter Try.func14, Try.ntmps14
  go_wp2_with (first | ((with_reducible refine gate_dst (N := 2) rfl ?_); (try (refine gate_guard (by rfl) ?_; dsimp only)); refine bE (N := 2) (cs := #[.string a0_0, .slice A0_1 l0_1.length c0_1]) (t := 69) ?_; intro gb890 hg w5 hbox hb; have n0_ := Aside0.mk (below_step bB0 hb); have n1_ := Aside0.mk (hbox); have n2_ := Aside0.mk ((by rw [hg]; exact (below_size bB0) : w.heap.size ≤ gb890)); have n3_ := Aside0.mk ((by rw [hg]; exact (below_size bB0) : w.heap.size ≤ gb890)); clear HB; have HB := n0_; have BK890 := n1_; have GW890 := n2_; have GE890 := n3_; clear n0_ n1_ n2_ n3_; clear hb hbox hg) | ((with_reducible refine gate_dst (N := 3) rfl ?_); (try (refine gate_guard (by rfl) ?_; dsimp only)); refine bE (N := 3) (cs := #[.string a1_0, .slice A1_1 l1_1.length c1_1]) (t := 53) ?_; intro gb891 hg w6 hbox hb; have n0_ := Aside0.mk (blk_below (g := gb890) (o := .cells #[.string a0_0, .slice A0_1 l0_1.length c0_1] 69 (0, 0)) (by refine bk ?_; exact BK890.out) hb); have n1_ := Aside0.mk (below_step (bB1 GE890.out) hb); have n2_ := Aside0.mk (hbox); have n3_ := Aside0.mk ((by rw [hg]; exact (below_size (bB1 GE890.out)) : w.heap.size ≤ gb891)); have n4_ := Aside0.mk ((by rw [hg]; exact (below_size (bB1 GE890.out)) : w.heap.size ≤ gb891)); have n5_ := Aside0.mk ((by rw [hg]; exact Nat.ne_of_lt (blk_lt (g := gb890) (o := .cells #[.string a0_0, .slice A0_1 l0_1.length c0_1] 69 (0, 0)) (by refine bk ?_; exact BK890.out)) : gb890 ≠ gb891)); have n6_ := Aside0.mk ((by rw [hg]; exact Nat.ne_of_gt (blk_lt (g := gb890) (o := .cells #[.string a0_0, .slice A0_1 l0_1.length c0_1] 69 (0, 0)) (by refine bk ?_; exact BK890.out)) : gb891 ≠ gb890)); clear BK890; clear HB; have BK890 := n0_; have HB := n1_; have BK891 := n2_; have GW891 := n3_; have GE891 := n4_; have NB890_891 := n5_; have NB891_890 := n6_; clear n0_ n1_ n2_ n3_ n4_ n5_ n6_; clear hb hbox hg; have hnb7 := NB890_891.out; have hnc7 := NB891_890.out; have hcz8_0 : w6.cell? ⟨gb890, 0, none⟩ = some (.string a0_0) := (blk_cell BK890.out 0).trans rfl; have hcz8_1 : w6.cell? ⟨gb890, 1, none⟩ = some (.slice A0_1 l0_1.length c0_1) := (blk_cell BK890.out 1).trans rfl; have hfz8_0 := blk_frozen BK890.out 0; have hfz8_1 := blk_frozen BK890.out 1) | ((with_reducible refine gate_callee (f := 49) rfl ?_); refine goesL_ (some 20) rfl rfl Try.func49 (by kernel_rfl) rfl #[.agg #[.string a0_0, .slice A0_1 l0_1.length c0_1]] rfl aG ?_; (with_reducible refine (constablelaw06_Heavy.calls k a0_0 _ _ l0_1 true _ ?side1 ?side2 A3.out).mono ?_); (case side1 => exact sC (Kd.C_below HR0_1.out HB.out)); (case side2 => exact HC0_1.out); rintro e w9 ⟨rfl, hb⟩; refine ⟨_, rfl, ?_⟩; have n0_ := Aside0.mk (blk_below (g := gb890) (o := .cells #[.string a0_0, .slice A0_1 l0_1.length c0_1] 69 (0, 0)) (by refine bk ?_; exact BK890.out) hb); have n1_ := Aside0.mk (blk_below (g := gb891) (o := .cells #[.string a1_0, .slice A1_1 l1_1.length c1_1] 53 (0, 0)) (by refine bk ?_; exact BK891.out) hb); have n2_ := Aside0.mk (below_step (bB2 GE890.out GE891.out) hb); clear BK890; clear BK891; clear HB; have BK890 := n0_; have BK891 := n1_; have HB := n2_; clear n0_ n1_ n2_; (try clear hb); (try clear hb2); (try clear hk); (try clear hi)))
  go_ret
  exact ⟨eW, (bB2 GE890.out GE891.out)⟩
 ·replace c4 := Bool.eq_false_iff.mpr c4
  subst c4
  have H1 : ((constablelaw03_Heavy.f k a1_0 l1_1).bind fun t893 => (if t893 = true then (some true) else ((constableref01_Atom.f k a0_0 l0_1).bind fun t894 => (if t894 = true then ((match_Vars.f k a0_0 l0_1).bind fun t895 => ((constablekeep_TwinAtom.f a0_0 l0_1).bind fun bt901 => (constablelaw06_MatchNamed.l0 k t895 (([(⟨#[65, 97]⟩ : ByteArray), (⟨#[66, 98]⟩ : ByteArray), (⟨#[67, 99]⟩ : ByteArray), (⟨#[68, 100]⟩ : ByteArray), (⟨#[69, 101]⟩ : ByteArray), (⟨#[70, 102]⟩ : ByteArray)] : List ByteArray)) 0 a0_0 l0_1 a1_0 l1_1 bt901.1 bt901.2))) else (some true))))) = some r := by rw [if_neg (show ¬ (false = true) by decide)] at H; exact H
  clear H
  have H := H1
  clear H1
  replace H := Option.bind_eq_some_iff.mp H
  obtain ⟨t893, A100, H⟩ := H
  replace H : (if t893 = true then (some true) else ((constableref01_Atom.f k a0_0 l0_1).bind fun t894 => (if t894 = true then ((match_Vars.f k a0_0 l0_1).bind fun t895 => ((constablekeep_TwinAtom.f a0_0 l0_1).bind fun bt901 => (constablelaw06_MatchNamed.l0 k t895 (([(⟨#[65, 97]⟩ : ByteArray), (⟨#[66, 98]⟩ : ByteArray), (⟨#[67, 99]⟩ : ByteArray), (⟨#[68, 100]⟩ : ByteArray), (⟨#[69, 101]⟩ : ByteArray), (⟨#[70, 102]⟩ : ByteArray)] : List ByteArray)) 0 a0_0 l0_1 a1_0 l1_1 bt901.1 bt901.2))) else (some true)))) = some r := H
  have A10 := Aside0.mk A100
  clear A100
  by_cases c11 : t893 = true
  ·subst c11
   have H1 : (some true) = some r := by rw [if_pos rfl] at H; exact H
   clear H
   have H := H1
   clear H1
   obtain rfl := Option.some.inj H
   go_enter Try.func14, Try.ntmps14
   go_wp2_with (first | ((with_reducible refine gate_dst (N := 2) rfl ?_); (try (refine gate_guard (by rfl) ?_; dsimp only)); refine bE (N := 2) (cs := #[.string a0_0, .slice A0_1 l0_1.length c0_1]) (t := 69) ?_; intro gb890 hg w12 hbox hb; have n0_ := Aside0.mk (below_step bB0 hb); have n1_ := Aside0.mk (hbox); have n2_ := Aside0.mk ((by rw [hg]; exact (below_size bB0) : w.heap.size ≤ gb890)); have n3_ := Aside0.mk ((by rw [hg]; exact (below_size bB0) : w.heap.size ≤ gb890)); clear HB; have HB := n0_; have BK890 := n1_; have GW890 := n2_; have GE890 := n3_; clear n0_ n1_ n2_ n3_; clear hb hbox hg) | ((with_reducible refine gate_dst (N := 3) rfl ?_); (try (refine gate_guard (by rfl) ?_; dsimp only)); refine bE (N := 3) (cs := #[.string a1_0, .slice A1_1 l1_1.length c1_1]) (t := 53) ?_; intro gb891 hg w13 hbox hb; have n0_ := Aside0.mk (blk_below (g := gb890) (o := .cells #[.string a0_0, .slice A0_1 l0_1.length c0_1] 69 (0, 0)) (by refine bk ?_; exact BK890.out) hb); have n1_ := Aside0.mk (below_step (bB1 GE890.out) hb); have n2_ := Aside0.mk (hbox); have n3_ := Aside0.mk ((by rw [hg]; exact (below_size (bB1 GE890.out)) : w.heap.size ≤ gb891)); have n4_ := Aside0.mk ((by rw [hg]; exact (below_size (bB1 GE890.out)) : w.heap.size ≤ gb891)); have n5_ := Aside0.mk ((by rw [hg]; exact Nat.ne_of_lt (blk_lt (g := gb890) (o := .cells #[.string a0_0, .slice A0_1 l0_1.length c0_1] 69 (0, 0)) (by refine bk ?_; exact BK890.out)) : gb890 ≠ gb891)); have n6_ := Aside0.mk ((by rw [hg]; exact Nat.ne_of_gt (blk_lt (g := gb890) (o := .cells #[.string a0_0, .slice A0_1 l0_1.length c0_1] 69 (0, 0)) (by refine bk ?_; exact BK890.out)) : gb891 ≠ gb890)); clear BK890; clear HB; have BK890 := n0_; have HB := n1_; have BK891 := n2_; have GW891 := n3_; have GE891 := n4_; have NB890_891 := n5_; have NB891_890 := n6_; clear n0_ n1_ n2_ n3_ n4_ n5_ n6_; clear hb hbox hg; have hnb14 := NB890_891.out; have hnc14 := NB891_890.out; have hcz15_0 : w13.cell? ⟨gb890, 0, none⟩ = some (.string a0_0) := (blk_cell BK890.out 0).trans rfl; have hcz15_1 : w13.cell? ⟨gb890, 1, none⟩ = some (.slice A0_1 l0_1.length c0_1) := (blk_cell BK890.out 1).trans rfl; have hfz15_0 := blk_frozen BK890.out 0; have hfz15_1 := blk_frozen BK890.out 1) | ((with_reducible refine gate_callee (f := 49) rfl ?_); refine goesL_ (some 20) rfl rfl Try.func49 (by kernel_rfl) rfl #[.agg #[.string a0_0, .slice A0_1 l0_1.length c0_1]] rfl aG ?_; (with_reducible refine (constablelaw06_Heavy.calls k a0_0 _ _ l0_1 false _ ?side1 ?side2 A3.out).mono ?_); (case side1 => exact sC (Kd.C_below HR0_1.out HB.out)); (case side2 => exact HC0_1.out); rintro e w16 ⟨rfl, hb⟩; refine ⟨_, rfl, ?_⟩; have n0_ := Aside0.mk (blk_below (g := gb890) (o := .cells #[.string a0_0, .slice A0_1 l0_1.length c0_1] 69 (0, 0)) (by refine bk ?_; exact BK890.out) hb); have n1_ := Aside0.mk (blk_below (g := gb891) (o := .cells #[.string a1_0, .slice A1_1 l1_1.length c1_1] 53 (0, 0)) (by refine bk ?_; exact BK891.out) hb); have n2_ := Aside0.mk (below_step (bB2 GE890.out GE891.out) hb); clear BK890; clear BK891; clear HB; have BK890 := n0_; have BK891 := n1_; have HB := n2_; clear n0_ n1_ n2_; (try clear hb); (try clear hb2); (try clear hk); (try clear hi); have hcz17_0 : w16.cell? ⟨gb891, 0, none⟩ = some (.string a1_0) := (blk_cell BK891.out 0).trans rfl; have hcz17_1 : w16.cell? ⟨gb891, 1, none⟩ = some (.slice A1_1 l1_1.length c1_1) := (blk_cell BK891.out 1).trans rfl; have hfz17_0 := blk_frozen BK891.out 0; have hfz17_1 := blk_frozen BK891.out 1) | (go_at_call 36; (with_reducible refine (constablelaw03_Heavy.calls k a1_0 _ _ l1_1 true _ ?side1 ?side2 A10.out).mono ?_); (case side1 => exact sC (Kd.C_below HR1_1.out HB.out)); (case side2 => exact HC1_1.out); rintro e w18 ⟨rfl, hb⟩; have n0_ := Aside0.mk (blk_below (g := gb890) (o := .cells #[.string a0_0, .slice A0_1 l0_1.length c0_1] 69 (0, 0)) (by refine bk ?_; exact BK890.out) hb); have n1_ := Aside0.mk (blk_below (g := gb891) (o := .cells #[.string a1_0, .slice A1_1 l1_1.length c1_1] 53 (0, 0)) (by refine bk ?_; exact BK891.out) hb); have n2_ := Aside0.mk (below_step (bB2 GE890.out GE891.out) hb); clear BK890; clear BK891; clear HB; have BK890 := n0_; have BK891 := n1_; have HB := n2_; clear n0_ n1_ n2_; (try clear hb); (try clear hb2); (try clear hk); (try clear hi)))
   go_ret
   exact ⟨eW, (bB2 GE890.out GE891.out)⟩
  ·replace c11 := Bool.eq_false_iff.mpr c11
   subst c11
   have H1 : ((constableref01_Atom.f k a0_0 l0_1).bind fun t894 => (if t894 = true then ((match_Vars.f k a0_0 l0_1).bind fun t895 => ((constablekeep_TwinAtom.f a0_0 l0_1).bind fun bt901 => (constablelaw06_MatchNamed.l0 k t895 (([(⟨#[65, 97]⟩ : ByteArray), (⟨#[66, 98]⟩ : ByteArray), (⟨#[67, 99]⟩ : ByteArray), (⟨#[68, 100]⟩ : ByteArray), (⟨#[69, 101]⟩ : ByteArray), (⟨#[70, 102]⟩ : ByteArray)] : List ByteArray)) 0 a0_0 l0_1 a1_0 l1_1 bt901.1 bt901.2))) else (some true))) = some r := by rw [if_neg (show ¬ (false = true) by decide)] at H; exact H
   clear H
   have H := H1
   clear H1
   replace H := Option.bind_eq_some_iff.mp H
   obtain ⟨t894, A190, H⟩ := H
   replace H : (if t894 = true then ((match_Vars.f k a0_0 l0_1).bind fun t895 => ((constablekeep_TwinAtom.f a0_0 l0_1).bind fun bt901 => (constablelaw06_MatchNamed.l0 k t895 (([(⟨#[65, 97]⟩ : ByteArray), (⟨#[66, 98]⟩ : ByteArray), (⟨#[67, 99]⟩ : ByteArray), (⟨#[68, 100]⟩ : ByteArray), (⟨#[69, 101]⟩ : ByteArray), (⟨#[70, 102]⟩ : ByteArray)] : List ByteArray)) 0 a0_0 l0_1 a1_0 l1_1 bt901.1 bt901.2))) else (some true)) = some r := H
   have A19 := Aside0.mk A190
   clear A190
   by_cases c20 : t894 = true
   ·subst c20
    have H1 : ((match_Vars.f k a0_0 l0_1).bind fun t895 => ((constablekeep_TwinAtom.f a0_0 l0_1).bind fun bt901 => (constablelaw06_MatchNamed.l0 k t895 (([(⟨#[65, 97]⟩ : ByteArray), (⟨#[66, 98]⟩ : ByteArray), (⟨#[67, 99]⟩ : ByteArray), (⟨#[68, 100]⟩ : ByteArray), (⟨#[69, 101]⟩ : ByteArray), (⟨#[70, 102]⟩ : ByteArray)] : List ByteArray)) 0 a0_0 l0_1 a1_0 l1_1 bt901.1 bt901.2))) = some r := by rw [if_pos rfl] at H; exact H
    clear H
    have H := H1
    clear H1
    replace H := Option.bind_eq_some_iff.mp H
    obtain ⟨t895, A210, H⟩ := H
    replace H : ((constablekeep_TwinAtom.f a0_0 l0_1).bind fun bt901 => (constablelaw06_MatchNamed.l0 k t895 (([(⟨#[65, 97]⟩ : ByteArray), (⟨#[66, 98]⟩ : ByteArray), (⟨#[67, 99]⟩ : ByteArray), (⟨#[68, 100]⟩ : ByteArray), (⟨#[69, 101]⟩ : ByteArray), (⟨#[70, 102]⟩ : ByteArray)] : List ByteArray)) 0 a0_0 l0_1 a1_0 l1_1 bt901.1 bt901.2)) = some r := H
    have A21 := Aside0.mk A210
    clear A210
    obtain ⟨y898, hy898⟩ : ∃ y_ : List ByteArray, y_ = (([(⟨#[65, 97]⟩ : ByteArray), (⟨#[66, 98]⟩ : ByteArray), (⟨#[67, 99]⟩ : ByteArray), (⟨#[68, 100]⟩ : ByteArray), (⟨#[69, 101]⟩ : ByteArray), (⟨#[70, 102]⟩ : ByteArray)] : List ByteArray)) := ⟨_, rfl⟩
    replace H : ((constablekeep_TwinAtom.f a0_0 l0_1).bind fun bt901 => (constablelaw06_MatchNamed.l0 k t895 y898 0 a0_0 l0_1 a1_0 l1_1 bt901.1 bt901.2)) = some r := by first | (rw [hy898]; with_reducible exact H) | (have H2_ := (Option.bind_some _ _).symm.trans H; rw [hy898]; with_reducible exact H2_) | (have H2_ := (Option.bind_some _ _).symm.trans H; with_reducible exact H2_) | with_reducible exact H | (rw [hy898]; exact H) | exact H
    have Ny898 := Aside0.mk hy898
    clear hy898
    replace H := Option.bind_eq_some_iff.mp H
    obtain ⟨⟨t901, t902⟩, A220, H⟩ := H
    replace H : (constablelaw06_MatchNamed.l0 k t895 y898 0 a0_0 l0_1 a1_0 l1_1 t901 t902) = some r := H
    have A22 := Aside0.mk A220
    clear A220
    have H' := Aside0.mk H
    clear H
    go_enter Try.func14, Try.ntmps14
    go_wp2_with (first | ((with_reducible refine gate_dst (N := 2) rfl ?_); (try (refine gate_guard (by rfl) ?_; dsimp only)); refine bE (N := 2) (cs := #[.string a0_0, .slice A0_1 l0_1.length c0_1]) (t := 69) ?_; intro gb890 hg w23 hbox hb; have n0_ := Aside0.mk (below_step bB0 hb); have n1_ := Aside0.mk (hbox); have n2_ := Aside0.mk ((by rw [hg]; exact (below_size bB0) : w.heap.size ≤ gb890)); have n3_ := Aside0.mk ((by rw [hg]; exact (below_size bB0) : w.heap.size ≤ gb890)); clear HB; have HB := n0_; have BK890 := n1_; have GW890 := n2_; have GE890 := n3_; clear n0_ n1_ n2_ n3_; clear hb hbox hg) | ((with_reducible refine gate_dst (N := 3) rfl ?_); (try (refine gate_guard (by rfl) ?_; dsimp only)); refine bE (N := 3) (cs := #[.string a1_0, .slice A1_1 l1_1.length c1_1]) (t := 53) ?_; intro gb891 hg w24 hbox hb; have n0_ := Aside0.mk (blk_below (g := gb890) (o := .cells #[.string a0_0, .slice A0_1 l0_1.length c0_1] 69 (0, 0)) (by refine bk ?_; exact BK890.out) hb); have n1_ := Aside0.mk (below_step (bB1 GE890.out) hb); have n2_ := Aside0.mk (hbox); have n3_ := Aside0.mk ((by rw [hg]; exact (below_size (bB1 GE890.out)) : w.heap.size ≤ gb891)); have n4_ := Aside0.mk ((by rw [hg]; exact (below_size (bB1 GE890.out)) : w.heap.size ≤ gb891)); have n5_ := Aside0.mk ((by rw [hg]; exact Nat.ne_of_lt (blk_lt (g := gb890) (o := .cells #[.string a0_0, .slice A0_1 l0_1.length c0_1] 69 (0, 0)) (by refine bk ?_; exact BK890.out)) : gb890 ≠ gb891)); have n6_ := Aside0.mk ((by rw [hg]; exact Nat.ne_of_gt (blk_lt (g := gb890) (o := .cells #[.string a0_0, .slice A0_1 l0_1.length c0_1] 69 (0, 0)) (by refine bk ?_; exact BK890.out)) : gb891 ≠ gb890)); clear BK890; clear HB; have BK890 := n0_; have HB := n1_; have BK891 := n2_; have GW891 := n3_; have GE891 := n4_; have NB890_891 := n5_; have NB891_890 := n6_; clear n0_ n1_ n2_ n3_ n4_ n5_ n6_; clear hb hbox hg; have hnb25 := NB890_891.out; have hnc25 := NB891_890.out; have hcz26_0 : w24.cell? ⟨gb890, 0, none⟩ = some (.string a0_0) := (blk_cell BK890.out 0).trans rfl; have hcz26_1 : w24.cell? ⟨gb890, 1, none⟩ = some (.slice A0_1 l0_1.length c0_1) := (blk_cell BK890.out 1).trans rfl; have hfz26_0 := blk_frozen BK890.out 0; have hfz26_1 := blk_frozen BK890.out 1) | ((with_reducible refine gate_callee (f := 49) rfl ?_); refine goesL_ (some 20) rfl rfl Try.func49 (by kernel_rfl) rfl #[.agg #[.string a0_0, .slice A0_1 l0_1.length c0_1]] rfl aG ?_; (with_reducible refine (constablelaw06_Heavy.calls k a0_0 _ _ l0_1 false _ ?side1 ?side2 A3.out).mono ?_); (case side1 => exact sC (Kd.C_below HR0_1.out HB.out)); (case side2 => exact HC0_1.out); rintro e w27 ⟨rfl, hb⟩; refine ⟨_, rfl, ?_⟩; have n0_ := Aside0.mk (blk_below (g := gb890) (o := .cells #[.string a0_0, .slice A0_1 l0_1.length c0_1] 69 (0, 0)) (by refine bk ?_; exact BK890.out) hb); have n1_ := Aside0.mk (blk_below (g := gb891) (o := .cells #[.string a1_0, .slice A1_1 l1_1.length c1_1] 53 (0, 0)) (by refine bk ?_; exact BK891.out) hb); have n2_ := Aside0.mk (below_step (bB2 GE890.out GE891.out) hb); clear BK890; clear BK891; clear HB; have BK890 := n0_; have BK891 := n1_; have HB := n2_; clear n0_ n1_ n2_; (try clear hb); (try clear hb2); (try clear hk); (try clear hi); have hcz28_0 : w27.cell? ⟨gb891, 0, none⟩ = some (.string a1_0) := (blk_cell BK891.out 0).trans rfl; have hcz28_1 : w27.cell? ⟨gb891, 1, none⟩ = some (.slice A1_1 l1_1.length c1_1) := (blk_cell BK891.out 1).trans rfl; have hfz28_0 := blk_frozen BK891.out 0; have hfz28_1 := blk_frozen BK891.out 1) | (go_at_call 36; (with_reducible refine (constablelaw03_Heavy.calls k a1_0 _ _ l1_1 false _ ?side1 ?side2 A10.out).mono ?_); (case side1 => exact sC (Kd.C_below HR1_1.out HB.out)); (case side2 => exact HC1_1.out); rintro e w29 ⟨rfl, hb⟩; have n0_ := Aside0.mk (blk_below (g := gb890) (o := .cells #[.string a0_0, .slice A0_1 l0_1.length c0_1] 69 (0, 0)) (by refine bk ?_; exact BK890.out) hb); have n1_ := Aside0.mk (blk_below (g := gb891) (o := .cells #[.string a1_0, .slice A1_1 l1_1.length c1_1] 53 (0, 0)) (by refine bk ?_; exact BK891.out) hb); have n2_ := Aside0.mk (below_step (bB2 GE890.out GE891.out) hb); clear BK890; clear BK891; clear HB; have BK890 := n0_; have BK891 := n1_; have HB := n2_; clear n0_ n1_ n2_; (try clear hb); (try clear hb2); (try clear hk); (try clear hi); have hcz30_0 : w29.cell? ⟨gb890, 0, none⟩ = some (.string a0_0) := (blk_cell BK890.out 0).trans rfl; have hcz30_1 : w29.cell? ⟨gb890, 1, none⟩ = some (.slice A0_1 l0_1.length c0_1) := (blk_cell BK890.out 1).trans rfl; have hfz30_0 := blk_frozen BK890.out 0; have hfz30_1 := blk_frozen BK890.out 1) | (go_at_call 54; (with_reducible refine (constableref01_Atom.calls k a0_0 _ _ l0_1 true _ ?side1 ?side2 A19.out).mono ?_); (case side1 => exact sC (Kd.C_below HR0_1.out HB.out)); (case side2 => exact HC0_1.out); rintro e w31 ⟨rfl, hb⟩; have n0_ := Aside0.mk (blk_below (g := gb890) (o := .cells #[.string a0_0, .slice A0_1 l0_1.length c0_1] 69 (0, 0)) (by refine bk ?_; exact BK890.out) hb); have n1_ := Aside0.mk (blk_below (g := gb891) (o := .cells #[.string a1_0, .slice A1_1 l1_1.length c1_1] 53 (0, 0)) (by refine bk ?_; exact BK891.out) hb); have n2_ := Aside0.mk (below_step (bB2 GE890.out GE891.out) hb); clear BK890; clear BK891; clear HB; have BK890 := n0_; have BK891 := n1_; have HB := n2_; clear n0_ n1_ n2_; (try clear hb); (try clear hb2); (try clear hk); (try clear hi); have hcz32_0 : w31.cell? ⟨gb890, 0, none⟩ = some (.string a0_0) := (blk_cell BK890.out 0).trans rfl; have hcz32_1 : w31.cell? ⟨gb890, 1, none⟩ = some (.slice A0_1 l0_1.length c0_1) := (blk_cell BK890.out 1).trans rfl; have hfz32_0 := blk_frozen BK890.out 0; have hfz32_1 := blk_frozen BK890.out 1) | ((with_reducible refine gate_callee (f := 53) rfl ?_); refine goesL_ (some 31) rfl rfl Try.func53 (by kernel_rfl) rfl #[.agg #[.string a0_0, .slice A0_1 l0_1.length c0_1]] rfl aG ?_; (with_reducible refine (match_Vars.calls k a0_0 _ _ l0_1 t895 _ ?side1 ?side2 A21.out).mono ?_); (case side1 => exact sC (Kd.C_below HR0_1.out HB.out)); (case side2 => exact HC0_1.out); rintro e w33 ⟨v896, rfl, ho0, hb⟩; refine ⟨_, rfl, ?_⟩; have n0_ := Aside0.mk (Kd.R_lower ho0 (below_size (bB2 GE890.out GE891.out))); have n1_ := Aside0.mk (blk_below (g := gb890) (o := .cells #[.string a0_0, .slice A0_1 l0_1.length c0_1] 69 (0, 0)) (by refine bk ?_; exact BK890.out) hb); have n2_ := Aside0.mk (blk_below (g := gb891) (o := .cells #[.string a1_0, .slice A1_1 l1_1.length c1_1] 53 (0, 0)) (by refine bk ?_; exact BK891.out) hb); have n3_ := Aside0.mk (below_step (bB2 GE890.out GE891.out) hb); clear BK890; clear BK891; clear HB; have HO897 := n0_; have BK890 := n1_; have BK891 := n2_; have HB := n3_; clear n0_ n1_ n2_ n3_; (try clear hb); (try clear hb2); (try clear hk); (try clear hi); (try clear ho0)) | ((with_reducible refine gate_dst (N := 32) rfl ?_); (try (refine gate_guard (by rfl) ?_; dsimp only)); refine Kd.R_lit Kd.string _ 9 ?hg (N := 32) ?hd (xs := ([(⟨#[65, 97]⟩ : ByteArray), (⟨#[66, 98]⟩ : ByteArray), (⟨#[67, 99]⟩ : ByteArray), (⟨#[68, 100]⟩ : ByteArray), (⟨#[69, 101]⟩ : ByteArray), (⟨#[70, 102]⟩ : ByteArray)] : List ByteArray)) (inner := [.string (⟨#[65, 97]⟩ : ByteArray), .string (⟨#[66, 98]⟩ : ByteArray), .string (⟨#[67, 99]⟩ : ByteArray), .string (⟨#[68, 100]⟩ : ByteArray), .string (⟨#[69, 101]⟩ : ByteArray), .string (⟨#[70, 102]⟩ : ByteArray)]) (ok := fun _ => True) (okp := fun _ => True) ?hr ?hp (fun _ hk => hk) trivial (Below.refl _ _) (Nat.le_refl _) (by simp) ?_; (case hd => rfl); (case hg => rfl); (case hr => first | (go_simp; done) | (go_simp; rfl)); (case hp => exact (Reps.one (show Kd.M Kd.string _ _ _ (⟨#[65, 97]⟩ : ByteArray) [.string (⟨#[65, 97]⟩ : ByteArray)] from rfl) (Reps.one (show Kd.M Kd.string _ _ _ (⟨#[66, 98]⟩ : ByteArray) [.string (⟨#[66, 98]⟩ : ByteArray)] from rfl) (Reps.one (show Kd.M Kd.string _ _ _ (⟨#[67, 99]⟩ : ByteArray) [.string (⟨#[67, 99]⟩ : ByteArray)] from rfl) (Reps.one (show Kd.M Kd.string _ _ _ (⟨#[68, 100]⟩ : ByteArray) [.string (⟨#[68, 100]⟩ : ByteArray)] from rfl) (Reps.one (show Kd.M Kd.string _ _ _ (⟨#[69, 101]⟩ : ByteArray) [.string (⟨#[69, 101]⟩ : ByteArray)] from rfl) (Reps.one (show Kd.M Kd.string _ _ _ (⟨#[70, 102]⟩ : ByteArray) [.string (⟨#[70, 102]⟩ : ByteArray)] from rfl) (Reps.none _ _)))))))); intro v899 w34 ho35 hb hg_ hnew_; clear hg_ hnew_; (first | rw [← Ny898.out] at ho35 | (simp only [Int.reduceToNat] at ho35; rw [← Ny898.out] at ho35)); have n0_ := Aside0.mk (Kd.R_elder' (sR HO897.out) (Kd.R_base ho35) hb); have n1_ := Aside0.mk (Kd.R_lower (Kd.R_new' ho35 (Kd.R_lt (sR HO897.out))) (below_size (bB2 GE890.out GE891.out))); have n2_ := Aside0.mk (blk_below (g := gb890) (o := .cells #[.string a0_0, .slice A0_1 l0_1.length c0_1] 69 (0, 0)) (by refine bk ?_; exact BK890.out) hb); have n3_ := Aside0.mk (blk_below (g := gb891) (o := .cells #[.string a1_0, .slice A1_1 l1_1.length c1_1] 53 (0, 0)) (by refine bk ?_; exact BK891.out) hb); have n4_ := Aside0.mk (below_step (bB2 GE890.out GE891.out) hb); clear HO897; clear BK890; clear BK891; clear HB; have HO897 := n0_; have HO900 := n1_; have BK890 := n2_; have BK891 := n3_; have HB := n4_; clear n0_ n1_ n2_ n3_ n4_; clear hb ho35; have hcz36_0 : w34.cell? ⟨gb890, 0, none⟩ = some (.string a0_0) := (blk_cell BK890.out 0).trans rfl; have hcz36_1 : w34.cell? ⟨gb890, 1, none⟩ = some (.slice A0_1 l0_1.length c0_1) := (blk_cell BK890.out 1).trans rfl; have hfz36_0 := blk_frozen BK890.out 0; have hfz36_1 := blk_frozen BK890.out 1) | ((with_reducible refine gate_callee (f := 55) rfl ?_); refine goesL_ (some 34) rfl rfl Try.func55 (by kernel_rfl) rfl #[.agg #[.string a0_0, .slice A0_1 l0_1.length c0_1]] rfl aG ?_; (with_reducible refine (constablekeep_TwinAtom.calls a0_0 _ _ l0_1 t901 t902 _ ?side1 ?side2 A22.out).mono ?_); (case side1 => exact sC (Kd.C_below HR0_1.out HB.out)); (case side2 => exact HC0_1.out); rintro e w37 ⟨v903, rfl, ho0, hb⟩; refine ⟨_, rfl, ?_⟩; have n0_ := Aside0.mk (Kd.R_below (sR HO897.out) hb); have n1_ := Aside0.mk (Kd.R_below (sR HO900.out) hb); have n2_ := Aside0.mk (Kd.R_lower ho0 (below_size (bB2 GE890.out GE891.out))); have n3_ := Aside0.mk (blk_below (g := gb890) (o := .cells #[.string a0_0, .slice A0_1 l0_1.length c0_1] 69 (0, 0)) (by refine bk ?_; exact BK890.out) hb); have n4_ := Aside0.mk (blk_below (g := gb891) (o := .cells #[.string a1_0, .slice A1_1 l1_1.length c1_1] 53 (0, 0)) (by refine bk ?_; exact BK891.out) hb); have n5_ := Aside0.mk (below_step (bB2 GE890.out GE891.out) hb); clear HO897; clear HO900; clear BK890; clear BK891; clear HB; have HO897 := n0_; have HO900 := n1_; have HO904 := n2_; have BK890 := n3_; have BK891 := n4_; have HB := n5_; clear n0_ n1_ n2_ n3_ n4_ n5_; (try clear hb); (try clear hb2); (try clear hk); (try clear hi); (try clear ho0)) | ((with_reducible refine gate_dst (N := 7) rfl ?_); (try (refine gate_guard (by rfl) ?_; dsimp only)); refine bE (N := 7) (cs := #[.string (⟨#[]⟩ : ByteArray), .slice none 0 0]) (t := 69) ?_; intro gb905 hg w38 hbox hb; have n0_ := Aside0.mk (Kd.R_below (sR HO897.out) hb); have n1_ := Aside0.mk (Kd.R_below (sR HO900.out) hb); have n2_ := Aside0.mk (Kd.R_below (sR HO904.out) hb); have n3_ := Aside0.mk (blk_below (g := gb890) (o := .cells #[.string a0_0, .slice A0_1 l0_1.length c0_1] 69 (0, 0)) (by refine bk ?_; exact BK890.out) hb); have n4_ := Aside0.mk (blk_below (g := gb891) (o := .cells #[.string a1_0, .slice A1_1 l1_1.length c1_1] 53 (0, 0)) (by refine bk ?_; exact BK891.out) hb); have n5_ := Aside0.mk (below_step (bB2 GE890.out GE891.out) hb); have n6_ := Aside0.mk (hbox); have n7_ := Aside0.mk ((by rw [hg]; exact (below_size (bB2 GE890.out GE891.out)) : w.heap.size ≤ gb905)); have n8_ := Aside0.mk ((by rw [hg]; exact (below_size (bB2 GE890.out GE891.out)) : w.heap.size ≤ gb905)); have n9_ := Aside0.mk ((by rw [hg]; exact Nat.ne_of_lt (blk_lt (g := gb890) (o := .cells #[.string a0_0, .slice A0_1 l0_1.length c0_1] 69 (0, 0)) (by refine bk ?_; exact BK890.out)) : gb890 ≠ gb905)); have n10_ := Aside0.mk ((by rw [hg]; exact Nat.ne_of_gt (blk_lt (g := gb890) (o := .cells #[.string a0_0, .slice A0_1 l0_1.length c0_1] 69 (0, 0)) (by refine bk ?_; exact BK890.out)) : gb905 ≠ gb890)); have n11_ := Aside0.mk ((by rw [hg]; exact Nat.ne_of_lt (blk_lt (g := gb891) (o := .cells #[.string a1_0, .slice A1_1 l1_1.length c1_1] 53 (0, 0)) (by refine bk ?_; exact BK891.out)) : gb891 ≠ gb905)); have n12_ := Aside0.mk ((by rw [hg]; exact Nat.ne_of_gt (blk_lt (g := gb891) (o := .cells #[.string a1_0, .slice A1_1 l1_1.length c1_1] 53 (0, 0)) (by refine bk ?_; exact BK891.out)) : gb905 ≠ gb891)); clear HO897; clear HO900; clear HO904; clear BK890; clear BK891; clear HB; have HO897 := n0_; have HO900 := n1_; have HO904 := n2_; have BK890 := n3_; have BK891 := n4_; have HB := n5_; have BK905 := n6_; have GW905 := n7_; have GE905 := n8_; have NB890_905 := n9_; have NB905_890 := n10_; have NB891_905 := n11_; have NB905_891 := n12_; clear n0_ n1_ n2_ n3_ n4_ n5_ n6_ n7_ n8_ n9_ n10_ n11_ n12_; clear hb hbox hg; have hnb39 := NB905_890.out; have hnc39 := NB890_905.out; have hnb40 := NB905_891.out; have hnc40 := NB891_905.out; have hcz41_0 : w38.cell? ⟨gb905, 0, none⟩ = some (.string (⟨#[]⟩ : ByteArray)) := (blk_cell BK905.out 0).trans rfl; have hcz41_1 : w38.cell? ⟨gb905, 1, none⟩ = some (.slice none 0 0) := (blk_cell BK905.out 1).trans rfl; have hfz41_0 := blk_frozen BK905.out 0; have hfz41_1 := blk_frozen BK905.out 1; obtain ⟨Ao42, co42, eo42⟩ := Kd.R_slice HO904.out; subst eo42))
    go_loopg [8] k (fun kq v8 w' => ∃ (x8_1 : Int) (x906001_1 : List (S77)) (u906001 : Value), v8 = .int .i64 x8_1 ∧ Aside0 (constablelaw06_MatchNamed.l0 kq t895 y898 x8_1 a0_0 l0_1 a1_0 l1_1 t901 x906001_1 = some r) ∧ Aside0 (kq ≤ k) ∧ Aside0 (Kd.R Kd.string 9 w' w.heap.size (fun k_ => some k_ ≠ (v899 : Value).ownBlock) v896 t895) ∧ Aside0 (Kd.R Kd.string 9 w' w.heap.size (fun k_ => some k_ ≠ (v896 : Value).ownBlock) v899 y898) ∧ Aside0 (Kd.R k77 77 w' w.heap.size (fun _ => True) u906001 x906001_1) ∧ Aside0 (w'.heap[gb890]? = some (.cells #[.string a0_0, (.slice A0_1 l0_1.length c0_1)] 69 (0, 0))) ∧ Aside0 (w'.heap[gb891]? = some (.cells #[.string a1_0, (.slice A1_1 l1_1.length c1_1)] 53 (0, 0))) ∧ Aside0 (w'.heap[gb905]? = some (.cells #[.string t901, u906001] 69 (0, 0))) ∧ Aside0 (Below w.heap.size w w'))
    case atStart => exact ⟨(0), (t902), (.slice Ao42 t902.length co42), (by first | rfl | (simp; done) | (simp [*]; done)), H', ⟨Nat.le_refl _⟩, ⟨by (with_reducible repeat (first | apply Kd.R_alloc | apply Kd.R_drewN | apply Kd.R_drew)); exact Kd.R_mono (Kd.R_far (p := ⟨gb905, 1, none⟩) (Kd.R_far (p := ⟨gb905, 0, none⟩) (Kd.R_types HO897.out BK905.out (by decide)) (fun _ hk => hk.2) (.string t901)) (fun _ hk => hk.2) (.slice Ao42 t902.length co42)) (fun _ hk => hk.1.2)⟩, ⟨by (with_reducible repeat (first | apply Kd.R_alloc | apply Kd.R_drewN | apply Kd.R_drew)); exact Kd.R_mono (Kd.R_far (p := ⟨gb905, 1, none⟩) (Kd.R_far (p := ⟨gb905, 0, none⟩) (Kd.R_types HO900.out BK905.out (by decide)) (fun _ hk => hk.2) (.string t901)) (fun _ hk => hk.2) (.slice Ao42 t902.length co42)) (fun _ hk => hk.1.2)⟩, ⟨by (with_reducible repeat (first | apply Kd.R_alloc | apply Kd.R_drewN | apply Kd.R_drew)); exact Kd.R_mono (Kd.R_far (p := ⟨gb905, 1, none⟩) (Kd.R_far (p := ⟨gb905, 0, none⟩) (Kd.R_types HO904.out BK905.out (by decide)) (fun _ hk => hk.2) (.string t901)) (fun _ hk => hk.2) (.slice Ao42 t902.length co42)) (fun _ hk => trivial)⟩, ⟨by refine bk ?_; refine blk_far ?_ NB890_905.out _; refine bk ?_; refine blk_far ?_ NB890_905.out _; refine bk ?_; exact BK890.out⟩, ⟨by refine bk ?_; refine blk_far ?_ NB891_905.out _; refine bk ?_; refine blk_far ?_ NB891_905.out _; refine bk ?_; exact BK891.out⟩, ⟨by refine bk ?_; refine blk_put (cs := #[.string t901, .slice none 0 0]) ?_ 1 _ rfl; refine bk ?_; refine blk_put (cs := #[.string (⟨#[]⟩ : ByteArray), .slice none 0 0]) ?_ 0 _ rfl; refine bk ?_; exact BK905.out⟩, ⟨(bB3 GE890.out GE891.out GE905.out)⟩⟩
    case round =>
     clear H'
     (try clear c1); (try clear c2); (try clear p2); (try clear c3); (try clear c4); (try clear c5); (try clear c7); (try clear c11); (try clear c14); (try clear c20); (try clear c25); (try clear c39); (try clear c40); (try clear hcz15_0); (try clear hcz15_1); (try clear hcz17_0); (try clear hcz17_1); (try clear hcz26_0); (try clear hcz26_1); (try clear hcz28_0); (try clear hcz28_1); (try clear hcz30_0); (try clear hcz30_1); (try clear hcz32_0); (try clear hcz32_1); (try clear hcz36_0); (try clear hcz36_1); (try clear hcz41_0); (try clear hcz41_1); (try clear hcz8_0); (try clear hcz8_1); (try clear hfz15_0); (try clear hfz15_1); (try clear hfz17_0); (try clear hfz17_1); (try clear hfz26_0); (try clear hfz26_1); (try clear hfz28_0); (try clear hfz28_1); (try clear hfz30_0); (try clear hfz30_1); (try clear hfz32_0); (try clear hfz32_1); (try clear hfz36_0); (try clear hfz36_1); (try clear hfz41_0); (try clear hfz41_1); (try clear hfz8_0); (try clear hfz8_1)
     obtain ⟨x8_1, x906001_1, u906001, rfl, HA, HK1, HO_5, HO_6, HO_906001, BK890, BK891, BK905, HB⟩ := hrel
     cases gk with
     | zero => exact absurd HA.out (by simp [constablelaw06_MatchNamed.l0])
     | succ k1 =>
      have H := HA.out
      clear HA
      simp only [constablelaw06_MatchNamed.l0] at H
      by_cases c43 : x8_1 < (x906001_1.length : Int)
      ·rw [if_pos c43] at H
       have c43b0 : decide (x8_1 < (x906001_1.length : Int)) = true := decide_eq_true c43
       clear c43
       have H' := Aside0.mk H
       clear H
       have hnb44 := NB905_890.out
       have hnc44 := NB890_905.out
       have hnb45 := NB905_891.out
       have hnc45 := NB891_905.out
       have hcz46_0 : wr.cell? ⟨gb905, 0, none⟩ = some (.string t901) := (blk_cell BK905.out 0).trans rfl
       have hcz46_1 : wr.cell? ⟨gb905, 1, none⟩ = some (u906001) := (blk_cell BK905.out 1).trans rfl
       have hfz46_0 := blk_frozen BK905.out 0
       have hfz46_1 := blk_frozen BK905.out 1
       obtain ⟨Ao47, co47, eo47⟩ := Kd.R_slice HO_906001.out
       subst eo47
       go_wp2
       go_loopg [9] k1 (fun kq v9 w' => ∃ (x9_2 : Int) (x906001_2 : List (S77)) (u906001 : Value), v9 = .int .i64 x9_2 ∧ Aside0 (constablelaw06_MatchNamed.l1 kq t895 y898 x8_1 x9_2 a0_0 l0_1 a1_0 l1_1 t901 x906001_2 = some r) ∧ Aside0 (kq ≤ k1) ∧ Aside0 (Kd.R Kd.string 9 w' w.heap.size (fun k_ => some k_ ≠ (v899 : Value).ownBlock) v896 t895) ∧ Aside0 (Kd.R Kd.string 9 w' w.heap.size (fun k_ => some k_ ≠ (v896 : Value).ownBlock) v899 y898) ∧ Aside0 (Kd.R k77 77 w' w.heap.size (fun _ => True) u906001 x906001_2) ∧ Aside0 (w'.heap[gb890]? = some (.cells #[.string a0_0, (.slice A0_1 l0_1.length c0_1)] 69 (0, 0))) ∧ Aside0 (w'.heap[gb891]? = some (.cells #[.string a1_0, (.slice A1_1 l1_1.length c1_1)] 53 (0, 0))) ∧ Aside0 (w'.heap[gb905]? = some (.cells #[.string t901, u906001] 69 (0, 0))) ∧ Aside0 (Below w.heap.size w w'))
       case atStart => exact ⟨(0), (x906001_1), (.slice Ao47 x906001_1.length co47), (by first | rfl | (simp; done) | (simp [*]; done)), H', ⟨Nat.le_refl _⟩, ⟨by (with_reducible repeat (first | apply Kd.R_alloc | apply Kd.R_drewN | apply Kd.R_drew)); exact HO_5.out⟩, ⟨by (with_reducible repeat (first | apply Kd.R_alloc | apply Kd.R_drewN | apply Kd.R_drew)); exact HO_6.out⟩, ⟨by (with_reducible repeat (first | apply Kd.R_alloc | apply Kd.R_drewN | apply Kd.R_drew)); exact HO_906001.out⟩, ⟨by refine bk ?_; exact BK890.out⟩, ⟨by refine bk ?_; exact BK891.out⟩, ⟨by refine bk ?_; exact BK905.out⟩, ⟨(bB3 GE890.out GE891.out GE905.out)⟩⟩
       case round =>
        clear H'
        (try clear c1); (try clear c2); (try clear p2); (try clear c3); (try clear c4); (try clear c5); (try clear c7); (try clear c11); (try clear c14); (try clear c20); (try clear c25); (try clear c39); (try clear c40); (try clear c43); (try clear c43b0); (try clear c44); (try clear c45); (try clear hcz15_0); (try clear hcz15_1); (try clear hcz17_0); (try clear hcz17_1); (try clear hcz26_0); (try clear hcz26_1); (try clear hcz28_0); (try clear hcz28_1); (try clear hcz30_0); (try clear hcz30_1); (try clear hcz32_0); (try clear hcz32_1); (try clear hcz36_0); (try clear hcz36_1); (try clear hcz41_0); (try clear hcz41_1); (try clear hcz46_0); (try clear hcz46_1); (try clear hcz8_0); (try clear hcz8_1); (try clear hfz15_0); (try clear hfz15_1); (try clear hfz17_0); (try clear hfz17_1); (try clear hfz26_0); (try clear hfz26_1); (try clear hfz28_0); (try clear hfz28_1); (try clear hfz30_0); (try clear hfz30_1); (try clear hfz32_0); (try clear hfz32_1); (try clear hfz36_0); (try clear hfz36_1); (try clear hfz41_0); (try clear hfz41_1); (try clear hfz46_0); (try clear hfz46_1); (try clear hfz8_0); (try clear hfz8_1); (try clear p2)
        obtain ⟨x9_2, x906001_2, u906001, rfl, HA, HK2, HO_5, HO_6, HO_906001, BK890, BK891, BK905, HB⟩ := hrel
        cases gk with
        | zero => exact absurd HA.out (by simp [constablelaw06_MatchNamed.l1])
        | succ k2 =>
         have H := HA.out
         clear HA
         simp only [constablelaw06_MatchNamed.l1] at H
         by_cases c48 : x9_2 < (t895.length : Int)
         ·rw [if_pos c48] at H
          have c48b0 : decide (x9_2 < (t895.length : Int)) = true := decide_eq_true c48
          clear c48
          by_cases c49 : x9_2 < (y898.length : Int)
          ·rw [if_pos c49] at H
           have c49b0 : decide (x9_2 < (y898.length : Int)) = true := decide_eq_true c49
           clear c49
           by_cases c50 : 0 ≤ x8_1
           ·rw [if_pos c50] at H
            have c50b0 : decide (0 ≤ x8_1) = true := decide_eq_true c50
            clear c50
            by_cases c51 : x8_1 < (l0_1.length : Int)
            ·rw [if_pos c51] at H
             have c51b0 : decide (x8_1 < (l0_1.length : Int)) = true := decide_eq_true c51
             clear c51
             by_cases c52 : 0 ≤ x9_2
             ·rw [if_pos c52] at H
              have c52b0 : decide (0 ≤ x9_2) = true := decide_eq_true c52
              clear c52
              by_cases c53 : ((rd_T77 l0_1 x8_1).f0).toList = (rdOf ByteArray.empty t895 x9_2).toList
              ·rw [if_pos c53] at H
               have c53b0 : (((rd_T77 l0_1 x8_1).f0).toList == (rdOf ByteArray.empty t895 x9_2).toList) = true := beq_iff_eq.mpr c53
               have c53b1 : (((rd_T77 l0_1 x8_1).f0).toList != (rdOf ByteArray.empty t895 x9_2).toList) = false := bne_eq_false_iff_eq.mpr c53
               clear c53
               by_cases c54 : x8_1 < (x906001_2.length : Int)
               ·rw [if_pos c54] at H
                have c54b0 : decide (x8_1 < (x906001_2.length : Int)) = true := decide_eq_true c54
                clear c54
                obtain ⟨y909, hy909⟩ : ∃ y_ : List (S77), y_ = (x906001_2.set (x8_1 : Int).toNat (⟨rdOf ByteArray.empty y898 x9_2, (⟨(rd_T77 x906001_2 x8_1).f1.f0, (rd_T77 x906001_2 x8_1).f1.f1, (rd_T77 x906001_2 x8_1).f1.f2⟩ : S24)⟩ : S77)) := ⟨_, rfl⟩
                replace H : (constablelaw06_MatchNamed.l1 k2 t895 y898 x8_1 (wrap64 (x9_2 + 1)) a0_0 l0_1 a1_0 l1_1 t901 y909) = some r := by first | (rw [hy909]; with_reducible exact H) | (have H2_ := (Option.bind_some _ _).symm.trans H; rw [hy909]; with_reducible exact H2_) | (have H2_ := (Option.bind_some _ _).symm.trans H; with_reducible exact H2_) | with_reducible exact H | (rw [hy909]; exact H) | exact H
                have Ny909 := Aside0.mk hy909
                clear hy909
                have H' := Aside0.mk H
                clear H
                obtain ⟨Ao56, co56, eo56⟩ := Kd.R_slice HO_5.out
                subst eo56
                obtain ⟨Ao57, co57, eo57⟩ := Kd.R_slice HO_6.out
                subst eo57
                try go_wp2
                have n0_ := Aside0.mk (Kd.R_drew HO_5.out)
                have n1_ := Aside0.mk (Kd.R_drew HO_6.out)
                have n2_ := Aside0.mk (Kd.R_drew HO_906001.out)
                have n3_ := Aside0.mk (blk_drew BK890.out)
                have n4_ := Aside0.mk (blk_drew BK891.out)
                have n5_ := Aside0.mk (blk_drew BK905.out)
                have n6_ := Aside0.mk (below_drew1 HB.out)
                clear HO_5
                clear HO_6
                clear HO_906001
                clear BK890
                clear BK891
                clear BK905
                clear HB
                have HO_5 := n0_
                have HO_6 := n1_
                have HO_906001 := n2_
                have BK890 := n3_
                have BK891 := n4_
                have BK905 := n5_
                have HB := n6_
                clear n0_ n1_ n2_ n3_ n4_ n5_ n6_
                have p906 : 0 ≤ (x8_1 : Int) := of_decide_eq_true (by first | (with_reducible assumption) | assumption)
                have q906 : x8_1 < (l0_1.length : Int) := of_decide_eq_true (by first | (with_reducible assumption) | assumption)
                obtain ⟨ad906, e906, hx906_0, hx906_1, hx906_2, hx906_3⟩ := at_T77 HR0_1.out x8_1 p906 q906
                have hw906_3 := hx906_3
                have hw906_2 := hx906_2
                have hw906_1 := hx906_1
                have hw906_0 := hx906_0
                cases e906
                replace hx906_0 := (HB.out.cell (World.block_lt_of_cell? w _ hx906_0)).trans hx906_0
                replace hx906_1 := (HB.out.cell (World.block_lt_of_cell? w _ hx906_1)).trans hx906_1
                replace hx906_2 := (HB.out.cell (World.block_lt_of_cell? w _ hx906_2)).trans hx906_2
                replace hx906_3 := (HB.out.cell (World.block_lt_of_cell? w _ hx906_3)).trans hx906_3
                replace p906 := eq_true p906
                replace q906 := eq_true q906
                have p907 : 0 ≤ (x9_2 : Int) := of_decide_eq_true (by first | (with_reducible assumption) | assumption)
                have q907 : x9_2 < (t895.length : Int) := of_decide_eq_true (by first | (with_reducible assumption) | assumption)
                obtain ⟨ad907, e907, hx907_0⟩ := Kd.at_string (Kd.R_reads' HO_5.out).2.2 x9_2 p907 q907
                cases e907
                replace p907 := eq_true p907
                replace q907 := eq_true q907
                refine start_ (n := 11) (S := fun w' => w'.cell? ⟨gb890, 0, none⟩ = some (.string a0_0) ∧ w'.cell? ⟨gb890, 1, none⟩ = some (.slice (some ad906) l0_1.length c0_1) ∧ w'.cell? (ad906.add ((x8_1).toNat * 4)) = some (.string ((rd_T77 l0_1 x8_1).f0)) ∧ w'.cell? ⟨(ad906.add ((x8_1).toNat * 4)).block, (ad906.add ((x8_1).toNat * 4)).off + 1, none⟩ = some (.int .i64 ((rd_T77 l0_1 x8_1).f1.f0)) ∧ w'.cell? ⟨(ad906.add ((x8_1).toNat * 4)).block, (ad906.add ((x8_1).toNat * 4)).off + 2, none⟩ = some (.int .i64 ((rd_T77 l0_1 x8_1).f1.f1)) ∧ w'.cell? ⟨(ad906.add ((x8_1).toNat * 4)).block, (ad906.add ((x8_1).toNat * 4)).off + 3, none⟩ = some (.string ((rd_T77 l0_1 x8_1).f1.f2)) ∧ w'.cell? (ad907.add (x9_2).toNat) = some (.string (rdOf ByteArray.empty t895 x9_2))) (ds := []) #[false, false, false, false, false, false, false, false, false, false, false] (by kernel_rfl) rfl rfl ⟨(blk_cell BK890.out 0).trans rfl, (blk_cell BK890.out 1).trans rfl, ((HB.out.cell (World.block_lt_of_cell? w _ hw906_0)).trans hw906_0), ((HB.out.cell (World.block_lt_of_cell? w _ hw906_1)).trans hw906_1), ((HB.out.cell (World.block_lt_of_cell? w _ hw906_2)).trans hw906_2), ((HB.out.cell (World.block_lt_of_cell? w _ hw906_3)).trans hw906_3), hx907_0⟩ (fun hHeld => ?_); refine with_tabW constablelaw06_MatchNamed.tab12 constablelaw06_MatchNamed.bits12 (fun HT_ HW_ => ?_)
                generalize wr.drew = w58 at HO_5 HO_6 HO_906001 BK890 BK891 BK905 HB hx906_0 hx906_1 hx906_2 hx906_3 hx907_0 hHeld ⊢
                refine pQ (i := 0) (N := some 54) #[true, false, false, false, false, false, false, false, false, false, false] ?_
                refine pQ (i := 2) (N := some 56) #[true, false, true, false, false, false, false, false, false, false, false] ?_
                refine pQ (i := 6) (N := some 60) #[true, false, true, false, false, false, true, false, false, false, false] ?_
                refine pQ (i := 7) (N := some 61) #[true, false, true, false, false, false, true, true, false, false, false] ?_
                refine pQ (i := 8) (N := some 62) #[true, false, true, false, false, false, true, true, true, false, false] ?_
                refine tQ7 (i := 1) (N := some 55) #[true, true, true, false, false, false, true, true, true, false, false] hHeld ?_
                refine pQ (i := 3) (N := some 57) #[true, true, true, true, false, false, true, true, true, false, false] ?_
                refine pQ (i := 4) (N := some 58) #[true, true, true, true, true, false, true, true, true, false, false] ?_
                refine tQ7 (i := 5) (N := some 59) #[true, true, true, true, true, true, true, true, true, false, false] hHeld ?_
                refine tQ7 (i := 9) (N := some 63) #[true, true, true, true, true, true, true, true, true, true, false] hHeld ?_
                refine pQ (i := 10) (N := some 64) #[true, true, true, true, true, true, true, true, true, true, true] ?_
                refine done_ (done_of HT_.out (by kernel_rfl)) ?_
                try go_wp2
                have n0_ := Aside0.mk (Kd.R_drew HO_5.out)
                have n1_ := Aside0.mk (Kd.R_drew HO_6.out)
                have n2_ := Aside0.mk (Kd.R_drew HO_906001.out)
                have n3_ := Aside0.mk (blk_drew BK890.out)
                have n4_ := Aside0.mk (blk_drew BK891.out)
                have n5_ := Aside0.mk (blk_drew BK905.out)
                have n6_ := Aside0.mk (below_drew1 HB.out)
                clear HO_5
                clear HO_6
                clear HO_906001
                clear BK890
                clear BK891
                clear BK905
                clear HB
                have HO_5 := n0_
                have HO_6 := n1_
                have HO_906001 := n2_
                have BK890 := n3_
                have BK891 := n4_
                have BK905 := n5_
                have HB := n6_
                clear n0_ n1_ n2_ n3_ n4_ n5_ n6_
                have p908 : 0 ≤ (x9_2 : Int) := of_decide_eq_true (by first | (with_reducible assumption) | assumption)
                have q908 : x9_2 < (y898.length : Int) := of_decide_eq_true (by first | (with_reducible assumption) | assumption)
                obtain ⟨ad908, e908, hx908_0⟩ := Kd.at_string (Kd.R_reads' HO_6.out).2.2 x9_2 p908 q908
                cases e908
                replace p908 := eq_true p908
                replace q908 := eq_true q908
                have p55 : 0 ≤ (x8_1 : Int) := of_decide_eq_true (by first | (with_reducible assumption) | assumption)
                have q55 : (x8_1 : Int) < ((x906001_2.length : Int) : Int) := of_decide_eq_true (by first | (with_reducible assumption) | assumption)
                obtain ⟨go55, co55, eo55, gb55, gl55, cl55, HG55⟩ := Kd.R_form HO_906001.out (by omega)
                (first | cases eo55 | (injection eo55 with ea_ en_ ec_; (first | subst ea_ | (injection ea_ with ea_; subst ea_)); subst ec_; clear en_))
                have GB55 := Aside0.mk gb55
                have GG55 := Aside0.mk HG55
                clear gb55 gl55 HG55
                obtain ⟨ce55, hcl55, hM55, hcc55, hfr55⟩ := Kd.R_elem HO_906001.out z77 (x8_1 : Int) p55 q55
                obtain rfl := k77_openM hM55
                have hx55_0 : World.cell? _ ⟨go55, (x8_1 : Int).toNat * 4, none⟩ = some (.string ((rd_T77 x906001_2 x8_1).f0)) := hcc55 0 _ rfl
                have hx55_1 : World.cell? _ ⟨go55, (x8_1 : Int).toNat * 4 + 1, none⟩ = some (.int .i64 ((rd_T77 x906001_2 x8_1).f1.f0)) := hcc55 1 _ rfl
                have hx55_2 : World.cell? _ ⟨go55, (x8_1 : Int).toNat * 4 + 2, none⟩ = some (.int .i64 ((rd_T77 x906001_2 x8_1).f1.f1)) := hcc55 2 _ rfl
                have hx55_3 : World.cell? _ ⟨go55, (x8_1 : Int).toNat * 4 + 3, none⟩ = some (.string ((rd_T77 x906001_2 x8_1).f1.f2)) := hcc55 3 _ rfl
                have hf55_0 : World.frozen? _ ⟨go55, (x8_1 : Int).toNat * 4, none⟩ = false := hfr55 0
                have hf55_1 : World.frozen? _ ⟨go55, (x8_1 : Int).toNat * 4 + 1, none⟩ = false := hfr55 1
                have hf55_2 : World.frozen? _ ⟨go55, (x8_1 : Int).toNat * 4 + 2, none⟩ = false := hfr55 2
                have hf55_3 : World.frozen? _ ⟨go55, (x8_1 : Int).toNat * 4 + 3, none⟩ = false := hfr55 3
                clear hcl55 hcc55 hfr55 hM55
                replace p55 := eq_true p55
                replace q55 := eq_true q55
                obtain ⟨ce60, hcl60, hM60, hcc60, hfr60⟩ := Kd.R_elem HO_906001.out z77 (x8_1 : Int) (of_decide_eq_true (by first | (with_reducible assumption) | assumption)) (by have h_ : (x8_1 : Int) < ((x906001_2.length : Int) : Int) := of_decide_eq_true (by first | (with_reducible assumption) | assumption); first | exact h_ | (have e_ := (Kd.R_reads' HO_906001.out).1; omega) | simpa using h_)
                obtain rfl := k77_openM hM60
                have HP60 := (Kd.R_seg HO_906001.out (x8_1 : Int) (of_decide_eq_true (by first | (with_reducible assumption) | assumption)) (by have h_ : (x8_1 : Int) < ((x906001_2.length : Int) : Int) := of_decide_eq_true (by first | (with_reducible assumption) | assumption); first | exact h_ | (have e_ := (Kd.R_reads' HO_906001.out).1; omega) | simpa using h_) (seg := [.string (rdOf ByteArray.empty y898 x9_2)]) (j := 0) hcl60 hcc60 (show 1 ≤ 4 from by decide) (x' := (⟨rdOf ByteArray.empty y898 x9_2, (⟨(rd_T77 x906001_2 x8_1).f1.f0, (rd_T77 x906001_2 x8_1).f1.f1, (rd_T77 x906001_2 x8_1).f1.f2⟩ : S24)⟩ : S77)) (k77_mkM _ _ _ (⟨rdOf ByteArray.empty y898 x9_2, (⟨(rd_T77 x906001_2 x8_1).f1.f0, (rd_T77 x906001_2 x8_1).f1.f1, (rd_T77 x906001_2 x8_1).f1.f2⟩ : S24)⟩ : S77) ) (fun _ hk => hk)).1
                rw [← Ny909.out] at HP60
                have HQ60 := Aside0.mk HP60
                clear hcl60 hcc60 hfr60 hM60 HP60
                refine start_ (n := 10) (S := fun w' => w'.cell? ⟨gb905, 0, none⟩ = some (.string t901) ∧ w'.cell? ⟨gb905, 1, none⟩ = some (.slice (some ⟨go55, 0, none⟩) x906001_2.length co55) ∧ w'.cell? (ad908.add (x9_2).toNat) = some (.string (rdOf ByteArray.empty y898 x9_2))) (ds := [9]) #[false, false, false, false, false, false, false, false, false, false] (by kernel_rfl) rfl rfl ⟨(blk_cell BK905.out 0).trans rfl, (blk_cell BK905.out 1).trans rfl, hx908_0⟩ (fun hHeld => ?_); refine with_tabW constablelaw06_MatchNamed.tab13 constablelaw06_MatchNamed.bits13 (fun HT_ HW_ => ?_)
                generalize w58.drew = w59 at HO_5 HO_6 HO_906001 BK890 BK891 BK905 HB GG55 HQ60 hf55_0 hf55_1 hf55_2 hf55_3 hx55_0 hx55_1 hx55_2 hx55_3 hx908_0 hHeld ⊢
                refine pQ (i := 0) (N := some 65) #[true, false, false, false, false, false, false, false, false, false] ?_
                refine pQ (i := 2) (N := some 67) #[true, false, true, false, false, false, false, false, false, false] ?_
                refine pQ (i := 3) (N := some 68) #[true, false, true, true, false, false, false, false, false, false] ?_
                refine pQ (i := 4) (N := some 69) #[true, false, true, true, true, false, false, false, false, false] ?_
                refine pQ (i := 5) (N := some 70) #[true, false, true, true, true, true, false, false, false, false] ?_
                refine tQ3 (i := 1) (N := some 66) #[true, true, true, true, true, true, false, false, false, false] hHeld ?_
                refine tQ3 (i := 6) (N := some 71) #[true, true, true, true, true, true, true, false, false, false] hHeld ?_
                refine pQ (i := 7) (N := some 72) #[true, true, true, true, true, true, true, true, false, false] ?_
                refine pQ (i := 8) (N := some 73) #[true, true, true, true, true, true, true, true, true, false] ?_
                refine last_ (i := 9) (N := none) #[true, true, true, true, true, true, true, true, true, true] rfl rfl (one_of HT_.out (by kernel_rfl)) (by decide) (fun K hK => ?_)
                refine skip_ (w1 := ?_) (by rfl) rfl ?_ ?_
                rotate_left
                ·go_simp
                 rfl
                refine hK.out _ _ ?_
                clear hK K
                refine done_ (done_of HT_.out (by kernel_rfl)) ?_
                try go_wp2
                go_roundg k2
                case measure => have := HK1.out; have := HK2.out; omega
                case rel => exact ⟨(wrap64 (x9_2 + 1)), (y909), (.slice (some ⟨go55, 0, none⟩) x906001_2.length co55), (by first | rfl | (simp; done) | (simp [*]; done)), H', ⟨by have := HK1.out; have := HK2.out; omega⟩, ⟨by (with_reducible repeat (first | apply Kd.R_alloc | apply Kd.R_drewN | apply Kd.R_drew)); exact Kd.R_mono (Kd.R_far (p := ⟨go55, (x8_1 : Int).toNat * 4, none⟩) (Kd.R_types HO_5.out GG55.out (by decide)) (fun _ hk => hk.2) (.string (rdOf ByteArray.empty y898 x9_2))) (fun _ hk => hk.1)⟩, ⟨by (with_reducible repeat (first | apply Kd.R_alloc | apply Kd.R_drewN | apply Kd.R_drew)); exact Kd.R_mono (Kd.R_far (p := ⟨go55, (x8_1 : Int).toNat * 4, none⟩) (Kd.R_types HO_6.out GG55.out (by decide)) (fun _ hk => hk.2) (.string (rdOf ByteArray.empty y898 x9_2))) (fun _ hk => hk.1)⟩, ⟨by (with_reducible repeat (first | apply Kd.R_alloc | apply Kd.R_drewN | apply Kd.R_drew)); exact HQ60.out⟩, ⟨by refine bk ?_; refine blk_far ?_ (by have h_ := Kd.R_ne HO_906001.out BK890.out (by decide); intro e_; exact h_ (by rw [e_]; rfl)) _; refine bk ?_; exact BK890.out⟩, ⟨by refine bk ?_; refine blk_far ?_ (by have h_ := Kd.R_ne HO_906001.out BK891.out (by decide); intro e_; exact h_ (by rw [e_]; rfl)) _; refine bk ?_; exact BK891.out⟩, ⟨by refine bk ?_; refine blk_far ?_ (by have h_ := Kd.R_ne HO_906001.out BK905.out (by decide); intro e_; exact h_ (by rw [e_]; rfl)) _; refine bk ?_; exact BK905.out⟩, ⟨(bB4 GB55.out GE890.out GE891.out GE905.out)⟩⟩
               ·rw [if_neg c54] at H
                exact absurd H (by simp)
              ·rw [if_neg c53] at H
               have c53b0 : (((rd_T77 l0_1 x8_1).f0).toList == (rdOf ByteArray.empty t895 x9_2).toList) = false := beq_eq_false_iff_ne.mpr c53
               have c53b1 : (((rd_T77 l0_1 x8_1).f0).toList != (rdOf ByteArray.empty t895 x9_2).toList) = true := bne_iff_ne.mpr c53
               have H' := Aside0.mk H
               clear H
               obtain ⟨Ao61, co61, eo61⟩ := Kd.R_slice HO_5.out
               subst eo61
               obtain ⟨Ao62, co62, eo62⟩ := Kd.R_slice HO_6.out
               subst eo62
               try go_wp2
               have n0_ := Aside0.mk (Kd.R_drew HO_5.out)
               have n1_ := Aside0.mk (Kd.R_drew HO_6.out)
               have n2_ := Aside0.mk (Kd.R_drew HO_906001.out)
               have n3_ := Aside0.mk (blk_drew BK890.out)
               have n4_ := Aside0.mk (blk_drew BK891.out)
               have n5_ := Aside0.mk (blk_drew BK905.out)
               have n6_ := Aside0.mk (below_drew1 HB.out)
               clear HO_5
               clear HO_6
               clear HO_906001
               clear BK890
               clear BK891
               clear BK905
               clear HB
               have HO_5 := n0_
               have HO_6 := n1_
               have HO_906001 := n2_
               have BK890 := n3_
               have BK891 := n4_
               have BK905 := n5_
               have HB := n6_
               clear n0_ n1_ n2_ n3_ n4_ n5_ n6_
               have p906 : 0 ≤ (x8_1 : Int) := of_decide_eq_true (by first | (with_reducible assumption) | assumption)
               have q906 : x8_1 < (l0_1.length : Int) := of_decide_eq_true (by first | (with_reducible assumption) | assumption)
               obtain ⟨ad906, e906, hx906_0, hx906_1, hx906_2, hx906_3⟩ := at_T77 HR0_1.out x8_1 p906 q906
               have hw906_3 := hx906_3
               have hw906_2 := hx906_2
               have hw906_1 := hx906_1
               have hw906_0 := hx906_0
               cases e906
               replace hx906_0 := (HB.out.cell (World.block_lt_of_cell? w _ hx906_0)).trans hx906_0
               replace hx906_1 := (HB.out.cell (World.block_lt_of_cell? w _ hx906_1)).trans hx906_1
               replace hx906_2 := (HB.out.cell (World.block_lt_of_cell? w _ hx906_2)).trans hx906_2
               replace hx906_3 := (HB.out.cell (World.block_lt_of_cell? w _ hx906_3)).trans hx906_3
               replace p906 := eq_true p906
               replace q906 := eq_true q906
               have p907 : 0 ≤ (x9_2 : Int) := of_decide_eq_true (by first | (with_reducible assumption) | assumption)
               have q907 : x9_2 < (t895.length : Int) := of_decide_eq_true (by first | (with_reducible assumption) | assumption)
               obtain ⟨ad907, e907, hx907_0⟩ := Kd.at_string (Kd.R_reads' HO_5.out).2.2 x9_2 p907 q907
               cases e907
               replace p907 := eq_true p907
               replace q907 := eq_true q907
               refine start_ (n := 11) (S := fun w' => w'.cell? ⟨gb890, 0, none⟩ = some (.string a0_0) ∧ w'.cell? ⟨gb890, 1, none⟩ = some (.slice (some ad906) l0_1.length c0_1) ∧ w'.cell? (ad906.add ((x8_1).toNat * 4)) = some (.string ((rd_T77 l0_1 x8_1).f0)) ∧ w'.cell? ⟨(ad906.add ((x8_1).toNat * 4)).block, (ad906.add ((x8_1).toNat * 4)).off + 1, none⟩ = some (.int .i64 ((rd_T77 l0_1 x8_1).f1.f0)) ∧ w'.cell? ⟨(ad906.add ((x8_1).toNat * 4)).block, (ad906.add ((x8_1).toNat * 4)).off + 2, none⟩ = some (.int .i64 ((rd_T77 l0_1 x8_1).f1.f1)) ∧ w'.cell? ⟨(ad906.add ((x8_1).toNat * 4)).block, (ad906.add ((x8_1).toNat * 4)).off + 3, none⟩ = some (.string ((rd_T77 l0_1 x8_1).f1.f2)) ∧ w'.cell? (ad907.add (x9_2).toNat) = some (.string (rdOf ByteArray.empty t895 x9_2))) (ds := []) #[false, false, false, false, false, false, false, false, false, false, false] (by kernel_rfl) rfl rfl ⟨(blk_cell BK890.out 0).trans rfl, (blk_cell BK890.out 1).trans rfl, ((HB.out.cell (World.block_lt_of_cell? w _ hw906_0)).trans hw906_0), ((HB.out.cell (World.block_lt_of_cell? w _ hw906_1)).trans hw906_1), ((HB.out.cell (World.block_lt_of_cell? w _ hw906_2)).trans hw906_2), ((HB.out.cell (World.block_lt_of_cell? w _ hw906_3)).trans hw906_3), hx907_0⟩ (fun hHeld => ?_); refine with_tabW constablelaw06_MatchNamed.tab12 constablelaw06_MatchNamed.bits12 (fun HT_ HW_ => ?_)
               generalize wr.drew = w63 at HO_5 HO_6 HO_906001 BK890 BK891 BK905 HB hx906_0 hx906_1 hx906_2 hx906_3 hx907_0 hHeld ⊢
               refine pQ (i := 0) (N := some 54) #[true, false, false, false, false, false, false, false, false, false, false] ?_
               refine pQ (i := 2) (N := some 56) #[true, false, true, false, false, false, false, false, false, false, false] ?_
               refine pQ (i := 6) (N := some 60) #[true, false, true, false, false, false, true, false, false, false, false] ?_
               refine pQ (i := 7) (N := some 61) #[true, false, true, false, false, false, true, true, false, false, false] ?_
               refine pQ (i := 8) (N := some 62) #[true, false, true, false, false, false, true, true, true, false, false] ?_
               refine tQ7 (i := 1) (N := some 55) #[true, true, true, false, false, false, true, true, true, false, false] hHeld ?_
               refine pQ (i := 3) (N := some 57) #[true, true, true, true, false, false, true, true, true, false, false] ?_
               refine pQ (i := 4) (N := some 58) #[true, true, true, true, true, false, true, true, true, false, false] ?_
               refine tQ7 (i := 5) (N := some 59) #[true, true, true, true, true, true, true, true, true, false, false] hHeld ?_
               refine tQ7 (i := 9) (N := some 63) #[true, true, true, true, true, true, true, true, true, true, false] hHeld ?_
               refine pQ (i := 10) (N := some 64) #[true, true, true, true, true, true, true, true, true, true, true] ?_
               refine done_ (done_of HT_.out (by kernel_rfl)) ?_
               try go_wp2
               go_roundg k2
               case measure => have := HK1.out; have := HK2.out; omega
               case rel => exact ⟨(wrap64 (x9_2 + 1)), (x906001_2), (u906001), (by first | rfl | (simp; done) | (simp [*]; done)), H', ⟨by have := HK1.out; have := HK2.out; omega⟩, ⟨by (with_reducible repeat (first | apply Kd.R_alloc | apply Kd.R_drewN | apply Kd.R_drew)); exact HO_5.out⟩, ⟨by (with_reducible repeat (first | apply Kd.R_alloc | apply Kd.R_drewN | apply Kd.R_drew)); exact HO_6.out⟩, ⟨by (with_reducible repeat (first | apply Kd.R_alloc | apply Kd.R_drewN | apply Kd.R_drew)); exact HO_906001.out⟩, ⟨by refine bk ?_; exact BK890.out⟩, ⟨by refine bk ?_; exact BK891.out⟩, ⟨by refine bk ?_; exact BK905.out⟩, ⟨(bB3 GE890.out GE891.out GE905.out)⟩⟩
             ·rw [if_neg c52] at H
              exact absurd H (by simp)
            ·rw [if_neg c51] at H
             exact absurd H (by simp)
           ·rw [if_neg c50] at H
            exact absurd H (by simp)
          ·rw [if_neg c49] at H
           have c49b0 : decide (x9_2 < (y898.length : Int)) = false := decide_eq_false c49
           clear c49
           have H' := Aside0.mk H
           clear H
           obtain ⟨Ao64, co64, eo64⟩ := Kd.R_slice HO_5.out
           subst eo64
           obtain ⟨Ao65, co65, eo65⟩ := Kd.R_slice HO_6.out
           subst eo65
           go_wp2
           go_roundg k2
           case measure => have := HK1.out; have := HK2.out; omega
           case rel => exact ⟨(wrap64 (x8_1 + 1)), (x906001_2), (u906001), (by first | rfl | (simp; done) | (simp [*]; done)), H', ⟨by have := HK1.out; have := HK2.out; omega⟩, ⟨by (with_reducible repeat (first | apply Kd.R_alloc | apply Kd.R_drewN | apply Kd.R_drew)); exact HO_5.out⟩, ⟨by (with_reducible repeat (first | apply Kd.R_alloc | apply Kd.R_drewN | apply Kd.R_drew)); exact HO_6.out⟩, ⟨by (with_reducible repeat (first | apply Kd.R_alloc | apply Kd.R_drewN | apply Kd.R_drew)); exact HO_906001.out⟩, ⟨by refine bk ?_; exact BK890.out⟩, ⟨by refine bk ?_; exact BK891.out⟩, ⟨by refine bk ?_; exact BK905.out⟩, ⟨(bB3 GE890.out GE891.out GE905.out)⟩⟩
         ·rw [if_neg c48] at H
          have c48b0 : decide (x9_2 < (t895.length : Int)) = false := decide_eq_false c48
          clear c48
          have H' := Aside0.mk H
          clear H
          obtain ⟨Ao66, co66, eo66⟩ := Kd.R_slice HO_5.out
          subst eo66
          go_wp2
          go_roundg k2
          case measure => have := HK1.out; have := HK2.out; omega
          case rel => exact ⟨(wrap64 (x8_1 + 1)), (x906001_2), (u906001), (by first | rfl | (simp; done) | (simp [*]; done)), H', ⟨by have := HK1.out; have := HK2.out; omega⟩, ⟨by (with_reducible repeat (first | apply Kd.R_alloc | apply Kd.R_drewN | apply Kd.R_drew)); exact HO_5.out⟩, ⟨by (with_reducible repeat (first | apply Kd.R_alloc | apply Kd.R_drewN | apply Kd.R_drew)); exact HO_6.out⟩, ⟨by (with_reducible repeat (first | apply Kd.R_alloc | apply Kd.R_drewN | apply Kd.R_drew)); exact HO_906001.out⟩, ⟨by refine bk ?_; exact BK890.out⟩, ⟨by refine bk ?_; exact BK891.out⟩, ⟨by refine bk ?_; exact BK905.out⟩, ⟨(bB3 GE890.out GE891.out GE905.out)⟩⟩
      ·rw [if_neg c43] at H
       have c43b0 : decide (x8_1 < (x906001_1.length : Int)) = false := decide_eq_false c43
       clear c43
       replace H := Option.bind_eq_some_iff.mp H
       obtain ⟨⟨t910, t913⟩, A670, H⟩ := H
       replace H : ((match_One.f t901 x906001_1 a1_0 l1_1 ([] : List (S39))).bind fun bt914 => (if (t913 != bt914.2) = true then (none) else (if (t910.length : Int) = (bt914.1.length : Int) then (constablelaw06_MatchNamed.l2 k1 t895 y898 t910 t913 bt914.1 0) else (none)))) = some r := H
       have A67 := Aside0.mk A670
       clear A670
       replace H := Option.bind_eq_some_iff.mp H
       obtain ⟨⟨t914, t917⟩, A680, H⟩ := H
       replace H : (if (t913 != t917) = true then (none) else (if (t910.length : Int) = (t914.length : Int) then (constablelaw06_MatchNamed.l2 k1 t895 y898 t910 t913 t914 0) else (none))) = some r := H
       have A68 := Aside0.mk A680
       clear A680
       by_cases c69 : (t913 != t917) = true
       ·rw [if_pos c69] at H
        exact absurd H (by simp)
       ·rw [if_neg c69] at H
        have c69b0 : (t913 != t917) = false := by simpa using c69
        (try (have c69b1 : decide (t913 = t917) = true := by simpa using c69))
        (try (have c69b2 : (t913 == t917) = true := by simpa using c69))
        clear c69
        by_cases c70 : (t910.length : Int) = (t914.length : Int)
        ·rw [if_pos c70] at H
         have c70b0 : ((t910.length : Int) == (t914.length : Int)) = true := beq_iff_eq.mpr c70
         have c70b1 : ((t910.length : Int) != (t914.length : Int)) = false := bne_eq_false_iff_eq.mpr c70
         have c70b2 : (t910.length == t914.length) = true := by first | simpa using c70 | (simp at c70 ⊢; omega)
         clear c70
         have H' := Aside0.mk H
         clear H
         have hnb71 := NB905_890.out
         have hnc71 := NB890_905.out
         have hnb72 := NB905_891.out
         have hnc72 := NB891_905.out
         have hcz73_0 : wr.cell? ⟨gb905, 0, none⟩ = some (.string t901) := (blk_cell BK905.out 0).trans rfl
         have hcz73_1 : wr.cell? ⟨gb905, 1, none⟩ = some (u906001) := (blk_cell BK905.out 1).trans rfl
         have hfz73_0 := blk_frozen BK905.out 0
         have hfz73_1 := blk_frozen BK905.out 1
         obtain ⟨Ao74, co74, eo74⟩ := Kd.R_slice HO_906001.out
         subst eo74
         have hnb75 := NB890_891.out
         have hnc75 := NB891_890.out
         have hcz76_0 : wr.cell? ⟨gb890, 0, none⟩ = some (.string a0_0) := (blk_cell BK890.out 0).trans rfl
         have hcz76_1 : wr.cell? ⟨gb890, 1, none⟩ = some (.slice A0_1 l0_1.length c0_1) := (blk_cell BK890.out 1).trans rfl
         have hfz76_0 := blk_frozen BK890.out 0
         have hfz76_1 := blk_frozen BK890.out 1
         have hcz77_0 : wr.cell? ⟨gb891, 0, none⟩ = some (.string a1_0) := (blk_cell BK891.out 0).trans rfl
         have hcz77_1 : wr.cell? ⟨gb891, 1, none⟩ = some (.slice A1_1 l1_1.length c1_1) := (blk_cell BK891.out 1).trans rfl
         have hfz77_0 := blk_frozen BK891.out 0
         have hfz77_1 := blk_frozen BK891.out 1
         go_wp2_with (first | ((with_reducible refine gate_callee (f := 50) rfl ?_); refine goesL_ (some 77) rfl rfl Try.func50 (by kernel_rfl) rfl #[.agg #[.string a0_0, .slice A0_1 l0_1.length c0_1], .agg #[.string a1_0, .slice A1_1 l1_1.length c1_1], .slice none 0 0] rfl aG ?_; (refine (match_One.calls a0_0 _ _ l0_1 a1_0 _ _ l1_1 _ _ ([] : List (S39)) t910 t913 _ ?side1 ?side2 ?side3 ?side4 ?side5 ?side6 A67.out).mono ?_); (case side1 => exact sC (Kd.C_below HR0_1.out HB.out)); (case side2 => exact HC0_1.out); (case side3 => exact sC (Kd.C_below HR1_1.out HB.out)); (case side4 => exact HC1_1.out); (case side5 => exact Kd.C_nil _ _); (case side6 => exact Nat.le_refl _); rintro e w78 ⟨v911, rfl, ho0, hb⟩; refine ⟨_, rfl, ?_⟩; have n0_ := Aside0.mk (Kd.R_below (sR HO_5.out) hb); have n1_ := Aside0.mk (Kd.R_below (sR HO_6.out) hb); have n2_ := Aside0.mk (Kd.R_below (sR HO_906001.out) hb); have n3_ := Aside0.mk (Kd.R_lower ho0 (below_size (bB3 GE890.out GE891.out GE905.out))); have n4_ := Aside0.mk (blk_below (g := gb890) (o := .cells #[.string a0_0, .slice A0_1 l0_1.length c0_1] 69 (0, 0)) (by refine bk ?_; exact BK890.out) hb); have n5_ := Aside0.mk (blk_below (g := gb891) (o := .cells #[.string a1_0, .slice A1_1 l1_1.length c1_1] 53 (0, 0)) (by refine bk ?_; exact BK891.out) hb); have n6_ := Aside0.mk (blk_below (g := gb905) (o := .cells #[.string t901, .slice Ao74 x906001_1.length co74] 69 (0, 0)) (by refine bk ?_; exact BK905.out) hb); have n7_ := Aside0.mk (below_step (bB3 GE890.out GE891.out GE905.out) hb); clear HO_5; clear HO_6; clear HO_906001; clear BK890; clear BK891; clear BK905; clear HB; have HO_5 := n0_; have HO_6 := n1_; have HO_906001 := n2_; have HO912 := n3_; have BK890 := n4_; have BK891 := n5_; have BK905 := n6_; have HB := n7_; clear n0_ n1_ n2_ n3_ n4_ n5_ n6_ n7_; (try clear hb); (try clear hb2); (try clear hk); (try clear hi); (try clear ho0); have hcz79_0 : w78.cell? ⟨gb905, 0, none⟩ = some (.string t901) := (blk_cell BK905.out 0).trans rfl; have hcz79_1 : w78.cell? ⟨gb905, 1, none⟩ = some (.slice Ao74 x906001_1.length co74) := (blk_cell BK905.out 1).trans rfl; have hfz79_0 := blk_frozen BK905.out 0; have hfz79_1 := blk_frozen BK905.out 1; have hcz80_0 : w78.cell? ⟨gb891, 0, none⟩ = some (.string a1_0) := (blk_cell BK891.out 0).trans rfl; have hcz80_1 : w78.cell? ⟨gb891, 1, none⟩ = some (.slice A1_1 l1_1.length c1_1) := (blk_cell BK891.out 1).trans rfl; have hfz80_0 := blk_frozen BK891.out 0; have hfz80_1 := blk_frozen BK891.out 1) | ((with_reducible refine gate_callee (f := 50) rfl ?_); refine goesL_ (some 83) rfl rfl Try.func50 (by kernel_rfl) rfl #[.agg #[.string t901, .slice Ao74 x906001_1.length co74], .agg #[.string a1_0, .slice A1_1 l1_1.length c1_1], .slice none 0 0] rfl aG ?_; (refine (match_One.calls t901 _ _ x906001_1 a1_0 _ _ l1_1 _ _ ([] : List (S39)) t914 t917 _ ?side1 ?side2 ?side3 ?side4 ?side5 ?side6 A68.out).mono ?_); (case side1 => exact sC (Kd.R_reads' HO_906001.out).2.2); (case side2 => exact (Kd.R_reads' HO_906001.out).2.1); (case side3 => exact sC (Kd.C_below HR1_1.out HB.out)); (case side4 => exact HC1_1.out); (case side5 => exact Kd.C_nil _ _); (case side6 => exact Nat.le_refl _); rintro e w81 ⟨v915, rfl, ho0, hb⟩; refine ⟨_, rfl, ?_⟩; have n0_ := Aside0.mk (Kd.R_below (sR HO_5.out) hb); have n1_ := Aside0.mk (Kd.R_below (sR HO_6.out) hb); have n2_ := Aside0.mk (Kd.R_below (sR HO_906001.out) hb); have n3_ := Aside0.mk (Kd.R_elder' (sR HO912.out) (Kd.R_base ho0) hb); have n4_ := Aside0.mk (Kd.R_lower (Kd.R_new' ho0 (Kd.R_lt (sR HO912.out))) (below_size (bB3 GE890.out GE891.out GE905.out))); have n5_ := Aside0.mk (blk_below (g := gb890) (o := .cells #[.string a0_0, .slice A0_1 l0_1.length c0_1] 69 (0, 0)) (by refine bk ?_; exact BK890.out) hb); have n6_ := Aside0.mk (blk_below (g := gb891) (o := .cells #[.string a1_0, .slice A1_1 l1_1.length c1_1] 53 (0, 0)) (by refine bk ?_; exact BK891.out) hb); have n7_ := Aside0.mk (blk_below (g := gb905) (o := .cells #[.string t901, .slice Ao74 x906001_1.length co74] 69 (0, 0)) (by refine bk ?_; exact BK905.out) hb); have n8_ := Aside0.mk (below_step (bB3 GE890.out GE891.out GE905.out) hb); clear HO_5; clear HO_6; clear HO_906001; clear HO912; clear BK890; clear BK891; clear BK905; clear HB; have HO_5 := n0_; have HO_6 := n1_; have HO_906001 := n2_; have HO912 := n3_; have HO916 := n4_; have BK890 := n5_; have BK891 := n6_; have BK905 := n7_; have HB := n8_; clear n0_ n1_ n2_ n3_ n4_ n5_ n6_ n7_ n8_; (try clear hb); (try clear hb2); (try clear hk); (try clear hi); (try clear ho0); obtain ⟨Ao82, co82, eo82⟩ := Kd.R_slice HO912.out; subst eo82; obtain ⟨Ao83, co83, eo83⟩ := Kd.R_slice HO916.out; subst eo83))
         go_loopg [14] k1 (fun kq v14 w' => ∃ (x14_2 : Int), v14 = .int .i64 x14_2 ∧ Aside0 (constablelaw06_MatchNamed.l2 kq t895 y898 t910 t913 t914 x14_2 = some r) ∧ Aside0 (kq ≤ k1) ∧ Aside0 (Kd.R Kd.string 9 w' w.heap.size (fun k_ => some k_ ≠ (v899 : Value).ownBlock) v896 t895) ∧ Aside0 (Kd.R Kd.string 9 w' w.heap.size (fun k_ => some k_ ≠ (v896 : Value).ownBlock) v899 y898) ∧ Aside0 (Kd.R k39 39 w' w.heap.size (fun k_ => some k_ ≠ ((.slice Ao83 t914.length co83) : Value).ownBlock) (.slice Ao82 t910.length co82) t910) ∧ Aside0 (Kd.R k39 39 w' w.heap.size (fun k_ => some k_ ≠ ((.slice Ao82 t910.length co82) : Value).ownBlock) (.slice Ao83 t914.length co83) t914) ∧ Aside0 (Kd.R k77 77 w' w.heap.size (fun _ => True) (.slice Ao74 x906001_1.length co74) x906001_1) ∧ Aside0 (w'.heap[gb890]? = some (.cells #[.string a0_0, (.slice A0_1 l0_1.length c0_1)] 69 (0, 0))) ∧ Aside0 (w'.heap[gb891]? = some (.cells #[.string a1_0, (.slice A1_1 l1_1.length c1_1)] 53 (0, 0))) ∧ Aside0 (w'.heap[gb905]? = some (.cells #[.string t901, (.slice Ao74 x906001_1.length co74)] 69 (0, 0))) ∧ Aside0 (Below w.heap.size w w'))
         case atStart => exact ⟨(0), (by first | rfl | (simp; done) | (simp [*]; done)), H', ⟨Nat.le_refl _⟩, ⟨by (with_reducible repeat (first | apply Kd.R_alloc | apply Kd.R_drewN | apply Kd.R_drew)); exact HO_5.out⟩, ⟨by (with_reducible repeat (first | apply Kd.R_alloc | apply Kd.R_drewN | apply Kd.R_drew)); exact HO_6.out⟩, ⟨by (with_reducible repeat (first | apply Kd.R_alloc | apply Kd.R_drewN | apply Kd.R_drew)); exact Kd.R_mono HO912.out (fun _ hk => hk.2)⟩, ⟨by (with_reducible repeat (first | apply Kd.R_alloc | apply Kd.R_drewN | apply Kd.R_drew)); exact Kd.R_mono HO916.out (fun _ hk => hk.2)⟩, ⟨by (with_reducible repeat (first | apply Kd.R_alloc | apply Kd.R_drewN | apply Kd.R_drew)); exact HO_906001.out⟩, ⟨by refine bk ?_; exact BK890.out⟩, ⟨by refine bk ?_; exact BK891.out⟩, ⟨by refine bk ?_; exact BK905.out⟩, ⟨(bB3 GE890.out GE891.out GE905.out)⟩⟩
         case round =>
          clear H'
          (try clear c1); (try clear p2); (try clear c4); (try clear c5); (try clear p5); (try clear q5); (try clear hx5); (try clear hf5); (try clear c6); (try clear p6); (try clear c7); (try clear p9); (try clear q9); (try clear hx9); (try clear c40); (try clear c43); (try clear c43b0); (try clear c44); (try clear c45); (try clear c48); (try clear c48b0); (try clear c49); (try clear c49b0); (try clear c50); (try clear c50b0); (try clear c51); (try clear c51b0); (try clear c52); (try clear c52b0); (try clear c53); (try clear c53b0); (try clear c53b1); (try clear c54); (try clear c54b0); (try clear c55); (try clear p55); (try clear q55); (try clear hx55); (try clear hf55); (try clear c60); (try clear p64); (try clear c69); (try clear c69b0); (try clear c69b1); (try clear c69b2); (try clear c70); (try clear c70b0); (try clear c70b1); (try clear c70b2); (try clear c71); (try clear c72); (try clear c75); (try clear hcz15_0); (try clear hcz15_1); (try clear hcz17_0); (try clear hcz17_1); (try clear hcz26_0); (try clear hcz26_1); (try clear hcz28_0); (try clear hcz28_1); (try clear hcz30_0); (try clear hcz30_1); (try clear hcz32_0); (try clear hcz32_1); (try clear hcz36_0); (try clear hcz36_1); (try clear hcz41_0); (try clear hcz41_1); (try clear hcz46_0); (try clear hcz46_1); (try clear hcz73_0); (try clear hcz73_1); (try clear hcz76_0); (try clear hcz76_1); (try clear hcz77_0); (try clear hcz77_1); (try clear hcz79_0); (try clear hcz79_1); (try clear hcz80_0); (try clear hcz80_1); (try clear hcz8_0); (try clear hcz8_1); (try clear hfz15_0); (try clear hfz15_1); (try clear hfz17_0); (try clear hfz17_1); (try clear hfz26_0); (try clear hfz26_1); (try clear hfz28_0); (try clear hfz28_1); (try clear hfz30_0); (try clear hfz30_1); (try clear hfz32_0); (try clear hfz32_1); (try clear hfz36_0); (try clear hfz36_1); (try clear hfz41_0); (try clear hfz41_1); (try clear hfz46_0); (try clear hfz46_1); (try clear hfz73_0); (try clear hfz73_1); (try clear hfz76_0); (try clear hfz76_1); (try clear hfz77_0); (try clear hfz77_1); (try clear hfz79_0); (try clear hfz79_1); (try clear hfz80_0); (try clear hfz80_1); (try clear hfz8_0); (try clear hfz8_1); (try clear hx55_0); (try clear hx55_1); (try clear hx55_2); (try clear hx55_3); (try clear hx906_0); (try clear hx906_1); (try clear hx906_2); (try clear hx906_3); (try clear hx907_0); (try clear hx908_0); (try clear p2); (try clear p55); (try clear p906); (try clear p907); (try clear p908); (try clear q55); (try clear q906); (try clear q907); (try clear q908)
          obtain ⟨x14_2, rfl, HA, HK2, HO_5, HO_6, HO_10, HO_12, HO_906001, BK890, BK891, BK905, HB⟩ := hrel
          cases gk with
          | zero => exact absurd HA.out (by simp [constablelaw06_MatchNamed.l2])
          | succ k2 =>
           have H := HA.out
           clear HA
           simp only [constablelaw06_MatchNamed.l2] at H
           by_cases c84 : x14_2 < (t895.length : Int)
           ·rw [if_pos c84] at H
            have c84b0 : decide (x14_2 < (t895.length : Int)) = true := decide_eq_true c84
            clear c84
            by_cases c85 : t913 = true
            ·subst c85
             have H1 : (if 0 ≤ x14_2 then ((constableref01_Get.f k2 t910 (rdOf ByteArray.empty t895 x14_2)).bind fun bt919 => (if x14_2 < (y898.length : Int) then ((constableref01_Get.f k2 t914 (rdOf ByteArray.empty y898 x14_2)).bind fun bt925 => (if bt925.2.2.2 = true then (if (!(bt919.1 == bt925.1) || (!(bt919.2.1 == bt925.2.1) || (!(bt919.2.2.1.toList == bt925.2.2.1.toList)))) = true then (none) else (constablelaw06_MatchNamed.l2 k2 t895 y898 t910 true t914 (wrap64 (x14_2 + 1)))) else (none))) else (none))) else (none)) = some r := by rw [if_pos rfl] at H; exact H
             clear H
             have H := H1
             clear H1
             by_cases c86 : 0 ≤ x14_2
             ·rw [if_pos c86] at H
              have c86b0 : decide (0 ≤ x14_2) = true := decide_eq_true c86
              clear c86
              replace H := Option.bind_eq_some_iff.mp H
              obtain ⟨⟨t919, t920, t921, t922⟩, A870, H⟩ := H
              replace H : (if x14_2 < (y898.length : Int) then ((constableref01_Get.f k2 t914 (rdOf ByteArray.empty y898 x14_2)).bind fun bt925 => (if bt925.2.2.2 = true then (if (!(t919 == bt925.1) || (!(t920 == bt925.2.1) || (!(t921.toList == bt925.2.2.1.toList)))) = true then (none) else (constablelaw06_MatchNamed.l2 k2 t895 y898 t910 true t914 (wrap64 (x14_2 + 1)))) else (none))) else (none)) = some r := H
              have A87 := Aside0.mk A870
              clear A870
              by_cases c88 : x14_2 < (y898.length : Int)
              ·rw [if_pos c88] at H
               have c88b0 : decide (x14_2 < (y898.length : Int)) = true := decide_eq_true c88
               clear c88
               replace H := Option.bind_eq_some_iff.mp H
               obtain ⟨⟨t925, t926, t927, t928⟩, A890, H⟩ := H
               replace H : (if t928 = true then (if (!(t919 == t925) || (!(t920 == t926) || (!(t921.toList == t927.toList)))) = true then (none) else (constablelaw06_MatchNamed.l2 k2 t895 y898 t910 true t914 (wrap64 (x14_2 + 1)))) else (none)) = some r := H
               have A89 := Aside0.mk A890
               clear A890
               by_cases c90 : t928 = true
               ·subst c90
                have H1 : (if (!(t919 == t925) || (!(t920 == t926) || (!(t921.toList == t927.toList)))) = true then (none) else (constablelaw06_MatchNamed.l2 k2 t895 y898 t910 true t914 (wrap64 (x14_2 + 1)))) = some r := by rw [if_pos rfl] at H; exact H
                clear H
                have H := H1
                clear H1
                obtain ⟨qc91, hqc91⟩ : ∃ b_ : Bool, (!(t919 == t925) || (!(t920 == t926) || (!(t921.toList == t927.toList)))) = b_ := ⟨_, rfl⟩
                by_cases c91 : (!(t919 == t925) || (!(t920 == t926) || (!(t921.toList == t927.toList)))) = true
                ·rw [if_pos c91] at H
                 exact absurd H (by simp)
                ·rw [if_neg c91] at H
                 have c91b0 : qc91 = false := hqc91.symm.trans (Bool.eq_false_iff.mpr c91)
                 clear c91
                 have H' := Aside0.mk H
                 clear H
                 obtain ⟨Ao92, co92, eo92⟩ := Kd.R_slice HO_5.out
                 subst eo92
                 have p918 : 0 ≤ (x14_2 : Int) := of_decide_eq_true (by first | (with_reducible assumption) | assumption)
                 have q918 : x14_2 < (t895.length : Int) := of_decide_eq_true (by first | (with_reducible assumption) | assumption)
                 obtain ⟨ad918, e918, hx918_0⟩ := Kd.at_string (Kd.R_reads' HO_5.out).2.2 x14_2 p918 q918
                 cases e918
                 replace p918 := eq_true p918
                 replace q918 := eq_true q918
                 go_wp2_with (first | ((with_reducible refine gate_callee (f := 18) rfl ?_); refine goesL_ (some 111) rfl rfl Try.func18 (by kernel_rfl) rfl #[.slice Ao82 t910.length co82, .string (rdOf ByteArray.empty t895 x14_2)] rfl aG ?_; (with_reducible refine (constableref01_Get.calls k2 _ _ t910 (rdOf ByteArray.empty t895 x14_2) t919 t920 t921 t922 _ ?side1 ?side2 A87.out).mono ?_); (case side1 => exact sC (Kd.R_reads' HO_10.out).2.2); (case side2 => exact (Kd.R_reads' HO_10.out).2.1); rintro e w93 ⟨rfl, hb⟩; refine ⟨_, rfl, ?_⟩; have n0_ := Aside0.mk (Kd.R_below (sR HO_5.out) hb); have n1_ := Aside0.mk (Kd.R_below (sR HO_6.out) hb); have n2_ := Aside0.mk (Kd.R_below (sR HO_10.out) hb); have n3_ := Aside0.mk (Kd.R_below (sR HO_12.out) hb); have n4_ := Aside0.mk (Kd.R_below (sR HO_906001.out) hb); have n5_ := Aside0.mk (blk_below (g := gb890) (o := .cells #[.string a0_0, .slice A0_1 l0_1.length c0_1] 69 (0, 0)) (by refine bk ?_; exact BK890.out) hb); have n6_ := Aside0.mk (blk_below (g := gb891) (o := .cells #[.string a1_0, .slice A1_1 l1_1.length c1_1] 53 (0, 0)) (by refine bk ?_; exact BK891.out) hb); have n7_ := Aside0.mk (blk_below (g := gb905) (o := .cells #[.string t901, .slice Ao74 x906001_1.length co74] 69 (0, 0)) (by refine bk ?_; exact BK905.out) hb); have n8_ := Aside0.mk (below_step (bB3 GE890.out GE891.out GE905.out) hb); clear HO_5; clear HO_6; clear HO_10; clear HO_12; clear HO_906001; clear BK890; clear BK891; clear BK905; clear HB; have HO_5 := n0_; have HO_6 := n1_; have HO_10 := n2_; have HO_12 := n3_; have HO_906001 := n4_; have BK890 := n5_; have BK891 := n6_; have BK905 := n7_; have HB := n8_; clear n0_ n1_ n2_ n3_ n4_ n5_ n6_ n7_ n8_; (try clear hb); (try clear hb2); (try clear hk); (try clear hi)) | ((with_reducible refine gate_dst (N := 15) rfl ?_); (try (refine gate_guard (by rfl) ?_; dsimp only)); refine bE (N := 15) (cs := #[.int .i64 0, .int .i64 0, .string (⟨#[]⟩ : ByteArray)]) (t := 24) ?_; intro gb923 hg w94 hbox hb; have n0_ := Aside0.mk (Kd.R_below (sR HO_5.out) hb); have n1_ := Aside0.mk (Kd.R_below (sR HO_6.out) hb); have n2_ := Aside0.mk (Kd.R_below (sR HO_10.out) hb); have n3_ := Aside0.mk (Kd.R_below (sR HO_12.out) hb); have n4_ := Aside0.mk (Kd.R_below (sR HO_906001.out) hb); have n5_ := Aside0.mk (blk_below (g := gb890) (o := .cells #[.string a0_0, .slice A0_1 l0_1.length c0_1] 69 (0, 0)) (by refine bk ?_; exact BK890.out) hb); have n6_ := Aside0.mk (blk_below (g := gb891) (o := .cells #[.string a1_0, .slice A1_1 l1_1.length c1_1] 53 (0, 0)) (by refine bk ?_; exact BK891.out) hb); have n7_ := Aside0.mk (blk_below (g := gb905) (o := .cells #[.string t901, .slice Ao74 x906001_1.length co74] 69 (0, 0)) (by refine bk ?_; exact BK905.out) hb); have n8_ := Aside0.mk (below_step (bB3 GE890.out GE891.out GE905.out) hb); have n9_ := Aside0.mk (hbox); have n10_ := Aside0.mk ((by rw [hg]; exact (below_size (bB3 GE890.out GE891.out GE905.out)) : w.heap.size ≤ gb923)); have n11_ := Aside0.mk ((by rw [hg]; exact (below_size (bB3 GE890.out GE891.out GE905.out)) : w.heap.size ≤ gb923)); have n12_ := Aside0.mk ((by rw [hg]; exact Nat.ne_of_lt (blk_lt (g := gb890) (o := .cells #[.string a0_0, .slice A0_1 l0_1.length c0_1] 69 (0, 0)) (by refine bk ?_; exact BK890.out)) : gb890 ≠ gb923)); have n13_ := Aside0.mk ((by rw [hg]; exact Nat.ne_of_gt (blk_lt (g := gb890) (o := .cells #[.string a0_0, .slice A0_1 l0_1.length c0_1] 69 (0, 0)) (by refine bk ?_; exact BK890.out)) : gb923 ≠ gb890)); have n14_ := Aside0.mk ((by rw [hg]; exact Nat.ne_of_lt (blk_lt (g := gb891) (o := .cells #[.string a1_0, .slice A1_1 l1_1.length c1_1] 53 (0, 0)) (by refine bk ?_; exact BK891.out)) : gb891 ≠ gb923)); have n15_ := Aside0.mk ((by rw [hg]; exact Nat.ne_of_gt (blk_lt (g := gb891) (o := .cells #[.string a1_0, .slice A1_1 l1_1.length c1_1] 53 (0, 0)) (by refine bk ?_; exact BK891.out)) : gb923 ≠ gb891)); have n16_ := Aside0.mk ((by rw [hg]; exact Nat.ne_of_lt (blk_lt (g := gb905) (o := .cells #[.string t901, .slice Ao74 x906001_1.length co74] 69 (0, 0)) (by refine bk ?_; exact BK905.out)) : gb905 ≠ gb923)); have n17_ := Aside0.mk ((by rw [hg]; exact Nat.ne_of_gt (blk_lt (g := gb905) (o := .cells #[.string t901, .slice Ao74 x906001_1.length co74] 69 (0, 0)) (by refine bk ?_; exact BK905.out)) : gb923 ≠ gb905)); clear HO_5; clear HO_6; clear HO_10; clear HO_12; clear HO_906001; clear BK890; clear BK891; clear BK905; clear HB; have HO_5 := n0_; have HO_6 := n1_; have HO_10 := n2_; have HO_12 := n3_; have HO_906001 := n4_; have BK890 := n5_; have BK891 := n6_; have BK905 := n7_; have HB := n8_; have BK923 := n9_; have GW923 := n10_; have GE923 := n11_; have NB890_923 := n12_; have NB923_890 := n13_; have NB891_923 := n14_; have NB923_891 := n15_; have NB905_923 := n16_; have NB923_905 := n17_; clear n0_ n1_ n2_ n3_ n4_ n5_ n6_ n7_ n8_ n9_ n10_ n11_ n12_ n13_ n14_ n15_ n16_ n17_; clear hb hbox hg; have hnb95 := NB923_890.out; have hnc95 := NB890_923.out; have hnb96 := NB923_891.out; have hnc96 := NB891_923.out; have hnb97 := NB923_905.out; have hnc97 := NB905_923.out; have hcz98_0 : w94.cell? ⟨gb923, 0, none⟩ = some (.int .i64 0) := (blk_cell BK923.out 0).trans rfl; have hcz98_1 : w94.cell? ⟨gb923, 1, none⟩ = some (.int .i64 0) := (blk_cell BK923.out 1).trans rfl; have hcz98_2 : w94.cell? ⟨gb923, 2, none⟩ = some (.string (⟨#[]⟩ : ByteArray)) := (blk_cell BK923.out 2).trans rfl; have hfz98_0 := blk_frozen BK923.out 0; have hfz98_1 := blk_frozen BK923.out 1; have hfz98_2 := blk_frozen BK923.out 2; obtain ⟨Ao99, co99, eo99⟩ := Kd.R_slice HO_6.out; subst eo99; have p924 : 0 ≤ (x14_2 : Int) := of_decide_eq_true (by first | (with_reducible assumption) | assumption); have q924 : x14_2 < (y898.length : Int) := of_decide_eq_true (by first | (with_reducible assumption) | assumption); obtain ⟨ad924, e924, hx924_0⟩ := Kd.at_string (Kd.R_reads' HO_6.out).2.2 x14_2 p924 q924; cases e924; have hn924_0 : ad924.block ≠ gb923 := Kd.own_blk (Kd.R_ne HO_6.out BK923.out (by decide)); have hn924_1 : ad924.block ≠ gb923 := Kd.own_blk (Kd.R_ne HO_6.out BK923.out (by decide)); have hn924_2 : ad924.block ≠ gb923 := Kd.own_blk (Kd.R_ne HO_6.out BK923.out (by decide)); replace hx924_0 := (cell_far (p := ⟨gb923, 0, none⟩) (by first | (rw [add_block]; exact hn924_0) | (show (Addr.add _ _).block ≠ _; rw [add_block]; exact hn924_0) | exact hn924_0) (.int .i64 t919)).trans hx924_0; replace hx924_0 := (cell_far (p := ⟨gb923, 1, none⟩) (by first | (rw [add_block]; exact hn924_1) | (show (Addr.add _ _).block ≠ _; rw [add_block]; exact hn924_1) | exact hn924_1) (.int .i64 t920)).trans hx924_0; replace hx924_0 := (cell_far (p := ⟨gb923, 2, none⟩) (by first | (rw [add_block]; exact hn924_2) | (show (Addr.add _ _).block ≠ _; rw [add_block]; exact hn924_2) | exact hn924_2) (.string t921)).trans hx924_0; clear hn924_0; clear hn924_1; clear hn924_2; replace p924 := eq_true p924; replace q924 := eq_true q924) | ((with_reducible refine gate_callee (f := 18) rfl ?_); refine goesL_ (some 120) rfl rfl Try.func18 (by kernel_rfl) rfl #[.slice Ao83 t914.length co83, .string (rdOf ByteArray.empty y898 x14_2)] rfl aG ?_; (with_reducible refine (constableref01_Get.calls k2 _ _ t914 (rdOf ByteArray.empty y898 x14_2) t925 t926 t927 true _ ?side1 ?side2 A89.out).mono ?_); (case side1 => refine (Kd.R_reads' (e := 39) (base := w.heap.size) (ok := fun k_ => some k_ ≠ (.slice Ao82 t910.length co82 : Value).ownBlock) (n := t914.length) (c := co83) ?_).2.2; exact (sR ((Kd.R_mono (Kd.R_far (p := ⟨gb923, 2, none⟩) (Kd.R_far (p := ⟨gb923, 1, none⟩) (Kd.R_far (p := ⟨gb923, 0, none⟩) (Kd.R_types HO_12.out BK923.out (by decide)) (fun _ hk => hk.2) (.int .i64 t919)) (fun _ hk => hk.2) (.int .i64 t920)) (fun _ hk => hk.2) (.string t921)) (fun _ h_ => h_.1))))); (case side2 => exact (Kd.R_reads' HO_12.out).2.1); rintro e w100 ⟨rfl, hb⟩; refine ⟨_, rfl, ?_⟩; have n0_ := Aside0.mk (Kd.R_below (sR ((Kd.R_mono (Kd.R_far (p := ⟨gb923, 2, none⟩) (Kd.R_far (p := ⟨gb923, 1, none⟩) (Kd.R_far (p := ⟨gb923, 0, none⟩) (Kd.R_types HO_5.out BK923.out (by decide)) (fun _ hk => hk.2) (.int .i64 t919)) (fun _ hk => hk.2) (.int .i64 t920)) (fun _ hk => hk.2) (.string t921)) (fun _ h_ => h_.1)))) hb); have n1_ := Aside0.mk (Kd.R_below (sR ((Kd.R_mono (Kd.R_far (p := ⟨gb923, 2, none⟩) (Kd.R_far (p := ⟨gb923, 1, none⟩) (Kd.R_far (p := ⟨gb923, 0, none⟩) (Kd.R_types HO_6.out BK923.out (by decide)) (fun _ hk => hk.2) (.int .i64 t919)) (fun _ hk => hk.2) (.int .i64 t920)) (fun _ hk => hk.2) (.string t921)) (fun _ h_ => h_.1)))) hb); have n2_ := Aside0.mk (Kd.R_below (sR ((Kd.R_mono (Kd.R_far (p := ⟨gb923, 2, none⟩) (Kd.R_far (p := ⟨gb923, 1, none⟩) (Kd.R_far (p := ⟨gb923, 0, none⟩) (Kd.R_types HO_10.out BK923.out (by decide)) (fun _ hk => hk.2) (.int .i64 t919)) (fun _ hk => hk.2) (.int .i64 t920)) (fun _ hk => hk.2) (.string t921)) (fun _ h_ => h_.1)))) hb); have n3_ := Aside0.mk (Kd.R_below (sR ((Kd.R_mono (Kd.R_far (p := ⟨gb923, 2, none⟩) (Kd.R_far (p := ⟨gb923, 1, none⟩) (Kd.R_far (p := ⟨gb923, 0, none⟩) (Kd.R_types HO_12.out BK923.out (by decide)) (fun _ hk => hk.2) (.int .i64 t919)) (fun _ hk => hk.2) (.int .i64 t920)) (fun _ hk => hk.2) (.string t921)) (fun _ h_ => h_.1)))) hb); have n4_ := Aside0.mk (Kd.R_below (sR ((Kd.R_mono (Kd.R_far (p := ⟨gb923, 2, none⟩) (Kd.R_far (p := ⟨gb923, 1, none⟩) (Kd.R_far (p := ⟨gb923, 0, none⟩) (Kd.R_types HO_906001.out BK923.out (by decide)) (fun _ hk => hk.2) (.int .i64 t919)) (fun _ hk => hk.2) (.int .i64 t920)) (fun _ hk => hk.2) (.string t921)) (fun _ h_ => h_.1)))) hb); have n5_ := Aside0.mk (blk_below (g := gb890) (o := .cells #[.string a0_0, .slice A0_1 l0_1.length c0_1] 69 (0, 0)) (by refine bk ?_; refine blk_far ?_ NB890_923.out _; refine bk ?_; refine blk_far ?_ NB890_923.out _; refine bk ?_; refine blk_far ?_ NB890_923.out _; refine bk ?_; exact BK890.out) hb); have n6_ := Aside0.mk (blk_below (g := gb891) (o := .cells #[.string a1_0, .slice A1_1 l1_1.length c1_1] 53 (0, 0)) (by refine bk ?_; refine blk_far ?_ NB891_923.out _; refine bk ?_; refine blk_far ?_ NB891_923.out _; refine bk ?_; refine blk_far ?_ NB891_923.out _; refine bk ?_; exact BK891.out) hb); have n7_ := Aside0.mk (blk_below (g := gb905) (o := .cells #[.string t901, .slice Ao74 x906001_1.length co74] 69 (0, 0)) (by refine bk ?_; refine blk_far ?_ NB905_923.out _; refine bk ?_; refine blk_far ?_ NB905_923.out _; refine bk ?_; refine blk_far ?_ NB905_923.out _; refine bk ?_; exact BK905.out) hb); have n8_ := Aside0.mk (blk_below (g := gb923) (o := .cells #[.int .i64 t919, .int .i64 t920, .string t921] 24 (0, 0)) (by refine bk ?_; refine blk_put (cs := #[.int .i64 t919, .int .i64 t920, .string (⟨#[]⟩ : ByteArray)]) ?_ 2 _ rfl; refine bk ?_; refine blk_put (cs := #[.int .i64 t919, .int .i64 0, .string (⟨#[]⟩ : ByteArray)]) ?_ 1 _ rfl; refine bk ?_; refine blk_put (cs := #[.int .i64 0, .int .i64 0, .string (⟨#[]⟩ : ByteArray)]) ?_ 0 _ rfl; refine bk ?_; exact BK923.out) hb); have n9_ := Aside0.mk (below_step (bB4 GE890.out GE891.out GE905.out GE923.out) hb); clear HO_5; clear HO_6; clear HO_10; clear HO_12; clear HO_906001; clear BK890; clear BK891; clear BK905; clear BK923; clear HB; have HO_5 := n0_; have HO_6 := n1_; have HO_10 := n2_; have HO_12 := n3_; have HO_906001 := n4_; have BK890 := n5_; have BK891 := n6_; have BK905 := n7_; have BK923 := n8_; have HB := n9_; clear n0_ n1_ n2_ n3_ n4_ n5_ n6_ n7_ n8_ n9_; (try clear hb); (try clear hb2); (try clear hk); (try clear hi)) | ((with_reducible refine gate_dst (N := 17) rfl ?_); (try (refine gate_guard (by rfl) ?_; dsimp only)); refine bE (N := 17) (cs := #[.int .i64 0, .int .i64 0, .string (⟨#[]⟩ : ByteArray)]) (t := 24) ?_; intro gb929 hg w101 hbox hb; have n0_ := Aside0.mk (Kd.R_below (sR HO_5.out) hb); have n1_ := Aside0.mk (Kd.R_below (sR HO_6.out) hb); have n2_ := Aside0.mk (Kd.R_below (sR HO_10.out) hb); have n3_ := Aside0.mk (Kd.R_below (sR HO_12.out) hb); have n4_ := Aside0.mk (Kd.R_below (sR HO_906001.out) hb); have n5_ := Aside0.mk (blk_below (g := gb890) (o := .cells #[.string a0_0, .slice A0_1 l0_1.length c0_1] 69 (0, 0)) (by refine bk ?_; exact BK890.out) hb); have n6_ := Aside0.mk (blk_below (g := gb891) (o := .cells #[.string a1_0, .slice A1_1 l1_1.length c1_1] 53 (0, 0)) (by refine bk ?_; exact BK891.out) hb); have n7_ := Aside0.mk (blk_below (g := gb905) (o := .cells #[.string t901, .slice Ao74 x906001_1.length co74] 69 (0, 0)) (by refine bk ?_; exact BK905.out) hb); have n8_ := Aside0.mk (blk_below (g := gb923) (o := .cells #[.int .i64 t919, .int .i64 t920, .string t921] 24 (0, 0)) (by refine bk ?_; exact BK923.out) hb); have n9_ := Aside0.mk (below_step (bB4 GE890.out GE891.out GE905.out GE923.out) hb); have n10_ := Aside0.mk (hbox); have n11_ := Aside0.mk ((by rw [hg]; exact (below_size (bB4 GE890.out GE891.out GE905.out GE923.out)) : w.heap.size ≤ gb929)); have n12_ := Aside0.mk ((by rw [hg]; exact (below_size (bB4 GE890.out GE891.out GE905.out GE923.out)) : w.heap.size ≤ gb929)); have n13_ := Aside0.mk ((by rw [hg]; exact Nat.ne_of_lt (blk_lt (g := gb890) (o := .cells #[.string a0_0, .slice A0_1 l0_1.length c0_1] 69 (0, 0)) (by refine bk ?_; exact BK890.out)) : gb890 ≠ gb929)); have n14_ := Aside0.mk ((by rw [hg]; exact Nat.ne_of_gt (blk_lt (g := gb890) (o := .cells #[.string a0_0, .slice A0_1 l0_1.length c0_1] 69 (0, 0)) (by refine bk ?_; exact BK890.out)) : gb929 ≠ gb890)); have n15_ := Aside0.mk ((by rw [hg]; exact Nat.ne_of_lt (blk_lt (g := gb891) (o := .cells #[.string a1_0, .slice A1_1 l1_1.length c1_1] 53 (0, 0)) (by refine bk ?_; exact BK891.out)) : gb891 ≠ gb929)); have n16_ := Aside0.mk ((by rw [hg]; exact Nat.ne_of_gt (blk_lt (g := gb891) (o := .cells #[.string a1_0, .slice A1_1 l1_1.length c1_1] 53 (0, 0)) (by refine bk ?_; exact BK891.out)) : gb929 ≠ gb891)); have n17_ := Aside0.mk ((by rw [hg]; exact Nat.ne_of_lt (blk_lt (g := gb905) (o := .cells #[.string t901, .slice Ao74 x906001_1.length co74] 69 (0, 0)) (by refine bk ?_; exact BK905.out)) : gb905 ≠ gb929)); have n18_ := Aside0.mk ((by rw [hg]; exact Nat.ne_of_gt (blk_lt (g := gb905) (o := .cells #[.string t901, .slice Ao74 x906001_1.length co74] 69 (0, 0)) (by refine bk ?_; exact BK905.out)) : gb929 ≠ gb905)); have n19_ := Aside0.mk ((by rw [hg]; exact Nat.ne_of_lt (blk_lt (g := gb923) (o := .cells #[.int .i64 t919, .int .i64 t920, .string t921] 24 (0, 0)) (by refine bk ?_; exact BK923.out)) : gb923 ≠ gb929)); have n20_ := Aside0.mk ((by rw [hg]; exact Nat.ne_of_gt (blk_lt (g := gb923) (o := .cells #[.int .i64 t919, .int .i64 t920, .string t921] 24 (0, 0)) (by refine bk ?_; exact BK923.out)) : gb929 ≠ gb923)); clear HO_5; clear HO_6; clear HO_10; clear HO_12; clear HO_906001; clear BK890; clear BK891; clear BK905; clear BK923; clear HB; have HO_5 := n0_; have HO_6 := n1_; have HO_10 := n2_; have HO_12 := n3_; have HO_906001 := n4_; have BK890 := n5_; have BK891 := n6_; have BK905 := n7_; have BK923 := n8_; have HB := n9_; have BK929 := n10_; have GW929 := n11_; have GE929 := n12_; have NB890_929 := n13_; have NB929_890 := n14_; have NB891_929 := n15_; have NB929_891 := n16_; have NB905_929 := n17_; have NB929_905 := n18_; have NB923_929 := n19_; have NB929_923 := n20_; clear n0_ n1_ n2_ n3_ n4_ n5_ n6_ n7_ n8_ n9_ n10_ n11_ n12_ n13_ n14_ n15_ n16_ n17_ n18_ n19_ n20_; clear hb hbox hg; have hnb102 := NB929_890.out; have hnc102 := NB890_929.out; have hnb103 := NB929_891.out; have hnc103 := NB891_929.out; have hnb104 := NB929_905.out; have hnc104 := NB905_929.out; have hnb105 := NB929_923.out; have hnc105 := NB923_929.out; have hcz106_0 : w101.cell? ⟨gb929, 0, none⟩ = some (.int .i64 0) := (blk_cell BK929.out 0).trans rfl; have hcz106_1 : w101.cell? ⟨gb929, 1, none⟩ = some (.int .i64 0) := (blk_cell BK929.out 1).trans rfl; have hcz106_2 : w101.cell? ⟨gb929, 2, none⟩ = some (.string (⟨#[]⟩ : ByteArray)) := (blk_cell BK929.out 2).trans rfl; have hfz106_0 := blk_frozen BK929.out 0; have hfz106_1 := blk_frozen BK929.out 1; have hfz106_2 := blk_frozen BK929.out 2; have hcz107_0 : w101.cell? ⟨gb923, 0, none⟩ = some (.int .i64 t919) := (blk_cell BK923.out 0).trans rfl; have hcz107_1 : w101.cell? ⟨gb923, 1, none⟩ = some (.int .i64 t920) := (blk_cell BK923.out 1).trans rfl; have hcz107_2 : w101.cell? ⟨gb923, 2, none⟩ = some (.string t921) := (blk_cell BK923.out 2).trans rfl; have hfz107_0 := blk_frozen BK923.out 0; have hfz107_1 := blk_frozen BK923.out 1; have hfz107_2 := blk_frozen BK923.out 2))
                 go_roundg k2
                 case measure => have := HK1.out; have := HK2.out; omega
                 case rel => exact ⟨(wrap64 (x14_2 + 1)), (by first | rfl | (simp; done) | (simp [*]; done)), H', ⟨by have := HK1.out; have := HK2.out; omega⟩, ⟨by (with_reducible repeat (first | apply Kd.R_alloc | apply Kd.R_drewN | apply Kd.R_drew)); exact Kd.R_mono (Kd.R_far (p := ⟨gb929, 2, none⟩) (Kd.R_far (p := ⟨gb929, 1, none⟩) (Kd.R_far (p := ⟨gb929, 0, none⟩) (Kd.R_types HO_5.out BK929.out (by decide)) (fun _ hk => hk.2) (.int .i64 t925)) (fun _ hk => hk.2) (.int .i64 t926)) (fun _ hk => hk.2) (.string t927)) (fun _ hk => hk.1)⟩, ⟨by (with_reducible repeat (first | apply Kd.R_alloc | apply Kd.R_drewN | apply Kd.R_drew)); exact Kd.R_mono (Kd.R_far (p := ⟨gb929, 2, none⟩) (Kd.R_far (p := ⟨gb929, 1, none⟩) (Kd.R_far (p := ⟨gb929, 0, none⟩) (Kd.R_types HO_6.out BK929.out (by decide)) (fun _ hk => hk.2) (.int .i64 t925)) (fun _ hk => hk.2) (.int .i64 t926)) (fun _ hk => hk.2) (.string t927)) (fun _ hk => hk.1)⟩, ⟨by (with_reducible repeat (first | apply Kd.R_alloc | apply Kd.R_drewN | apply Kd.R_drew)); exact Kd.R_mono (Kd.R_far (p := ⟨gb929, 2, none⟩) (Kd.R_far (p := ⟨gb929, 1, none⟩) (Kd.R_far (p := ⟨gb929, 0, none⟩) (Kd.R_types HO_10.out BK929.out (by decide)) (fun _ hk => hk.2) (.int .i64 t925)) (fun _ hk => hk.2) (.int .i64 t926)) (fun _ hk => hk.2) (.string t927)) (fun _ hk => hk.1)⟩, ⟨by (with_reducible repeat (first | apply Kd.R_alloc | apply Kd.R_drewN | apply Kd.R_drew)); exact Kd.R_mono (Kd.R_far (p := ⟨gb929, 2, none⟩) (Kd.R_far (p := ⟨gb929, 1, none⟩) (Kd.R_far (p := ⟨gb929, 0, none⟩) (Kd.R_types HO_12.out BK929.out (by decide)) (fun _ hk => hk.2) (.int .i64 t925)) (fun _ hk => hk.2) (.int .i64 t926)) (fun _ hk => hk.2) (.string t927)) (fun _ hk => hk.1)⟩, ⟨by (with_reducible repeat (first | apply Kd.R_alloc | apply Kd.R_drewN | apply Kd.R_drew)); exact Kd.R_mono (Kd.R_far (p := ⟨gb929, 2, none⟩) (Kd.R_far (p := ⟨gb929, 1, none⟩) (Kd.R_far (p := ⟨gb929, 0, none⟩) (Kd.R_types HO_906001.out BK929.out (by decide)) (fun _ hk => hk.2) (.int .i64 t925)) (fun _ hk => hk.2) (.int .i64 t926)) (fun _ hk => hk.2) (.string t927)) (fun _ hk => trivial)⟩, ⟨by refine bk ?_; refine blk_far ?_ NB890_929.out _; refine bk ?_; refine blk_far ?_ NB890_929.out _; refine bk ?_; refine blk_far ?_ NB890_929.out _; refine bk ?_; exact BK890.out⟩, ⟨by refine bk ?_; refine blk_far ?_ NB891_929.out _; refine bk ?_; refine blk_far ?_ NB891_929.out _; refine bk ?_; refine blk_far ?_ NB891_929.out _; refine bk ?_; exact BK891.out⟩, ⟨by refine bk ?_; refine blk_far ?_ NB905_929.out _; refine bk ?_; refine blk_far ?_ NB905_929.out _; refine bk ?_; refine blk_far ?_ NB905_929.out _; refine bk ?_; exact BK905.out⟩, ⟨(bB5 GE890.out GE891.out GE905.out GE923.out GE929.out)⟩⟩
               ·replace c90 := Bool.eq_false_iff.mpr c90
                subst c90
                have H1 : (none) = some r := by rw [if_neg (show ¬ (false = true) by decide)] at H; exact H
                clear H
                have H := H1
                clear H1
                exact absurd H (by simp)
              ·rw [if_neg c88] at H
               exact absurd H (by simp)
             ·rw [if_neg c86] at H
              exact absurd H (by simp)
            ·replace c85 := Bool.eq_false_iff.mpr c85
             subst c85
             have H1 : ((constablelaw06_wakes.f k2).bind fun t930 => (some t930)) = some r := by rw [if_neg (show ¬ (false = true) by decide)] at H; exact H
             clear H
             have H := H1
             clear H1
             replace H := Option.bind_eq_some_iff.mp H
             obtain ⟨t930, A1080, H⟩ := H
             replace H : (some t930) = some r := H
             have A108 := Aside0.mk A1080
             clear A1080
             obtain rfl := Option.some.inj H
             obtain ⟨Ao109, co109, eo109⟩ := Kd.R_slice HO_5.out
             subst eo109
             go_wp2_with (first | ((with_reducible refine gate_callee (f := 51) rfl ?_); refine goesL_ (some 130) rfl rfl Try.func51 (by kernel_rfl) rfl #[] rfl aG ?_; (with_reducible refine (constablelaw06_wakes.calls k2  t930 _ A108.out).mono ?_); rintro e w110 ⟨rfl, hb⟩; refine ⟨_, rfl, ?_⟩; have n0_ := Aside0.mk (Kd.R_below (sR HO_5.out) hb); have n1_ := Aside0.mk (Kd.R_below (sR HO_6.out) hb); have n2_ := Aside0.mk (Kd.R_below (sR HO_10.out) hb); have n3_ := Aside0.mk (Kd.R_below (sR HO_12.out) hb); have n4_ := Aside0.mk (Kd.R_below (sR HO_906001.out) hb); have n5_ := Aside0.mk (blk_below (g := gb890) (o := .cells #[.string a0_0, .slice A0_1 l0_1.length c0_1] 69 (0, 0)) (by refine bk ?_; exact BK890.out) hb); have n6_ := Aside0.mk (blk_below (g := gb891) (o := .cells #[.string a1_0, .slice A1_1 l1_1.length c1_1] 53 (0, 0)) (by refine bk ?_; exact BK891.out) hb); have n7_ := Aside0.mk (blk_below (g := gb905) (o := .cells #[.string t901, .slice Ao74 x906001_1.length co74] 69 (0, 0)) (by refine bk ?_; exact BK905.out) hb); have n8_ := Aside0.mk (below_step (bB3 GE890.out GE891.out GE905.out) hb); clear HO_5; clear HO_6; clear HO_10; clear HO_12; clear HO_906001; clear BK890; clear BK891; clear BK905; clear HB; have HO_5 := n0_; have HO_6 := n1_; have HO_10 := n2_; have HO_12 := n3_; have HO_906001 := n4_; have BK890 := n5_; have BK891 := n6_; have BK905 := n7_; have HB := n8_; clear n0_ n1_ n2_ n3_ n4_ n5_ n6_ n7_ n8_; (try clear hb); (try clear hb2); (try clear hk); (try clear hi)))
             go_ret
             exact ⟨eW, (bB3 GE890.out GE891.out GE905.out)⟩
           ·rw [if_neg c84] at H
            have c84b0 : decide (x14_2 < (t895.length : Int)) = false := decide_eq_false c84
            clear c84
            replace H := Option.bind_eq_some_iff.mp H
            obtain ⟨t931, A1110, H⟩ := H
            replace H : (some t931) = some r := H
            have A111 := Aside0.mk A1110
            clear A1110
            obtain rfl := Option.some.inj H
            obtain ⟨Ao112, co112, eo112⟩ := Kd.R_slice HO_5.out
            subst eo112
            go_wp2_with (first | ((with_reducible refine gate_callee (f := 51) rfl ?_); refine goesL_ (some 130) rfl rfl Try.func51 (by kernel_rfl) rfl #[] rfl aG ?_; (with_reducible refine (constablelaw06_wakes.calls k2  t931 _ A111.out).mono ?_); rintro e w113 ⟨rfl, hb⟩; refine ⟨_, rfl, ?_⟩; have n0_ := Aside0.mk (Kd.R_below (sR HO_5.out) hb); have n1_ := Aside0.mk (Kd.R_below (sR HO_6.out) hb); have n2_ := Aside0.mk (Kd.R_below (sR HO_10.out) hb); have n3_ := Aside0.mk (Kd.R_below (sR HO_12.out) hb); have n4_ := Aside0.mk (Kd.R_below (sR HO_906001.out) hb); have n5_ := Aside0.mk (blk_below (g := gb890) (o := .cells #[.string a0_0, .slice A0_1 l0_1.length c0_1] 69 (0, 0)) (by refine bk ?_; exact BK890.out) hb); have n6_ := Aside0.mk (blk_below (g := gb891) (o := .cells #[.string a1_0, .slice A1_1 l1_1.length c1_1] 53 (0, 0)) (by refine bk ?_; exact BK891.out) hb); have n7_ := Aside0.mk (blk_below (g := gb905) (o := .cells #[.string t901, .slice Ao74 x906001_1.length co74] 69 (0, 0)) (by refine bk ?_; exact BK905.out) hb); have n8_ := Aside0.mk (below_step (bB3 GE890.out GE891.out GE905.out) hb); clear HO_5; clear HO_6; clear HO_10; clear HO_12; clear HO_906001; clear BK890; clear BK891; clear BK905; clear HB; have HO_5 := n0_; have HO_6 := n1_; have HO_10 := n2_; have HO_12 := n3_; have HO_906001 := n4_; have BK890 := n5_; have BK891 := n6_; have BK905 := n7_; have HB := n8_; clear n0_ n1_ n2_ n3_ n4_ n5_ n6_ n7_ n8_; (try clear hb); (try clear hb2); (try clear hk); (try clear hi)))
            go_ret
            exact ⟨eW, (bB3 GE890.out GE891.out GE905.out)⟩
        ·rw [if_neg c70] at H
         exact absurd H (by simp)
   ·replace c20 := Bool.eq_false_iff.mpr c20
    subst c20
    have H1 : (some true) = some r := by rw [if_neg (show ¬ (false = true) by decide)] at H; exact H
    clear H
    have H := H1
    clear H1
    obtain rfl := Option.some.inj H
    go_enter Try.func14, Try.ntmps14
    go_wp2_with (first | ((with_reducible refine gate_dst (N := 2) rfl ?_); (try (refine gate_guard (by rfl) ?_; dsimp only)); refine bE (N := 2) (cs := #[.string a0_0, .slice A0_1 l0_1.length c0_1]) (t := 69) ?_; intro gb890 hg w114 hbox hb; have n0_ := Aside0.mk (below_step bB0 hb); have n1_ := Aside0.mk (hbox); have n2_ := Aside0.mk ((by rw [hg]; exact (below_size bB0) : w.heap.size ≤ gb890)); have n3_ := Aside0.mk ((by rw [hg]; exact (below_size bB0) : w.heap.size ≤ gb890)); clear HB; have HB := n0_; have BK890 := n1_; have GW890 := n2_; have GE890 := n3_; clear n0_ n1_ n2_ n3_; clear hb hbox hg) | ((with_reducible refine gate_dst (N := 3) rfl ?_); (try (refine gate_guard (by rfl) ?_; dsimp only)); refine bE (N := 3) (cs := #[.string a1_0, .slice A1_1 l1_1.length c1_1]) (t := 53) ?_; intro gb891 hg w115 hbox hb; have n0_ := Aside0.mk (blk_below (g := gb890) (o := .cells #[.string a0_0, .slice A0_1 l0_1.length c0_1] 69 (0, 0)) (by refine bk ?_; exact BK890.out) hb); have n1_ := Aside0.mk (below_step (bB1 GE890.out) hb); have n2_ := Aside0.mk (hbox); have n3_ := Aside0.mk ((by rw [hg]; exact (below_size (bB1 GE890.out)) : w.heap.size ≤ gb891)); have n4_ := Aside0.mk ((by rw [hg]; exact (below_size (bB1 GE890.out)) : w.heap.size ≤ gb891)); have n5_ := Aside0.mk ((by rw [hg]; exact Nat.ne_of_lt (blk_lt (g := gb890) (o := .cells #[.string a0_0, .slice A0_1 l0_1.length c0_1] 69 (0, 0)) (by refine bk ?_; exact BK890.out)) : gb890 ≠ gb891)); have n6_ := Aside0.mk ((by rw [hg]; exact Nat.ne_of_gt (blk_lt (g := gb890) (o := .cells #[.string a0_0, .slice A0_1 l0_1.length c0_1] 69 (0, 0)) (by refine bk ?_; exact BK890.out)) : gb891 ≠ gb890)); clear BK890; clear HB; have BK890 := n0_; have HB := n1_; have BK891 := n2_; have GW891 := n3_; have GE891 := n4_; have NB890_891 := n5_; have NB891_890 := n6_; clear n0_ n1_ n2_ n3_ n4_ n5_ n6_; clear hb hbox hg; have hnb116 := NB890_891.out; have hnc116 := NB891_890.out; have hcz117_0 : w115.cell? ⟨gb890, 0, none⟩ = some (.string a0_0) := (blk_cell BK890.out 0).trans rfl; have hcz117_1 : w115.cell? ⟨gb890, 1, none⟩ = some (.slice A0_1 l0_1.length c0_1) := (blk_cell BK890.out 1).trans rfl; have hfz117_0 := blk_frozen BK890.out 0; have hfz117_1 := blk_frozen BK890.out 1) | ((with_reducible refine gate_callee (f := 49) rfl ?_); refine goesL_ (some 20) rfl rfl Try.func49 (by kernel_rfl) rfl #[.agg #[.string a0_0, .slice A0_1 l0_1.length c0_1]] rfl aG ?_; (with_reducible refine (constablelaw06_Heavy.calls k a0_0 _ _ l0_1 false _ ?side1 ?side2 A3.out).mono ?_); (case side1 => exact sC (Kd.C_below HR0_1.out HB.out)); (case side2 => exact HC0_1.out); rintro e w118 ⟨rfl, hb⟩; refine ⟨_, rfl, ?_⟩; have n0_ := Aside0.mk (blk_below (g := gb890) (o := .cells #[.string a0_0, .slice A0_1 l0_1.length c0_1] 69 (0, 0)) (by refine bk ?_; exact BK890.out) hb); have n1_ := Aside0.mk (blk_below (g := gb891) (o := .cells #[.string a1_0, .slice A1_1 l1_1.length c1_1] 53 (0, 0)) (by refine bk ?_; exact BK891.out) hb); have n2_ := Aside0.mk (below_step (bB2 GE890.out GE891.out) hb); clear BK890; clear BK891; clear HB; have BK890 := n0_; have BK891 := n1_; have HB := n2_; clear n0_ n1_ n2_; (try clear hb); (try clear hb2); (try clear hk); (try clear hi); have hcz119_0 : w118.cell? ⟨gb891, 0, none⟩ = some (.string a1_0) := (blk_cell BK891.out 0).trans rfl; have hcz119_1 : w118.cell? ⟨gb891, 1, none⟩ = some (.slice A1_1 l1_1.length c1_1) := (blk_cell BK891.out 1).trans rfl; have hfz119_0 := blk_frozen BK891.out 0; have hfz119_1 := blk_frozen BK891.out 1) | (go_at_call 36; (with_reducible refine (constablelaw03_Heavy.calls k a1_0 _ _ l1_1 false _ ?side1 ?side2 A10.out).mono ?_); (case side1 => exact sC (Kd.C_below HR1_1.out HB.out)); (case side2 => exact HC1_1.out); rintro e w120 ⟨rfl, hb⟩; have n0_ := Aside0.mk (blk_below (g := gb890) (o := .cells #[.string a0_0, .slice A0_1 l0_1.length c0_1] 69 (0, 0)) (by refine bk ?_; exact BK890.out) hb); have n1_ := Aside0.mk (blk_below (g := gb891) (o := .cells #[.string a1_0, .slice A1_1 l1_1.length c1_1] 53 (0, 0)) (by refine bk ?_; exact BK891.out) hb); have n2_ := Aside0.mk (below_step (bB2 GE890.out GE891.out) hb); clear BK890; clear BK891; clear HB; have BK890 := n0_; have BK891 := n1_; have HB := n2_; clear n0_ n1_ n2_; (try clear hb); (try clear hb2); (try clear hk); (try clear hi); have hcz121_0 : w120.cell? ⟨gb890, 0, none⟩ = some (.string a0_0) := (blk_cell BK890.out 0).trans rfl; have hcz121_1 : w120.cell? ⟨gb890, 1, none⟩ = some (.slice A0_1 l0_1.length c0_1) := (blk_cell BK890.out 1).trans rfl; have hfz121_0 := blk_frozen BK890.out 0; have hfz121_1 := blk_frozen BK890.out 1) | (go_at_call 54; (with_reducible refine (constableref01_Atom.calls k a0_0 _ _ l0_1 false _ ?side1 ?side2 A19.out).mono ?_); (case side1 => exact sC (Kd.C_below HR0_1.out HB.out)); (case side2 => exact HC0_1.out); rintro e w122 ⟨rfl, hb⟩; have n0_ := Aside0.mk (blk_below (g := gb890) (o := .cells #[.string a0_0, .slice A0_1 l0_1.length c0_1] 69 (0, 0)) (by refine bk ?_; exact BK890.out) hb); have n1_ := Aside0.mk (blk_below (g := gb891) (o := .cells #[.string a1_0, .slice A1_1 l1_1.length c1_1] 53 (0, 0)) (by refine bk ?_; exact BK891.out) hb); have n2_ := Aside0.mk (below_step (bB2 GE890.out GE891.out) hb); clear BK890; clear BK891; clear HB; have BK890 := n0_; have BK891 := n1_; have HB := n2_; clear n0_ n1_ n2_; (try clear hb); (try clear hb2); (try clear hk); (try clear hi)))
    go_ret
    exact ⟨eW, (bB2 GE890.out GE891.out)⟩

end Go.Proofs.Ytghommaokdhjmaa.P
/- The references' words and values answer what the plain forms say; texts no longer than a million bytes. -/
set_option linter.unusedVariables false
set_option linter.unusedSimpArgs false
namespace Go.Proofs.Ytghommaokdhjmaa.SpecB
open Go.RowKit Go.Proofs.YtghommaokdhjmaaW.PrintWords Go.Proofs.YtghommaokdhjmaaW.PrintLast Go.Proofs.Ytghommaokdhjmaa.Gate Go.Proofs.Ytghommaokdhjmaa.P Go.Proofs.Ytghommaokdhjmaa.PSpec
theorem ff {α : Type} {a b : α} : (if false = true then a else b) = b := rfl
theorem lower_eq (c : Int) : constableref01_Lower.f c = some (smallP c) := by
  unfold smallP val_small.f constableref01_Lower.f
  split <;> rfl
theorem upper_eq (c : Int) : constableref01_Upper.f c = some (largeP c) := by
  unfold largeP val_large.f constableref01_Upper.f
  split <;> rfl
theorem rdigit_eq (c : Int) : constableref01_Digit.f c = some (digitP c) := by
  unfold digitP val_digit.f constableref01_Digit.f
  split <;> rfl
theorem small_iff (c : Int) : smallP c = (decide (97 ≤ c) && decide (c ≤ 122)) := by
  unfold smallP val_small.f
  by_cases h : c ≥ 97
  · rw [if_pos h, decide_eq_true (show 97 ≤ c from h)]; rfl
  · rw [if_neg h, decide_eq_false (show ¬ 97 ≤ c from h)]; rfl
theorem large_iff (c : Int) : largeP c = (decide (65 ≤ c) && decide (c ≤ 90)) := by
  unfold largeP val_large.f
  by_cases h : c ≥ 65
  · rw [if_pos h, decide_eq_true (show 65 ≤ c from h)]; rfl
  · rw [if_neg h, decide_eq_false (show ¬ 65 ≤ c from h)]; rfl
theorem digit_iff (c : Int) : digitP c = (decide (48 ≤ c) && decide (c ≤ 57)) := by
  unfold digitP val_digit.f
  by_cases h : c ≥ 48
  · rw [if_pos h, decide_eq_true (show 48 ≤ c from h)]; rfl
  · rw [if_neg h, decide_eq_false (show ¬ 48 ≤ c from h)]; rfl
theorem let_iff (c : Int) : letP c = (smallP c || (largeP c || (digitP c || decide (c = 95)))) := by
  rw [small_iff, large_iff, digit_iff]
  unfold letP subst_letter.f
  by_cases h1 : 97 ≤ c <;> by_cases h2 : c ≤ 122 <;> by_cases h3 : 65 ≤ c <;> by_cases h4 : c ≤ 90 <;> by_cases h5 : 48 ≤ c <;> by_cases h6 : c ≤ 57 <;>
    simp [h1, h2, h3, h4, h5, h6, BEq.beq] <;> omega
theorem inner_eq (c : Int) : constableref01_inner.f c = some (letP c) := by
  unfold constableref01_inner.f
  rw [let_iff, lower_eq, upper_eq, rdigit_eq]
  simp only [Option.bind_some]
  cases smallP c <;> cases largeP c <;> cases digitP c <;> simp [BEq.beq]
theorem word_loop (s : ByteArray) (hs : s.size ≤ 1000000) : ∀ (m i : Nat), i + m = s.size → Ev (fun k => constableref01_Word.l0 k s i) (allFrom (fun i => letP (bt s i)) m i) := by
  intro m
  induction m with
  | zero =>
    intro i h
    refine Ev.step (fun k => by rw [constableref01_Word.l0, if_neg (by omega)]) ?_
    exact Ev.now _
  | succ m ih =>
    intro i h
    refine Ev.step (fun k => by rw [constableref01_Word.l0, if_pos (by omega), if_pos (by omega), inner_eq, Option.bind_some, w64 hs (show i < s.size by omega)]) ?_
    rw [allFrom]
    cases letP (bt s i)
    · simp only [ff, Bool.false_and]; exact Ev.now _
    · simp only [if_true, Bool.true_and]; exact ih (i + 1) (by omega)
/-- A word: with a small letter ahead, or a large one. -/
def wordP (s : ByteArray) (large : Bool) : Bool := decide (1 ≤ s.size) && decide (s.size ≤ 24) && (if large then largeP (bt s 0) else smallP (bt s 0)) && varAll s
theorem in_eq (a b c : Int) : constableref01_In.f a b c = some (decide (b ≤ a) && decide (a ≤ c)) := by
  unfold constableref01_In.f
  by_cases h : a ≥ b
  · rw [if_pos h, decide_eq_true (show b ≤ a from h)]; rfl
  · rw [if_neg h, decide_eq_false (show ¬ b ≤ a from h)]; rfl
theorem small_large (c : Int) (h : smallP c = true) : largeP c = false := by
  rw [small_iff] at h
  rw [large_iff]
  simp only [Bool.and_eq_true, decide_eq_true_eq] at h
  rw [decide_eq_false (show ¬ c ≤ 90 by omega), Bool.and_false]
theorem ev_word (s : ByteArray) (hs : s.size ≤ 1000000) (large : Bool) : Ev (fun k => constableref01_Word.f k s large) (wordP s large) := by
  have jt : Ev (fun k => constableref01_Word.j0 k s true) false := Ev.step (fun k => by rw [constableref01_Word.j0, if_pos rfl]) (Ev.now _)
  have jf : Ev (fun k => constableref01_Word.j0 k s false) (varAll s) := Ev.step (fun k => by rw [constableref01_Word.j0, if_neg (by decide)]; rfl) (word_loop s hs s.size 0 (by omega))
  unfold constableref01_Word.f
  rw [in_eq]
  unfold wordP
  by_cases h : 1 ≤ s.size ∧ s.size ≤ 24
  · rw [decide_eq_true (show (1 : Int) ≤ (s.size : Int) by omega), decide_eq_true (show (s.size : Int) ≤ 24 by omega), decide_eq_true h.1, decide_eq_true h.2]
    simp only [Bool.and_self, Option.bind_some, if_true, if_pos (show 0 < (s.size : Int) by omega), upper_eq, lower_eq, Bool.true_and]
    cases large
    · cases hl : largeP (bt s 0)
      · simp only [bne_self_eq_false, ff, Bool.false_eq_true, if_false]
        cases smallP (bt s 0)
        · simp only [Bool.not_false, Bool.false_and]; exact jt
        · simp only [Bool.not_true, Bool.true_and]; exact jf
      · have hsm : smallP (bt s 0) = false := by
          cases h2 : smallP (bt s 0)
          · rfl
          · rw [small_large _ h2] at hl; cases hl
        simp only [show (false != true) = true from rfl, if_true, hsm, Bool.false_eq_true, if_false, Bool.false_and]; exact jt
    · cases hl : largeP (bt s 0)
      · simp only [show (true != false) = true from rfl, if_true, Bool.false_and]; exact jt
      · simp only [bne_self_eq_false, ff, if_true, Bool.true_and]; exact jf
  · have hn : (decide ((1 : Int) ≤ (s.size : Int)) && decide ((s.size : Int) ≤ 24)) = false := by
      rw [Bool.and_eq_false_iff, decide_eq_false_iff_not, decide_eq_false_iff_not]; omega
    have hn2 : (decide (1 ≤ s.size) && decide (s.size ≤ 24)) = false := by
      rw [Bool.and_eq_false_iff, decide_eq_false_iff_not, decide_eq_false_iff_not]; omega
    rw [hn, hn2]
    simp only [Option.bind_some, ff, Bool.false_and]; exact jt
theorem word_var (s : ByteArray) : wordP s true = varP s := by
  unfold wordP varP
  rw [if_pos rfl, large_iff]
  simp only [Bool.and_assoc]
theorem allFrom_congr {f g : Nat → Bool} (h : ∀ i, f i = g i) : ∀ m i, allFrom f m i = allFrom g m i
  | 0, _ => rfl
  | m + 1, i => by rw [allFrom, allFrom, h, allFrom_congr h m]
theorem word_sym (s : ByteArray) : wordP s false = symP s := by
  unfold wordP symP varAll
  rw [if_neg (by decide), allFrom_congr (g := symT s) (fun i => by unfold symT; rw [let_iff]; simp only [Bool.or_assoc])]
theorem rplain_loop (s : ByteArray) (hs : s.size ≤ 1000000) (a b : Int) : ∀ (m i : Nat), i + m = s.size → Ev (fun k => constableref01_Value.l0 k i a b s) (allFrom (plainT s) m i) := by
  intro m
  induction m with
  | zero =>
    intro i h
    refine Ev.step (fun k => by rw [constableref01_Value.l0, if_neg (by omega)]) ?_
    exact Ev.now _
  | succ m ih =>
    intro i h
    have hr := bt_range s i
    refine Ev.step (fun k => by rw [constableref01_Value.l0, if_pos (by omega), if_pos (by omega), in_eq, Option.bind_some, w64 hs (show i < s.size by omega), show wrap64 (bt s i) = bt s i by unfold wrap64; omega]) ?_
    rw [allFrom]
    show Ev (fun k => if plainT s i = true then _ else _) _
    cases plainT s i
    · simp only [ff, Bool.false_and]; exact Ev.now _
    · simp only [if_true, Bool.true_and]; exact ih (i + 1) (by omega)
theorem ev_value (a b : Int) (s : ByteArray) (hs : s.size ≤ 1000000) : Ev (fun k => constableref01_Value.f k a b s) (valP a b s == 0) := by
  have jt : Ev (fun k => constableref01_Value.j0 k true a b s) false := Ev.step (fun k => by rw [constableref01_Value.j0, if_pos rfl]) (Ev.now _)
  have jf : Ev (fun k => constableref01_Value.j0 k false a b s) (allFrom (plainT s) s.size 0) := Ev.step (fun k => by rw [constableref01_Value.j0, if_neg (by decide)]; rfl) (rplain_loop s hs a b s.size 0 (by omega))
  have hw := ev_word s hs false
  rw [word_sym] at hw
  have hnil : s.toList = ([] : List UInt8) ↔ s.size = 0 := by
    rw [ByteArray.toList_eq]
    constructor
    · intro h; have := congrArg List.length h; simpa using this
    · intro h; exact List.length_eq_zero_iff.1 (by simpa using h)
  unfold constableref01_Value.f valP
  by_cases h1 : a = 1
  · simp only [if_pos h1, in_eq, Option.bind_some]
    by_cases h2 : b ≥ -4611686018427387904
    · by_cases h3 : b ≤ 4611686018427387904
      · simp only [decide_eq_true (show (-4611686018427387904 : Int) ≤ b from h2), decide_eq_true h3, Bool.and_self, if_true, if_pos h2, if_pos h3]
        by_cases h4 : s.size = 0
        · rw [if_pos (hnil.2 h4), h4]; exact Ev.now _
        · rw [if_neg (fun h => h4 (hnil.1 h)), show ((s.size : Int) == 0) = false from beq_eq_false_iff_ne.2 (by omega)]; exact Ev.now _
      · simp only [decide_eq_false h3, Bool.and_false, ff, if_pos h2, if_neg h3]; exact Ev.now _
    · simp only [decide_eq_false (show ¬ (-4611686018427387904 : Int) ≤ b from h2), Bool.false_and, ff, if_neg h2]; exact Ev.now _
  · simp only [if_neg h1]
    by_cases h2 : a = 2
    · simp only [if_pos h2]
      by_cases h3 : b = 0
      · simp only [if_pos h3]
        refine Ev.bind hw ?_
        cases symP s
        · exact Ev.now _
        · exact Ev.now _
      · simp only [if_neg h3]; exact Ev.now _
    · simp only [if_neg h2]
      by_cases h3 : a = 3
      · simp only [if_pos h3]
        by_cases h4 : b = 0
        · simp only [if_pos h4]
          unfold plainP
          by_cases h5 : s.size ≤ 60
          · rw [decide_eq_false (show ¬ (s.size : Int) > 60 by omega), decide_eq_true h5, Bool.and_true]
            cases h6 : allFrom (plainT s) s.size 0
            · rw [h6] at jf; exact jf
            · rw [h6] at jf; exact jf
          · rw [decide_eq_true (show (s.size : Int) > 60 by omega), decide_eq_false h5, Bool.and_false]; exact jt
        · simp only [if_neg h4]; exact jt
      · simp only [if_neg h3]; exact Ev.now _
end Go.Proofs.Ytghommaokdhjmaa.SpecB
namespace Go.Proofs.Ytghommaokdhjmaa.P
open Go.RowKit Go.Proofs.YtghommaokdhjmaaW.PrintWords Go.Proofs.YtghommaokdhjmaaW.PrintLast Go.Proofs.Ytghommaokdhjmaa.Gate
set_option linter.unusedVariables false
set_option linter.unusedSimpArgs false

/-! ### constableref01_Fact: function 38 -/
mutual
def constableref01_Fact.j0 : Nat → Bool → ByteArray → List (S24) → Option (Bool)
 | 0, _, _, _ => none
 | k + 1, x13, x499000, x499001 => if x13 = true then (some false) else (constableref01_Fact.l0 k 0 x499000 x499001)
def constableref01_Fact.l0 : Nat → Int → ByteArray → List (S24) → Option (Bool)
 | 0, _, _, _ => none
 | k + 1, x3, x499000, x499001 => if x3 < (x499001.length : Int) then (if 0 ≤ x3 then ((constableref01_Value.f k ((rd_T24 x499001 x3).f0) ((rd_T24 x499001 x3).f1) ((rd_T24 x499001 x3).f2)).bind fun t501 => (if t501 = true then (constableref01_Fact.l0 k (wrap64 (x3 + 1)) x499000 x499001) else (some false))) else (none)) else (some true)
end
def constableref01_Fact.f (k : Nat) (a0_0 : ByteArray) (l0_1 : List (S24)) : Option (Bool) := (constableref01_Name.f k a0_0).bind fun t499 => (if t499 = true then (constableref01_Fact.j0 k (decide ((l0_1.length : Int) > 5)) a0_0 l0_1) else (constableref01_Fact.j0 k true a0_0 l0_1))
theorem constableref01_Fact.mono_l : ∀ k, (∀ y0 y1 y2, LeO (constableref01_Fact.j0 k y0 y1 y2) (constableref01_Fact.j0 (k + 1) y0 y1 y2)) ∧ (∀ y0 y1 y2, LeO (constableref01_Fact.l0 k y0 y1 y2) (constableref01_Fact.l0 (k + 1) y0 y1 y2))
 | 0 => ⟨fun _ _ _ r h => by simp [constableref01_Fact.j0] at h, fun _ _ _ r h => by simp [constableref01_Fact.l0] at h⟩
 | k + 1 => by
  obtain ⟨ih0, ih1⟩ := constableref01_Fact.mono_l k
  refine ⟨?_, ?_⟩
  ·intro y0 y1 y2
   unfold constableref01_Fact.j0
   repeat' first
   | (with_reducible exact ih0 _ _ _)
   | (with_reducible exact ih1 _ _ _)
   | (with_reducible exact constableref01_Name.mono _ _)
   | (with_reducible exact constableref01_Value.mono _ _ _ _)
   | (with_reducible exact LeO.refl _)
   | (with_reducible exact LeO.none _)
   | (with_reducible refine LeO.ite ?_ ?_)
   | (with_reducible refine LeO.bind ?_ (fun _ => ?_))
  ·intro y0 y1 y2
   unfold constableref01_Fact.l0
   repeat' first
   | (with_reducible exact ih0 _ _ _)
   | (with_reducible exact ih1 _ _ _)
   | (with_reducible exact constableref01_Name.mono _ _)
   | (with_reducible exact constableref01_Value.mono _ _ _ _)
   | (with_reducible exact LeO.refl _)
   | (with_reducible exact LeO.none _)
   | (with_reducible refine LeO.ite ?_ ?_)
   | (with_reducible refine LeO.bind ?_ (fun _ => ?_))
theorem constableref01_Fact.mono : ∀ a0 a1 k, LeO (constableref01_Fact.f k a0 a1) (constableref01_Fact.f (k + 1) a0 a1) := by
 intro a0 a1 k
 obtain ⟨ih0, ih1⟩ := constableref01_Fact.mono_l k
 unfold constableref01_Fact.f
 repeat' first
   | (with_reducible exact ih0 _ _ _)
   | (with_reducible exact ih1 _ _ _)
   | (with_reducible exact constableref01_Name.mono _ _)
   | (with_reducible exact constableref01_Value.mono _ _ _ _)
   | (with_reducible exact LeO.refl _)
   | (with_reducible exact LeO.none _)
   | (with_reducible refine LeO.ite ?_ ?_)
   | (with_reducible refine LeO.bind ?_ (fun _ => ?_))
set_option maxHeartbeats 8000000 in
set_option maxRecDepth 100000 in
theorem constableref01_Fact.calls (k : Nat) (a0_0 : ByteArray) (A0_1 : Option Addr) (c0_1 : Nat) (l0_1 : List (S24)) (r : Bool) (w : World) (hr0_1 : Kd.C k24 w A0_1 l0_1.length l0_1) (hc0_1 : l0_1.length ≤ c0_1) (h : constableref01_Fact.f k a0_0 l0_1 = some r) :
  Calls Try.prog 38 #[.agg #[.string a0_0, .slice A0_1 l0_1.length c0_1]] w fun e w' => e = .returned (.bool r) ∧ Below w.heap.size w w' := by
 have hu53 := Try.underlying53
 have hu24 := Try.underlying24
 have HR0_1 := Aside0.mk hr0_1
 have HC0_1 := Aside0.mk hc0_1
 clear hr0_1 hc0_1
 have HB := Aside0.mk (Below.refl w.heap.size w)
 have H : ((constableref01_Name.f k a0_0).bind fun t499 => (if t499 = true then (constableref01_Fact.j0 k (decide ((l0_1.length : Int) > 5)) a0_0 l0_1) else (constableref01_Fact.j0 k true a0_0 l0_1))) = some r := h
 clear h
 have HC2 := Aside0.mk H
 clear H
 go_enter Try.func38, Try.ntmps38
 go_upto_region 1 with (first | ((with_reducible refine gate_dst (N := 1) rfl ?_); (try (refine gate_guard (by rfl) ?_; dsimp only)); refine bE (N := 1) (cs := #[.string a0_0, .slice A0_1 l0_1.length c0_1]) (t := 53) ?_; intro gb498 hg w3 hbox hb; have n0_ := Aside0.mk (below_step bB0 hb); have n1_ := Aside0.mk (hbox); have n2_ := Aside0.mk ((by rw [hg]; exact (below_size bB0) : w.heap.size ≤ gb498)); have n3_ := Aside0.mk ((by rw [hg]; exact (below_size bB0) : w.heap.size ≤ gb498)); clear HB; have HB := n0_; have BK498 := n1_; have GW498 := n2_; have GE498 := n3_; clear n0_ n1_ n2_ n3_; clear hb hbox hg))
 (try simp only [Act.put, List.setIfInBounds_toArray, List.set_cons_zero, List.set_cons_succ])
 go_cut [13] (fun v13 wc => ∃ (kq : Nat) (x13_1 : Bool), v13 = .bool x13_1 ∧ Aside0 (constableref01_Fact.j0 kq x13_1 a0_0 l0_1 = some r) ∧ Aside0 (kq ≤ k) ∧ Aside0 (wc.heap[gb498]? = some (.cells #[.string a0_0, (.slice A0_1 l0_1.length c0_1)] 53 (0, 0))) ∧ Aside0 (Below w.heap.size w wc))
 case first =>
  have H := HC2.out
  clear HC2
  replace H := Option.bind_eq_some_iff.mp H
  obtain ⟨t499, A40, H⟩ := H
  replace H : (if t499 = true then (constableref01_Fact.j0 k (decide ((l0_1.length : Int) > 5)) a0_0 l0_1) else (constableref01_Fact.j0 k true a0_0 l0_1)) = some r := H
  have A4 := Aside0.mk A40
  clear A40
  by_cases c5 : t499 = true
  ·subst c5
   have H1 : (constableref01_Fact.j0 k (decide ((l0_1.length : Int) > 5)) a0_0 l0_1) = some r := by rw [if_pos rfl] at H; exact H
   clear H
   have H := H1
   clear H1
   have H' := Aside0.mk H
   clear H
   have hcz6_0 : w3.cell? ⟨gb498, 0, none⟩ = some (.string a0_0) := (blk_cell BK498.out 0).trans rfl
   have hcz6_1 : w3.cell? ⟨gb498, 1, none⟩ = some (.slice A0_1 l0_1.length c0_1) := (blk_cell BK498.out 1).trans rfl
   have hfz6_0 := blk_frozen BK498.out 0
   have hfz6_1 := blk_frozen BK498.out 1
   go_wp2_with (first | ((with_reducible refine gate_callee (f := 74) rfl ?_); refine goesL_ (some 6) rfl rfl Try.func74 (by kernel_rfl) rfl #[.string a0_0] rfl aG ?_; (with_reducible refine (constableref01_Name.calls k a0_0 true _ A4.out).mono ?_); rintro e w7 ⟨rfl, hb⟩; refine ⟨_, rfl, ?_⟩; have n0_ := Aside0.mk (blk_below (g := gb498) (o := .cells #[.string a0_0, .slice A0_1 l0_1.length c0_1] 53 (0, 0)) (by refine bk ?_; exact BK498.out) hb); have n1_ := Aside0.mk (below_step (bB1 GE498.out) hb); clear BK498; clear HB; have BK498 := n0_; have HB := n1_; clear n0_ n1_; (try clear hb); (try clear hb2); (try clear hk); (try clear hi); have hcz8_0 : w7.cell? ⟨gb498, 0, none⟩ = some (.string a0_0) := (blk_cell BK498.out 0).trans rfl; have hcz8_1 : w7.cell? ⟨gb498, 1, none⟩ = some (.slice A0_1 l0_1.length c0_1) := (blk_cell BK498.out 1).trans rfl; have hfz8_0 := blk_frozen BK498.out 0; have hfz8_1 := blk_frozen BK498.out 1))
   go_meet
   case rel => exact ⟨_, (decide ((l0_1.length : Int) > 5)), (by first | rfl | (simp; done) | (simp [*]; done)), H', ⟨by first | omega | exact Nat.le_refl _⟩, ⟨by refine bk ?_; exact BK498.out⟩, ⟨(bB1 GE498.out)⟩⟩
  ·replace c5 := Bool.eq_false_iff.mpr c5
   subst c5
   have H1 : (constableref01_Fact.j0 k true a0_0 l0_1) = some r := by rw [if_neg (show ¬ (false = true) by decide)] at H; exact H
   clear H
   have H := H1
   clear H1
   have H' := Aside0.mk H
   clear H
   have hcz9_0 : w3.cell? ⟨gb498, 0, none⟩ = some (.string a0_0) := (blk_cell BK498.out 0).trans rfl
   have hcz9_1 : w3.cell? ⟨gb498, 1, none⟩ = some (.slice A0_1 l0_1.length c0_1) := (blk_cell BK498.out 1).trans rfl
   have hfz9_0 := blk_frozen BK498.out 0
   have hfz9_1 := blk_frozen BK498.out 1
   go_wp2_with (first | ((with_reducible refine gate_callee (f := 74) rfl ?_); refine goesL_ (some 6) rfl rfl Try.func74 (by kernel_rfl) rfl #[.string a0_0] rfl aG ?_; (with_reducible refine (constableref01_Name.calls k a0_0 false _ A4.out).mono ?_); rintro e w10 ⟨rfl, hb⟩; refine ⟨_, rfl, ?_⟩; have n0_ := Aside0.mk (blk_below (g := gb498) (o := .cells #[.string a0_0, .slice A0_1 l0_1.length c0_1] 53 (0, 0)) (by refine bk ?_; exact BK498.out) hb); have n1_ := Aside0.mk (below_step (bB1 GE498.out) hb); clear BK498; clear HB; have BK498 := n0_; have HB := n1_; clear n0_ n1_; (try clear hb); (try clear hb2); (try clear hk); (try clear hi)))
   go_meet
   case rel => exact ⟨_, (true), (by first | rfl | (simp; done) | (simp [*]; done)), H', ⟨by first | omega | exact Nat.le_refl _⟩, ⟨by refine bk ?_; exact BK498.out⟩, ⟨(bB1 GE498.out)⟩⟩
 case rest =>
  clear HC2
  (try clear p2); (try clear c3); (try clear c5); (try clear c7); (try clear hcz6_0); (try clear hcz6_1); (try clear hcz8_0); (try clear hcz8_1); (try clear hcz9_0); (try clear hcz9_1); (try clear hfz6_0); (try clear hfz6_1); (try clear hfz8_0); (try clear hfz8_1); (try clear hfz9_0); (try clear hfz9_1)
  obtain ⟨kq, x13_1, rfl, HA, HJ1, BK498, HB⟩ := hcut
  cases kq with
  | zero => exact absurd HA.out (by simp [constableref01_Fact.j0])
  | succ kj1 =>
   have H := HA.out
   clear HA
   simp only [constableref01_Fact.j0] at H
   by_cases c11 : x13_1 = true
   ·subst c11
    have H1 : (some false) = some r := by rw [if_pos rfl] at H; exact H
    clear H
    have H := H1
    clear H1
    obtain rfl := Option.some.inj H
    go_wp2
    go_ret
    exact ⟨eW, (bB1 GE498.out)⟩
   ·replace c11 := Bool.eq_false_iff.mpr c11
    subst c11
    have H1 : (constableref01_Fact.l0 kj1 0 a0_0 l0_1) = some r := by rw [if_neg (show ¬ (false = true) by decide)] at H; exact H
    clear H
    have H := H1
    clear H1
    have H' := Aside0.mk H
    clear H
    go_wp2
    go_loopg [3] kj1 (fun kq v3 w' => ∃ (x3_2 : Int), v3 = .int .i64 x3_2 ∧ Aside0 (constableref01_Fact.l0 kq x3_2 a0_0 l0_1 = some r) ∧ Aside0 (kq ≤ kj1) ∧ Aside0 (w'.heap[gb498]? = some (.cells #[.string a0_0, (.slice A0_1 l0_1.length c0_1)] 53 (0, 0))) ∧ Aside0 (Below w.heap.size w w'))
    case atStart => exact ⟨(0), (by first | rfl | (simp; done) | (simp [*]; done)), H', ⟨Nat.le_refl _⟩, ⟨by refine bk ?_; exact BK498.out⟩, ⟨(bB1 GE498.out)⟩⟩
    case round =>
     clear H'
     (try clear c1); (try clear p2); (try clear c3); (try clear c5); (try clear c7); (try clear c11); (try clear hcz6_0); (try clear hcz6_1); (try clear hcz8_0); (try clear hcz8_1); (try clear hcz9_0); (try clear hcz9_1); (try clear hfz6_0); (try clear hfz6_1); (try clear hfz8_0); (try clear hfz8_1); (try clear hfz9_0); (try clear hfz9_1); (try clear p2)
     obtain ⟨x3_2, rfl, HA, HK2, BK498, HB⟩ := hrel
     cases gk with
     | zero => exact absurd HA.out (by simp [constableref01_Fact.l0])
     | succ k2 =>
      have H := HA.out
      clear HA
      simp only [constableref01_Fact.l0] at H
      by_cases c12 : x3_2 < (l0_1.length : Int)
      ·rw [if_pos c12] at H
       have c12b0 : decide (x3_2 < (l0_1.length : Int)) = true := decide_eq_true c12
       clear c12
       by_cases c13 : 0 ≤ x3_2
       ·rw [if_pos c13] at H
        have c13b0 : decide (0 ≤ x3_2) = true := decide_eq_true c13
        clear c13
        replace H := Option.bind_eq_some_iff.mp H
        obtain ⟨t501, A140, H⟩ := H
        replace H : (if t501 = true then (constableref01_Fact.l0 k2 (wrap64 (x3_2 + 1)) a0_0 l0_1) else (some false)) = some r := H
        have A14 := Aside0.mk A140
        clear A140
        by_cases c15 : t501 = true
        ·subst c15
         have H1 : (constableref01_Fact.l0 k2 (wrap64 (x3_2 + 1)) a0_0 l0_1) = some r := by rw [if_pos rfl] at H; exact H
         clear H
         have H := H1
         clear H1
         have H' := Aside0.mk H
         clear H
         have hcz16_0 : wr.cell? ⟨gb498, 0, none⟩ = some (.string a0_0) := (blk_cell BK498.out 0).trans rfl
         have hcz16_1 : wr.cell? ⟨gb498, 1, none⟩ = some (.slice A0_1 l0_1.length c0_1) := (blk_cell BK498.out 1).trans rfl
         have hfz16_0 := blk_frozen BK498.out 0
         have hfz16_1 := blk_frozen BK498.out 1
         have p500 : 0 ≤ (x3_2 : Int) := of_decide_eq_true (by first | (with_reducible assumption) | assumption)
         have q500 : x3_2 < (l0_1.length : Int) := of_decide_eq_true (by first | (with_reducible assumption) | assumption)
         obtain ⟨ad500, e500, hx500_0, hx500_1, hx500_2⟩ := at_T24 HR0_1.out x3_2 p500 q500
         cases e500
         replace hx500_0 := (HB.out.cell (World.block_lt_of_cell? w _ hx500_0)).trans hx500_0
         replace hx500_1 := (HB.out.cell (World.block_lt_of_cell? w _ hx500_1)).trans hx500_1
         replace hx500_2 := (HB.out.cell (World.block_lt_of_cell? w _ hx500_2)).trans hx500_2
         replace p500 := eq_true p500
         replace q500 := eq_true q500
         go_wp2_with (first | ((with_reducible refine gate_callee (f := 26) rfl ?_); refine goesL_ (some 26) rfl rfl Try.func26 (by kernel_rfl) rfl #[.agg #[.int .i64 ((rd_T24 l0_1 x3_2).f0), .int .i64 ((rd_T24 l0_1 x3_2).f1), .string ((rd_T24 l0_1 x3_2).f2)]] rfl aG ?_; (with_reducible refine (constableref01_Value.calls k2 ((rd_T24 l0_1 x3_2).f0) ((rd_T24 l0_1 x3_2).f1) ((rd_T24 l0_1 x3_2).f2) true _ A14.out).mono ?_); rintro e w17 ⟨rfl, hb⟩; refine ⟨_, rfl, ?_⟩; have n0_ := Aside0.mk (blk_below (g := gb498) (o := .cells #[.string a0_0, .slice (some ad500) l0_1.length c0_1] 53 (0, 0)) (by refine bk ?_; exact BK498.out) hb); have n1_ := Aside0.mk (below_step (bB1 GE498.out) hb); clear BK498; clear HB; have BK498 := n0_; have HB := n1_; clear n0_ n1_; (try clear hb); (try clear hb2); (try clear hk); (try clear hi)))
         go_roundg k2
         case measure => have := HJ1.out; have := HK2.out; omega
         case rel => exact ⟨(wrap64 (x3_2 + 1)), (by first | rfl | (simp; done) | (simp [*]; done)), H', ⟨by have := HJ1.out; have := HK2.out; omega⟩, ⟨by refine bk ?_; exact BK498.out⟩, ⟨(bB1 GE498.out)⟩⟩
        ·replace c15 := Bool.eq_false_iff.mpr c15
         subst c15
         have H1 : (some false) = some r := by rw [if_neg (show ¬ (false = true) by decide)] at H; exact H
         clear H
         have H := H1
         clear H1
         obtain rfl := Option.some.inj H
         have hcz18_0 : wr.cell? ⟨gb498, 0, none⟩ = some (.string a0_0) := (blk_cell BK498.out 0).trans rfl
         have hcz18_1 : wr.cell? ⟨gb498, 1, none⟩ = some (.slice A0_1 l0_1.length c0_1) := (blk_cell BK498.out 1).trans rfl
         have hfz18_0 := blk_frozen BK498.out 0
         have hfz18_1 := blk_frozen BK498.out 1
         have p500 : 0 ≤ (x3_2 : Int) := of_decide_eq_true (by first | (with_reducible assumption) | assumption)
         have q500 : x3_2 < (l0_1.length : Int) := of_decide_eq_true (by first | (with_reducible assumption) | assumption)
         obtain ⟨ad500, e500, hx500_0, hx500_1, hx500_2⟩ := at_T24 HR0_1.out x3_2 p500 q500
         cases e500
         replace hx500_0 := (HB.out.cell (World.block_lt_of_cell? w _ hx500_0)).trans hx500_0
         replace hx500_1 := (HB.out.cell (World.block_lt_of_cell? w _ hx500_1)).trans hx500_1
         replace hx500_2 := (HB.out.cell (World.block_lt_of_cell? w _ hx500_2)).trans hx500_2
         replace p500 := eq_true p500
         replace q500 := eq_true q500
         go_wp2_with (first | ((with_reducible refine gate_callee (f := 26) rfl ?_); refine goesL_ (some 26) rfl rfl Try.func26 (by kernel_rfl) rfl #[.agg #[.int .i64 ((rd_T24 l0_1 x3_2).f0), .int .i64 ((rd_T24 l0_1 x3_2).f1), .string ((rd_T24 l0_1 x3_2).f2)]] rfl aG ?_; (with_reducible refine (constableref01_Value.calls k2 ((rd_T24 l0_1 x3_2).f0) ((rd_T24 l0_1 x3_2).f1) ((rd_T24 l0_1 x3_2).f2) false _ A14.out).mono ?_); rintro e w19 ⟨rfl, hb⟩; refine ⟨_, rfl, ?_⟩; have n0_ := Aside0.mk (blk_below (g := gb498) (o := .cells #[.string a0_0, .slice (some ad500) l0_1.length c0_1] 53 (0, 0)) (by refine bk ?_; exact BK498.out) hb); have n1_ := Aside0.mk (below_step (bB1 GE498.out) hb); clear BK498; clear HB; have BK498 := n0_; have HB := n1_; clear n0_ n1_; (try clear hb); (try clear hb2); (try clear hk); (try clear hi)))
         go_ret
         exact ⟨eW, (bB1 GE498.out)⟩
       ·rw [if_neg c13] at H
        exact absurd H (by simp)
      ·rw [if_neg c12] at H
       have c12b0 : decide (x3_2 < (l0_1.length : Int)) = false := decide_eq_false c12
       clear c12
       obtain rfl := Option.some.inj H
       have hcz20_0 : wr.cell? ⟨gb498, 0, none⟩ = some (.string a0_0) := (blk_cell BK498.out 0).trans rfl
       have hcz20_1 : wr.cell? ⟨gb498, 1, none⟩ = some (.slice A0_1 l0_1.length c0_1) := (blk_cell BK498.out 1).trans rfl
       have hfz20_0 := blk_frozen BK498.out 0
       have hfz20_1 := blk_frozen BK498.out 1
       go_wp2
       go_ret
       exact ⟨eW, (bB1 GE498.out)⟩

end Go.Proofs.Ytghommaokdhjmaa.P
/- The references' names, facts, terms and atoms answer what the plain forms say; texts no longer than a million bytes. -/
set_option linter.unusedVariables false
set_option linter.unusedSimpArgs false
namespace Go.Proofs.Ytghommaokdhjmaa.SpecM
open Go.Shelf Go.RowKit Go.Lib Go.Sort Go.Proofs.SymP Go.Proofs.YtghommaokdhjmaaW.PrintWords Go.Proofs.YtghommaokdhjmaaW.PrintLast Go.Proofs.Ytghommaokdhjmaa.Gate Go.Proofs.Ytghommaokdhjmaa.P Go.Proofs.Ytghommaokdhjmaa.Str Go.Proofs.Ytghommaokdhjmaa.PSpec Go.Proofs.Ytghommaokdhjmaa.BothB Go.Proofs.Ytghommaokdhjmaa.FactC
open Go.Proofs.Ytghommaokdhjmaa.SpecB hiding tl_iff ff
theorem rname_loop (s : ByteArray) (l : List ByteArray) (hl : l.length ≤ 1000000) : ∀ (m i : Nat), i + m = l.length → Ev (fun k => constableref01_Name.l0 k s l i) (!(l.drop i).any fun x => decide (s = x)) := by
  intro m
  induction m with
  | zero =>
    intro i h
    refine Ev.step (fun k => by rw [constableref01_Name.l0, if_neg (by omega)]) ?_
    rw [List.drop_eq_nil_of_le (by omega)]
    exact Ev.now _
  | succ m ih =>
    intro i h
    have hi : i < l.length := by omega
    have hrd : rdOf ByteArray.empty l (i : Int) = l[i] := by
      unfold rdOf
      rw [Int.toNat_natCast, List.getD_eq_getElem?_getD, List.getElem?_eq_getElem hi]; rfl
    refine Ev.step (fun k => by rw [constableref01_Name.l0, if_pos (by omega), if_pos (by omega), hrd, w64 hl hi]) ?_
    rw [List.drop_eq_getElem_cons hi, List.any_cons]
    by_cases e : s = l[i]
    · simp only [if_pos ((tl_iff _ _).2 e.symm), decide_eq_true e, Bool.true_or, Bool.not_true]; exact Ev.now _
    · simp only [if_neg (fun h => e ((tl_iff _ _).1 h).symm), decide_eq_false e, Bool.false_or]; exact ih (i + 1) (by omega)
theorem ev_rname (s : ByteArray) (hs : s.size ≤ 1000000) : Ev (fun k => constableref01_Name.f k s) (nameP s) := by
  have hw := ev_word s hs false
  rw [word_sym] at hw
  unfold constableref01_Name.f nameP
  have hv : (valP 2 0 s == 0) = symP s := by
    unfold valP
    rw [if_neg (by decide), if_pos rfl, if_pos rfl]
    cases symP s <;> rfl
  rw [hv]
  refine Ev.bind hw ?_
  cases symP s
  · simp only [Bool.false_eq_true, if_false, Bool.false_and]; exact Ev.now _
  · simp only [if_true, Bool.true_and]
    unfold constableref01_words.f
    simp only [Option.bind_some]
    exact rname_loop s wordsL (by decide) wordsL.length 0 (by decide)
theorem rfact_loop (vs : List S24) (nm : ByteArray) (fv : fitV vs = true) (hl : vs.length ≤ 1000000) : ∀ (m i : Nat), i + m = vs.length → Ev (fun k => constableref01_Fact.l0 k i nm vs) ((vs.drop i).all fun v => valP v.f0 v.f1 v.f2 == 0) := by
  intro m
  induction m with
  | zero =>
    intro i h
    refine Ev.step (fun k => by rw [constableref01_Fact.l0, if_neg (by omega)]) ?_
    rw [List.drop_eq_nil_of_le (by omega)]
    exact Ev.now _
  | succ m ih =>
    intro i h
    have hi : i < vs.length := by omega
    refine Ev.step (fun k => by rw [constableref01_Fact.l0, if_pos (by omega), if_pos (by omega), rdV_get hi, w64 hl hi]) ?_
    rw [List.drop_eq_getElem_cons hi, List.all_cons]
    refine Ev.bind (ev_value vs[i].f0 vs[i].f1 vs[i].f2 (fitV_mem.1 fv _ (List.getElem_mem hi))) ?_
    cases (valP vs[i].f0 vs[i].f1 vs[i].f2 == 0)
    · simp only [Bool.false_eq_true, if_false, Bool.false_and]; exact Ev.now _
    · simp only [if_true, Bool.true_and]; exact ih (i + 1) (by omega)
theorem ev_rfact {a : ByteArray} {vs : List S24} (ha : a.size ≤ 1000000) (fv : fitV vs = true) : Ev (fun k => constableref01_Fact.f k a vs) (decide (factP a vs = 0)) := by
  have jt : Ev (fun k => constableref01_Fact.j0 k true a vs) false := Ev.step (fun k => by rw [constableref01_Fact.j0, if_pos rfl]) (Ev.now _)
  unfold constableref01_Fact.f
  refine Ev.bind (ev_rname a ha) ?_
  by_cases h1 : nameP a = true
  · simp only [if_pos h1]
    by_cases h2 : vs.length ≤ 5
    · rw [decide_eq_false (show ¬ (vs.length : Int) > 5 by omega)]
      refine Ev.step (fun k => by rw [constableref01_Fact.j0, if_neg (by decide)]) ?_
      have := rfact_loop vs a fv (by omega) vs.length 0 (by omega)
      rw [List.drop_zero] at this
      have e : decide (factP a vs = 0) = vs.all fun v => valP v.f0 v.f1 v.f2 == 0 := by
        rw [Bool.eq_iff_iff, decide_eq_true_eq, fact_zero, List.all_eq_true]
        simp only [beq_iff_eq]
        exact ⟨fun h => h.2.2, fun h => ⟨h1, h2, h⟩⟩
      rw [e]; exact this
    · rw [decide_eq_true (show (vs.length : Int) > 5 by omega), decide_eq_false (fun h => h2 (fact_zero.1 h).2.1)]
      exact jt
  · simp only [if_neg h1]
    rw [decide_eq_false (fun h => h1 (fact_zero.1 h).1)]
    exact jt
theorem ev_rterm (t : S77) (h1 : t.f0.size ≤ 1000000) (h2 : t.f1.f2.size ≤ 1000000) : Ev (fun k => constableref01_Term.f k t.f0 t.f1.f0 t.f1.f1 t.f1.f2) (termP t) := by
  unfold constableref01_Term.f termP
  by_cases hc : t.f0.toList = ([] : List UInt8)
  · have hz : t.f0.size = 0 := (con_size t).1 hc
    simp only [if_pos hc, if_neg (show ¬ (t.f0.size : Int) > 0 by omega)]
    exact Ev.bind (ev_value _ _ _ h2) (Ev.now _)
  · have hz : t.f0.size ≠ 0 := fun h => hc ((con_size t).2 h)
    simp only [if_neg hc, if_pos (show (t.f0.size : Int) > 0 by omega)]
    have hw := ev_word t.f0 h1 true
    rw [word_var] at hw
    refine Ev.bind hw ?_
    cases varP t.f0
    · simp only [Bool.false_eq_true, if_false, Bool.false_and]; exact Ev.now _
    · simp only [if_true, Bool.true_and]; exact Ev.now _
theorem ratom_loop (ts : List S77) (nm : ByteArray) (ft : fitT ts = true) (hl : ts.length ≤ 1000000) : ∀ (m i : Nat), i + m = ts.length → Ev (fun k => constableref01_Atom.l0 k i nm ts) ((ts.drop i).all termP) := by
  intro m
  induction m with
  | zero =>
    intro i h
    refine Ev.step (fun k => by rw [constableref01_Atom.l0, if_neg (by omega)]) ?_
    rw [List.drop_eq_nil_of_le (by omega)]
    exact Ev.now _
  | succ m ih =>
    intro i h
    have hi : i < ts.length := by omega
    have hf := fitT_mem.1 ft _ (List.getElem_mem hi)
    refine Ev.step (fun k => by rw [constableref01_Atom.l0, if_pos (by omega), if_pos (by omega), rdT_get hi, w64 hl hi]) ?_
    rw [List.drop_eq_getElem_cons hi, List.all_cons]
    refine Ev.bind (ev_rterm ts[i] hf.1 hf.2) ?_
    cases termP ts[i]
    · simp only [Bool.false_eq_true, if_false, Bool.false_and]; exact Ev.now _
    · simp only [if_true, Bool.true_and]; exact ih (i + 1) (by omega)
theorem ev_ratom {a : ByteArray} {ts : List S77} (ha : a.size ≤ 1000000) (ft : fitT ts = true) : Ev (fun k => constableref01_Atom.f k a ts) (decide (matP a ts = 0)) := by
  have jt : Ev (fun k => constableref01_Atom.j0 k true a ts) false := Ev.step (fun k => by rw [constableref01_Atom.j0, if_pos rfl]) (Ev.now _)
  unfold constableref01_Atom.f
  refine Ev.bind (ev_rname a ha) ?_
  by_cases h1 : nameP a = true
  · simp only [if_pos h1]
    by_cases h2 : ts.length ≤ 5
    · rw [decide_eq_false (show ¬ (ts.length : Int) > 5 by omega)]
      refine Ev.step (fun k => by rw [constableref01_Atom.j0, if_neg (by decide)]) ?_
      have := ratom_loop ts a ft (by omega) ts.length 0 (by omega)
      rw [List.drop_zero] at this
      have e : decide (matP a ts = 0) = ts.all termP := by
        rw [Bool.eq_iff_iff, decide_eq_true_eq, mat_zero, List.all_eq_true]
        exact ⟨fun h => h.2.2, fun h => ⟨h1, h2, h⟩⟩
      rw [e]; exact this
    · rw [decide_eq_true (show (ts.length : Int) > 5 by omega), decide_eq_false (fun h => h2 (mat_zero.1 h).2.1)]
      exact jt
  · simp only [if_neg h1]
    rw [decide_eq_false (fun h => h1 (mat_zero.1 h).1)]
    exact jt
end Go.Proofs.Ytghommaokdhjmaa.SpecM
/- The reference's Get answers its plain form; no condition but the row's length. -/
set_option linter.unusedVariables false
set_option linter.unusedSimpArgs false
namespace Go.Proofs.Ytghommaokdhjmaa.SpecB
open Go.Shelf Go.RowKit Go.Lib Go.Sort Go.Proofs.SymP Go.Proofs.YtghommaokdhjmaaW.PrintWords Go.Proofs.YtghommaokdhjmaaW.PrintLast Go.Proofs.Ytghommaokdhjmaa.Gate Go.Proofs.Ytghommaokdhjmaa.P Go.Proofs.Ytghommaokdhjmaa.Str Go.Proofs.Ytghommaokdhjmaa.PSpec Go.Proofs.Ytghommaokdhjmaa.BothB
theorem rget_loop (l : List S39) (n : ByteArray) (hl : l.length ≤ 1000000) : ∀ (m i : Nat), i + m = l.length → Ev (fun k => constableref01_Get.l0 k l n i) (getP (l.drop i) n) := by
  intro m
  induction m with
  | zero =>
    intro i h
    refine Ev.step (fun k => by rw [constableref01_Get.l0, if_neg (by omega)]) ?_
    rw [List.drop_eq_nil_of_le (by omega)]
    exact Ev.now _
  | succ m ih =>
    intro i h
    have hi : i < l.length := by omega
    refine Ev.step (fun k => by rw [constableref01_Get.l0, if_pos (by omega), if_pos (by omega), rd_get hi, w64 hl hi]) ?_
    rw [List.drop_eq_getElem_cons hi, getP]
    by_cases e : l[i].f0 = n
    · simp only [if_pos ((tl_iff _ _).2 e), if_pos e]; exact Ev.now _
    · simp only [if_neg (fun h => e ((tl_iff _ _).1 h)), if_neg e]; exact ih (i + 1) (by omega)
theorem ev_rget {l : List S39} (hl : l.length ≤ 1000000) (n : ByteArray) : Ev (fun k => constableref01_Get.f k l n) (getP l n) := by
  unfold constableref01_Get.f
  exact rget_loop l n hl l.length 0 (by omega)
end Go.Proofs.Ytghommaokdhjmaa.SpecB
