/- The row of SetsSame, and what it rests on; no condition. -/
import Derived.Test.YtghommaokdhjmaaSGB1
import Derived.ChangeSame
import Derived.ChangeArms
import Derived.Test.YtghommaokdhjmaaRows
import Derived.WalkKit
import Derived.ProofKit
import Derived.OpenShut
import Derived.ShutString
import Derived.ChangeOld
import Derived.Below
import Derived.SizedLaws
namespace Go.Proofs.Ytghommaokdhjmaa.P
open Go.RowKit Go.Proofs.YtghommaokdhjmaaW.PrintWords Go.Proofs.YtghommaokdhjmaaW.PrintLast Go.Proofs.YtghommaokdhjmaaW.PrintMore Go.Proofs.Ytghommaokdhjmaa.Gate
set_option linter.unusedVariables false
set_option linter.unusedSimpArgs false

/-! ### constablelaw03_Heavy: function 36 -/
mutual
def constablelaw03_Heavy.j0 : Nat → Bool → ByteArray → List (S24) → Option (Bool)
 | 0, _, _, _ => none
 | k + 1, x13, x366000, x366001 => if x13 = true then (some true) else (constablelaw03_Heavy.l0 k 0 x366000 x366001)
def constablelaw03_Heavy.l0 : Nat → Int → ByteArray → List (S24) → Option (Bool)
 | 0, _, _, _ => none
 | k + 1, x3, x366000, x366001 => if x3 < (x366001.length : Int) then (if 0 ≤ x3 then (if (((rd_T24 x366001 x3).f2).size : Int) > 200 then (some true) else (constablelaw03_Heavy.l0 k (wrap64 (x3 + 1)) x366000 x366001)) else (none)) else (some false)
end
def constablelaw03_Heavy.f (k : Nat) (a0_0 : ByteArray) (l0_1 : List (S24)) : Option (Bool) := if (a0_0.size : Int) > 200 then (constablelaw03_Heavy.j0 k true a0_0 l0_1) else (constablelaw03_Heavy.j0 k (decide ((l0_1.length : Int) > 20)) a0_0 l0_1)
theorem constablelaw03_Heavy.mono_l : ∀ k, (∀ y0 y1 y2, LeO (constablelaw03_Heavy.j0 k y0 y1 y2) (constablelaw03_Heavy.j0 (k + 1) y0 y1 y2)) ∧ (∀ y0 y1 y2, LeO (constablelaw03_Heavy.l0 k y0 y1 y2) (constablelaw03_Heavy.l0 (k + 1) y0 y1 y2))
 | 0 => ⟨fun _ _ _ r h => by simp [constablelaw03_Heavy.j0] at h, fun _ _ _ r h => by simp [constablelaw03_Heavy.l0] at h⟩
 | k + 1 => by
  obtain ⟨ih0, ih1⟩ := constablelaw03_Heavy.mono_l k
  refine ⟨?_, ?_⟩
  ·intro y0 y1 y2
   unfold constablelaw03_Heavy.j0
   repeat' first
   | (with_reducible exact ih0 _ _ _)
   | (with_reducible exact ih1 _ _ _)
   | (with_reducible exact LeO.refl _)
   | (with_reducible exact LeO.none _)
   | (with_reducible refine LeO.ite ?_ ?_)
   | (with_reducible refine LeO.bind ?_ (fun _ => ?_))
  ·intro y0 y1 y2
   unfold constablelaw03_Heavy.l0
   repeat' first
   | (with_reducible exact ih0 _ _ _)
   | (with_reducible exact ih1 _ _ _)
   | (with_reducible exact LeO.refl _)
   | (with_reducible exact LeO.none _)
   | (with_reducible refine LeO.ite ?_ ?_)
   | (with_reducible refine LeO.bind ?_ (fun _ => ?_))
theorem constablelaw03_Heavy.mono : ∀ a0 a1 k, LeO (constablelaw03_Heavy.f k a0 a1) (constablelaw03_Heavy.f (k + 1) a0 a1) := by
 intro a0 a1 k
 obtain ⟨ih0, ih1⟩ := constablelaw03_Heavy.mono_l k
 unfold constablelaw03_Heavy.f
 repeat' first
   | (with_reducible exact ih0 _ _ _)
   | (with_reducible exact ih1 _ _ _)
   | (with_reducible exact LeO.refl _)
   | (with_reducible exact LeO.none _)
   | (with_reducible refine LeO.ite ?_ ?_)
   | (with_reducible refine LeO.bind ?_ (fun _ => ?_))
set_option maxHeartbeats 8000000 in
set_option maxRecDepth 100000 in
theorem constablelaw03_Heavy.calls (k : Nat) (a0_0 : ByteArray) (A0_1 : Option Addr) (c0_1 : Nat) (l0_1 : List (S24)) (r : Bool) (w : World) (hr0_1 : Kd.C k24 w A0_1 l0_1.length l0_1) (hc0_1 : l0_1.length ≤ c0_1) (h : constablelaw03_Heavy.f k a0_0 l0_1 = some r) :
  Calls Try.prog 36 #[.agg #[.string a0_0, .slice A0_1 l0_1.length c0_1]] w fun e w' => e = .returned (.bool r) ∧ Below w.heap.size w w' := by
 have hu53 := Try.underlying53
 have HR0_1 := Aside0.mk hr0_1
 have HC0_1 := Aside0.mk hc0_1
 clear hr0_1 hc0_1
 have HB := Aside0.mk (Below.refl w.heap.size w)
 have H : (if (a0_0.size : Int) > 200 then (constablelaw03_Heavy.j0 k true a0_0 l0_1) else (constablelaw03_Heavy.j0 k (decide ((l0_1.length : Int) > 20)) a0_0 l0_1)) = some r := h
 clear h
 have HC2 := Aside0.mk H
 clear H
 go_enter Try.func36, Try.ntmps36
 go_upto_region 1 with (first | ((with_reducible refine gate_dst (N := 1) rfl ?_); (try (refine gate_guard (by rfl) ?_; dsimp only)); refine bE (N := 1) (cs := #[.string a0_0, .slice A0_1 l0_1.length c0_1]) (t := 53) ?_; intro gb365 hg w3 hbox hb; have n0_ := Aside0.mk (below_step bB0 hb); have n1_ := Aside0.mk (hbox); have n2_ := Aside0.mk ((by rw [hg]; exact (below_size bB0) : w.heap.size ≤ gb365)); have n3_ := Aside0.mk ((by rw [hg]; exact (below_size bB0) : w.heap.size ≤ gb365)); clear HB; have HB := n0_; have BK365 := n1_; have GW365 := n2_; have GE365 := n3_; clear n0_ n1_ n2_ n3_; clear hb hbox hg))
 (try simp only [Act.put, List.setIfInBounds_toArray, List.set_cons_zero, List.set_cons_succ])
 go_cut [13] (fun v13 wc => ∃ (kq : Nat) (x13_1 : Bool), v13 = .bool x13_1 ∧ Aside0 (constablelaw03_Heavy.j0 kq x13_1 a0_0 l0_1 = some r) ∧ Aside0 (kq ≤ k) ∧ Aside0 (wc.heap[gb365]? = some (.cells #[.string a0_0, (.slice A0_1 l0_1.length c0_1)] 53 (0, 0))) ∧ Aside0 (Below w.heap.size w wc))
 case first =>
  have H := HC2.out
  clear HC2
  by_cases c4 : (a0_0.size : Int) > 200
  ·rw [if_pos c4] at H
   have c4b0 : decide (200 < (a0_0.size : Int)) = true := decide_eq_true c4
   have c4b1 : decide (200 < a0_0.size) = true := decide_eq_true (by omega)
   clear c4
   (first | rw [c4b0] | (simp only [i64_w, i32_w]; rw [c4b0]) | skip)
   have H' := Aside0.mk H
   clear H
   have hcz5_0 : w3.cell? ⟨gb365, 0, none⟩ = some (.string a0_0) := (blk_cell BK365.out 0).trans rfl
   have hcz5_1 : w3.cell? ⟨gb365, 1, none⟩ = some (.slice A0_1 l0_1.length c0_1) := (blk_cell BK365.out 1).trans rfl
   have hfz5_0 := blk_frozen BK365.out 0
   have hfz5_1 := blk_frozen BK365.out 1
   go_wp2
   go_meet
   case rel => exact ⟨_, (true), (by first | rfl | (simp; done) | (simp [*]; done)), H', ⟨by first | omega | exact Nat.le_refl _⟩, ⟨by refine bk ?_; exact BK365.out⟩, ⟨(bB1 GE365.out)⟩⟩
  ·rw [if_neg c4] at H
   have c4b0 : decide (200 < (a0_0.size : Int)) = false := decide_eq_false c4
   have c4b1 : decide (200 < a0_0.size) = false := decide_eq_false (by omega)
   clear c4
   (first | rw [c4b0] | (simp only [i64_w, i32_w]; rw [c4b0]) | skip)
   have H' := Aside0.mk H
   clear H
   have hcz6_0 : w3.cell? ⟨gb365, 0, none⟩ = some (.string a0_0) := (blk_cell BK365.out 0).trans rfl
   have hcz6_1 : w3.cell? ⟨gb365, 1, none⟩ = some (.slice A0_1 l0_1.length c0_1) := (blk_cell BK365.out 1).trans rfl
   have hfz6_0 := blk_frozen BK365.out 0
   have hfz6_1 := blk_frozen BK365.out 1
   go_wp2
   go_meet
   case rel => exact ⟨_, (decide ((l0_1.length : Int) > 20)), (by first | rfl | (simp; done) | (simp [*]; done)), H', ⟨by first | omega | exact Nat.le_refl _⟩, ⟨by refine bk ?_; exact BK365.out⟩, ⟨(bB1 GE365.out)⟩⟩
 case rest =>
  clear HC2
  (try clear p2); (try clear c3); (try clear c4); (try clear c4b0); (try clear c4b1); (try clear hcz5_0); (try clear hcz5_1); (try clear hcz6_0); (try clear hcz6_1); (try clear hfz5_0); (try clear hfz5_1); (try clear hfz6_0); (try clear hfz6_1)
  obtain ⟨kq, x13_1, rfl, HA, HJ1, BK365, HB⟩ := hcut
  cases kq with
  | zero => exact absurd HA.out (by simp [constablelaw03_Heavy.j0])
  | succ kj1 =>
   have H := HA.out
   clear HA
   simp only [constablelaw03_Heavy.j0] at H
   by_cases c7 : x13_1 = true
   ·subst c7
    have H1 : (some true) = some r := by rw [if_pos rfl] at H; exact H
    clear H
    have H := H1
    clear H1
    obtain rfl := Option.some.inj H
    go_wp2
    go_ret
    exact ⟨eW, (bB1 GE365.out)⟩
   ·replace c7 := Bool.eq_false_iff.mpr c7
    subst c7
    have H1 : (constablelaw03_Heavy.l0 kj1 0 a0_0 l0_1) = some r := by rw [if_neg (show ¬ (false = true) by decide)] at H; exact H
    clear H
    have H := H1
    clear H1
    have H' := Aside0.mk H
    clear H
    go_wp2
    go_loopg [3] kj1 (fun kq v3 w' => ∃ (x3_2 : Int), v3 = .int .i64 x3_2 ∧ Aside0 (constablelaw03_Heavy.l0 kq x3_2 a0_0 l0_1 = some r) ∧ Aside0 (kq ≤ kj1) ∧ Aside0 (w'.heap[gb365]? = some (.cells #[.string a0_0, (.slice A0_1 l0_1.length c0_1)] 53 (0, 0))) ∧ Aside0 (Below w.heap.size w w'))
    case atStart => exact ⟨(0), (by first | rfl | (simp; done) | (simp [*]; done)), H', ⟨Nat.le_refl _⟩, ⟨by refine bk ?_; exact BK365.out⟩, ⟨(bB1 GE365.out)⟩⟩
    case round =>
     clear H'
     (try clear p2); (try clear c3); (try clear c4); (try clear c4b0); (try clear c4b1); (try clear c7); (try clear hcz5_0); (try clear hcz5_1); (try clear hcz6_0); (try clear hcz6_1); (try clear hfz5_0); (try clear hfz5_1); (try clear hfz6_0); (try clear hfz6_1); (try clear p2)
     obtain ⟨x3_2, rfl, HA, HK2, BK365, HB⟩ := hrel
     cases gk with
     | zero => exact absurd HA.out (by simp [constablelaw03_Heavy.l0])
     | succ k2 =>
      have H := HA.out
      clear HA
      simp only [constablelaw03_Heavy.l0] at H
      by_cases c8 : x3_2 < (l0_1.length : Int)
      ·rw [if_pos c8] at H
       have c8b0 : decide (x3_2 < (l0_1.length : Int)) = true := decide_eq_true c8
       clear c8
       by_cases c9 : 0 ≤ x3_2
       ·rw [if_pos c9] at H
        have c9b0 : decide (0 ≤ x3_2) = true := decide_eq_true c9
        clear c9
        by_cases c10 : (((rd_T24 l0_1 x3_2).f2).size : Int) > 200
        ·rw [if_pos c10] at H
         have c10b0 : decide (200 < (((rd_T24 l0_1 x3_2).f2).size : Int)) = true := decide_eq_true c10
         have c10b1 : decide (200 < ((rd_T24 l0_1 x3_2).f2).size) = true := decide_eq_true (by omega)
         clear c10
         obtain rfl := Option.some.inj H
         have hcz11_0 : wr.cell? ⟨gb365, 0, none⟩ = some (.string a0_0) := (blk_cell BK365.out 0).trans rfl
         have hcz11_1 : wr.cell? ⟨gb365, 1, none⟩ = some (.slice A0_1 l0_1.length c0_1) := (blk_cell BK365.out 1).trans rfl
         have hfz11_0 := blk_frozen BK365.out 0
         have hfz11_1 := blk_frozen BK365.out 1
         have p366 : 0 ≤ (x3_2 : Int) := of_decide_eq_true (by first | (with_reducible assumption) | assumption)
         have q366 : x3_2 < (l0_1.length : Int) := of_decide_eq_true (by first | (with_reducible assumption) | assumption)
         obtain ⟨ad366, e366, hx366_0, hx366_1, hx366_2⟩ := at_T24 HR0_1.out x3_2 p366 q366
         cases e366
         replace hx366_0 := (HB.out.cell (World.block_lt_of_cell? w _ hx366_0)).trans hx366_0
         replace hx366_1 := (HB.out.cell (World.block_lt_of_cell? w _ hx366_1)).trans hx366_1
         replace hx366_2 := (HB.out.cell (World.block_lt_of_cell? w _ hx366_2)).trans hx366_2
         replace p366 := eq_true p366
         replace q366 := eq_true q366
         go_wp2
         go_ret
         exact ⟨eW, (bB1 GE365.out)⟩
        ·rw [if_neg c10] at H
         have c10b0 : decide (200 < (((rd_T24 l0_1 x3_2).f2).size : Int)) = false := decide_eq_false c10
         have c10b1 : decide (200 < ((rd_T24 l0_1 x3_2).f2).size) = false := decide_eq_false (by omega)
         clear c10
         have H' := Aside0.mk H
         clear H
         have hcz12_0 : wr.cell? ⟨gb365, 0, none⟩ = some (.string a0_0) := (blk_cell BK365.out 0).trans rfl
         have hcz12_1 : wr.cell? ⟨gb365, 1, none⟩ = some (.slice A0_1 l0_1.length c0_1) := (blk_cell BK365.out 1).trans rfl
         have hfz12_0 := blk_frozen BK365.out 0
         have hfz12_1 := blk_frozen BK365.out 1
         have p366 : 0 ≤ (x3_2 : Int) := of_decide_eq_true (by first | (with_reducible assumption) | assumption)
         have q366 : x3_2 < (l0_1.length : Int) := of_decide_eq_true (by first | (with_reducible assumption) | assumption)
         obtain ⟨ad366, e366, hx366_0, hx366_1, hx366_2⟩ := at_T24 HR0_1.out x3_2 p366 q366
         cases e366
         replace hx366_0 := (HB.out.cell (World.block_lt_of_cell? w _ hx366_0)).trans hx366_0
         replace hx366_1 := (HB.out.cell (World.block_lt_of_cell? w _ hx366_1)).trans hx366_1
         replace hx366_2 := (HB.out.cell (World.block_lt_of_cell? w _ hx366_2)).trans hx366_2
         replace p366 := eq_true p366
         replace q366 := eq_true q366
         go_wp2
         go_roundg k2
         case measure => have := HJ1.out; have := HK2.out; omega
         case rel => exact ⟨(wrap64 (x3_2 + 1)), (by first | rfl | (simp; done) | (simp [*]; done)), H', ⟨by have := HJ1.out; have := HK2.out; omega⟩, ⟨by refine bk ?_; exact BK365.out⟩, ⟨(bB1 GE365.out)⟩⟩
       ·rw [if_neg c9] at H
        exact absurd H (by simp)
      ·rw [if_neg c8] at H
       have c8b0 : decide (x3_2 < (l0_1.length : Int)) = false := decide_eq_false c8
       clear c8
       obtain rfl := Option.some.inj H
       have hcz13_0 : wr.cell? ⟨gb365, 0, none⟩ = some (.string a0_0) := (blk_cell BK365.out 0).trans rfl
       have hcz13_1 : wr.cell? ⟨gb365, 1, none⟩ = some (.slice A0_1 l0_1.length c0_1) := (blk_cell BK365.out 1).trans rfl
       have hfz13_0 := blk_frozen BK365.out 0
       have hfz13_1 := blk_frozen BK365.out 1
       go_wp2
       go_ret
       exact ⟨eW, (bB1 GE365.out)⟩

end Go.Proofs.Ytghommaokdhjmaa.P
namespace Go.Proofs.Ytghommaokdhjmaa.P
open Go.RowKit Go.Proofs.YtghommaokdhjmaaW.PrintWords Go.Proofs.YtghommaokdhjmaaW.PrintLast Go.Proofs.YtghommaokdhjmaaW.PrintMore Go.Proofs.Ytghommaokdhjmaa.Gate
set_option linter.unusedVariables false
set_option linter.unusedSimpArgs false

/-! ### constablelaw03_Many: function 29 -/
def constablelaw03_Many.l0 : Nat → List (S53) → Int → Option (Bool)
 | 0, _, _ => none
 | k + 1, x0, x3 => if x3 < (x0.length : Int) then (if 0 ≤ x3 then ((constablelaw03_Heavy.f k ((rd_T53 x0 x3).f0) ((rd_T53 x0 x3).f1)).bind fun t368 => (if t368 = true then (some true) else (constablelaw03_Many.l0 k x0 (wrap64 (x3 + 1))))) else (none)) else (some false)
def constablelaw03_Many.f (k : Nat) (l0 : List (S53)) : Option (Bool) := if (l0.length : Int) > 60 then (some true) else (constablelaw03_Many.l0 k l0 0)
theorem constablelaw03_Many.mono_l : ∀ k, (∀ y0 y1, LeO (constablelaw03_Many.l0 k y0 y1) (constablelaw03_Many.l0 (k + 1) y0 y1))
 | 0 => fun _ _ r h => by simp [constablelaw03_Many.l0] at h
 | k + 1 => by
  have ih0 := constablelaw03_Many.mono_l k
  ·intro y0 y1
   unfold constablelaw03_Many.l0
   repeat' first
   | (with_reducible exact ih0 _ _)
   | (with_reducible exact constablelaw03_Heavy.mono _ _ _)
   | (with_reducible exact LeO.refl _)
   | (with_reducible exact LeO.none _)
   | (with_reducible refine LeO.ite ?_ ?_)
   | (with_reducible refine LeO.bind ?_ (fun _ => ?_))
theorem constablelaw03_Many.mono : ∀ a0 k, LeO (constablelaw03_Many.f k a0) (constablelaw03_Many.f (k + 1) a0) := by
 intro a0 k
 have ih0 := constablelaw03_Many.mono_l k
 unfold constablelaw03_Many.f
 repeat' first
   | (with_reducible exact ih0 _ _)
   | (with_reducible exact constablelaw03_Heavy.mono _ _ _)
   | (with_reducible exact LeO.refl _)
   | (with_reducible exact LeO.none _)
   | (with_reducible refine LeO.ite ?_ ?_)
   | (with_reducible refine LeO.bind ?_ (fun _ => ?_))
set_option maxHeartbeats 8000000 in
set_option maxRecDepth 100000 in
theorem constablelaw03_Many.calls (k : Nat) (A0 : Option Addr) (c0 : Nat) (l0 : List (S53)) (r : Bool) (w : World) (hr0 : Kd.C k53 w A0 l0.length l0) (hc0 : l0.length ≤ c0) (h : constablelaw03_Many.f k l0 = some r) :
  Calls Try.prog 29 #[.slice A0 l0.length c0] w fun e w' => e = .returned (.bool r) ∧ Below w.heap.size w w' := by
 have hu53 := Try.underlying53
 have HR0 := Aside0.mk hr0
 have HC0 := Aside0.mk hc0
 clear hr0 hc0
 have HB := Aside0.mk (Below.refl w.heap.size w)
 have H : (if (l0.length : Int) > 60 then (some true) else (constablelaw03_Many.l0 k l0 0)) = some r := h
 clear h
 by_cases c2 : (l0.length : Int) > 60
 ·rw [if_pos c2] at H
  have c2b0 : decide (60 < (l0.length : Int)) = true := decide_eq_true c2
  have c2b1 : decide (60 < l0.length) = true := decide_eq_true (by omega)
  clear c2
  obtain rfl := Option.some.inj H
  go_enter Try.func29, Try.ntmps29
  go_wp2
  go_ret
  exact ⟨eW, bB0⟩
 ·rw [if_neg c2] at H
  have c2b0 : decide (60 < (l0.length : Int)) = false := decide_eq_false c2
  have c2b1 : decide (60 < l0.length) = false := decide_eq_false (by omega)
  clear c2
  have H' := Aside0.mk H
  clear H
  go_enter Try.func29, Try.ntmps29
  go_wp2
  go_loopg [3] k (fun kq v3 w' => ∃ (x3_1 : Int), v3 = .int .i64 x3_1 ∧ Aside0 (constablelaw03_Many.l0 kq l0 x3_1 = some r) ∧ Aside0 (kq ≤ k) ∧ Aside0 (Below w.heap.size w w'))
  case atStart => exact ⟨(0), (by first | rfl | (simp; done) | (simp [*]; done)), H', ⟨Nat.le_refl _⟩, ⟨bB0⟩⟩
  case round =>
   clear H'
   (try clear c2); (try clear c2b0); (try clear c2b1); (try clear p2)
   obtain ⟨x3_1, rfl, HA, HK1, HB⟩ := hrel
   cases gk with
   | zero => exact absurd HA.out (by simp [constablelaw03_Many.l0])
   | succ k1 =>
    have H := HA.out
    clear HA
    simp only [constablelaw03_Many.l0] at H
    by_cases c3 : x3_1 < (l0.length : Int)
    ·rw [if_pos c3] at H
     have c3b0 : decide (x3_1 < (l0.length : Int)) = true := decide_eq_true c3
     clear c3
     by_cases c4 : 0 ≤ x3_1
     ·rw [if_pos c4] at H
      have c4b0 : decide (0 ≤ x3_1) = true := decide_eq_true c4
      clear c4
      replace H := Option.bind_eq_some_iff.mp H
      obtain ⟨t368, A50, H⟩ := H
      replace H : (if t368 = true then (some true) else (constablelaw03_Many.l0 k1 l0 (wrap64 (x3_1 + 1)))) = some r := H
      have A5 := Aside0.mk A50
      clear A50
      by_cases c6 : t368 = true
      ·subst c6
       have H1 : (some true) = some r := by rw [if_pos rfl] at H; exact H
       clear H
       have H := H1
       clear H1
       obtain rfl := Option.some.inj H
       have p367 : 0 ≤ (x3_1 : Int) := of_decide_eq_true (by first | (with_reducible assumption) | assumption)
       have q367 : x3_1 < (l0.length : Int) := of_decide_eq_true (by first | (with_reducible assumption) | assumption)
       obtain ⟨ad367, A367_1, c367_1, e367, hx367_0, hx367_1, hl367_1, hi367_1⟩ := at_T53 HR0.out x3_1 p367 q367
       cases e367
       have HZ367_1 := Aside0.mk hx367_1
       replace hx367_0 := (HB.out.cell (World.block_lt_of_cell? w _ hx367_0)).trans hx367_0
       replace hx367_1 := (HB.out.cell (World.block_lt_of_cell? w _ hx367_1)).trans hx367_1
       have HR367_1 := Aside0.mk hi367_1
       have HC367_1 := Aside0.mk hl367_1
       clear hi367_1 hl367_1
       replace p367 := eq_true p367
       replace q367 := eq_true q367
       go_wp2_with (first | ((with_reducible refine gate_callee (f := 36) rfl ?_); refine goesL_ (some 17) rfl rfl Try.func36 (by kernel_rfl) rfl #[.agg #[.string ((rd_T53 l0 x3_1).f0), .slice A367_1 ((rd_T53 l0 x3_1).f1).length c367_1]] rfl aG ?_; (with_reducible refine (constablelaw03_Heavy.calls k1 ((rd_T53 l0 x3_1).f0) _ _ ((rd_T53 l0 x3_1).f1) true _ ?side1 ?side2 A5.out).mono ?_); (case side1 => exact sC (Kd.C_below HR367_1.out HB.out)); (case side2 => exact HC367_1.out); rintro e w7 ⟨rfl, hb⟩; refine ⟨_, rfl, ?_⟩; have n0_ := Aside0.mk (below_step bB0 hb); clear HB; have HB := n0_; clear n0_; (try clear hb); (try clear hb2); (try clear hk); (try clear hi)))
       go_ret
       exact ⟨eW, bB0⟩
      ·replace c6 := Bool.eq_false_iff.mpr c6
       subst c6
       have H1 : (constablelaw03_Many.l0 k1 l0 (wrap64 (x3_1 + 1))) = some r := by rw [if_neg (show ¬ (false = true) by decide)] at H; exact H
       clear H
       have H := H1
       clear H1
       have H' := Aside0.mk H
       clear H
       have p367 : 0 ≤ (x3_1 : Int) := of_decide_eq_true (by first | (with_reducible assumption) | assumption)
       have q367 : x3_1 < (l0.length : Int) := of_decide_eq_true (by first | (with_reducible assumption) | assumption)
       obtain ⟨ad367, A367_1, c367_1, e367, hx367_0, hx367_1, hl367_1, hi367_1⟩ := at_T53 HR0.out x3_1 p367 q367
       cases e367
       have HZ367_1 := Aside0.mk hx367_1
       replace hx367_0 := (HB.out.cell (World.block_lt_of_cell? w _ hx367_0)).trans hx367_0
       replace hx367_1 := (HB.out.cell (World.block_lt_of_cell? w _ hx367_1)).trans hx367_1
       have HR367_1 := Aside0.mk hi367_1
       have HC367_1 := Aside0.mk hl367_1
       clear hi367_1 hl367_1
       replace p367 := eq_true p367
       replace q367 := eq_true q367
       go_wp2_with (first | ((with_reducible refine gate_callee (f := 36) rfl ?_); refine goesL_ (some 17) rfl rfl Try.func36 (by kernel_rfl) rfl #[.agg #[.string ((rd_T53 l0 x3_1).f0), .slice A367_1 ((rd_T53 l0 x3_1).f1).length c367_1]] rfl aG ?_; (with_reducible refine (constablelaw03_Heavy.calls k1 ((rd_T53 l0 x3_1).f0) _ _ ((rd_T53 l0 x3_1).f1) false _ ?side1 ?side2 A5.out).mono ?_); (case side1 => exact sC (Kd.C_below HR367_1.out HB.out)); (case side2 => exact HC367_1.out); rintro e w8 ⟨rfl, hb⟩; refine ⟨_, rfl, ?_⟩; have n0_ := Aside0.mk (below_step bB0 hb); clear HB; have HB := n0_; clear n0_; (try clear hb); (try clear hb2); (try clear hk); (try clear hi)))
       go_roundg k1
       case measure => have := HK1.out; omega
       case rel => exact ⟨(wrap64 (x3_1 + 1)), (by first | rfl | (simp; done) | (simp [*]; done)), H', ⟨by have := HK1.out; omega⟩, ⟨bB0⟩⟩
     ·rw [if_neg c4] at H
      exact absurd H (by simp)
    ·rw [if_neg c3] at H
     have c3b0 : decide (x3_1 < (l0.length : Int)) = false := decide_eq_false c3
     clear c3
     obtain rfl := Option.some.inj H
     go_wp2
     go_ret
     exact ⟨eW, bB0⟩

end Go.Proofs.Ytghommaokdhjmaa.P
namespace Go.Proofs.Ytghommaokdhjmaa.P
open Go.RowKit Go.Proofs.YtghommaokdhjmaaW.PrintWords Go.Proofs.YtghommaokdhjmaaW.PrintLast Go.Proofs.YtghommaokdhjmaaW.PrintMore Go.Proofs.Ytghommaokdhjmaa.Gate
set_option linter.unusedVariables false
set_option linter.unusedSimpArgs false

theorem eqA24 (d : Nat) (w : World) (x0 y0 : Int) (x1 y1 : Int) (x2 y2 : ByteArray) :
  (Op.equalIn (d + 2) 24 (.agg #[.int .i64 x0, .int .i64 x1, .string x2]) (.agg #[.int .i64 y0, .int .i64 y1, .string y2])).run Try.prog w = .ok (x0 == y0 && (x1 == y1 && (x2.toList == y2.toList))) w := by
 refine eqA_of Try.underlying24 (by kernel_rfl) ?_
 refine eqf_cons (by rfl) (by go_simp; rfl) (by go_simp; rfl) (by go_simp) ?_
 refine eqf_cons (by rfl) (by go_simp; rfl) (by go_simp; rfl) (by go_simp) ?_
 exact eqf_last (by rfl) (by go_simp; rfl) (by go_simp; rfl) (by go_simp)
end Go.Proofs.Ytghommaokdhjmaa.P
namespace Go.Proofs.Ytghommaokdhjmaa.P
open Go.RowKit Go.Proofs.YtghommaokdhjmaaW.PrintWords Go.Proofs.YtghommaokdhjmaaW.PrintLast Go.Proofs.YtghommaokdhjmaaW.PrintMore Go.Proofs.Ytghommaokdhjmaa.Gate
set_option linter.unusedVariables false
set_option linter.unusedSimpArgs false

attribute [local go_sem high] eqA24
/-! ### constablekeep_Fact: function 40 -/
mutual
def constablekeep_Fact.j0 : Nat → Bool → ByteArray → List (S24) → ByteArray → List (S24) → Option (Bool)
 | 0, _, _, _, _, _ => none
 | k + 1, x19, x442000, x442001, x443000, x443001 => if x19 = true then (some false) else (constablekeep_Fact.l0 k 0 x442000 x442001 x443000 x443001)
def constablekeep_Fact.l0 : Nat → Int → ByteArray → List (S24) → ByteArray → List (S24) → Option (Bool)
 | 0, _, _, _, _, _ => none
 | k + 1, x5, x442000, x442001, x443000, x443001 => if x5 < (x442001.length : Int) then (if 0 ≤ x5 then (if x5 < (x443001.length : Int) then (if (!(((rd_T24 x442001 x5).f0) == ((rd_T24 x443001 x5).f0)) || (!(((rd_T24 x442001 x5).f1) == ((rd_T24 x443001 x5).f1)) || (!((((rd_T24 x442001 x5).f2).toList) == (((rd_T24 x443001 x5).f2).toList))))) = true then (some false) else (constablekeep_Fact.l0 k (wrap64 (x5 + 1)) x442000 x442001 x443000 x443001)) else (none)) else (none)) else (some true)
end
def constablekeep_Fact.f (k : Nat) (a0_0 : ByteArray) (l0_1 : List (S24)) (a1_0 : ByteArray) (l1_1 : List (S24)) : Option (Bool) := if a0_0.toList = a1_0.toList then (constablekeep_Fact.j0 k ((l0_1.length : Int) != (l1_1.length : Int)) a0_0 l0_1 a1_0 l1_1) else (constablekeep_Fact.j0 k true a0_0 l0_1 a1_0 l1_1)
theorem constablekeep_Fact.mono_l : ∀ k, (∀ y0 y1 y2 y3 y4, LeO (constablekeep_Fact.j0 k y0 y1 y2 y3 y4) (constablekeep_Fact.j0 (k + 1) y0 y1 y2 y3 y4)) ∧ (∀ y0 y1 y2 y3 y4, LeO (constablekeep_Fact.l0 k y0 y1 y2 y3 y4) (constablekeep_Fact.l0 (k + 1) y0 y1 y2 y3 y4))
 | 0 => ⟨fun _ _ _ _ _ r h => by simp [constablekeep_Fact.j0] at h, fun _ _ _ _ _ r h => by simp [constablekeep_Fact.l0] at h⟩
 | k + 1 => by
  obtain ⟨ih0, ih1⟩ := constablekeep_Fact.mono_l k
  refine ⟨?_, ?_⟩
  ·intro y0 y1 y2 y3 y4
   unfold constablekeep_Fact.j0
   repeat' first
   | (with_reducible exact ih0 _ _ _ _ _)
   | (with_reducible exact ih1 _ _ _ _ _)
   | (with_reducible exact LeO.refl _)
   | (with_reducible exact LeO.none _)
   | (with_reducible refine LeO.ite ?_ ?_)
   | (with_reducible refine LeO.bind ?_ (fun _ => ?_))
  ·intro y0 y1 y2 y3 y4
   unfold constablekeep_Fact.l0
   repeat' first
   | (with_reducible exact ih0 _ _ _ _ _)
   | (with_reducible exact ih1 _ _ _ _ _)
   | (with_reducible exact LeO.refl _)
   | (with_reducible exact LeO.none _)
   | (with_reducible refine LeO.ite ?_ ?_)
   | (with_reducible refine LeO.bind ?_ (fun _ => ?_))
theorem constablekeep_Fact.mono : ∀ a0 a1 a2 a3 k, LeO (constablekeep_Fact.f k a0 a1 a2 a3) (constablekeep_Fact.f (k + 1) a0 a1 a2 a3) := by
 intro a0 a1 a2 a3 k
 obtain ⟨ih0, ih1⟩ := constablekeep_Fact.mono_l k
 unfold constablekeep_Fact.f
 repeat' first
   | (with_reducible exact ih0 _ _ _ _ _)
   | (with_reducible exact ih1 _ _ _ _ _)
   | (with_reducible exact LeO.refl _)
   | (with_reducible exact LeO.none _)
   | (with_reducible refine LeO.ite ?_ ?_)
   | (with_reducible refine LeO.bind ?_ (fun _ => ?_))
set_option maxHeartbeats 8000000 in
set_option maxRecDepth 100000 in
theorem constablekeep_Fact.calls (k : Nat) (a0_0 : ByteArray) (A0_1 : Option Addr) (c0_1 : Nat) (l0_1 : List (S24)) (a1_0 : ByteArray) (A1_1 : Option Addr) (c1_1 : Nat) (l1_1 : List (S24)) (r : Bool) (w : World) (hr0_1 : Kd.C k24 w A0_1 l0_1.length l0_1) (hc0_1 : l0_1.length ≤ c0_1) (hr1_1 : Kd.C k24 w A1_1 l1_1.length l1_1) (hc1_1 : l1_1.length ≤ c1_1) (h : constablekeep_Fact.f k a0_0 l0_1 a1_0 l1_1 = some r) :
  Calls Try.prog 40 #[.agg #[.string a0_0, .slice A0_1 l0_1.length c0_1], .agg #[.string a1_0, .slice A1_1 l1_1.length c1_1]] w fun e w' => e = .returned (.bool r) ∧ Below w.heap.size w w' := by
 have hu53 := Try.underlying53
 have hu24 := Try.underlying24
 have HR0_1 := Aside0.mk hr0_1
 have HC0_1 := Aside0.mk hc0_1
 clear hr0_1 hc0_1
 have HR1_1 := Aside0.mk hr1_1
 have HC1_1 := Aside0.mk hc1_1
 clear hr1_1 hc1_1
 have HB := Aside0.mk (Below.refl w.heap.size w)
 have H : (if a0_0.toList = a1_0.toList then (constablekeep_Fact.j0 k ((l0_1.length : Int) != (l1_1.length : Int)) a0_0 l0_1 a1_0 l1_1) else (constablekeep_Fact.j0 k true a0_0 l0_1 a1_0 l1_1)) = some r := h
 clear h
 have HC3 := Aside0.mk H
 clear H
 go_enter Try.func40, Try.ntmps40
 go_upto_region 1 with (first | ((with_reducible refine gate_dst (N := 2) rfl ?_); (try (refine gate_guard (by rfl) ?_; dsimp only)); refine bE (N := 2) (cs := #[.string a0_0, .slice A0_1 l0_1.length c0_1]) (t := 53) ?_; intro gb441 hg w4 hbox hb; have n0_ := Aside0.mk (below_step bB0 hb); have n1_ := Aside0.mk (hbox); have n2_ := Aside0.mk ((by rw [hg]; exact (below_size bB0) : w.heap.size ≤ gb441)); have n3_ := Aside0.mk ((by rw [hg]; exact (below_size bB0) : w.heap.size ≤ gb441)); clear HB; have HB := n0_; have BK441 := n1_; have GW441 := n2_; have GE441 := n3_; clear n0_ n1_ n2_ n3_; clear hb hbox hg) | ((with_reducible refine gate_dst (N := 3) rfl ?_); (try (refine gate_guard (by rfl) ?_; dsimp only)); refine bE (N := 3) (cs := #[.string a1_0, .slice A1_1 l1_1.length c1_1]) (t := 53) ?_; intro gb442 hg w5 hbox hb; have n0_ := Aside0.mk (blk_below (g := gb441) (o := .cells #[.string a0_0, .slice A0_1 l0_1.length c0_1] 53 (0, 0)) (by refine bk ?_; exact BK441.out) hb); have n1_ := Aside0.mk (below_step (bB1 GE441.out) hb); have n2_ := Aside0.mk (hbox); have n3_ := Aside0.mk ((by rw [hg]; exact (below_size (bB1 GE441.out)) : w.heap.size ≤ gb442)); have n4_ := Aside0.mk ((by rw [hg]; exact (below_size (bB1 GE441.out)) : w.heap.size ≤ gb442)); have n5_ := Aside0.mk ((by rw [hg]; exact Nat.ne_of_lt (blk_lt (g := gb441) (o := .cells #[.string a0_0, .slice A0_1 l0_1.length c0_1] 53 (0, 0)) (by refine bk ?_; exact BK441.out)) : gb441 ≠ gb442)); have n6_ := Aside0.mk ((by rw [hg]; exact Nat.ne_of_gt (blk_lt (g := gb441) (o := .cells #[.string a0_0, .slice A0_1 l0_1.length c0_1] 53 (0, 0)) (by refine bk ?_; exact BK441.out)) : gb442 ≠ gb441)); clear BK441; clear HB; have BK441 := n0_; have HB := n1_; have BK442 := n2_; have GW442 := n3_; have GE442 := n4_; have NB441_442 := n5_; have NB442_441 := n6_; clear n0_ n1_ n2_ n3_ n4_ n5_ n6_; clear hb hbox hg))
 repeat (go_quiet (first | ((with_reducible refine gate_dst (N := 2) rfl ?_); (try (refine gate_guard (by rfl) ?_; dsimp only)); refine bE (N := 2) (cs := #[.string a0_0, .slice A0_1 l0_1.length c0_1]) (t := 53) ?_; intro gb441 hg w4 hbox hb; have n0_ := Aside0.mk (below_step bB0 hb); have n1_ := Aside0.mk (hbox); have n2_ := Aside0.mk ((by rw [hg]; exact (below_size bB0) : w.heap.size ≤ gb441)); have n3_ := Aside0.mk ((by rw [hg]; exact (below_size bB0) : w.heap.size ≤ gb441)); clear HB; have HB := n0_; have BK441 := n1_; have GW441 := n2_; have GE441 := n3_; clear n0_ n1_ n2_ n3_; clear hb hbox hg) | ((with_reducible refine gate_dst (N := 3) rfl ?_); (try (refine gate_guard (by rfl) ?_; dsimp only)); refine bE (N := 3) (cs := #[.string a1_0, .slice A1_1 l1_1.length c1_1]) (t := 53) ?_; intro gb442 hg w5 hbox hb; have n0_ := Aside0.mk (blk_below (g := gb441) (o := .cells #[.string a0_0, .slice A0_1 l0_1.length c0_1] 53 (0, 0)) (by refine bk ?_; exact BK441.out) hb); have n1_ := Aside0.mk (below_step (bB1 GE441.out) hb); have n2_ := Aside0.mk (hbox); have n3_ := Aside0.mk ((by rw [hg]; exact (below_size (bB1 GE441.out)) : w.heap.size ≤ gb442)); have n4_ := Aside0.mk ((by rw [hg]; exact (below_size (bB1 GE441.out)) : w.heap.size ≤ gb442)); have n5_ := Aside0.mk ((by rw [hg]; exact Nat.ne_of_lt (blk_lt (g := gb441) (o := .cells #[.string a0_0, .slice A0_1 l0_1.length c0_1] 53 (0, 0)) (by refine bk ?_; exact BK441.out)) : gb441 ≠ gb442)); have n6_ := Aside0.mk ((by rw [hg]; exact Nat.ne_of_gt (blk_lt (g := gb441) (o := .cells #[.string a0_0, .slice A0_1 l0_1.length c0_1] 53 (0, 0)) (by refine bk ?_; exact BK441.out)) : gb442 ≠ gb441)); clear BK441; clear HB; have BK441 := n0_; have HB := n1_; have BK442 := n2_; have GW442 := n3_; have GE442 := n4_; have NB441_442 := n5_; have NB442_441 := n6_; clear n0_ n1_ n2_ n3_ n4_ n5_ n6_; clear hb hbox hg)); go_upto_region 1 with (first | ((with_reducible refine gate_dst (N := 2) rfl ?_); (try (refine gate_guard (by rfl) ?_; dsimp only)); refine bE (N := 2) (cs := #[.string a0_0, .slice A0_1 l0_1.length c0_1]) (t := 53) ?_; intro gb441 hg w4 hbox hb; have n0_ := Aside0.mk (below_step bB0 hb); have n1_ := Aside0.mk (hbox); have n2_ := Aside0.mk ((by rw [hg]; exact (below_size bB0) : w.heap.size ≤ gb441)); have n3_ := Aside0.mk ((by rw [hg]; exact (below_size bB0) : w.heap.size ≤ gb441)); clear HB; have HB := n0_; have BK441 := n1_; have GW441 := n2_; have GE441 := n3_; clear n0_ n1_ n2_ n3_; clear hb hbox hg) | ((with_reducible refine gate_dst (N := 3) rfl ?_); (try (refine gate_guard (by rfl) ?_; dsimp only)); refine bE (N := 3) (cs := #[.string a1_0, .slice A1_1 l1_1.length c1_1]) (t := 53) ?_; intro gb442 hg w5 hbox hb; have n0_ := Aside0.mk (blk_below (g := gb441) (o := .cells #[.string a0_0, .slice A0_1 l0_1.length c0_1] 53 (0, 0)) (by refine bk ?_; exact BK441.out) hb); have n1_ := Aside0.mk (below_step (bB1 GE441.out) hb); have n2_ := Aside0.mk (hbox); have n3_ := Aside0.mk ((by rw [hg]; exact (below_size (bB1 GE441.out)) : w.heap.size ≤ gb442)); have n4_ := Aside0.mk ((by rw [hg]; exact (below_size (bB1 GE441.out)) : w.heap.size ≤ gb442)); have n5_ := Aside0.mk ((by rw [hg]; exact Nat.ne_of_lt (blk_lt (g := gb441) (o := .cells #[.string a0_0, .slice A0_1 l0_1.length c0_1] 53 (0, 0)) (by refine bk ?_; exact BK441.out)) : gb441 ≠ gb442)); have n6_ := Aside0.mk ((by rw [hg]; exact Nat.ne_of_gt (blk_lt (g := gb441) (o := .cells #[.string a0_0, .slice A0_1 l0_1.length c0_1] 53 (0, 0)) (by refine bk ?_; exact BK441.out)) : gb442 ≠ gb441)); clear BK441; clear HB; have BK441 := n0_; have HB := n1_; have BK442 := n2_; have GW442 := n3_; have GE442 := n4_; have NB441_442 := n5_; have NB442_441 := n6_; clear n0_ n1_ n2_ n3_ n4_ n5_ n6_; clear hb hbox hg)))
 (try simp only [Act.put, List.setIfInBounds_toArray, List.set_cons_zero, List.set_cons_succ])
 go_cut [19] (fun v19 wc => ∃ (kq : Nat) (x19_2 : Bool), v19 = .bool x19_2 ∧ Aside0 (constablekeep_Fact.j0 kq x19_2 a0_0 l0_1 a1_0 l1_1 = some r) ∧ Aside0 (kq ≤ k) ∧ Aside0 (wc.heap[gb441]? = some (.cells #[.string a0_0, (.slice A0_1 l0_1.length c0_1)] 53 (0, 0))) ∧ Aside0 (wc.heap[gb442]? = some (.cells #[.string a1_0, (.slice A1_1 l1_1.length c1_1)] 53 (0, 0))) ∧ Aside0 (Below w.heap.size w wc))
 case first =>
  have H := HC3.out
  clear HC3
  by_cases c6 : a0_0.toList = a1_0.toList
  ·rw [if_pos c6] at H
   have c6b0 : (a0_0.toList == a1_0.toList) = true := beq_iff_eq.mpr c6
   have c6b1 : (a0_0.toList != a1_0.toList) = false := bne_eq_false_iff_eq.mpr c6
   clear c6
   (first | rw [c6b0] | (simp only [i64_w, i32_w]; rw [c6b0]) | skip)
   have H' := Aside0.mk H
   clear H
   have hnb7 := NB441_442.out
   have hnc7 := NB442_441.out
   have hcz8_0 : w5.cell? ⟨gb441, 0, none⟩ = some (.string a0_0) := (blk_cell BK441.out 0).trans rfl
   have hcz8_1 : w5.cell? ⟨gb441, 1, none⟩ = some (.slice A0_1 l0_1.length c0_1) := (blk_cell BK441.out 1).trans rfl
   have hfz8_0 := blk_frozen BK441.out 0
   have hfz8_1 := blk_frozen BK441.out 1
   have hcz9_0 : w5.cell? ⟨gb442, 0, none⟩ = some (.string a1_0) := (blk_cell BK442.out 0).trans rfl
   have hcz9_1 : w5.cell? ⟨gb442, 1, none⟩ = some (.slice A1_1 l1_1.length c1_1) := (blk_cell BK442.out 1).trans rfl
   have hfz9_0 := blk_frozen BK442.out 0
   have hfz9_1 := blk_frozen BK442.out 1
   go_wp2
   repeat (go_quiet (fail); try go_wp2)
   go_meet
   case rel => exact ⟨_, (((l0_1.length : Int) != (l1_1.length : Int))), (by first | rfl | (simp; done) | (simp [*]; done)), H', ⟨by first | omega | exact Nat.le_refl _⟩, ⟨by refine bk ?_; exact BK441.out⟩, ⟨by refine bk ?_; exact BK442.out⟩, ⟨(bB2 GE441.out GE442.out)⟩⟩
  ·rw [if_neg c6] at H
   have c6b0 : (a0_0.toList == a1_0.toList) = false := beq_eq_false_iff_ne.mpr c6
   have c6b1 : (a0_0.toList != a1_0.toList) = true := bne_iff_ne.mpr c6
   (first | rw [c6b0] | (simp only [i64_w, i32_w]; rw [c6b0]) | skip)
   have H' := Aside0.mk H
   clear H
   have hnb10 := NB441_442.out
   have hnc10 := NB442_441.out
   have hcz11_0 : w5.cell? ⟨gb441, 0, none⟩ = some (.string a0_0) := (blk_cell BK441.out 0).trans rfl
   have hcz11_1 : w5.cell? ⟨gb441, 1, none⟩ = some (.slice A0_1 l0_1.length c0_1) := (blk_cell BK441.out 1).trans rfl
   have hfz11_0 := blk_frozen BK441.out 0
   have hfz11_1 := blk_frozen BK441.out 1
   have hcz12_0 : w5.cell? ⟨gb442, 0, none⟩ = some (.string a1_0) := (blk_cell BK442.out 0).trans rfl
   have hcz12_1 : w5.cell? ⟨gb442, 1, none⟩ = some (.slice A1_1 l1_1.length c1_1) := (blk_cell BK442.out 1).trans rfl
   have hfz12_0 := blk_frozen BK442.out 0
   have hfz12_1 := blk_frozen BK442.out 1
   go_wp2
   repeat (go_quiet (fail); try go_wp2)
   go_meet
   case rel => exact ⟨_, (true), (by first | rfl | (simp; done) | (simp [*]; done)), H', ⟨by first | omega | exact Nat.le_refl _⟩, ⟨by refine bk ?_; exact BK441.out⟩, ⟨by refine bk ?_; exact BK442.out⟩, ⟨(bB2 GE441.out GE442.out)⟩⟩
 case rest =>
  clear HC3
  (try clear c1); (try clear p2); (try clear c4); (try clear c6); (try clear c6b0); (try clear c6b1); (try clear c7); (try clear c10); (try clear hcz11_0); (try clear hcz11_1); (try clear hcz12_0); (try clear hcz12_1); (try clear hcz8_0); (try clear hcz8_1); (try clear hcz9_0); (try clear hcz9_1); (try clear hfz11_0); (try clear hfz11_1); (try clear hfz12_0); (try clear hfz12_1); (try clear hfz8_0); (try clear hfz8_1); (try clear hfz9_0); (try clear hfz9_1)
  obtain ⟨kq, x19_2, rfl, HA, HJ2, BK441, BK442, HB⟩ := hcut
  cases kq with
  | zero => exact absurd HA.out (by simp [constablekeep_Fact.j0])
  | succ kj2 =>
   have H := HA.out
   clear HA
   simp only [constablekeep_Fact.j0] at H
   by_cases c13 : x19_2 = true
   ·subst c13
    have H1 : (some false) = some r := by rw [if_pos rfl] at H; exact H
    clear H
    have H := H1
    clear H1
    obtain rfl := Option.some.inj H
    go_wp2
    repeat (go_quiet (fail); try go_wp2)
    go_ret
    exact ⟨eW, (bB2 GE441.out GE442.out)⟩
   ·replace c13 := Bool.eq_false_iff.mpr c13
    subst c13
    have H1 : (constablekeep_Fact.l0 kj2 0 a0_0 l0_1 a1_0 l1_1) = some r := by rw [if_neg (show ¬ (false = true) by decide)] at H; exact H
    clear H
    have H := H1
    clear H1
    have H' := Aside0.mk H
    clear H
    go_wp2
    repeat (go_quiet (fail); try go_wp2)
    go_loopg [5] kj2 (fun kq v5 w' => ∃ (x5_2 : Int), v5 = .int .i64 x5_2 ∧ Aside0 (constablekeep_Fact.l0 kq x5_2 a0_0 l0_1 a1_0 l1_1 = some r) ∧ Aside0 (kq ≤ kj2) ∧ Aside0 (w'.heap[gb441]? = some (.cells #[.string a0_0, (.slice A0_1 l0_1.length c0_1)] 53 (0, 0))) ∧ Aside0 (w'.heap[gb442]? = some (.cells #[.string a1_0, (.slice A1_1 l1_1.length c1_1)] 53 (0, 0))) ∧ Aside0 (Below w.heap.size w w'))
    case atStart => exact ⟨(0), (by first | rfl | (simp; done) | (simp [*]; done)), H', ⟨Nat.le_refl _⟩, ⟨by refine bk ?_; exact BK441.out⟩, ⟨by refine bk ?_; exact BK442.out⟩, ⟨(bB2 GE441.out GE442.out)⟩⟩
    case round =>
     clear H'
     (try clear c1); (try clear p2); (try clear c4); (try clear c6); (try clear c6b0); (try clear c6b1); (try clear c7); (try clear c10); (try clear c13); (try clear hcz11_0); (try clear hcz11_1); (try clear hcz12_0); (try clear hcz12_1); (try clear hcz8_0); (try clear hcz8_1); (try clear hcz9_0); (try clear hcz9_1); (try clear hfz11_0); (try clear hfz11_1); (try clear hfz12_0); (try clear hfz12_1); (try clear hfz8_0); (try clear hfz8_1); (try clear hfz9_0); (try clear hfz9_1); (try clear p2)
     obtain ⟨x5_2, rfl, HA, HK2, BK441, BK442, HB⟩ := hrel
     cases gk with
     | zero => exact absurd HA.out (by simp [constablekeep_Fact.l0])
     | succ k2 =>
      have H := HA.out
      clear HA
      simp only [constablekeep_Fact.l0] at H
      by_cases c14 : x5_2 < (l0_1.length : Int)
      ·rw [if_pos c14] at H
       have c14b0 : decide (x5_2 < (l0_1.length : Int)) = true := decide_eq_true c14
       clear c14
       by_cases c15 : 0 ≤ x5_2
       ·rw [if_pos c15] at H
        have c15b0 : decide (0 ≤ x5_2) = true := decide_eq_true c15
        clear c15
        by_cases c16 : x5_2 < (l1_1.length : Int)
        ·rw [if_pos c16] at H
         have c16b0 : decide (x5_2 < (l1_1.length : Int)) = true := decide_eq_true c16
         clear c16
         obtain ⟨qc17, hqc17⟩ : ∃ b_ : Bool, (!(((rd_T24 l0_1 x5_2).f0) == ((rd_T24 l1_1 x5_2).f0)) || (!(((rd_T24 l0_1 x5_2).f1) == ((rd_T24 l1_1 x5_2).f1)) || (!((((rd_T24 l0_1 x5_2).f2).toList) == (((rd_T24 l1_1 x5_2).f2).toList))))) = b_ := ⟨_, rfl⟩
         by_cases c17 : (!(((rd_T24 l0_1 x5_2).f0) == ((rd_T24 l1_1 x5_2).f0)) || (!(((rd_T24 l0_1 x5_2).f1) == ((rd_T24 l1_1 x5_2).f1)) || (!((((rd_T24 l0_1 x5_2).f2).toList) == (((rd_T24 l1_1 x5_2).f2).toList))))) = true
         ·rw [if_pos c17] at H
          have c17b0 : qc17 = true := hqc17.symm.trans c17
          clear c17
          obtain rfl := Option.some.inj H
          have hnb18 := NB441_442.out
          have hnc18 := NB442_441.out
          have hcz19_0 : wr.cell? ⟨gb441, 0, none⟩ = some (.string a0_0) := (blk_cell BK441.out 0).trans rfl
          have hcz19_1 : wr.cell? ⟨gb441, 1, none⟩ = some (.slice A0_1 l0_1.length c0_1) := (blk_cell BK441.out 1).trans rfl
          have hfz19_0 := blk_frozen BK441.out 0
          have hfz19_1 := blk_frozen BK441.out 1
          have p443 : 0 ≤ (x5_2 : Int) := of_decide_eq_true (by first | (with_reducible assumption) | assumption)
          have q443 : x5_2 < (l0_1.length : Int) := of_decide_eq_true (by first | (with_reducible assumption) | assumption)
          obtain ⟨ad443, e443, hx443_0, hx443_1, hx443_2⟩ := at_T24 HR0_1.out x5_2 p443 q443
          cases e443
          replace hx443_0 := (HB.out.cell (World.block_lt_of_cell? w _ hx443_0)).trans hx443_0
          replace hx443_1 := (HB.out.cell (World.block_lt_of_cell? w _ hx443_1)).trans hx443_1
          replace hx443_2 := (HB.out.cell (World.block_lt_of_cell? w _ hx443_2)).trans hx443_2
          replace p443 := eq_true p443
          replace q443 := eq_true q443
          have hcz20_0 : wr.cell? ⟨gb442, 0, none⟩ = some (.string a1_0) := (blk_cell BK442.out 0).trans rfl
          have hcz20_1 : wr.cell? ⟨gb442, 1, none⟩ = some (.slice A1_1 l1_1.length c1_1) := (blk_cell BK442.out 1).trans rfl
          have hfz20_0 := blk_frozen BK442.out 0
          have hfz20_1 := blk_frozen BK442.out 1
          have p444 : 0 ≤ (x5_2 : Int) := of_decide_eq_true (by first | (with_reducible assumption) | assumption)
          have q444 : x5_2 < (l1_1.length : Int) := of_decide_eq_true (by first | (with_reducible assumption) | assumption)
          obtain ⟨ad444, e444, hx444_0, hx444_1, hx444_2⟩ := at_T24 HR1_1.out x5_2 p444 q444
          cases e444
          replace hx444_0 := (HB.out.cell (World.block_lt_of_cell? w _ hx444_0)).trans hx444_0
          replace hx444_1 := (HB.out.cell (World.block_lt_of_cell? w _ hx444_1)).trans hx444_1
          replace hx444_2 := (HB.out.cell (World.block_lt_of_cell? w _ hx444_2)).trans hx444_2
          replace p444 := eq_true p444
          replace q444 := eq_true q444
          go_wp2
          repeat (go_quiet (fail); try go_wp2)
          go_ret
          exact ⟨eW, (bB2 GE441.out GE442.out)⟩
         ·rw [if_neg c17] at H
          have c17b0 : qc17 = false := hqc17.symm.trans (Bool.eq_false_iff.mpr c17)
          clear c17
          have H' := Aside0.mk H
          clear H
          have hnb21 := NB441_442.out
          have hnc21 := NB442_441.out
          have hcz22_0 : wr.cell? ⟨gb441, 0, none⟩ = some (.string a0_0) := (blk_cell BK441.out 0).trans rfl
          have hcz22_1 : wr.cell? ⟨gb441, 1, none⟩ = some (.slice A0_1 l0_1.length c0_1) := (blk_cell BK441.out 1).trans rfl
          have hfz22_0 := blk_frozen BK441.out 0
          have hfz22_1 := blk_frozen BK441.out 1
          have p443 : 0 ≤ (x5_2 : Int) := of_decide_eq_true (by first | (with_reducible assumption) | assumption)
          have q443 : x5_2 < (l0_1.length : Int) := of_decide_eq_true (by first | (with_reducible assumption) | assumption)
          obtain ⟨ad443, e443, hx443_0, hx443_1, hx443_2⟩ := at_T24 HR0_1.out x5_2 p443 q443
          cases e443
          replace hx443_0 := (HB.out.cell (World.block_lt_of_cell? w _ hx443_0)).trans hx443_0
          replace hx443_1 := (HB.out.cell (World.block_lt_of_cell? w _ hx443_1)).trans hx443_1
          replace hx443_2 := (HB.out.cell (World.block_lt_of_cell? w _ hx443_2)).trans hx443_2
          replace p443 := eq_true p443
          replace q443 := eq_true q443
          have hcz23_0 : wr.cell? ⟨gb442, 0, none⟩ = some (.string a1_0) := (blk_cell BK442.out 0).trans rfl
          have hcz23_1 : wr.cell? ⟨gb442, 1, none⟩ = some (.slice A1_1 l1_1.length c1_1) := (blk_cell BK442.out 1).trans rfl
          have hfz23_0 := blk_frozen BK442.out 0
          have hfz23_1 := blk_frozen BK442.out 1
          have p444 : 0 ≤ (x5_2 : Int) := of_decide_eq_true (by first | (with_reducible assumption) | assumption)
          have q444 : x5_2 < (l1_1.length : Int) := of_decide_eq_true (by first | (with_reducible assumption) | assumption)
          obtain ⟨ad444, e444, hx444_0, hx444_1, hx444_2⟩ := at_T24 HR1_1.out x5_2 p444 q444
          cases e444
          replace hx444_0 := (HB.out.cell (World.block_lt_of_cell? w _ hx444_0)).trans hx444_0
          replace hx444_1 := (HB.out.cell (World.block_lt_of_cell? w _ hx444_1)).trans hx444_1
          replace hx444_2 := (HB.out.cell (World.block_lt_of_cell? w _ hx444_2)).trans hx444_2
          replace p444 := eq_true p444
          replace q444 := eq_true q444
          go_wp2
          repeat (go_quiet (fail); try go_wp2)
          go_roundg k2
          case measure => have := HJ2.out; have := HK2.out; omega
          case rel => exact ⟨(wrap64 (x5_2 + 1)), (by first | rfl | (simp; done) | (simp [*]; done)), H', ⟨by have := HJ2.out; have := HK2.out; omega⟩, ⟨by refine bk ?_; exact BK441.out⟩, ⟨by refine bk ?_; exact BK442.out⟩, ⟨(bB2 GE441.out GE442.out)⟩⟩
        ·rw [if_neg c16] at H
         exact absurd H (by simp)
       ·rw [if_neg c15] at H
        exact absurd H (by simp)
      ·rw [if_neg c14] at H
       have c14b0 : decide (x5_2 < (l0_1.length : Int)) = false := decide_eq_false c14
       clear c14
       obtain rfl := Option.some.inj H
       have hnb24 := NB441_442.out
       have hnc24 := NB442_441.out
       have hcz25_0 : wr.cell? ⟨gb441, 0, none⟩ = some (.string a0_0) := (blk_cell BK441.out 0).trans rfl
       have hcz25_1 : wr.cell? ⟨gb441, 1, none⟩ = some (.slice A0_1 l0_1.length c0_1) := (blk_cell BK441.out 1).trans rfl
       have hfz25_0 := blk_frozen BK441.out 0
       have hfz25_1 := blk_frozen BK441.out 1
       go_wp2
       repeat (go_quiet (fail); try go_wp2)
       go_ret
       exact ⟨eW, (bB2 GE441.out GE442.out)⟩

end Go.Proofs.Ytghommaokdhjmaa.P
namespace Go.Proofs.Ytghommaokdhjmaa.P
open Go.RowKit Go.Proofs.YtghommaokdhjmaaW.PrintWords Go.Proofs.YtghommaokdhjmaaW.PrintLast Go.Proofs.YtghommaokdhjmaaW.PrintMore Go.Proofs.Ytghommaokdhjmaa.Gate
set_option linter.unusedVariables false
set_option linter.unusedSimpArgs false

/-! ### constablekeep_Facts: function 34 -/
def constablekeep_Facts.l0 : Nat → List (S53) → List (S53) → Int → Option (Bool)
 | 0, _, _, _ => none
 | k + 1, x0, x1, x5 => if x5 < (x0.length : Int) then (if 0 ≤ x5 then (if x5 < (x1.length : Int) then ((constablekeep_Fact.f k ((rd_T53 x0 x5).f0) ((rd_T53 x0 x5).f1) ((rd_T53 x1 x5).f0) ((rd_T53 x1 x5).f1)).bind fun t447 => (if t447 = true then (constablekeep_Facts.l0 k x0 x1 (wrap64 (x5 + 1))) else (some false))) else (none)) else (none)) else (some true)
def constablekeep_Facts.f (k : Nat) (l0 : List (S53)) (l1 : List (S53)) : Option (Bool) := if (l0.length : Int) = (l1.length : Int) then (constablekeep_Facts.l0 k l0 l1 0) else (some false)
theorem constablekeep_Facts.mono_l : ∀ k, (∀ y0 y1 y2, LeO (constablekeep_Facts.l0 k y0 y1 y2) (constablekeep_Facts.l0 (k + 1) y0 y1 y2))
 | 0 => fun _ _ _ r h => by simp [constablekeep_Facts.l0] at h
 | k + 1 => by
  have ih0 := constablekeep_Facts.mono_l k
  ·intro y0 y1 y2
   unfold constablekeep_Facts.l0
   repeat' first
   | (with_reducible exact ih0 _ _ _)
   | (with_reducible exact constablekeep_Fact.mono _ _ _ _ _)
   | (with_reducible exact LeO.refl _)
   | (with_reducible exact LeO.none _)
   | (with_reducible refine LeO.ite ?_ ?_)
   | (with_reducible refine LeO.bind ?_ (fun _ => ?_))
theorem constablekeep_Facts.mono : ∀ a0 a1 k, LeO (constablekeep_Facts.f k a0 a1) (constablekeep_Facts.f (k + 1) a0 a1) := by
 intro a0 a1 k
 have ih0 := constablekeep_Facts.mono_l k
 unfold constablekeep_Facts.f
 repeat' first
   | (with_reducible exact ih0 _ _ _)
   | (with_reducible exact constablekeep_Fact.mono _ _ _ _ _)
   | (with_reducible exact LeO.refl _)
   | (with_reducible exact LeO.none _)
   | (with_reducible refine LeO.ite ?_ ?_)
   | (with_reducible refine LeO.bind ?_ (fun _ => ?_))
def constablekeep_Facts.T6 : Bool × List (List Nat × List Nat) := (true, [([], []), ([], []), ([0, 1], [0, 1]), ([2], [2]), ([], []), ([], []), ([4, 5], [4, 5]), ([6], [6]), ([3, 7], [3, 7]), ([8], [8])])
def constablekeep_Facts.B6 : List Nat := [0, 0, 3, 7, 0, 0, 48, 112, 255, 511]
theorem constablekeep_Facts.tab6 : rtab .any (opsOf Try.f34 6) = constablekeep_Facts.T6 := by kernel_rfl
theorem constablekeep_Facts.bits6 : waitsOk constablekeep_Facts.T6.2 constablekeep_Facts.B6 = true := by kernel_rfl
set_option maxHeartbeats 8000000 in
set_option maxRecDepth 100000 in
theorem constablekeep_Facts.calls (k : Nat) (A0 : Option Addr) (c0 : Nat) (l0 : List (S53)) (A1 : Option Addr) (c1 : Nat) (l1 : List (S53)) (r : Bool) (w : World) (hr0 : Kd.C k53 w A0 l0.length l0) (hc0 : l0.length ≤ c0) (hr1 : Kd.C k53 w A1 l1.length l1) (hc1 : l1.length ≤ c1) (h : constablekeep_Facts.f k l0 l1 = some r) :
  Calls Try.prog 34 #[.slice A0 l0.length c0, .slice A1 l1.length c1] w fun e w' => e = .returned (.bool r) ∧ Below w.heap.size w w' := by
 have hu53 := Try.underlying53
 have HR0 := Aside0.mk hr0
 have HC0 := Aside0.mk hc0
 clear hr0 hc0
 have HR1 := Aside0.mk hr1
 have HC1 := Aside0.mk hc1
 clear hr1 hc1
 have HB := Aside0.mk (Below.refl w.heap.size w)
 have H : (if (l0.length : Int) = (l1.length : Int) then (constablekeep_Facts.l0 k l0 l1 0) else (some false)) = some r := h
 clear h
 by_cases c3 : (l0.length : Int) = (l1.length : Int)
 ·rw [if_pos c3] at H
  have c3b0 : ((l0.length : Int) == (l1.length : Int)) = true := beq_iff_eq.mpr c3
  have c3b1 : ((l0.length : Int) != (l1.length : Int)) = false := bne_eq_false_iff_eq.mpr c3
  have c3b2 : (l0.length == l1.length) = true := by first | simpa using c3 | (simp at c3 ⊢; omega)
  clear c3
  have H' := Aside0.mk H
  clear H
  go_enter Try.func34, Try.ntmps34
  go_wp2
  go_loopg [5] k (fun kq v5 w' => ∃ (x5_1 : Int), v5 = .int .i64 x5_1 ∧ Aside0 (constablekeep_Facts.l0 kq l0 l1 x5_1 = some r) ∧ Aside0 (kq ≤ k) ∧ Aside0 (Below w.heap.size w w'))
  case atStart => exact ⟨(0), (by first | rfl | (simp; done) | (simp [*]; done)), H', ⟨Nat.le_refl _⟩, ⟨bB0⟩⟩
  case round =>
   clear H'
   (try clear c1); (try clear p2); (try clear c3); (try clear c3b0); (try clear c3b1); (try clear c3b2)
   obtain ⟨x5_1, rfl, HA, HK1, HB⟩ := hrel
   cases gk with
   | zero => exact absurd HA.out (by simp [constablekeep_Facts.l0])
   | succ k1 =>
    have H := HA.out
    clear HA
    simp only [constablekeep_Facts.l0] at H
    by_cases c4 : x5_1 < (l0.length : Int)
    ·rw [if_pos c4] at H
     have c4b0 : decide (x5_1 < (l0.length : Int)) = true := decide_eq_true c4
     clear c4
     by_cases c5 : 0 ≤ x5_1
     ·rw [if_pos c5] at H
      have c5b0 : decide (0 ≤ x5_1) = true := decide_eq_true c5
      clear c5
      by_cases c6 : x5_1 < (l1.length : Int)
      ·rw [if_pos c6] at H
       have c6b0 : decide (x5_1 < (l1.length : Int)) = true := decide_eq_true c6
       clear c6
       replace H := Option.bind_eq_some_iff.mp H
       obtain ⟨t447, A70, H⟩ := H
       replace H : (if t447 = true then (constablekeep_Facts.l0 k1 l0 l1 (wrap64 (x5_1 + 1))) else (some false)) = some r := H
       have A7 := Aside0.mk A70
       clear A70
       by_cases c8 : t447 = true
       ·subst c8
        have H1 : (constablekeep_Facts.l0 k1 l0 l1 (wrap64 (x5_1 + 1))) = some r := by rw [if_pos rfl] at H; exact H
        clear H
        have H := H1
        clear H1
        have H' := Aside0.mk H
        clear H
        try go_wp2
        have n0_ := Aside0.mk (below_drew1 HB.out)
        clear HB
        have HB := n0_
        clear n0_
        have p445 : 0 ≤ (x5_1 : Int) := of_decide_eq_true (by first | (with_reducible assumption) | assumption)
        have q445 : x5_1 < (l0.length : Int) := of_decide_eq_true (by first | (with_reducible assumption) | assumption)
        obtain ⟨ad445, A445_1, c445_1, e445, hx445_0, hx445_1, hl445_1, hi445_1⟩ := at_T53 HR0.out x5_1 p445 q445
        have hw445_1 := hx445_1
        have hw445_0 := hx445_0
        cases e445
        have HZ445_1 := Aside0.mk hx445_1
        replace hx445_0 := (HB.out.cell (World.block_lt_of_cell? w _ hx445_0)).trans hx445_0
        replace hx445_1 := (HB.out.cell (World.block_lt_of_cell? w _ hx445_1)).trans hx445_1
        have HR445_1 := Aside0.mk hi445_1
        have HC445_1 := Aside0.mk hl445_1
        clear hi445_1 hl445_1
        replace p445 := eq_true p445
        replace q445 := eq_true q445
        have p446 : 0 ≤ (x5_1 : Int) := of_decide_eq_true (by first | (with_reducible assumption) | assumption)
        have q446 : x5_1 < (l1.length : Int) := of_decide_eq_true (by first | (with_reducible assumption) | assumption)
        obtain ⟨ad446, A446_1, c446_1, e446, hx446_0, hx446_1, hl446_1, hi446_1⟩ := at_T53 HR1.out x5_1 p446 q446
        have hw446_1 := hx446_1
        have hw446_0 := hx446_0
        cases e446
        have HZ446_1 := Aside0.mk hx446_1
        replace hx446_0 := (HB.out.cell (World.block_lt_of_cell? w _ hx446_0)).trans hx446_0
        replace hx446_1 := (HB.out.cell (World.block_lt_of_cell? w _ hx446_1)).trans hx446_1
        have HR446_1 := Aside0.mk hi446_1
        have HC446_1 := Aside0.mk hl446_1
        clear hi446_1 hl446_1
        replace p446 := eq_true p446
        replace q446 := eq_true q446
        refine start_ (n := 10) (S := fun w' => w'.cell? (ad445.add ((x5_1).toNat * 2)) = some (.string ((rd_T53 l0 x5_1).f0)) ∧ w'.cell? ⟨(ad445.add ((x5_1).toNat * 2)).block, (ad445.add ((x5_1).toNat * 2)).off + 1, none⟩ = some (.slice A445_1 ((rd_T53 l0 x5_1).f1).length c445_1) ∧ w'.cell? (ad446.add ((x5_1).toNat * 2)) = some (.string ((rd_T53 l1 x5_1).f0)) ∧ w'.cell? ⟨(ad446.add ((x5_1).toNat * 2)).block, (ad446.add ((x5_1).toNat * 2)).off + 1, none⟩ = some (.slice A446_1 ((rd_T53 l1 x5_1).f1).length c446_1)) (ds := []) #[false, false, false, false, false, false, false, false, false, false] (by kernel_rfl) rfl rfl ⟨((HB.out.cell (World.block_lt_of_cell? w _ hw445_0)).trans hw445_0), ((HB.out.cell (World.block_lt_of_cell? w _ hw445_1)).trans hw445_1), ((HB.out.cell (World.block_lt_of_cell? w _ hw446_0)).trans hw446_0), ((HB.out.cell (World.block_lt_of_cell? w _ hw446_1)).trans hw446_1)⟩ (fun hHeld => ?_); refine with_tabW constablekeep_Facts.tab6 constablekeep_Facts.bits6 (fun HT_ HW_ => ?_)
        generalize wr.drew = w9 at HB HR445_1 HR446_1 hx445_0 hx445_1 hx446_0 hx446_1 hHeld ⊢
        refine pQ (i := 0) (N := some 17) (bb 10 1) ?_
        refine pQ (i := 1) (N := some 18) (bb 10 3) ?_
        refine pQ (i := 2) (N := some 19) (bb 10 7) ?_
        refine pQ (i := 4) (N := some 21) (bb 10 23) ?_
        refine pQ (i := 5) (N := some 22) (bb 10 55) ?_
        refine pQ (i := 6) (N := some 23) (bb 10 119) ?_
        refine tQ4 (i := 3) (N := some 20) (bb 10 127) hHeld ?_
        refine tQ4 (i := 7) (N := some 24) (bb 10 255) hHeld ?_
        refine one_ (i := 8) (N := some 25) (bb 10 511) rfl rfl (one_of HT_.out (by kernel_rfl)) (by decide) (fun K hK => ?_)
        refine goes_ Try.func40 (by kernel_rfl) rfl #[.agg #[.string ((rd_T53 l0 x5_1).f0), .slice A445_1 ((rd_T53 l0 x5_1).f1).length c445_1], .agg #[.string ((rd_T53 l1 x5_1).f0), .slice A446_1 ((rd_T53 l1 x5_1).f1).length c446_1]] (by rfl) rfl rfl aG ?_
        with_reducible refine (constablekeep_Fact.calls k1 ((rd_T53 l0 x5_1).f0) _ _ ((rd_T53 l0 x5_1).f1) ((rd_T53 l1 x5_1).f0) _ _ ((rd_T53 l1 x5_1).f1) true _ ?side1 ?side2 ?side3 ?side4 A7.out).mono ?_
        (case side1 => exact sC (Kd.C_below HR445_1.out HB.out))
        (case side2 => exact HC445_1.out)
        (case side3 => exact sC (Kd.C_below HR446_1.out HB.out))
        (case side4 => exact HC446_1.out)
        rintro e w10 ⟨rfl, hb⟩
        refine ⟨_, rfl, ?_⟩
        have n0_ := Aside0.mk (below_step bB0 hb)
        clear HB
        have HB := n0_
        clear n0_
        (try clear hb)
        (try clear hb2)
        (try clear hk)
        (try clear hi)
        refine hK.out _ _ ⟨((HB.out.cell (World.block_lt_of_cell? w _ hw445_0)).trans hw445_0), ((HB.out.cell (World.block_lt_of_cell? w _ hw445_1)).trans hw445_1), ((HB.out.cell (World.block_lt_of_cell? w _ hw446_0)).trans hw446_0), ((HB.out.cell (World.block_lt_of_cell? w _ hw446_1)).trans hw446_1)⟩ (fun hHeld => ?_)
        clear hK K
        refine norm_ (a' := ?_) ?_ ?_
        rotate_left
        ·show Act.put _ (some 25) _ = _
         simp only [Act.put, List.setIfInBounds_toArray, List.set_cons_zero, List.set_cons_succ, i64_w, i32_w]
         rfl
        refine pQ (i := 9) (N := some 26) (bb 10 1023) ?_
        refine done_ (done_of HT_.out (by kernel_rfl)) ?_
        try go_wp2
        go_roundg k1
        case measure => have := HK1.out; omega
        case rel => exact ⟨(wrap64 (x5_1 + 1)), (by first | rfl | (simp; done) | (simp [*]; done)), H', ⟨by have := HK1.out; omega⟩, ⟨bB0⟩⟩
       ·replace c8 := Bool.eq_false_iff.mpr c8
        subst c8
        have H1 : (some false) = some r := by rw [if_neg (show ¬ (false = true) by decide)] at H; exact H
        clear H
        have H := H1
        clear H1
        obtain rfl := Option.some.inj H
        try go_wp2
        have n0_ := Aside0.mk (below_drew1 HB.out)
        clear HB
        have HB := n0_
        clear n0_
        have p445 : 0 ≤ (x5_1 : Int) := of_decide_eq_true (by first | (with_reducible assumption) | assumption)
        have q445 : x5_1 < (l0.length : Int) := of_decide_eq_true (by first | (with_reducible assumption) | assumption)
        obtain ⟨ad445, A445_1, c445_1, e445, hx445_0, hx445_1, hl445_1, hi445_1⟩ := at_T53 HR0.out x5_1 p445 q445
        have hw445_1 := hx445_1
        have hw445_0 := hx445_0
        cases e445
        have HZ445_1 := Aside0.mk hx445_1
        replace hx445_0 := (HB.out.cell (World.block_lt_of_cell? w _ hx445_0)).trans hx445_0
        replace hx445_1 := (HB.out.cell (World.block_lt_of_cell? w _ hx445_1)).trans hx445_1
        have HR445_1 := Aside0.mk hi445_1
        have HC445_1 := Aside0.mk hl445_1
        clear hi445_1 hl445_1
        replace p445 := eq_true p445
        replace q445 := eq_true q445
        have p446 : 0 ≤ (x5_1 : Int) := of_decide_eq_true (by first | (with_reducible assumption) | assumption)
        have q446 : x5_1 < (l1.length : Int) := of_decide_eq_true (by first | (with_reducible assumption) | assumption)
        obtain ⟨ad446, A446_1, c446_1, e446, hx446_0, hx446_1, hl446_1, hi446_1⟩ := at_T53 HR1.out x5_1 p446 q446
        have hw446_1 := hx446_1
        have hw446_0 := hx446_0
        cases e446
        have HZ446_1 := Aside0.mk hx446_1
        replace hx446_0 := (HB.out.cell (World.block_lt_of_cell? w _ hx446_0)).trans hx446_0
        replace hx446_1 := (HB.out.cell (World.block_lt_of_cell? w _ hx446_1)).trans hx446_1
        have HR446_1 := Aside0.mk hi446_1
        have HC446_1 := Aside0.mk hl446_1
        clear hi446_1 hl446_1
        replace p446 := eq_true p446
        replace q446 := eq_true q446
        refine start_ (n := 10) (S := fun w' => w'.cell? (ad445.add ((x5_1).toNat * 2)) = some (.string ((rd_T53 l0 x5_1).f0)) ∧ w'.cell? ⟨(ad445.add ((x5_1).toNat * 2)).block, (ad445.add ((x5_1).toNat * 2)).off + 1, none⟩ = some (.slice A445_1 ((rd_T53 l0 x5_1).f1).length c445_1) ∧ w'.cell? (ad446.add ((x5_1).toNat * 2)) = some (.string ((rd_T53 l1 x5_1).f0)) ∧ w'.cell? ⟨(ad446.add ((x5_1).toNat * 2)).block, (ad446.add ((x5_1).toNat * 2)).off + 1, none⟩ = some (.slice A446_1 ((rd_T53 l1 x5_1).f1).length c446_1)) (ds := []) #[false, false, false, false, false, false, false, false, false, false] (by kernel_rfl) rfl rfl ⟨((HB.out.cell (World.block_lt_of_cell? w _ hw445_0)).trans hw445_0), ((HB.out.cell (World.block_lt_of_cell? w _ hw445_1)).trans hw445_1), ((HB.out.cell (World.block_lt_of_cell? w _ hw446_0)).trans hw446_0), ((HB.out.cell (World.block_lt_of_cell? w _ hw446_1)).trans hw446_1)⟩ (fun hHeld => ?_); refine with_tabW constablekeep_Facts.tab6 constablekeep_Facts.bits6 (fun HT_ HW_ => ?_)
        generalize wr.drew = w11 at HB HR445_1 HR446_1 hx445_0 hx445_1 hx446_0 hx446_1 hHeld ⊢
        refine pQ (i := 0) (N := some 17) (bb 10 1) ?_
        refine pQ (i := 1) (N := some 18) (bb 10 3) ?_
        refine pQ (i := 2) (N := some 19) (bb 10 7) ?_
        refine pQ (i := 4) (N := some 21) (bb 10 23) ?_
        refine pQ (i := 5) (N := some 22) (bb 10 55) ?_
        refine pQ (i := 6) (N := some 23) (bb 10 119) ?_
        refine tQ4 (i := 3) (N := some 20) (bb 10 127) hHeld ?_
        refine tQ4 (i := 7) (N := some 24) (bb 10 255) hHeld ?_
        refine one_ (i := 8) (N := some 25) (bb 10 511) rfl rfl (one_of HT_.out (by kernel_rfl)) (by decide) (fun K hK => ?_)
        refine goes_ Try.func40 (by kernel_rfl) rfl #[.agg #[.string ((rd_T53 l0 x5_1).f0), .slice A445_1 ((rd_T53 l0 x5_1).f1).length c445_1], .agg #[.string ((rd_T53 l1 x5_1).f0), .slice A446_1 ((rd_T53 l1 x5_1).f1).length c446_1]] (by rfl) rfl rfl aG ?_
        with_reducible refine (constablekeep_Fact.calls k1 ((rd_T53 l0 x5_1).f0) _ _ ((rd_T53 l0 x5_1).f1) ((rd_T53 l1 x5_1).f0) _ _ ((rd_T53 l1 x5_1).f1) false _ ?side1 ?side2 ?side3 ?side4 A7.out).mono ?_
        (case side1 => exact sC (Kd.C_below HR445_1.out HB.out))
        (case side2 => exact HC445_1.out)
        (case side3 => exact sC (Kd.C_below HR446_1.out HB.out))
        (case side4 => exact HC446_1.out)
        rintro e w12 ⟨rfl, hb⟩
        refine ⟨_, rfl, ?_⟩
        have n0_ := Aside0.mk (below_step bB0 hb)
        clear HB
        have HB := n0_
        clear n0_
        (try clear hb)
        (try clear hb2)
        (try clear hk)
        (try clear hi)
        refine hK.out _ _ ⟨((HB.out.cell (World.block_lt_of_cell? w _ hw445_0)).trans hw445_0), ((HB.out.cell (World.block_lt_of_cell? w _ hw445_1)).trans hw445_1), ((HB.out.cell (World.block_lt_of_cell? w _ hw446_0)).trans hw446_0), ((HB.out.cell (World.block_lt_of_cell? w _ hw446_1)).trans hw446_1)⟩ (fun hHeld => ?_)
        clear hK K
        refine norm_ (a' := ?_) ?_ ?_
        rotate_left
        ·show Act.put _ (some 25) _ = _
         simp only [Act.put, List.setIfInBounds_toArray, List.set_cons_zero, List.set_cons_succ, i64_w, i32_w]
         rfl
        refine pQ (i := 9) (N := some 26) (bb 10 1023) ?_
        refine done_ (done_of HT_.out (by kernel_rfl)) ?_
        try go_wp2
        go_ret
        exact ⟨eW, bB0⟩
      ·rw [if_neg c6] at H
       exact absurd H (by simp)
     ·rw [if_neg c5] at H
      exact absurd H (by simp)
    ·rw [if_neg c4] at H
     have c4b0 : decide (x5_1 < (l0.length : Int)) = false := decide_eq_false c4
     clear c4
     obtain rfl := Option.some.inj H
     go_wp2
     go_ret
     exact ⟨eW, bB0⟩
 ·rw [if_neg c3] at H
  have c3b0 : ((l0.length : Int) == (l1.length : Int)) = false := beq_eq_false_iff_ne.mpr c3
  have c3b1 : ((l0.length : Int) != (l1.length : Int)) = true := bne_iff_ne.mpr c3
  have c3b2 : (l0.length == l1.length) = false := by first | simpa using c3 | (simp at c3 ⊢; omega)
  obtain rfl := Option.some.inj H
  go_enter Try.func34, Try.ntmps34
  go_wp2
  go_ret
  exact ⟨eW, bB0⟩

end Go.Proofs.Ytghommaokdhjmaa.P
namespace Go.Proofs.Ytghommaokdhjmaa.P
open Go.RowKit Go.Proofs.YtghommaokdhjmaaW.PrintWords Go.Proofs.YtghommaokdhjmaaW.PrintLast Go.Proofs.YtghommaokdhjmaaW.PrintMore Go.Proofs.Ytghommaokdhjmaa.Gate
set_option linter.unusedVariables false
set_option linter.unusedSimpArgs false

/-! ### constablelaw04_SetsSame: function 7 -/
mutual
def constablelaw04_SetsSame.l0 : Nat → List (S53) → List (S53) → List (S53) → Int → List (S53) → Int → Option (Bool)
 | 0, _, _, _, _, _, _ => none
 | k + 1, x0, x5, x7, x8, x9, x10 => if x10 ≥ 0 then (if 0 ≤ x10 then (if x10 < (x0.length : Int) then ((sets_Put.f x9 ((rd_T53 x0 x10).f0) ((rd_T53 x0 x10).f1)).bind fun bt439 => (if bt439.2 = 0 then ((sets_Has.f x5 ((rd_T53 x0 x10).f0) ((rd_T53 x0 x10).f1)).bind fun t444 => (if t444 = true then (constablelaw04_SetsSame.l0 k x0 x5 x7 x8 bt439.1 (wrap64 (x10 - 1))) else (none))) else (none))) else (none)) else (none)) else (constablelaw04_SetsSame.l1 k x0 x5 x7 x8 x9 0)
def constablelaw04_SetsSame.l1 : Nat → List (S53) → List (S53) → List (S53) → Int → List (S53) → Int → Option (Bool)
 | 0, _, _, _, _, _, _ => none
 | k + 1, x0, x5, x7, x8, x9, x13 => if x13 < (x5.length : Int) then (if 0 ≤ x13 then ((sets_Has.f x0 ((rd_T53 x5 x13).f0) ((rd_T53 x5 x13).f1)).bind fun t446 => (if t446 = true then (constablelaw04_SetsSame.l1 k x0 x5 x7 x8 x9 (wrap64 (x13 + 1))) else (none))) else (none)) else (if x8 = 0 then ((constablekeep_Facts.f k x5 x7).bind fun t447 => (if t447 = true then ((constablekeep_Facts.f k x5 x9).bind fun t448 => (if t448 = true then ((sets_Check.f k x5).bind fun t449 => (if t449 = 0 then ((constablelaw04_wakes.f).bind fun t450 => (some t450)) else (none))) else (none))) else (none))) else (none))
end
def constablelaw04_SetsSame.f (k : Nat) (l0 : List (S53)) (a1 : Int) : Option (Bool) := (constablelaw03_Many.f k l0).bind fun t410 => (if t410 = true then (some true) else (if (l0.length : Int) = 0 then (some true) else ((sets_Of.f l0).bind fun bt411 => (if bt411.2 = 0 then (if (IntKind.u64.wrap ((l0.length : Int))) = 0 then (none) else ((some (([] : List (S53)) : List (S53))).bind fun y415 => (if 0 ≤ (wrap64 (Int.tmod (IntKind.u64.wrap (a1)) (IntKind.u64.wrap ((l0.length : Int))))) then (if (wrap64 (Int.tmod (IntKind.u64.wrap (a1)) (IntKind.u64.wrap ((l0.length : Int))))) ≤ (l0.length : Int) then ((some (l0.drop ((wrap64 (Int.tmod (IntKind.u64.wrap (a1)) (IntKind.u64.wrap ((l0.length : Int))))) : Int).toNat : List (S53))).bind fun y418 => (if y415.length + y418.length < 3518437208883 then ((some (y415 ++ y418 : List (S53))).bind fun y423 => ((some (l0.take ((wrap64 (Int.tmod (IntKind.u64.wrap (a1)) (IntKind.u64.wrap ((l0.length : Int))))) : Int).toNat : List (S53))).bind fun y426 => (if y423.length + y426.length < 3518437208883 then ((sets_Of.f (y423 ++ y426)).bind fun bt434 => (constablelaw04_SetsSame.l0 k l0 bt411.1 bt434.1 bt434.2 ([] : List (S53)) (wrap64 ((l0.length : Int) - 1)))) else (none)))) else (none))) else (none)) else (none)))) else (if bt411.2 = 1 then (if (bt411.1.length : Int) = 0 then ((constablelaw04_wakes.f).bind fun t451 => (some t451)) else (none)) else (none))))))
def constablelaw04_SetsSame.T7 : Bool × List (List Nat × List Nat) := (true, [([], []), ([], []), ([], []), ([1, 2], [1, 2]), ([0, 3], [0, 3]), ([], []), ([], []), ([5, 6], [5, 6]), ([4, 7, 4], [4, 7]), ([8, 8], [8]), ([9], [9]), ([10], [10]), ([10], [10]), ([11, 9, 0, 1, 2, 3, 4, 5, 6, 7, 8, 9, 10, 11], [11]), ([12, 13, 0, 1, 2, 3, 4, 5, 6, 7, 8, 9, 10, 11, 12, 13], [12])])
def constablelaw04_SetsSame.B7 : List Nat := [0, 0, 0, 6, 15, 0, 0, 96, 255, 511, 1023, 2047, 2047, 4095, 16383]
theorem constablelaw04_SetsSame.tab7 : rtab .any (opsOf Try.f7 7) = constablelaw04_SetsSame.T7 := by kernel_rfl
theorem constablelaw04_SetsSame.bits7 : waitsOk constablelaw04_SetsSame.T7.2 constablelaw04_SetsSame.B7 = true := by kernel_rfl
set_option maxHeartbeats 8000000 in
set_option maxRecDepth 100000 in
theorem constablelaw04_SetsSame.calls (k : Nat) (P0_ : Nat → Prop) (A0 : Option Addr) (c0 : Nat) (l0 : List (S53)) (a1 : Int) (r : Bool) (w : World) (hs0 : Kd.V k53 53 w w.heap.size (fun k_ => P0_ k_) (.slice A0 l0.length c0) l0) (h : constablelaw04_SetsSame.f k l0 a1 = some r) :
  Calls Try.prog 7 #[.slice A0 l0.length c0, .int .i64 a1] w fun e w' => e = .returned (.bool r) ∧ Below w.heap.size w w' := by
 have hu53 := Try.underlying53
 have HO0 := Aside0.mk (show Kd.V k53 53 w w.heap.size (fun k_ => (P0_ k_ ∨ w.heap.size ≤ k_)) (.slice A0 l0.length c0) l0 from Kd.V_mono hs0 (fun k_ hk => .inl hk))
 have HB := Aside0.mk (Below.refl w.heap.size w)
 have H : ((constablelaw03_Many.f k l0).bind fun t410 => (if t410 = true then (some true) else (if (l0.length : Int) = 0 then (some true) else ((sets_Of.f l0).bind fun bt411 => (if bt411.2 = 0 then (if (IntKind.u64.wrap ((l0.length : Int))) = 0 then (none) else ((some (([] : List (S53)) : List (S53))).bind fun y415 => (if 0 ≤ (wrap64 (Int.tmod (IntKind.u64.wrap (a1)) (IntKind.u64.wrap ((l0.length : Int))))) then (if (wrap64 (Int.tmod (IntKind.u64.wrap (a1)) (IntKind.u64.wrap ((l0.length : Int))))) ≤ (l0.length : Int) then ((some (l0.drop ((wrap64 (Int.tmod (IntKind.u64.wrap (a1)) (IntKind.u64.wrap ((l0.length : Int))))) : Int).toNat : List (S53))).bind fun y418 => (if y415.length + y418.length < 3518437208883 then ((some (y415 ++ y418 : List (S53))).bind fun y423 => ((some (l0.take ((wrap64 (Int.tmod (IntKind.u64.wrap (a1)) (IntKind.u64.wrap ((l0.length : Int))))) : Int).toNat : List (S53))).bind fun y426 => (if y423.length + y426.length < 3518437208883 then ((sets_Of.f (y423 ++ y426)).bind fun bt434 => (constablelaw04_SetsSame.l0 k l0 bt411.1 bt434.1 bt434.2 ([] : List (S53)) (wrap64 ((l0.length : Int) - 1)))) else (none)))) else (none))) else (none)) else (none)))) else (if bt411.2 = 1 then (if (bt411.1.length : Int) = 0 then ((constablelaw04_wakes.f).bind fun t451 => (some t451)) else (none)) else (none))))))) = some r := h
 clear h
 replace H := Option.bind_eq_some_iff.mp H
 obtain ⟨t410, A30, H⟩ := H
 replace H : (if t410 = true then (some true) else (if (l0.length : Int) = 0 then (some true) else ((sets_Of.f l0).bind fun bt411 => (if bt411.2 = 0 then (if (IntKind.u64.wrap ((l0.length : Int))) = 0 then (none) else ((some (([] : List (S53)) : List (S53))).bind fun y415 => (if 0 ≤ (wrap64 (Int.tmod (IntKind.u64.wrap (a1)) (IntKind.u64.wrap ((l0.length : Int))))) then (if (wrap64 (Int.tmod (IntKind.u64.wrap (a1)) (IntKind.u64.wrap ((l0.length : Int))))) ≤ (l0.length : Int) then ((some (l0.drop ((wrap64 (Int.tmod (IntKind.u64.wrap (a1)) (IntKind.u64.wrap ((l0.length : Int))))) : Int).toNat : List (S53))).bind fun y418 => (if y415.length + y418.length < 3518437208883 then ((some (y415 ++ y418 : List (S53))).bind fun y423 => ((some (l0.take ((wrap64 (Int.tmod (IntKind.u64.wrap (a1)) (IntKind.u64.wrap ((l0.length : Int))))) : Int).toNat : List (S53))).bind fun y426 => (if y423.length + y426.length < 3518437208883 then ((sets_Of.f (y423 ++ y426)).bind fun bt434 => (constablelaw04_SetsSame.l0 k l0 bt411.1 bt434.1 bt434.2 ([] : List (S53)) (wrap64 ((l0.length : Int) - 1)))) else (none)))) else (none))) else (none)) else (none)))) else (if bt411.2 = 1 then (if (bt411.1.length : Int) = 0 then ((constablelaw04_wakes.f).bind fun t451 => (some t451)) else (none)) else (none)))))) = some r := H
 have A3 := Aside0.mk A30
 clear A30
 by_cases c4 : t410 = true
 ·subst c4
  have H1 : (some true) = some r := by rw [if_pos rfl] at H; exact H
  clear H
  have H := H1
  clear H1
  obtain rfl := Option.some.inj H
  go_enter Try.func7, Try.ntmps7
  go_wp2_with (first | ((with_reducible refine gate_callee (f := 29) rfl ?_); refine goesL_ (some 15) rfl rfl Try.func29 (by kernel_rfl) rfl #[.slice A0 l0.length c0] rfl aG ?_; (with_reducible refine (constablelaw03_Many.calls k _ _ l0 true _ ?side1 ?side2 A3.out).mono ?_); (case side1 => exact sC (Kd.V_reads' HO0.out).2.2); (case side2 => exact (Kd.V_reads' HO0.out).2.1); rintro e w5 ⟨rfl, hb⟩; refine ⟨_, rfl, ?_⟩; have n0_ := Aside0.mk (Kd.V_below (by (with_reducible repeat (first | apply Kd.V_alloc | apply Kd.V_drewN | apply Kd.V_drew)); exact HO0.out) hb); have n1_ := Aside0.mk (below_step bB0 hb); clear HO0; clear HB; have HO0 := n0_; have HB := n1_; clear n0_ n1_; (try clear hb); (try clear hb2); (try clear hk); (try clear hi)))
  go_ret
  exact ⟨eW, bB0⟩
 ·replace c4 := Bool.eq_false_iff.mpr c4
  subst c4
  have H1 : (if (l0.length : Int) = 0 then (some true) else ((sets_Of.f l0).bind fun bt411 => (if bt411.2 = 0 then (if (IntKind.u64.wrap ((l0.length : Int))) = 0 then (none) else ((some (([] : List (S53)) : List (S53))).bind fun y415 => (if 0 ≤ (wrap64 (Int.tmod (IntKind.u64.wrap (a1)) (IntKind.u64.wrap ((l0.length : Int))))) then (if (wrap64 (Int.tmod (IntKind.u64.wrap (a1)) (IntKind.u64.wrap ((l0.length : Int))))) ≤ (l0.length : Int) then ((some (l0.drop ((wrap64 (Int.tmod (IntKind.u64.wrap (a1)) (IntKind.u64.wrap ((l0.length : Int))))) : Int).toNat : List (S53))).bind fun y418 => (if y415.length + y418.length < 3518437208883 then ((some (y415 ++ y418 : List (S53))).bind fun y423 => ((some (l0.take ((wrap64 (Int.tmod (IntKind.u64.wrap (a1)) (IntKind.u64.wrap ((l0.length : Int))))) : Int).toNat : List (S53))).bind fun y426 => (if y423.length + y426.length < 3518437208883 then ((sets_Of.f (y423 ++ y426)).bind fun bt434 => (constablelaw04_SetsSame.l0 k l0 bt411.1 bt434.1 bt434.2 ([] : List (S53)) (wrap64 ((l0.length : Int) - 1)))) else (none)))) else (none))) else (none)) else (none)))) else (if bt411.2 = 1 then (if (bt411.1.length : Int) = 0 then ((constablelaw04_wakes.f).bind fun t451 => (some t451)) else (none)) else (none))))) = some r := by rw [if_neg (show ¬ (false = true) by decide)] at H; exact H
  clear H
  have H := H1
  clear H1
  by_cases c6 : (l0.length : Int) = 0
  ·rw [if_pos c6] at H
   have c6b0 : ((l0.length : Int) == 0) = true := beq_iff_eq.mpr c6
   have c6b1 : ((l0.length : Int) != 0) = false := bne_eq_false_iff_eq.mpr c6
   clear c6
   obtain rfl := Option.some.inj H
   go_enter Try.func7, Try.ntmps7
   go_wp2_with (first | ((with_reducible refine gate_callee (f := 29) rfl ?_); refine goesL_ (some 15) rfl rfl Try.func29 (by kernel_rfl) rfl #[.slice A0 l0.length c0] rfl aG ?_; (with_reducible refine (constablelaw03_Many.calls k _ _ l0 false _ ?side1 ?side2 A3.out).mono ?_); (case side1 => exact sC (Kd.V_reads' HO0.out).2.2); (case side2 => exact (Kd.V_reads' HO0.out).2.1); rintro e w7 ⟨rfl, hb⟩; refine ⟨_, rfl, ?_⟩; have n0_ := Aside0.mk (Kd.V_below (by (with_reducible repeat (first | apply Kd.V_alloc | apply Kd.V_drewN | apply Kd.V_drew)); exact HO0.out) hb); have n1_ := Aside0.mk (below_step bB0 hb); clear HO0; clear HB; have HO0 := n0_; have HB := n1_; clear n0_ n1_; (try clear hb); (try clear hb2); (try clear hk); (try clear hi)))
   go_ret
   exact ⟨eW, bB0⟩
  ·rw [if_neg c6] at H
   have c6b0 : ((l0.length : Int) == 0) = false := beq_eq_false_iff_ne.mpr c6
   have c6b1 : ((l0.length : Int) != 0) = true := bne_iff_ne.mpr c6
   have c6b2 : ¬ (l0 = []) := fun h_ => c6 (by rw [h_]; rfl)
   replace H := Option.bind_eq_some_iff.mp H
   obtain ⟨⟨t411, t412⟩, A80, H⟩ := H
   replace H : (if t412 = 0 then (if (IntKind.u64.wrap ((l0.length : Int))) = 0 then (none) else ((some (([] : List (S53)) : List (S53))).bind fun y415 => (if 0 ≤ (wrap64 (Int.tmod (IntKind.u64.wrap (a1)) (IntKind.u64.wrap ((l0.length : Int))))) then (if (wrap64 (Int.tmod (IntKind.u64.wrap (a1)) (IntKind.u64.wrap ((l0.length : Int))))) ≤ (l0.length : Int) then ((some (l0.drop ((wrap64 (Int.tmod (IntKind.u64.wrap (a1)) (IntKind.u64.wrap ((l0.length : Int))))) : Int).toNat : List (S53))).bind fun y418 => (if y415.length + y418.length < 3518437208883 then ((some (y415 ++ y418 : List (S53))).bind fun y423 => ((some (l0.take ((wrap64 (Int.tmod (IntKind.u64.wrap (a1)) (IntKind.u64.wrap ((l0.length : Int))))) : Int).toNat : List (S53))).bind fun y426 => (if y423.length + y426.length < 3518437208883 then ((sets_Of.f (y423 ++ y426)).bind fun bt434 => (constablelaw04_SetsSame.l0 k l0 t411 bt434.1 bt434.2 ([] : List (S53)) (wrap64 ((l0.length : Int) - 1)))) else (none)))) else (none))) else (none)) else (none)))) else (if t412 = 1 then (if (t411.length : Int) = 0 then ((constablelaw04_wakes.f).bind fun t451 => (some t451)) else (none)) else (none))) = some r := H
   have A8 := Aside0.mk A80
   clear A80
   by_cases c9 : t412 = 0
   ·rw [if_pos c9] at H
    have c9b0 : (t412 == 0) = true := beq_iff_eq.mpr c9
    have c9b1 : (t412 != 0) = false := bne_eq_false_iff_eq.mpr c9
    clear c9
    by_cases c10 : (IntKind.u64.wrap ((l0.length : Int))) = 0
    ·rw [if_pos c10] at H
     exact absurd H (by simp)
    ·rw [if_neg c10] at H
     have c10b0 : ((IntKind.u64.wrap ((l0.length : Int))) == 0) = false := beq_eq_false_iff_ne.mpr c10
     have c10b1 : ((IntKind.u64.wrap ((l0.length : Int))) != 0) = true := bne_iff_ne.mpr c10
     obtain ⟨y415, hy415⟩ : ∃ y_ : List (S53), y_ = (([] : List (S53))) := ⟨_, rfl⟩
     replace H : (if 0 ≤ (wrap64 (Int.tmod (IntKind.u64.wrap (a1)) (IntKind.u64.wrap ((l0.length : Int))))) then (if (wrap64 (Int.tmod (IntKind.u64.wrap (a1)) (IntKind.u64.wrap ((l0.length : Int))))) ≤ (l0.length : Int) then ((some (l0.drop ((wrap64 (Int.tmod (IntKind.u64.wrap (a1)) (IntKind.u64.wrap ((l0.length : Int))))) : Int).toNat : List (S53))).bind fun y418 => (if y415.length + y418.length < 3518437208883 then ((some (y415 ++ y418 : List (S53))).bind fun y423 => ((some (l0.take ((wrap64 (Int.tmod (IntKind.u64.wrap (a1)) (IntKind.u64.wrap ((l0.length : Int))))) : Int).toNat : List (S53))).bind fun y426 => (if y423.length + y426.length < 3518437208883 then ((sets_Of.f (y423 ++ y426)).bind fun bt434 => (constablelaw04_SetsSame.l0 k l0 t411 bt434.1 bt434.2 ([] : List (S53)) (wrap64 ((l0.length : Int) - 1)))) else (none)))) else (none))) else (none)) else (none)) = some r := by first | (rw [hy415]; with_reducible exact H) | (have H2_ := (Option.bind_some _ _).symm.trans H; rw [hy415]; with_reducible exact H2_) | (have H2_ := (Option.bind_some _ _).symm.trans H; with_reducible exact H2_) | with_reducible exact H | (rw [hy415]; exact H) | exact H
     have Ny415 := Aside0.mk hy415
     clear hy415
     obtain ⟨ji11, hji11⟩ : ∃ j_ : Int, (wrap64 (Int.tmod (IntKind.u64.wrap (a1)) (IntKind.u64.wrap ((l0.length : Int))))) = j_ := ⟨_, rfl⟩
     replace H : (if 0 ≤ (ji11) then (if (ji11) ≤ (l0.length : Int) then ((some (l0.drop ((ji11) : Int).toNat : List (S53))).bind fun y418 => (if y415.length + y418.length < 3518437208883 then ((some (y415 ++ y418 : List (S53))).bind fun y423 => ((some (l0.take ((ji11) : Int).toNat : List (S53))).bind fun y426 => (if y423.length + y426.length < 3518437208883 then ((sets_Of.f (y423 ++ y426)).bind fun bt434 => (constablelaw04_SetsSame.l0 k l0 t411 bt434.1 bt434.2 ([] : List (S53)) (wrap64 ((l0.length : Int) - 1)))) else (none)))) else (none))) else (none)) else (none)) = some r := by first | (rw [hji11] at H; exact H) | (simp only [hji11] at H ⊢; exact H)
     (try rw [hji11] at A3)
     (try rw [hji11] at A8)
     have hji11w : (IntKind.i64.wrap (Int.tmod (IntKind.u64.wrap (a1)) (IntKind.u64.wrap ((l0.length : Int))))) = ji11 := (i64_w _).trans hji11
     by_cases c12 : 0 ≤ (ji11)
     ·rw [if_pos c12] at H
      have c12b0 := eq_true c12
      have c12b1 : decide (0 ≤ (ji11)) = true := decide_eq_true c12
      clear c12
      by_cases c13 : (ji11) ≤ (l0.length : Int)
      ·rw [if_pos c13] at H
       have c13b0 := eq_true c13
       have c13b1 : decide ((ji11) ≤ (l0.length : Int)) = true := decide_eq_true c13
       clear c13
       obtain ⟨y418, hy418⟩ : ∃ y_ : List (S53), y_ = (l0.drop ((ji11) : Int).toNat) := ⟨_, rfl⟩
       replace H : (if y415.length + y418.length < 3518437208883 then ((some (y415 ++ y418 : List (S53))).bind fun y423 => ((some (l0.take ((ji11) : Int).toNat : List (S53))).bind fun y426 => (if y423.length + y426.length < 3518437208883 then ((sets_Of.f (y423 ++ y426)).bind fun bt434 => (constablelaw04_SetsSame.l0 k l0 t411 bt434.1 bt434.2 ([] : List (S53)) (wrap64 ((l0.length : Int) - 1)))) else (none)))) else (none)) = some r := by first | (rw [hy418]; with_reducible exact H) | (have H2_ := (Option.bind_some _ _).symm.trans H; rw [hy418]; with_reducible exact H2_) | (have H2_ := (Option.bind_some _ _).symm.trans H; with_reducible exact H2_) | with_reducible exact H | (rw [hy418]; exact H) | exact H
       have Ny418 := Aside0.mk hy418
       clear hy418
       by_cases c14 : y415.length + y418.length < 3518437208883
       ·rw [if_pos c14] at H
        have LMc14 := Aside0.mk c14
        clear c14
        obtain ⟨y423, hy423⟩ : ∃ y_ : List (S53), y_ = (y415 ++ y418) := ⟨_, rfl⟩
        replace H : ((some (l0.take ((ji11) : Int).toNat : List (S53))).bind fun y426 => (if y423.length + y426.length < 3518437208883 then ((sets_Of.f (y423 ++ y426)).bind fun bt434 => (constablelaw04_SetsSame.l0 k l0 t411 bt434.1 bt434.2 ([] : List (S53)) (wrap64 ((l0.length : Int) - 1)))) else (none))) = some r := by first | (rw [hy423]; with_reducible exact H) | (have H2_ := (Option.bind_some _ _).symm.trans H; rw [hy423]; with_reducible exact H2_) | (have H2_ := (Option.bind_some _ _).symm.trans H; with_reducible exact H2_) | with_reducible exact H | (rw [hy423]; exact H) | exact H
        have Ny423 := Aside0.mk hy423
        clear hy423
        have c15b0 := eq_true (of_decide_eq_true (by first | (with_reducible assumption) | assumption) : 0 ≤ (ji11))
        have c16b0 := eq_true (of_decide_eq_true (by first | (with_reducible assumption) | assumption) : (ji11) ≤ (l0.length : Int))
        obtain ⟨y426, hy426⟩ : ∃ y_ : List (S53), y_ = (l0.take ((ji11) : Int).toNat) := ⟨_, rfl⟩
        replace H : (if y423.length + y426.length < 3518437208883 then ((sets_Of.f (y423 ++ y426)).bind fun bt434 => (constablelaw04_SetsSame.l0 k l0 t411 bt434.1 bt434.2 ([] : List (S53)) (wrap64 ((l0.length : Int) - 1)))) else (none)) = some r := by first | (rw [hy426]; with_reducible exact H) | (have H2_ := (Option.bind_some _ _).symm.trans H; rw [hy426]; with_reducible exact H2_) | (have H2_ := (Option.bind_some _ _).symm.trans H; with_reducible exact H2_) | with_reducible exact H | (rw [hy426]; exact H) | exact H
        have Ny426 := Aside0.mk hy426
        clear hy426
        by_cases c17 : y423.length + y426.length < 3518437208883
        ·rw [if_pos c17] at H
         have LMc17 := Aside0.mk c17
         clear c17
         obtain ⟨y431, hy431⟩ : ∃ y_ : List (S53), y_ = (y423 ++ y426) := ⟨_, rfl⟩
         replace H : ((sets_Of.f y431).bind fun bt434 => (constablelaw04_SetsSame.l0 k l0 t411 bt434.1 bt434.2 ([] : List (S53)) (wrap64 ((l0.length : Int) - 1)))) = some r := by first | (rw [hy431]; with_reducible exact H) | (have H2_ := (Option.bind_some _ _).symm.trans H; rw [hy431]; with_reducible exact H2_) | (have H2_ := (Option.bind_some _ _).symm.trans H; with_reducible exact H2_) | with_reducible exact H | (rw [hy431]; exact H) | exact H
         have Ny431 := Aside0.mk hy431
         clear hy431
         replace H := Option.bind_eq_some_iff.mp H
         obtain ⟨⟨t434, t435⟩, A180, H⟩ := H
         replace H : (constablelaw04_SetsSame.l0 k l0 t411 t434 t435 ([] : List (S53)) (wrap64 ((l0.length : Int) - 1))) = some r := H
         have A18 := Aside0.mk A180
         clear A180
         have H' := Aside0.mk H
         clear H
         go_enter Try.func7, Try.ntmps7
         try go_wp2_with (first | ((with_reducible refine gate_callee (f := 29) rfl ?_); refine goesL_ (some 15) rfl rfl Try.func29 (by kernel_rfl) rfl #[.slice A0 l0.length c0] rfl aG ?_; (with_reducible refine (constablelaw03_Many.calls k _ _ l0 false _ ?side1 ?side2 A3.out).mono ?_); (case side1 => exact sC (Kd.V_reads' HO0.out).2.2); (case side2 => exact (Kd.V_reads' HO0.out).2.1); rintro e w19 ⟨rfl, hb⟩; refine ⟨_, rfl, ?_⟩; have n0_ := Aside0.mk (Kd.V_below (by (with_reducible repeat (first | apply Kd.V_alloc | apply Kd.V_drewN | apply Kd.V_drew)); exact HO0.out) hb); have n1_ := Aside0.mk (below_step bB0 hb); clear HO0; clear HB; have HO0 := n0_; have HB := n1_; clear n0_ n1_; (try clear hb); (try clear hb2); (try clear hk); (try clear hi)) | ((with_reducible refine gate_callee (f := 30) rfl ?_); refine goesL_ (some 23) rfl rfl Try.func30 (by kernel_rfl) rfl #[.slice A0 l0.length c0] rfl aG ?_; (with_reducible refine (sets_Of.calls _ _ l0 t411 t412 _ ?side1 ?side2 A8.out).mono ?_); (case side1 => exact sC (Kd.V_reads' HO0.out).2.2); (case side2 => exact (Kd.V_reads' HO0.out).2.1); rintro e w20 ⟨v413, rfl, ho0, hb⟩; refine ⟨_, rfl, ?_⟩; have n0_ := Aside0.mk (Kd.V_elder' (by (with_reducible repeat (first | apply Kd.V_alloc | apply Kd.V_drewN | apply Kd.V_drew)); exact HO0.out) (by first | exact Kd.N_base ho0 | exact Kd.S_base ho0) hb); have n1_ := Aside0.mk (Kd.N_lower (Kd.N_mono (ok' := fun k_ => (P0_ k_ ∨ w.heap.size ≤ k_)) (Kd.S_N (Kd.S_bound ho0)) (fun k_ hk_ => (.inr (Nat.le_trans (below_size bB0) hk_.2.1)))) (below_size bB0)); have n2_ := Aside0.mk (below_step bB0 hb); clear HO0; clear HB; have HO0 := n0_; have HO414 := n1_; have HB := n2_; clear n0_ n1_ n2_; (try clear hb); (try clear hb2); (try clear hk); (try clear hi); (try clear ho0)))
         have n0_ := Aside0.mk (Kd.V_drew HO0.out)
         have n1_ := Aside0.mk (Kd.N_drew HO414.out)
         have n2_ := Aside0.mk (below_drew1 HB.out)
         clear HO0
         clear HO414
         clear HB
         have HO0 := n0_
         have HO414 := n1_
         have HB := n2_
         clear n0_ n1_ n2_
         have q22 : ((ji11) : Int) ≤ ((l0.length : Int) : Int) := of_decide_eq_true (by first | (with_reducible assumption) | assumption)
         obtain ⟨i022, hi022, _, hsz22, _⟩ := info_parts info53
         have hroom22 : l0.length ≤ c0 := (Kd.V_reads' HO0.out).2.1
         have hC22 : Kd.F k53 _ _ A0 l0.length l0 := (Kd.V_at (base := w.heap.size) HO0.out).2.2
         have q022 : (0 : Int) ≤ ((ji11) : Int) := of_decide_eq_true (by first | (with_reducible assumption) | assumption)
         have hcut22 := cut_from (P := Try.prog) 46 53 .i64 Try.underlying46 hi022 2 hsz22 A0 l0.length c0 (ji11) q022 q22
         have hr22 := Kd.F_cut (m := ((ji11) : Int).toNat) (c := c0) hC22 (by omega) hroom22
         obtain ⟨A22, hA22⟩ : ∃ A1, A1 = (if c0 = ((ji11) : Int).toNat then A0 else (A0 : Option Addr).map (·.add (((ji11) : Int).toNat * 2))) := ⟨_, rfl⟩
         obtain ⟨c22, hc22⟩ : ∃ c1, c1 = c0 - ((ji11) : Int).toNat := ⟨_, rfl⟩
         have hy22 : y418.length = l0.length - ((ji11) : Int).toNat := (by rw [Ny418.out, List.length_drop] <;> omega)
         rw [show (l0).drop ((ji11) : Int).toNat = y418 from Ny418.out.symm] at hr22
         replace hr22 : Kd.F k53 _ _ A22 y418.length y418 := (by rw [hA22]; exact hr22)
         rw [← hy22, ← hA22, ← hc22] at hcut22
         have HO422 := Aside0.mk (show Kd.V k53 53 _ w.heap.size _ (.slice A22 y418.length c22) y418 from Kd.V_mk (by rw [hy22, hc22]; exact Nat.sub_le_sub_right hroom22 _) hr22)
         have HC422 := Aside0.mk (show y418.length ≤ c22 from by rw [hy22, hc22]; exact Nat.sub_le_sub_right hroom22 _)
         clear hr22 hC22 hroom22 hi022 hsz22 hc22
         have KY22 := Aside0.mk hy22
         have KA22 := Aside0.mk hA22
         clear hy22 hA22
         replace q22 := eq_true q22
         have q23 : ((ji11) : Int) ≤ ((l0.length : Int) : Int) := of_decide_eq_true (by first | (with_reducible assumption) | assumption)
         obtain ⟨i023, hi023, _, hsz23, _⟩ := info_parts info53
         have hroom23 : l0.length ≤ c0 := (Kd.V_reads' HO0.out).2.1
         have hC23 : Kd.F k53 _ _ A0 l0.length l0 := (Kd.V_at (base := w.heap.size) HO0.out).2.2
         have hcut23 := cut_to (P := Try.prog) 46 53 .i64 Try.underlying46 hi023 A0 l0.length c0 (ji11) (of_decide_eq_true (by first | (with_reducible assumption) | assumption)) q23 hroom23
         have hr23 := Kd.F_take (m := ((ji11) : Int).toNat) hC23 (by omega)
         have hy23 : y426.length = ((ji11) : Int).toNat := (by rw [Ny426.out, List.length_take]; omega)
         rw [← Ny426.out] at hr23
         rw [← hy23] at hcut23
         have HO430 := Aside0.mk (show Kd.V k53 53 _ w.heap.size _ (.slice A0 y426.length c0) y426 from Kd.V_mk (by omega) hr23)
         have HC430 := Aside0.mk (show y426.length ≤ c0 from by omega)
         clear hr23 hC23 hroom23 hi023 hsz23
         have KY23 := Aside0.mk hy23
         clear hy23
         replace q23 := eq_true q23
         refine start_ (n := 15) (S := fun w' => True) (ds := []) #[false, false, false, false, false, false, false, false, false, false, false, false, false, false, false] (by kernel_rfl) rfl rfl trivial (fun hHeld => ?_); refine with_tabW constablelaw04_SetsSame.tab7 constablelaw04_SetsSame.bits7 (fun HT_ HW_ => ?_)
         generalize w20.drew = w21 at HO0 HO414 HB HO422 HO430 hHeld ⊢
         refine pQ (i := 1) (N := some 47) (bb 15 2) ?_
         refine pQ (i := 2) (N := some 48) (bb 15 6) ?_
         refine pQ (i := 3) (N := some 49) (bb 15 14) ?_
         refine pQ (i := 5) (N := some 51) (bb 15 46) ?_
         refine pQ (i := 6) (N := some 52) (bb 15 110) ?_
         refine pQ (i := 7) (N := some 53) (bb 15 238) ?_
         refine one_ (i := 0) (N := some 46) (bb 15 239) rfl rfl (one_of HT_.out (by kernel_rfl)) (by decide) (fun K hK => ?_)
         refine Kd.N_lit_step k53 _ 53 ?hg (N' := 46) ?hd (xs := ([] : List (S53))) (inner := []) (ok := (fun k_ => (P0_ k_ ∨ w.heap.size ≤ k_) ∧ some k_ ≠ (v413 : Value).ownBlock)) (okp := (fun k_ => (P0_ k_ ∨ w.heap.size ≤ k_) ∧ some k_ ≠ (v413 : Value).ownBlock)) ?hr ?hp (fun _ hk => hk) ((show ∀ k_, w21.heap.size ≤ k_ → (fun k_ => (P0_ k_ ∨ w.heap.size ≤ k_) ∧ some k_ ≠ (v413 : Value).ownBlock) k_ from fun k_ hk => ⟨(.inr (Nat.le_trans (below_size bB0) hk)), Kd.fresh' (Kd.N_lt (by (with_reducible repeat (first | apply Kd.N_alloc | apply Kd.N_drewN | apply Kd.N_drew)); exact HO414.out)) k_ hk⟩) _ (Nat.le_refl _)) (Below.refl _ _) (Nat.le_refl _) (by simp) ?_; (case hd => rfl); (case hg => rfl); (case hr => first | (go_simp; done) | (go_simp; rfl)); (case hp => exact (Reps.none _ _))
         intro v416 w24 ho25 hb hg_ hnew_
         clear hg_ hnew_
         (first | rw [← Ny415.out] at ho25 | (simp only [Int.reduceToNat] at ho25; rw [← Ny415.out] at ho25))
         have n0_ := Aside0.mk (Kd.V_elder' (by (with_reducible repeat (first | apply Kd.V_alloc | apply Kd.V_drewN | apply Kd.V_drew)); exact HO0.out) (by first | exact Kd.N_base ho25 | exact Kd.S_base ho25) hb)
         have n1_ := Aside0.mk (Kd.N_elder' (by (with_reducible repeat (first | apply Kd.N_alloc | apply Kd.N_drewN | apply Kd.N_drew)); exact HO414.out) (by first | exact Kd.N_base ho25 | exact Kd.S_base ho25) hb)
         have n2_ := Aside0.mk (Kd.V_elder' (by (with_reducible repeat (first | apply Kd.V_alloc | apply Kd.V_drewN | apply Kd.V_drew)); exact HO422.out) (by first | exact Kd.N_base ho25 | exact Kd.S_base ho25) hb)
         have n3_ := Aside0.mk (Kd.V_elder' (by (with_reducible repeat (first | apply Kd.V_alloc | apply Kd.V_drewN | apply Kd.V_drew)); exact HO430.out) (by first | exact Kd.N_base ho25 | exact Kd.S_base ho25) hb)
         have n4_ := Aside0.mk (Kd.N_lower ho25 (below_size bB0))
         have n5_ := Aside0.mk (below_step bB0 hb)
         clear HO0
         clear HO414
         clear HO422
         clear HO430
         clear HB
         have HO0 := n0_
         have HO414 := n1_
         have HO422 := n2_
         have HO430 := n3_
         have HO417 := n4_
         have HB := n5_
         clear n0_ n1_ n2_ n3_ n4_ n5_
         clear hb ho25
         refine hK.out _ _ trivial (fun hHeld => ?_)
         clear hK K
         refine norm_ (a' := ?_) ?_ ?_
         rotate_left
         ·show Act.put _ (some 46) _ = _
          simp only [Act.put, List.setIfInBounds_toArray, List.set_cons_zero, List.set_cons_succ, i64_w, i32_w]
          rfl
         refine one_ (i := 4) (N := some 50) (bb 15 255) rfl rfl (one_of HT_.out (by kernel_rfl)) (by decide) (fun K hK => ?_)
         refine Kd.N_append_rows_step k53 (w0 := w) w.heap.size (by rfl) (.tmp 46) (.tmp 49) 46 53 (.agg #[(.string ⟨#[]⟩), (.slice none 0 0)]) 40 rfl Try.underlying46 info53 rfl (by decide) (by omega) v416 y415 y418 _ _ _ (fun k_ => (P0_ k_ ∨ w.heap.size ≤ k_) ∧ some k_ ≠ (v413 : Value).ownBlock) (fun k_ => ((fun k_ => (P0_ k_ ∨ w.heap.size ≤ k_) ∧ some k_ ≠ (v413 : Value).ownBlock)) k_ ∧ some k_ ≠ (v416 : Value).ownBlock) rfl rfl ?aO ?aR (fun _ hk => hk) ?aF ?aB ?aS ?aL ?_
         (case aR => exact (by skip; exact Kd.V_F (Kd.V_mono (ok' := (fun k_ => ((fun k_ => (P0_ k_ ∨ w.heap.size ≤ k_) ∧ some k_ ≠ (v413 : Value).ownBlock)) k_ ∧ some k_ ≠ (v416 : Value).ownBlock)) (HO422.out) (fun k_ hk => ⟨⟨hk.1.1, hk.1.2⟩, hk.2⟩))))
         (case aB => exact bB0)
         (case aF => exact (fun k_ hk => ⟨(.inr (Nat.le_trans (below_size bB0) hk)), Kd.fresh' (Kd.N_lt (by (with_reducible repeat (first | apply Kd.N_alloc | apply Kd.N_drewN | apply Kd.N_drew)); exact HO414.out)) k_ hk⟩))
         (case aO => exact (by (with_reducible repeat (first | apply Kd.N_alloc | apply Kd.N_drewN | apply Kd.N_drew)); exact HO417.out))
         (case aS => exact (below_size bB0))
         (case aL => have := LMc14.out; omega)
         intro v424 w26 ho hb hg hat
         rw [← Ny423.out] at ho
         have n0_ := Aside0.mk (Kd.V_afterv (ok := (fun k_ => (P0_ k_ ∨ w.heap.size ≤ k_) ∧ some k_ ≠ (v413 : Value).ownBlock)) (by (with_reducible repeat (first | apply Kd.V_alloc | apply Kd.V_drewN | apply Kd.V_drew)); exact HO0.out) hg hat)
         have n1_ := Aside0.mk (Kd.N_afterv (ok := (fun k_ => (P0_ k_ ∨ w.heap.size ≤ k_))) (by (with_reducible repeat (first | apply Kd.N_alloc | apply Kd.N_drewN | apply Kd.N_drew)); exact HO414.out) hg hat)
         have n2_ := Aside0.mk (Kd.V_afterv (ok := (fun k_ => (P0_ k_ ∨ w.heap.size ≤ k_) ∧ some k_ ≠ (v413 : Value).ownBlock)) (by (with_reducible repeat (first | apply Kd.V_alloc | apply Kd.V_drewN | apply Kd.V_drew)); exact HO422.out) hg hat)
         have n3_ := Aside0.mk (Kd.V_afterv (ok := (fun k_ => (P0_ k_ ∨ w.heap.size ≤ k_) ∧ some k_ ≠ (v413 : Value).ownBlock)) (by (with_reducible repeat (first | apply Kd.V_alloc | apply Kd.V_drewN | apply Kd.V_drew)); exact HO430.out) hg hat)
         have n4_ := Aside0.mk (hb)
         have n5_ := Aside0.mk (ho)
         clear HO0
         clear HO414
         clear HO422
         clear HO430
         clear HB
         clear HO417
         have HO0 := n0_
         have HO414 := n1_
         have HO422 := n2_
         have HO430 := n3_
         have HB := n4_
         have HO425 := n5_
         clear n0_ n1_ n2_ n3_ n4_ n5_
         clear ho hb hg hat
         refine hK.out _ _ trivial (fun hHeld => ?_)
         clear hK K
         refine norm_ (a' := ?_) ?_ ?_
         rotate_left
         ·show Act.put _ (some 50) _ = _
          simp only [Act.put, List.setIfInBounds_toArray, List.set_cons_zero, List.set_cons_succ, i64_w, i32_w]
          rfl
         refine one_ (i := 8) (N := some 54) (bb 15 511) rfl rfl (one_of HT_.out (by kernel_rfl)) (by decide) (fun K hK => ?_)
         refine Kd.N_append_rows_step k53 (w0 := w) w.heap.size (by rfl) (.tmp 50) (.tmp 53) 46 53 (.agg #[(.string ⟨#[]⟩), (.slice none 0 0)]) 40 rfl Try.underlying46 info53 rfl (by decide) (by omega) v424 y423 y426 _ _ _ (fun k_ => (P0_ k_ ∨ w.heap.size ≤ k_) ∧ some k_ ≠ (v413 : Value).ownBlock) (fun k_ => ((fun k_ => (P0_ k_ ∨ w.heap.size ≤ k_) ∧ some k_ ≠ (v413 : Value).ownBlock)) k_ ∧ some k_ ≠ (v424 : Value).ownBlock) rfl rfl ?aO ?aR (fun _ hk => hk) ?aF ?aB ?aS ?aL ?_
         (case aR => exact (by skip; exact Kd.V_F (Kd.V_mono (ok' := (fun k_ => ((fun k_ => (P0_ k_ ∨ w.heap.size ≤ k_) ∧ some k_ ≠ (v413 : Value).ownBlock)) k_ ∧ some k_ ≠ (v424 : Value).ownBlock)) (HO430.out) (fun k_ hk => ⟨⟨hk.1.1, hk.1.2⟩, hk.2⟩))))
         (case aB => exact bB0)
         (case aF => exact (fun k_ hk => ⟨(.inr (Nat.le_trans (below_size bB0) hk)), Kd.fresh' (Kd.N_lt (by (with_reducible repeat (first | apply Kd.N_alloc | apply Kd.N_drewN | apply Kd.N_drew)); exact HO414.out)) k_ hk⟩))
         (case aO => exact (by (with_reducible repeat (first | apply Kd.N_alloc | apply Kd.N_drewN | apply Kd.N_drew)); exact HO425.out))
         (case aS => exact (below_size bB0))
         (case aL => have := LMc17.out; omega)
         intro v432 w27 ho hb hg hat
         rw [← Ny431.out] at ho
         have n0_ := Aside0.mk (Kd.V_afterv (ok := (fun k_ => (P0_ k_ ∨ w.heap.size ≤ k_) ∧ some k_ ≠ (v413 : Value).ownBlock)) (by (with_reducible repeat (first | apply Kd.V_alloc | apply Kd.V_drewN | apply Kd.V_drew)); exact HO0.out) hg hat)
         have n1_ := Aside0.mk (Kd.N_afterv (ok := (fun k_ => (P0_ k_ ∨ w.heap.size ≤ k_))) (by (with_reducible repeat (first | apply Kd.N_alloc | apply Kd.N_drewN | apply Kd.N_drew)); exact HO414.out) hg hat)
         have n2_ := Aside0.mk (Kd.V_afterv (ok := (fun k_ => (P0_ k_ ∨ w.heap.size ≤ k_) ∧ some k_ ≠ (v413 : Value).ownBlock)) (by (with_reducible repeat (first | apply Kd.V_alloc | apply Kd.V_drewN | apply Kd.V_drew)); exact HO422.out) hg hat)
         have n3_ := Aside0.mk (Kd.V_afterv (ok := (fun k_ => (P0_ k_ ∨ w.heap.size ≤ k_) ∧ some k_ ≠ (v413 : Value).ownBlock)) (by (with_reducible repeat (first | apply Kd.V_alloc | apply Kd.V_drewN | apply Kd.V_drew)); exact HO430.out) hg hat)
         have n4_ := Aside0.mk (hb)
         have n5_ := Aside0.mk (ho)
         clear HO0
         clear HO414
         clear HO422
         clear HO430
         clear HB
         clear HO425
         have HO0 := n0_
         have HO414 := n1_
         have HO422 := n2_
         have HO430 := n3_
         have HB := n4_
         have HO433 := n5_
         clear n0_ n1_ n2_ n3_ n4_ n5_
         clear ho hb hg hat
         obtain ⟨Ao28, co28, eo28⟩ := Kd.N_slice HO433.out
         (first | subst eo28 | (injection eo28 with f1_ f2_ f3_; have f4_ := f1_.symm; have f5_ := f3_.symm; clear f1_ f2_ f3_; subst f4_; subst f5_))
         refine hK.out _ _ trivial (fun hHeld => ?_)
         clear hK K
         refine norm_ (a' := ?_) ?_ ?_
         rotate_left
         ·show Act.put _ (some 54) _ = _
          simp only [Act.put, List.setIfInBounds_toArray, List.set_cons_zero, List.set_cons_succ, i64_w, i32_w]
          rfl
         refine one_ (i := 9) (N := some 55) (bb 15 1023) rfl rfl (one_of HT_.out (by kernel_rfl)) (by decide) (fun K hK => ?_)
         refine goes_ Try.func30 (by kernel_rfl) rfl #[.slice Ao28 y431.length co28] (by rfl) rfl rfl aG ?_
         with_reducible refine (sets_Of.calls _ _ y431 t434 t435 _ ?side1 ?side2 A18.out).mono ?_
         (case side1 => exact sC (Kd.N_reads' HO433.out).2.2)
         (case side2 => exact (Kd.N_reads' HO433.out).2.1)
         rintro e w29 ⟨v436, rfl, ho0, hb⟩
         refine ⟨_, rfl, ?_⟩
         have n0_ := Aside0.mk (Kd.V_elder' (by (with_reducible repeat (first | apply Kd.V_alloc | apply Kd.V_drewN | apply Kd.V_drew)); exact HO0.out) (by first | exact Kd.N_base ho0 | exact Kd.S_base ho0) hb)
         have n1_ := Aside0.mk (Kd.N_elder' (by (with_reducible repeat (first | apply Kd.N_alloc | apply Kd.N_drewN | apply Kd.N_drew)); exact HO414.out) (by first | exact Kd.N_base ho0 | exact Kd.S_base ho0) hb)
         have n2_ := Aside0.mk (Kd.V_elder' (by (with_reducible repeat (first | apply Kd.V_alloc | apply Kd.V_drewN | apply Kd.V_drew)); exact HO422.out) (by first | exact Kd.N_base ho0 | exact Kd.S_base ho0) hb)
         have n3_ := Aside0.mk (Kd.V_elder' (by (with_reducible repeat (first | apply Kd.V_alloc | apply Kd.V_drewN | apply Kd.V_drew)); exact HO430.out) (by first | exact Kd.N_base ho0 | exact Kd.S_base ho0) hb)
         have n4_ := Aside0.mk (Kd.N_elder' (by (with_reducible repeat (first | apply Kd.N_alloc | apply Kd.N_drewN | apply Kd.N_drew)); exact HO433.out) (by first | exact Kd.N_base ho0 | exact Kd.S_base ho0) hb)
         have n5_ := Aside0.mk (Kd.N_lower (Kd.N_mono (ok' := fun k_ => (P0_ k_ ∨ w.heap.size ≤ k_) ∧ some k_ ≠ (v413 : Value).ownBlock ∧ some k_ ≠ (.slice Ao28 y431.length co28 : Value).ownBlock) (Kd.S_N (Kd.S_bound ho0)) (fun k_ hk_ => ⟨(.inr (Nat.le_trans (below_size bB0) hk_.2.1)), (Kd.fresh' (Kd.N_lt (by (with_reducible repeat (first | apply Kd.N_alloc | apply Kd.N_drewN | apply Kd.N_drew)); exact HO414.out)) k_ hk_.2.1), (Kd.fresh' (Kd.N_lt (by (with_reducible repeat (first | apply Kd.N_alloc | apply Kd.N_drewN | apply Kd.N_drew)); exact HO433.out)) k_ hk_.2.1)⟩)) (below_size bB0))
         have n6_ := Aside0.mk (below_step bB0 hb)
         clear HO0
         clear HO414
         clear HO422
         clear HO430
         clear HO433
         clear HB
         have HO0 := n0_
         have HO414 := n1_
         have HO422 := n2_
         have HO430 := n3_
         have HO433 := n4_
         have HO437 := n5_
         have HB := n6_
         clear n0_ n1_ n2_ n3_ n4_ n5_ n6_
         (try clear hb)
         (try clear hb2)
         (try clear hk)
         (try clear hi)
         (try clear ho0)
         refine hK.out _ _ trivial (fun hHeld => ?_)
         clear hK K
         refine norm_ (a' := ?_) ?_ ?_
         rotate_left
         ·show Act.put _ (some 55) _ = _
          simp only [Act.put, List.setIfInBounds_toArray, List.set_cons_zero, List.set_cons_succ, i64_w, i32_w]
          rfl
         refine pQ (i := 10) (N := some 45) (bb 15 2047) ?_
         refine pQ (i := 11) (N := some 56) (bb 15 4095) ?_
         refine pQ (i := 12) (N := some 57) (bb 15 8191) ?_
         refine pQ (i := 13) (N := some 7) (bb 15 16383) ?_
         refine pQ (i := 14) (N := some 8) (bb 15 32767) ?_
         refine done_ (done_of HT_.out (by kernel_rfl)) ?_
         try go_wp2
         go_loopg [9, 10] k (fun kq v9 v10 w' => ∃ (x9_1 : List (S53)) (x10_1 : Int), v10 = .int .i64 x10_1 ∧ Aside0 (constablelaw04_SetsSame.l0 kq l0 t411 t434 t435 x9_1 x10_1 = some r) ∧ Aside0 (kq ≤ k) ∧ Aside0 (Kd.V k53 53 w' w.heap.size (fun k_ => (P0_ k_ ∨ w.heap.size ≤ k_) ∧ some k_ ≠ (v413 : Value).ownBlock ∧ some k_ ≠ (v436 : Value).ownBlock ∧ some k_ ≠ (v9 : Value).ownBlock) (.slice A0 l0.length c0) l0) ∧ Aside0 (Kd.N k53 53 w' w.heap.size (fun k_ => (P0_ k_ ∨ w.heap.size ≤ k_) ∧ some k_ ≠ (v436 : Value).ownBlock ∧ some k_ ≠ (v9 : Value).ownBlock) v413 t411) ∧ Aside0 (Kd.N k53 53 w' w.heap.size (fun k_ => (P0_ k_ ∨ w.heap.size ≤ k_) ∧ some k_ ≠ (v413 : Value).ownBlock ∧ some k_ ≠ (v9 : Value).ownBlock) v436 t434) ∧ Aside0 (Kd.N k53 53 w' w.heap.size (fun k_ => (P0_ k_ ∨ w.heap.size ≤ k_) ∧ some k_ ≠ (v413 : Value).ownBlock ∧ some k_ ≠ (v436 : Value).ownBlock) v9 x9_1) ∧ Aside0 (Below w.heap.size w w'))
         case atStart => exact ⟨(([] : List (S53))), (wrap64 ((l0.length : Int) - 1)), (by first | rfl | (simp; done) | (simp [*]; done)), H', ⟨Nat.le_refl _⟩, ⟨by (with_reducible repeat (first | apply Kd.V_alloc | apply Kd.V_drewN | apply Kd.V_drew)); exact Kd.V_mono HO0.out (fun _ hk => ⟨hk.1.1.1, ⟨hk.1.1.2, ⟨hk.2, (by simp [Value.ownBlock])⟩⟩⟩)⟩, ⟨by (with_reducible repeat (first | apply Kd.N_alloc | apply Kd.N_drewN | apply Kd.N_drew)); exact Kd.N_mono HO414.out (fun _ hk => ⟨hk.1.1, ⟨hk.2, (by simp [Value.ownBlock])⟩⟩)⟩, ⟨by (with_reducible repeat (first | apply Kd.N_alloc | apply Kd.N_drewN | apply Kd.N_drew)); exact Kd.N_mono HO437.out (fun _ hk => ⟨hk.1, ⟨hk.2.1, (by simp [Value.ownBlock])⟩⟩)⟩, ⟨by first | exact Kd.S_nil _ _ _ _ _ | exact Kd.N_nil _ _ _ _ _ | exact Kd.V_nil _ _ _ _ _ | exact Kd.Q_nil _ _ _ _ _ | exact Kd.R_nil _ _ _ _ _⟩, ⟨bB0⟩⟩
         case round =>
          clear H'
          (try clear c1); (try clear c2); (try clear p2); (try clear q2); (try clear c3); (try clear c4); (try clear c6); (try clear c6b0); (try clear c6b1); (try clear c6b2); (try clear p6); (try clear c7); (try clear c9); (try clear c9b0); (try clear c9b1); (try clear c10); (try clear c10b0); (try clear c10b1); (try clear c12); (try clear c12b0); (try clear c12b1); (try clear c13); (try clear c13b0); (try clear c13b1); (try clear c14); (try clear c15); (try clear c15b0); (try clear c16); (try clear c16b0); (try clear c17); (try clear c22); (try clear q22); (try clear q23); (try clear c29); (try clear q022); (try clear q22); (try clear q23)
          obtain ⟨x9_1, x10_1, rfl, HA, HK1, HO_0, HO_5, HO_7, HO_9, HB⟩ := hrel
          cases gk with
          | zero => exact absurd HA.out (by simp [constablelaw04_SetsSame.l0])
          | succ k1 =>
           have H := HA.out
           clear HA
           simp only [constablelaw04_SetsSame.l0] at H
           by_cases c30 : x10_1 ≥ 0
           ·rw [if_pos c30] at H
            have c30b0 : decide (0 ≤ x10_1) = true := decide_eq_true c30
            clear c30
            by_cases c31 : 0 ≤ x10_1
            ·rw [if_pos c31] at H
             have c31b0 : decide (0 ≤ x10_1) = true := decide_eq_true c31
             clear c31
             by_cases c32 : x10_1 < (l0.length : Int)
             ·rw [if_pos c32] at H
              have c32b0 : decide (x10_1 < (l0.length : Int)) = true := decide_eq_true c32
              clear c32
              replace H := Option.bind_eq_some_iff.mp H
              obtain ⟨⟨t439, t442⟩, A330, H⟩ := H
              replace H : (if t442 = 0 then ((sets_Has.f t411 ((rd_T53 l0 x10_1).f0) ((rd_T53 l0 x10_1).f1)).bind fun t444 => (if t444 = true then (constablelaw04_SetsSame.l0 k1 l0 t411 t434 t435 t439 (wrap64 (x10_1 - 1))) else (none))) else (none)) = some r := H
              have A33 := Aside0.mk A330
              clear A330
              by_cases c34 : t442 = 0
              ·rw [if_pos c34] at H
               have c34b0 : (t442 == 0) = true := beq_iff_eq.mpr c34
               have c34b1 : (t442 != 0) = false := bne_eq_false_iff_eq.mpr c34
               clear c34
               replace H := Option.bind_eq_some_iff.mp H
               obtain ⟨t444, A350, H⟩ := H
               replace H : (if t444 = true then (constablelaw04_SetsSame.l0 k1 l0 t411 t434 t435 t439 (wrap64 (x10_1 - 1))) else (none)) = some r := H
               have A35 := Aside0.mk A350
               clear A350
               by_cases c36 : t444 = true
               ·subst c36
                have H1 : (constablelaw04_SetsSame.l0 k1 l0 t411 t434 t435 t439 (wrap64 (x10_1 - 1))) = some r := by rw [if_pos rfl] at H; exact H
                clear H
                have H := H1
                clear H1
                have H' := Aside0.mk H
                clear H
                have p438 : 0 ≤ (x10_1 : Int) := of_decide_eq_true (by first | (with_reducible assumption) | assumption)
                have q438 : x10_1 < (l0.length : Int) := of_decide_eq_true (by first | (with_reducible assumption) | assumption)
                obtain ⟨ad438, A438_1, c438_1, e438, hx438_0, hx438_1, hl438_1, hi438_1⟩ := at_T53 (Kd.V_reads' HO_0.out).2.2 x10_1 p438 q438
                cases e438
                obtain ⟨ce438, hce438, hMe438, hcc438⟩ := Kd.V_get HO_0.out z53 x10_1 p438 (by first | exact q438 | exact of_decide_eq_true (by first | (with_reducible assumption) | assumption) | (have e_ := (Kd.V_reads' HO_0.out).1; omega))
                obtain ⟨ua438_1, uc438_1, rfl, ul438_1, ge438_1⟩ := k53_openF hMe438
                have hv438_1 := hcc438 1 _ rfl
                rw [add_field _ _ 1 (by omega)] at hv438_1
                replace hv438_1 := Option.some.inj (hv438_1.symm.trans hx438_1)
                injection hv438_1 with hva_ hvn_ hvc_
                rw [hva_] at ge438_1
                rw [hvc_] at ul438_1
                have HL438_1 := Aside0.mk (show Kd.V k24 24 _ w.heap.size _ _ ((rd_T53 l0 x10_1).f1) from Kd.V_mk ul438_1 ge438_1)
                clear hva_ hvn_ hvc_ ge438_1 ul438_1
                clear hcc438 hce438
                have HR438_1 := Aside0.mk hi438_1
                have HC438_1 := Aside0.mk hl438_1
                clear hi438_1 hl438_1
                replace p438 := eq_true p438
                replace q438 := eq_true q438
                obtain ⟨Ao37, co37, eo37⟩ := Kd.N_slice HO_9.out
                subst eo37
                go_wp2_with (first | ((with_reducible refine gate_callee (f := 32) rfl ?_); refine goesL_ (some 71) rfl rfl Try.func32 (by kernel_rfl) rfl #[.slice Ao37 x9_1.length co37, .agg #[.string ((rd_T53 l0 x10_1).f0), .slice A438_1 ((rd_T53 l0 x10_1).f1).length c438_1]] rfl aG ?_; (with_reducible refine (sets_Put.calls _ _ x9_1 ((rd_T53 l0 x10_1).f0) _ _ ((rd_T53 l0 x10_1).f1) t439 t442 _ ?side1 ?side2 ?side3 ?side4 A33.out).mono ?_); (case side1 => exact sC (Kd.N_reads' HO_9.out).2.2); (case side2 => exact (Kd.N_reads' HO_9.out).2.1); (case side3 => repeat (first | exact (by repeat (first | (with_reducible exact HR438_1.out) | (with_reducible refine Kd.C_alloc ?_ _) | (with_reducible refine Kd.C_drewN ?_ _) | (with_reducible refine Kd.C_drew ?_) | exact HR438_1.out)) | (with_reducible refine Kd.C_alloc ?_ _) | (with_reducible refine Kd.C_drewN ?_ _) | (with_reducible refine Kd.C_drew ?_))); (case side4 => exact HC438_1.out); rintro e w38 ⟨v440, rfl, ho0, hb⟩; (try (have hk438_1_ := (hb.cell (World.block_lt_of_cell? _ _ hx438_1)).trans hx438_1)); refine ⟨_, rfl, ?_⟩; have n0_ := Aside0.mk (Kd.V_elder' (by (with_reducible repeat (first | apply Kd.V_alloc | apply Kd.V_drewN | apply Kd.V_drew)); exact HO_0.out) (by first | exact Kd.N_base ho0 | exact Kd.S_base ho0) hb); have n1_ := Aside0.mk (Kd.N_elder' (by (with_reducible repeat (first | apply Kd.N_alloc | apply Kd.N_drewN | apply Kd.N_drew)); exact HO_5.out) (by first | exact Kd.N_base ho0 | exact Kd.S_base ho0) hb); have n2_ := Aside0.mk (Kd.N_elder' (by (with_reducible repeat (first | apply Kd.N_alloc | apply Kd.N_drewN | apply Kd.N_drew)); exact HO_7.out) (by first | exact Kd.N_base ho0 | exact Kd.S_base ho0) hb); have n3_ := Aside0.mk (Kd.N_elder' (by (with_reducible repeat (first | apply Kd.N_alloc | apply Kd.N_drewN | apply Kd.N_drew)); exact HO_9.out) (by first | exact Kd.N_base ho0 | exact Kd.S_base ho0) hb); have n4_ := Aside0.mk (Kd.V_elder' (by (with_reducible repeat (first | apply Kd.V_alloc | apply Kd.V_drewN | apply Kd.V_drew)); exact HL438_1.out) (by first | exact Kd.N_base ho0 | exact Kd.S_base ho0) hb); have n5_ := Aside0.mk (Kd.N_lower (Kd.N_mono (ok' := fun k_ => (P0_ k_ ∨ w.heap.size ≤ k_) ∧ some k_ ≠ (v413 : Value).ownBlock ∧ some k_ ≠ (v436 : Value).ownBlock ∧ some k_ ≠ (.slice Ao37 x9_1.length co37 : Value).ownBlock) (Kd.S_N (Kd.S_bound ho0)) (fun k_ hk_ => ⟨(.inr (Nat.le_trans (below_size bB0) hk_.2.1)), (Kd.fresh' (Kd.N_lt (by (with_reducible repeat (first | apply Kd.N_alloc | apply Kd.N_drewN | apply Kd.N_drew)); exact HO_5.out)) k_ hk_.2.1), (Kd.fresh' (Kd.N_lt (by (with_reducible repeat (first | apply Kd.N_alloc | apply Kd.N_drewN | apply Kd.N_drew)); exact HO_7.out)) k_ hk_.2.1), (Kd.fresh' (Kd.N_lt (by (with_reducible repeat (first | apply Kd.N_alloc | apply Kd.N_drewN | apply Kd.N_drew)); exact HO_9.out)) k_ hk_.2.1)⟩)) (below_size bB0)); have n6_ := Aside0.mk (Kd.C_below (by repeat (first | (with_reducible exact HR438_1.out) | (with_reducible refine Kd.C_alloc ?_ _) | (with_reducible refine Kd.C_drewN ?_ _) | (with_reducible refine Kd.C_drew ?_) | exact HR438_1.out)) hb); have n7_ := Aside0.mk (below_step bB0 hb); clear HO_0; clear HO_5; clear HO_7; clear HO_9; clear HL438_1; clear HR438_1; clear HB; have HO_0 := n0_; have HO_5 := n1_; have HO_7 := n2_; have HO_9 := n3_; have HL438_1 := n4_; have HO441 := n5_; have HR438_1 := n6_; have HB := n7_; clear n0_ n1_ n2_ n3_ n4_ n5_ n6_ n7_; (try clear hb); (try clear hb2); (try clear hk); (try clear hi); (try clear ho0); have p443 : 0 ≤ (x10_1 : Int) := of_decide_eq_true (by first | (with_reducible assumption) | assumption); have q443 : x10_1 < (l0.length : Int) := of_decide_eq_true (by first | (with_reducible assumption) | assumption); obtain ⟨ad443, A443_1, c443_1, e443, hx443_0, hx443_1, hl443_1, hi443_1⟩ := at_T53 (Kd.V_reads' HO_0.out).2.2 x10_1 p443 q443; obtain rfl : ad438 = ad443 := (by injection e443); have ea_ := Option.some.inj (Eq.trans (Eq.symm (show _ = some (Value.slice A438_1 _ c438_1) by assumption)) hx443_1); injection ea_ with ea_ en_ ec_; subst ea_; subst ec_; clear en_; obtain ⟨ce443, hce443, hMe443, hcc443⟩ := Kd.V_get HO_0.out z53 x10_1 p443 (by first | exact q443 | exact of_decide_eq_true (by first | (with_reducible assumption) | assumption) | (have e_ := (Kd.V_reads' HO_0.out).1; omega)); obtain ⟨ua443_1, uc443_1, rfl, ul443_1, ge443_1⟩ := k53_openF hMe443; have hv443_1 := hcc443 1 _ rfl; rw [add_field _ _ 1 (by omega)] at hv443_1; replace hv443_1 := Option.some.inj (hv443_1.symm.trans hx443_1); injection hv443_1 with hva_ hvn_ hvc_; rw [hva_] at ge443_1; rw [hvc_] at ul443_1; have HL443_1 := Aside0.mk (show Kd.V k24 24 _ w.heap.size _ _ ((rd_T53 l0 x10_1).f1) from Kd.V_mk ul443_1 ge443_1); clear hva_ hvn_ hvc_ ge443_1 ul443_1; clear hcc443 hce443; have HR443_1 := Aside0.mk hi443_1; have HC443_1 := Aside0.mk hl443_1; clear hi443_1 hl443_1; replace p443 := eq_true p443; replace q443 := eq_true q443; obtain ⟨Ao39, co39, eo39⟩ := Kd.N_slice HO_5.out; subst eo39) | (go_at_call 33; (with_reducible refine (sets_Has.calls _ _ t411 ((rd_T53 l0 x10_1).f0) _ _ ((rd_T53 l0 x10_1).f1) true _ ?side1 ?side2 ?side3 ?side4 A35.out).mono ?_); (case side1 => exact sC (Kd.N_reads' HO_5.out).2.2); (case side2 => exact (Kd.N_reads' HO_5.out).2.1); (case side3 => repeat (first | exact (by repeat (first | (with_reducible exact HR443_1.out) | (with_reducible refine Kd.C_alloc ?_ _) | (with_reducible refine Kd.C_drewN ?_ _) | (with_reducible refine Kd.C_drew ?_) | exact HR443_1.out)) | (with_reducible refine Kd.C_alloc ?_ _) | (with_reducible refine Kd.C_drewN ?_ _) | (with_reducible refine Kd.C_drew ?_))); (case side4 => exact HC443_1.out); rintro e w40 ⟨rfl, hb⟩; have n0_ := Aside0.mk (Kd.V_below (by (with_reducible repeat (first | apply Kd.V_alloc | apply Kd.V_drewN | apply Kd.V_drew)); exact HO_0.out) hb); have n1_ := Aside0.mk (Kd.N_below (by (with_reducible repeat (first | apply Kd.N_alloc | apply Kd.N_drewN | apply Kd.N_drew)); exact HO_5.out) hb); have n2_ := Aside0.mk (Kd.N_below (by (with_reducible repeat (first | apply Kd.N_alloc | apply Kd.N_drewN | apply Kd.N_drew)); exact HO_7.out) hb); have n3_ := Aside0.mk (Kd.N_below (by (with_reducible repeat (first | apply Kd.N_alloc | apply Kd.N_drewN | apply Kd.N_drew)); exact HO_9.out) hb); have n4_ := Aside0.mk (Kd.V_below (by (with_reducible repeat (first | apply Kd.V_alloc | apply Kd.V_drewN | apply Kd.V_drew)); exact HL438_1.out) hb); have n5_ := Aside0.mk (Kd.N_below (by (with_reducible repeat (first | apply Kd.N_alloc | apply Kd.N_drewN | apply Kd.N_drew)); exact HO441.out) hb); have n6_ := Aside0.mk (Kd.V_below (by (with_reducible repeat (first | apply Kd.V_alloc | apply Kd.V_drewN | apply Kd.V_drew)); exact HL443_1.out) hb); have n7_ := Aside0.mk (Kd.C_below (by repeat (first | (with_reducible exact HR438_1.out) | (with_reducible refine Kd.C_alloc ?_ _) | (with_reducible refine Kd.C_drewN ?_ _) | (with_reducible refine Kd.C_drew ?_) | exact HR438_1.out)) hb); have n8_ := Aside0.mk (Kd.C_below (by repeat (first | (with_reducible exact HR443_1.out) | (with_reducible refine Kd.C_alloc ?_ _) | (with_reducible refine Kd.C_drewN ?_ _) | (with_reducible refine Kd.C_drew ?_) | exact HR443_1.out)) hb); have n9_ := Aside0.mk (below_step bB0 hb); clear HO_0; clear HO_5; clear HO_7; clear HO_9; clear HL438_1; clear HO441; clear HL443_1; clear HR438_1; clear HR443_1; clear HB; have HO_0 := n0_; have HO_5 := n1_; have HO_7 := n2_; have HO_9 := n3_; have HL438_1 := n4_; have HO441 := n5_; have HL443_1 := n6_; have HR438_1 := n7_; have HR443_1 := n8_; have HB := n9_; clear n0_ n1_ n2_ n3_ n4_ n5_ n6_ n7_ n8_ n9_; (try clear hb); (try clear hb2); (try clear hk); (try clear hi)))
                go_roundg k1
                case measure => have := HK1.out; omega
                case rel => exact ⟨(t439), (wrap64 (x10_1 - 1)), (by first | rfl | (simp; done) | (simp [*]; done)), H', ⟨by have := HK1.out; omega⟩, ⟨by (with_reducible repeat (first | apply Kd.V_alloc | apply Kd.V_drewN | apply Kd.V_drew)); exact Kd.V_mono HO_0.out (fun _ hk => ⟨hk.1.1, ⟨hk.1.2.1, ⟨hk.1.2.2.1, hk.2⟩⟩⟩)⟩, ⟨by (with_reducible repeat (first | apply Kd.N_alloc | apply Kd.N_drewN | apply Kd.N_drew)); exact Kd.N_mono HO_5.out (fun _ hk => ⟨hk.1.1, ⟨hk.1.2.1, hk.2⟩⟩)⟩, ⟨by (with_reducible repeat (first | apply Kd.N_alloc | apply Kd.N_drewN | apply Kd.N_drew)); exact Kd.N_mono HO_7.out (fun _ hk => ⟨hk.1.1, ⟨hk.1.2.1, hk.2⟩⟩)⟩, ⟨by (with_reducible repeat (first | apply Kd.N_alloc | apply Kd.N_drewN | apply Kd.N_drew)); exact Kd.N_mono HO441.out (fun _ hk => ⟨hk.1, ⟨hk.2.1, hk.2.2.1⟩⟩)⟩, ⟨bB0⟩⟩
               ·replace c36 := Bool.eq_false_iff.mpr c36
                subst c36
                have H1 : (none) = some r := by rw [if_neg (show ¬ (false = true) by decide)] at H; exact H
                clear H
                have H := H1
                clear H1
                exact absurd H (by simp)
              ·rw [if_neg c34] at H
               exact absurd H (by simp)
             ·rw [if_neg c32] at H
              exact absurd H (by simp)
            ·rw [if_neg c31] at H
             exact absurd H (by simp)
           ·rw [if_neg c30] at H
            have c30b0 : decide (0 ≤ x10_1) = false := decide_eq_false c30
            clear c30
            have H' := Aside0.mk H
            clear H
            go_wp2
            go_loopg [13] k1 (fun kq v13 w' => ∃ (x13_2 : Int), v13 = .int .i64 x13_2 ∧ Aside0 (constablelaw04_SetsSame.l1 kq l0 t411 t434 t435 x9_1 x13_2 = some r) ∧ Aside0 (kq ≤ k1) ∧ Aside0 (Kd.V k53 53 w' w.heap.size (fun k_ => (P0_ k_ ∨ w.heap.size ≤ k_) ∧ some k_ ≠ (v413 : Value).ownBlock ∧ some k_ ≠ (v436 : Value).ownBlock ∧ some k_ ≠ (u9 : Value).ownBlock) (.slice A0 l0.length c0) l0) ∧ Aside0 (Kd.N k53 53 w' w.heap.size (fun k_ => (P0_ k_ ∨ w.heap.size ≤ k_) ∧ some k_ ≠ (v436 : Value).ownBlock ∧ some k_ ≠ (u9 : Value).ownBlock) v413 t411) ∧ Aside0 (Kd.N k53 53 w' w.heap.size (fun k_ => (P0_ k_ ∨ w.heap.size ≤ k_) ∧ some k_ ≠ (v413 : Value).ownBlock ∧ some k_ ≠ (u9 : Value).ownBlock) v436 t434) ∧ Aside0 (Kd.N k53 53 w' w.heap.size (fun k_ => (P0_ k_ ∨ w.heap.size ≤ k_) ∧ some k_ ≠ (v413 : Value).ownBlock ∧ some k_ ≠ (v436 : Value).ownBlock) u9 x9_1) ∧ Aside0 (Below w.heap.size w w'))
            case atStart => exact ⟨(0), (by first | rfl | (simp; done) | (simp [*]; done)), H', ⟨Nat.le_refl _⟩, ⟨by (with_reducible repeat (first | apply Kd.V_alloc | apply Kd.V_drewN | apply Kd.V_drew)); exact HO_0.out⟩, ⟨by (with_reducible repeat (first | apply Kd.N_alloc | apply Kd.N_drewN | apply Kd.N_drew)); exact HO_5.out⟩, ⟨by (with_reducible repeat (first | apply Kd.N_alloc | apply Kd.N_drewN | apply Kd.N_drew)); exact HO_7.out⟩, ⟨by (with_reducible repeat (first | apply Kd.N_alloc | apply Kd.N_drewN | apply Kd.N_drew)); exact HO_9.out⟩, ⟨bB0⟩⟩
            case round =>
             clear H'
             (try clear c1); (try clear c2); (try clear p2); (try clear q2); (try clear c3); (try clear c4); (try clear p4); (try clear q4); (try clear hx4); (try clear c6); (try clear c6b0); (try clear c6b1); (try clear c6b2); (try clear p6); (try clear c7); (try clear c9); (try clear c9b0); (try clear c9b1); (try clear c10); (try clear c10b0); (try clear c10b1); (try clear c12); (try clear c12b0); (try clear c12b1); (try clear c13); (try clear c13b0); (try clear c13b1); (try clear c14); (try clear c15); (try clear c15b0); (try clear c16); (try clear c16b0); (try clear c17); (try clear c22); (try clear q22); (try clear q23); (try clear c29); (try clear c30); (try clear c30b0); (try clear c31); (try clear c31b0); (try clear c32); (try clear c32b0); (try clear c34); (try clear c34b0); (try clear c34b1); (try clear c36); (try clear hx438_0); (try clear hx438_1); (try clear hx443_0); (try clear hx443_1); (try clear p2); (try clear p438); (try clear p443); (try clear p6); (try clear q022); (try clear q2); (try clear q22); (try clear q23); (try clear q438); (try clear q443)
             obtain ⟨x13_2, rfl, HA, HK2, HO_0, HO_5, HO_7, HO_9, HB⟩ := hrel
             cases gk with
             | zero => exact absurd HA.out (by simp [constablelaw04_SetsSame.l1])
             | succ k2 =>
              have H := HA.out
              clear HA
              simp only [constablelaw04_SetsSame.l1] at H
              by_cases c41 : x13_2 < (t411.length : Int)
              ·rw [if_pos c41] at H
               have c41b0 : decide (x13_2 < (t411.length : Int)) = true := decide_eq_true c41
               clear c41
               by_cases c42 : 0 ≤ x13_2
               ·rw [if_pos c42] at H
                have c42b0 : decide (0 ≤ x13_2) = true := decide_eq_true c42
                clear c42
                replace H := Option.bind_eq_some_iff.mp H
                obtain ⟨t446, A430, H⟩ := H
                replace H : (if t446 = true then (constablelaw04_SetsSame.l1 k2 l0 t411 t434 t435 x9_1 (wrap64 (x13_2 + 1))) else (none)) = some r := H
                have A43 := Aside0.mk A430
                clear A430
                by_cases c44 : t446 = true
                ·subst c44
                 have H1 : (constablelaw04_SetsSame.l1 k2 l0 t411 t434 t435 x9_1 (wrap64 (x13_2 + 1))) = some r := by rw [if_pos rfl] at H; exact H
                 clear H
                 have H := H1
                 clear H1
                 have H' := Aside0.mk H
                 clear H
                 obtain ⟨Ao45, co45, eo45⟩ := Kd.N_slice HO_5.out
                 subst eo45
                 have p445 : 0 ≤ (x13_2 : Int) := of_decide_eq_true (by first | (with_reducible assumption) | assumption)
                 have q445 : x13_2 < (t411.length : Int) := of_decide_eq_true (by first | (with_reducible assumption) | assumption)
                 obtain ⟨ad445, A445_1, c445_1, e445, hx445_0, hx445_1, hl445_1, hi445_1⟩ := at_T53 (Kd.N_reads' HO_5.out).2.2 x13_2 p445 q445
                 cases e445
                 obtain ⟨ce445, hce445, hMe445, hcc445⟩ := Kd.N_get HO_5.out z53 x13_2 p445 (by first | exact q445 | exact of_decide_eq_true (by first | (with_reducible assumption) | assumption) | (have e_ := (Kd.N_reads' HO_5.out).1; omega))
                 obtain ⟨ua445_1, uc445_1, rfl, ul445_1, ge445_1⟩ := k53_openF hMe445
                 have hv445_1 := hcc445 1 _ rfl
                 rw [add_field _ _ 1 (by omega)] at hv445_1
                 replace hv445_1 := Option.some.inj (hv445_1.symm.trans hx445_1)
                 injection hv445_1 with hva_ hvn_ hvc_
                 rw [hva_] at ge445_1
                 rw [hvc_] at ul445_1
                 have HL445_1 := Aside0.mk (show Kd.V k24 24 _ w.heap.size _ _ ((rd_T53 t411 x13_2).f1) from Kd.V_mk ul445_1 ge445_1)
                 clear hva_ hvn_ hvc_ ge445_1 ul445_1
                 clear hcc445 hce445
                 have HR445_1 := Aside0.mk hi445_1
                 have HC445_1 := Aside0.mk hl445_1
                 clear hi445_1 hl445_1
                 replace p445 := eq_true p445
                 replace q445 := eq_true q445
                 go_wp2_with (first | ((with_reducible refine gate_callee (f := 33) rfl ?_); refine goesL_ (some 97) rfl rfl Try.func33 (by kernel_rfl) rfl #[.slice A0 l0.length c0, .agg #[.string ((rd_T53 t411 x13_2).f0), .slice A445_1 ((rd_T53 t411 x13_2).f1).length c445_1]] rfl aG ?_; (with_reducible refine (sets_Has.calls _ _ l0 ((rd_T53 t411 x13_2).f0) _ _ ((rd_T53 t411 x13_2).f1) true _ ?side1 ?side2 ?side3 ?side4 A43.out).mono ?_); (case side1 => exact sC (Kd.V_reads' HO_0.out).2.2); (case side2 => exact (Kd.V_reads' HO_0.out).2.1); (case side3 => repeat (first | exact (by repeat (first | (with_reducible exact HR445_1.out) | (with_reducible refine Kd.C_alloc ?_ _) | (with_reducible refine Kd.C_drewN ?_ _) | (with_reducible refine Kd.C_drew ?_) | exact HR445_1.out)) | (with_reducible refine Kd.C_alloc ?_ _) | (with_reducible refine Kd.C_drewN ?_ _) | (with_reducible refine Kd.C_drew ?_))); (case side4 => exact HC445_1.out); rintro e w46 ⟨rfl, hb⟩; refine ⟨_, rfl, ?_⟩; have n0_ := Aside0.mk (Kd.V_below (by (with_reducible repeat (first | apply Kd.V_alloc | apply Kd.V_drewN | apply Kd.V_drew)); exact HO_0.out) hb); have n1_ := Aside0.mk (Kd.N_below (by (with_reducible repeat (first | apply Kd.N_alloc | apply Kd.N_drewN | apply Kd.N_drew)); exact HO_5.out) hb); have n2_ := Aside0.mk (Kd.N_below (by (with_reducible repeat (first | apply Kd.N_alloc | apply Kd.N_drewN | apply Kd.N_drew)); exact HO_7.out) hb); have n3_ := Aside0.mk (Kd.N_below (by (with_reducible repeat (first | apply Kd.N_alloc | apply Kd.N_drewN | apply Kd.N_drew)); exact HO_9.out) hb); have n4_ := Aside0.mk (Kd.V_below (by (with_reducible repeat (first | apply Kd.V_alloc | apply Kd.V_drewN | apply Kd.V_drew)); exact HL445_1.out) hb); have n5_ := Aside0.mk (Kd.C_below (by repeat (first | (with_reducible exact HR445_1.out) | (with_reducible refine Kd.C_alloc ?_ _) | (with_reducible refine Kd.C_drewN ?_ _) | (with_reducible refine Kd.C_drew ?_) | exact HR445_1.out)) hb); have n6_ := Aside0.mk (below_step bB0 hb); clear HO_0; clear HO_5; clear HO_7; clear HO_9; clear HL445_1; clear HR445_1; clear HB; have HO_0 := n0_; have HO_5 := n1_; have HO_7 := n2_; have HO_9 := n3_; have HL445_1 := n4_; have HR445_1 := n5_; have HB := n6_; clear n0_ n1_ n2_ n3_ n4_ n5_ n6_; (try clear hb); (try clear hb2); (try clear hk); (try clear hi)))
                 go_roundg k2
                 case measure => have := HK1.out; have := HK2.out; omega
                 case rel => exact ⟨(wrap64 (x13_2 + 1)), (by first | rfl | (simp; done) | (simp [*]; done)), H', ⟨by have := HK1.out; have := HK2.out; omega⟩, ⟨by (with_reducible repeat (first | apply Kd.V_alloc | apply Kd.V_drewN | apply Kd.V_drew)); exact HO_0.out⟩, ⟨by (with_reducible repeat (first | apply Kd.N_alloc | apply Kd.N_drewN | apply Kd.N_drew)); exact HO_5.out⟩, ⟨by (with_reducible repeat (first | apply Kd.N_alloc | apply Kd.N_drewN | apply Kd.N_drew)); exact HO_7.out⟩, ⟨by (with_reducible repeat (first | apply Kd.N_alloc | apply Kd.N_drewN | apply Kd.N_drew)); exact HO_9.out⟩, ⟨bB0⟩⟩
                ·replace c44 := Bool.eq_false_iff.mpr c44
                 subst c44
                 have H1 : (none) = some r := by rw [if_neg (show ¬ (false = true) by decide)] at H; exact H
                 clear H
                 have H := H1
                 clear H1
                 exact absurd H (by simp)
               ·rw [if_neg c42] at H
                exact absurd H (by simp)
              ·rw [if_neg c41] at H
               have c41b0 : decide (x13_2 < (t411.length : Int)) = false := decide_eq_false c41
               clear c41
               by_cases c47 : t435 = 0
               ·rw [if_pos c47] at H
                have c47b0 : (t435 == 0) = true := beq_iff_eq.mpr c47
                have c47b1 : (t435 != 0) = false := bne_eq_false_iff_eq.mpr c47
                clear c47
                replace H := Option.bind_eq_some_iff.mp H
                obtain ⟨t447, A480, H⟩ := H
                replace H : (if t447 = true then ((constablekeep_Facts.f k2 t411 x9_1).bind fun t448 => (if t448 = true then ((sets_Check.f k2 t411).bind fun t449 => (if t449 = 0 then ((constablelaw04_wakes.f).bind fun t450 => (some t450)) else (none))) else (none))) else (none)) = some r := H
                have A48 := Aside0.mk A480
                clear A480
                by_cases c49 : t447 = true
                ·subst c49
                 have H1 : ((constablekeep_Facts.f k2 t411 x9_1).bind fun t448 => (if t448 = true then ((sets_Check.f k2 t411).bind fun t449 => (if t449 = 0 then ((constablelaw04_wakes.f).bind fun t450 => (some t450)) else (none))) else (none))) = some r := by rw [if_pos rfl] at H; exact H
                 clear H
                 have H := H1
                 clear H1
                 replace H := Option.bind_eq_some_iff.mp H
                 obtain ⟨t448, A500, H⟩ := H
                 replace H : (if t448 = true then ((sets_Check.f k2 t411).bind fun t449 => (if t449 = 0 then ((constablelaw04_wakes.f).bind fun t450 => (some t450)) else (none))) else (none)) = some r := H
                 have A50 := Aside0.mk A500
                 clear A500
                 by_cases c51 : t448 = true
                 ·subst c51
                  have H1 : ((sets_Check.f k2 t411).bind fun t449 => (if t449 = 0 then ((constablelaw04_wakes.f).bind fun t450 => (some t450)) else (none))) = some r := by rw [if_pos rfl] at H; exact H
                  clear H
                  have H := H1
                  clear H1
                  replace H := Option.bind_eq_some_iff.mp H
                  obtain ⟨t449, A520, H⟩ := H
                  replace H : (if t449 = 0 then ((constablelaw04_wakes.f).bind fun t450 => (some t450)) else (none)) = some r := H
                  have A52 := Aside0.mk A520
                  clear A520
                  by_cases c53 : t449 = 0
                  ·rw [if_pos c53] at H
                   have c53b0 : (t449 == 0) = true := beq_iff_eq.mpr c53
                   have c53b1 : (t449 != 0) = false := bne_eq_false_iff_eq.mpr c53
                   clear c53
                   replace H := Option.bind_eq_some_iff.mp H
                   obtain ⟨t450, A540, H⟩ := H
                   replace H : (some t450) = some r := H
                   have A54 := Aside0.mk A540
                   clear A540
                   obtain rfl := Option.some.inj H
                   obtain ⟨Ao55, co55, eo55⟩ := Kd.N_slice HO_5.out
                   subst eo55
                   obtain ⟨Ao56, co56, eo56⟩ := Kd.N_slice HO_7.out
                   subst eo56
                   go_wp2_with (first | (go_at_call 34; (with_reducible refine (constablekeep_Facts.calls k2 _ _ t411 _ _ t434 true _ ?side1 ?side2 ?side3 ?side4 A48.out).mono ?_); (case side1 => exact sC (Kd.N_reads' HO_5.out).2.2); (case side2 => exact (Kd.N_reads' HO_5.out).2.1); (case side3 => exact sC (Kd.N_reads' HO_7.out).2.2); (case side4 => exact (Kd.N_reads' HO_7.out).2.1); rintro e w57 ⟨rfl, hb⟩; have n0_ := Aside0.mk (Kd.V_below (by (with_reducible repeat (first | apply Kd.V_alloc | apply Kd.V_drewN | apply Kd.V_drew)); exact HO_0.out) hb); have n1_ := Aside0.mk (Kd.N_below (by (with_reducible repeat (first | apply Kd.N_alloc | apply Kd.N_drewN | apply Kd.N_drew)); exact HO_5.out) hb); have n2_ := Aside0.mk (Kd.N_below (by (with_reducible repeat (first | apply Kd.N_alloc | apply Kd.N_drewN | apply Kd.N_drew)); exact HO_7.out) hb); have n3_ := Aside0.mk (Kd.N_below (by (with_reducible repeat (first | apply Kd.N_alloc | apply Kd.N_drewN | apply Kd.N_drew)); exact HO_9.out) hb); have n4_ := Aside0.mk (below_step bB0 hb); clear HO_0; clear HO_5; clear HO_7; clear HO_9; clear HB; have HO_0 := n0_; have HO_5 := n1_; have HO_7 := n2_; have HO_9 := n3_; have HB := n4_; clear n0_ n1_ n2_ n3_ n4_; (try clear hb); (try clear hb2); (try clear hk); (try clear hi); obtain ⟨Ao58, co58, eo58⟩ := Kd.N_slice HO_9.out; subst eo58) | (go_at_call 34; (with_reducible refine (constablekeep_Facts.calls k2 _ _ t411 _ _ x9_1 true _ ?side1 ?side2 ?side3 ?side4 A50.out).mono ?_); (case side1 => exact sC (Kd.N_reads' HO_5.out).2.2); (case side2 => exact (Kd.N_reads' HO_5.out).2.1); (case side3 => exact sC (Kd.N_reads' HO_9.out).2.2); (case side4 => exact (Kd.N_reads' HO_9.out).2.1); rintro e w59 ⟨rfl, hb⟩; have n0_ := Aside0.mk (Kd.V_below (by (with_reducible repeat (first | apply Kd.V_alloc | apply Kd.V_drewN | apply Kd.V_drew)); exact HO_0.out) hb); have n1_ := Aside0.mk (Kd.N_below (by (with_reducible repeat (first | apply Kd.N_alloc | apply Kd.N_drewN | apply Kd.N_drew)); exact HO_5.out) hb); have n2_ := Aside0.mk (Kd.N_below (by (with_reducible repeat (first | apply Kd.N_alloc | apply Kd.N_drewN | apply Kd.N_drew)); exact HO_7.out) hb); have n3_ := Aside0.mk (Kd.N_below (by (with_reducible repeat (first | apply Kd.N_alloc | apply Kd.N_drewN | apply Kd.N_drew)); exact HO_9.out) hb); have n4_ := Aside0.mk (below_step bB0 hb); clear HO_0; clear HO_5; clear HO_7; clear HO_9; clear HB; have HO_0 := n0_; have HO_5 := n1_; have HO_7 := n2_; have HO_9 := n3_; have HB := n4_; clear n0_ n1_ n2_ n3_ n4_; (try clear hb); (try clear hb2); (try clear hk); (try clear hi)) | (go_at_call 35; (with_reducible refine (sets_Check.calls k2 _ _ t411 t449 _ ?side1 ?side2 A52.out).mono ?_); (case side1 => exact sC (Kd.N_reads' HO_5.out).2.2); (case side2 => exact (Kd.N_reads' HO_5.out).2.1); rintro e w60 ⟨rfl, hb⟩; have n0_ := Aside0.mk (Kd.V_below (by (with_reducible repeat (first | apply Kd.V_alloc | apply Kd.V_drewN | apply Kd.V_drew)); exact HO_0.out) hb); have n1_ := Aside0.mk (Kd.N_below (by (with_reducible repeat (first | apply Kd.N_alloc | apply Kd.N_drewN | apply Kd.N_drew)); exact HO_5.out) hb); have n2_ := Aside0.mk (Kd.N_below (by (with_reducible repeat (first | apply Kd.N_alloc | apply Kd.N_drewN | apply Kd.N_drew)); exact HO_7.out) hb); have n3_ := Aside0.mk (Kd.N_below (by (with_reducible repeat (first | apply Kd.N_alloc | apply Kd.N_drewN | apply Kd.N_drew)); exact HO_9.out) hb); have n4_ := Aside0.mk (below_step bB0 hb); clear HO_0; clear HO_5; clear HO_7; clear HO_9; clear HB; have HO_0 := n0_; have HO_5 := n1_; have HO_7 := n2_; have HO_9 := n3_; have HB := n4_; clear n0_ n1_ n2_ n3_ n4_; (try clear hb); (try clear hb2); (try clear hk); (try clear hi)) | (go_at_call 31; (with_reducible refine (constablelaw04_wakes.calls  t450 _ A54.out).mono ?_); rintro e w61 ⟨rfl, hb⟩; have n0_ := Aside0.mk (Kd.V_below (by (with_reducible repeat (first | apply Kd.V_alloc | apply Kd.V_drewN | apply Kd.V_drew)); exact HO_0.out) hb); have n1_ := Aside0.mk (Kd.N_below (by (with_reducible repeat (first | apply Kd.N_alloc | apply Kd.N_drewN | apply Kd.N_drew)); exact HO_5.out) hb); have n2_ := Aside0.mk (Kd.N_below (by (with_reducible repeat (first | apply Kd.N_alloc | apply Kd.N_drewN | apply Kd.N_drew)); exact HO_7.out) hb); have n3_ := Aside0.mk (Kd.N_below (by (with_reducible repeat (first | apply Kd.N_alloc | apply Kd.N_drewN | apply Kd.N_drew)); exact HO_9.out) hb); have n4_ := Aside0.mk (below_step bB0 hb); clear HO_0; clear HO_5; clear HO_7; clear HO_9; clear HB; have HO_0 := n0_; have HO_5 := n1_; have HO_7 := n2_; have HO_9 := n3_; have HB := n4_; clear n0_ n1_ n2_ n3_ n4_; (try clear hb); (try clear hb2); (try clear hk); (try clear hi)))
                   go_ret
                   exact ⟨by first | rfl | (simp [errW_none, errW_some] <;> rfl) | (simp only [← hji11]; first | rfl | (simp [errW_none, errW_some] <;> rfl)) | (simp [*, errW_none, errW_some] <;> rfl), bB0⟩
                  ·rw [if_neg c53] at H
                   exact absurd H (by simp)
                 ·replace c51 := Bool.eq_false_iff.mpr c51
                  subst c51
                  have H1 : (none) = some r := by rw [if_neg (show ¬ (false = true) by decide)] at H; exact H
                  clear H
                  have H := H1
                  clear H1
                  exact absurd H (by simp)
                ·replace c49 := Bool.eq_false_iff.mpr c49
                 subst c49
                 have H1 : (none) = some r := by rw [if_neg (show ¬ (false = true) by decide)] at H; exact H
                 clear H
                 have H := H1
                 clear H1
                 exact absurd H (by simp)
               ·rw [if_neg c47] at H
                exact absurd H (by simp)
        ·rw [if_neg c17] at H
         exact absurd H (by simp)
       ·rw [if_neg c14] at H
        exact absurd H (by simp)
      ·rw [if_neg c13] at H
       exact absurd H (by simp)
     ·rw [if_neg c12] at H
      exact absurd H (by simp)
   ·rw [if_neg c9] at H
    have c9b0 : (t412 == 0) = false := beq_eq_false_iff_ne.mpr c9
    have c9b1 : (t412 != 0) = true := bne_iff_ne.mpr c9
    by_cases c62 : t412 = 1
    ·rw [if_pos c62] at H
     have c62b0 : (t412 == 1) = true := beq_iff_eq.mpr c62
     have c62b1 : (t412 != 1) = false := bne_eq_false_iff_eq.mpr c62
     clear c62
     by_cases c63 : (t411.length : Int) = 0
     ·rw [if_pos c63] at H
      have c63b0 : ((t411.length : Int) == 0) = true := beq_iff_eq.mpr c63
      have c63b1 : ((t411.length : Int) != 0) = false := bne_eq_false_iff_eq.mpr c63
      clear c63
      replace H := Option.bind_eq_some_iff.mp H
      obtain ⟨t451, A640, H⟩ := H
      replace H : (some t451) = some r := H
      have A64 := Aside0.mk A640
      clear A640
      obtain rfl := Option.some.inj H
      go_enter Try.func7, Try.ntmps7
      go_wp2_with (first | ((with_reducible refine gate_callee (f := 29) rfl ?_); refine goesL_ (some 15) rfl rfl Try.func29 (by kernel_rfl) rfl #[.slice A0 l0.length c0] rfl aG ?_; (with_reducible refine (constablelaw03_Many.calls k _ _ l0 false _ ?side1 ?side2 A3.out).mono ?_); (case side1 => exact sC (Kd.V_reads' HO0.out).2.2); (case side2 => exact (Kd.V_reads' HO0.out).2.1); rintro e w65 ⟨rfl, hb⟩; refine ⟨_, rfl, ?_⟩; have n0_ := Aside0.mk (Kd.V_below (by (with_reducible repeat (first | apply Kd.V_alloc | apply Kd.V_drewN | apply Kd.V_drew)); exact HO0.out) hb); have n1_ := Aside0.mk (below_step bB0 hb); clear HO0; clear HB; have HO0 := n0_; have HB := n1_; clear n0_ n1_; (try clear hb); (try clear hb2); (try clear hk); (try clear hi)) | ((with_reducible refine gate_callee (f := 30) rfl ?_); refine goesL_ (some 23) rfl rfl Try.func30 (by kernel_rfl) rfl #[.slice A0 l0.length c0] rfl aG ?_; (with_reducible refine (sets_Of.calls _ _ l0 t411 t412 _ ?side1 ?side2 A8.out).mono ?_); (case side1 => exact sC (Kd.V_reads' HO0.out).2.2); (case side2 => exact (Kd.V_reads' HO0.out).2.1); rintro e w66 ⟨v413, rfl, ho0, hb⟩; refine ⟨_, rfl, ?_⟩; have n0_ := Aside0.mk (Kd.V_elder' (by (with_reducible repeat (first | apply Kd.V_alloc | apply Kd.V_drewN | apply Kd.V_drew)); exact HO0.out) (by first | exact Kd.N_base ho0 | exact Kd.S_base ho0) hb); have n1_ := Aside0.mk (Kd.N_lower (Kd.N_mono (ok' := fun k_ => (P0_ k_ ∨ w.heap.size ≤ k_)) (Kd.S_N (Kd.S_bound ho0)) (fun k_ hk_ => (.inr (Nat.le_trans (below_size bB0) hk_.2.1)))) (below_size bB0)); have n2_ := Aside0.mk (below_step bB0 hb); clear HO0; clear HB; have HO0 := n0_; have HO414 := n1_; have HB := n2_; clear n0_ n1_ n2_; (try clear hb); (try clear hb2); (try clear hk); (try clear hi); (try clear ho0); obtain ⟨Ao67, co67, eo67⟩ := Kd.N_slice HO414.out; subst eo67) | (go_at_call 31; (with_reducible refine (constablelaw04_wakes.calls  t451 _ A64.out).mono ?_); rintro e w68 ⟨rfl, hb⟩; have n0_ := Aside0.mk (Kd.V_below (by (with_reducible repeat (first | apply Kd.V_alloc | apply Kd.V_drewN | apply Kd.V_drew)); exact HO0.out) hb); have n1_ := Aside0.mk (Kd.N_below (by (with_reducible repeat (first | apply Kd.N_alloc | apply Kd.N_drewN | apply Kd.N_drew)); exact HO414.out) hb); have n2_ := Aside0.mk (below_step bB0 hb); clear HO0; clear HO414; clear HB; have HO0 := n0_; have HO414 := n1_; have HB := n2_; clear n0_ n1_ n2_; (try clear hb); (try clear hb2); (try clear hk); (try clear hi)))
      go_ret
      exact ⟨eW, bB0⟩
     ·rw [if_neg c63] at H
      exact absurd H (by simp)
    ·rw [if_neg c62] at H
     exact absurd H (by simp)

end Go.Proofs.Ytghommaokdhjmaa.P
/- What an argument's reading tells of its cells: whole numbers, texts, Values, Binds, and rows of them. -/
set_option linter.unusedVariables false
namespace Go.Proofs.Ytghommaokdhjmaa.Open
open Go.RowKit Go.Proofs.YtghommaokdhjmaaW.PrintWords Go.Proofs.Ytghommaokdhjmaa.P
variable {H : Type} {enc : TypeId × Value → H} {P : Program} {w : World} {base : Nat} {sp : Nat → Bool} {held : Bool}
theorem trod_int {t : TypeId} {k : IntKind} (ht : P.underlying t = some (.int k)) {fuel : Nat} {cs : List Value} {x : DataW H × List MemPlace} (h : DataW.trod enc P w base sp held fuel t cs = some x) : ∃ n, cs = [.int k n] ∧ (Lit.int k n).wf = true := by
  cases fuel with
  | zero => simp [DataW.trod] at h
  | succ n =>
    unfold DataW.trod at h
    rw [ht] at h
    split at h <;> simp_all
theorem trod_string {t : TypeId} (ht : P.underlying t = some .string) {fuel : Nat} {cs : List Value} {x : DataW H × List MemPlace} (h : DataW.trod enc P w base sp held fuel t cs = some x) : ∃ s, cs = [.string s] ∧ s.size ≤ maxLen := by
  cases fuel with
  | zero => simp [DataW.trod] at h
  | succ n =>
    unfold DataW.trod at h
    rw [ht] at h
    split at h <;> simp_all

/-- Readings of an element type tell a kind. -/
def Tells (H : Type) (enc : TypeId × Value → H) (P : Program) (base : Nat) (sp : Nat → Bool) (held : Bool) {α : Type} (d : Kd α) (e : TypeId) : Prop :=
  ∀ (w : World) (fuel : Nat) (cs : List Value) (x : DataW H × List MemPlace), DataW.trod enc P w base sp held fuel e cs = some x → ∃ p, d.K w p cs
theorem list_of {α : Type} {Q : Nat → α → Prop} : ∀ (n : Nat), (∀ i, i < n → ∃ p, Q i p) → ∃ l : List α, l.length = n ∧ ∀ j p, l[j]? = some p → Q j p
  | 0, _ => ⟨[], rfl, fun j p h => by simp at h⟩
  | n + 1, h => by
    obtain ⟨l, hl, hq⟩ := list_of n (fun i hi => h i (by omega))
    obtain ⟨p, hp⟩ := h n (by omega)
    refine ⟨l ++ [p], by simp [hl], fun j q hj => ?_⟩
    rcases Nat.lt_trichotomy j n with h1 | h1 | h1
    · rw [List.getElem?_append_left (by omega)] at hj; exact hq j q hj
    · subst h1
      rw [List.getElem?_append_right (by omega), hl, Nat.sub_self] at hj
      obtain rfl : p = q := by simpa using hj
      exact hp
    · rw [List.getElem?_eq_none (by simp; omega)] at hj; cases hj
theorem add_add' (a : Addr) (i j : Nat) : (a.add i).add j = a.add (i + j) := by
  unfold Addr.add
  by_cases hi : i = 0 <;> by_cases hj : j = 0 <;> simp [hi, hj, Nat.add_assoc]
theorem tells_row {α : Type} {d : Kd α} {t e : TypeId} (ht : P.underlying t = some (.slice e)) (hs : P.cellsOf e = d.sz) (hd : Tells H enc P base sp held d e) {fuel : Nat} {cs : List Value} {x : DataW H × List MemPlace}
    (h : DataW.trod enc P w base sp held fuel t cs = some x) : ∃ (A : Option Addr) (c : Nat) (l : List α), cs = [.slice A l.length c] ∧ l.length ≤ c ∧ Kd.C d w A l.length l := by
  rcases DataW.trod_slice ht h with ⟨rfl, _⟩ | ⟨a, len, cap, elems, rest, n, _, rfl, _, _, hl, hcm, hlen, hel, _⟩
  · exact ⟨none, 0, [], rfl, Nat.le_refl _, rfl, by simp, fun h => absurd h (Nat.lt_irrefl _)⟩
  · have hex : ∀ i, i < len → ∃ (p : α), ∃ c : List Value, c.length = d.sz ∧ d.K w p c ∧ ∀ j u, c[j]? = some u → w.cell? (a.add (i * d.sz + j)) = some u := by
      intro i hi
      have h1 := hel i hi
      rw [List.getElem?_eq_getElem (by omega), Option.bind_eq_some_iff] at h1
      obtain ⟨c, hc, htr⟩ := h1
      obtain ⟨p, hp⟩ := hd w _ _ _ htr
      obtain ⟨_, hcl, hcell⟩ := World.cells?_some hc
      refine ⟨p, c, by rw [hcl, hs], hp, fun j u hj => ?_⟩
      have hj' : j < P.cellsOf e := by rw [← hcl]; exact (List.getElem?_eq_some_iff.1 hj).1
      rw [← hs, ← add_add', hcell j hj', hj]
    obtain ⟨l, hll, hq⟩ := list_of len hex
    refine ⟨some a, cap, l, by rw [hll], by omega, rfl, by unfold maxLen at hcm; omega, fun _ => ⟨a, rfl, hq⟩⟩

set_option maxRecDepth 100000 in
theorem tells24 : Tells H enc Try.prog base sp held k24 24 := by
  intro w fuel cs x h
  obtain ⟨xs, n, _, rfl, hl, hlen, hf⟩ := DataW.trod_struct Try.underlying24 h
  have hc : Try.prog.cellsOf 24 = 3 := by kernel_rfl
  have h9 : Try.prog.cellsOf 9 = 1 := by kernel_rfl
  have h3 : Try.prog.cellsOf 3 = 1 := by kernel_rfl
  rw [hc] at hl
  obtain ⟨a, b, c, rfl⟩ : ∃ a b c, cs = [a, b, c] := by
    match cs, hl with
    | [a, b, c], _ => exact ⟨a, b, c, rfl⟩
  obtain ⟨y0, y1, y2, rfl⟩ : ∃ y0 y1 y2, xs = [y0, y1, y2] := by
    match xs, hlen with
    | [y0, y1, y2], _ => exact ⟨y0, y1, y2, rfl⟩
  have g0 : DataW.trod enc Try.prog w base sp held n 3 (List.take (Try.prog.cellsOf 3) (List.drop 0 [a, b, c])) = some y0 := hf 0 _ rfl
  have g1 : DataW.trod enc Try.prog w base sp held n 3 (List.take (Try.prog.cellsOf 3) (List.drop 1 [a, b, c])) = some y1 := hf 1 _ rfl
  have g2 : DataW.trod enc Try.prog w base sp held n 9 (List.take (Try.prog.cellsOf 9) (List.drop 2 [a, b, c])) = some y2 := hf 2 _ rfl
  rw [h3] at g0 g1
  rw [h9] at g2
  obtain ⟨n0, e0, _⟩ := trod_int Try.underlying3 g0
  obtain ⟨n1, e1, _⟩ := trod_int Try.underlying3 g1
  obtain ⟨s2, e2, _⟩ := trod_string Try.underlying9 g2
  obtain rfl : a = _ := by simpa using e0
  obtain rfl : b = _ := by simpa using e1
  obtain rfl : c = _ := by simpa using e2
  exact ⟨⟨n0, n1, s2⟩, k24_mk w _⟩
set_option maxRecDepth 100000 in
theorem tells39 : Tells H enc Try.prog base sp held k39 39 := by
  intro w fuel cs x h
  obtain ⟨xs, n, _, rfl, hl, hlen, hf⟩ := DataW.trod_struct Try.underlying39 h
  have hc : Try.prog.cellsOf 39 = 4 := by kernel_rfl
  have h9 : Try.prog.cellsOf 9 = 1 := by kernel_rfl
  have h3 : Try.prog.cellsOf 24 = 3 := by kernel_rfl
  rw [hc] at hl
  obtain ⟨a, b, c, e, rfl⟩ : ∃ a b c e, cs = [a, b, c, e] := by
    match cs, hl with
    | [a, b, c, e], _ => exact ⟨a, b, c, e, rfl⟩
  obtain ⟨y0, y1, rfl⟩ : ∃ y0 y1, xs = [y0, y1] := by
    match xs, hlen with
    | [y0, y1], _ => exact ⟨y0, y1, rfl⟩
  have g0 : DataW.trod enc Try.prog w base sp held n 9 (List.take (Try.prog.cellsOf 9) (List.drop 0 [a, b, c, e])) = some y0 := hf 0 _ rfl
  have g1 : DataW.trod enc Try.prog w base sp held n 24 (List.take (Try.prog.cellsOf 24) (List.drop 1 [a, b, c, e])) = some y1 := hf 1 _ rfl
  rw [h9] at g0
  rw [h3] at g1
  obtain ⟨s0, e0, _⟩ := trod_string Try.underlying9 g0
  obtain ⟨v, hv⟩ := tells24 w _ _ _ g1
  obtain rfl : a = _ := by simpa using e0
  have hv' := k24_open hv
  simp only [List.drop_succ_cons, List.drop_zero, List.take_succ_cons, List.take_zero, List.cons.injEq, and_true] at hv'
  obtain ⟨rfl, rfl, rfl⟩ := hv'
  exact ⟨⟨s0, v⟩, k39_mk w _⟩
end Go.Proofs.Ytghommaokdhjmaa.Open
/- What an argument's reading tells of its cells: Terms, Facts, Atoms; no condition. -/
set_option linter.unusedVariables false
namespace Go.Proofs.Ytghommaokdhjmaa.Open
open Go.RowKit Go.Proofs.YtghommaokdhjmaaW.PrintWords Go.Proofs.Ytghommaokdhjmaa.P
variable {H : Type} {enc : TypeId × Value → H} {P : Program} {w : World} {base : Nat} {sp : Nat → Bool} {held : Bool}
set_option maxRecDepth 100000 in
theorem tells77 : Tells H enc Try.prog base sp held k77 77 := by
  intro w fuel cs x h
  obtain ⟨xs, n, _, rfl, hl, hlen, hf⟩ := DataW.trod_struct Try.underlying77 h
  have hc : Try.prog.cellsOf 77 = 4 := by kernel_rfl
  have h9 : Try.prog.cellsOf 9 = 1 := by kernel_rfl
  have h3 : Try.prog.cellsOf 24 = 3 := by kernel_rfl
  rw [hc] at hl
  obtain ⟨a, b, c, e, rfl⟩ : ∃ a b c e, cs = [a, b, c, e] := by
    match cs, hl with
    | [a, b, c, e], _ => exact ⟨a, b, c, e, rfl⟩
  obtain ⟨y0, y1, rfl⟩ : ∃ y0 y1, xs = [y0, y1] := by
    match xs, hlen with
    | [y0, y1], _ => exact ⟨y0, y1, rfl⟩
  have g0 : DataW.trod enc Try.prog w base sp held n 9 (List.take (Try.prog.cellsOf 9) (List.drop 0 [a, b, c, e])) = some y0 := hf 0 _ rfl
  have g1 : DataW.trod enc Try.prog w base sp held n 24 (List.take (Try.prog.cellsOf 24) (List.drop 1 [a, b, c, e])) = some y1 := hf 1 _ rfl
  rw [h9] at g0
  rw [h3] at g1
  obtain ⟨s0, e0, _⟩ := trod_string Try.underlying9 g0
  obtain ⟨v, hv⟩ := tells24 w _ _ _ g1
  obtain rfl : a = _ := by simpa using e0
  have hv' := k24_open hv
  simp only [List.drop_succ_cons, List.drop_zero, List.take_succ_cons, List.take_zero, List.cons.injEq, and_true] at hv'
  obtain ⟨rfl, rfl, rfl⟩ := hv'
  exact ⟨⟨s0, v⟩, k77_mk w _⟩
set_option maxRecDepth 100000 in
theorem tells53 : Tells H enc Try.prog base sp held k53 53 := by
  intro w fuel cs x h
  obtain ⟨xs, n, _, rfl, hl, hlen, hf⟩ := DataW.trod_struct Try.underlying53 h
  have hc : Try.prog.cellsOf 53 = 2 := by kernel_rfl
  have h9 : Try.prog.cellsOf 9 = 1 := by kernel_rfl
  have h3 : Try.prog.cellsOf 51 = 1 := by kernel_rfl
  rw [hc] at hl
  obtain ⟨a, b, rfl⟩ : ∃ a b, cs = [a, b] := by
    match cs, hl with
    | [a, b], _ => exact ⟨a, b, rfl⟩
  obtain ⟨y0, y1, rfl⟩ : ∃ y0 y1, xs = [y0, y1] := by
    match xs, hlen with
    | [y0, y1], _ => exact ⟨y0, y1, rfl⟩
  have g0 : DataW.trod enc Try.prog w base sp held n 9 (List.take (Try.prog.cellsOf 9) (List.drop 0 [a, b])) = some y0 := hf 0 _ rfl
  have g1 : DataW.trod enc Try.prog w base sp held n 51 (List.take (Try.prog.cellsOf 51) (List.drop 1 [a, b])) = some y1 := hf 1 _ rfl
  rw [h9] at g0
  rw [h3] at g1
  obtain ⟨s0, e0, _⟩ := trod_string Try.underlying9 g0
  obtain ⟨A, c, l, hcs, hlc, hC⟩ := tells_row Try.underlying51 (by kernel_rfl) tells24 g1
  obtain rfl : a = _ := by simpa using e0
  obtain rfl : b = _ := by simpa using hcs
  exact ⟨⟨s0, l⟩, k53_mk w ⟨s0, l⟩ hlc hC⟩
set_option maxRecDepth 100000 in
theorem tells69 : Tells H enc Try.prog base sp held k69 69 := by
  intro w fuel cs x h
  obtain ⟨xs, n, _, rfl, hl, hlen, hf⟩ := DataW.trod_struct Try.underlying69 h
  have hc : Try.prog.cellsOf 69 = 2 := by kernel_rfl
  have h9 : Try.prog.cellsOf 9 = 1 := by kernel_rfl
  have h3 : Try.prog.cellsOf 67 = 1 := by kernel_rfl
  rw [hc] at hl
  obtain ⟨a, b, rfl⟩ : ∃ a b, cs = [a, b] := by
    match cs, hl with
    | [a, b], _ => exact ⟨a, b, rfl⟩
  obtain ⟨y0, y1, rfl⟩ : ∃ y0 y1, xs = [y0, y1] := by
    match xs, hlen with
    | [y0, y1], _ => exact ⟨y0, y1, rfl⟩
  have g0 : DataW.trod enc Try.prog w base sp held n 9 (List.take (Try.prog.cellsOf 9) (List.drop 0 [a, b])) = some y0 := hf 0 _ rfl
  have g1 : DataW.trod enc Try.prog w base sp held n 67 (List.take (Try.prog.cellsOf 67) (List.drop 1 [a, b])) = some y1 := hf 1 _ rfl
  rw [h9] at g0
  rw [h3] at g1
  obtain ⟨s0, e0, _⟩ := trod_string Try.underlying9 g0
  obtain ⟨A, c, l, hcs, hlc, hC⟩ := tells_row Try.underlying67 (by kernel_rfl) tells77 g1
  obtain rfl : a = _ := by simpa using e0
  obtain rfl : b = _ := by simpa using hcs
  exact ⟨⟨s0, l⟩, k69_mk w ⟨s0, l⟩ hlc hC⟩
end Go.Proofs.Ytghommaokdhjmaa.Open
/- What the statements on sets lean on, as plain laws: how much is played, two facts and two lists held against each other, a list's set. -/
set_option linter.unusedVariables false
set_option linter.unusedSimpArgs false
namespace Go.Proofs.Ytghommaokdhjmaa.PSets
open Go.RowKit Go.Lib Go.Proofs.YtghommaokdhjmaaW.PrintWords Go.Proofs.Ytghommaokdhjmaa.P Go.Proofs.Ytghommaokdhjmaa.Str Go.Proofs.Ytghommaokdhjmaa.CmpF Go.Proofs.Ytghommaokdhjmaa.Fct Go.Proofs.Ytghommaokdhjmaa.FactC Go.Proofs.Ytghommaokdhjmaa.SetsW
theorem w64s {i : Nat} (h : i ≤ 1000000) : wrap64 ((i : Int) + 1) = ((i + 1 : Nat) : Int) := by unfold wrap64; omega
/-- As much as is played. -/
def Small (x : S53) : Prop := x.f0.size ≤ 200 ∧ x.f1.length ≤ 20 ∧ ∀ v ∈ x.f1, v.f2.size ≤ 200
theorem heavy_loop (l : List S24) (s : ByteArray) (hl : l.length ≤ 20) : ∀ (m i : Nat), i + m = l.length → (∀ j (hj : j < l.length), j < i → l[j].f2.size ≤ 200) → Ev (fun k => constablelaw03_Heavy.l0 k i s l) true ∨ (Ev (fun k => constablelaw03_Heavy.l0 k i s l) false ∧ ∀ v ∈ l, v.f2.size ≤ 200) := by
  intro m
  induction m with
  | zero =>
    intro i h ha
    refine .inr ⟨Ev.step (fun k => by rw [constablelaw03_Heavy.l0, if_neg (by omega)]) (Ev.now _), fun v hv => ?_⟩
    obtain ⟨j, hj, rfl⟩ := List.getElem_of_mem hv
    exact ha j hj (by omega)
  | succ m ih =>
    intro i h ha
    have hi : i < l.length := by omega
    by_cases hz : l[i].f2.size ≤ 200
    · have step : ∀ k, constablelaw03_Heavy.l0 (k + 1) i s l = constablelaw03_Heavy.l0 k ((i + 1 : Nat) : Int) s l := fun k => by
        rw [constablelaw03_Heavy.l0, if_pos (by omega), if_pos (by omega), rd24_get hi, if_neg (by omega), w64s (by omega)]
      rcases ih (i + 1) (by omega) (fun j hj hji => by
        by_cases e : j = i
        · subst e; exact hz
        · exact ha j hj (by omega)) with h1 | ⟨h1, h2⟩
      · exact .inl (Ev.step (f := fun k => constablelaw03_Heavy.l0 k ((i + 1 : Nat) : Int) s l) step h1)
      · exact .inr ⟨Ev.step (f := fun k => constablelaw03_Heavy.l0 k ((i + 1 : Nat) : Int) s l) step h1, h2⟩
    · refine .inl (Ev.step (f := fun _ => some true) (fun k => by rw [constablelaw03_Heavy.l0, if_pos (by omega), if_pos (by omega), rd24_get hi, if_pos (by omega)]) (Ev.now _))
theorem heavy_cases (s : ByteArray) (l : List S24) : Ev (fun k => constablelaw03_Heavy.f k s l) true ∨ (Ev (fun k => constablelaw03_Heavy.f k s l) false ∧ Small ⟨s, l⟩) := by
  unfold constablelaw03_Heavy.f
  by_cases h1 : (s.size : Int) > 200
  · simp only [if_pos h1]
    exact .inl (Ev.step (f := fun _ => some true) (fun k => by rw [constablelaw03_Heavy.j0]; simp) (Ev.now _))
  · simp only [if_neg h1]
    by_cases h2 : (l.length : Int) > 20
    · refine .inl (Ev.step (f := fun _ => some true) (fun k => by rw [constablelaw03_Heavy.j0, decide_eq_true h2]; simp) (Ev.now _))
    · have step : ∀ k, constablelaw03_Heavy.j0 (k + 1) (decide ((l.length : Int) > 20)) s l = constablelaw03_Heavy.l0 k 0 s l := fun k => by rw [constablelaw03_Heavy.j0, decide_eq_false h2]; simp
      rcases heavy_loop l s (by omega) l.length 0 (by omega) (fun j _ hj => absurd hj (Nat.not_lt_zero _)) with h | ⟨h, h3⟩
      · exact .inl (Ev.step (f := fun k => constablelaw03_Heavy.l0 k 0 s l) step (by simpa using h))
      · exact .inr ⟨Ev.step (f := fun k => constablelaw03_Heavy.l0 k 0 s l) step (by simpa using h), by show s.size ≤ 200; omega, by show l.length ≤ 20; omega, h3⟩
theorem many_loop (l : List S53) (hl : l.length ≤ 60) : ∀ (m i : Nat), i + m = l.length → (∀ j (hj : j < l.length), j < i → Small l[j]) → Ev (fun k => constablelaw03_Many.l0 k l i) true ∨ (Ev (fun k => constablelaw03_Many.l0 k l i) false ∧ ∀ x ∈ l, Small x) := by
  intro m
  induction m with
  | zero =>
    intro i h ha
    refine .inr ⟨Ev.step (fun k => by rw [constablelaw03_Many.l0, if_neg (by omega)]) (Ev.now _), fun v hv => ?_⟩
    obtain ⟨j, hj, rfl⟩ := List.getElem_of_mem hv
    exact ha j hj (by omega)
  | succ m ih =>
    intro i h ha
    have hi : i < l.length := by omega
    have step : ∀ k, constablelaw03_Many.l0 (k + 1) l i = (constablelaw03_Heavy.f k l[i].f0 l[i].f1).bind fun t => if t = true then some true else constablelaw03_Many.l0 k l ((i + 1 : Nat) : Int) := fun k => by
      rw [constablelaw03_Many.l0, if_pos (by omega), if_pos (by omega), rd53_get hi, w64s (by omega)]
    rcases heavy_cases l[i].f0 l[i].f1 with h1 | ⟨h1, h2⟩
    · exact .inl (Ev.step (f := fun k => (constablelaw03_Heavy.f k l[i].f0 l[i].f1).bind fun t => if t = true then some true else constablelaw03_Many.l0 k l ((i + 1 : Nat) : Int)) step (Ev.bind h1 (by simp only [if_true]; exact Ev.now _)))
    · have key : ∀ r, Ev (fun k => constablelaw03_Many.l0 k l ((i + 1 : Nat) : Int)) r → Ev (fun k => constablelaw03_Many.l0 k l i) r := fun r hr =>
        Ev.step (f := fun k => (constablelaw03_Heavy.f k l[i].f0 l[i].f1).bind fun t => if t = true then some true else constablelaw03_Many.l0 k l ((i + 1 : Nat) : Int)) step (Ev.bind h1 (by simpa using hr))
      rcases ih (i + 1) (by omega) (fun j hj hji => by
        by_cases e : j = i
        · subst e; exact h2
        · exact ha j hj (by omega)) with h3 | ⟨h3, h4⟩
      · exact .inl (key _ h3)
      · exact .inr ⟨key _ h3, h4⟩
theorem many_cases (l : List S53) : Ev (fun k => constablelaw03_Many.f k l) true ∨ (Ev (fun k => constablelaw03_Many.f k l) false ∧ l.length ≤ 60 ∧ ∀ x ∈ l, Small x) := by
  unfold constablelaw03_Many.f
  by_cases h1 : (l.length : Int) > 60
  · simp only [if_pos h1]
    exact .inl (Ev.now _)
  · simp only [if_neg h1]
    rcases many_loop l (by omega) l.length 0 (by omega) (fun j _ hj => absurd hj (Nat.not_lt_zero _)) with h | ⟨h, h2⟩
    · exact .inl (by simpa using h)
    · exact .inr ⟨by simpa using h, by omega, h2⟩
theorem small_fit {x : S53} (h : Small x) : fitX x = true := fitX_iff.2 ⟨by have := h.1; omega, fitV_mem.2 fun v hv => by have := h.2.2 v hv; omega, by have := h.2.1; omega⟩
theorem small_fits {l : List S53} (h : l.length ≤ 60) (h2 : ∀ x ∈ l, Small x) : fitL l = true := fitL_iff.2 ⟨fun x hx => small_fit (h2 x hx), by omega⟩

/-! ### Two facts, two lists of facts held against each other -/
theorem v24_eq (x y : S24) : (!(x.f0 == y.f0) || (!(x.f1 == y.f1) || !(x.f2.toList == y.f2.toList))) = true ↔ x ≠ y := by
  obtain ⟨x0, x1, x2⟩ := x
  obtain ⟨y0, y1, y2⟩ := y
  have e : x2.toList = y2.toList ↔ x2 = y2 := tl_iff _ _
  by_cases h0 : x0 = y0 <;> by_cases h1 : x1 = y1 <;> by_cases h2 : x2 = y2 <;> simp [h0, h1, h2, e]
theorem fact_loop (s t : ByteArray) (l m : List S24) (hl : l.length ≤ 1000000) (hm : l.length = m.length) : ∀ (q i : Nat), i + q = l.length → (∀ j (hj : j < l.length) (hj2 : j < m.length), j < i → l[j] = m[j]) → ∃ b, Ev (fun k => constablekeep_Fact.l0 k i s l t m) b ∧ (b = true ↔ l = m) := by
  intro q
  induction q with
  | zero =>
    intro i h ha
    refine ⟨true, Ev.step (fun k => by rw [constablekeep_Fact.l0, if_neg (by omega)]) (Ev.now _), by simp; exact List.ext_getElem hm fun j h1 h2 => ha j h1 h2 (by omega)⟩
  | succ q ih =>
    intro i h ha
    have hi : i < l.length := by omega
    have hi2 : i < m.length := by omega
    by_cases e : l[i] = m[i]
    · obtain ⟨b, h1, h2⟩ := ih (i + 1) (by omega) (fun j hj hj2 hji => by
        by_cases e2 : j = i
        · subst e2; exact e
        · exact ha j hj hj2 (by omega))
      refine ⟨b, Ev.step (f := fun k => constablekeep_Fact.l0 k ((i + 1 : Nat) : Int) s l t m) (fun k => ?_) h1, h2⟩
      rw [constablekeep_Fact.l0, if_pos (by omega), if_pos (by omega), if_pos (by omega), rd24_get hi, rd24_get hi2, if_neg (fun h => (v24_eq _ _).1 h e), w64s (by omega)]
    · refine ⟨false, Ev.step (f := fun _ => some false) (fun k => ?_) (Ev.now _), by simp; intro h; exact e (by simp [h])⟩
      rw [constablekeep_Fact.l0, if_pos (by omega), if_pos (by omega), if_pos (by omega), rd24_get hi, rd24_get hi2, if_pos ((v24_eq _ _).2 e)]
theorem fact_ev (x y : S53) (hl : x.f1.length ≤ 1000000) : ∃ b, Ev (fun k => constablekeep_Fact.f k x.f0 x.f1 y.f0 y.f1) b ∧ (b = true ↔ x = y) := by
  obtain ⟨s, l⟩ := x
  obtain ⟨t, m⟩ := y
  simp only [S53.mk.injEq]
  unfold constablekeep_Fact.f
  by_cases h1 : s.toList = t.toList
  · simp only [if_pos h1]
    have h1' := (tl_iff _ _).1 h1
    by_cases h2 : l.length = m.length
    · obtain ⟨b, h3, h4⟩ := fact_loop s t l m hl h2 l.length 0 (by omega) (fun j _ _ hj => absurd hj (Nat.not_lt_zero _))
      refine ⟨b, Ev.step (f := fun k => constablekeep_Fact.l0 k 0 s l t m) (fun k => ?_) (by simpa using h3), by rw [h4]; simp [h1']⟩
      rw [constablekeep_Fact.j0, show ((l.length : Int) != (m.length : Int)) = false by rw [bne_eq_false_iff_eq]; omega]
      simp
    · refine ⟨false, Ev.step (f := fun _ => some false) (fun k => ?_) (Ev.now _), by simp; intro _ h; exact h2 (by rw [h])⟩
      rw [constablekeep_Fact.j0, show ((l.length : Int) != (m.length : Int)) = true by rw [bne_iff_ne]; omega]
      simp
  · simp only [if_neg h1]
    refine ⟨false, Ev.step (f := fun _ => some false) (fun k => ?_) (Ev.now _), by simp; intro h; exact absurd ((tl_iff _ _).2 h) h1⟩
    rw [constablekeep_Fact.j0]
    simp
theorem facts_loop (l m : List S53) (hf : ∀ x ∈ l, x.f1.length ≤ 1000000) (hl : l.length ≤ 1000000) (hm : l.length = m.length) : ∀ (q i : Nat), i + q = l.length → (∀ j (hj : j < l.length) (hj2 : j < m.length), j < i → l[j] = m[j]) → ∃ b, Ev (fun k => constablekeep_Facts.l0 k l m i) b ∧ (b = true ↔ l = m) := by
  intro q
  induction q with
  | zero =>
    intro i h ha
    refine ⟨true, Ev.step (fun k => by rw [constablekeep_Facts.l0, if_neg (by omega)]) (Ev.now _), by simp; exact List.ext_getElem hm fun j h1 h2 => ha j h1 h2 (by omega)⟩
  | succ q ih =>
    intro i h ha
    have hi : i < l.length := by omega
    have hi2 : i < m.length := by omega
    have step : ∀ k, constablekeep_Facts.l0 (k + 1) l m i = (constablekeep_Fact.f k l[i].f0 l[i].f1 m[i].f0 m[i].f1).bind fun t => if t = true then constablekeep_Facts.l0 k l m ((i + 1 : Nat) : Int) else some false := fun k => by
      rw [constablekeep_Facts.l0, if_pos (by omega), if_pos (by omega), if_pos (by omega), rd53_get hi, rd53_get hi2, w64s (by omega)]
    obtain ⟨b, h1, h2⟩ := fact_ev l[i] m[i] (hf _ (List.getElem_mem hi))
    by_cases e : l[i] = m[i]
    · obtain rfl := h2.2 e
      obtain ⟨c, h3, h4⟩ := ih (i + 1) (by omega) (fun j hj hj2 hji => by
        by_cases e2 : j = i
        · subst e2; exact e
        · exact ha j hj hj2 (by omega))
      exact ⟨c, Ev.step (f := fun k => (constablekeep_Fact.f k l[i].f0 l[i].f1 m[i].f0 m[i].f1).bind fun t => if t = true then constablekeep_Facts.l0 k l m ((i + 1 : Nat) : Int) else some false) step (Ev.bind h1 (by simpa using h3)), h4⟩
    · have hb : b = false := by cases b; rfl; exact absurd (h2.1 rfl) e
      subst hb
      exact ⟨false, Ev.step (f := fun k => (constablekeep_Fact.f k l[i].f0 l[i].f1 m[i].f0 m[i].f1).bind fun t => if t = true then constablekeep_Facts.l0 k l m ((i + 1 : Nat) : Int) else some false) step (Ev.bind h1 (by simp; exact Ev.now _)), by simp; intro h; exact e (by simp [h])⟩
theorem facts_ev (l m : List S53) (h : fitL l = true) : ∃ b, Ev (fun k => constablekeep_Facts.f k l m) b ∧ (b = true ↔ l = m) := by
  unfold constablekeep_Facts.f
  by_cases h1 : (l.length : Int) = (m.length : Int)
  · simp only [if_pos h1]
    have h2 := fitL_F h
    obtain ⟨b, h3, h4⟩ := facts_loop l m (fitF_mem.1 h2.1) (by omega) (by omega) l.length 0 (by omega) (fun j _ _ hj => absurd hj (Nat.not_lt_zero _))
    exact ⟨b, by simpa using h3, h4⟩
  · simp only [if_neg h1]
    exact ⟨false, Ev.now _, by simp; intro h; exact h1 (by rw [h])⟩
theorem facts_same (l : List S53) (h : fitL l = true) : Ev (fun k => constablekeep_Facts.f k l l) true := by
  obtain ⟨b, h1, h2⟩ := facts_ev l l h
  obtain rfl := h2.2 rfl
  exact h1

/-! ### A list's set -/
/-- A set: none of it wrong, rising. -/
def IsSet (l : List S53) : Prop := l.any wrongF = false ∧ l.Pairwise (fun x y => cf53 x y < 0)
theorem set_fit {l : List S53} (h : fitL l = true) : fitL (setO cf53 l) = true := fitL_iff.2 ⟨fun x hx => (fitL_iff.1 h).1 x ((setO_mem ord53 x l).1 hx), Nat.le_trans (setO_len l) (fitL_iff.1 h).2⟩
theorem set_is {l : List S53} (h : l.any wrongF = false) : IsSet (setO cf53 l) := ⟨List.any_eq_false.2 fun x hx => List.any_eq_false.1 h x ((setO_mem ord53 x l).1 hx), setO_up ord53 l⟩
theorem set_same {l m : List S53} (h : ∀ x, x ∈ l ↔ x ∈ m) : setO cf53 l = setO cf53 m := setO_one ord53 (setO_up ord53 l) (fun x => (setO_mem ord53 x l).trans (h x))
theorem set_own {l : List S53} (h : IsSet l) : setO cf53 l = l := (setO_one ord53 h.2 (fun _ => Iff.rfl)).symm
theorem has_iff {l : List S53} {y : S53} : (l.any fun x => cf53 x y == 0) = true ↔ y ∈ l := by
  rw [List.any_eq_true]
  constructor
  · rintro ⟨x, hx, h⟩
    rw [beq_iff_eq] at h
    rwa [← ord53.zero x y h]
  · intro h
    exact ⟨y, h, by rw [ord53.self]; rfl⟩
theorem put_eq {l : List S53} {y : S53} (hl : fitL l = true) (hy : fitX y = true) (h : IsSet l) (hw : wrongF y = false) : sets_Put.f l y.f0 y.f1 = some (setO cf53 (l ++ [y]), 0) := by
  unfold sets_Put.f
  rw [if_pos ⟨hl, hy⟩]
  have : chk2 l [y] = 0 := by
    unfold chk2
    rw [if_pos ⟨(chkF_zero l).2 h, (chkF_zero [y]).2 ⟨by simp [hw], List.pairwise_singleton _ _⟩⟩]
  show some (if chk2 l [y] = 0 then (setO cf53 (l ++ [y]), (0 : Int)) else ([], 1)) = _
  rw [if_pos this]
theorem has_eq {l : List S53} {y : S53} (hl : fitL l = true) (hy : fitX y = true) : ∃ b, sets_Has.f l y.f0 y.f1 = some b ∧ (b = true ↔ y ∈ l) := by
  unfold sets_Has.f
  rw [if_pos ⟨(fitL_F hl).1, (fitX_iff.1 hy).2.2⟩]
  exact ⟨_, rfl, has_iff⟩
theorem has_true {l : List S53} {y : S53} (hl : fitL l = true) (hy : y ∈ l) : sets_Has.f l y.f0 y.f1 = some true := by
  obtain ⟨b, h1, h2⟩ := has_eq hl ((fitL_iff.1 hl).1 y hy)
  obtain rfl := h2.2 hy
  exact h1
theorem chk_set {l : List S53} (hl : fitL l = true) (h : IsSet l) : Ev (fun k => sets_Check.f k l) 0 := by
  have := chk_ev l hl
  rwa [(chkF_zero l).2 h] at this
end Go.Proofs.Ytghommaokdhjmaa.PSets
/- SetsSame's plain law: the printed function answers true from some number of rounds on; no condition. -/
set_option linter.unusedVariables false
set_option linter.unusedSimpArgs false
namespace Go.Proofs.Ytghommaokdhjmaa.Pure
open Go.RowKit Go.Lib Go.Proofs.YtghommaokdhjmaaW.PrintWords Go.Proofs.Ytghommaokdhjmaa.P Go.Proofs.Ytghommaokdhjmaa.Str Go.Proofs.Ytghommaokdhjmaa.CmpF Go.Proofs.Ytghommaokdhjmaa.Fct Go.Proofs.Ytghommaokdhjmaa.FactC Go.Proofs.Ytghommaokdhjmaa.SetsW Go.Proofs.Ytghommaokdhjmaa.PSets
theorem of_eq {l : List S53} (hl : fitL l = true) : sets_Of.f l = some (if l.any wrongF = true then ([], 1) else (setO cf53 l, 0)) := by
  unfold sets_Of.f
  rw [if_pos hl]
theorem same_l1 (l c : List S53) (hl : fitL l = true) (h : l.any wrongF = false) (hc : c = setO cf53 l) : ∀ (m i : Nat), i + m = (setO cf53 l).length → Ev (fun k => constablelaw04_SetsSame.l1 k l (setO cf53 l) (setO cf53 l) 0 c i) true := by
  subst hc
  have hs := set_fit hl
  have hlen := (fitL_iff.1 hs).2
  intro m
  induction m with
  | zero =>
    intro i h0
    refine Ev.step (f := fun k => (constablekeep_Facts.f k (setO cf53 l) (setO cf53 l)).bind fun t => if t = true then ((constablekeep_Facts.f k (setO cf53 l) (setO cf53 l)).bind fun t => if t = true then ((sets_Check.f k (setO cf53 l)).bind fun t => if t = 0 then (constablelaw04_wakes.f.bind fun t => some t) else none) else none) else none) (fun k => by
      rw [constablelaw04_SetsSame.l1, if_neg (by omega), if_pos rfl]) ?_
    refine Ev.bind (facts_same _ hs) ?_
    simp only [if_true]
    refine Ev.bind (facts_same _ hs) ?_
    simp only [if_true]
    refine Ev.bind (chk_set hs (set_is h)) ?_
    simp only [if_true]
    exact Ev.now _
  | succ m ih =>
    intro i h0
    have hi : i < (setO cf53 l).length := by omega
    refine Ev.step (f := fun k => constablelaw04_SetsSame.l1 k l (setO cf53 l) (setO cf53 l) 0 (setO cf53 l) ((i + 1 : Nat) : Int)) (fun k => ?_) (ih (i + 1) (by omega))
    rw [constablelaw04_SetsSame.l1, if_pos (by omega), if_pos (by omega), rd53_get hi, has_true hl ((setO_mem ord53 _ l).1 (List.getElem_mem hi)), w64s (by omega)]
    simp
theorem same_l0 (l : List S53) (hl : fitL l = true) (h : l.any wrongF = false) : ∀ (i : Nat), i ≤ l.length → Ev (fun k => constablelaw04_SetsSame.l0 k l (setO cf53 l) (setO cf53 l) 0 (setO cf53 (l.drop i)) (wrap64 ((i : Int) - 1))) true := by
  have hlen := (fitL_iff.1 hl).2
  intro i
  induction i with
  | zero =>
    intro _
    refine Ev.step (f := fun k => constablelaw04_SetsSame.l1 k l (setO cf53 l) (setO cf53 l) 0 (setO cf53 (l.drop 0)) ((0 : Nat) : Int)) (fun k => ?_) (same_l1 l _ hl h (by rw [List.drop_zero]) (setO cf53 l).length 0 (by omega))
    rw [constablelaw04_SetsSame.l0, if_neg (by unfold wrap64; omega)]
    rfl
  | succ i ih =>
    intro hi
    have hw : wrap64 (((i + 1 : Nat) : Int) - 1) = (i : Int) := by unfold wrap64; omega
    have hi' : i < l.length := by omega
    have hmem := List.getElem_mem hi'
    have hd : fitL (l.drop (i + 1)) = true := fitL_iff.2 ⟨fun x hx => (fitL_iff.1 hl).1 x (List.mem_of_mem_drop hx), by rw [List.length_drop]; omega⟩
    have hdw : (l.drop (i + 1)).any wrongF = false := List.any_eq_false.2 fun x hx => List.any_eq_false.1 h x (List.mem_of_mem_drop hx)
    have hput := put_eq (y := l[i]) (set_fit hd) ((fitL_iff.1 hl).1 _ hmem) (set_is hdw) (by simpa using List.any_eq_false.1 h _ hmem)
    have hset : setO cf53 (setO cf53 (l.drop (i + 1)) ++ [l[i]]) = setO cf53 (l.drop i) := by
      refine set_same fun x => ?_
      rw [List.mem_append, setO_mem ord53, List.mem_singleton, List.drop_eq_getElem_cons hi', List.mem_cons]
      exact Or.comm
    rw [hset] at hput
    rw [hw]
    refine Ev.step (f := fun k => constablelaw04_SetsSame.l0 k l (setO cf53 l) (setO cf53 l) 0 (setO cf53 (l.drop i)) (wrap64 ((i : Int) - 1))) (fun k => ?_) (ih (by omega))
    rw [constablelaw04_SetsSame.l0, if_pos (by omega), if_pos (by omega), if_pos (by omega), rd53_get hi', hput]
    simp only [Option.bind_some, if_true]
    rw [has_true (set_fit hl) ((setO_mem ord53 _ l).2 hmem)]
    simp
theorem setsSame (l : List S53) (a : Int) : ∃ k, constablelaw04_SetsSame.f k l a = some true := by
  refine Ev.rounds ?_
  unfold constablelaw04_SetsSame.f
  rcases many_cases l with h | ⟨h, h60, hs⟩
  · exact Ev.bind h (by simp only [if_true]; exact Ev.now _)
  · refine Ev.bind h ?_
    simp only [Bool.false_eq_true, if_false]
    have hl := small_fits h60 hs
    by_cases h0 : (l.length : Int) = 0
    · simp only [if_pos h0]
      exact Ev.now _
    · simp only [if_neg h0, of_eq hl, Option.bind_some]
      cases hw : l.any wrongF with
      | true =>
        simp only [if_true, List.length_nil]
        exact Ev.now _
      | false =>
        simp only [Bool.false_eq_true, if_false, if_true]
        have hu : IntKind.u64.wrap (l.length : Int) = (l.length : Int) := by
          simp only [IntKind.wrap, IntKind.bits, IntKind.signed, Bool.false_and, Bool.false_eq_true, if_false]
          omega
        have hua : 0 ≤ IntKind.u64.wrap a := by
          simp only [IntKind.wrap, IntKind.bits, IntKind.signed, Bool.false_and, Bool.false_eq_true, if_false]
          omega
        rw [hu]
        generalize IntKind.u64.wrap a = u at hua
        obtain ⟨n, hn, hnl⟩ : ∃ n : Nat, wrap64 (Int.tmod u (l.length : Int)) = (n : Int) ∧ n < l.length := by
          have h1 := Int.tmod_nonneg (l.length : Int) hua
          have h2 := Int.tmod_lt_of_pos u (show (0 : Int) < (l.length : Int) by omega)
          refine ⟨(Int.tmod u (l.length : Int)).toNat, ?_, by omega⟩
          generalize Int.tmod u (l.length : Int) = q at h1 h2
          unfold wrap64
          omega
        simp only [hn, if_neg h0, List.nil_append, List.length_nil, Option.bind_some, Int.toNat_natCast]
        have hd : (l.drop n).length + (l.take n).length = l.length := by rw [List.length_drop, List.length_take]; omega
        simp only [if_pos (show 0 ≤ (n : Int) by omega), if_pos (show (n : Int) ≤ (l.length : Int) by omega), if_pos (show 0 + (l.drop n).length < 3518437208883 by omega), if_pos (show (l.drop n).length + (l.take n).length < 3518437208883 by omega)]
        have hm : ∀ x, x ∈ l.drop n ++ l.take n ↔ x ∈ l := fun x => by
          rw [List.mem_append, Or.comm, ← List.mem_append, List.take_append_drop]
        have hf2 : fitL (l.drop n ++ l.take n) = true := fitL_iff.2 ⟨fun x hx => (fitL_iff.1 hl).1 x ((hm x).1 hx), by rw [List.length_append]; omega⟩
        have hw2 : (l.drop n ++ l.take n).any wrongF = false := List.any_eq_false.2 fun x hx => List.any_eq_false.1 hw x ((hm x).1 hx)
        simp only [of_eq hf2, hw2, Bool.false_eq_true, if_false, Option.bind_some, set_same hm]
        have := same_l0 l hl hw l.length (Nat.le_refl _)
        rwa [List.drop_length] at this
end Go.Proofs.Ytghommaokdhjmaa.Pure
/- The row of SetsSame: whatever the input, true; out of the printed walk and the plain law. -/
namespace Go.Proofs.Ytghommaokdhjmaa.setsSame
open Go.ChangeShapes Go.WideShapes Go.ChangeAt Go.RowKit Go.Proofs.YtghommaokdhjmaaW.PrintWords Go.Proofs.Ytghommaokdhjmaa.P Go.Proofs.Ytghommaokdhjmaa.Open
open Go.ChangeMaps (open_string shut_string)
set_option linter.unusedVariables false
theorem own : ownKnob Try.prog.godebug = none := by kernel_rfl
theorem laidOut : laidOutB Try.prog = true := by kernel_rfl
set_option maxRecDepth 100000 in
theorem lifted (os : Os) (started : os.Started) (H : Type) (enc : TypeId × Value → H) :
    ReturnsInHanded {} Try.checked os 7 .any (Rows.setsSameSpec.pre6 enc Try.prog Try.f7 Rows.setsSameRow.domain false) (Rows.setsSameSpec.post enc Try.prog Try.f7 false true false false) := by
  refine returnsInHanded_of_change_sized (C := Try.checked) own started (by kernel_rfl) Try.func7
    (ChangeSpec.witness6 (enc := enc) (C := Try.checked) false ⟨#[], #[.slice none 0 0, .int .i64 0], []⟩ 8 (by kernel_rfl) (by kernel_rfl) (by kernel_rfl) (by kernel_rfl)) ?_
  intro W base args ds gs before hval0 hW hcnd hsz0 _
  have hval : ∀ (j : Nat) t v, Try.f7.params[j]? = some t → args[j]? = some v → Value.okWide Try.prog W .any base t v := hval0
  have hW' := hW
  obtain ⟨p, q, hA0, hV, rfl, hfz, hnd⟩ := hW
  have hA : DataW.TrodAll enc Try.prog W 0 (fun _ => true) true Try.f7.params.toList args.toList ds p := hA0
  rw [Try.params7] at hA hval
  obtain ⟨v0, vs0, d0, ds0, p0, q0, hargs, rfl, rfl, h0, r0⟩ := trodAll_cons hA
  obtain ⟨v1, vs1, d1, ds1, p1, q1, rfl, rfl, rfl, h1, r1⟩ := trodAll_cons r0
  obtain ⟨rfl, rfl, rfl⟩ := trodAll_nil r1
  obtain rfl : args = #[v0, v1] := by cases args; simp_all
  obtain ⟨rfl, rfl⟩ := trodVars_none hV
  obtain ⟨a0, len0, cap0, rfl⟩ := okWide_slice Try.underlying46 (hval 0 46 v0 rfl rfl)
  have k0 := h0
  have lt0 : ∀ x ∈ p0, x.block < W.heap.size := by obtain ⟨m, hm⟩ := k0; exact DataW.trod_lt m _ _ _ hm
  obtain ⟨l0, rfl, hc0, hr0⟩ : ∃ l : List S53, len0 = l.length ∧ l.length ≤ cap0 ∧ Kd.C k53 W a0 l.length l := by
    obtain ⟨fuel, hf⟩ := h0
    obtain ⟨A, c, l, hcs, hl, hC⟩ := tells_row Try.underlying46 (by kernel_rfl) tells53 hf
    simp [Value.cells] at hcs
    obtain ⟨rfl, rfl, rfl⟩ := hcs
    exact ⟨l, rfl, hl, hC⟩
  obtain ⟨a1, rfl, rfl, rfl, w1⟩ := open_int Try.underlying3 (hval 1 3 v1 rfl rfl) h1
  clear hA0 hval0 hsz0
  obtain ⟨kf, hkf⟩ := Pure.setsSame l0 a1
  refine (P.constablelaw04_SetsSame.calls kf (fun k => k < W.heap.size) a0 cap0 l0 a1 true W (Kd.V_mk hc0 (Kd.C_F k53_heap hr0)) hkf).mono fun e W' ⟨he, bel⟩ => ?_
  subst he
  exact ⟨_, rfl, _, _, _, [], _, [], hW', trodAll_mk1 (shut_bool Try.underlying4 _), (trodAll_cons_mk (Below.trod laidOut (by kernel_rfl) (of_decide_eq_true (by kernel_rfl)) k0 bel lt0) (trodAll_cons_mk (shut_int Try.underlying3 w1) trodAll_mk0)), rfl, bel.frame _, fun h => by cases h⟩
theorem over : Rows.setsSameRow.holds Try.pinned (OpenSpec.ofChange Rows.setsSameSpec) :=
  OpenClaim.holds_of_wide 7 Try.f7 rfl rfl rfl rfl rfl rfl rfl ⟨rfl, rfl, rfl, rfl, rfl⟩ rfl rfl rfl rfl rfl (by kernel_rfl) Try.func7 (by kernel_rfl)
    (of_decide_eq_true (by kernel_rfl)) (by unfold Func.isWrapper; first | (rw [if_pos (by decide +kernel)]; kernel_rfl) | (rw [if_neg (by decide +kernel)]; exact ⟨rfl, rfl⟩))
    (fun os started H enc _ => lifted os started H enc)
theorem proved : Rows.SetsSameSaid := over
end Go.Proofs.Ytghommaokdhjmaa.setsSame
namespace Go.Proofs.Ytghommaokdhjmaa
/-- The row, under a short name, for the claim. -/
theorem setsSame_holds : Rows.SetsSameSaid := setsSame.proved
#print axioms setsSame_holds
end Go.Proofs.Ytghommaokdhjmaa
