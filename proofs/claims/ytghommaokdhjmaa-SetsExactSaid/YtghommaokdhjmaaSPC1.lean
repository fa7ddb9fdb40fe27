/- A part of the proof: walks of the code and plain laws, printed and by hand; no condition. -/
import Derived.Test.YtghommaokdhjmaaSPB1
namespace Go.Proofs.Ytghommaokdhjmaa.P
open Go.RowKit Go.Proofs.YtghommaokdhjmaaW.PrintWords Go.Proofs.YtghommaokdhjmaaW.PrintLast Go.Proofs.Ytghommaokdhjmaa.Gate
set_option linter.unusedVariables false
set_option linter.unusedSimpArgs false

/-! ### constablelaw03_Heavy: function 36 -/
mutual
def constablelaw03_Heavy.j0 : Nat → Bool → ByteArray → List (S24) → Option (Bool)
 | 0, _, _, _ => none
 | k + 1, x13, x366000, x366001 => if x13 = true then (some true) else (constablelaw03_Heavy.l0 k 0 x366000 x366001)
def constablelaw03_Heavy.l0 : Nat → Int → ByteArray → List (S24) → Option (Bool)
 | 0, _, _, _ => none
 | k + 1, x3, x366000, x366001 => if x3 < (x366001.length : Int) then (if 0 ≤ x3 then (if (((rd_T24 x366001 x3).f2).size : Int) > 200 then (some true) else (constablelaw03_Heavy.l0 k (wrap64 (x3 + 1)) x366000 x366001)) else (none)) else (some false)
end
def constablelaw03_Heavy.f (k : Nat) (a0_0 : ByteArray) (l0_1 : List (S24)) : Option (Bool) := if (a0_0.size : Int) > 200 then (constablelaw03_Heavy.j0 k true a0_0 l0_1) else (constablelaw03_Heavy.j0 k (decide ((l0_1.length : Int) > 20)) a0_0 l0_1)
theorem constablelaw03_Heavy.mono_l : ∀ k, (∀ y0 y1 y2, LeO (constablelaw03_Heavy.j0 k y0 y1 y2) (constablelaw03_Heavy.j0 (k + 1) y0 y1 y2)) ∧ (∀ y0 y1 y2, LeO (constablelaw03_Heavy.l0 k y0 y1 y2) (constablelaw03_Heavy.l0 (k + 1) y0 y1 y2))
 | 0 => ⟨fun _ _ _ r h => by simp [constablelaw03_Heavy.j0] at h, fun _ _ _ r h => by simp [constablelaw03_Heavy.l0] at h⟩
 | k + 1 => by
  obtain ⟨ih0, ih1⟩ := constablelaw03_Heavy.mono_l k
  refine ⟨?_, ?_⟩
  ·intro y0 y1 y2
   unfold constablelaw03_Heavy.j0
   repeat' first
   | (with_reducible exact ih0 _ _ _)
   | (with_reducible exact ih1 _ _ _)
   | (with_reducible exact LeO.refl _)
   | (with_reducible exact LeO.none _)
   | (with_reducible refine LeO.ite ?_ ?_)
   | (with_reducible refine LeO.bind ?_ (fun _ => ?_))
  ·intro y0 y1 y2
   unfold constablelaw03_Heavy.l0
   repeat' first
   | (with_reducible exact ih0 _ _ _)
   | (with_reducible exact ih1 _ _ _)
   | (with_reducible exact LeO.refl _)
   | (with_reducible exact LeO.none _)
   | (with_reducible refine LeO.ite ?_ ?_)
   | (with_reducible refine LeO.bind ?_ (fun _ => ?_))
theorem constablelaw03_Heavy.mono : ∀ a0 a1 k, LeO (constablelaw03_Heavy.f k a0 a1) (constablelaw03_Heavy.f (k + 1) a0 a1) := by
 intro a0 a1 k
 obtain ⟨ih0, ih1⟩ := constablelaw03_Heavy.mono_l k
 unfold constablelaw03_Heavy.f
 repeat' first
   | (with_reducible exact ih0 _ _ _)
   | (with_reducible exact ih1 _ _ _)
   | (with_reducible exact LeO.refl _)
   | (with_reducible exact LeO.none _)
   | (with_reducible refine LeO.ite ?_ ?_)
   | (with_reducible refine LeO.bind ?_ (fun _ => ?_))
set_option maxHeartbeats 8000000 in
set_option maxRecDepth 100000 in
theorem constablelaw03_Heavy.calls (k : Nat) (a0_0 : ByteArray) (A0_1 : Option Addr) (c0_1 : Nat) (l0_1 : List (S24)) (r : Bool) (w : World) (hr0_1 : Kd.C k24 w A0_1 l0_1.length l0_1) (hc0_1 : l0_1.length ≤ c0_1) (h : constablelaw03_Heavy.f k a0_0 l0_1 = some r) :
  Calls Try.prog 36 #[.agg #[.string a0_0, .slice A0_1 l0_1.length c0_1]] w fun e w' => e = .returned (.bool r) ∧ Below w.heap.size w w' := by
 have hu53 := Try.underlying53
 have HR0_1 := Aside0.mk hr0_1
 have HC0_1 := Aside0.mk hc0_1
 clear hr0_1 hc0_1
 have HB := Aside0.mk (Below.refl w.heap.size w)
 have H : (if (a0_0.size : Int) > 200 then (constablelaw03_Heavy.j0 k true a0_0 l0_1) else (constablelaw03_Heavy.j0 k (decide ((l0_1.length : Int) > 20)) a0_0 l0_1)) = some r := h
 clear h
 have HC2 := Aside0.mk H
 clear H
 go_enter Try.func36, Try.ntmps36
 go_upto_region 1 with (first | ((with_reducible refine gate_dst (N := 1) rfl ?_); (try (refine gate_guard (by rfl) ?_; dsimp only)); refine bE (N := 1) (cs := #[.string a0_0, .slice A0_1 l0_1.length c0_1]) (t := 53) ?_; intro gb365 hg w3 hbox hb; have n0_ := Aside0.mk (below_step bB0 hb); have n1_ := Aside0.mk (hbox); have n2_ := Aside0.mk ((by rw [hg]; exact (below_size bB0) : w.heap.size ≤ gb365)); have n3_ := Aside0.mk ((by rw [hg]; exact (below_size bB0) : w.heap.size ≤ gb365)); clear HB; have HB := n0_; have BK365 := n1_; have GW365 := n2_; have GE365 := n3_; clear n0_ n1_ n2_ n3_; clear hb hbox hg))
 (try simp only [Act.put, List.setIfInBounds_toArray, List.set_cons_zero, List.set_cons_succ])
 go_cut [13] (fun v13 wc => ∃ (kq : Nat) (x13_1 : Bool), v13 = .bool x13_1 ∧ Aside0 (constablelaw03_Heavy.j0 kq x13_1 a0_0 l0_1 = some r) ∧ Aside0 (kq ≤ k) ∧ Aside0 (wc.heap[gb365]? = some (.cells #[.string a0_0, (.slice A0_1 l0_1.length c0_1)] 53 (0, 0))) ∧ Aside0 (Below w.heap.size w wc))
 case first =>
  have H := HC2.out
  clear HC2
  by_cases c4 : (a0_0.size : Int) > 200
  ·rw [if_pos c4] at H
   have c4b0 : decide (200 < (a0_0.size : Int)) = true := decide_eq_true c4
   have c4b1 : decide (200 < a0_0.size) = true := decide_eq_true (by omega)
   clear c4
   (first | rw [c4b0] | (simp only [i64_w, i32_w]; rw [c4b0]) | skip)
   have H' := Aside0.mk H
   clear H
   have hcz5_0 : w3.cell? ⟨gb365, 0, none⟩ = some (.string a0_0) := (blk_cell BK365.out 0).trans rfl
   have hcz5_1 : w3.cell? ⟨gb365, 1, none⟩ = some (.slice A0_1 l0_1.length c0_1) := (blk_cell BK365.out 1).trans rfl
   have hfz5_0 := blk_frozen BK365.out 0
   have hfz5_1 := blk_frozen BK365.out 1
   go_wp2
   go_meet
   case rel => exact ⟨_, (true), (by first | rfl | (simp; done) | (simp [*]; done)), H', ⟨by first | omega | exact Nat.le_refl _⟩, ⟨by refine bk ?_; exact BK365.out⟩, ⟨(bB1 GE365.out)⟩⟩
  ·rw [if_neg c4] at H
   have c4b0 : decide (200 < (a0_0.size : Int)) = false := decide_eq_false c4
   have c4b1 : decide (200 < a0_0.size) = false := decide_eq_false (by omega)
   clear c4
   (first | rw [c4b0] | (simp only [i64_w, i32_w]; rw [c4b0]) | skip)
   have H' := Aside0.mk H
   clear H
   have hcz6_0 : w3.cell? ⟨gb365, 0, none⟩ = some (.string a0_0) := (blk_cell BK365.out 0).trans rfl
   have hcz6_1 : w3.cell? ⟨gb365, 1, none⟩ = some (.slice A0_1 l0_1.length c0_1) := (blk_cell BK365.out 1).trans rfl
   have hfz6_0 := blk_frozen BK365.out 0
   have hfz6_1 := blk_frozen BK365.out 1
   go_wp2
   go_meet
   case rel => exact ⟨_, (decide ((l0_1.length : Int) > 20)), (by first | rfl | (simp; done) | (simp [*]; done)), H', ⟨by first | omega | exact Nat.le_refl _⟩, ⟨by refine bk ?_; exact BK365.out⟩, ⟨(bB1 GE365.out)⟩⟩
 case rest =>
  clear HC2
  (try clear p2); (try clear c3); (try clear c4); (try clear c4b0); (try clear c4b1); (try clear hcz5_0); (try clear hcz5_1); (try clear hcz6_0); (try clear hcz6_1); (try clear hfz5_0); (try clear hfz5_1); (try clear hfz6_0); (try clear hfz6_1)
  obtain ⟨kq, x13_1, rfl, HA, HJ1, BK365, HB⟩ := hcut
  cases kq with
  | zero => exact absurd HA.out (by simp [constablelaw03_Heavy.j0])
  | succ kj1 =>
   have H := HA.out
   clear HA
   simp only [constablelaw03_Heavy.j0] at H
   by_cases c7 : x13_1 = true
   ·subst c7
    have H1 : (some true) = some r := by rw [if_pos rfl] at H; exact H
    clear H
    have H := H1
    clear H1
    obtain rfl := Option.some.inj H
    go_wp2
    go_ret
    exact ⟨eW, (bB1 GE365.out)⟩
   ·replace c7 := Bool.eq_false_iff.mpr c7
    subst c7
    have H1 : (constablelaw03_Heavy.l0 kj1 0 a0_0 l0_1) = some r := by rw [if_neg (show ¬ (false = true) by decide)] at H; exact H
    clear H
    have H := H1
    clear H1
    have H' := Aside0.mk H
    clear H
    go_wp2
    go_loopg [3] kj1 (fun kq v3 w' => ∃ (x3_2 : Int), v3 = .int .i64 x3_2 ∧ Aside0 (constablelaw03_Heavy.l0 kq x3_2 a0_0 l0_1 = some r) ∧ Aside0 (kq ≤ kj1) ∧ Aside0 (w'.heap[gb365]? = some (.cells #[.string a0_0, (.slice A0_1 l0_1.length c0_1)] 53 (0, 0))) ∧ Aside0 (Below w.heap.size w w'))
    case atStart => exact ⟨(0), (by first | rfl | (simp; done) | (simp [*]; done)), H', ⟨Nat.le_refl _⟩, ⟨by refine bk ?_; exact BK365.out⟩, ⟨(bB1 GE365.out)⟩⟩
    case round =>
     clear H'
     (try clear p2); (try clear c3); (try clear c4); (try clear c4b0); (try clear c4b1); (try clear c7); (try clear hcz5_0); (try clear hcz5_1); (try clear hcz6_0); (try clear hcz6_1); (try clear hfz5_0); (try clear hfz5_1); (try clear hfz6_0); (try clear hfz6_1); (try clear p2)
     obtain ⟨x3_2, rfl, HA, HK2, BK365, HB⟩ := hrel
     cases gk with
     | zero => exact absurd HA.out (by simp [constablelaw03_Heavy.l0])
     | succ k2 =>
      have H := HA.out
      clear HA
      simp only [constablelaw03_Heavy.l0] at H
      by_cases c8 : x3_2 < (l0_1.length : Int)
      ·rw [if_pos c8] at H
       have c8b0 : decide (x3_2 < (l0_1.length : Int)) = true := decide_eq_true c8
       clear c8
       by_cases c9 : 0 ≤ x3_2
       ·rw [if_pos c9] at H
        have c9b0 : decide (0 ≤ x3_2) = true := decide_eq_true c9
        clear c9
        by_cases c10 : (((rd_T24 l0_1 x3_2).f2).size : Int) > 200
        ·rw [if_pos c10] at H
         have c10b0 : decide (200 < (((rd_T24 l0_1 x3_2).f2).size : Int)) = true := decide_eq_true c10
         have c10b1 : decide (200 < ((rd_T24 l0_1 x3_2).f2).size) = true := decide_eq_true (by omega)
         clear c10
         obtain rfl := Option.some.inj H
         have hcz11_0 : wr.cell? ⟨gb365, 0, none⟩ = some (.string a0_0) := (blk_cell BK365.out 0).trans rfl
         have hcz11_1 : wr.cell? ⟨gb365, 1, none⟩ = some (.slice A0_1 l0_1.length c0_1) := (blk_cell BK365.out 1).trans rfl
         have hfz11_0 := blk_frozen BK365.out 0
         have hfz11_1 := blk_frozen BK365.out 1
         have p366 : 0 ≤ (x3_2 : Int) := of_decide_eq_true (by first | (with_reducible assumption) | assumption)
         have q366 : x3_2 < (l0_1.length : Int) := of_decide_eq_true (by first | (with_reducible assumption) | assumption)
         obtain ⟨ad366, e366, hx366_0, hx366_1, hx366_2⟩ := at_T24 HR0_1.out x3_2 p366 q366
         cases e366
         replace hx366_0 := (HB.out.cell (World.block_lt_of_cell? w _ hx366_0)).trans hx366_0
         replace hx366_1 := (HB.out.cell (World.block_lt_of_cell? w _ hx366_1)).trans hx366_1
         replace hx366_2 := (HB.out.cell (World.block_lt_of_cell? w _ hx366_2)).trans hx366_2
         replace p366 := eq_true p366
         replace q366 := eq_true q366
         go_wp2
         go_ret
         exact ⟨eW, (bB1 GE365.out)⟩
        ·rw [if_neg c10] at H
         have c10b0 : decide (200 < (((rd_T24 l0_1 x3_2).f2).size : Int)) = false := decide_eq_false c10
         have c10b1 : decide (200 < ((rd_T24 l0_1 x3_2).f2).size) = false := decide_eq_false (by omega)
         clear c10
         have H' := Aside0.mk H
         clear H
         have hcz12_0 : wr.cell? ⟨gb365, 0, none⟩ = some (.string a0_0) := (blk_cell BK365.out 0).trans rfl
         have hcz12_1 : wr.cell? ⟨gb365, 1, none⟩ = some (.slice A0_1 l0_1.length c0_1) := (blk_cell BK365.out 1).trans rfl
         have hfz12_0 := blk_frozen BK365.out 0
         have hfz12_1 := blk_frozen BK365.out 1
         have p366 : 0 ≤ (x3_2 : Int) := of_decide_eq_true (by first | (with_reducible assumption) | assumption)
         have q366 : x3_2 < (l0_1.length : Int) := of_decide_eq_true (by first | (with_reducible assumption) | assumption)
         obtain ⟨ad366, e366, hx366_0, hx366_1, hx366_2⟩ := at_T24 HR0_1.out x3_2 p366 q366
         cases e366
         replace hx366_0 := (HB.out.cell (World.block_lt_of_cell? w _ hx366_0)).trans hx366_0
         replace hx366_1 := (HB.out.cell (World.block_lt_of_cell? w _ hx366_1)).trans hx366_1
         replace hx366_2 := (HB.out.cell (World.block_lt_of_cell? w _ hx366_2)).trans hx366_2
         replace p366 := eq_true p366
         replace q366 := eq_true q366
         go_wp2
         go_roundg k2
         case measure => have := HJ1.out; have := HK2.out; omega
         case rel => exact ⟨(wrap64 (x3_2 + 1)), (by first | rfl | (simp; done) | (simp [*]; done)), H', ⟨by have := HJ1.out; have := HK2.out; omega⟩, ⟨by refine bk ?_; exact BK365.out⟩, ⟨(bB1 GE365.out)⟩⟩
       ·rw [if_neg c9] at H
        exact absurd H (by simp)
      ·rw [if_neg c8] at H
       have c8b0 : decide (x3_2 < (l0_1.length : Int)) = false := decide_eq_false c8
       clear c8
       obtain rfl := Option.some.inj H
       have hcz13_0 : wr.cell? ⟨gb365, 0, none⟩ = some (.string a0_0) := (blk_cell BK365.out 0).trans rfl
       have hcz13_1 : wr.cell? ⟨gb365, 1, none⟩ = some (.slice A0_1 l0_1.length c0_1) := (blk_cell BK365.out 1).trans rfl
       have hfz13_0 := blk_frozen BK365.out 0
       have hfz13_1 := blk_frozen BK365.out 1
       go_wp2
       go_ret
       exact ⟨eW, (bB1 GE365.out)⟩

end Go.Proofs.Ytghommaokdhjmaa.P
namespace Go.Proofs.Ytghommaokdhjmaa.P
open Go.RowKit Go.Proofs.YtghommaokdhjmaaW.PrintWords Go.Proofs.YtghommaokdhjmaaW.PrintLast Go.Proofs.Ytghommaokdhjmaa.Gate
set_option linter.unusedVariables false
set_option linter.unusedSimpArgs false

/-! ### constablelaw03_Many: function 29 -/
def constablelaw03_Many.l0 : Nat → List (S53) → Int → Option (Bool)
 | 0, _, _ => none
 | k + 1, x0, x3 => if x3 < (x0.length : Int) then (if 0 ≤ x3 then ((constablelaw03_Heavy.f k ((rd_T53 x0 x3).f0) ((rd_T53 x0 x3).f1)).bind fun t368 => (if t368 = true then (some true) else (constablelaw03_Many.l0 k x0 (wrap64 (x3 + 1))))) else (none)) else (some false)
def constablelaw03_Many.f (k : Nat) (l0 : List (S53)) : Option (Bool) := if (l0.length : Int) > 60 then (some true) else (constablelaw03_Many.l0 k l0 0)
theorem constablelaw03_Many.mono_l : ∀ k, (∀ y0 y1, LeO (constablelaw03_Many.l0 k y0 y1) (constablelaw03_Many.l0 (k + 1) y0 y1))
 | 0 => fun _ _ r h => by simp [constablelaw03_Many.l0] at h
 | k + 1 => by
  have ih0 := constablelaw03_Many.mono_l k
  ·intro y0 y1
   unfold constablelaw03_Many.l0
   repeat' first
   | (with_reducible exact ih0 _ _)
   | (with_reducible exact constablelaw03_Heavy.mono _ _ _)
   | (with_reducible exact LeO.refl _)
   | (with_reducible exact LeO.none _)
   | (with_reducible refine LeO.ite ?_ ?_)
   | (with_reducible refine LeO.bind ?_ (fun _ => ?_))
theorem constablelaw03_Many.mono : ∀ a0 k, LeO (constablelaw03_Many.f k a0) (constablelaw03_Many.f (k + 1) a0) := by
 intro a0 k
 have ih0 := constablelaw03_Many.mono_l k
 unfold constablelaw03_Many.f
 repeat' first
   | (with_reducible exact ih0 _ _)
   | (with_reducible exact constablelaw03_Heavy.mono _ _ _)
   | (with_reducible exact LeO.refl _)
   | (with_reducible exact LeO.none _)
   | (with_reducible refine LeO.ite ?_ ?_)
   | (with_reducible refine LeO.bind ?_ (fun _ => ?_))
set_option maxHeartbeats 8000000 in
set_option maxRecDepth 100000 in
theorem constablelaw03_Many.calls (k : Nat) (A0 : Option Addr) (c0 : Nat) (l0 : List (S53)) (r : Bool) (w : World) (hr0 : Kd.C k53 w A0 l0.length l0) (hc0 : l0.length ≤ c0) (h : constablelaw03_Many.f k l0 = some r) :
  Calls Try.prog 29 #[.slice A0 l0.length c0] w fun e w' => e = .returned (.bool r) ∧ Below w.heap.size w w' := by
 have hu53 := Try.underlying53
 have HR0 := Aside0.mk hr0
 have HC0 := Aside0.mk hc0
 clear hr0 hc0
 have HB := Aside0.mk (Below.refl w.heap.size w)
 have H : (if (l0.length : Int) > 60 then (some true) else (constablelaw03_Many.l0 k l0 0)) = some r := h
 clear h
 by_cases c2 : (l0.length : Int) > 60
 ·rw [if_pos c2] at H
  have c2b0 : decide (60 < (l0.length : Int)) = true := decide_eq_true c2
  have c2b1 : decide (60 < l0.length) = true := decide_eq_true (by omega)
  clear c2
  obtain rfl := Option.some.inj H
  go_enter Try.func29, Try.ntmps29
  go_wp2
  go_ret
  exact ⟨eW, bB0⟩
 ·rw [if_neg c2] at H
  have c2b0 : decide (60 < (l0.length : Int)) = false := decide_eq_false c2
  have c2b1 : decide (60 < l0.length) = false := decide_eq_false (by omega)
  clear c2
  have H' := Aside0.mk H
  clear H
  go_enter Try.func29, Try.ntmps29
  go_wp2
  go_loopg [3] k (fun kq v3 w' => ∃ (x3_1 : Int), v3 = .int .i64 x3_1 ∧ Aside0 (constablelaw03_Many.l0 kq l0 x3_1 = some r) ∧ Aside0 (kq ≤ k) ∧ Aside0 (Below w.heap.size w w'))
  case atStart => exact ⟨(0), (by first | rfl | (simp; done) | (simp [*]; done)), H', ⟨Nat.le_refl _⟩, ⟨bB0⟩⟩
  case round =>
   clear H'
   (try clear c2); (try clear c2b0); (try clear c2b1); (try clear p2)
   obtain ⟨x3_1, rfl, HA, HK1, HB⟩ := hrel
   cases gk with
   | zero => exact absurd HA.out (by simp [constablelaw03_Many.l0])
   | succ k1 =>
    have H := HA.out
    clear HA
    simp only [constablelaw03_Many.l0] at H
    by_cases c3 : x3_1 < (l0.length : Int)
    ·rw [if_pos c3] at H
     have c3b0 : decide (x3_1 < (l0.length : Int)) = true := decide_eq_true c3
     clear c3
     by_cases c4 : 0 ≤ x3_1
     ·rw [if_pos c4] at H
      have c4b0 : decide (0 ≤ x3_1) = true := decide_eq_true c4
      clear c4
      replace H := Option.bind_eq_some_iff.mp H
      obtain ⟨t368, A50, H⟩ := H
      replace H : (if t368 = true then (some true) else (constablelaw03_Many.l0 k1 l0 (wrap64 (x3_1 + 1)))) = some r := H
      have A5 := Aside0.mk A50
      clear A50
      by_cases c6 : t368 = true
      ·subst c6
       have H1 : (some true) = some r := by rw [if_pos rfl] at H; exact H
       clear H
       have H := H1
       clear H1
       obtain rfl := Option.some.inj H
       have p367 : 0 ≤ (x3_1 : Int) := of_decide_eq_true (by first | (with_reducible assumption) | assumption)
       have q367 : x3_1 < (l0.length : Int) := of_decide_eq_true (by first | (with_reducible assumption) | assumption)
       obtain ⟨ad367, A367_1, c367_1, e367, hx367_0, hx367_1, hl367_1, hi367_1⟩ := at_T53 HR0.out x3_1 p367 q367
       cases e367
       have HZ367_1 := Aside0.mk hx367_1
       replace hx367_0 := (HB.out.cell (World.block_lt_of_cell? w _ hx367_0)).trans hx367_0
       replace hx367_1 := (HB.out.cell (World.block_lt_of_cell? w _ hx367_1)).trans hx367_1
       have HR367_1 := Aside0.mk hi367_1
       have HC367_1 := Aside0.mk hl367_1
       clear hi367_1 hl367_1
       replace p367 := eq_true p367
       replace q367 := eq_true q367
       go_wp2_with (first | ((with_reducible refine gate_callee (f := 36) rfl ?_); refine goesL_ (some 17) rfl rfl Try.func36 (by kernel_rfl) rfl #[.agg #[.string ((rd_T53 l0 x3_1).f0), .slice A367_1 ((rd_T53 l0 x3_1).f1).length c367_1]] rfl aG ?_; (with_reducible refine (constablelaw03_Heavy.calls k1 ((rd_T53 l0 x3_1).f0) _ _ ((rd_T53 l0 x3_1).f1) true _ ?side1 ?side2 A5.out).mono ?_); (case side1 => exact sC (Kd.C_below HR367_1.out HB.out)); (case side2 => exact HC367_1.out); rintro e w7 ⟨rfl, hb⟩; refine ⟨_, rfl, ?_⟩; have n0_ := Aside0.mk (below_step bB0 hb); clear HB; have HB := n0_; clear n0_; (try clear hb); (try clear hb2); (try clear hk); (try clear hi)))
       go_ret
       exact ⟨eW, bB0⟩
      ·replace c6 := Bool.eq_false_iff.mpr c6
       subst c6
       have H1 : (constablelaw03_Many.l0 k1 l0 (wrap64 (x3_1 + 1))) = some r := by rw [if_neg (show ¬ (false = true) by decide)] at H; exact H
       clear H
       have H := H1
       clear H1
       have H' := Aside0.mk H
       clear H
       have p367 : 0 ≤ (x3_1 : Int) := of_decide_eq_true (by first | (with_reducible assumption) | assumption)
       have q367 : x3_1 < (l0.length : Int) := of_decide_eq_true (by first | (with_reducible assumption) | assumption)
       obtain ⟨ad367, A367_1, c367_1, e367, hx367_0, hx367_1, hl367_1, hi367_1⟩ := at_T53 HR0.out x3_1 p367 q367
       cases e367
       have HZ367_1 := Aside0.mk hx367_1
       replace hx367_0 := (HB.out.cell (World.block_lt_of_cell? w _ hx367_0)).trans hx367_0
       replace hx367_1 := (HB.out.cell (World.block_lt_of_cell? w _ hx367_1)).trans hx367_1
       have HR367_1 := Aside0.mk hi367_1
       have HC367_1 := Aside0.mk hl367_1
       clear hi367_1 hl367_1
       replace p367 := eq_true p367
       replace q367 := eq_true q367
       go_wp2_with (first | ((with_reducible refine gate_callee (f := 36) rfl ?_); refine goesL_ (some 17) rfl rfl Try.func36 (by kernel_rfl) rfl #[.agg #[.string ((rd_T53 l0 x3_1).f0), .slice A367_1 ((rd_T53 l0 x3_1).f1).length c367_1]] rfl aG ?_; (with_reducible refine (constablelaw03_Heavy.calls k1 ((rd_T53 l0 x3_1).f0) _ _ ((rd_T53 l0 x3_1).f1) false _ ?side1 ?side2 A5.out).mono ?_); (case side1 => exact sC (Kd.C_below HR367_1.out HB.out)); (case side2 => exact HC367_1.out); rintro e w8 ⟨rfl, hb⟩; refine ⟨_, rfl, ?_⟩; have n0_ := Aside0.mk (below_step bB0 hb); clear HB; have HB := n0_; clear n0_; (try clear hb); (try clear hb2); (try clear hk); (try clear hi)))
       go_roundg k1
       case measure => have := HK1.out; omega
       case rel => exact ⟨(wrap64 (x3_1 + 1)), (by first | rfl | (simp; done) | (simp [*]; done)), H', ⟨by have := HK1.out; omega⟩, ⟨bB0⟩⟩
     ·rw [if_neg c4] at H
      exact absurd H (by simp)
    ·rw [if_neg c3] at H
     have c3b0 : decide (x3_1 < (l0.length : Int)) = false := decide_eq_false c3
     clear c3
     obtain rfl := Option.some.inj H
     go_wp2
     go_ret
     exact ⟨eW, bB0⟩

end Go.Proofs.Ytghommaokdhjmaa.P
namespace Go.Proofs.Ytghommaokdhjmaa.P
open Go.RowKit Go.Proofs.YtghommaokdhjmaaW.PrintWords Go.Proofs.YtghommaokdhjmaaW.PrintLast Go.Proofs.Ytghommaokdhjmaa.Gate
set_option linter.unusedVariables false
set_option linter.unusedSimpArgs false

theorem eqA24 (d : Nat) (w : World) (x0 y0 : Int) (x1 y1 : Int) (x2 y2 : ByteArray) :
  (Op.equalIn (d + 2) 24 (.agg #[.int .i64 x0, .int .i64 x1, .string x2]) (.agg #[.int .i64 y0, .int .i64 y1, .string y2])).run Try.prog w = .ok (x0 == y0 && (x1 == y1 && (x2.toList == y2.toList))) w := by
 refine eqA_of Try.underlying24 (by kernel_rfl) ?_
 refine eqf_cons (by rfl) (by go_simp; rfl) (by go_simp; rfl) (by go_simp) ?_
 refine eqf_cons (by rfl) (by go_simp; rfl) (by go_simp; rfl) (by go_simp) ?_
 exact eqf_last (by rfl) (by go_simp; rfl) (by go_simp; rfl) (by go_simp)
end Go.Proofs.Ytghommaokdhjmaa.P
namespace Go.Proofs.Ytghommaokdhjmaa.P
open Go.RowKit Go.Proofs.YtghommaokdhjmaaW.PrintWords Go.Proofs.YtghommaokdhjmaaW.PrintLast Go.Proofs.Ytghommaokdhjmaa.Gate
set_option linter.unusedVariables false
set_option linter.unusedSimpArgs false

attribute [local go_sem high] eqA24
/-! ### constablekeep_Fact: function 40 -/
mutual
def constablekeep_Fact.j0 : Nat → Bool → ByteArray → List (S24) → ByteArray → List (S24) → Option (Bool)
 | 0, _, _, _, _, _ => none
 | k + 1, x19, x442000, x442001, x443000, x443001 => if x19 = true then (some false) else (constablekeep_Fact.l0 k 0 x442000 x442001 x443000 x443001)
def constablekeep_Fact.l0 : Nat → Int → ByteArray → List (S24) → ByteArray → List (S24) → Option (Bool)
 | 0, _, _, _, _, _ => none
 | k + 1, x5, x442000, x442001, x443000, x443001 => if x5 < (x442001.length : Int) then (if 0 ≤ x5 then (if x5 < (x443001.length : Int) then (if (!(((rd_T24 x442001 x5).f0) == ((rd_T24 x443001 x5).f0)) || (!(((rd_T24 x442001 x5).f1) == ((rd_T24 x443001 x5).f1)) || (!((((rd_T24 x442001 x5).f2).toList) == (((rd_T24 x443001 x5).f2).toList))))) = true then (some false) else (constablekeep_Fact.l0 k (wrap64 (x5 + 1)) x442000 x442001 x443000 x443001)) else (none)) else (none)) else (some true)
end
def constablekeep_Fact.f (k : Nat) (a0_0 : ByteArray) (l0_1 : List (S24)) (a1_0 : ByteArray) (l1_1 : List (S24)) : Option (Bool) := if a0_0.toList = a1_0.toList then (constablekeep_Fact.j0 k ((l0_1.length : Int) != (l1_1.length : Int)) a0_0 l0_1 a1_0 l1_1) else (constablekeep_Fact.j0 k true a0_0 l0_1 a1_0 l1_1)
theorem constablekeep_Fact.mono_l : ∀ k, (∀ y0 y1 y2 y3 y4, LeO (constablekeep_Fact.j0 k y0 y1 y2 y3 y4) (constablekeep_Fact.j0 (k + 1) y0 y1 y2 y3 y4)) ∧ (∀ y0 y1 y2 y3 y4, LeO (constablekeep_Fact.l0 k y0 y1 y2 y3 y4) (constablekeep_Fact.l0 (k + 1) y0 y1 y2 y3 y4))
 | 0 => ⟨fun _ _ _ _ _ r h => by simp [constablekeep_Fact.j0] at h, fun _ _ _ _ _ r h => by simp [constablekeep_Fact.l0] at h⟩
 | k + 1 => by
  obtain ⟨ih0, ih1⟩ := constablekeep_Fact.mono_l k
  refine ⟨?_, ?_⟩
  ·intro y0 y1 y2 y3 y4
   unfold constablekeep_Fact.j0
   repeat' first
   | (with_reducible exact ih0 _ _ _ _ _)
   | (with_reducible exact ih1 _ _ _ _ _)
   | (with_reducible exact LeO.refl _)
   | (with_reducible exact LeO.none _)
   | (with_reducible refine LeO.ite ?_ ?_)
   | (with_reducible refine LeO.bind ?_ (fun _ => ?_))
  ·intro y0 y1 y2 y3 y4
   unfold constablekeep_Fact.l0
   repeat' first
   | (with_reducible exact ih0 _ _ _ _ _)
   | (with_reducible exact ih1 _ _ _ _ _)
   | (with_reducible exact LeO.refl _)
   | (with_reducible exact LeO.none _)
   | (with_reducible refine LeO.ite ?_ ?_)
   | (with_reducible refine LeO.bind ?_ (fun _ => ?_))
theorem constablekeep_Fact.mono : ∀ a0 a1 a2 a3 k, LeO (constablekeep_Fact.f k a0 a1 a2 a3) (constablekeep_Fact.f (k + 1) a0 a1 a2 a3) := by
 intro a0 a1 a2 a3 k
 obtain ⟨ih0, ih1⟩ := constablekeep_Fact.mono_l k
 unfold constablekeep_Fact.f
 repeat' first
   | (with_reducible exact ih0 _ _ _ _ _)
   | (with_reducible exact ih1 _ _ _ _ _)
   | (with_reducible exact LeO.refl _)
   | (with_reducible exact LeO.none _)
   | (with_reducible refine LeO.ite ?_ ?_)
   | (with_reducible refine LeO.bind ?_ (fun _ => ?_))
set_option maxHeartbeats 8000000 in
set_option maxRecDepth 100000 in
theorem constablekeep_Fact.calls (k : Nat) (a0_0 : ByteArray) (A0_1 : Option Addr) (c0_1 : Nat) (l0_1 : List (S24)) (a1_0 : ByteArray) (A1_1 : Option Addr) (c1_1 : Nat) (l1_1 : List (S24)) (r : Bool) (w : World) (hr0_1 : Kd.C k24 w A0_1 l0_1.length l0_1) (hc0_1 : l0_1.length ≤ c0_1) (hr1_1 : Kd.C k24 w A1_1 l1_1.length l1_1) (hc1_1 : l1_1.length ≤ c1_1) (h : constablekeep_Fact.f k a0_0 l0_1 a1_0 l1_1 = some r) :
  Calls Try.prog 40 #[.agg #[.string a0_0, .slice A0_1 l0_1.length c0_1], .agg #[.string a1_0, .slice A1_1 l1_1.length c1_1]] w fun e w' => e = .returned (.bool r) ∧ Below w.heap.size w w' := by
 have hu53 := Try.underlying53
 have hu24 := Try.underlying24
 have HR0_1 := Aside0.mk hr0_1
 have HC0_1 := Aside0.mk hc0_1
 clear hr0_1 hc0_1
 have HR1_1 := Aside0.mk hr1_1
 have HC1_1 := Aside0.mk hc1_1
 clear hr1_1 hc1_1
 have HB := Aside0.mk (Below.refl w.heap.size w)
 have H : (if a0_0.toList = a1_0.toList then (constablekeep_Fact.j0 k ((l0_1.length : Int) != (l1_1.length : Int)) a0_0 l0_1 a1_0 l1_1) else (constablekeep_Fact.j0 k true a0_0 l0_1 a1_0 l1_1)) = some r := h
 clear h
 have HC3 := Aside0.mk H
 clear H
 go_enter Try.func40, Try.ntmps40
 go_upto_region 1 with (first | ((with_reducible refine gate_dst (N := 2) rfl ?_); (try (refine gate_guard (by rfl) ?_; dsimp only)); refine bE (N := 2) (cs := #[.string a0_0, .slice A0_1 l0_1.length c0_1]) (t := 53) ?_; intro gb441 hg w4 hbox hb; have n0_ := Aside0.mk (below_step bB0 hb); have n1_ := Aside0.mk (hbox); have n2_ := Aside0.mk ((by rw [hg]; exact (below_size bB0) : w.heap.size ≤ gb441)); have n3_ := Aside0.mk ((by rw [hg]; exact (below_size bB0) : w.heap.size ≤ gb441)); clear HB; have HB := n0_; have BK441 := n1_; have GW441 := n2_; have GE441 := n3_; clear n0_ n1_ n2_ n3_; clear hb hbox hg) | ((with_reducible refine gate_dst (N := 3) rfl ?_); (try (refine gate_guard (by rfl) ?_; dsimp only)); refine bE (N := 3) (cs := #[.string a1_0, .slice A1_1 l1_1.length c1_1]) (t := 53) ?_; intro gb442 hg w5 hbox hb; have n0_ := Aside0.mk (blk_below (g := gb441) (o := .cells #[.string a0_0, .slice A0_1 l0_1.length c0_1] 53 (0, 0)) (by refine bk ?_; exact BK441.out) hb); have n1_ := Aside0.mk (below_step (bB1 GE441.out) hb); have n2_ := Aside0.mk (hbox); have n3_ := Aside0.mk ((by rw [hg]; exact (below_size (bB1 GE441.out)) : w.heap.size ≤ gb442)); have n4_ := Aside0.mk ((by rw [hg]; exact (below_size (bB1 GE441.out)) : w.heap.size ≤ gb442)); have n5_ := Aside0.mk ((by rw [hg]; exact Nat.ne_of_lt (blk_lt (g := gb441) (o := .cells #[.string a0_0, .slice A0_1 l0_1.length c0_1] 53 (0, 0)) (by refine bk ?_; exact BK441.out)) : gb441 ≠ gb442)); have n6_ := Aside0.mk ((by rw [hg]; exact Nat.ne_of_gt (blk_lt (g := gb441) (o := .cells #[.string a0_0, .slice A0_1 l0_1.length c0_1] 53 (0, 0)) (by refine bk ?_; exact BK441.out)) : gb442 ≠ gb441)); clear BK441; clear HB; have BK441 := n0_; have HB := n1_; have BK442 := n2_; have GW442 := n3_; have GE442 := n4_; have NB441_442 := n5_; have NB442_441 := n6_; clear n0_ n1_ n2_ n3_ n4_ n5_ n6_; clear hb hbox hg))
 repeat (go_quiet (first | ((with_reducible refine gate_dst (N := 2) rfl ?_); (try (refine gate_guard (by rfl) ?_; dsimp only)); refine bE (N := 2) (cs := #[.string a0_0, .slice A0_1 l0_1.length c0_1]) (t := 53) ?_; intro gb441 hg w4 hbox hb; have n0_ := Aside0.mk (below_step bB0 hb); have n1_ := Aside0.mk (hbox); have n2_ := Aside0.mk ((by rw [hg]; exact (below_size bB0) : w.heap.size ≤ gb441)); have n3_ := Aside0.mk ((by rw [hg]; exact (below_size bB0) : w.heap.size ≤ gb441)); clear HB; have HB := n0_; have BK441 := n1_; have GW441 := n2_; have GE441 := n3_; clear n0_ n1_ n2_ n3_; clear hb hbox hg) | ((with_reducible refine gate_dst (N := 3) rfl ?_); (try (refine gate_guard (by rfl) ?_; dsimp only)); refine bE (N := 3) (cs := #[.string a1_0, .slice A1_1 l1_1.length c1_1]) (t := 53) ?_; intro gb442 hg w5 hbox hb; have n0_ := Aside0.mk (blk_below (g := gb441) (o := .cells #[.string a0_0, .slice A0_1 l0_1.length c0_1] 53 (0, 0)) (by refine bk ?_; exact BK441.out) hb); have n1_ := Aside0.mk (below_step (bB1 GE441.out) hb); have n2_ := Aside0.mk (hbox); have n3_ := Aside0.mk ((by rw [hg]; exact (below_size (bB1 GE441.out)) : w.heap.size ≤ gb442)); have n4_ := Aside0.mk ((by rw [hg]; exact (below_size (bB1 GE441.out)) : w.heap.size ≤ gb442)); have n5_ := Aside0.mk ((by rw [hg]; exact Nat.ne_of_lt (blk_lt (g := gb441) (o := .cells #[.string a0_0, .slice A0_1 l0_1.length c0_1] 53 (0, 0)) (by refine bk ?_; exact BK441.out)) : gb441 ≠ gb442)); have n6_ := Aside0.mk ((by rw [hg]; exact Nat.ne_of_gt (blk_lt (g := gb441) (o := .cells #[.string a0_0, .slice A0_1 l0_1.length c0_1] 53 (0, 0)) (by refine bk ?_; exact BK441.out)) : gb442 ≠ gb441)); clear BK441; clear HB; have BK441 := n0_; have HB := n1_; have BK442 := n2_; have GW442 := n3_; have GE442 := n4_; have NB441_442 := n5_; have NB442_441 := n6_; clear n0_ n1_ n2_ n3_ n4_ n5_ n6_; clear hb hbox hg)); go_upto_region 1 with (first | ((with_reducible refine gate_dst (N := 2) rfl ?_); (try (refine gate_guard (by rfl) ?_; dsimp only)); refine bE (N := 2) (cs := #[.string a0_0, .slice A0_1 l0_1.length c0_1]) (t := 53) ?_; intro gb441 hg w4 hbox hb; have n0_ := Aside0.mk (below_step bB0 hb); have n1_ := Aside0.mk (hbox); have n2_ := Aside0.mk ((by rw [hg]; exact (below_size bB0) : w.heap.size ≤ gb441)); have n3_ := Aside0.mk ((by rw [hg]; exact (below_size bB0) : w.heap.size ≤ gb441)); clear HB; have HB := n0_; have BK441 := n1_; have GW441 := n2_; have GE441 := n3_; clear n0_ n1_ n2_ n3_; clear hb hbox hg) | ((with_reducible refine gate_dst (N := 3) rfl ?_); (try (refine gate_guard (by rfl) ?_; dsimp only)); refine bE (N := 3) (cs := #[.string a1_0, .slice A1_1 l1_1.length c1_1]) (t := 53) ?_; intro gb442 hg w5 hbox hb; have n0_ := Aside0.mk (blk_below (g := gb441) (o := .cells #[.string a0_0, .slice A0_1 l0_1.length c0_1] 53 (0, 0)) (by refine bk ?_; exact BK441.out) hb); have n1_ := Aside0.mk (below_step (bB1 GE441.out) hb); have n2_ := Aside0.mk (hbox); have n3_ := Aside0.mk ((by rw [hg]; exact (below_size (bB1 GE441.out)) : w.heap.size ≤ gb442)); have n4_ := Aside0.mk ((by rw [hg]; exact (below_size (bB1 GE441.out)) : w.heap.size ≤ gb442)); have n5_ := Aside0.mk ((by rw [hg]; exact Nat.ne_of_lt (blk_lt (g := gb441) (o := .cells #[.string a0_0, .slice A0_1 l0_1.length c0_1] 53 (0, 0)) (by refine bk ?_; exact BK441.out)) : gb441 ≠ gb442)); have n6_ := Aside0.mk ((by rw [hg]; exact Nat.ne_of_gt (blk_lt (g := gb441) (o := .cells #[.string a0_0, .slice A0_1 l0_1.length c0_1] 53 (0, 0)) (by refine bk ?_; exact BK441.out)) : gb442 ≠ gb441)); clear BK441; clear HB; have BK441 := n0_; have HB := n1_; have BK442 := n2_; have GW442 := n3_; have GE442 := n4_; have NB441_442 := n5_; have NB442_441 := n6_; clear n0_ n1_ n2_ n3_ n4_ n5_ n6_; clear hb hbox hg)))
 (try simp only [Act.put, List.setIfInBounds_toArray, List.set_cons_zero, List.set_cons_succ])
 go_cut [19] (fun v19 wc => ∃ (kq : Nat) (x19_2 : Bool), v19 = .bool x19_2 ∧ Aside0 (constablekeep_Fact.j0 kq x19_2 a0_0 l0_1 a1_0 l1_1 = some r) ∧ Aside0 (kq ≤ k) ∧ Aside0 (wc.heap[gb441]? = some (.cells #[.string a0_0, (.slice A0_1 l0_1.length c0_1)] 53 (0, 0))) ∧ Aside0 (wc.heap[gb442]? = some (.cells #[.string a1_0, (.slice A1_1 l1_1.length c1_1)] 53 (0, 0))) ∧ Aside0 (Below w.heap.size w wc))
 case first =>
  have H := HC3.out
  clear HC3
  by_cases c6 : a0_0.toList = a1_0.toList
  ·rw [if_pos c6] at H
   have c6b0 : (a0_0.toList == a1_0.toList) = true := beq_iff_eq.mpr c6
   have c6b1 : (a0_0.toList != a1_0.toList) = false := bne_eq_false_iff_eq.mpr c6
   clear c6
   (first | rw [c6b0] | (simp only [i64_w, i32_w]; rw [c6b0]) | skip)
   have H' := Aside0.mk H
   clear H
   have hnb7 := NB441_442.out
   have hnc7 := NB442_441.out
   have hcz8_0 : w5.cell? ⟨gb441, 0, none⟩ = some (.string a0_0) := (blk_cell BK441.out 0).trans rfl
   have hcz8_1 : w5.cell? ⟨gb441, 1, none⟩ = some (.slice A0_1 l0_1.length c0_1) := (blk_cell BK441.out 1).trans rfl
   have hfz8_0 := blk_frozen BK441.out 0
   have hfz8_1 := blk_frozen BK441.out 1
   have hcz9_0 : w5.cell? ⟨gb442, 0, none⟩ = some (.string a1_0) := (blk_cell BK442.out 0).trans rfl
   have hcz9_1 : w5.cell? ⟨gb442, 1, none⟩ = some (.slice A1_1 l1_1.length c1_1) := (blk_cell BK442.out 1).trans rfl
   have hfz9_0 := blk_frozen BK442.out 0
   have hfz9_1 := blk_frozen BK442.out 1
   go_wp2
   repeat (go_quiet (fail); try go_wp2)
   go_meet
   case rel => exact ⟨_, (((l0_1.length : Int) != (l1_1.length : Int))), (by first | rfl | (simp; done) | (simp [*]; done)), H', ⟨by first | omega | exact Nat.le_refl _⟩, ⟨by refine bk ?_; exact BK441.out⟩, ⟨by refine bk ?_; exact BK442.out⟩, ⟨(bB2 GE441.out GE442.out)⟩⟩
  ·rw [if_neg c6] at H
   have c6b0 : (a0_0.toList == a1_0.toList) = false := beq_eq_false_iff_ne.mpr c6
   have c6b1 : (a0_0.toList != a1_0.toList) = true := bne_iff_ne.mpr c6
   (first | rw [c6b0] | (simp only [i64_w, i32_w]; rw [c6b0]) | skip)
   have H' := Aside0.mk H
   clear H
   have hnb10 := NB441_442.out
   have hnc10 := NB442_441.out
   have hcz11_0 : w5.cell? ⟨gb441, 0, none⟩ = some (.string a0_0) := (blk_cell BK441.out 0).trans rfl
   have hcz11_1 : w5.cell? ⟨gb441, 1, none⟩ = some (.slice A0_1 l0_1.length c0_1) := (blk_cell BK441.out 1).trans rfl
   have hfz11_0 := blk_frozen BK441.out 0
   have hfz11_1 := blk_frozen BK441.out 1
   have hcz12_0 : w5.cell? ⟨gb442, 0, none⟩ = some (.string a1_0) := (blk_cell BK442.out 0).trans rfl
   have hcz12_1 : w5.cell? ⟨gb442, 1, none⟩ = some (.slice A1_1 l1_1.length c1_1) := (blk_cell BK442.out 1).trans rfl
   have hfz12_0 := blk_frozen BK442.out 0
   have hfz12_1 := blk_frozen BK442.out 1
   go_wp2
   repeat (go_quiet (fail); try go_wp2)
   go_meet
   case rel => exact ⟨_, (true), (by first | rfl | (simp; done) | (simp [*]; done)), H', ⟨by first | omega | exact Nat.le_refl _⟩, ⟨by refine bk ?_; exact BK441.out⟩, ⟨by refine bk ?_; exact BK442.out⟩, ⟨(bB2 GE441.out GE442.out)⟩⟩
 case rest =>
  clear HC3
  (try clear c1); (try clear p2); (try clear c4); (try clear c6); (try clear c6b0); (try clear c6b1); (try clear c7); (try clear c10); (try clear hcz11_0); (try clear hcz11_1); (try clear hcz12_0); (try clear hcz12_1); (try clear hcz8_0); (try clear hcz8_1); (try clear hcz9_0); (try clear hcz9_1); (try clear hfz11_0); (try clear hfz11_1); (try clear hfz12_0); (try clear hfz12_1); (try clear hfz8_0); (try clear hfz8_1); (try clear hfz9_0); (try clear hfz9_1)
  obtain ⟨kq, x19_2, rfl, HA, HJ2, BK441, BK442, HB⟩ := hcut
  cases kq with
  | zero => exact absurd HA.out (by simp [constablekeep_Fact.j0])
  | succ kj2 =>
   have H := HA.out
   clear HA
   simp only [constablekeep_Fact.j0] at H
   by_cases c13 : x19_2 = true
   ·subst c13
    have H1 : (some false) = some r := by rw [if_pos rfl] at H; exact H
    clear H
    have H := H1
    clear H1
    obtain rfl := Option.some.inj H
    go_wp2
    repeat (go_quiet (fail); try go_wp2)
    go_ret
    exact ⟨eW, (bB2 GE441.out GE442.out)⟩
   ·replace c13 := Bool.eq_false_iff.mpr c13
    subst c13
    have H1 : (constablekeep_Fact.l0 kj2 0 a0_0 l0_1 a1_0 l1_1) = some r := by rw [if_neg (show ¬ (false = true) by decide)] at H; exact H
    clear H
    have H := H1
    clear H1
    have H' := Aside0.mk H
    clear H
    go_wp2
    repeat (go_quiet (fail); try go_wp2)
    go_loopg [5] kj2 (fun kq v5 w' => ∃ (x5_2 : Int), v5 = .int .i64 x5_2 ∧ Aside0 (constablekeep_Fact.l0 kq x5_2 a0_0 l0_1 a1_0 l1_1 = some r) ∧ Aside0 (kq ≤ kj2) ∧ Aside0 (w'.heap[gb441]? = some (.cells #[.string a0_0, (.slice A0_1 l0_1.length c0_1)] 53 (0, 0))) ∧ Aside0 (w'.heap[gb442]? = some (.cells #[.string a1_0, (.slice A1_1 l1_1.length c1_1)] 53 (0, 0))) ∧ Aside0 (Below w.heap.size w w'))
    case atStart => exact ⟨(0), (by first | rfl | (simp; done) | (simp [*]; done)), H', ⟨Nat.le_refl _⟩, ⟨by refine bk ?_; exact BK441.out⟩, ⟨by refine bk ?_; exact BK442.out⟩, ⟨(bB2 GE441.out GE442.out)⟩⟩
    case round =>
     clear H'
     (try clear c1); (try clear p2); (try clear c4); (try clear c6); (try clear c6b0); (try clear c6b1); (try clear c7); (try clear c10); (try clear c13); (try clear hcz11_0); (try clear hcz11_1); (try clear hcz12_0); (try clear hcz12_1); (try clear hcz8_0); (try clear hcz8_1); (try clear hcz9_0); (try clear hcz9_1); (try clear hfz11_0); (try clear hfz11_1); (try clear hfz12_0); (try clear hfz12_1); (try clear hfz8_0); (try clear hfz8_1); (try clear hfz9_0); (try clear hfz9_1); (try clear p2)
     obtain ⟨x5_2, rfl, HA, HK2, BK441, BK442, HB⟩ := hrel
     cases gk with
     | zero => exact absurd HA.out (by simp [constablekeep_Fact.l0])
     | succ k2 =>
      have H := HA.out
      clear HA
      simp only [constablekeep_Fact.l0] at H
      by_cases c14 : x5_2 < (l0_1.length : Int)
      ·rw [if_pos c14] at H
       have c14b0 : decide (x5_2 < (l0_1.length : Int)) = true := decide_eq_true c14
       clear c14
       by_cases c15 : 0 ≤ x5_2
       ·rw [if_pos c15] at H
        have c15b0 : decide (0 ≤ x5_2) = true := decide_eq_true c15
        clear c15
        by_cases c16 : x5_2 < (l1_1.length : Int)
        ·rw [if_pos c16] at H
         have c16b0 : decide (x5_2 < (l1_1.length : Int)) = true := decide_eq_true c16
         clear c16
         obtain ⟨qc17, hqc17⟩ : ∃ b_ : Bool, (!(((rd_T24 l0_1 x5_2).f0) == ((rd_T24 l1_1 x5_2).f0)) || (!(((rd_T24 l0_1 x5_2).f1) == ((rd_T24 l1_1 x5_2).f1)) || (!((((rd_T24 l0_1 x5_2).f2).toList) == (((rd_T24 l1_1 x5_2).f2).toList))))) = b_ := ⟨_, rfl⟩
         by_cases c17 : (!(((rd_T24 l0_1 x5_2).f0) == ((rd_T24 l1_1 x5_2).f0)) || (!(((rd_T24 l0_1 x5_2).f1) == ((rd_T24 l1_1 x5_2).f1)) || (!((((rd_T24 l0_1 x5_2).f2).toList) == (((rd_T24 l1_1 x5_2).f2).toList))))) = true
         ·rw [if_pos c17] at H
          have c17b0 : qc17 = true := hqc17.symm.trans c17
          clear c17
          obtain rfl := Option.some.inj H
          have hnb18 := NB441_442.out
          have hnc18 := NB442_441.out
          have hcz19_0 : wr.cell? ⟨gb441, 0, none⟩ = some (.string a0_0) := (blk_cell BK441.out 0).trans rfl
          have hcz19_1 : wr.cell? ⟨gb441, 1, none⟩ = some (.slice A0_1 l0_1.length c0_1) := (blk_cell BK441.out 1).trans rfl
          have hfz19_0 := blk_frozen BK441.out 0
          have hfz19_1 := blk_frozen BK441.out 1
          have p443 : 0 ≤ (x5_2 : Int) := of_decide_eq_true (by first | (with_reducible assumption) | assumption)
          have q443 : x5_2 < (l0_1.length : Int) := of_decide_eq_true (by first | (with_reducible assumption) | assumption)
          obtain ⟨ad443, e443, hx443_0, hx443_1, hx443_2⟩ := at_T24 HR0_1.out x5_2 p443 q443
          cases e443
          replace hx443_0 := (HB.out.cell (World.block_lt_of_cell? w _ hx443_0)).trans hx443_0
          replace hx443_1 := (HB.out.cell (World.block_lt_of_cell? w _ hx443_1)).trans hx443_1
          replace hx443_2 := (HB.out.cell (World.block_lt_of_cell? w _ hx443_2)).trans hx443_2
          replace p443 := eq_true p443
          replace q443 := eq_true q443
          have hcz20_0 : wr.cell? ⟨gb442, 0, none⟩ = some (.string a1_0) := (blk_cell BK442.out 0).trans rfl
          have hcz20_1 : wr.cell? ⟨gb442, 1, none⟩ = some (.slice A1_1 l1_1.length c1_1) := (blk_cell BK442.out 1).trans rfl
          have hfz20_0 := blk_frozen BK442.out 0
          have hfz20_1 := blk_frozen BK442.out 1
          have p444 : 0 ≤ (x5_2 : Int) := of_decide_eq_true (by first | (with_reducible assumption) | assumption)
          have q444 : x5_2 < (l1_1.length : Int) := of_decide_eq_true (by first | (with_reducible assumption) | assumption)
          obtain ⟨ad444, e444, hx444_0, hx444_1, hx444_2⟩ := at_T24 HR1_1.out x5_2 p444 q444
          cases e444
          replace hx444_0 := (HB.out.cell (World.block_lt_of_cell? w _ hx444_0)).trans hx444_0
          replace hx444_1 := (HB.out.cell (World.block_lt_of_cell? w _ hx444_1)).trans hx444_1
          replace hx444_2 := (HB.out.cell (World.block_lt_of_cell? w _ hx444_2)).trans hx444_2
          replace p444 := eq_true p444
          replace q444 := eq_true q444
          go_wp2
          repeat (go_quiet (fail); try go_wp2)
          go_ret
          exact ⟨eW, (bB2 GE441.out GE442.out)⟩
         ·rw [if_neg c17] at H
          have c17b0 : qc17 = false := hqc17.symm.trans (Bool.eq_false_iff.mpr c17)
          clear c17
          have H' := Aside0.mk H
          clear H
          have hnb21 := NB441_442.out
          have hnc21 := NB442_441.out
          have hcz22_0 : wr.cell? ⟨gb441, 0, none⟩ = some (.string a0_0) := (blk_cell BK441.out 0).trans rfl
          have hcz22_1 : wr.cell? ⟨gb441, 1, none⟩ = some (.slice A0_1 l0_1.length c0_1) := (blk_cell BK441.out 1).trans rfl
          have hfz22_0 := blk_frozen BK441.out 0
          have hfz22_1 := blk_frozen BK441.out 1
          have p443 : 0 ≤ (x5_2 : Int) := of_decide_eq_true (by first | (with_reducible assumption) | assumption)
          have q443 : x5_2 < (l0_1.length : Int) := of_decide_eq_true (by first | (with_reducible assumption) | assumption)
          obtain ⟨ad443, e443, hx443_0, hx443_1, hx443_2⟩ := at_T24 HR0_1.out x5_2 p443 q443
          cases e443
          replace hx443_0 := (HB.out.cell (World.block_lt_of_cell? w _ hx443_0)).trans hx443_0
          replace hx443_1 := (HB.out.cell (World.block_lt_of_cell? w _ hx443_1)).trans hx443_1
          replace hx443_2 := (HB.out.cell (World.block_lt_of_cell? w _ hx443_2)).trans hx443_2
          replace p443 := eq_true p443
          replace q443 := eq_true q443
          have hcz23_0 : wr.cell? ⟨gb442, 0, none⟩ = some (.string a1_0) := (blk_cell BK442.out 0).trans rfl
          have hcz23_1 : wr.cell? ⟨gb442, 1, none⟩ = some (.slice A1_1 l1_1.length c1_1) := (blk_cell BK442.out 1).trans rfl
          have hfz23_0 := blk_frozen BK442.out 0
          have hfz23_1 := blk_frozen BK442.out 1
          have p444 : 0 ≤ (x5_2 : Int) := of_decide_eq_true (by first | (with_reducible assumption) | assumption)
          have q444 : x5_2 < (l1_1.length : Int) := of_decide_eq_true (by first | (with_reducible assumption) | assumption)
          obtain ⟨ad444, e444, hx444_0, hx444_1, hx444_2⟩ := at_T24 HR1_1.out x5_2 p444 q444
          cases e444
          replace hx444_0 := (HB.out.cell (World.block_lt_of_cell? w _ hx444_0)).trans hx444_0
          replace hx444_1 := (HB.out.cell (World.block_lt_of_cell? w _ hx444_1)).trans hx444_1
          replace hx444_2 := (HB.out.cell (World.block_lt_of_cell? w _ hx444_2)).trans hx444_2
          replace p444 := eq_true p444
          replace q444 := eq_true q444
          go_wp2
          repeat (go_quiet (fail); try go_wp2)
          go_roundg k2
          case measure => have := HJ2.out; have := HK2.out; omega
          case rel => exact ⟨(wrap64 (x5_2 + 1)), (by first | rfl | (simp; done) | (simp [*]; done)), H', ⟨by have := HJ2.out; have := HK2.out; omega⟩, ⟨by refine bk ?_; exact BK441.out⟩, ⟨by refine bk ?_; exact BK442.out⟩, ⟨(bB2 GE441.out GE442.out)⟩⟩
        ·rw [if_neg c16] at H
         exact absurd H (by simp)
       ·rw [if_neg c15] at H
        exact absurd H (by simp)
      ·rw [if_neg c14] at H
       have c14b0 : decide (x5_2 < (l0_1.length : Int)) = false := decide_eq_false c14
       clear c14
       obtain rfl := Option.some.inj H
       have hnb24 := NB441_442.out
       have hnc24 := NB442_441.out
       have hcz25_0 : wr.cell? ⟨gb441, 0, none⟩ = some (.string a0_0) := (blk_cell BK441.out 0).trans rfl
       have hcz25_1 : wr.cell? ⟨gb441, 1, none⟩ = some (.slice A0_1 l0_1.length c0_1) := (blk_cell BK441.out 1).trans rfl
       have hfz25_0 := blk_frozen BK441.out 0
       have hfz25_1 := blk_frozen BK441.out 1
       go_wp2
       repeat (go_quiet (fail); try go_wp2)
       go_ret
       exact ⟨eW, (bB2 GE441.out GE442.out)⟩

end Go.Proofs.Ytghommaokdhjmaa.P
namespace Go.Proofs.Ytghommaokdhjmaa.P
open Go.RowKit Go.Proofs.YtghommaokdhjmaaW.PrintWords Go.Proofs.YtghommaokdhjmaaW.PrintLast Go.Proofs.Ytghommaokdhjmaa.Gate
set_option linter.unusedVariables false
set_option linter.unusedSimpArgs false

/-! ### constablekeep_Facts: function 34 -/
def constablekeep_Facts.l0 : Nat → List (S53) → List (S53) → Int → Option (Bool)
 | 0, _, _, _ => none
 | k + 1, x0, x1, x5 => if x5 < (x0.length : Int) then (if 0 ≤ x5 then (if x5 < (x1.length : Int) then ((constablekeep_Fact.f k ((rd_T53 x0 x5).f0) ((rd_T53 x0 x5).f1) ((rd_T53 x1 x5).f0) ((rd_T53 x1 x5).f1)).bind fun t447 => (if t447 = true then (constablekeep_Facts.l0 k x0 x1 (wrap64 (x5 + 1))) else (some false))) else (none)) else (none)) else (some true)
def constablekeep_Facts.f (k : Nat) (l0 : List (S53)) (l1 : List (S53)) : Option (Bool) := if (l0.length : Int) = (l1.length : Int) then (constablekeep_Facts.l0 k l0 l1 0) else (some false)
theorem constablekeep_Facts.mono_l : ∀ k, (∀ y0 y1 y2, LeO (constablekeep_Facts.l0 k y0 y1 y2) (constablekeep_Facts.l0 (k + 1) y0 y1 y2))
 | 0 => fun _ _ _ r h => by simp [constablekeep_Facts.l0] at h
 | k + 1 => by
  have ih0 := constablekeep_Facts.mono_l k
  ·intro y0 y1 y2
   unfold constablekeep_Facts.l0
   repeat' first
   | (with_reducible exact ih0 _ _ _)
   | (with_reducible exact constablekeep_Fact.mono _ _ _ _ _)
   | (with_reducible exact LeO.refl _)
   | (with_reducible exact LeO.none _)
   | (with_reducible refine LeO.ite ?_ ?_)
   | (with_reducible refine LeO.bind ?_ (fun _ => ?_))
theorem constablekeep_Facts.mono : ∀ a0 a1 k, LeO (constablekeep_Facts.f k a0 a1) (constablekeep_Facts.f (k + 1) a0 a1) := by
 intro a0 a1 k
 have ih0 := constablekeep_Facts.mono_l k
 unfold constablekeep_Facts.f
 repeat' first
   | (with_reducible exact ih0 _ _ _)
   | (with_reducible exact constablekeep_Fact.mono _ _ _ _ _)
   | (with_reducible exact LeO.refl _)
   | (with_reducible exact LeO.none _)
   | (with_reducible refine LeO.ite ?_ ?_)
   | (with_reducible refine LeO.bind ?_ (fun _ => ?_))
def constablekeep_Facts.T6 : Bool × List (List Nat × List Nat) := (true, [([], []), ([], []), ([0, 1], [0, 1]), ([2], [2]), ([], []), ([], []), ([4, 5], [4, 5]), ([6], [6]), ([3, 7], [3, 7]), ([8], [8])])
def constablekeep_Facts.B6 : List Nat := [0, 0, 3, 7, 0, 0, 48, 112, 255, 511]
theorem constablekeep_Facts.tab6 : rtab .any (opsOf Try.f34 6) = constablekeep_Facts.T6 := by kernel_rfl
theorem constablekeep_Facts.bits6 : waitsOk constablekeep_Facts.T6.2 constablekeep_Facts.B6 = true := by kernel_rfl
set_option maxHeartbeats 8000000 in
set_option maxRecDepth 100000 in
theorem constablekeep_Facts.calls (k : Nat) (A0 : Option Addr) (c0 : Nat) (l0 : List (S53)) (A1 : Option Addr) (c1 : Nat) (l1 : List (S53)) (r : Bool) (w : World) (hr0 : Kd.C k53 w A0 l0.length l0) (hc0 : l0.length ≤ c0) (hr1 : Kd.C k53 w A1 l1.length l1) (hc1 : l1.length ≤ c1) (h : constablekeep_Facts.f k l0 l1 = some r) :
  Calls Try.prog 34 #[.slice A0 l0.length c0, .slice A1 l1.length c1] w fun e w' => e = .returned (.bool r) ∧ Below w.heap.size w w' := by
 have hu53 := Try.underlying53
 have HR0 := Aside0.mk hr0
 have HC0 := Aside0.mk hc0
 clear hr0 hc0
 have HR1 := Aside0.mk hr1
 have HC1 := Aside0.mk hc1
 clear hr1 hc1
 have HB := Aside0.mk (Below.refl w.heap.size w)
 have H : (if (l0.length : Int) = (l1.length : Int) then (constablekeep_Facts.l0 k l0 l1 0) else (some false)) = some r := h
 clear h
 by_cases c3 : (l0.length : Int) = (l1.length : Int)
 ·rw [if_pos c3] at H
  have c3b0 : ((l0.length : Int) == (l1.length : Int)) = true := beq_iff_eq.mpr c3
  have c3b1 : ((l0.length : Int) != (l1.length : Int)) = false := bne_eq_false_iff_eq.mpr c3
  have c3b2 : (l0.length == l1.length) = true := by first | simpa using c3 | (simp at c3 ⊢; omega)
  clear c3
  have H' := Aside0.mk H
  clear H
  go_enter Try.func34, Try.ntmps34
  go_wp2
  go_loopg [5] k (fun kq v5 w' => ∃ (x5_1 : Int), v5 = .int .i64 x5_1 ∧ Aside0 (constablekeep_Facts.l0 kq l0 l1 x5_1 = some r) ∧ Aside0 (kq ≤ k) ∧ Aside0 (Below w.heap.size w w'))
  case atStart => exact ⟨(0), (by first | rfl | (simp; done) | (simp [*]; done)), H', ⟨Nat.le_refl _⟩, ⟨bB0⟩⟩
  case round =>
   clear H'
   (try clear c1); (try clear p2); (try clear c3); (try clear c3b0); (try clear c3b1); (try clear c3b2)
   obtain ⟨x5_1, rfl, HA, HK1, HB⟩ := hrel
   cases gk with
   | zero => exact absurd HA.out (by simp [constablekeep_Facts.l0])
   | succ k1 =>
    have H := HA.out
    clear HA
    simp only [constablekeep_Facts.l0] at H
    by_cases c4 : x5_1 < (l0.length : Int)
    ·rw [if_pos c4] at H
     have c4b0 : decide (x5_1 < (l0.length : Int)) = true := decide_eq_true c4
     clear c4
     by_cases c5 : 0 ≤ x5_1
     ·rw [if_pos c5] at H
      have c5b0 : decide (0 ≤ x5_1) = true := decide_eq_true c5
      clear c5
      by_cases c6 : x5_1 < (l1.length : Int)
      ·rw [if_pos c6] at H
       have c6b0 : decide (x5_1 < (l1.length : Int)) = true := decide_eq_true c6
       clear c6
       replace H := Option.bind_eq_some_iff.mp H
       obtain ⟨t447, A70, H⟩ := H
       replace H : (if t447 = true then (constablekeep_Facts.l0 k1 l0 l1 (wrap64 (x5_1 + 1))) else (some false)) = some r := H
       have A7 := Aside0.mk A70
       clear A70
       by_cases c8 : t447 = true
       ·subst c8
        have H1 : (constablekeep_Facts.l0 k1 l0 l1 (wrap64 (x5_1 + 1))) = some r := by rw [if_pos rfl] at H; exact H
        clear H
        have H := H1
        clear H1
        have H' := Aside0.mk H
        clear H
        try go_wp2
        have n0_ := Aside0.mk (below_drew1 HB.out)
        clear HB
        have HB := n0_
        clear n0_
        have p445 : 0 ≤ (x5_1 : Int) := of_decide_eq_true (by first | (with_reducible assumption) | assumption)
        have q445 : x5_1 < (l0.length : Int) := of_decide_eq_true (by first | (with_reducible assumption) | assumption)
        obtain ⟨ad445, A445_1, c445_1, e445, hx445_0, hx445_1, hl445_1, hi445_1⟩ := at_T53 HR0.out x5_1 p445 q445
        have hw445_1 := hx445_1
        have hw445_0 := hx445_0
        cases e445
        have HZ445_1 := Aside0.mk hx445_1
        replace hx445_0 := (HB.out.cell (World.block_lt_of_cell? w _ hx445_0)).trans hx445_0
        replace hx445_1 := (HB.out.cell (World.block_lt_of_cell? w _ hx445_1)).trans hx445_1
        have HR445_1 := Aside0.mk hi445_1
        have HC445_1 := Aside0.mk hl445_1
        clear hi445_1 hl445_1
        replace p445 := eq_true p445
        replace q445 := eq_true q445
        have p446 : 0 ≤ (x5_1 : Int) := of_decide_eq_true (by first | (with_reducible assumption) | assumption)
        have q446 : x5_1 < (l1.length : Int) := of_decide_eq_true (by first | (with_reducible assumption) | assumption)
        obtain ⟨ad446, A446_1, c446_1, e446, hx446_0, hx446_1, hl446_1, hi446_1⟩ := at_T53 HR1.out x5_1 p446 q446
        have hw446_1 := hx446_1
        have hw446_0 := hx446_0
        cases e446
        have HZ446_1 := Aside0.mk hx446_1
        replace hx446_0 := (HB.out.cell (World.block_lt_of_cell? w _ hx446_0)).trans hx446_0
        replace hx446_1 := (HB.out.cell (World.block_lt_of_cell? w _ hx446_1)).trans hx446_1
        have HR446_1 := Aside0.mk hi446_1
        have HC446_1 := Aside0.mk hl446_1
        clear hi446_1 hl446_1
        replace p446 := eq_true p446
        replace q446 := eq_true q446
        refine start_ (n := 10) (S := fun w' => w'.cell? (ad445.add ((x5_1).toNat * 2)) = some (.string ((rd_T53 l0 x5_1).f0)) ∧ w'.cell? ⟨(ad445.add ((x5_1).toNat * 2)).block, (ad445.add ((x5_1).toNat * 2)).off + 1, none⟩ = some (.slice A445_1 ((rd_T53 l0 x5_1).f1).length c445_1) ∧ w'.cell? (ad446.add ((x5_1).toNat * 2)) = some (.string ((rd_T53 l1 x5_1).f0)) ∧ w'.cell? ⟨(ad446.add ((x5_1).toNat * 2)).block, (ad446.add ((x5_1).toNat * 2)).off + 1, none⟩ = some (.slice A446_1 ((rd_T53 l1 x5_1).f1).length c446_1)) (ds := []) #[false, false, false, false, false, false, false, false, false, false] (by kernel_rfl) rfl rfl ⟨((HB.out.cell (World.block_lt_of_cell? w _ hw445_0)).trans hw445_0), ((HB.out.cell (World.block_lt_of_cell? w _ hw445_1)).trans hw445_1), ((HB.out.cell (World.block_lt_of_cell? w _ hw446_0)).trans hw446_0), ((HB.out.cell (World.block_lt_of_cell? w _ hw446_1)).trans hw446_1)⟩ (fun hHeld => ?_); refine with_tabW constablekeep_Facts.tab6 constablekeep_Facts.bits6 (fun HT_ HW_ => ?_)
        generalize wr.drew = w9 at HB HR445_1 HR446_1 hx445_0 hx445_1 hx446_0 hx446_1 hHeld ⊢
        refine pQ (i := 0) (N := some 17) (bb 10 1) ?_
        refine pQ (i := 1) (N := some 18) (bb 10 3) ?_
        refine pQ (i := 2) (N := some 19) (bb 10 7) ?_
        refine pQ (i := 4) (N := some 21) (bb 10 23) ?_
        refine pQ (i := 5) (N := some 22) (bb 10 55) ?_
        refine pQ (i := 6) (N := some 23) (bb 10 119) ?_
        refine tQ4 (i := 3) (N := some 20) (bb 10 127) hHeld ?_
        refine tQ4 (i := 7) (N := some 24) (bb 10 255) hHeld ?_
        refine one_ (i := 8) (N := some 25) (bb 10 511) rfl rfl (one_of HT_.out (by kernel_rfl)) (by decide) (fun K hK => ?_)
        refine goes_ Try.func40 (by kernel_rfl) rfl #[.agg #[.string ((rd_T53 l0 x5_1).f0), .slice A445_1 ((rd_T53 l0 x5_1).f1).length c445_1], .agg #[.string ((rd_T53 l1 x5_1).f0), .slice A446_1 ((rd_T53 l1 x5_1).f1).length c446_1]] (by rfl) rfl rfl aG ?_
        with_reducible refine (constablekeep_Fact.calls k1 ((rd_T53 l0 x5_1).f0) _ _ ((rd_T53 l0 x5_1).f1) ((rd_T53 l1 x5_1).f0) _ _ ((rd_T53 l1 x5_1).f1) true _ ?side1 ?side2 ?side3 ?side4 A7.out).mono ?_
        (case side1 => exact sC (Kd.C_below HR445_1.out HB.out))
        (case side2 => exact HC445_1.out)
        (case side3 => exact sC (Kd.C_below HR446_1.out HB.out))
        (case side4 => exact HC446_1.out)
        rintro e w10 ⟨rfl, hb⟩
        refine ⟨_, rfl, ?_⟩
        have n0_ := Aside0.mk (below_step bB0 hb)
        clear HB
        have HB := n0_
        clear n0_
        (try clear hb)
        (try clear hb2)
        (try clear hk)
        (try clear hi)
        refine hK.out _ _ ⟨((HB.out.cell (World.block_lt_of_cell? w _ hw445_0)).trans hw445_0), ((HB.out.cell (World.block_lt_of_cell? w _ hw445_1)).trans hw445_1), ((HB.out.cell (World.block_lt_of_cell? w _ hw446_0)).trans hw446_0), ((HB.out.cell (World.block_lt_of_cell? w _ hw446_1)).trans hw446_1)⟩ (fun hHeld => ?_)
        clear hK K
        refine norm_ (a' := ?_) ?_ ?_
        rotate_left
        ·show Act.put _ (some 25) _ = _
         simp only [Act.put, List.setIfInBounds_toArray, List.set_cons_zero, List.set_cons_succ, i64_w, i32_w]
         rfl
        refine pQ (i := 9) (N := some 26) (bb 10 1023) ?_
        refine done_ (done_of HT_.out (by kernel_rfl)) ?_
        try go_wp2
        go_roundg k1
        case measure => have := HK1.out; omega
        case rel => exact ⟨(wrap64 (x5_1 + 1)), (by first | rfl | (simp; done) | (simp [*]; done)), H', ⟨by have := HK1.out; omega⟩, ⟨bB0⟩⟩
       ·replace c8 := Bool.eq_false_iff.mpr c8
        subst c8
        have H1 : (some false) = some r := by rw [if_neg (show ¬ (false = true) by decide)] at H; exact H
        clear H
        have H := H1
        clear H1
        obtain rfl := Option.some.inj H
        try go_wp2
        have n0_ := Aside0.mk (below_drew1 HB.out)
        clear HB
        have HB := n0_
        clear n0_
        have p445 : 0 ≤ (x5_1 : Int) := of_decide_eq_true (by first | (with_reducible assumption) | assumption)
        have q445 : x5_1 < (l0.length : Int) := of_decide_eq_true (by first | (with_reducible assumption) | assumption)
        obtain ⟨ad445, A445_1, c445_1, e445, hx445_0, hx445_1, hl445_1, hi445_1⟩ := at_T53 HR0.out x5_1 p445 q445
        have hw445_1 := hx445_1
        have hw445_0 := hx445_0
        cases e445
        have HZ445_1 := Aside0.mk hx445_1
        replace hx445_0 := (HB.out.cell (World.block_lt_of_cell? w _ hx445_0)).trans hx445_0
        replace hx445_1 := (HB.out.cell (World.block_lt_of_cell? w _ hx445_1)).trans hx445_1
        have HR445_1 := Aside0.mk hi445_1
        have HC445_1 := Aside0.mk hl445_1
        clear hi445_1 hl445_1
        replace p445 := eq_true p445
        replace q445 := eq_true q445
        have p446 : 0 ≤ (x5_1 : Int) := of_decide_eq_true (by first | (with_reducible assumption) | assumption)
        have q446 : x5_1 < (l1.length : Int) := of_decide_eq_true (by first | (with_reducible assumption) | assumption)
        obtain ⟨ad446, A446_1, c446_1, e446, hx446_0, hx446_1, hl446_1, hi446_1⟩ := at_T53 HR1.out x5_1 p446 q446
        have hw446_1 := hx446_1
        have hw446_0 := hx446_0
        cases e446
        have HZ446_1 := Aside0.mk hx446_1
        replace hx446_0 := (HB.out.cell (World.block_lt_of_cell? w _ hx446_0)).trans hx446_0
        replace hx446_1 := (HB.out.cell (World.block_lt_of_cell? w _ hx446_1)).trans hx446_1
        have HR446_1 := Aside0.mk hi446_1
        have HC446_1 := Aside0.mk hl446_1
        clear hi446_1 hl446_1
        replace p446 := eq_true p446
        replace q446 := eq_true q446
        refine start_ (n := 10) (S := fun w' => w'.cell? (ad445.add ((x5_1).toNat * 2)) = some (.string ((rd_T53 l0 x5_1).f0)) ∧ w'.cell? ⟨(ad445.add ((x5_1).toNat * 2)).block, (ad445.add ((x5_1).toNat * 2)).off + 1, none⟩ = some (.slice A445_1 ((rd_T53 l0 x5_1).f1).length c445_1) ∧ w'.cell? (ad446.add ((x5_1).toNat * 2)) = some (.string ((rd_T53 l1 x5_1).f0)) ∧ w'.cell? ⟨(ad446.add ((x5_1).toNat * 2)).block, (ad446.add ((x5_1).toNat * 2)).off + 1, none⟩ = some (.slice A446_1 ((rd_T53 l1 x5_1).f1).length c446_1)) (ds := []) #[false, false, false, false, false, false, false, false, false, false] (by kernel_rfl) rfl rfl ⟨((HB.out.cell (World.block_lt_of_cell? w _ hw445_0)).trans hw445_0), ((HB.out.cell (World.block_lt_of_cell? w _ hw445_1)).trans hw445_1), ((HB.out.cell (World.block_lt_of_cell? w _ hw446_0)).trans hw446_0), ((HB.out.cell (World.block_lt_of_cell? w _ hw446_1)).trans hw446_1)⟩ (fun hHeld => ?_); refine with_tabW constablekeep_Facts.tab6 constablekeep_Facts.bits6 (fun HT_ HW_ => ?_)
        generalize wr.drew = w11 at HB HR445_1 HR446_1 hx445_0 hx445_1 hx446_0 hx446_1 hHeld ⊢
        refine pQ (i := 0) (N := some 17) (bb 10 1) ?_
        refine pQ (i := 1) (N := some 18) (bb 10 3) ?_
        refine pQ (i := 2) (N := some 19) (bb 10 7) ?_
        refine pQ (i := 4) (N := some 21) (bb 10 23) ?_
        refine pQ (i := 5) (N := some 22) (bb 10 55) ?_
        refine pQ (i := 6) (N := some 23) (bb 10 119) ?_
        refine tQ4 (i := 3) (N := some 20) (bb 10 127) hHeld ?_
        refine tQ4 (i := 7) (N := some 24) (bb 10 255) hHeld ?_
        refine one_ (i := 8) (N := some 25) (bb 10 511) rfl rfl (one_of HT_.out (by kernel_rfl)) (by decide) (fun K hK => ?_)
        refine goes_ Try.func40 (by kernel_rfl) rfl #[.agg #[.string ((rd_T53 l0 x5_1).f0), .slice A445_1 ((rd_T53 l0 x5_1).f1).length c445_1], .agg #[.string ((rd_T53 l1 x5_1).f0), .slice A446_1 ((rd_T53 l1 x5_1).f1).length c446_1]] (by rfl) rfl rfl aG ?_
        with_reducible refine (constablekeep_Fact.calls k1 ((rd_T53 l0 x5_1).f0) _ _ ((rd_T53 l0 x5_1).f1) ((rd_T53 l1 x5_1).f0) _ _ ((rd_T53 l1 x5_1).f1) false _ ?side1 ?side2 ?side3 ?side4 A7.out).mono ?_
        (case side1 => exact sC (Kd.C_below HR445_1.out HB.out))
        (case side2 => exact HC445_1.out)
        (case side3 => exact sC (Kd.C_below HR446_1.out HB.out))
        (case side4 => exact HC446_1.out)
        rintro e w12 ⟨rfl, hb⟩
        refine ⟨_, rfl, ?_⟩
        have n0_ := Aside0.mk (below_step bB0 hb)
        clear HB
        have HB := n0_
        clear n0_
        (try clear hb)
        (try clear hb2)
        (try clear hk)
        (try clear hi)
        refine hK.out _ _ ⟨((HB.out.cell (World.block_lt_of_cell? w _ hw445_0)).trans hw445_0), ((HB.out.cell (World.block_lt_of_cell? w _ hw445_1)).trans hw445_1), ((HB.out.cell (World.block_lt_of_cell? w _ hw446_0)).trans hw446_0), ((HB.out.cell (World.block_lt_of_cell? w _ hw446_1)).trans hw446_1)⟩ (fun hHeld => ?_)
        clear hK K
        refine norm_ (a' := ?_) ?_ ?_
        rotate_left
        ·show Act.put _ (some 25) _ = _
         simp only [Act.put, List.setIfInBounds_toArray, List.set_cons_zero, List.set_cons_succ, i64_w, i32_w]
         rfl
        refine pQ (i := 9) (N := some 26) (bb 10 1023) ?_
        refine done_ (done_of HT_.out (by kernel_rfl)) ?_
        try go_wp2
        go_ret
        exact ⟨eW, bB0⟩
      ·rw [if_neg c6] at H
       exact absurd H (by simp)
     ·rw [if_neg c5] at H
      exact absurd H (by simp)
    ·rw [if_neg c4] at H
     have c4b0 : decide (x5_1 < (l0.length : Int)) = false := decide_eq_false c4
     clear c4
     obtain rfl := Option.some.inj H
     go_wp2
     go_ret
     exact ⟨eW, bB0⟩
 ·rw [if_neg c3] at H
  have c3b0 : ((l0.length : Int) == (l1.length : Int)) = false := beq_eq_false_iff_ne.mpr c3
  have c3b1 : ((l0.length : Int) != (l1.length : Int)) = true := bne_iff_ne.mpr c3
  have c3b2 : (l0.length == l1.length) = false := by first | simpa using c3 | (simp at c3 ⊢; omega)
  obtain rfl := Option.some.inj H
  go_enter Try.func34, Try.ntmps34
  go_wp2
  go_ret
  exact ⟨eW, bB0⟩

end Go.Proofs.Ytghommaokdhjmaa.P
/- What the statements on sets lean on, as plain laws: how much is played, two facts and two lists held against each other, a list's set. -/
set_option linter.unusedVariables false
set_option linter.unusedSimpArgs false
namespace Go.Proofs.Ytghommaokdhjmaa.PSets
open Go.RowKit Go.Lib Go.Proofs.YtghommaokdhjmaaW.PrintWords Go.Proofs.Ytghommaokdhjmaa.P Go.Proofs.Ytghommaokdhjmaa.Str Go.Proofs.Ytghommaokdhjmaa.CmpF Go.Proofs.Ytghommaokdhjmaa.Fct Go.Proofs.Ytghommaokdhjmaa.FactC Go.Proofs.Ytghommaokdhjmaa.SetsW
theorem w64s {i : Nat} (h : i ≤ 1000000) : wrap64 ((i : Int) + 1) = ((i + 1 : Nat) : Int) := by unfold wrap64; omega
/-- As much as is played. -/
def Small (x : S53) : Prop := x.f0.size ≤ 200 ∧ x.f1.length ≤ 20 ∧ ∀ v ∈ x.f1, v.f2.size ≤ 200
theorem heavy_loop (l : List S24) (s : ByteArray) (hl : l.length ≤ 20) : ∀ (m i : Nat), i + m = l.length → (∀ j (hj : j < l.length), j < i → l[j].f2.size ≤ 200) → Ev (fun k => constablelaw03_Heavy.l0 k i s l) true ∨ (Ev (fun k => constablelaw03_Heavy.l0 k i s l) false ∧ ∀ v ∈ l, v.f2.size ≤ 200) := by
  intro m
  induction m with
  | zero =>
    intro i h ha
    refine .inr ⟨Ev.step (fun k => by rw [constablelaw03_Heavy.l0, if_neg (by omega)]) (Ev.now _), fun v hv => ?_⟩
    obtain ⟨j, hj, rfl⟩ := List.getElem_of_mem hv
    exact ha j hj (by omega)
  | succ m ih =>
    intro i h ha
    have hi : i < l.length := by omega
    by_cases hz : l[i].f2.size ≤ 200
    · have step : ∀ k, constablelaw03_Heavy.l0 (k + 1) i s l = constablelaw03_Heavy.l0 k ((i + 1 : Nat) : Int) s l := fun k => by
        rw [constablelaw03_Heavy.l0, if_pos (by omega), if_pos (by omega), rd24_get hi, if_neg (by omega), w64s (by omega)]
      rcases ih (i + 1) (by omega) (fun j hj hji => by
        by_cases e : j = i
        · subst e; exact hz
        · exact ha j hj (by omega)) with h1 | ⟨h1, h2⟩
      · exact .inl (Ev.step (f := fun k => constablelaw03_Heavy.l0 k ((i + 1 : Nat) : Int) s l) step h1)
      · exact .inr ⟨Ev.step (f := fun k => constablelaw03_Heavy.l0 k ((i + 1 : Nat) : Int) s l) step h1, h2⟩
    · refine .inl (Ev.step (f := fun _ => some true) (fun k => by rw [constablelaw03_Heavy.l0, if_pos (by omega), if_pos (by omega), rd24_get hi, if_pos (by omega)]) (Ev.now _))
theorem heavy_cases (s : ByteArray) (l : List S24) : Ev (fun k => constablelaw03_Heavy.f k s l) true ∨ (Ev (fun k => constablelaw03_Heavy.f k s l) false ∧ Small ⟨s, l⟩) := by
  unfold constablelaw03_Heavy.f
  by_cases h1 : (s.size : Int) > 200
  · simp only [if_pos h1]
    exact .inl (Ev.step (f := fun _ => some true) (fun k => by rw [constablelaw03_Heavy.j0]; simp) (Ev.now _))
  · simp only [if_neg h1]
    by_cases h2 : (l.length : Int) > 20
    · refine .inl (Ev.step (f := fun _ => some true) (fun k => by rw [constablelaw03_Heavy.j0, decide_eq_true h2]; simp) (Ev.now _))
    · have step : ∀ k, constablelaw03_Heavy.j0 (k + 1) (decide ((l.length : Int) > 20)) s l = constablelaw03_Heavy.l0 k 0 s l := fun k => by rw [constablelaw03_Heavy.j0, decide_eq_false h2]; simp
      rcases heavy_loop l s (by omega) l.length 0 (by omega) (fun j _ hj => absurd hj (Nat.not_lt_zero _)) with h | ⟨h, h3⟩
      · exact .inl (Ev.step (f := fun k => constablelaw03_Heavy.l0 k 0 s l) step (by simpa using h))
      · exact .inr ⟨Ev.step (f := fun k => constablelaw03_Heavy.l0 k 0 s l) step (by simpa using h), by show s.size ≤ 200; omega, by show l.length ≤ 20; omega, h3⟩
theorem many_loop (l : List S53) (hl : l.length ≤ 60) : ∀ (m i : Nat), i + m = l.length → (∀ j (hj : j < l.length), j < i → Small l[j]) → Ev (fun k => constablelaw03_Many.l0 k l i) true ∨ (Ev (fun k => constablelaw03_Many.l0 k l i) false ∧ ∀ x ∈ l, Small x) := by
  intro m
  induction m with
  | zero =>
    intro i h ha
    refine .inr ⟨Ev.step (fun k => by rw [constablelaw03_Many.l0, if_neg (by omega)]) (Ev.now _), fun v hv => ?_⟩
    obtain ⟨j, hj, rfl⟩ := List.getElem_of_mem hv
    exact ha j hj (by omega)
  | succ m ih =>
    intro i h ha
    have hi : i < l.length := by omega
    have step : ∀ k, constablelaw03_Many.l0 (k + 1) l i = (constablelaw03_Heavy.f k l[i].f0 l[i].f1).bind fun t => if t = true then some true else constablelaw03_Many.l0 k l ((i + 1 : Nat) : Int) := fun k => by
      rw [constablelaw03_Many.l0, if_pos (by omega), if_pos (by omega), rd53_get hi, w64s (by omega)]
    rcases heavy_cases l[i].f0 l[i].f1 with h1 | ⟨h1, h2⟩
    · exact .inl (Ev.step (f := fun k => (constablelaw03_Heavy.f k l[i].f0 l[i].f1).bind fun t => if t = true then some true else constablelaw03_Many.l0 k l ((i + 1 : Nat) : Int)) step (Ev.bind h1 (by simp only [if_true]; exact Ev.now _)))
    · have key : ∀ r, Ev (fun k => constablelaw03_Many.l0 k l ((i + 1 : Nat) : Int)) r → Ev (fun k => constablelaw03_Many.l0 k l i) r := fun r hr =>
        Ev.step (f := fun k => (constablelaw03_Heavy.f k l[i].f0 l[i].f1).bind fun t => if t = true then some true else constablelaw03_Many.l0 k l ((i + 1 : Nat) : Int)) step (Ev.bind h1 (by simpa using hr))
      rcases ih (i + 1) (by omega) (fun j hj hji => by
        by_cases e : j = i
        · subst e; exact h2
        · exact ha j hj (by omega)) with h3 | ⟨h3, h4⟩
      · exact .inl (key _ h3)
      · exact .inr ⟨key _ h3, h4⟩
theorem many_cases (l : List S53) : Ev (fun k => constablelaw03_Many.f k l) true ∨ (Ev (fun k => constablelaw03_Many.f k l) false ∧ l.length ≤ 60 ∧ ∀ x ∈ l, Small x) := by
  unfold constablelaw03_Many.f
  by_cases h1 : (l.length : Int) > 60
  · simp only [if_pos h1]
    exact .inl (Ev.now _)
  · simp only [if_neg h1]
    rcases many_loop l (by omega) l.length 0 (by omega) (fun j _ hj => absurd hj (Nat.not_lt_zero _)) with h | ⟨h, h2⟩
    · exact .inl (by simpa using h)
    · exact .inr ⟨by simpa using h, by omega, h2⟩
theorem small_fit {x : S53} (h : Small x) : fitX x = true := fitX_iff.2 ⟨by have := h.1; omega, fitV_mem.2 fun v hv => by have := h.2.2 v hv; omega, by have := h.2.1; omega⟩
theorem small_fits {l : List S53} (h : l.length ≤ 60) (h2 : ∀ x ∈ l, Small x) : fitL l = true := fitL_iff.2 ⟨fun x hx => small_fit (h2 x hx), by omega⟩

/-! ### Two facts, two lists of facts held against each other -/
theorem v24_eq (x y : S24) : (!(x.f0 == y.f0) || (!(x.f1 == y.f1) || !(x.f2.toList == y.f2.toList))) = true ↔ x ≠ y := by
  obtain ⟨x0, x1, x2⟩ := x
  obtain ⟨y0, y1, y2⟩ := y
  have e : x2.toList = y2.toList ↔ x2 = y2 := tl_iff _ _
  by_cases h0 : x0 = y0 <;> by_cases h1 : x1 = y1 <;> by_cases h2 : x2 = y2 <;> simp [h0, h1, h2, e]
theorem fact_loop (s t : ByteArray) (l m : List S24) (hl : l.length ≤ 1000000) (hm : l.length = m.length) : ∀ (q i : Nat), i + q = l.length → (∀ j (hj : j < l.length) (hj2 : j < m.length), j < i → l[j] = m[j]) → ∃ b, Ev (fun k => constablekeep_Fact.l0 k i s l t m) b ∧ (b = true ↔ l = m) := by
  intro q
  induction q with
  | zero =>
    intro i h ha
    refine ⟨true, Ev.step (fun k => by rw [constablekeep_Fact.l0, if_neg (by omega)]) (Ev.now _), by simp; exact List.ext_getElem hm fun j h1 h2 => ha j h1 h2 (by omega)⟩
  | succ q ih =>
    intro i h ha
    have hi : i < l.length := by omega
    have hi2 : i < m.length := by omega
    by_cases e : l[i] = m[i]
    · obtain ⟨b, h1, h2⟩ := ih (i + 1) (by omega) (fun j hj hj2 hji => by
        by_cases e2 : j = i
        · subst e2; exact e
        · exact ha j hj hj2 (by omega))
      refine ⟨b, Ev.step (f := fun k => constablekeep_Fact.l0 k ((i + 1 : Nat) : Int) s l t m) (fun k => ?_) h1, h2⟩
      rw [constablekeep_Fact.l0, if_pos (by omega), if_pos (by omega), if_pos (by omega), rd24_get hi, rd24_get hi2, if_neg (fun h => (v24_eq _ _).1 h e), w64s (by omega)]
    · refine ⟨false, Ev.step (f := fun _ => some false) (fun k => ?_) (Ev.now _), by simp; intro h; exact e (by simp [h])⟩
      rw [constablekeep_Fact.l0, if_pos (by omega), if_pos (by omega), if_pos (by omega), rd24_get hi, rd24_get hi2, if_pos ((v24_eq _ _).2 e)]
theorem fact_ev (x y : S53) (hl : x.f1.length ≤ 1000000) : ∃ b, Ev (fun k => constablekeep_Fact.f k x.f0 x.f1 y.f0 y.f1) b ∧ (b = true ↔ x = y) := by
  obtain ⟨s, l⟩ := x
  obtain ⟨t, m⟩ := y
  simp only [S53.mk.injEq]
  unfold constablekeep_Fact.f
  by_cases h1 : s.toList = t.toList
  · simp only [if_pos h1]
    have h1' := (tl_iff _ _).1 h1
    by_cases h2 : l.length = m.length
    · obtain ⟨b, h3, h4⟩ := fact_loop s t l m hl h2 l.length 0 (by omega) (fun j _ _ hj => absurd hj (Nat.not_lt_zero _))
      refine ⟨b, Ev.step (f := fun k => constablekeep_Fact.l0 k 0 s l t m) (fun k => ?_) (by simpa using h3), by rw [h4]; simp [h1']⟩
      rw [constablekeep_Fact.j0, show ((l.length : Int) != (m.length : Int)) = false by rw [bne_eq_false_iff_eq]; omega]
      simp
    · refine ⟨false, Ev.step (f := fun _ => some false) (fun k => ?_) (Ev.now _), by simp; intro _ h; exact h2 (by rw [h])⟩
      rw [constablekeep_Fact.j0, show ((l.length : Int) != (m.length : Int)) = true by rw [bne_iff_ne]; omega]
      simp
  · simp only [if_neg h1]
    refine ⟨false, Ev.step (f := fun _ => some false) (fun k => ?_) (Ev.now _), by simp; intro h; exact absurd ((tl_iff _ _).2 h) h1⟩
    rw [constablekeep_Fact.j0]
    simp
theorem facts_loop (l m : List S53) (hf : ∀ x ∈ l, x.f1.length ≤ 1000000) (hl : l.length ≤ 1000000) (hm : l.length = m.length) : ∀ (q i : Nat), i + q = l.length → (∀ j (hj : j < l.length) (hj2 : j < m.length), j < i → l[j] = m[j]) → ∃ b, Ev (fun k => constablekeep_Facts.l0 k l m i) b ∧ (b = true ↔ l = m) := by
  intro q
  induction q with
  | zero =>
    intro i h ha
    refine ⟨true, Ev.step (fun k => by rw [constablekeep_Facts.l0, if_neg (by omega)]) (Ev.now _), by simp; exact List.ext_getElem hm fun j h1 h2 => ha j h1 h2 (by omega)⟩
  | succ q ih =>
    intro i h ha
    have hi : i < l.length := by omega
    have hi2 : i < m.length := by omega
    have step : ∀ k, constablekeep_Facts.l0 (k + 1) l m i = (constablekeep_Fact.f k l[i].f0 l[i].f1 m[i].f0 m[i].f1).bind fun t => if t = true then constablekeep_Facts.l0 k l m ((i + 1 : Nat) : Int) else some false := fun k => by
      rw [constablekeep_Facts.l0, if_pos (by omega), if_pos (by omega), if_pos (by omega), rd53_get hi, rd53_get hi2, w64s (by omega)]
    obtain ⟨b, h1, h2⟩ := fact_ev l[i] m[i] (hf _ (List.getElem_mem hi))
    by_cases e : l[i] = m[i]
    · obtain rfl := h2.2 e
      obtain ⟨c, h3, h4⟩ := ih (i + 1) (by omega) (fun j hj hj2 hji => by
        by_cases e2 : j = i
        · subst e2; exact e
        · exact ha j hj hj2 (by omega))
      exact ⟨c, Ev.step (f := fun k => (constablekeep_Fact.f k l[i].f0 l[i].f1 m[i].f0 m[i].f1).bind fun t => if t = true then constablekeep_Facts.l0 k l m ((i + 1 : Nat) : Int) else some false) step (Ev.bind h1 (by simpa using h3)), h4⟩
    · have hb : b = false := by cases b; rfl; exact absurd (h2.1 rfl) e
      subst hb
      exact ⟨false, Ev.step (f := fun k => (constablekeep_Fact.f k l[i].f0 l[i].f1 m[i].f0 m[i].f1).bind fun t => if t = true then constablekeep_Facts.l0 k l m ((i + 1 : Nat) : Int) else some false) step (Ev.bind h1 (by simp; exact Ev.now _)), by simp; intro h; exact e (by simp [h])⟩
theorem facts_ev (l m : List S53) (h : fitL l = true) : ∃ b, Ev (fun k => constablekeep_Facts.f k l m) b ∧ (b = true ↔ l = m) := by
  unfold constablekeep_Facts.f
  by_cases h1 : (l.length : Int) = (m.length : Int)
  · simp only [if_pos h1]
    have h2 := fitL_F h
    obtain ⟨b, h3, h4⟩ := facts_loop l m (fitF_mem.1 h2.1) (by omega) (by omega) l.length 0 (by omega) (fun j _ _ hj => absurd hj (Nat.not_lt_zero _))
    exact ⟨b, by simpa using h3, h4⟩
  · simp only [if_neg h1]
    exact ⟨false, Ev.now _, by simp; intro h; exact h1 (by rw [h])⟩
theorem facts_same (l : List S53) (h : fitL l = true) : Ev (fun k => constablekeep_Facts.f k l l) true := by
  obtain ⟨b, h1, h2⟩ := facts_ev l l h
  obtain rfl := h2.2 rfl
  exact h1

/-! ### A list's set -/
/-- A set: none of it wrong, rising. -/
def IsSet (l : List S53) : Prop := l.any wrongF = false ∧ l.Pairwise (fun x y => cf53 x y < 0)
theorem set_fit {l : List S53} (h : fitL l = true) : fitL (setO cf53 l) = true := fitL_iff.2 ⟨fun x hx => (fitL_iff.1 h).1 x ((setO_mem ord53 x l).1 hx), Nat.le_trans (setO_len l) (fitL_iff.1 h).2⟩
theorem set_is {l : List S53} (h : l.any wrongF = false) : IsSet (setO cf53 l) := ⟨List.any_eq_false.2 fun x hx => List.any_eq_false.1 h x ((setO_mem ord53 x l).1 hx), setO_up ord53 l⟩
theorem set_same {l m : List S53} (h : ∀ x, x ∈ l ↔ x ∈ m) : setO cf53 l = setO cf53 m := setO_one ord53 (setO_up ord53 l) (fun x => (setO_mem ord53 x l).trans (h x))
theorem set_own {l : List S53} (h : IsSet l) : setO cf53 l = l := (setO_one ord53 h.2 (fun _ => Iff.rfl)).symm
theorem has_iff {l : List S53} {y : S53} : (l.any fun x => cf53 x y == 0) = true ↔ y ∈ l := by
  rw [List.any_eq_true]
  constructor
  · rintro ⟨x, hx, h⟩
    rw [beq_iff_eq] at h
    rwa [← ord53.zero x y h]
  · intro h
    exact ⟨y, h, by rw [ord53.self]; rfl⟩
theorem put_eq {l : List S53} {y : S53} (hl : fitL l = true) (hy : fitX y = true) (h : IsSet l) (hw : wrongF y = false) : sets_Put.f l y.f0 y.f1 = some (setO cf53 (l ++ [y]), 0) := by
  unfold sets_Put.f
  rw [if_pos ⟨hl, hy⟩]
  have : chk2 l [y] = 0 := by
    unfold chk2
    rw [if_pos ⟨(chkF_zero l).2 h, (chkF_zero [y]).2 ⟨by simp [hw], List.pairwise_singleton _ _⟩⟩]
  show some (if chk2 l [y] = 0 then (setO cf53 (l ++ [y]), (0 : Int)) else ([], 1)) = _
  rw [if_pos this]
theorem has_eq {l : List S53} {y : S53} (hl : fitL l = true) (hy : fitX y = true) : ∃ b, sets_Has.f l y.f0 y.f1 = some b ∧ (b = true ↔ y ∈ l) := by
  unfold sets_Has.f
  rw [if_pos ⟨(fitL_F hl).1, (fitX_iff.1 hy).2.2⟩]
  exact ⟨_, rfl, has_iff⟩
theorem has_true {l : List S53} {y : S53} (hl : fitL l = true) (hy : y ∈ l) : sets_Has.f l y.f0 y.f1 = some true := by
  obtain ⟨b, h1, h2⟩ := has_eq hl ((fitL_iff.1 hl).1 y hy)
  obtain rfl := h2.2 hy
  exact h1
theorem chk_set {l : List S53} (hl : fitL l = true) (h : IsSet l) : Ev (fun k => sets_Check.f k l) 0 := by
  have := chk_ev l hl
  rwa [(chkF_zero l).2 h] at this
end Go.Proofs.Ytghommaokdhjmaa.PSets
namespace Go.Proofs.Ytghommaokdhjmaa.P
open Go.RowKit Go.Proofs.YtghommaokdhjmaaW.PrintWords Go.Proofs.YtghommaokdhjmaaW.PrintLast Go.Proofs.Ytghommaokdhjmaa.Gate
set_option linter.unusedVariables false
set_option linter.unusedSimpArgs false

/-! ### constableref01_In: function 63 -/
def constableref01_In.f (a0 : Int) (a1 : Int) (a2 : Int) : Option (Bool) := if a0 ≥ a1 then (some (decide (a0 ≤ a2))) else (some false)
set_option maxHeartbeats 8000000 in
set_option maxRecDepth 100000 in
theorem constableref01_In.calls (a0 : Int) (a1 : Int) (a2 : Int) (r : Bool) (w : World) (h : constableref01_In.f a0 a1 a2 = some r) :
  Calls Try.prog 63 #[.int .i64 a0, .int .i64 a1, .int .i64 a2] w fun e w' => e = .returned (.bool r) ∧ Drawn0 w w' := by
 have H : (if a0 ≥ a1 then (some (decide (a0 ≤ a2))) else (some false)) = some r := h
 clear h
 by_cases c4 : a0 ≥ a1
 ·rw [if_pos c4] at H
  have c4b0 : decide (a1 ≤ a0) = true := decide_eq_true c4
  clear c4
  obtain rfl := Option.some.inj H
  go_enter Try.func63, Try.ntmps63
  go_wp2
  go_ret
  exact ⟨by first | rfl | (simp; done) | (simp [*]; done), by repeat (first | exact Drawn0.refl _ | apply Drawn0.step)⟩
 ·rw [if_neg c4] at H
  have c4b0 : decide (a1 ≤ a0) = false := decide_eq_false c4
  clear c4
  obtain rfl := Option.some.inj H
  go_enter Try.func63, Try.ntmps63
  go_wp2
  go_ret
  exact ⟨by first | rfl | (simp; done) | (simp [*]; done), by repeat (first | exact Drawn0.refl _ | apply Drawn0.step)⟩

end Go.Proofs.Ytghommaokdhjmaa.P
namespace Go.Proofs.Ytghommaokdhjmaa.P
open Go.RowKit Go.Proofs.YtghommaokdhjmaaW.PrintWords Go.Proofs.YtghommaokdhjmaaW.PrintLast Go.Proofs.Ytghommaokdhjmaa.Gate
set_option linter.unusedVariables false
set_option linter.unusedSimpArgs false

/-! ### constableref01_Upper: function 64 -/
def constableref01_Upper.f (a0 : Int) : Option (Bool) := if a0 ≥ 65 then (some (decide (a0 ≤ 90))) else (some false)
set_option maxHeartbeats 8000000 in
set_option maxRecDepth 100000 in
theorem constableref01_Upper.calls (a0 : Int) (r : Bool) (w : World) (h : constableref01_Upper.f a0 = some r) :
  Calls Try.prog 64 #[.int .u8 a0] w fun e w' => e = .returned (.bool r) ∧ Drawn0 w w' := by
 have H : (if a0 ≥ 65 then (some (decide (a0 ≤ 90))) else (some false)) = some r := h
 clear h
 by_cases c2 : a0 ≥ 65
 ·rw [if_pos c2] at H
  have c2b0 : decide (65 ≤ a0) = true := decide_eq_true c2
  clear c2
  obtain rfl := Option.some.inj H
  go_enter Try.func64, Try.ntmps64
  go_wp2
  go_ret
  exact ⟨by first | rfl | (simp; done) | (simp [*]; done), by repeat (first | exact Drawn0.refl _ | apply Drawn0.step)⟩
 ·rw [if_neg c2] at H
  have c2b0 : decide (65 ≤ a0) = false := decide_eq_false c2
  clear c2
  obtain rfl := Option.some.inj H
  go_enter Try.func64, Try.ntmps64
  go_wp2
  go_ret
  exact ⟨by first | rfl | (simp; done) | (simp [*]; done), by repeat (first | exact Drawn0.refl _ | apply Drawn0.step)⟩

end Go.Proofs.Ytghommaokdhjmaa.P
namespace Go.Proofs.Ytghommaokdhjmaa.P
open Go.RowKit Go.Proofs.YtghommaokdhjmaaW.PrintWords Go.Proofs.YtghommaokdhjmaaW.PrintLast Go.Proofs.Ytghommaokdhjmaa.Gate
set_option linter.unusedVariables false
set_option linter.unusedSimpArgs false

/-! ### constableref01_Lower: function 65 -/
def constableref01_Lower.f (a0 : Int) : Option (Bool) := if a0 ≥ 97 then (some (decide (a0 ≤ 122))) else (some false)
set_option maxHeartbeats 8000000 in
set_option maxRecDepth 100000 in
theorem constableref01_Lower.calls (a0 : Int) (r : Bool) (w : World) (h : constableref01_Lower.f a0 = some r) :
  Calls Try.prog 65 #[.int .u8 a0] w fun e w' => e = .returned (.bool r) ∧ Drawn0 w w' := by
 have H : (if a0 ≥ 97 then (some (decide (a0 ≤ 122))) else (some false)) = some r := h
 clear h
 by_cases c2 : a0 ≥ 97
 ·rw [if_pos c2] at H
  have c2b0 : decide (97 ≤ a0) = true := decide_eq_true c2
  clear c2
  obtain rfl := Option.some.inj H
  go_enter Try.func65, Try.ntmps65
  go_wp2
  go_ret
  exact ⟨by first | rfl | (simp; done) | (simp [*]; done), by repeat (first | exact Drawn0.refl _ | apply Drawn0.step)⟩
 ·rw [if_neg c2] at H
  have c2b0 : decide (97 ≤ a0) = false := decide_eq_false c2
  clear c2
  obtain rfl := Option.some.inj H
  go_enter Try.func65, Try.ntmps65
  go_wp2
  go_ret
  exact ⟨by first | rfl | (simp; done) | (simp [*]; done), by repeat (first | exact Drawn0.refl _ | apply Drawn0.step)⟩

end Go.Proofs.Ytghommaokdhjmaa.P
namespace Go.Proofs.Ytghommaokdhjmaa.P
open Go.RowKit Go.Proofs.YtghommaokdhjmaaW.PrintWords Go.Proofs.YtghommaokdhjmaaW.PrintLast Go.Proofs.Ytghommaokdhjmaa.Gate
set_option linter.unusedVariables false
set_option linter.unusedSimpArgs false

/-! ### constableref01_Digit: function 91 -/
def constableref01_Digit.f (a0 : Int) : Option (Bool) := if a0 ≥ 48 then (some (decide (a0 ≤ 57))) else (some false)
set_option maxHeartbeats 8000000 in
set_option maxRecDepth 100000 in
theorem constableref01_Digit.calls (a0 : Int) (r : Bool) (w : World) (h : constableref01_Digit.f a0 = some r) :
  Calls Try.prog 91 #[.int .u8 a0] w fun e w' => e = .returned (.bool r) ∧ Drawn0 w w' := by
 have H : (if a0 ≥ 48 then (some (decide (a0 ≤ 57))) else (some false)) = some r := h
 clear h
 by_cases c2 : a0 ≥ 48
 ·rw [if_pos c2] at H
  have c2b0 : decide (48 ≤ a0) = true := decide_eq_true c2
  clear c2
  obtain rfl := Option.some.inj H
  go_enter Try.func91, Try.ntmps91
  go_wp2
  go_ret
  exact ⟨by first | rfl | (simp; done) | (simp [*]; done), by repeat (first | exact Drawn0.refl _ | apply Drawn0.step)⟩
 ·rw [if_neg c2] at H
  have c2b0 : decide (48 ≤ a0) = false := decide_eq_false c2
  clear c2
  obtain rfl := Option.some.inj H
  go_enter Try.func91, Try.ntmps91
  go_wp2
  go_ret
  exact ⟨by first | rfl | (simp; done) | (simp [*]; done), by repeat (first | exact Drawn0.refl _ | apply Drawn0.step)⟩

end Go.Proofs.Ytghommaokdhjmaa.P
namespace Go.Proofs.Ytghommaokdhjmaa.P
open Go.RowKit Go.Proofs.YtghommaokdhjmaaW.PrintWords Go.Proofs.YtghommaokdhjmaaW.PrintLast Go.Proofs.Ytghommaokdhjmaa.Gate
set_option linter.unusedVariables false
set_option linter.unusedSimpArgs false

/-! ### constableref01_inner: function 66 -/
def constableref01_inner.f (a0 : Int) : Option (Bool) := (constableref01_Lower.f a0).bind fun t151 => (if t151 = true then (some true) else ((constableref01_Upper.f a0).bind fun t152 => (if t152 = true then (some true) else ((constableref01_Digit.f a0).bind fun t153 => (if t153 = true then (some true) else (some (a0 == 95)))))))
set_option maxHeartbeats 8000000 in
set_option maxRecDepth 100000 in
theorem constableref01_inner.calls (a0 : Int) (r : Bool) (w : World) (h : constableref01_inner.f a0 = some r) :
  Calls Try.prog 66 #[.int .u8 a0] w fun e w' => e = .returned (.bool r) ∧ Drawn0 w w' := by
 have H : ((constableref01_Lower.f a0).bind fun t151 => (if t151 = true then (some true) else ((constableref01_Upper.f a0).bind fun t152 => (if t152 = true then (some true) else ((constableref01_Digit.f a0).bind fun t153 => (if t153 = true then (some true) else (some (a0 == 95)))))))) = some r := h
 clear h
 replace H := Option.bind_eq_some_iff.mp H
 obtain ⟨t151, A20, H⟩ := H
 replace H : (if t151 = true then (some true) else ((constableref01_Upper.f a0).bind fun t152 => (if t152 = true then (some true) else ((constableref01_Digit.f a0).bind fun t153 => (if t153 = true then (some true) else (some (a0 == 95))))))) = some r := H
 have A2 := Aside0.mk A20
 clear A20
 by_cases c3 : t151 = true
 ·subst c3
  have H1 : (some true) = some r := by rw [if_pos rfl] at H; exact H
  clear H
  have H := H1
  clear H1
  obtain rfl := Option.some.inj H
  go_enter Try.func66, Try.ntmps66
  go_wp2_with (first | ((with_reducible refine gate_callee (f := 65) rfl ?_); refine goesL_ (some 4) rfl rfl Try.func65 (by kernel_rfl) rfl #[.int .u8 a0] rfl aG ?_; (with_reducible refine (constableref01_Lower.calls a0 true _ A2.out).mono ?_); rintro e w' ⟨rfl, ⟨nd, rfl⟩⟩; refine ⟨_, rfl, ?_⟩))
  go_ret
  exact ⟨by first | rfl | (simp; done) | (simp [*]; done), by repeat (first | exact Drawn0.refl _ | apply Drawn0.step)⟩
 ·replace c3 := Bool.eq_false_iff.mpr c3
  subst c3
  have H1 : ((constableref01_Upper.f a0).bind fun t152 => (if t152 = true then (some true) else ((constableref01_Digit.f a0).bind fun t153 => (if t153 = true then (some true) else (some (a0 == 95)))))) = some r := by rw [if_neg (show ¬ (false = true) by decide)] at H; exact H
  clear H
  have H := H1
  clear H1
  replace H := Option.bind_eq_some_iff.mp H
  obtain ⟨t152, A40, H⟩ := H
  replace H : (if t152 = true then (some true) else ((constableref01_Digit.f a0).bind fun t153 => (if t153 = true then (some true) else (some (a0 == 95))))) = some r := H
  have A4 := Aside0.mk A40
  clear A40
  by_cases c5 : t152 = true
  ·subst c5
   have H1 : (some true) = some r := by rw [if_pos rfl] at H; exact H
   clear H
   have H := H1
   clear H1
   obtain rfl := Option.some.inj H
   go_enter Try.func66, Try.ntmps66
   go_wp2_with (first | ((with_reducible refine gate_callee (f := 65) rfl ?_); refine goesL_ (some 4) rfl rfl Try.func65 (by kernel_rfl) rfl #[.int .u8 a0] rfl aG ?_; (with_reducible refine (constableref01_Lower.calls a0 false _ A2.out).mono ?_); rintro e w' ⟨rfl, ⟨nd, rfl⟩⟩; refine ⟨_, rfl, ?_⟩) | (go_at_call 64; (with_reducible refine (constableref01_Upper.calls a0 true _ A4.out).mono ?_); rintro e w' ⟨rfl, ⟨nd, rfl⟩⟩))
   go_ret
   exact ⟨by first | rfl | (simp; done) | (simp [*]; done), by repeat (first | exact Drawn0.refl _ | apply Drawn0.step)⟩
  ·replace c5 := Bool.eq_false_iff.mpr c5
   subst c5
   have H1 : ((constableref01_Digit.f a0).bind fun t153 => (if t153 = true then (some true) else (some (a0 == 95)))) = some r := by rw [if_neg (show ¬ (false = true) by decide)] at H; exact H
   clear H
   have H := H1
   clear H1
   replace H := Option.bind_eq_some_iff.mp H
   obtain ⟨t153, A60, H⟩ := H
   replace H : (if t153 = true then (some true) else (some (a0 == 95))) = some r := H
   have A6 := Aside0.mk A60
   clear A60
   by_cases c7 : t153 = true
   ·subst c7
    have H1 : (some true) = some r := by rw [if_pos rfl] at H; exact H
    clear H
    have H := H1
    clear H1
    obtain rfl := Option.some.inj H
    go_enter Try.func66, Try.ntmps66
    go_wp2_with (first | ((with_reducible refine gate_callee (f := 65) rfl ?_); refine goesL_ (some 4) rfl rfl Try.func65 (by kernel_rfl) rfl #[.int .u8 a0] rfl aG ?_; (with_reducible refine (constableref01_Lower.calls a0 false _ A2.out).mono ?_); rintro e w' ⟨rfl, ⟨nd, rfl⟩⟩; refine ⟨_, rfl, ?_⟩) | (go_at_call 64; (with_reducible refine (constableref01_Upper.calls a0 false _ A4.out).mono ?_); rintro e w' ⟨rfl, ⟨nd, rfl⟩⟩) | (go_at_call 91; (with_reducible refine (constableref01_Digit.calls a0 true _ A6.out).mono ?_); rintro e w' ⟨rfl, ⟨nd, rfl⟩⟩))
    go_ret
    exact ⟨by first | rfl | (simp; done) | (simp [*]; done), by repeat (first | exact Drawn0.refl _ | apply Drawn0.step)⟩
   ·replace c7 := Bool.eq_false_iff.mpr c7
    subst c7
    have H1 : (some (a0 == 95)) = some r := by rw [if_neg (show ¬ (false = true) by decide)] at H; exact H
    clear H
    have H := H1
    clear H1
    obtain rfl := Option.some.inj H
    go_enter Try.func66, Try.ntmps66
    go_wp2_with (first | ((with_reducible refine gate_callee (f := 65) rfl ?_); refine goesL_ (some 4) rfl rfl Try.func65 (by kernel_rfl) rfl #[.int .u8 a0] rfl aG ?_; (with_reducible refine (constableref01_Lower.calls a0 false _ A2.out).mono ?_); rintro e w' ⟨rfl, ⟨nd, rfl⟩⟩; refine ⟨_, rfl, ?_⟩) | (go_at_call 64; (with_reducible refine (constableref01_Upper.calls a0 false _ A4.out).mono ?_); rintro e w' ⟨rfl, ⟨nd, rfl⟩⟩) | (go_at_call 91; (with_reducible refine (constableref01_Digit.calls a0 false _ A6.out).mono ?_); rintro e w' ⟨rfl, ⟨nd, rfl⟩⟩))
    go_ret
    exact ⟨by first | rfl | (simp; done) | (simp [*]; done), by repeat (first | exact Drawn0.refl _ | apply Drawn0.step)⟩

end Go.Proofs.Ytghommaokdhjmaa.P
namespace Go.Proofs.Ytghommaokdhjmaa.P
open Go.RowKit Go.Proofs.YtghommaokdhjmaaW.PrintWords Go.Proofs.YtghommaokdhjmaaW.PrintLast Go.Proofs.Ytghommaokdhjmaa.Gate
set_option linter.unusedVariables false
set_option linter.unusedSimpArgs false

/-! ### constableref01_Word: function 22 -/
mutual
def constableref01_Word.j0 : Nat → ByteArray → Bool → Option (Bool)
 | 0, _, _ => none
 | k + 1, x0, x26 => if x26 = true then (some false) else (constableref01_Word.l0 k x0 0)
def constableref01_Word.l0 : Nat → ByteArray → Int → Option (Bool)
 | 0, _, _ => none
 | k + 1, x0, x5 => if x5 < (x0.size : Int) then (if 0 ≤ x5 then ((constableref01_inner.f (bt x0 x5)).bind fun t157 => (if t157 = true then (constableref01_Word.l0 k x0 (wrap64 (x5 + 1))) else (some false))) else (none)) else (some true)
end
def constableref01_Word.f (k : Nat) (a0 : ByteArray) (a1 : Bool) : Option (Bool) := (constableref01_In.f (a0.size : Int) 1 24).bind fun t154 => (if t154 = true then (if 0 < (a0.size : Int) then ((constableref01_Upper.f (bt a0 0)).bind fun t155 => (if (a1 != t155) = true then (constableref01_Word.j0 k a0 true) else (if a1 = true then (constableref01_Word.j0 k a0 false) else ((constableref01_Lower.f (bt a0 0)).bind fun t156 => (constableref01_Word.j0 k a0 (!t156)))))) else (none)) else (constableref01_Word.j0 k a0 true))
theorem constableref01_Word.mono_l : ∀ k, (∀ y0 y1, LeO (constableref01_Word.j0 k y0 y1) (constableref01_Word.j0 (k + 1) y0 y1)) ∧ (∀ y0 y1, LeO (constableref01_Word.l0 k y0 y1) (constableref01_Word.l0 (k + 1) y0 y1))
 | 0 => ⟨fun _ _ r h => by simp [constableref01_Word.j0] at h, fun _ _ r h => by simp [constableref01_Word.l0] at h⟩
 | k + 1 => by
  obtain ⟨ih0, ih1⟩ := constableref01_Word.mono_l k
  refine ⟨?_, ?_⟩
  ·intro y0 y1
   unfold constableref01_Word.j0
   repeat' first
   | (with_reducible exact ih0 _ _)
   | (with_reducible exact ih1 _ _)
   | (with_reducible exact LeO.refl _)
   | (with_reducible exact LeO.none _)
   | (with_reducible refine LeO.ite ?_ ?_)
   | (with_reducible refine LeO.bind ?_ (fun _ => ?_))
  ·intro y0 y1
   unfold constableref01_Word.l0
   repeat' first
   | (with_reducible exact ih0 _ _)
   | (with_reducible exact ih1 _ _)
   | (with_reducible exact LeO.refl _)
   | (with_reducible exact LeO.none _)
   | (with_reducible refine LeO.ite ?_ ?_)
   | (with_reducible refine LeO.bind ?_ (fun _ => ?_))
theorem constableref01_Word.mono : ∀ a0 a1 k, LeO (constableref01_Word.f k a0 a1) (constableref01_Word.f (k + 1) a0 a1) := by
 intro a0 a1 k
 obtain ⟨ih0, ih1⟩ := constableref01_Word.mono_l k
 unfold constableref01_Word.f
 repeat' first
   | (with_reducible exact ih0 _ _)
   | (with_reducible exact ih1 _ _)
   | (with_reducible exact LeO.refl _)
   | (with_reducible exact LeO.none _)
   | (with_reducible refine LeO.ite ?_ ?_)
   | (with_reducible refine LeO.bind ?_ (fun _ => ?_))
set_option maxHeartbeats 8000000 in
set_option maxRecDepth 100000 in
theorem constableref01_Word.calls (k : Nat) (a0 : ByteArray) (a1 : Bool) (r : Bool) (w : World) (h : constableref01_Word.f k a0 a1 = some r) :
  Calls Try.prog 22 #[.string a0, .bool a1] w fun e w' => e = .returned (.bool r) ∧ Drawn0 w w' := by
 have H : ((constableref01_In.f (a0.size : Int) 1 24).bind fun t154 => (if t154 = true then (if 0 < (a0.size : Int) then ((constableref01_Upper.f (bt a0 0)).bind fun t155 => (if (a1 != t155) = true then (constableref01_Word.j0 k a0 true) else (if a1 = true then (constableref01_Word.j0 k a0 false) else ((constableref01_Lower.f (bt a0 0)).bind fun t156 => (constableref01_Word.j0 k a0 (!t156)))))) else (none)) else (constableref01_Word.j0 k a0 true))) = some r := h
 clear h
 have HC3 := Aside0.mk H
 clear H
 go_enter Try.func22, Try.ntmps22
 go_upto_region 1 with (fail)
 go_cut [26] (fun v26 wc => ∃ (kq : Nat) (x26_2 : Bool), v26 = .bool x26_2 ∧ Aside0 (constableref01_Word.j0 kq a0 x26_2 = some r) ∧ Aside0 (kq ≤ k) ∧ Drawn0 w wc)
 case first =>
  have H := HC3.out
  clear HC3
  replace H := Option.bind_eq_some_iff.mp H
  obtain ⟨t154, A40, H⟩ := H
  replace H : (if t154 = true then (if 0 < (a0.size : Int) then ((constableref01_Upper.f (bt a0 0)).bind fun t155 => (if (a1 != t155) = true then (constableref01_Word.j0 k a0 true) else (if a1 = true then (constableref01_Word.j0 k a0 false) else ((constableref01_Lower.f (bt a0 0)).bind fun t156 => (constableref01_Word.j0 k a0 (!t156)))))) else (none)) else (constableref01_Word.j0 k a0 true)) = some r := H
  have A4 := Aside0.mk A40
  clear A40
  by_cases c5 : t154 = true
  ·subst c5
   have H1 : (if 0 < (a0.size : Int) then ((constableref01_Upper.f (bt a0 0)).bind fun t155 => (if (a1 != t155) = true then (constableref01_Word.j0 k a0 true) else (if a1 = true then (constableref01_Word.j0 k a0 false) else ((constableref01_Lower.f (bt a0 0)).bind fun t156 => (constableref01_Word.j0 k a0 (!t156)))))) else (none)) = some r := by rw [if_pos rfl] at H; exact H
   clear H
   have H := H1
   clear H1
   by_cases c6 : 0 < (a0.size : Int)
   ·rw [if_pos c6] at H
    have c6b0 : decide (0 < (a0.size : Int)) = true := decide_eq_true c6
    have c6b1 : decide (0 < a0.size) = true := decide_eq_true (by omega)
    clear c6
    (first | rw [c6b0] | (simp only [i64_w, i32_w]; rw [c6b0]) | skip)
    replace H := Option.bind_eq_some_iff.mp H
    obtain ⟨t155, A80, H⟩ := H
    replace H : (if (a1 != t155) = true then (constableref01_Word.j0 k a0 true) else (if a1 = true then (constableref01_Word.j0 k a0 false) else ((constableref01_Lower.f (bt a0 0)).bind fun t156 => (constableref01_Word.j0 k a0 (!t156))))) = some r := H
    have A8 := Aside0.mk A80
    clear A80
    by_cases c9 : (a1 != t155) = true
    ·rw [if_pos c9] at H
     have c9b0 : (a1 != t155) = true := c9
     (try (have c9b1 : decide (a1 = t155) = false := by simpa using c9))
     (try (have c9b2 : (a1 == t155) = false := by simpa using c9))
     (try (have c9b3 : ¬ (a1 = t155) := by simpa using c9))
     clear c9
     have H' := Aside0.mk H
     clear H
     go_wp2_with (first | ((with_reducible refine gate_callee (f := 63) rfl ?_); refine goesL_ (some 8) rfl rfl Try.func63 (by kernel_rfl) rfl #[.int .i64 (a0.size : Int), .int .i64 1, .int .i64 24] rfl aG ?_; (with_reducible refine (constableref01_In.calls (a0.size : Int) 1 24 true _ A4.out).mono ?_); rintro e w' ⟨rfl, ⟨nd, rfl⟩⟩; refine ⟨_, rfl, ?_⟩; have p7 : 0 ≤ (0 : Int) := (by omega); have q7 : 0 < a0.size := (by have : (0 : Int) < (a0.size : Int) := of_decide_eq_true (by first | (with_reducible assumption) | assumption); omega); have hx7 : ∀ h : 0 < a0.size, ((a0[0]'h).toNat : Int) = bt a0 0 := bt_at a0 0; clear p7; have qi7 : (0 < (a0.size : Int)) = True := eq_true (of_decide_eq_true (by first | (with_reducible assumption) | assumption)); replace q7 := eq_true q7) | (go_at_call 64; (with_reducible refine (constableref01_Upper.calls (bt a0 0) t155 _ A8.out).mono ?_); rintro e w' ⟨rfl, ⟨nd, rfl⟩⟩))
     go_meet
     case rel => exact ⟨_, (true), (by first | rfl | (simp; done) | (simp [*]; done)), H', ⟨by first | omega | exact Nat.le_refl _⟩, by repeat (first | exact Drawn0.refl _ | apply Drawn0.step)⟩
    ·rw [if_neg c9] at H
     have c9b0 : (a1 != t155) = false := by simpa using c9
     (try (have c9b1 : decide (a1 = t155) = true := by simpa using c9))
     (try (have c9b2 : (a1 == t155) = true := by simpa using c9))
     clear c9
     by_cases c10 : a1 = true
     ·subst c10
      have H1 : (constableref01_Word.j0 k a0 false) = some r := by rw [if_pos rfl] at H; exact H
      clear H
      have H := H1
      clear H1
      have H' := Aside0.mk H
      clear H
      go_wp2_with (first | ((with_reducible refine gate_callee (f := 63) rfl ?_); refine goesL_ (some 8) rfl rfl Try.func63 (by kernel_rfl) rfl #[.int .i64 (a0.size : Int), .int .i64 1, .int .i64 24] rfl aG ?_; (with_reducible refine (constableref01_In.calls (a0.size : Int) 1 24 true _ A4.out).mono ?_); rintro e w' ⟨rfl, ⟨nd, rfl⟩⟩; refine ⟨_, rfl, ?_⟩; have p7 : 0 ≤ (0 : Int) := (by omega); have q7 : 0 < a0.size := (by have : (0 : Int) < (a0.size : Int) := of_decide_eq_true (by first | (with_reducible assumption) | assumption); omega); have hx7 : ∀ h : 0 < a0.size, ((a0[0]'h).toNat : Int) = bt a0 0 := bt_at a0 0; clear p7; have qi7 : (0 < (a0.size : Int)) = True := eq_true (of_decide_eq_true (by first | (with_reducible assumption) | assumption)); replace q7 := eq_true q7) | (go_at_call 64; (with_reducible refine (constableref01_Upper.calls (bt a0 0) t155 _ A8.out).mono ?_); rintro e w' ⟨rfl, ⟨nd, rfl⟩⟩))
      go_meet
      case rel => exact ⟨_, (false), (by first | rfl | (simp; done) | (simp [*]; done)), H', ⟨by first | omega | exact Nat.le_refl _⟩, by repeat (first | exact Drawn0.refl _ | apply Drawn0.step)⟩
     ·replace c10 := Bool.eq_false_iff.mpr c10
      subst c10
      have H1 : ((constableref01_Lower.f (bt a0 0)).bind fun t156 => (constableref01_Word.j0 k a0 (!t156))) = some r := by rw [if_neg (show ¬ (false = true) by decide)] at H; exact H
      clear H
      have H := H1
      clear H1
      replace H := Option.bind_eq_some_iff.mp H
      obtain ⟨t156, A120, H⟩ := H
      replace H : (constableref01_Word.j0 k a0 (!t156)) = some r := H
      have A12 := Aside0.mk A120
      clear A120
      have H' := Aside0.mk H
      clear H
      go_wp2_with (first | ((with_reducible refine gate_callee (f := 63) rfl ?_); refine goesL_ (some 8) rfl rfl Try.func63 (by kernel_rfl) rfl #[.int .i64 (a0.size : Int), .int .i64 1, .int .i64 24] rfl aG ?_; (with_reducible refine (constableref01_In.calls (a0.size : Int) 1 24 true _ A4.out).mono ?_); rintro e w' ⟨rfl, ⟨nd, rfl⟩⟩; refine ⟨_, rfl, ?_⟩; have p7 : 0 ≤ (0 : Int) := (by omega); have q7 : 0 < a0.size := (by have : (0 : Int) < (a0.size : Int) := of_decide_eq_true (by first | (with_reducible assumption) | assumption); omega); have hx7 : ∀ h : 0 < a0.size, ((a0[0]'h).toNat : Int) = bt a0 0 := bt_at a0 0; clear p7; have qi7 : (0 < (a0.size : Int)) = True := eq_true (of_decide_eq_true (by first | (with_reducible assumption) | assumption)); replace q7 := eq_true q7) | (go_at_call 64; (with_reducible refine (constableref01_Upper.calls (bt a0 0) t155 _ A8.out).mono ?_); rintro e w' ⟨rfl, ⟨nd, rfl⟩⟩; have p11 : 0 ≤ (0 : Int) := (by omega); have q11 : 0 < a0.size := (by have : (0 : Int) < (a0.size : Int) := of_decide_eq_true (by first | (with_reducible assumption) | assumption); omega); have hx11 : ∀ h : 0 < a0.size, ((a0[0]'h).toNat : Int) = bt a0 0 := bt_at a0 0; clear p11; have qi11 : (0 < (a0.size : Int)) = True := eq_true (of_decide_eq_true (by first | (with_reducible assumption) | assumption)); replace q11 := eq_true q11) | (go_at_call 65; (with_reducible refine (constableref01_Lower.calls (bt a0 0) t156 _ A12.out).mono ?_); rintro e w' ⟨rfl, ⟨nd, rfl⟩⟩))
      go_meet
      case rel => exact ⟨_, (!t156), (by first | rfl | (simp; done) | (simp [*]; done)), H', ⟨by first | omega | exact Nat.le_refl _⟩, by repeat (first | exact Drawn0.refl _ | apply Drawn0.step)⟩
   ·rw [if_neg c6] at H
    exact absurd H (by simp)
  ·replace c5 := Bool.eq_false_iff.mpr c5
   subst c5
   have H1 : (constableref01_Word.j0 k a0 true) = some r := by rw [if_neg (show ¬ (false = true) by decide)] at H; exact H
   clear H
   have H := H1
   clear H1
   have H' := Aside0.mk H
   clear H
   go_wp2_with (first | ((with_reducible refine gate_callee (f := 63) rfl ?_); refine goesL_ (some 8) rfl rfl Try.func63 (by kernel_rfl) rfl #[.int .i64 (a0.size : Int), .int .i64 1, .int .i64 24] rfl aG ?_; (with_reducible refine (constableref01_In.calls (a0.size : Int) 1 24 false _ A4.out).mono ?_); rintro e w' ⟨rfl, ⟨nd, rfl⟩⟩; refine ⟨_, rfl, ?_⟩))
   go_meet
   case rel => exact ⟨_, (true), (by first | rfl | (simp; done) | (simp [*]; done)), H', ⟨by first | omega | exact Nat.le_refl _⟩, by repeat (first | exact Drawn0.refl _ | apply Drawn0.step)⟩
 case rest =>
  clear HC3
  (try clear c1); (try clear p1); (try clear q1); (try clear hx1); (try clear qi1); (try clear c2); (try clear p2); (try clear c5); (try clear c6); (try clear c6b0); (try clear c6b1); (try clear p7); (try clear q7); (try clear hx7); (try clear qi7); (try clear c9); (try clear c9b0); (try clear c9b1); (try clear c9b2); (try clear c10); (try clear p11); (try clear q11); (try clear hx11); (try clear qi11); (try clear p11); (try clear p7); (try clear q11); (try clear q7)
  obtain ⟨kq, x26_2, rfl, HA, HJ2, ⟨mc2, rfl⟩⟩ := hcut
  cases kq with
  | zero => exact absurd HA.out (by simp [constableref01_Word.j0])
  | succ kj2 =>
   have H := HA.out
   clear HA
   simp only [constableref01_Word.j0] at H
   by_cases c13 : x26_2 = true
   ·subst c13
    have H1 : (some false) = some r := by rw [if_pos rfl] at H; exact H
    clear H
    have H := H1
    clear H1
    obtain rfl := Option.some.inj H
    go_wp2
    go_ret
    exact ⟨by first | rfl | (simp; done) | (simp [*]; done), by repeat (first | exact Drawn0.refl _ | apply Drawn0.step)⟩
   ·replace c13 := Bool.eq_false_iff.mpr c13
    subst c13
    have H1 : (constableref01_Word.l0 kj2 a0 0) = some r := by rw [if_neg (show ¬ (false = true) by decide)] at H; exact H
    clear H
    have H := H1
    clear H1
    have H' := Aside0.mk H
    clear H
    go_wp2
    go_loopg [5] kj2 (fun kq v5 w' => ∃ (x5_2 : Int), v5 = .int .i64 x5_2 ∧ Aside0 (constableref01_Word.l0 kq a0 x5_2 = some r) ∧ Aside0 (kq ≤ kj2) ∧ Drawn0 w w')
    case atStart => exact ⟨(0), (by first | rfl | (simp; done) | (simp [*]; done)), H', ⟨Nat.le_refl _⟩, by repeat (first | exact Drawn0.refl _ | apply Drawn0.step)⟩
    case round =>
     clear H'
     (try clear c1); (try clear p1); (try clear q1); (try clear hx1); (try clear qi1); (try clear c2); (try clear p2); (try clear c5); (try clear c6); (try clear c6b0); (try clear c6b1); (try clear p7); (try clear q7); (try clear hx7); (try clear qi7); (try clear c9); (try clear c9b0); (try clear c9b1); (try clear c9b2); (try clear c10); (try clear p11); (try clear q11); (try clear hx11); (try clear qi11); (try clear c13); (try clear p1); (try clear p11); (try clear p2); (try clear p7); (try clear q1); (try clear q11); (try clear q7)
     obtain ⟨x5_2, rfl, HA, HK2, ⟨m2, rfl⟩⟩ := hrel
     cases gk with
     | zero => exact absurd HA.out (by simp [constableref01_Word.l0])
     | succ k2 =>
      have H := HA.out
      clear HA
      simp only [constableref01_Word.l0] at H
      by_cases c14 : x5_2 < (a0.size : Int)
      ·rw [if_pos c14] at H
       have c14b0 : decide (x5_2 < (a0.size : Int)) = true := decide_eq_true c14
       clear c14
       by_cases c15 : 0 ≤ x5_2
       ·rw [if_pos c15] at H
        have c15b0 : decide (0 ≤ x5_2) = true := decide_eq_true c15
        clear c15
        replace H := Option.bind_eq_some_iff.mp H
        obtain ⟨t157, A170, H⟩ := H
        replace H : (if t157 = true then (constableref01_Word.l0 k2 a0 (wrap64 (x5_2 + 1))) else (some false)) = some r := H
        have A17 := Aside0.mk A170
        clear A170
        by_cases c18 : t157 = true
        ·subst c18
         have H1 : (constableref01_Word.l0 k2 a0 (wrap64 (x5_2 + 1))) = some r := by rw [if_pos rfl] at H; exact H
         clear H
         have H := H1
         clear H1
         have H' := Aside0.mk H
         clear H
         have p16 : 0 ≤ (x5_2 : Int) := of_decide_eq_true (by first | (with_reducible assumption) | assumption)
         have q16 : x5_2 < (a0.size : Int) := of_decide_eq_true (by first | (with_reducible assumption) | assumption)
         have hx16 := bt_at a0 x5_2
         replace p16 := eq_true p16
         replace q16 := eq_true q16
         go_wp2_with (first | ((with_reducible refine gate_callee (f := 66) rfl ?_); refine goesL_ (some 36) rfl rfl Try.func66 (by kernel_rfl) rfl #[.int .u8 (bt a0 x5_2)] rfl aG ?_; (with_reducible refine (constableref01_inner.calls (bt a0 x5_2) true _ A17.out).mono ?_); rintro e w' ⟨rfl, ⟨nd, rfl⟩⟩; refine ⟨_, rfl, ?_⟩))
         go_roundg k2
         case measure => have := HJ2.out; have := HK2.out; omega
         case rel => exact ⟨(wrap64 (x5_2 + 1)), (by first | rfl | (simp; done) | (simp [*]; done)), H', ⟨by have := HJ2.out; have := HK2.out; omega⟩, by repeat (first | exact Drawn0.refl _ | apply Drawn0.step)⟩
        ·replace c18 := Bool.eq_false_iff.mpr c18
         subst c18
         have H1 : (some false) = some r := by rw [if_neg (show ¬ (false = true) by decide)] at H; exact H
         clear H
         have H := H1
         clear H1
         obtain rfl := Option.some.inj H
         have p16 : 0 ≤ (x5_2 : Int) := of_decide_eq_true (by first | (with_reducible assumption) | assumption)
         have q16 : x5_2 < (a0.size : Int) := of_decide_eq_true (by first | (with_reducible assumption) | assumption)
         have hx16 := bt_at a0 x5_2
         replace p16 := eq_true p16
         replace q16 := eq_true q16
         go_wp2_with (first | ((with_reducible refine gate_callee (f := 66) rfl ?_); refine goesL_ (some 36) rfl rfl Try.func66 (by kernel_rfl) rfl #[.int .u8 (bt a0 x5_2)] rfl aG ?_; (with_reducible refine (constableref01_inner.calls (bt a0 x5_2) false _ A17.out).mono ?_); rintro e w' ⟨rfl, ⟨nd, rfl⟩⟩; refine ⟨_, rfl, ?_⟩))
         go_ret
         exact ⟨by first | rfl | (simp; done) | (simp [*]; done), by repeat (first | exact Drawn0.refl _ | apply Drawn0.step)⟩
       ·rw [if_neg c15] at H
        exact absurd H (by simp)
      ·rw [if_neg c14] at H
       have c14b0 : decide (x5_2 < (a0.size : Int)) = false := decide_eq_false c14
       clear c14
       obtain rfl := Option.some.inj H
       go_wp2
       go_ret
       exact ⟨by first | rfl | (simp; done) | (simp [*]; done), by repeat (first | exact Drawn0.refl _ | apply Drawn0.step)⟩

end Go.Proofs.Ytghommaokdhjmaa.P
namespace Go.Proofs.Ytghommaokdhjmaa.P
open Go.RowKit Go.Proofs.YtghommaokdhjmaaW.PrintWords Go.Proofs.YtghommaokdhjmaaW.PrintLast Go.Proofs.Ytghommaokdhjmaa.Gate
set_option linter.unusedVariables false
set_option linter.unusedSimpArgs false

/-! ### constableref01_Value: function 26 -/
mutual
def constableref01_Value.j0 : Nat → Bool → Int → Int → ByteArray → Option (Bool)
 | 0, _, _, _, _ => none
 | k + 1, x37, x161000, x161001, x161002 => if x37 = true then (some false) else (constableref01_Value.l0 k 0 x161000 x161001 x161002)
def constableref01_Value.l0 : Nat → Int → Int → Int → ByteArray → Option (Bool)
 | 0, _, _, _, _ => none
 | k + 1, x3, x161000, x161001, x161002 => if x3 < (x161002.size : Int) then (if 0 ≤ x3 then ((constableref01_In.f (wrap64 (bt x161002 x3)) 32 126).bind fun t163 => (if t163 = true then (constableref01_Value.l0 k (wrap64 (x3 + 1)) x161000 x161001 x161002) else (some false))) else (none)) else (some true)
end
def constableref01_Value.f (k : Nat) (a0_0 : Int) (a0_1 : Int) (a0_2 : ByteArray) : Option (Bool) := if a0_0 = 1 then ((constableref01_In.f a0_1 (-4611686018427387904) 4611686018427387904).bind fun t161 => (if t161 = true then (some ((a0_2.size : Int) == 0)) else (some false))) else (if a0_0 = 2 then (if a0_1 = 0 then ((constableref01_Word.f k a0_2 false).bind fun t162 => (some t162)) else (some false)) else (if a0_0 = 3 then (if a0_1 = 0 then (constableref01_Value.j0 k (decide ((a0_2.size : Int) > 60)) a0_0 a0_1 a0_2) else (constableref01_Value.j0 k true a0_0 a0_1 a0_2)) else (some false)))
theorem constableref01_Value.mono_l : ∀ k, (∀ y0 y1 y2 y3, LeO (constableref01_Value.j0 k y0 y1 y2 y3) (constableref01_Value.j0 (k + 1) y0 y1 y2 y3)) ∧ (∀ y0 y1 y2 y3, LeO (constableref01_Value.l0 k y0 y1 y2 y3) (constableref01_Value.l0 (k + 1) y0 y1 y2 y3))
 | 0 => ⟨fun _ _ _ _ r h => by simp [constableref01_Value.j0] at h, fun _ _ _ _ r h => by simp [constableref01_Value.l0] at h⟩
 | k + 1 => by
  obtain ⟨ih0, ih1⟩ := constableref01_Value.mono_l k
  refine ⟨?_, ?_⟩
  ·intro y0 y1 y2 y3
   unfold constableref01_Value.j0
   repeat' first
   | (with_reducible exact ih0 _ _ _ _)
   | (with_reducible exact ih1 _ _ _ _)
   | (with_reducible exact constableref01_Word.mono _ _ _)
   | (with_reducible exact LeO.refl _)
   | (with_reducible exact LeO.none _)
   | (with_reducible refine LeO.ite ?_ ?_)
   | (with_reducible refine LeO.bind ?_ (fun _ => ?_))
  ·intro y0 y1 y2 y3
   unfold constableref01_Value.l0
   repeat' first
   | (with_reducible exact ih0 _ _ _ _)
   | (with_reducible exact ih1 _ _ _ _)
   | (with_reducible exact constableref01_Word.mono _ _ _)
   | (with_reducible exact LeO.refl _)
   | (with_reducible exact LeO.none _)
   | (with_reducible refine LeO.ite ?_ ?_)
   | (with_reducible refine LeO.bind ?_ (fun _ => ?_))
theorem constableref01_Value.mono : ∀ a0 a1 a2 k, LeO (constableref01_Value.f k a0 a1 a2) (constableref01_Value.f (k + 1) a0 a1 a2) := by
 intro a0 a1 a2 k
 obtain ⟨ih0, ih1⟩ := constableref01_Value.mono_l k
 unfold constableref01_Value.f
 repeat' first
   | (with_reducible exact ih0 _ _ _ _)
   | (with_reducible exact ih1 _ _ _ _)
   | (with_reducible exact constableref01_Word.mono _ _ _)
   | (with_reducible exact LeO.refl _)
   | (with_reducible exact LeO.none _)
   | (with_reducible refine LeO.ite ?_ ?_)
   | (with_reducible refine LeO.bind ?_ (fun _ => ?_))
set_option maxHeartbeats 8000000 in
set_option maxRecDepth 100000 in
theorem constableref01_Value.calls (k : Nat) (a0_0 : Int) (a0_1 : Int) (a0_2 : ByteArray) (r : Bool) (w : World) (h : constableref01_Value.f k a0_0 a0_1 a0_2 = some r) :
  Calls Try.prog 26 #[.agg #[.int .i64 a0_0, .int .i64 a0_1, .string a0_2]] w fun e w' => e = .returned (.bool r) ∧ Below w.heap.size w w' := by
 have hu24 := Try.underlying24
 have HB := Aside0.mk (Below.refl w.heap.size w)
 have H : (if a0_0 = 1 then ((constableref01_In.f a0_1 (-4611686018427387904) 4611686018427387904).bind fun t161 => (if t161 = true then (some ((a0_2.size : Int) == 0)) else (some false))) else (if a0_0 = 2 then (if a0_1 = 0 then ((constableref01_Word.f k a0_2 false).bind fun t162 => (some t162)) else (some false)) else (if a0_0 = 3 then (if a0_1 = 0 then (constableref01_Value.j0 k (decide ((a0_2.size : Int) > 60)) a0_0 a0_1 a0_2) else (constableref01_Value.j0 k true a0_0 a0_1 a0_2)) else (some false)))) = some r := h
 clear h
 by_cases c2 : a0_0 = 1
 ·rw [if_pos c2] at H
  have c2b0 : (a0_0 == 1) = true := beq_iff_eq.mpr c2
  have c2b1 : (a0_0 != 1) = false := bne_eq_false_iff_eq.mpr c2
  clear c2
  replace H := Option.bind_eq_some_iff.mp H
  obtain ⟨t161, A30, H⟩ := H
  replace H : (if t161 = true then (some ((a0_2.size : Int) == 0)) else (some false)) = some r := H
  have A3 := Aside0.mk A30
  clear A30
  by_cases c4 : t161 = true
  ·subst c4
   have H1 : (some ((a0_2.size : Int) == 0)) = some r := by rw [if_pos rfl] at H; exact H
   clear H
   have H := H1
   clear H1
   obtain rfl := Option.some.inj H
   go_enter Try.func26, Try.ntmps26
   go_wp2_with (first | ((with_reducible refine gate_dst (N := 1) rfl ?_); (try (refine gate_guard (by rfl) ?_; dsimp only)); refine bE (N := 1) (cs := #[.int .i64 a0_0, .int .i64 a0_1, .string a0_2]) (t := 24) ?_; intro gb160 hg w5 hbox hb; have n0_ := Aside0.mk (below_step bB0 hb); have n1_ := Aside0.mk (hbox); have n2_ := Aside0.mk ((by rw [hg]; exact (below_size bB0) : w.heap.size ≤ gb160)); have n3_ := Aside0.mk ((by rw [hg]; exact (below_size bB0) : w.heap.size ≤ gb160)); clear HB; have HB := n0_; have BK160 := n1_; have GW160 := n2_; have GE160 := n3_; clear n0_ n1_ n2_ n3_; clear hb hbox hg; have hcz6_0 : w5.cell? ⟨gb160, 0, none⟩ = some (.int .i64 a0_0) := (blk_cell BK160.out 0).trans rfl; have hcz6_1 : w5.cell? ⟨gb160, 1, none⟩ = some (.int .i64 a0_1) := (blk_cell BK160.out 1).trans rfl; have hcz6_2 : w5.cell? ⟨gb160, 2, none⟩ = some (.string a0_2) := (blk_cell BK160.out 2).trans rfl; have hfz6_0 := blk_frozen BK160.out 0; have hfz6_1 := blk_frozen BK160.out 1; have hfz6_2 := blk_frozen BK160.out 2) | ((with_reducible refine gate_callee (f := 63) rfl ?_); refine goesL_ (some 10) rfl rfl Try.func63 (by kernel_rfl) rfl #[.int .i64 a0_1, .int .i64 (-4611686018427387904), .int .i64 4611686018427387904] rfl aG ?_; (with_reducible refine (constableref01_In.calls a0_1 (-4611686018427387904) 4611686018427387904 true _ A3.out).mono ?_); rintro e w' ⟨rfl, ⟨nd, rfl⟩⟩; refine ⟨_, rfl, ?_⟩))
   go_ret
   exact ⟨eW, (bB1 GE160.out)⟩
  ·replace c4 := Bool.eq_false_iff.mpr c4
   subst c4
   have H1 : (some false) = some r := by rw [if_neg (show ¬ (false = true) by decide)] at H; exact H
   clear H
   have H := H1
   clear H1
   obtain rfl := Option.some.inj H
   go_enter Try.func26, Try.ntmps26
   go_wp2_with (first | ((with_reducible refine gate_dst (N := 1) rfl ?_); (try (refine gate_guard (by rfl) ?_; dsimp only)); refine bE (N := 1) (cs := #[.int .i64 a0_0, .int .i64 a0_1, .string a0_2]) (t := 24) ?_; intro gb160 hg w7 hbox hb; have n0_ := Aside0.mk (below_step bB0 hb); have n1_ := Aside0.mk (hbox); have n2_ := Aside0.mk ((by rw [hg]; exact (below_size bB0) : w.heap.size ≤ gb160)); have n3_ := Aside0.mk ((by rw [hg]; exact (below_size bB0) : w.heap.size ≤ gb160)); clear HB; have HB := n0_; have BK160 := n1_; have GW160 := n2_; have GE160 := n3_; clear n0_ n1_ n2_ n3_; clear hb hbox hg; have hcz8_0 : w7.cell? ⟨gb160, 0, none⟩ = some (.int .i64 a0_0) := (blk_cell BK160.out 0).trans rfl; have hcz8_1 : w7.cell? ⟨gb160, 1, none⟩ = some (.int .i64 a0_1) := (blk_cell BK160.out 1).trans rfl; have hcz8_2 : w7.cell? ⟨gb160, 2, none⟩ = some (.string a0_2) := (blk_cell BK160.out 2).trans rfl; have hfz8_0 := blk_frozen BK160.out 0; have hfz8_1 := blk_frozen BK160.out 1; have hfz8_2 := blk_frozen BK160.out 2) | ((with_reducible refine gate_callee (f := 63) rfl ?_); refine goesL_ (some 10) rfl rfl Try.func63 (by kernel_rfl) rfl #[.int .i64 a0_1, .int .i64 (-4611686018427387904), .int .i64 4611686018427387904] rfl aG ?_; (with_reducible refine (constableref01_In.calls a0_1 (-4611686018427387904) 4611686018427387904 false _ A3.out).mono ?_); rintro e w' ⟨rfl, ⟨nd, rfl⟩⟩; refine ⟨_, rfl, ?_⟩))
   go_ret
   exact ⟨eW, (bB1 GE160.out)⟩
 ·rw [if_neg c2] at H
  have c2b0 : (a0_0 == 1) = false := beq_eq_false_iff_ne.mpr c2
  have c2b1 : (a0_0 != 1) = true := bne_iff_ne.mpr c2
  by_cases c9 : a0_0 = 2
  ·rw [if_pos c9] at H
   have c9b0 : (a0_0 == 2) = true := beq_iff_eq.mpr c9
   have c9b1 : (a0_0 != 2) = false := bne_eq_false_iff_eq.mpr c9
   clear c9
   by_cases c10 : a0_1 = 0
   ·rw [if_pos c10] at H
    have c10b0 : (a0_1 == 0) = true := beq_iff_eq.mpr c10
    have c10b1 : (a0_1 != 0) = false := bne_eq_false_iff_eq.mpr c10
    clear c10
    replace H := Option.bind_eq_some_iff.mp H
    obtain ⟨t162, A110, H⟩ := H
    replace H : (some t162) = some r := H
    have A11 := Aside0.mk A110
    clear A110
    obtain rfl := Option.some.inj H
    go_enter Try.func26, Try.ntmps26
    go_wp2_with (first | ((with_reducible refine gate_dst (N := 1) rfl ?_); (try (refine gate_guard (by rfl) ?_; dsimp only)); refine bE (N := 1) (cs := #[.int .i64 a0_0, .int .i64 a0_1, .string a0_2]) (t := 24) ?_; intro gb160 hg w12 hbox hb; have n0_ := Aside0.mk (below_step bB0 hb); have n1_ := Aside0.mk (hbox); have n2_ := Aside0.mk ((by rw [hg]; exact (below_size bB0) : w.heap.size ≤ gb160)); have n3_ := Aside0.mk ((by rw [hg]; exact (below_size bB0) : w.heap.size ≤ gb160)); clear HB; have HB := n0_; have BK160 := n1_; have GW160 := n2_; have GE160 := n3_; clear n0_ n1_ n2_ n3_; clear hb hbox hg; have hcz13_0 : w12.cell? ⟨gb160, 0, none⟩ = some (.int .i64 a0_0) := (blk_cell BK160.out 0).trans rfl; have hcz13_1 : w12.cell? ⟨gb160, 1, none⟩ = some (.int .i64 a0_1) := (blk_cell BK160.out 1).trans rfl; have hcz13_2 : w12.cell? ⟨gb160, 2, none⟩ = some (.string a0_2) := (blk_cell BK160.out 2).trans rfl; have hfz13_0 := blk_frozen BK160.out 0; have hfz13_1 := blk_frozen BK160.out 1; have hfz13_2 := blk_frozen BK160.out 2) | (go_at_call 22; (with_reducible refine (constableref01_Word.calls k a0_2 false t162 _ A11.out).mono ?_); rintro e w' ⟨rfl, ⟨nd, rfl⟩⟩))
    go_ret
    exact ⟨eW, (bB1 GE160.out)⟩
   ·rw [if_neg c10] at H
    have c10b0 : (a0_1 == 0) = false := beq_eq_false_iff_ne.mpr c10
    have c10b1 : (a0_1 != 0) = true := bne_iff_ne.mpr c10
    obtain rfl := Option.some.inj H
    go_enter Try.func26, Try.ntmps26
    go_wp2_with (first | ((with_reducible refine gate_dst (N := 1) rfl ?_); (try (refine gate_guard (by rfl) ?_; dsimp only)); refine bE (N := 1) (cs := #[.int .i64 a0_0, .int .i64 a0_1, .string a0_2]) (t := 24) ?_; intro gb160 hg w14 hbox hb; have n0_ := Aside0.mk (below_step bB0 hb); have n1_ := Aside0.mk (hbox); have n2_ := Aside0.mk ((by rw [hg]; exact (below_size bB0) : w.heap.size ≤ gb160)); have n3_ := Aside0.mk ((by rw [hg]; exact (below_size bB0) : w.heap.size ≤ gb160)); clear HB; have HB := n0_; have BK160 := n1_; have GW160 := n2_; have GE160 := n3_; clear n0_ n1_ n2_ n3_; clear hb hbox hg; have hcz15_0 : w14.cell? ⟨gb160, 0, none⟩ = some (.int .i64 a0_0) := (blk_cell BK160.out 0).trans rfl; have hcz15_1 : w14.cell? ⟨gb160, 1, none⟩ = some (.int .i64 a0_1) := (blk_cell BK160.out 1).trans rfl; have hcz15_2 : w14.cell? ⟨gb160, 2, none⟩ = some (.string a0_2) := (blk_cell BK160.out 2).trans rfl; have hfz15_0 := blk_frozen BK160.out 0; have hfz15_1 := blk_frozen BK160.out 1; have hfz15_2 := blk_frozen BK160.out 2))
    go_ret
    exact ⟨eW, (bB1 GE160.out)⟩
  ·rw [if_neg c9] at H
   have c9b0 : (a0_0 == 2) = false := beq_eq_false_iff_ne.mpr c9
   have c9b1 : (a0_0 != 2) = true := bne_iff_ne.mpr c9
   by_cases c16 : a0_0 = 3
   ·rw [if_pos c16] at H
    have c16b0 : (a0_0 == 3) = true := beq_iff_eq.mpr c16
    have c16b1 : (a0_0 != 3) = false := bne_eq_false_iff_eq.mpr c16
    clear c16
    have HC17 := Aside0.mk H
    clear H
    go_enter Try.func26, Try.ntmps26
    go_upto_region 7 with (first | ((with_reducible refine gate_dst (N := 1) rfl ?_); (try (refine gate_guard (by rfl) ?_; dsimp only)); refine bE (N := 1) (cs := #[.int .i64 a0_0, .int .i64 a0_1, .string a0_2]) (t := 24) ?_; intro gb160 hg w18 hbox hb; have n0_ := Aside0.mk (below_step bB0 hb); have n1_ := Aside0.mk (hbox); have n2_ := Aside0.mk ((by rw [hg]; exact (below_size bB0) : w.heap.size ≤ gb160)); have n3_ := Aside0.mk ((by rw [hg]; exact (below_size bB0) : w.heap.size ≤ gb160)); clear HB; have HB := n0_; have BK160 := n1_; have GW160 := n2_; have GE160 := n3_; clear n0_ n1_ n2_ n3_; clear hb hbox hg; have hcz19_0 : w18.cell? ⟨gb160, 0, none⟩ = some (.int .i64 a0_0) := (blk_cell BK160.out 0).trans rfl; have hcz19_1 : w18.cell? ⟨gb160, 1, none⟩ = some (.int .i64 a0_1) := (blk_cell BK160.out 1).trans rfl; have hcz19_2 : w18.cell? ⟨gb160, 2, none⟩ = some (.string a0_2) := (blk_cell BK160.out 2).trans rfl; have hfz19_0 := blk_frozen BK160.out 0; have hfz19_1 := blk_frozen BK160.out 1; have hfz19_2 := blk_frozen BK160.out 2))
    (try simp only [Act.put, List.setIfInBounds_toArray, List.set_cons_zero, List.set_cons_succ])
    go_cut [37] (fun v37 wc => ∃ (kq : Nat) (x37_16 : Bool), v37 = .bool x37_16 ∧ Aside0 (constableref01_Value.j0 kq x37_16 a0_0 a0_1 a0_2 = some r) ∧ Aside0 (kq ≤ k) ∧ Aside0 (wc.heap[gb160]? = some (.cells #[.int .i64 a0_0, .int .i64 a0_1, .string a0_2] 24 (0, 0))) ∧ Aside0 (Below w.heap.size w wc))
    case first =>
     have H := HC17.out
     clear HC17
     by_cases c20 : a0_1 = 0
     ·rw [if_pos c20] at H
      have c20b0 : (a0_1 == 0) = true := beq_iff_eq.mpr c20
      have c20b1 : (a0_1 != 0) = false := bne_eq_false_iff_eq.mpr c20
      clear c20
      (first | rw [c20b0] | (simp only [i64_w, i32_w]; rw [c20b0]) | skip)
      have H' := Aside0.mk H
      clear H
      have hcz21_0 : w18.cell? ⟨gb160, 0, none⟩ = some (.int .i64 a0_0) := (blk_cell BK160.out 0).trans rfl
      have hcz21_1 : w18.cell? ⟨gb160, 1, none⟩ = some (.int .i64 a0_1) := (blk_cell BK160.out 1).trans rfl
      have hcz21_2 : w18.cell? ⟨gb160, 2, none⟩ = some (.string a0_2) := (blk_cell BK160.out 2).trans rfl
      have hfz21_0 := blk_frozen BK160.out 0
      have hfz21_1 := blk_frozen BK160.out 1
      have hfz21_2 := blk_frozen BK160.out 2
      go_wp2
      go_meet
      case rel => exact ⟨_, (decide ((a0_2.size : Int) > 60)), (by first | rfl | (simp; done) | (simp [*]; done)), H', ⟨by first | omega | exact Nat.le_refl _⟩, ⟨by refine bk ?_; exact BK160.out⟩, ⟨(bB1 GE160.out)⟩⟩
     ·rw [if_neg c20] at H
      have c20b0 : (a0_1 == 0) = false := beq_eq_false_iff_ne.mpr c20
      have c20b1 : (a0_1 != 0) = true := bne_iff_ne.mpr c20
      (first | rw [c20b0] | (simp only [i64_w, i32_w]; rw [c20b0]) | skip)
      have H' := Aside0.mk H
      clear H
      have hcz22_0 : w18.cell? ⟨gb160, 0, none⟩ = some (.int .i64 a0_0) := (blk_cell BK160.out 0).trans rfl
      have hcz22_1 : w18.cell? ⟨gb160, 1, none⟩ = some (.int .i64 a0_1) := (blk_cell BK160.out 1).trans rfl
      have hcz22_2 : w18.cell? ⟨gb160, 2, none⟩ = some (.string a0_2) := (blk_cell BK160.out 2).trans rfl
      have hfz22_0 := blk_frozen BK160.out 0
      have hfz22_1 := blk_frozen BK160.out 1
      have hfz22_2 := blk_frozen BK160.out 2
      go_wp2
      go_meet
      case rel => exact ⟨_, (true), (by first | rfl | (simp; done) | (simp [*]; done)), H', ⟨by first | omega | exact Nat.le_refl _⟩, ⟨by refine bk ?_; exact BK160.out⟩, ⟨(bB1 GE160.out)⟩⟩
    case rest =>
     clear HC17
     (try clear c1); (try clear c2); (try clear c2b0); (try clear c2b1); (try clear p2); (try clear c4); (try clear c6); (try clear c9); (try clear c9b0); (try clear c9b1); (try clear c10); (try clear c10b0); (try clear c10b1); (try clear c16); (try clear c16b0); (try clear c16b1); (try clear c20); (try clear c20b0); (try clear c20b1); (try clear hcz13_0); (try clear hcz13_1); (try clear hcz13_2); (try clear hcz15_0); (try clear hcz15_1); (try clear hcz15_2); (try clear hcz19_0); (try clear hcz19_1); (try clear hcz19_2); (try clear hcz21_0); (try clear hcz21_1); (try clear hcz21_2); (try clear hcz22_0); (try clear hcz22_1); (try clear hcz22_2); (try clear hcz6_0); (try clear hcz6_1); (try clear hcz6_2); (try clear hcz8_0); (try clear hcz8_1); (try clear hcz8_2); (try clear hfz13_0); (try clear hfz13_1); (try clear hfz13_2); (try clear hfz15_0); (try clear hfz15_1); (try clear hfz15_2); (try clear hfz19_0); (try clear hfz19_1); (try clear hfz19_2); (try clear hfz21_0); (try clear hfz21_1); (try clear hfz21_2); (try clear hfz22_0); (try clear hfz22_1); (try clear hfz22_2); (try clear hfz6_0); (try clear hfz6_1); (try clear hfz6_2); (try clear hfz8_0); (try clear hfz8_1); (try clear hfz8_2)
     obtain ⟨kq, x37_16, rfl, HA, HJ16, BK160, HB⟩ := hcut
     cases kq with
     | zero => exact absurd HA.out (by simp [constableref01_Value.j0])
     | succ kj16 =>
      have H := HA.out
      clear HA
      simp only [constableref01_Value.j0] at H
      by_cases c23 : x37_16 = true
      ·subst c23
       have H1 : (some false) = some r := by rw [if_pos rfl] at H; exact H
       clear H
       have H := H1
       clear H1
       obtain rfl := Option.some.inj H
       go_wp2
       go_ret
       exact ⟨eW, (bB1 GE160.out)⟩
      ·replace c23 := Bool.eq_false_iff.mpr c23
       subst c23
       have H1 : (constableref01_Value.l0 kj16 0 a0_0 a0_1 a0_2) = some r := by rw [if_neg (show ¬ (false = true) by decide)] at H; exact H
       clear H
       have H := H1
       clear H1
       have H' := Aside0.mk H
       clear H
       go_wp2
       go_loopg [3] kj16 (fun kq v3 w' => ∃ (x3_2 : Int), v3 = .int .i64 x3_2 ∧ Aside0 (constableref01_Value.l0 kq x3_2 a0_0 a0_1 a0_2 = some r) ∧ Aside0 (kq ≤ kj16) ∧ Aside0 (w'.heap[gb160]? = some (.cells #[.int .i64 a0_0, .int .i64 a0_1, .string a0_2] 24 (0, 0))) ∧ Aside0 (Below w.heap.size w w'))
       case atStart => exact ⟨(0), (by first | rfl | (simp; done) | (simp [*]; done)), H', ⟨Nat.le_refl _⟩, ⟨by refine bk ?_; exact BK160.out⟩, ⟨(bB1 GE160.out)⟩⟩
       case round =>
        clear H'
        (try clear c1); (try clear c2); (try clear c2b0); (try clear c2b1); (try clear p2); (try clear c4); (try clear c6); (try clear c9); (try clear c9b0); (try clear c9b1); (try clear c10); (try clear c10b0); (try clear c10b1); (try clear c16); (try clear c16b0); (try clear c16b1); (try clear c20); (try clear c20b0); (try clear c20b1); (try clear c23); (try clear hcz13_0); (try clear hcz13_1); (try clear hcz13_2); (try clear hcz15_0); (try clear hcz15_1); (try clear hcz15_2); (try clear hcz19_0); (try clear hcz19_1); (try clear hcz19_2); (try clear hcz21_0); (try clear hcz21_1); (try clear hcz21_2); (try clear hcz22_0); (try clear hcz22_1); (try clear hcz22_2); (try clear hcz6_0); (try clear hcz6_1); (try clear hcz6_2); (try clear hcz8_0); (try clear hcz8_1); (try clear hcz8_2); (try clear hfz13_0); (try clear hfz13_1); (try clear hfz13_2); (try clear hfz15_0); (try clear hfz15_1); (try clear hfz15_2); (try clear hfz19_0); (try clear hfz19_1); (try clear hfz19_2); (try clear hfz21_0); (try clear hfz21_1); (try clear hfz21_2); (try clear hfz22_0); (try clear hfz22_1); (try clear hfz22_2); (try clear hfz6_0); (try clear hfz6_1); (try clear hfz6_2); (try clear hfz8_0); (try clear hfz8_1); (try clear hfz8_2); (try clear p2)
        obtain ⟨x3_2, rfl, HA, HK2, BK160, HB⟩ := hrel
        cases gk with
        | zero => exact absurd HA.out (by simp [constableref01_Value.l0])
        | succ k2 =>
         have H := HA.out
         clear HA
         simp only [constableref01_Value.l0] at H
         by_cases c24 : x3_2 < (a0_2.size : Int)
         ·rw [if_pos c24] at H
          have c24b0 : decide (x3_2 < (a0_2.size : Int)) = true := decide_eq_true c24
          clear c24
          by_cases c25 : 0 ≤ x3_2
          ·rw [if_pos c25] at H
           have c25b0 : decide (0 ≤ x3_2) = true := decide_eq_true c25
           clear c25
           replace H := Option.bind_eq_some_iff.mp H
           obtain ⟨t163, A270, H⟩ := H
           replace H : (if t163 = true then (constableref01_Value.l0 k2 (wrap64 (x3_2 + 1)) a0_0 a0_1 a0_2) else (some false)) = some r := H
           have A27 := Aside0.mk A270
           clear A270
           by_cases c28 : t163 = true
           ·subst c28
            have H1 : (constableref01_Value.l0 k2 (wrap64 (x3_2 + 1)) a0_0 a0_1 a0_2) = some r := by rw [if_pos rfl] at H; exact H
            clear H
            have H := H1
            clear H1
            have H' := Aside0.mk H
            clear H
            have hcz29_0 : wr.cell? ⟨gb160, 0, none⟩ = some (.int .i64 a0_0) := (blk_cell BK160.out 0).trans rfl
            have hcz29_1 : wr.cell? ⟨gb160, 1, none⟩ = some (.int .i64 a0_1) := (blk_cell BK160.out 1).trans rfl
            have hcz29_2 : wr.cell? ⟨gb160, 2, none⟩ = some (.string a0_2) := (blk_cell BK160.out 2).trans rfl
            have hfz29_0 := blk_frozen BK160.out 0
            have hfz29_1 := blk_frozen BK160.out 1
            have hfz29_2 := blk_frozen BK160.out 2
            have p26 : 0 ≤ (x3_2 : Int) := of_decide_eq_true (by first | (with_reducible assumption) | assumption)
            have q26 : x3_2 < (a0_2.size : Int) := of_decide_eq_true (by first | (with_reducible assumption) | assumption)
            have hx26 := bt_at a0_2 x3_2
            replace p26 := eq_true p26
            replace q26 := eq_true q26
            go_wp2_with (first | ((with_reducible refine gate_callee (f := 63) rfl ?_); refine goesL_ (some 50) rfl rfl Try.func63 (by kernel_rfl) rfl #[.int .i64 (wrap64 (bt a0_2 x3_2)), .int .i64 32, .int .i64 126] rfl aG ?_; (with_reducible refine (constableref01_In.calls (wrap64 (bt a0_2 x3_2)) 32 126 true _ A27.out).mono ?_); rintro e w' ⟨rfl, ⟨nd, rfl⟩⟩; refine ⟨_, rfl, ?_⟩))
            go_roundg k2
            case measure => have := HJ16.out; have := HK2.out; omega
            case rel => exact ⟨(wrap64 (x3_2 + 1)), (by first | rfl | (simp; done) | (simp [*]; done)), H', ⟨by have := HJ16.out; have := HK2.out; omega⟩, ⟨by refine bk ?_; exact BK160.out⟩, ⟨(bB1 GE160.out)⟩⟩
           ·replace c28 := Bool.eq_false_iff.mpr c28
            subst c28
            have H1 : (some false) = some r := by rw [if_neg (show ¬ (false = true) by decide)] at H; exact H
            clear H
            have H := H1
            clear H1
            obtain rfl := Option.some.inj H
            have hcz30_0 : wr.cell? ⟨gb160, 0, none⟩ = some (.int .i64 a0_0) := (blk_cell BK160.out 0).trans rfl
            have hcz30_1 : wr.cell? ⟨gb160, 1, none⟩ = some (.int .i64 a0_1) := (blk_cell BK160.out 1).trans rfl
            have hcz30_2 : wr.cell? ⟨gb160, 2, none⟩ = some (.string a0_2) := (blk_cell BK160.out 2).trans rfl
            have hfz30_0 := blk_frozen BK160.out 0
            have hfz30_1 := blk_frozen BK160.out 1
            have hfz30_2 := blk_frozen BK160.out 2
            have p26 : 0 ≤ (x3_2 : Int) := of_decide_eq_true (by first | (with_reducible assumption) | assumption)
            have q26 : x3_2 < (a0_2.size : Int) := of_decide_eq_true (by first | (with_reducible assumption) | assumption)
            have hx26 := bt_at a0_2 x3_2
            replace p26 := eq_true p26
            replace q26 := eq_true q26
            go_wp2_with (first | ((with_reducible refine gate_callee (f := 63) rfl ?_); refine goesL_ (some 50) rfl rfl Try.func63 (by kernel_rfl) rfl #[.int .i64 (wrap64 (bt a0_2 x3_2)), .int .i64 32, .int .i64 126] rfl aG ?_; (with_reducible refine (constableref01_In.calls (wrap64 (bt a0_2 x3_2)) 32 126 false _ A27.out).mono ?_); rintro e w' ⟨rfl, ⟨nd, rfl⟩⟩; refine ⟨_, rfl, ?_⟩))
            go_ret
            exact ⟨eW, (bB1 GE160.out)⟩
          ·rw [if_neg c25] at H
           exact absurd H (by simp)
         ·rw [if_neg c24] at H
          have c24b0 : decide (x3_2 < (a0_2.size : Int)) = false := decide_eq_false c24
          clear c24
          obtain rfl := Option.some.inj H
          have hcz31_0 : wr.cell? ⟨gb160, 0, none⟩ = some (.int .i64 a0_0) := (blk_cell BK160.out 0).trans rfl
          have hcz31_1 : wr.cell? ⟨gb160, 1, none⟩ = some (.int .i64 a0_1) := (blk_cell BK160.out 1).trans rfl
          have hcz31_2 : wr.cell? ⟨gb160, 2, none⟩ = some (.string a0_2) := (blk_cell BK160.out 2).trans rfl
          have hfz31_0 := blk_frozen BK160.out 0
          have hfz31_1 := blk_frozen BK160.out 1
          have hfz31_2 := blk_frozen BK160.out 2
          go_wp2
          go_ret
          exact ⟨eW, (bB1 GE160.out)⟩
   ·rw [if_neg c16] at H
    have c16b0 : (a0_0 == 3) = false := beq_eq_false_iff_ne.mpr c16
    have c16b1 : (a0_0 != 3) = true := bne_iff_ne.mpr c16
    obtain rfl := Option.some.inj H
    go_enter Try.func26, Try.ntmps26
    go_wp2_with (first | ((with_reducible refine gate_dst (N := 1) rfl ?_); (try (refine gate_guard (by rfl) ?_; dsimp only)); refine bE (N := 1) (cs := #[.int .i64 a0_0, .int .i64 a0_1, .string a0_2]) (t := 24) ?_; intro gb160 hg w32 hbox hb; have n0_ := Aside0.mk (below_step bB0 hb); have n1_ := Aside0.mk (hbox); have n2_ := Aside0.mk ((by rw [hg]; exact (below_size bB0) : w.heap.size ≤ gb160)); have n3_ := Aside0.mk ((by rw [hg]; exact (below_size bB0) : w.heap.size ≤ gb160)); clear HB; have HB := n0_; have BK160 := n1_; have GW160 := n2_; have GE160 := n3_; clear n0_ n1_ n2_ n3_; clear hb hbox hg; have hcz33_0 : w32.cell? ⟨gb160, 0, none⟩ = some (.int .i64 a0_0) := (blk_cell BK160.out 0).trans rfl; have hcz33_1 : w32.cell? ⟨gb160, 1, none⟩ = some (.int .i64 a0_1) := (blk_cell BK160.out 1).trans rfl; have hcz33_2 : w32.cell? ⟨gb160, 2, none⟩ = some (.string a0_2) := (blk_cell BK160.out 2).trans rfl; have hfz33_0 := blk_frozen BK160.out 0; have hfz33_1 := blk_frozen BK160.out 1; have hfz33_2 := blk_frozen BK160.out 2))
    go_ret
    exact ⟨eW, (bB1 GE160.out)⟩

end Go.Proofs.Ytghommaokdhjmaa.P
/- The references' words and values answer what the plain forms say; texts no longer than a million bytes. -/
set_option linter.unusedVariables false
set_option linter.unusedSimpArgs false
namespace Go.Proofs.Ytghommaokdhjmaa.SpecB
open Go.RowKit Go.Proofs.YtghommaokdhjmaaW.PrintWords Go.Proofs.YtghommaokdhjmaaW.PrintLast Go.Proofs.Ytghommaokdhjmaa.Gate Go.Proofs.Ytghommaokdhjmaa.P Go.Proofs.Ytghommaokdhjmaa.PSpec
theorem ff {α : Type} {a b : α} : (if false = true then a else b) = b := rfl
theorem lower_eq (c : Int) : constableref01_Lower.f c = some (smallP c) := by
  unfold smallP val_small.f constableref01_Lower.f
  split <;> rfl
theorem upper_eq (c : Int) : constableref01_Upper.f c = some (largeP c) := by
  unfold largeP val_large.f constableref01_Upper.f
  split <;> rfl
theorem rdigit_eq (c : Int) : constableref01_Digit.f c = some (digitP c) := by
  unfold digitP val_digit.f constableref01_Digit.f
  split <;> rfl
theorem small_iff (c : Int) : smallP c = (decide (97 ≤ c) && decide (c ≤ 122)) := by
  unfold smallP val_small.f
  by_cases h : c ≥ 97
  · rw [if_pos h, decide_eq_true (show 97 ≤ c from h)]; rfl
  · rw [if_neg h, decide_eq_false (show ¬ 97 ≤ c from h)]; rfl
theorem large_iff (c : Int) : largeP c = (decide (65 ≤ c) && decide (c ≤ 90)) := by
  unfold largeP val_large.f
  by_cases h : c ≥ 65
  · rw [if_pos h, decide_eq_true (show 65 ≤ c from h)]; rfl
  · rw [if_neg h, decide_eq_false (show ¬ 65 ≤ c from h)]; rfl
theorem digit_iff (c : Int) : digitP c = (decide (48 ≤ c) && decide (c ≤ 57)) := by
  unfold digitP val_digit.f
  by_cases h : c ≥ 48
  · rw [if_pos h, decide_eq_true (show 48 ≤ c from h)]; rfl
  · rw [if_neg h, decide_eq_false (show ¬ 48 ≤ c from h)]; rfl
theorem let_iff (c : Int) : letP c = (smallP c || (largeP c || (digitP c || decide (c = 95)))) := by
  rw [small_iff, large_iff, digit_iff]
  unfold letP subst_letter.f
  by_cases h1 : 97 ≤ c <;> by_cases h2 : c ≤ 122 <;> by_cases h3 : 65 ≤ c <;> by_cases h4 : c ≤ 90 <;> by_cases h5 : 48 ≤ c <;> by_cases h6 : c ≤ 57 <;>
    simp [h1, h2, h3, h4, h5, h6, BEq.beq] <;> omega
theorem inner_eq (c : Int) : constableref01_inner.f c = some (letP c) := by
  unfold constableref01_inner.f
  rw [let_iff, lower_eq, upper_eq, rdigit_eq]
  simp only [Option.bind_some]
  cases smallP c <;> cases largeP c <;> cases digitP c <;> simp [BEq.beq]
theorem word_loop (s : ByteArray) (hs : s.size ≤ 1000000) : ∀ (m i : Nat), i + m = s.size → Ev (fun k => constableref01_Word.l0 k s i) (allFrom (fun i => letP (bt s i)) m i) := by
  intro m
  induction m with
  | zero =>
    intro i h
    refine Ev.step (fun k => by rw [constableref01_Word.l0, if_neg (by omega)]) ?_
    exact Ev.now _
  | succ m ih =>
    intro i h
    refine Ev.step (fun k => by rw [constableref01_Word.l0, if_pos (by omega), if_pos (by omega), inner_eq, Option.bind_some, w64 hs (show i < s.size by omega)]) ?_
    rw [allFrom]
    cases letP (bt s i)
    · simp only [ff, Bool.false_and]; exact Ev.now _
    · simp only [if_true, Bool.true_and]; exact ih (i + 1) (by omega)
/-- A word: with a small letter ahead, or a large one. -/
def wordP (s : ByteArray) (large : Bool) : Bool := decide (1 ≤ s.size) && decide (s.size ≤ 24) && (if large then largeP (bt s 0) else smallP (bt s 0)) && varAll s
theorem in_eq (a b c : Int) : constableref01_In.f a b c = some (decide (b ≤ a) && decide (a ≤ c)) := by
  unfold constableref01_In.f
  by_cases h : a ≥ b
  · rw [if_pos h, decide_eq_true (show b ≤ a from h)]; rfl
  · rw [if_neg h, decide_eq_false (show ¬ b ≤ a from h)]; rfl
theorem small_large (c : Int) (h : smallP c = true) : largeP c = false := by
  rw [small_iff] at h
  rw [large_iff]
  simp only [Bool.and_eq_true, decide_eq_true_eq] at h
  rw [decide_eq_false (show ¬ c ≤ 90 by omega), Bool.and_false]
theorem ev_word (s : ByteArray) (hs : s.size ≤ 1000000) (large : Bool) : Ev (fun k => constableref01_Word.f k s large) (wordP s large) := by
  have jt : Ev (fun k => constableref01_Word.j0 k s true) false := Ev.step (fun k => by rw [constableref01_Word.j0, if_pos rfl]) (Ev.now _)
  have jf : Ev (fun k => constableref01_Word.j0 k s false) (varAll s) := Ev.step (fun k => by rw [constableref01_Word.j0, if_neg (by decide)]; rfl) (word_loop s hs s.size 0 (by omega))
  unfold constableref01_Word.f
  rw [in_eq]
  unfold wordP
  by_cases h : 1 ≤ s.size ∧ s.size ≤ 24
  · rw [decide_eq_true (show (1 : Int) ≤ (s.size : Int) by omega), decide_eq_true (show (s.size : Int) ≤ 24 by omega), decide_eq_true h.1, decide_eq_true h.2]
    simp only [Bool.and_self, Option.bind_some, if_true, if_pos (show 0 < (s.size : Int) by omega), upper_eq, lower_eq, Bool.true_and]
    cases large
    · cases hl : largeP (bt s 0)
      · simp only [bne_self_eq_false, ff, Bool.false_eq_true, if_false]
        cases smallP (bt s 0)
        · simp only [Bool.not_false, Bool.false_and]; exact jt
        · simp only [Bool.not_true, Bool.true_and]; exact jf
      · have hsm : smallP (bt s 0) = false := by
          cases h2 : smallP (bt s 0)
          · rfl
          · rw [small_large _ h2] at hl; cases hl
        simp only [show (false != true) = true from rfl, if_true, hsm, Bool.false_eq_true, if_false, Bool.false_and]; exact jt
    · cases hl : largeP (bt s 0)
      · simp only [show (true != false) = true from rfl, if_true, Bool.false_and]; exact jt
      · simp only [bne_self_eq_false, ff, if_true, Bool.true_and]; exact jf
  · have hn : (decide ((1 : Int) ≤ (s.size : Int)) && decide ((s.size : Int) ≤ 24)) = false := by
      rw [Bool.and_eq_false_iff, decide_eq_false_iff_not, decide_eq_false_iff_not]; omega
    have hn2 : (decide (1 ≤ s.size) && decide (s.size ≤ 24)) = false := by
      rw [Bool.and_eq_false_iff, decide_eq_false_iff_not, decide_eq_false_iff_not]; omega
    rw [hn, hn2]
    simp only [Option.bind_some, ff, Bool.false_and]; exact jt
theorem word_var (s : ByteArray) : wordP s true = varP s := by
  unfold wordP varP
  rw [if_pos rfl, large_iff]
  simp only [Bool.and_assoc]
theorem allFrom_congr {f g : Nat → Bool} (h : ∀ i, f i = g i) : ∀ m i, allFrom f m i = allFrom g m i
  | 0, _ => rfl
  | m + 1, i => by rw [allFrom, allFrom, h, allFrom_congr h m]
theorem word_sym (s : ByteArray) : wordP s false = symP s := by
  unfold wordP symP varAll
  rw [if_neg (by decide), allFrom_congr (g := symT s) (fun i => by unfold symT; rw [let_iff]; simp only [Bool.or_assoc])]
theorem rplain_loop (s : ByteArray) (hs : s.size ≤ 1000000) (a b : Int) : ∀ (m i : Nat), i + m = s.size → Ev (fun k => constableref01_Value.l0 k i a b s) (allFrom (plainT s) m i) := by
  intro m
  induction m with
  | zero =>
    intro i h
    refine Ev.step (fun k => by rw [constableref01_Value.l0, if_neg (by omega)]) ?_
    exact Ev.now _
  | succ m ih =>
    intro i h
    have hr := bt_range s i
    refine Ev.step (fun k => by rw [constableref01_Value.l0, if_pos (by omega), if_pos (by omega), in_eq, Option.bind_some, w64 hs (show i < s.size by omega), show wrap64 (bt s i) = bt s i by unfold wrap64; omega]) ?_
    rw [allFrom]
    show Ev (fun k => if plainT s i = true then _ else _) _
    cases plainT s i
    · simp only [ff, Bool.false_and]; exact Ev.now _
    · simp only [if_true, Bool.true_and]; exact ih (i + 1) (by omega)
theorem ev_value (a b : Int) (s : ByteArray) (hs : s.size ≤ 1000000) : Ev (fun k => constableref01_Value.f k a b s) (valP a b s == 0) := by
  have jt : Ev (fun k => constableref01_Value.j0 k true a b s) false := Ev.step (fun k => by rw [constableref01_Value.j0, if_pos rfl]) (Ev.now _)
  have jf : Ev (fun k => constableref01_Value.j0 k false a b s) (allFrom (plainT s) s.size 0) := Ev.step (fun k => by rw [constableref01_Value.j0, if_neg (by decide)]; rfl) (rplain_loop s hs a b s.size 0 (by omega))
  have hw := ev_word s hs false
  rw [word_sym] at hw
  have hnil : s.toList = ([] : List UInt8) ↔ s.size = 0 := by
    rw [ByteArray.toList_eq]
    constructor
    · intro h; have := congrArg List.length h; simpa using this
    · intro h; exact List.length_eq_zero_iff.1 (by simpa using h)
  unfold constableref01_Value.f valP
  by_cases h1 : a = 1
  · simp only [if_pos h1, in_eq, Option.bind_some]
    by_cases h2 : b ≥ -4611686018427387904
    · by_cases h3 : b ≤ 4611686018427387904
      · simp only [decide_eq_true (show (-4611686018427387904 : Int) ≤ b from h2), decide_eq_true h3, Bool.and_self, if_true, if_pos h2, if_pos h3]
        by_cases h4 : s.size = 0
        · rw [if_pos (hnil.2 h4), h4]; exact Ev.now _
        · rw [if_neg (fun h => h4 (hnil.1 h)), show ((s.size : Int) == 0) = false from beq_eq_false_iff_ne.2 (by omega)]; exact Ev.now _
      · simp only [decide_eq_false h3, Bool.and_false, ff, if_pos h2, if_neg h3]; exact Ev.now _
    · simp only [decide_eq_false (show ¬ (-4611686018427387904 : Int) ≤ b from h2), Bool.false_and, ff, if_neg h2]; exact Ev.now _
  · simp only [if_neg h1]
    by_cases h2 : a = 2
    · simp only [if_pos h2]
      by_cases h3 : b = 0
      · simp only [if_pos h3]
        refine Ev.bind hw ?_
        cases symP s
        · exact Ev.now _
        · exact Ev.now _
      · simp only [if_neg h3]; exact Ev.now _
    · simp only [if_neg h2]
      by_cases h3 : a = 3
      · simp only [if_pos h3]
        by_cases h4 : b = 0
        · simp only [if_pos h4]
          unfold plainP
          by_cases h5 : s.size ≤ 60
          · rw [decide_eq_false (show ¬ (s.size : Int) > 60 by omega), decide_eq_true h5, Bool.and_true]
            cases h6 : allFrom (plainT s) s.size 0
            · rw [h6] at jf; exact jf
            · rw [h6] at jf; exact jf
          · rw [decide_eq_true (show (s.size : Int) > 60 by omega), decide_eq_false h5, Bool.and_false]; exact jt
        · simp only [if_neg h4]; exact jt
      · simp only [if_neg h3]; exact Ev.now _
end Go.Proofs.Ytghommaokdhjmaa.SpecB
namespace Go.Proofs.Ytghommaokdhjmaa.P
open Go.RowKit Go.Proofs.YtghommaokdhjmaaW.PrintWords Go.Proofs.YtghommaokdhjmaaW.PrintLast Go.Proofs.Ytghommaokdhjmaa.Gate
set_option linter.unusedVariables false
set_option linter.unusedSimpArgs false

/-! ### constableref01_order: function 92 -/
def constableref01_order.f (a0 : Int) (a1 : Int) : Option (Int) := if a0 < a1 then (some (-1)) else (if a0 > a1 then (some 1) else (some 0))
set_option maxHeartbeats 8000000 in
set_option maxRecDepth 100000 in
theorem constableref01_order.calls (a0 : Int) (a1 : Int) (r : Int) (w : World) (h : constableref01_order.f a0 a1 = some r) :
  Calls Try.prog 92 #[.int .i64 a0, .int .i64 a1] w fun e w' => e = .returned (.int .i64 r) ∧ Drawn0 w w' := by
 have H : (if a0 < a1 then (some (-1)) else (if a0 > a1 then (some 1) else (some 0))) = some r := h
 clear h
 by_cases c3 : a0 < a1
 ·rw [if_pos c3] at H
  have c3b0 : decide (a0 < a1) = true := decide_eq_true c3
  clear c3
  obtain rfl := Option.some.inj H
  go_enter Try.func92, Try.ntmps92
  go_wp2
  go_ret
  exact ⟨by first | rfl | (simp; done) | (simp [*]; done), by repeat (first | exact Drawn0.refl _ | apply Drawn0.step)⟩
 ·rw [if_neg c3] at H
  have c3b0 : decide (a0 < a1) = false := decide_eq_false c3
  clear c3
  by_cases c4 : a0 > a1
  ·rw [if_pos c4] at H
   have c4b0 : decide (a1 < a0) = true := decide_eq_true c4
   clear c4
   obtain rfl := Option.some.inj H
   go_enter Try.func92, Try.ntmps92
   go_wp2
   go_ret
   exact ⟨by first | rfl | (simp; done) | (simp [*]; done), by repeat (first | exact Drawn0.refl _ | apply Drawn0.step)⟩
  ·rw [if_neg c4] at H
   have c4b0 : decide (a1 < a0) = false := decide_eq_false c4
   clear c4
   obtain rfl := Option.some.inj H
   go_enter Try.func92, Try.ntmps92
   go_wp2
   go_ret
   exact ⟨by first | rfl | (simp; done) | (simp [*]; done), by repeat (first | exact Drawn0.refl _ | apply Drawn0.step)⟩

end Go.Proofs.Ytghommaokdhjmaa.P
namespace Go.Proofs.Ytghommaokdhjmaa.P
open Go.RowKit Go.Proofs.YtghommaokdhjmaaW.PrintWords Go.Proofs.YtghommaokdhjmaaW.PrintLast Go.Proofs.Ytghommaokdhjmaa.Gate
set_option linter.unusedVariables false
set_option linter.unusedSimpArgs false

/-! ### constableref01_Strings: function 67 -/
mutual
def constableref01_Strings.l0 : Nat → ByteArray → ByteArray → Int → Option (Int)
 | 0, _, _, _ => none
 | k + 1, x0, x1, x5 => if x5 < (x0.size : Int) then (constableref01_Strings.j1 k x0 x1 x5 (decide (x5 < (x1.size : Int)))) else (constableref01_Strings.j1 k x0 x1 x5 false)
def constableref01_Strings.j1 : Nat → ByteArray → ByteArray → Int → Bool → Option (Int)
 | 0, _, _, _, _ => none
 | k + 1, x0, x1, x5, x15 => if x15 = true then (if 0 ≤ x5 then (if x5 < (x0.size : Int) then (if x5 < (x1.size : Int) then (if (bt x0 x5) = (bt x1 x5) then (constableref01_Strings.l0 k x0 x1 (wrap64 (x5 + 1))) else ((constableref01_order.f (wrap64 (bt x0 x5)) (wrap64 (bt x1 x5))).bind fun t164 => (some t164))) else (none)) else (none)) else (none)) else ((constableref01_order.f (x0.size : Int) (x1.size : Int)).bind fun t165 => (some t165))
end
def constableref01_Strings.f (k : Nat) (a0 : ByteArray) (a1 : ByteArray) : Option (Int) := constableref01_Strings.l0 k a0 a1 0
theorem constableref01_Strings.mono_l : ∀ k, (∀ y0 y1 y2, LeO (constableref01_Strings.l0 k y0 y1 y2) (constableref01_Strings.l0 (k + 1) y0 y1 y2)) ∧ (∀ y0 y1 y2 y3, LeO (constableref01_Strings.j1 k y0 y1 y2 y3) (constableref01_Strings.j1 (k + 1) y0 y1 y2 y3))
 | 0 => ⟨fun _ _ _ r h => by simp [constableref01_Strings.l0] at h, fun _ _ _ _ r h => by simp [constableref01_Strings.j1] at h⟩
 | k + 1 => by
  obtain ⟨ih0, ih1⟩ := constableref01_Strings.mono_l k
  refine ⟨?_, ?_⟩
  ·intro y0 y1 y2
   unfold constableref01_Strings.l0
   repeat' first
   | (with_reducible exact ih0 _ _ _)
   | (with_reducible exact ih1 _ _ _ _)
   | (with_reducible exact LeO.refl _)
   | (with_reducible exact LeO.none _)
   | (with_reducible refine LeO.ite ?_ ?_)
   | (with_reducible refine LeO.bind ?_ (fun _ => ?_))
  ·intro y0 y1 y2 y3
   unfold constableref01_Strings.j1
   repeat' first
   | (with_reducible exact ih0 _ _ _)
   | (with_reducible exact ih1 _ _ _ _)
   | (with_reducible exact LeO.refl _)
   | (with_reducible exact LeO.none _)
   | (with_reducible refine LeO.ite ?_ ?_)
   | (with_reducible refine LeO.bind ?_ (fun _ => ?_))
theorem constableref01_Strings.mono : ∀ a0 a1 k, LeO (constableref01_Strings.f k a0 a1) (constableref01_Strings.f (k + 1) a0 a1) := by
 intro a0 a1 k
 obtain ⟨ih0, ih1⟩ := constableref01_Strings.mono_l k
 unfold constableref01_Strings.f
 repeat' first
   | (with_reducible exact ih0 _ _ _)
   | (with_reducible exact ih1 _ _ _ _)
   | (with_reducible exact LeO.refl _)
   | (with_reducible exact LeO.none _)
   | (with_reducible refine LeO.ite ?_ ?_)
   | (with_reducible refine LeO.bind ?_ (fun _ => ?_))
set_option maxHeartbeats 8000000 in
set_option maxRecDepth 100000 in
theorem constableref01_Strings.calls (k : Nat) (a0 : ByteArray) (a1 : ByteArray) (r : Int) (w : World) (h : constableref01_Strings.f k a0 a1 = some r) :
  Calls Try.prog 67 #[.string a0, .string a1] w fun e w' => e = .returned (.int .i64 r) ∧ Drawn0 w w' := by
 have H : (constableref01_Strings.l0 k a0 a1 0) = some r := h
 clear h
 have H' := Aside0.mk H
 clear H
 go_enter Try.func67, Try.ntmps67
 go_wp2
 repeat (go_quiet (fail); try go_wp2)
 go_loopg [5] k (fun kq v5 w' => ∃ (x5_1 : Int), v5 = .int .i64 x5_1 ∧ Aside0 (constableref01_Strings.l0 kq a0 a1 x5_1 = some r) ∧ Aside0 (kq ≤ k) ∧ Drawn0 w w')
 case atStart => exact ⟨(0), (by first | rfl | (simp; done) | (simp [*]; done)), H', ⟨Nat.le_refl _⟩, by repeat (first | exact Drawn0.refl _ | apply Drawn0.step)⟩
 case round =>
  clear H'
  (try clear p2)
  obtain ⟨x5_1, rfl, HA, HK1, ⟨m1, rfl⟩⟩ := hrel
  cases gk with
  | zero => exact absurd HA.out (by simp [constableref01_Strings.l0])
  | succ k1 =>
   have H := HA.out
   clear HA
   simp only [constableref01_Strings.l0] at H
   have HC3 := Aside0.mk H
   clear H
   go_upto_region 2 with (fail)
   repeat (go_quiet (fail); go_upto_region 2 with (fail))
   go_cut [15] (fun v15 wc => ∃ (kq : Nat) (x15_2 : Bool), v15 = .bool x15_2 ∧ Aside0 (constableref01_Strings.j1 kq a0 a1 x5_1 x15_2 = some r) ∧ Aside0 (kq ≤ k1) ∧ Drawn0 w wc)
   case first =>
    have H := HC3.out
    clear HC3
    by_cases c4 : x5_1 < (a0.size : Int)
    ·rw [if_pos c4] at H
     have c4b0 : decide (x5_1 < (a0.size : Int)) = true := decide_eq_true c4
     clear c4
     (first | rw [c4b0] | (simp only [i64_w, i32_w]; rw [c4b0]) | skip)
     have H' := Aside0.mk H
     clear H
     go_wp2
     repeat (go_quiet (fail); try go_wp2)
     go_meet
     case rel => exact ⟨_, (decide (x5_1 < (a1.size : Int))), (by first | rfl | (simp; done) | (simp [*]; done)), H', ⟨by have := HK1.out; first | omega | exact Nat.le_refl _⟩, by repeat (first | exact Drawn0.refl _ | apply Drawn0.step)⟩
    ·rw [if_neg c4] at H
     have c4b0 : decide (x5_1 < (a0.size : Int)) = false := decide_eq_false c4
     clear c4
     (first | rw [c4b0] | (simp only [i64_w, i32_w]; rw [c4b0]) | skip)
     have H' := Aside0.mk H
     clear H
     go_wp2
     repeat (go_quiet (fail); try go_wp2)
     go_meet
     case rel => exact ⟨_, (false), (by first | rfl | (simp; done) | (simp [*]; done)), H', ⟨by have := HK1.out; first | omega | exact Nat.le_refl _⟩, by repeat (first | exact Drawn0.refl _ | apply Drawn0.step)⟩
   case rest =>
    clear HC3
    (try clear p2); (try clear c4); (try clear c4b0); (try clear p2)
    obtain ⟨kq, x15_2, rfl, HA, HJ2, ⟨mc2, rfl⟩⟩ := hcut
    cases kq with
    | zero => exact absurd HA.out (by simp [constableref01_Strings.j1])
    | succ kj2 =>
     have H := HA.out
     clear HA
     simp only [constableref01_Strings.j1] at H
     by_cases c5 : x15_2 = true
     ·subst c5
      have H1 : (if 0 ≤ x5_1 then (if x5_1 < (a0.size : Int) then (if x5_1 < (a1.size : Int) then (if (bt a0 x5_1) = (bt a1 x5_1) then (constableref01_Strings.l0 kj2 a0 a1 (wrap64 (x5_1 + 1))) else ((constableref01_order.f (wrap64 (bt a0 x5_1)) (wrap64 (bt a1 x5_1))).bind fun t164 => (some t164))) else (none)) else (none)) else (none)) = some r := by rw [if_pos rfl] at H; exact H
      clear H
      have H := H1
      clear H1
      by_cases c6 : 0 ≤ x5_1
      ·rw [if_pos c6] at H
       have c6b0 : decide (0 ≤ x5_1) = true := decide_eq_true c6
       clear c6
       by_cases c7 : x5_1 < (a0.size : Int)
       ·rw [if_pos c7] at H
        have c7b0 : decide (x5_1 < (a0.size : Int)) = true := decide_eq_true c7
        clear c7
        by_cases c9 : x5_1 < (a1.size : Int)
        ·rw [if_pos c9] at H
         have c9b0 : decide (x5_1 < (a1.size : Int)) = true := decide_eq_true c9
         clear c9
         by_cases c11 : (bt a0 x5_1) = (bt a1 x5_1)
         ·rw [if_pos c11] at H
          have c11b0 : ((bt a0 x5_1) == (bt a1 x5_1)) = true := beq_iff_eq.mpr c11
          have c11b1 : ((bt a0 x5_1) != (bt a1 x5_1)) = false := bne_eq_false_iff_eq.mpr c11
          clear c11
          have H' := Aside0.mk H
          clear H
          have p8 : 0 ≤ (x5_1 : Int) := of_decide_eq_true (by first | (with_reducible assumption) | assumption)
          have q8 : x5_1 < (a0.size : Int) := of_decide_eq_true (by first | (with_reducible assumption) | assumption)
          have hx8 := bt_at a0 x5_1
          replace p8 := eq_true p8
          replace q8 := eq_true q8
          have p10 : 0 ≤ (x5_1 : Int) := of_decide_eq_true (by first | (with_reducible assumption) | assumption)
          have q10 : x5_1 < (a1.size : Int) := of_decide_eq_true (by first | (with_reducible assumption) | assumption)
          have hx10 := bt_at a1 x5_1
          replace p10 := eq_true p10
          replace q10 := eq_true q10
          go_wp2
          repeat (go_quiet (fail); try go_wp2)
          go_roundg kj2
          case measure => have := HK1.out; have := HJ2.out; omega
          case rel => exact ⟨(wrap64 (x5_1 + 1)), (by first | rfl | (simp; done) | (simp [*]; done)), H', ⟨by have := HK1.out; have := HJ2.out; omega⟩, by repeat (first | exact Drawn0.refl _ | apply Drawn0.step)⟩
         ·rw [if_neg c11] at H
          have c11b0 : ((bt a0 x5_1) == (bt a1 x5_1)) = false := beq_eq_false_iff_ne.mpr c11
          have c11b1 : ((bt a0 x5_1) != (bt a1 x5_1)) = true := bne_iff_ne.mpr c11
          replace H := Option.bind_eq_some_iff.mp H
          obtain ⟨t164, A140, H⟩ := H
          replace H : (some t164) = some r := H
          have A14 := Aside0.mk A140
          clear A140
          obtain rfl := Option.some.inj H
          have p8 : 0 ≤ (x5_1 : Int) := of_decide_eq_true (by first | (with_reducible assumption) | assumption)
          have q8 : x5_1 < (a0.size : Int) := of_decide_eq_true (by first | (with_reducible assumption) | assumption)
          have hx8 := bt_at a0 x5_1
          replace p8 := eq_true p8
          replace q8 := eq_true q8
          have p10 : 0 ≤ (x5_1 : Int) := of_decide_eq_true (by first | (with_reducible assumption) | assumption)
          have q10 : x5_1 < (a1.size : Int) := of_decide_eq_true (by first | (with_reducible assumption) | assumption)
          have hx10 := bt_at a1 x5_1
          replace p10 := eq_true p10
          replace q10 := eq_true q10
          have p12 : 0 ≤ (x5_1 : Int) := of_decide_eq_true (by first | (with_reducible assumption) | assumption)
          have q12 : x5_1 < (a0.size : Int) := of_decide_eq_true (by first | (with_reducible assumption) | assumption)
          have hx12 := bt_at a0 x5_1
          replace p12 := eq_true p12
          replace q12 := eq_true q12
          have p13 : 0 ≤ (x5_1 : Int) := of_decide_eq_true (by first | (with_reducible assumption) | assumption)
          have q13 : x5_1 < (a1.size : Int) := of_decide_eq_true (by first | (with_reducible assumption) | assumption)
          have hx13 := bt_at a1 x5_1
          replace p13 := eq_true p13
          replace q13 := eq_true q13
          go_wp2_with (first | (go_at_call 92; (with_reducible refine (constableref01_order.calls (wrap64 (bt a0 x5_1)) (wrap64 (bt a1 x5_1)) t164 _ A14.out).mono ?_); rintro e w' ⟨rfl, ⟨nd, rfl⟩⟩; (try first | exact ⟨rfl, _, World.drewN_drewN _ _ _⟩ | exact ⟨rfl, _, Eq.trans (World.drewN_drewN _ _ _) (congrArg (World.drewN _) (Nat.add_assoc _ _ _))⟩)))
          repeat (go_quiet (first | (go_at_call 92; (with_reducible refine (constableref01_order.calls (wrap64 (bt a0 x5_1)) (wrap64 (bt a1 x5_1)) t164 _ A14.out).mono ?_); rintro e w' ⟨rfl, ⟨nd, rfl⟩⟩; (try first | exact ⟨rfl, _, World.drewN_drewN _ _ _⟩ | exact ⟨rfl, _, Eq.trans (World.drewN_drewN _ _ _) (congrArg (World.drewN _) (Nat.add_assoc _ _ _))⟩))); try go_wp2_with (first | (go_at_call 92; (with_reducible refine (constableref01_order.calls (wrap64 (bt a0 x5_1)) (wrap64 (bt a1 x5_1)) t164 _ A14.out).mono ?_); rintro e w' ⟨rfl, ⟨nd, rfl⟩⟩; (try first | exact ⟨rfl, _, World.drewN_drewN _ _ _⟩ | exact ⟨rfl, _, Eq.trans (World.drewN_drewN _ _ _) (congrArg (World.drewN _) (Nat.add_assoc _ _ _))⟩))))
          go_ret
          exact ⟨by first | rfl | (simp; done) | (simp [*]; done), by repeat (first | exact Drawn0.refl _ | apply Drawn0.step)⟩
        ·rw [if_neg c9] at H
         exact absurd H (by simp)
       ·rw [if_neg c7] at H
        exact absurd H (by simp)
      ·rw [if_neg c6] at H
       exact absurd H (by simp)
     ·replace c5 := Bool.eq_false_iff.mpr c5
      subst c5
      have H1 : ((constableref01_order.f (a0.size : Int) (a1.size : Int)).bind fun t165 => (some t165)) = some r := by rw [if_neg (show ¬ (false = true) by decide)] at H; exact H
      clear H
      have H := H1
      clear H1
      replace H := Option.bind_eq_some_iff.mp H
      obtain ⟨t165, A150, H⟩ := H
      replace H : (some t165) = some r := H
      have A15 := Aside0.mk A150
      clear A150
      obtain rfl := Option.some.inj H
      go_wp2_with (first | (go_at_call 92; (with_reducible refine (constableref01_order.calls (a0.size : Int) (a1.size : Int) t165 _ A15.out).mono ?_); rintro e w' ⟨rfl, ⟨nd, rfl⟩⟩; (try first | exact ⟨rfl, _, World.drewN_drewN _ _ _⟩ | exact ⟨rfl, _, Eq.trans (World.drewN_drewN _ _ _) (congrArg (World.drewN _) (Nat.add_assoc _ _ _))⟩)))
      repeat (go_quiet (first | (go_at_call 92; (with_reducible refine (constableref01_order.calls (a0.size : Int) (a1.size : Int) t165 _ A15.out).mono ?_); rintro e w' ⟨rfl, ⟨nd, rfl⟩⟩; (try first | exact ⟨rfl, _, World.drewN_drewN _ _ _⟩ | exact ⟨rfl, _, Eq.trans (World.drewN_drewN _ _ _) (congrArg (World.drewN _) (Nat.add_assoc _ _ _))⟩))); try go_wp2_with (first | (go_at_call 92; (with_reducible refine (constableref01_order.calls (a0.size : Int) (a1.size : Int) t165 _ A15.out).mono ?_); rintro e w' ⟨rfl, ⟨nd, rfl⟩⟩; (try first | exact ⟨rfl, _, World.drewN_drewN _ _ _⟩ | exact ⟨rfl, _, Eq.trans (World.drewN_drewN _ _ _) (congrArg (World.drewN _) (Nat.add_assoc _ _ _))⟩))))
      go_ret
      exact ⟨by first | rfl | (simp; done) | (simp [*]; done), by repeat (first | exact Drawn0.refl _ | apply Drawn0.step)⟩

end Go.Proofs.Ytghommaokdhjmaa.P
namespace Go.Proofs.Ytghommaokdhjmaa.P
open Go.RowKit Go.Proofs.YtghommaokdhjmaaW.PrintWords Go.Proofs.YtghommaokdhjmaaW.PrintLast Go.Proofs.Ytghommaokdhjmaa.Gate
set_option linter.unusedVariables false
set_option linter.unusedSimpArgs false

/-! ### constableref01_words: function 99 -/
def constableref01_words.f  : Option (List ByteArray) := some (([(⟨#[102, 97, 99, 116]⟩ : ByteArray), (⟨#[114, 117, 108, 101]⟩ : ByteArray), (⟨#[112, 97, 116, 116, 101, 114, 110]⟩ : ByteArray), (⟨#[110, 111, 116]⟩ : ByteArray), (⟨#[97, 110, 100]⟩ : ByteArray), (⟨#[111, 114]⟩ : ByteArray), (⟨#[98, 101, 102, 111, 114, 101]⟩ : ByteArray), (⟨#[111, 110, 99, 101]⟩ : ByteArray), (⟨#[97, 108, 119, 97, 121, 115]⟩ : ByteArray), (⟨#[115, 105, 110, 99, 101]⟩ : ByteArray), (⟨#[100, 114, 111, 112]⟩ : ByteArray)] : List ByteArray))
set_option maxHeartbeats 8000000 in
set_option maxRecDepth 100000 in
theorem constableref01_words.calls  (r : List ByteArray) (w : World) (h : constableref01_words.f  = some r) :
  Calls Try.prog 99 #[] w fun e w' => ∃ v0_ : Value, e = .returned (v0_) ∧ Kd.R Kd.string 9 w' w.heap.size (fun _ => True) v0_ r ∧ Below w.heap.size w w' := by
 have HB := Aside0.mk (Below.refl w.heap.size w)
 have H : (some (([(⟨#[102, 97, 99, 116]⟩ : ByteArray), (⟨#[114, 117, 108, 101]⟩ : ByteArray), (⟨#[112, 97, 116, 116, 101, 114, 110]⟩ : ByteArray), (⟨#[110, 111, 116]⟩ : ByteArray), (⟨#[97, 110, 100]⟩ : ByteArray), (⟨#[111, 114]⟩ : ByteArray), (⟨#[98, 101, 102, 111, 114, 101]⟩ : ByteArray), (⟨#[111, 110, 99, 101]⟩ : ByteArray), (⟨#[97, 108, 119, 97, 121, 115]⟩ : ByteArray), (⟨#[115, 105, 110, 99, 101]⟩ : ByteArray), (⟨#[100, 114, 111, 112]⟩ : ByteArray)] : List ByteArray))) = some r := h
 clear h
 obtain ⟨y490, hy490⟩ : ∃ y_ : List ByteArray, y_ = (([(⟨#[102, 97, 99, 116]⟩ : ByteArray), (⟨#[114, 117, 108, 101]⟩ : ByteArray), (⟨#[112, 97, 116, 116, 101, 114, 110]⟩ : ByteArray), (⟨#[110, 111, 116]⟩ : ByteArray), (⟨#[97, 110, 100]⟩ : ByteArray), (⟨#[111, 114]⟩ : ByteArray), (⟨#[98, 101, 102, 111, 114, 101]⟩ : ByteArray), (⟨#[111, 110, 99, 101]⟩ : ByteArray), (⟨#[97, 108, 119, 97, 121, 115]⟩ : ByteArray), (⟨#[115, 105, 110, 99, 101]⟩ : ByteArray), (⟨#[100, 114, 111, 112]⟩ : ByteArray)] : List ByteArray)) := ⟨_, rfl⟩
 replace H : (some y490) = some r := by first | (rw [hy490]; with_reducible exact H) | (have H2_ := (Option.bind_some _ _).symm.trans H; rw [hy490]; with_reducible exact H2_) | (have H2_ := (Option.bind_some _ _).symm.trans H; with_reducible exact H2_) | with_reducible exact H | (rw [hy490]; exact H) | exact H
 have Ny490 := Aside0.mk hy490
 clear hy490
 obtain rfl := Option.some.inj H
 go_enter Try.func99, Try.ntmps99
 go_wp2_with (first | ((with_reducible refine gate_dst (N := 1) rfl ?_); refine Kd.R_lit Kd.string _ 9 ?hg (N := 1) ?hd (xs := ([(⟨#[102, 97, 99, 116]⟩ : ByteArray), (⟨#[114, 117, 108, 101]⟩ : ByteArray), (⟨#[112, 97, 116, 116, 101, 114, 110]⟩ : ByteArray), (⟨#[110, 111, 116]⟩ : ByteArray), (⟨#[97, 110, 100]⟩ : ByteArray), (⟨#[111, 114]⟩ : ByteArray), (⟨#[98, 101, 102, 111, 114, 101]⟩ : ByteArray), (⟨#[111, 110, 99, 101]⟩ : ByteArray), (⟨#[97, 108, 119, 97, 121, 115]⟩ : ByteArray), (⟨#[115, 105, 110, 99, 101]⟩ : ByteArray), (⟨#[100, 114, 111, 112]⟩ : ByteArray)] : List ByteArray)) (inner := [.string (⟨#[102, 97, 99, 116]⟩ : ByteArray), .string (⟨#[114, 117, 108, 101]⟩ : ByteArray), .string (⟨#[112, 97, 116, 116, 101, 114, 110]⟩ : ByteArray), .string (⟨#[110, 111, 116]⟩ : ByteArray), .string (⟨#[97, 110, 100]⟩ : ByteArray), .string (⟨#[111, 114]⟩ : ByteArray), .string (⟨#[98, 101, 102, 111, 114, 101]⟩ : ByteArray), .string (⟨#[111, 110, 99, 101]⟩ : ByteArray), .string (⟨#[97, 108, 119, 97, 121, 115]⟩ : ByteArray), .string (⟨#[115, 105, 110, 99, 101]⟩ : ByteArray), .string (⟨#[100, 114, 111, 112]⟩ : ByteArray)]) (ok := fun _ => True) (okp := fun _ => True) ?hr ?hp (fun _ hk => hk) trivial (Below.refl _ _) (Nat.le_refl _) (by simp) ?_; (case hd => rfl); (case hg => rfl); (case hr => first | (go_simp; done) | (go_simp; rfl)); (case hp => exact (Reps.one (show Kd.M Kd.string _ _ _ (⟨#[102, 97, 99, 116]⟩ : ByteArray) [.string (⟨#[102, 97, 99, 116]⟩ : ByteArray)] from rfl) (Reps.one (show Kd.M Kd.string _ _ _ (⟨#[114, 117, 108, 101]⟩ : ByteArray) [.string (⟨#[114, 117, 108, 101]⟩ : ByteArray)] from rfl) (Reps.one (show Kd.M Kd.string _ _ _ (⟨#[112, 97, 116, 116, 101, 114, 110]⟩ : ByteArray) [.string (⟨#[112, 97, 116, 116, 101, 114, 110]⟩ : ByteArray)] from rfl) (Reps.one (show Kd.M Kd.string _ _ _ (⟨#[110, 111, 116]⟩ : ByteArray) [.string (⟨#[110, 111, 116]⟩ : ByteArray)] from rfl) (Reps.one (show Kd.M Kd.string _ _ _ (⟨#[97, 110, 100]⟩ : ByteArray) [.string (⟨#[97, 110, 100]⟩ : ByteArray)] from rfl) (Reps.one (show Kd.M Kd.string _ _ _ (⟨#[111, 114]⟩ : ByteArray) [.string (⟨#[111, 114]⟩ : ByteArray)] from rfl) (Reps.one (show Kd.M Kd.string _ _ _ (⟨#[98, 101, 102, 111, 114, 101]⟩ : ByteArray) [.string (⟨#[98, 101, 102, 111, 114, 101]⟩ : ByteArray)] from rfl) (Reps.one (show Kd.M Kd.string _ _ _ (⟨#[111, 110, 99, 101]⟩ : ByteArray) [.string (⟨#[111, 110, 99, 101]⟩ : ByteArray)] from rfl) (Reps.one (show Kd.M Kd.string _ _ _ (⟨#[97, 108, 119, 97, 121, 115]⟩ : ByteArray) [.string (⟨#[97, 108, 119, 97, 121, 115]⟩ : ByteArray)] from rfl) (Reps.one (show Kd.M Kd.string _ _ _ (⟨#[115, 105, 110, 99, 101]⟩ : ByteArray) [.string (⟨#[115, 105, 110, 99, 101]⟩ : ByteArray)] from rfl) (Reps.one (show Kd.M Kd.string _ _ _ (⟨#[100, 114, 111, 112]⟩ : ByteArray) [.string (⟨#[100, 114, 111, 112]⟩ : ByteArray)] from rfl) (Reps.none _ _))))))))))))); intro v491 w1 ho2 hb hg_ hnew_; clear hg_ hnew_; (first | rw [← Ny490.out] at ho2 | (simp only [Int.reduceToNat] at ho2; rw [← Ny490.out] at ho2)); have n0_ := Aside0.mk (Kd.R_lower ho2 (below_size bB0)); have n1_ := Aside0.mk (below_step bB0 hb); clear HB; have HO492 := n0_; have HB := n1_; clear n0_ n1_; clear hb ho2))
 go_ret
 exact ⟨_, eW, by (with_reducible repeat (first | apply Kd.R_alloc | apply Kd.R_drewN | apply Kd.R_drew)); exact HO492.out, bB0⟩

end Go.Proofs.Ytghommaokdhjmaa.P
namespace Go.Proofs.Ytghommaokdhjmaa.P
open Go.RowKit Go.Proofs.YtghommaokdhjmaaW.PrintWords Go.Proofs.YtghommaokdhjmaaW.PrintLast Go.Proofs.Ytghommaokdhjmaa.Gate
set_option linter.unusedVariables false
set_option linter.unusedSimpArgs false

/-! ### constableref01_Name: function 74 -/
def constableref01_Name.l0 : Nat → ByteArray → List ByteArray → Int → Option (Bool)
 | 0, _, _, _ => none
 | k + 1, x0, x3, x4 => if x4 < (x3.length : Int) then (if 0 ≤ x4 then (if (rdOf ByteArray.empty x3 x4).toList = x0.toList then (some false) else (constableref01_Name.l0 k x0 x3 (wrap64 (x4 + 1)))) else (none)) else (some true)
def constableref01_Name.f (k : Nat) (a0 : ByteArray) : Option (Bool) := (constableref01_Word.f k a0 false).bind fun t493 => (if t493 = true then ((constableref01_words.f).bind fun t494 => (constableref01_Name.l0 k a0 t494 0)) else (some false))
theorem constableref01_Name.mono_l : ∀ k, (∀ y0 y1 y2, LeO (constableref01_Name.l0 k y0 y1 y2) (constableref01_Name.l0 (k + 1) y0 y1 y2))
 | 0 => fun _ _ _ r h => by simp [constableref01_Name.l0] at h
 | k + 1 => by
  have ih0 := constableref01_Name.mono_l k
  ·intro y0 y1 y2
   unfold constableref01_Name.l0
   repeat' first
   | (with_reducible exact ih0 _ _ _)
   | (with_reducible exact constableref01_Word.mono _ _ _)
   | (with_reducible exact LeO.refl _)
   | (with_reducible exact LeO.none _)
   | (with_reducible refine LeO.ite ?_ ?_)
   | (with_reducible refine LeO.bind ?_ (fun _ => ?_))
theorem constableref01_Name.mono : ∀ a0 k, LeO (constableref01_Name.f k a0) (constableref01_Name.f (k + 1) a0) := by
 intro a0 k
 have ih0 := constableref01_Name.mono_l k
 unfold constableref01_Name.f
 repeat' first
   | (with_reducible exact ih0 _ _ _)
   | (with_reducible exact constableref01_Word.mono _ _ _)
   | (with_reducible exact LeO.refl _)
   | (with_reducible exact LeO.none _)
   | (with_reducible refine LeO.ite ?_ ?_)
   | (with_reducible refine LeO.bind ?_ (fun _ => ?_))
set_option maxHeartbeats 8000000 in
set_option maxRecDepth 100000 in
theorem constableref01_Name.calls (k : Nat) (a0 : ByteArray) (r : Bool) (w : World) (h : constableref01_Name.f k a0 = some r) :
  Calls Try.prog 74 #[.string a0] w fun e w' => e = .returned (.bool r) ∧ Below w.heap.size w w' := by
 have HB := Aside0.mk (Below.refl w.heap.size w)
 have H : ((constableref01_Word.f k a0 false).bind fun t493 => (if t493 = true then ((constableref01_words.f).bind fun t494 => (constableref01_Name.l0 k a0 t494 0)) else (some false))) = some r := h
 clear h
 replace H := Option.bind_eq_some_iff.mp H
 obtain ⟨t493, A20, H⟩ := H
 replace H : (if t493 = true then ((constableref01_words.f).bind fun t494 => (constableref01_Name.l0 k a0 t494 0)) else (some false)) = some r := H
 have A2 := Aside0.mk A20
 clear A20
 by_cases c3 : t493 = true
 ·subst c3
  have H1 : ((constableref01_words.f).bind fun t494 => (constableref01_Name.l0 k a0 t494 0)) = some r := by rw [if_pos rfl] at H; exact H
  clear H
  have H := H1
  clear H1
  replace H := Option.bind_eq_some_iff.mp H
  obtain ⟨t494, A40, H⟩ := H
  replace H : (constableref01_Name.l0 k a0 t494 0) = some r := H
  have A4 := Aside0.mk A40
  clear A40
  have H' := Aside0.mk H
  clear H
  go_enter Try.func74, Try.ntmps74
  go_wp2_with (first | ((with_reducible refine gate_callee (f := 22) rfl ?_); refine goesL_ (some 6) rfl rfl Try.func22 (by kernel_rfl) rfl #[.string a0, .bool false] rfl aG ?_; (with_reducible refine (constableref01_Word.calls k a0 false true _ A2.out).mono ?_); rintro e w' ⟨rfl, ⟨nd, rfl⟩⟩; refine ⟨_, rfl, ?_⟩) | ((with_reducible refine gate_callee (f := 99) rfl ?_); refine goesL_ (some 8) rfl rfl Try.func99 (by kernel_rfl) rfl #[] rfl aG ?_; (with_reducible refine (constableref01_words.calls  t494 _ A4.out).mono ?_); rintro e w5 ⟨v495, rfl, ho0, hb⟩; refine ⟨_, rfl, ?_⟩; have n0_ := Aside0.mk (Kd.R_lower ho0 (below_size bB0)); have n1_ := Aside0.mk (below_step bB0 hb); clear HB; have HO496 := n0_; have HB := n1_; clear n0_ n1_; (try clear hb); (try clear hb2); (try clear hk); (try clear hi); (try clear ho0)))
  go_loopg [4] k (fun kq v4 w' => ∃ (x4_1 : Int), v4 = .int .i64 x4_1 ∧ Aside0 (constableref01_Name.l0 kq a0 t494 x4_1 = some r) ∧ Aside0 (kq ≤ k) ∧ Aside0 (Kd.R Kd.string 9 w' w.heap.size (fun _ => True) v495 t494) ∧ Aside0 (Below w.heap.size w w'))
  case atStart => exact ⟨(0), (by first | rfl | (simp; done) | (simp [*]; done)), H', ⟨Nat.le_refl _⟩, ⟨by (with_reducible repeat (first | apply Kd.R_alloc | apply Kd.R_drewN | apply Kd.R_drew)); exact HO496.out⟩, ⟨bB0⟩⟩
  case round =>
   clear H'
   (try clear c2); (try clear p2); (try clear c3)
   obtain ⟨x4_1, rfl, HA, HK1, HO_3, HB⟩ := hrel
   cases gk with
   | zero => exact absurd HA.out (by simp [constableref01_Name.l0])
   | succ k1 =>
    have H := HA.out
    clear HA
    simp only [constableref01_Name.l0] at H
    by_cases c6 : x4_1 < (t494.length : Int)
    ·rw [if_pos c6] at H
     have c6b0 : decide (x4_1 < (t494.length : Int)) = true := decide_eq_true c6
     clear c6
     by_cases c7 : 0 ≤ x4_1
     ·rw [if_pos c7] at H
      have c7b0 : decide (0 ≤ x4_1) = true := decide_eq_true c7
      clear c7
      by_cases c8 : (rdOf ByteArray.empty t494 x4_1).toList = a0.toList
      ·rw [if_pos c8] at H
       have c8b0 : ((rdOf ByteArray.empty t494 x4_1).toList == a0.toList) = true := beq_iff_eq.mpr c8
       have c8b1 : ((rdOf ByteArray.empty t494 x4_1).toList != a0.toList) = false := bne_eq_false_iff_eq.mpr c8
       clear c8
       obtain rfl := Option.some.inj H
       obtain ⟨Ao9, co9, eo9⟩ := Kd.R_slice HO_3.out
       subst eo9
       have p497 : 0 ≤ (x4_1 : Int) := of_decide_eq_true (by first | (with_reducible assumption) | assumption)
       have q497 : x4_1 < (t494.length : Int) := of_decide_eq_true (by first | (with_reducible assumption) | assumption)
       obtain ⟨ad497, e497, hx497_0⟩ := Kd.at_string (Kd.R_reads' HO_3.out).2.2 x4_1 p497 q497
       cases e497
       replace p497 := eq_true p497
       replace q497 := eq_true q497
       go_wp2
       go_ret
       exact ⟨eW, bB0⟩
      ·rw [if_neg c8] at H
       have c8b0 : ((rdOf ByteArray.empty t494 x4_1).toList == a0.toList) = false := beq_eq_false_iff_ne.mpr c8
       have c8b1 : ((rdOf ByteArray.empty t494 x4_1).toList != a0.toList) = true := bne_iff_ne.mpr c8
       have H' := Aside0.mk H
       clear H
       obtain ⟨Ao10, co10, eo10⟩ := Kd.R_slice HO_3.out
       subst eo10
       have p497 : 0 ≤ (x4_1 : Int) := of_decide_eq_true (by first | (with_reducible assumption) | assumption)
       have q497 : x4_1 < (t494.length : Int) := of_decide_eq_true (by first | (with_reducible assumption) | assumption)
       obtain ⟨ad497, e497, hx497_0⟩ := Kd.at_string (Kd.R_reads' HO_3.out).2.2 x4_1 p497 q497
       cases e497
       replace p497 := eq_true p497
       replace q497 := eq_true q497
       go_wp2
       go_roundg k1
       case measure => have := HK1.out; omega
       case rel => exact ⟨(wrap64 (x4_1 + 1)), (by first | rfl | (simp; done) | (simp [*]; done)), H', ⟨by have := HK1.out; omega⟩, ⟨by (with_reducible repeat (first | apply Kd.R_alloc | apply Kd.R_drewN | apply Kd.R_drew)); exact HO_3.out⟩, ⟨bB0⟩⟩
     ·rw [if_neg c7] at H
      exact absurd H (by simp)
    ·rw [if_neg c6] at H
     have c6b0 : decide (x4_1 < (t494.length : Int)) = false := decide_eq_false c6
     clear c6
     obtain rfl := Option.some.inj H
     obtain ⟨Ao11, co11, eo11⟩ := Kd.R_slice HO_3.out
     subst eo11
     go_wp2
     go_ret
     exact ⟨eW, bB0⟩
 ·replace c3 := Bool.eq_false_iff.mpr c3
  subst c3
  have H1 : (some false) = some r := by rw [if_neg (show ¬ (false = true) by decide)] at H; exact H
  clear H
  have H := H1
  clear H1
  obtain rfl := Option.some.inj H
  go_enter Try.func74, Try.ntmps74
  go_wp2_with (first | ((with_reducible refine gate_callee (f := 22) rfl ?_); refine goesL_ (some 6) rfl rfl Try.func22 (by kernel_rfl) rfl #[.string a0, .bool false] rfl aG ?_; (with_reducible refine (constableref01_Word.calls k a0 false false _ A2.out).mono ?_); rintro e w' ⟨rfl, ⟨nd, rfl⟩⟩; refine ⟨_, rfl, ?_⟩))
  go_ret
  exact ⟨eW, bB0⟩

end Go.Proofs.Ytghommaokdhjmaa.P
namespace Go.Proofs.Ytghommaokdhjmaa.P
open Go.RowKit Go.Proofs.YtghommaokdhjmaaW.PrintWords Go.Proofs.YtghommaokdhjmaaW.PrintLast Go.Proofs.Ytghommaokdhjmaa.Gate
set_option linter.unusedVariables false
set_option linter.unusedSimpArgs false

/-! ### constableref01_Fact: function 38 -/
mutual
def constableref01_Fact.j0 : Nat → Bool → ByteArray → List (S24) → Option (Bool)
 | 0, _, _, _ => none
 | k + 1, x13, x499000, x499001 => if x13 = true then (some false) else (constableref01_Fact.l0 k 0 x499000 x499001)
def constableref01_Fact.l0 : Nat → Int → ByteArray → List (S24) → Option (Bool)
 | 0, _, _, _ => none
 | k + 1, x3, x499000, x499001 => if x3 < (x499001.length : Int) then (if 0 ≤ x3 then ((constableref01_Value.f k ((rd_T24 x499001 x3).f0) ((rd_T24 x499001 x3).f1) ((rd_T24 x499001 x3).f2)).bind fun t501 => (if t501 = true then (constableref01_Fact.l0 k (wrap64 (x3 + 1)) x499000 x499001) else (some false))) else (none)) else (some true)
end
def constableref01_Fact.f (k : Nat) (a0_0 : ByteArray) (l0_1 : List (S24)) : Option (Bool) := (constableref01_Name.f k a0_0).bind fun t499 => (if t499 = true then (constableref01_Fact.j0 k (decide ((l0_1.length : Int) > 5)) a0_0 l0_1) else (constableref01_Fact.j0 k true a0_0 l0_1))
theorem constableref01_Fact.mono_l : ∀ k, (∀ y0 y1 y2, LeO (constableref01_Fact.j0 k y0 y1 y2) (constableref01_Fact.j0 (k + 1) y0 y1 y2)) ∧ (∀ y0 y1 y2, LeO (constableref01_Fact.l0 k y0 y1 y2) (constableref01_Fact.l0 (k + 1) y0 y1 y2))
 | 0 => ⟨fun _ _ _ r h => by simp [constableref01_Fact.j0] at h, fun _ _ _ r h => by simp [constableref01_Fact.l0] at h⟩
 | k + 1 => by
  obtain ⟨ih0, ih1⟩ := constableref01_Fact.mono_l k
  refine ⟨?_, ?_⟩
  ·intro y0 y1 y2
   unfold constableref01_Fact.j0
   repeat' first
   | (with_reducible exact ih0 _ _ _)
   | (with_reducible exact ih1 _ _ _)
   | (with_reducible exact constableref01_Name.mono _ _)
   | (with_reducible exact constableref01_Value.mono _ _ _ _)
   | (with_reducible exact LeO.refl _)
   | (with_reducible exact LeO.none _)
   | (with_reducible refine LeO.ite ?_ ?_)
   | (with_reducible refine LeO.bind ?_ (fun _ => ?_))
  ·intro y0 y1 y2
   unfold constableref01_Fact.l0
   repeat' first
   | (with_reducible exact ih0 _ _ _)
   | (with_reducible exact ih1 _ _ _)
   | (with_reducible exact constableref01_Name.mono _ _)
   | (with_reducible exact constableref01_Value.mono _ _ _ _)
   | (with_reducible exact LeO.refl _)
   | (with_reducible exact LeO.none _)
   | (with_reducible refine LeO.ite ?_ ?_)
   | (with_reducible refine LeO.bind ?_ (fun _ => ?_))
theorem constableref01_Fact.mono : ∀ a0 a1 k, LeO (constableref01_Fact.f k a0 a1) (constableref01_Fact.f (k + 1) a0 a1) := by
 intro a0 a1 k
 obtain ⟨ih0, ih1⟩ := constableref01_Fact.mono_l k
 unfold constableref01_Fact.f
 repeat' first
   | (with_reducible exact ih0 _ _ _)
   | (with_reducible exact ih1 _ _ _)
   | (with_reducible exact constableref01_Name.mono _ _)
   | (with_reducible exact constableref01_Value.mono _ _ _ _)
   | (with_reducible exact LeO.refl _)
   | (with_reducible exact LeO.none _)
   | (with_reducible refine LeO.ite ?_ ?_)
   | (with_reducible refine LeO.bind ?_ (fun _ => ?_))
set_option maxHeartbeats 8000000 in
set_option maxRecDepth 100000 in
theorem constableref01_Fact.calls (k : Nat) (a0_0 : ByteArray) (A0_1 : Option Addr) (c0_1 : Nat) (l0_1 : List (S24)) (r : Bool) (w : World) (hr0_1 : Kd.C k24 w A0_1 l0_1.length l0_1) (hc0_1 : l0_1.length ≤ c0_1) (h : constableref01_Fact.f k a0_0 l0_1 = some r) :
  Calls Try.prog 38 #[.agg #[.string a0_0, .slice A0_1 l0_1.length c0_1]] w fun e w' => e = .returned (.bool r) ∧ Below w.heap.size w w' := by
 have hu53 := Try.underlying53
 have hu24 := Try.underlying24
 have HR0_1 := Aside0.mk hr0_1
 have HC0_1 := Aside0.mk hc0_1
 clear hr0_1 hc0_1
 have HB := Aside0.mk (Below.refl w.heap.size w)
 have H : ((constableref01_Name.f k a0_0).bind fun t499 => (if t499 = true then (constableref01_Fact.j0 k (decide ((l0_1.length : Int) > 5)) a0_0 l0_1) else (constableref01_Fact.j0 k true a0_0 l0_1))) = some r := h
 clear h
 have HC2 := Aside0.mk H
 clear H
 go_enter Try.func38, Try.ntmps38
 go_upto_region 1 with (first | ((with_reducible refine gate_dst (N := 1) rfl ?_); (try (refine gate_guard (by rfl) ?_; dsimp only)); refine bE (N := 1) (cs := #[.string a0_0, .slice A0_1 l0_1.length c0_1]) (t := 53) ?_; intro gb498 hg w3 hbox hb; have n0_ := Aside0.mk (below_step bB0 hb); have n1_ := Aside0.mk (hbox); have n2_ := Aside0.mk ((by rw [hg]; exact (below_size bB0) : w.heap.size ≤ gb498)); have n3_ := Aside0.mk ((by rw [hg]; exact (below_size bB0) : w.heap.size ≤ gb498)); clear HB; have HB := n0_; have BK498 := n1_; have GW498 := n2_; have GE498 := n3_; clear n0_ n1_ n2_ n3_; clear hb hbox hg))
 (try simp only [Act.put, List.setIfInBounds_toArray, List.set_cons_zero, List.set_cons_succ])
 go_cut [13] (fun v13 wc => ∃ (kq : Nat) (x13_1 : Bool), v13 = .bool x13_1 ∧ Aside0 (constableref01_Fact.j0 kq x13_1 a0_0 l0_1 = some r) ∧ Aside0 (kq ≤ k) ∧ Aside0 (wc.heap[gb498]? = some (.cells #[.string a0_0, (.slice A0_1 l0_1.length c0_1)] 53 (0, 0))) ∧ Aside0 (Below w.heap.size w wc))
 case first =>
  have H := HC2.out
  clear HC2
  replace H := Option.bind_eq_some_iff.mp H
  obtain ⟨t499, A40, H⟩ := H
  replace H : (if t499 = true then (constableref01_Fact.j0 k (decide ((l0_1.length : Int) > 5)) a0_0 l0_1) else (constableref01_Fact.j0 k true a0_0 l0_1)) = some r := H
  have A4 := Aside0.mk A40
  clear A40
  by_cases c5 : t499 = true
  ·subst c5
   have H1 : (constableref01_Fact.j0 k (decide ((l0_1.length : Int) > 5)) a0_0 l0_1) = some r := by rw [if_pos rfl] at H; exact H
   clear H
   have H := H1
   clear H1
   have H' := Aside0.mk H
   clear H
   have hcz6_0 : w3.cell? ⟨gb498, 0, none⟩ = some (.string a0_0) := (blk_cell BK498.out 0).trans rfl
   have hcz6_1 : w3.cell? ⟨gb498, 1, none⟩ = some (.slice A0_1 l0_1.length c0_1) := (blk_cell BK498.out 1).trans rfl
   have hfz6_0 := blk_frozen BK498.out 0
   have hfz6_1 := blk_frozen BK498.out 1
   go_wp2_with (first | ((with_reducible refine gate_callee (f := 74) rfl ?_); refine goesL_ (some 6) rfl rfl Try.func74 (by kernel_rfl) rfl #[.string a0_0] rfl aG ?_; (with_reducible refine (constableref01_Name.calls k a0_0 true _ A4.out).mono ?_); rintro e w7 ⟨rfl, hb⟩; refine ⟨_, rfl, ?_⟩; have n0_ := Aside0.mk (blk_below (g := gb498) (o := .cells #[.string a0_0, .slice A0_1 l0_1.length c0_1] 53 (0, 0)) (by refine bk ?_; exact BK498.out) hb); have n1_ := Aside0.mk (below_step (bB1 GE498.out) hb); clear BK498; clear HB; have BK498 := n0_; have HB := n1_; clear n0_ n1_; (try clear hb); (try clear hb2); (try clear hk); (try clear hi); have hcz8_0 : w7.cell? ⟨gb498, 0, none⟩ = some (.string a0_0) := (blk_cell BK498.out 0).trans rfl; have hcz8_1 : w7.cell? ⟨gb498, 1, none⟩ = some (.slice A0_1 l0_1.length c0_1) := (blk_cell BK498.out 1).trans rfl; have hfz8_0 := blk_frozen BK498.out 0; have hfz8_1 := blk_frozen BK498.out 1))
   go_meet
   case rel => exact ⟨_, (decide ((l0_1.length : Int) > 5)), (by first | rfl | (simp; done) | (simp [*]; done)), H', ⟨by first | omega | exact Nat.le_refl _⟩, ⟨by refine bk ?_; exact BK498.out⟩, ⟨(bB1 GE498.out)⟩⟩
  ·replace c5 := Bool.eq_false_iff.mpr c5
   subst c5
   have H1 : (constableref01_Fact.j0 k true a0_0 l0_1) = some r := by rw [if_neg (show ¬ (false = true) by decide)] at H; exact H
   clear H
   have H := H1
   clear H1
   have H' := Aside0.mk H
   clear H
   have hcz9_0 : w3.cell? ⟨gb498, 0, none⟩ = some (.string a0_0) := (blk_cell BK498.out 0).trans rfl
   have hcz9_1 : w3.cell? ⟨gb498, 1, none⟩ = some (.slice A0_1 l0_1.length c0_1) := (blk_cell BK498.out 1).trans rfl
   have hfz9_0 := blk_frozen BK498.out 0
   have hfz9_1 := blk_frozen BK498.out 1
   go_wp2_with (first | ((with_reducible refine gate_callee (f := 74) rfl ?_); refine goesL_ (some 6) rfl rfl Try.func74 (by kernel_rfl) rfl #[.string a0_0] rfl aG ?_; (with_reducible refine (constableref01_Name.calls k a0_0 false _ A4.out).mono ?_); rintro e w10 ⟨rfl, hb⟩; refine ⟨_, rfl, ?_⟩; have n0_ := Aside0.mk (blk_below (g := gb498) (o := .cells #[.string a0_0, .slice A0_1 l0_1.length c0_1] 53 (0, 0)) (by refine bk ?_; exact BK498.out) hb); have n1_ := Aside0.mk (below_step (bB1 GE498.out) hb); clear BK498; clear HB; have BK498 := n0_; have HB := n1_; clear n0_ n1_; (try clear hb); (try clear hb2); (try clear hk); (try clear hi)))
   go_meet
   case rel => exact ⟨_, (true), (by first | rfl | (simp; done) | (simp [*]; done)), H', ⟨by first | omega | exact Nat.le_refl _⟩, ⟨by refine bk ?_; exact BK498.out⟩, ⟨(bB1 GE498.out)⟩⟩
 case rest =>
  clear HC2
  (try clear p2); (try clear c3); (try clear c5); (try clear c7); (try clear hcz6_0); (try clear hcz6_1); (try clear hcz8_0); (try clear hcz8_1); (try clear hcz9_0); (try clear hcz9_1); (try clear hfz6_0); (try clear hfz6_1); (try clear hfz8_0); (try clear hfz8_1); (try clear hfz9_0); (try clear hfz9_1)
  obtain ⟨kq, x13_1, rfl, HA, HJ1, BK498, HB⟩ := hcut
  cases kq with
  | zero => exact absurd HA.out (by simp [constableref01_Fact.j0])
  | succ kj1 =>
   have H := HA.out
   clear HA
   simp only [constableref01_Fact.j0] at H
   by_cases c11 : x13_1 = true
   ·subst c11
    have H1 : (some false) = some r := by rw [if_pos rfl] at H; exact H
    clear H
    have H := H1
    clear H1
    obtain rfl := Option.some.inj H
    go_wp2
    go_ret
    exact ⟨eW, (bB1 GE498.out)⟩
   ·replace c11 := Bool.eq_false_iff.mpr c11
    subst c11
    have H1 : (constableref01_Fact.l0 kj1 0 a0_0 l0_1) = some r := by rw [if_neg (show ¬ (false = true) by decide)] at H; exact H
    clear H
    have H := H1
    clear H1
    have H' := Aside0.mk H
    clear H
    go_wp2
    go_loopg [3] kj1 (fun kq v3 w' => ∃ (x3_2 : Int), v3 = .int .i64 x3_2 ∧ Aside0 (constableref01_Fact.l0 kq x3_2 a0_0 l0_1 = some r) ∧ Aside0 (kq ≤ kj1) ∧ Aside0 (w'.heap[gb498]? = some (.cells #[.string a0_0, (.slice A0_1 l0_1.length c0_1)] 53 (0, 0))) ∧ Aside0 (Below w.heap.size w w'))
    case atStart => exact ⟨(0), (by first | rfl | (simp; done) | (simp [*]; done)), H', ⟨Nat.le_refl _⟩, ⟨by refine bk ?_; exact BK498.out⟩, ⟨(bB1 GE498.out)⟩⟩
    case round =>
     clear H'
     (try clear c1); (try clear p2); (try clear c3); (try clear c5); (try clear c7); (try clear c11); (try clear hcz6_0); (try clear hcz6_1); (try clear hcz8_0); (try clear hcz8_1); (try clear hcz9_0); (try clear hcz9_1); (try clear hfz6_0); (try clear hfz6_1); (try clear hfz8_0); (try clear hfz8_1); (try clear hfz9_0); (try clear hfz9_1); (try clear p2)
     obtain ⟨x3_2, rfl, HA, HK2, BK498, HB⟩ := hrel
     cases gk with
     | zero => exact absurd HA.out (by simp [constableref01_Fact.l0])
     | succ k2 =>
      have H := HA.out
      clear HA
      simp only [constableref01_Fact.l0] at H
      by_cases c12 : x3_2 < (l0_1.length : Int)
      ·rw [if_pos c12] at H
       have c12b0 : decide (x3_2 < (l0_1.length : Int)) = true := decide_eq_true c12
       clear c12
       by_cases c13 : 0 ≤ x3_2
       ·rw [if_pos c13] at H
        have c13b0 : decide (0 ≤ x3_2) = true := decide_eq_true c13
        clear c13
        replace H := Option.bind_eq_some_iff.mp H
        obtain ⟨t501, A140, H⟩ := H
        replace H : (if t501 = true then (constableref01_Fact.l0 k2 (wrap64 (x3_2 + 1)) a0_0 l0_1) else (some false)) = some r := H
        have A14 := Aside0.mk A140
        clear A140
        by_cases c15 : t501 = true
        ·subst c15
         have H1 : (constableref01_Fact.l0 k2 (wrap64 (x3_2 + 1)) a0_0 l0_1) = some r := by rw [if_pos rfl] at H; exact H
         clear H
         have H := H1
         clear H1
         have H' := Aside0.mk H
         clear H
         have hcz16_0 : wr.cell? ⟨gb498, 0, none⟩ = some (.string a0_0) := (blk_cell BK498.out 0).trans rfl
         have hcz16_1 : wr.cell? ⟨gb498, 1, none⟩ = some (.slice A0_1 l0_1.length c0_1) := (blk_cell BK498.out 1).trans rfl
         have hfz16_0 := blk_frozen BK498.out 0
         have hfz16_1 := blk_frozen BK498.out 1
         have p500 : 0 ≤ (x3_2 : Int) := of_decide_eq_true (by first | (with_reducible assumption) | assumption)
         have q500 : x3_2 < (l0_1.length : Int) := of_decide_eq_true (by first | (with_reducible assumption) | assumption)
         obtain ⟨ad500, e500, hx500_0, hx500_1, hx500_2⟩ := at_T24 HR0_1.out x3_2 p500 q500
         cases e500
         replace hx500_0 := (HB.out.cell (World.block_lt_of_cell? w _ hx500_0)).trans hx500_0
         replace hx500_1 := (HB.out.cell (World.block_lt_of_cell? w _ hx500_1)).trans hx500_1
         replace hx500_2 := (HB.out.cell (World.block_lt_of_cell? w _ hx500_2)).trans hx500_2
         replace p500 := eq_true p500
         replace q500 := eq_true q500
         go_wp2_with (first | ((with_reducible refine gate_callee (f := 26) rfl ?_); refine goesL_ (some 26) rfl rfl Try.func26 (by kernel_rfl) rfl #[.agg #[.int .i64 ((rd_T24 l0_1 x3_2).f0), .int .i64 ((rd_T24 l0_1 x3_2).f1), .string ((rd_T24 l0_1 x3_2).f2)]] rfl aG ?_; (with_reducible refine (constableref01_Value.calls k2 ((rd_T24 l0_1 x3_2).f0) ((rd_T24 l0_1 x3_2).f1) ((rd_T24 l0_1 x3_2).f2) true _ A14.out).mono ?_); rintro e w17 ⟨rfl, hb⟩; refine ⟨_, rfl, ?_⟩; have n0_ := Aside0.mk (blk_below (g := gb498) (o := .cells #[.string a0_0, .slice (some ad500) l0_1.length c0_1] 53 (0, 0)) (by refine bk ?_; exact BK498.out) hb); have n1_ := Aside0.mk (below_step (bB1 GE498.out) hb); clear BK498; clear HB; have BK498 := n0_; have HB := n1_; clear n0_ n1_; (try clear hb); (try clear hb2); (try clear hk); (try clear hi)))
         go_roundg k2
         case measure => have := HJ1.out; have := HK2.out; omega
         case rel => exact ⟨(wrap64 (x3_2 + 1)), (by first | rfl | (simp; done) | (simp [*]; done)), H', ⟨by have := HJ1.out; have := HK2.out; omega⟩, ⟨by refine bk ?_; exact BK498.out⟩, ⟨(bB1 GE498.out)⟩⟩
        ·replace c15 := Bool.eq_false_iff.mpr c15
         subst c15
         have H1 : (some false) = some r := by rw [if_neg (show ¬ (false = true) by decide)] at H; exact H
         clear H
         have H := H1
         clear H1
         obtain rfl := Option.some.inj H
         have hcz18_0 : wr.cell? ⟨gb498, 0, none⟩ = some (.string a0_0) := (blk_cell BK498.out 0).trans rfl
         have hcz18_1 : wr.cell? ⟨gb498, 1, none⟩ = some (.slice A0_1 l0_1.length c0_1) := (blk_cell BK498.out 1).trans rfl
         have hfz18_0 := blk_frozen BK498.out 0
         have hfz18_1 := blk_frozen BK498.out 1
         have p500 : 0 ≤ (x3_2 : Int) := of_decide_eq_true (by first | (with_reducible assumption) | assumption)
         have q500 : x3_2 < (l0_1.length : Int) := of_decide_eq_true (by first | (with_reducible assumption) | assumption)
         obtain ⟨ad500, e500, hx500_0, hx500_1, hx500_2⟩ := at_T24 HR0_1.out x3_2 p500 q500
         cases e500
         replace hx500_0 := (HB.out.cell (World.block_lt_of_cell? w _ hx500_0)).trans hx500_0
         replace hx500_1 := (HB.out.cell (World.block_lt_of_cell? w _ hx500_1)).trans hx500_1
         replace hx500_2 := (HB.out.cell (World.block_lt_of_cell? w _ hx500_2)).trans hx500_2
         replace p500 := eq_true p500
         replace q500 := eq_true q500
         go_wp2_with (first | ((with_reducible refine gate_callee (f := 26) rfl ?_); refine goesL_ (some 26) rfl rfl Try.func26 (by kernel_rfl) rfl #[.agg #[.int .i64 ((rd_T24 l0_1 x3_2).f0), .int .i64 ((rd_T24 l0_1 x3_2).f1), .string ((rd_T24 l0_1 x3_2).f2)]] rfl aG ?_; (with_reducible refine (constableref01_Value.calls k2 ((rd_T24 l0_1 x3_2).f0) ((rd_T24 l0_1 x3_2).f1) ((rd_T24 l0_1 x3_2).f2) false _ A14.out).mono ?_); rintro e w19 ⟨rfl, hb⟩; refine ⟨_, rfl, ?_⟩; have n0_ := Aside0.mk (blk_below (g := gb498) (o := .cells #[.string a0_0, .slice (some ad500) l0_1.length c0_1] 53 (0, 0)) (by refine bk ?_; exact BK498.out) hb); have n1_ := Aside0.mk (below_step (bB1 GE498.out) hb); clear BK498; clear HB; have BK498 := n0_; have HB := n1_; clear n0_ n1_; (try clear hb); (try clear hb2); (try clear hk); (try clear hi)))
         go_ret
         exact ⟨eW, (bB1 GE498.out)⟩
       ·rw [if_neg c13] at H
        exact absurd H (by simp)
      ·rw [if_neg c12] at H
       have c12b0 : decide (x3_2 < (l0_1.length : Int)) = false := decide_eq_false c12
       clear c12
       obtain rfl := Option.some.inj H
       have hcz20_0 : wr.cell? ⟨gb498, 0, none⟩ = some (.string a0_0) := (blk_cell BK498.out 0).trans rfl
       have hcz20_1 : wr.cell? ⟨gb498, 1, none⟩ = some (.slice A0_1 l0_1.length c0_1) := (blk_cell BK498.out 1).trans rfl
       have hfz20_0 := blk_frozen BK498.out 0
       have hfz20_1 := blk_frozen BK498.out 1
       go_wp2
       go_ret
       exact ⟨eW, (bB1 GE498.out)⟩

end Go.Proofs.Ytghommaokdhjmaa.P
namespace Go.Proofs.Ytghommaokdhjmaa.P
open Go.RowKit Go.Proofs.YtghommaokdhjmaaW.PrintWords Go.Proofs.YtghommaokdhjmaaW.PrintLast Go.Proofs.Ytghommaokdhjmaa.Gate
set_option linter.unusedVariables false
set_option linter.unusedSimpArgs false

/-! ### constableref01_Values: function 98 -/
def constableref01_Values.f (k : Nat) (a0_0 : Int) (a0_1 : Int) (a0_2 : ByteArray) (a1_0 : Int) (a1_1 : Int) (a1_2 : ByteArray) : Option (Int) := (constableref01_order.f a0_0 a1_0).bind fun t504 => (if t504 = 0 then ((constableref01_order.f a0_1 a1_1).bind fun t505 => (if t505 = 0 then ((constableref01_Strings.f k a0_2 a1_2).bind fun t506 => (some t506)) else (some t505))) else (some t504))
theorem constableref01_Values.mono : ∀ a0 a1 a2 a3 a4 a5 k, LeO (constableref01_Values.f k a0 a1 a2 a3 a4 a5) (constableref01_Values.f (k + 1) a0 a1 a2 a3 a4 a5) := by
 intro a0 a1 a2 a3 a4 a5 k
 unfold constableref01_Values.f
 repeat' first
   | (with_reducible exact constableref01_Strings.mono _ _ _)
   | (with_reducible exact LeO.refl _)
   | (with_reducible exact LeO.none _)
   | (with_reducible refine LeO.ite ?_ ?_)
   | (with_reducible refine LeO.bind ?_ (fun _ => ?_))
set_option maxHeartbeats 8000000 in
set_option maxRecDepth 100000 in
theorem constableref01_Values.calls (k : Nat) (a0_0 : Int) (a0_1 : Int) (a0_2 : ByteArray) (a1_0 : Int) (a1_1 : Int) (a1_2 : ByteArray) (r : Int) (w : World) (h : constableref01_Values.f k a0_0 a0_1 a0_2 a1_0 a1_1 a1_2 = some r) :
  Calls Try.prog 98 #[.agg #[.int .i64 a0_0, .int .i64 a0_1, .string a0_2], .agg #[.int .i64 a1_0, .int .i64 a1_1, .string a1_2]] w fun e w' => e = .returned (.int .i64 r) ∧ Below w.heap.size w w' := by
 have hu24 := Try.underlying24
 have HB := Aside0.mk (Below.refl w.heap.size w)
 have H : ((constableref01_order.f a0_0 a1_0).bind fun t504 => (if t504 = 0 then ((constableref01_order.f a0_1 a1_1).bind fun t505 => (if t505 = 0 then ((constableref01_Strings.f k a0_2 a1_2).bind fun t506 => (some t506)) else (some t505))) else (some t504))) = some r := h
 clear h
 replace H := Option.bind_eq_some_iff.mp H
 obtain ⟨t504, A30, H⟩ := H
 replace H : (if t504 = 0 then ((constableref01_order.f a0_1 a1_1).bind fun t505 => (if t505 = 0 then ((constableref01_Strings.f k a0_2 a1_2).bind fun t506 => (some t506)) else (some t505))) else (some t504)) = some r := H
 have A3 := Aside0.mk A30
 clear A30
 by_cases c4 : t504 = 0
 ·rw [if_pos c4] at H
  have c4b0 : (t504 == 0) = true := beq_iff_eq.mpr c4
  have c4b1 : (t504 != 0) = false := bne_eq_false_iff_eq.mpr c4
  clear c4
  replace H := Option.bind_eq_some_iff.mp H
  obtain ⟨t505, A50, H⟩ := H
  replace H : (if t505 = 0 then ((constableref01_Strings.f k a0_2 a1_2).bind fun t506 => (some t506)) else (some t505)) = some r := H
  have A5 := Aside0.mk A50
  clear A50
  by_cases c6 : t505 = 0
  ·rw [if_pos c6] at H
   have c6b0 : (t505 == 0) = true := beq_iff_eq.mpr c6
   have c6b1 : (t505 != 0) = false := bne_eq_false_iff_eq.mpr c6
   clear c6
   replace H := Option.bind_eq_some_iff.mp H
   obtain ⟨t506, A70, H⟩ := H
   replace H : (some t506) = some r := H
   have A7 := Aside0.mk A70
   clear A70
   obtain rfl := Option.some.inj H
   go_enter Try.func98, Try.ntmps98
   go_wp2_with (first | ((with_reducible refine gate_dst (N := 2) rfl ?_); refine bE (N := 2) (cs := #[.int .i64 a0_0, .int .i64 a0_1, .string a0_2]) (t := 24) ?_; intro gb502 hg w8 hbox hb; have n0_ := Aside0.mk (below_step bB0 hb); have n1_ := Aside0.mk (hbox); have n2_ := Aside0.mk ((by rw [hg]; exact (below_size bB0) : w.heap.size ≤ gb502)); have n3_ := Aside0.mk ((by rw [hg]; exact (below_size bB0) : w.heap.size ≤ gb502)); clear HB; have HB := n0_; have BK502 := n1_; have GW502 := n2_; have GE502 := n3_; clear n0_ n1_ n2_ n3_; clear hb hbox hg) | ((with_reducible refine gate_dst (N := 3) rfl ?_); refine bE (N := 3) (cs := #[.int .i64 a1_0, .int .i64 a1_1, .string a1_2]) (t := 24) ?_; intro gb503 hg w9 hbox hb; have n0_ := Aside0.mk (blk_below (g := gb502) (o := .cells #[.int .i64 a0_0, .int .i64 a0_1, .string a0_2] 24 (0, 0)) (by refine bk ?_; exact BK502.out) hb); have n1_ := Aside0.mk (below_step (bB1 GE502.out) hb); have n2_ := Aside0.mk (hbox); have n3_ := Aside0.mk ((by rw [hg]; exact (below_size (bB1 GE502.out)) : w.heap.size ≤ gb503)); have n4_ := Aside0.mk ((by rw [hg]; exact (below_size (bB1 GE502.out)) : w.heap.size ≤ gb503)); have n5_ := Aside0.mk ((by rw [hg]; exact Nat.ne_of_lt (blk_lt (g := gb502) (o := .cells #[.int .i64 a0_0, .int .i64 a0_1, .string a0_2] 24 (0, 0)) (by refine bk ?_; exact BK502.out)) : gb502 ≠ gb503)); have n6_ := Aside0.mk ((by rw [hg]; exact Nat.ne_of_gt (blk_lt (g := gb502) (o := .cells #[.int .i64 a0_0, .int .i64 a0_1, .string a0_2] 24 (0, 0)) (by refine bk ?_; exact BK502.out)) : gb503 ≠ gb502)); clear BK502; clear HB; have BK502 := n0_; have HB := n1_; have BK503 := n2_; have GW503 := n3_; have GE503 := n4_; have NB502_503 := n5_; have NB503_502 := n6_; clear n0_ n1_ n2_ n3_ n4_ n5_ n6_; clear hb hbox hg; have hnb10 := NB502_503.out; have hnc10 := NB503_502.out; have hcz11_0 : w9.cell? ⟨gb502, 0, none⟩ = some (.int .i64 a0_0) := (blk_cell BK502.out 0).trans rfl; have hcz11_1 : w9.cell? ⟨gb502, 1, none⟩ = some (.int .i64 a0_1) := (blk_cell BK502.out 1).trans rfl; have hcz11_2 : w9.cell? ⟨gb502, 2, none⟩ = some (.string a0_2) := (blk_cell BK502.out 2).trans rfl; have hfz11_0 := blk_frozen BK502.out 0; have hfz11_1 := blk_frozen BK502.out 1; have hfz11_2 := blk_frozen BK502.out 2; have hcz12_0 : w9.cell? ⟨gb503, 0, none⟩ = some (.int .i64 a1_0) := (blk_cell BK503.out 0).trans rfl; have hcz12_1 : w9.cell? ⟨gb503, 1, none⟩ = some (.int .i64 a1_1) := (blk_cell BK503.out 1).trans rfl; have hcz12_2 : w9.cell? ⟨gb503, 2, none⟩ = some (.string a1_2) := (blk_cell BK503.out 2).trans rfl; have hfz12_0 := blk_frozen BK503.out 0; have hfz12_1 := blk_frozen BK503.out 1; have hfz12_2 := blk_frozen BK503.out 2) | ((with_reducible refine gate_callee (f := 92) rfl ?_); refine goesL_ (some 11) rfl rfl Try.func92 (by kernel_rfl) rfl #[.int .i64 a0_0, .int .i64 a1_0] rfl aG ?_; (with_reducible refine (constableref01_order.calls a0_0 a1_0 t504 _ A3.out).mono ?_); rintro e w' ⟨rfl, ⟨nd, rfl⟩⟩; refine ⟨_, rfl, ?_⟩) | ((with_reducible refine gate_callee (f := 92) rfl ?_); refine goesL_ (some 19) rfl rfl Try.func92 (by kernel_rfl) rfl #[.int .i64 a0_1, .int .i64 a1_1] rfl aG ?_; (with_reducible refine (constableref01_order.calls a0_1 a1_1 t505 _ A5.out).mono ?_); rintro e w' ⟨rfl, ⟨nd, rfl⟩⟩; refine ⟨_, rfl, ?_⟩) | ((with_reducible refine gate_callee (f := 67) rfl ?_); refine goesL_ (some 27) rfl rfl Try.func67 (by kernel_rfl) rfl #[.string a0_2, .string a1_2] rfl aG ?_; (with_reducible refine (constableref01_Strings.calls k a0_2 a1_2 t506 _ A7.out).mono ?_); rintro e w' ⟨rfl, ⟨nd, rfl⟩⟩; refine ⟨_, rfl, ?_⟩))
   go_ret
   exact ⟨eW, (bB2 GE502.out GE503.out)⟩
  ·rw [if_neg c6] at H
   have c6b0 : (t505 == 0) = false := beq_eq_false_iff_ne.mpr c6
   have c6b1 : (t505 != 0) = true := bne_iff_ne.mpr c6
   obtain rfl := Option.some.inj H
   go_enter Try.func98, Try.ntmps98
   go_wp2_with (first | ((with_reducible refine gate_dst (N := 2) rfl ?_); refine bE (N := 2) (cs := #[.int .i64 a0_0, .int .i64 a0_1, .string a0_2]) (t := 24) ?_; intro gb502 hg w13 hbox hb; have n0_ := Aside0.mk (below_step bB0 hb); have n1_ := Aside0.mk (hbox); have n2_ := Aside0.mk ((by rw [hg]; exact (below_size bB0) : w.heap.size ≤ gb502)); have n3_ := Aside0.mk ((by rw [hg]; exact (below_size bB0) : w.heap.size ≤ gb502)); clear HB; have HB := n0_; have BK502 := n1_; have GW502 := n2_; have GE502 := n3_; clear n0_ n1_ n2_ n3_; clear hb hbox hg) | ((with_reducible refine gate_dst (N := 3) rfl ?_); refine bE (N := 3) (cs := #[.int .i64 a1_0, .int .i64 a1_1, .string a1_2]) (t := 24) ?_; intro gb503 hg w14 hbox hb; have n0_ := Aside0.mk (blk_below (g := gb502) (o := .cells #[.int .i64 a0_0, .int .i64 a0_1, .string a0_2] 24 (0, 0)) (by refine bk ?_; exact BK502.out) hb); have n1_ := Aside0.mk (below_step (bB1 GE502.out) hb); have n2_ := Aside0.mk (hbox); have n3_ := Aside0.mk ((by rw [hg]; exact (below_size (bB1 GE502.out)) : w.heap.size ≤ gb503)); have n4_ := Aside0.mk ((by rw [hg]; exact (below_size (bB1 GE502.out)) : w.heap.size ≤ gb503)); have n5_ := Aside0.mk ((by rw [hg]; exact Nat.ne_of_lt (blk_lt (g := gb502) (o := .cells #[.int .i64 a0_0, .int .i64 a0_1, .string a0_2] 24 (0, 0)) (by refine bk ?_; exact BK502.out)) : gb502 ≠ gb503)); have n6_ := Aside0.mk ((by rw [hg]; exact Nat.ne_of_gt (blk_lt (g := gb502) (o := .cells #[.int .i64 a0_0, .int .i64 a0_1, .string a0_2] 24 (0, 0)) (by refine bk ?_; exact BK502.out)) : gb503 ≠ gb502)); clear BK502; clear HB; have BK502 := n0_; have HB := n1_; have BK503 := n2_; have GW503 := n3_; have GE503 := n4_; have NB502_503 := n5_; have NB503_502 := n6_; clear n0_ n1_ n2_ n3_ n4_ n5_ n6_; clear hb hbox hg; have hnb15 := NB502_503.out; have hnc15 := NB503_502.out; have hcz16_0 : w14.cell? ⟨gb502, 0, none⟩ = some (.int .i64 a0_0) := (blk_cell BK502.out 0).trans rfl; have hcz16_1 : w14.cell? ⟨gb502, 1, none⟩ = some (.int .i64 a0_1) := (blk_cell BK502.out 1).trans rfl; have hcz16_2 : w14.cell? ⟨gb502, 2, none⟩ = some (.string a0_2) := (blk_cell BK502.out 2).trans rfl; have hfz16_0 := blk_frozen BK502.out 0; have hfz16_1 := blk_frozen BK502.out 1; have hfz16_2 := blk_frozen BK502.out 2; have hcz17_0 : w14.cell? ⟨gb503, 0, none⟩ = some (.int .i64 a1_0) := (blk_cell BK503.out 0).trans rfl; have hcz17_1 : w14.cell? ⟨gb503, 1, none⟩ = some (.int .i64 a1_1) := (blk_cell BK503.out 1).trans rfl; have hcz17_2 : w14.cell? ⟨gb503, 2, none⟩ = some (.string a1_2) := (blk_cell BK503.out 2).trans rfl; have hfz17_0 := blk_frozen BK503.out 0; have hfz17_1 := blk_frozen BK503.out 1; have hfz17_2 := blk_frozen BK503.out 2) | ((with_reducible refine gate_callee (f := 92) rfl ?_); refine goesL_ (some 11) rfl rfl Try.func92 (by kernel_rfl) rfl #[.int .i64 a0_0, .int .i64 a1_0] rfl aG ?_; (with_reducible refine (constableref01_order.calls a0_0 a1_0 t504 _ A3.out).mono ?_); rintro e w' ⟨rfl, ⟨nd, rfl⟩⟩; refine ⟨_, rfl, ?_⟩) | ((with_reducible refine gate_callee (f := 92) rfl ?_); refine goesL_ (some 19) rfl rfl Try.func92 (by kernel_rfl) rfl #[.int .i64 a0_1, .int .i64 a1_1] rfl aG ?_; (with_reducible refine (constableref01_order.calls a0_1 a1_1 t505 _ A5.out).mono ?_); rintro e w' ⟨rfl, ⟨nd, rfl⟩⟩; refine ⟨_, rfl, ?_⟩))
   go_ret
   exact ⟨eW, (bB2 GE502.out GE503.out)⟩
 ·rw [if_neg c4] at H
  have c4b0 : (t504 == 0) = false := beq_eq_false_iff_ne.mpr c4
  have c4b1 : (t504 != 0) = true := bne_iff_ne.mpr c4
  obtain rfl := Option.some.inj H
  go_enter Try.func98, Try.ntmps98
  go_wp2_with (first | ((with_reducible refine gate_dst (N := 2) rfl ?_); refine bE (N := 2) (cs := #[.int .i64 a0_0, .int .i64 a0_1, .string a0_2]) (t := 24) ?_; intro gb502 hg w18 hbox hb; have n0_ := Aside0.mk (below_step bB0 hb); have n1_ := Aside0.mk (hbox); have n2_ := Aside0.mk ((by rw [hg]; exact (below_size bB0) : w.heap.size ≤ gb502)); have n3_ := Aside0.mk ((by rw [hg]; exact (below_size bB0) : w.heap.size ≤ gb502)); clear HB; have HB := n0_; have BK502 := n1_; have GW502 := n2_; have GE502 := n3_; clear n0_ n1_ n2_ n3_; clear hb hbox hg) | ((with_reducible refine gate_dst (N := 3) rfl ?_); refine bE (N := 3) (cs := #[.int .i64 a1_0, .int .i64 a1_1, .string a1_2]) (t := 24) ?_; intro gb503 hg w19 hbox hb; have n0_ := Aside0.mk (blk_below (g := gb502) (o := .cells #[.int .i64 a0_0, .int .i64 a0_1, .string a0_2] 24 (0, 0)) (by refine bk ?_; exact BK502.out) hb); have n1_ := Aside0.mk (below_step (bB1 GE502.out) hb); have n2_ := Aside0.mk (hbox); have n3_ := Aside0.mk ((by rw [hg]; exact (below_size (bB1 GE502.out)) : w.heap.size ≤ gb503)); have n4_ := Aside0.mk ((by rw [hg]; exact (below_size (bB1 GE502.out)) : w.heap.size ≤ gb503)); have n5_ := Aside0.mk ((by rw [hg]; exact Nat.ne_of_lt (blk_lt (g := gb502) (o := .cells #[.int .i64 a0_0, .int .i64 a0_1, .string a0_2] 24 (0, 0)) (by refine bk ?_; exact BK502.out)) : gb502 ≠ gb503)); have n6_ := Aside0.mk ((by rw [hg]; exact Nat.ne_of_gt (blk_lt (g := gb502) (o := .cells #[.int .i64 a0_0, .int .i64 a0_1, .string a0_2] 24 (0, 0)) (by refine bk ?_; exact BK502.out)) : gb503 ≠ gb502)); clear BK502; clear HB; have BK502 := n0_; have HB := n1_; have BK503 := n2_; have GW503 := n3_; have GE503 := n4_; have NB502_503 := n5_; have NB503_502 := n6_; clear n0_ n1_ n2_ n3_ n4_ n5_ n6_; clear hb hbox hg; have hnb20 := NB502_503.out; have hnc20 := NB503_502.out; have hcz21_0 : w19.cell? ⟨gb502, 0, none⟩ = some (.int .i64 a0_0) := (blk_cell BK502.out 0).trans rfl; have hcz21_1 : w19.cell? ⟨gb502, 1, none⟩ = some (.int .i64 a0_1) := (blk_cell BK502.out 1).trans rfl; have hcz21_2 : w19.cell? ⟨gb502, 2, none⟩ = some (.string a0_2) := (blk_cell BK502.out 2).trans rfl; have hfz21_0 := blk_frozen BK502.out 0; have hfz21_1 := blk_frozen BK502.out 1; have hfz21_2 := blk_frozen BK502.out 2; have hcz22_0 : w19.cell? ⟨gb503, 0, none⟩ = some (.int .i64 a1_0) := (blk_cell BK503.out 0).trans rfl; have hcz22_1 : w19.cell? ⟨gb503, 1, none⟩ = some (.int .i64 a1_1) := (blk_cell BK503.out 1).trans rfl; have hcz22_2 : w19.cell? ⟨gb503, 2, none⟩ = some (.string a1_2) := (blk_cell BK503.out 2).trans rfl; have hfz22_0 := blk_frozen BK503.out 0; have hfz22_1 := blk_frozen BK503.out 1; have hfz22_2 := blk_frozen BK503.out 2) | ((with_reducible refine gate_callee (f := 92) rfl ?_); refine goesL_ (some 11) rfl rfl Try.func92 (by kernel_rfl) rfl #[.int .i64 a0_0, .int .i64 a1_0] rfl aG ?_; (with_reducible refine (constableref01_order.calls a0_0 a1_0 t504 _ A3.out).mono ?_); rintro e w' ⟨rfl, ⟨nd, rfl⟩⟩; refine ⟨_, rfl, ?_⟩))
  go_ret
  exact ⟨eW, (bB2 GE502.out GE503.out)⟩

end Go.Proofs.Ytghommaokdhjmaa.P
namespace Go.Proofs.Ytghommaokdhjmaa.P
open Go.RowKit Go.Proofs.YtghommaokdhjmaaW.PrintWords Go.Proofs.YtghommaokdhjmaaW.PrintLast Go.Proofs.Ytghommaokdhjmaa.Gate
set_option linter.unusedVariables false
set_option linter.unusedSimpArgs false

/-! ### constableref01_Facts: function 73 -/
def constableref01_Facts.l0 : Nat → Int → ByteArray → List (S24) → ByteArray → List (S24) → Option (Int)
 | 0, _, _, _, _, _ => none
 | k + 1, x7, x508000, x508001, x509000, x509001 => if x7 < (x508001.length : Int) then (if 0 ≤ x7 then (if x7 < (x509001.length : Int) then ((constableref01_Values.f k ((rd_T24 x508001 x7).f0) ((rd_T24 x508001 x7).f1) ((rd_T24 x508001 x7).f2) ((rd_T24 x509001 x7).f0) ((rd_T24 x509001 x7).f1) ((rd_T24 x509001 x7).f2)).bind fun t513 => (if t513 = 0 then (constableref01_Facts.l0 k (wrap64 (x7 + 1)) x508000 x508001 x509000 x509001) else (some t513))) else (none)) else (none)) else (some 0)
def constableref01_Facts.f (k : Nat) (a0_0 : ByteArray) (l0_1 : List (S24)) (a1_0 : ByteArray) (l1_1 : List (S24)) : Option (Int) := (constableref01_Strings.f k a0_0 a1_0).bind fun t509 => (if t509 = 0 then ((constableref01_order.f (l0_1.length : Int) (l1_1.length : Int)).bind fun t510 => (if t510 = 0 then (constableref01_Facts.l0 k 0 a0_0 l0_1 a1_0 l1_1) else (some t510))) else (some t509))
theorem constableref01_Facts.mono_l : ∀ k, (∀ y0 y1 y2 y3 y4, LeO (constableref01_Facts.l0 k y0 y1 y2 y3 y4) (constableref01_Facts.l0 (k + 1) y0 y1 y2 y3 y4))
 | 0 => fun _ _ _ _ _ r h => by simp [constableref01_Facts.l0] at h
 | k + 1 => by
  have ih0 := constableref01_Facts.mono_l k
  ·intro y0 y1 y2 y3 y4
   unfold constableref01_Facts.l0
   repeat' first
   | (with_reducible exact ih0 _ _ _ _ _)
   | (with_reducible exact constableref01_Strings.mono _ _ _)
   | (with_reducible exact constableref01_Values.mono _ _ _ _ _ _ _)
   | (with_reducible exact LeO.refl _)
   | (with_reducible exact LeO.none _)
   | (with_reducible refine LeO.ite ?_ ?_)
   | (with_reducible refine LeO.bind ?_ (fun _ => ?_))
theorem constableref01_Facts.mono : ∀ a0 a1 a2 a3 k, LeO (constableref01_Facts.f k a0 a1 a2 a3) (constableref01_Facts.f (k + 1) a0 a1 a2 a3) := by
 intro a0 a1 a2 a3 k
 have ih0 := constableref01_Facts.mono_l k
 unfold constableref01_Facts.f
 repeat' first
   | (with_reducible exact ih0 _ _ _ _ _)
   | (with_reducible exact constableref01_Strings.mono _ _ _)
   | (with_reducible exact constableref01_Values.mono _ _ _ _ _ _ _)
   | (with_reducible exact LeO.refl _)
   | (with_reducible exact LeO.none _)
   | (with_reducible refine LeO.ite ?_ ?_)
   | (with_reducible refine LeO.bind ?_ (fun _ => ?_))
def constableref01_Facts.T10 : Bool × List (List Nat × List Nat) := (true, [([], []), ([0], [0]), ([], []), ([1, 2], [1, 2]), ([3], [3]), ([], []), ([5], [5]), ([], []), ([6, 7], [6, 7]), ([8], [8]), ([4, 9], [4, 9]), ([10, 10, 0, 1, 2, 3, 4, 5, 6, 7, 8, 9, 10], [10])])
def constableref01_Facts.B10 : List Nat := [0, 1, 0, 7, 15, 0, 32, 0, 224, 480, 1023, 2047]
theorem constableref01_Facts.tab10 : rtab .any (opsOf Try.f73 10) = constableref01_Facts.T10 := by kernel_rfl
theorem constableref01_Facts.bits10 : waitsOk constableref01_Facts.T10.2 constableref01_Facts.B10 = true := by kernel_rfl
set_option maxHeartbeats 8000000 in
set_option maxRecDepth 100000 in
theorem constableref01_Facts.calls (k : Nat) (a0_0 : ByteArray) (A0_1 : Option Addr) (c0_1 : Nat) (l0_1 : List (S24)) (a1_0 : ByteArray) (A1_1 : Option Addr) (c1_1 : Nat) (l1_1 : List (S24)) (r : Int) (w : World) (hr0_1 : Kd.C k24 w A0_1 l0_1.length l0_1) (hc0_1 : l0_1.length ≤ c0_1) (hr1_1 : Kd.C k24 w A1_1 l1_1.length l1_1) (hc1_1 : l1_1.length ≤ c1_1) (h : constableref01_Facts.f k a0_0 l0_1 a1_0 l1_1 = some r) :
  Calls Try.prog 73 #[.agg #[.string a0_0, .slice A0_1 l0_1.length c0_1], .agg #[.string a1_0, .slice A1_1 l1_1.length c1_1]] w fun e w' => e = .returned (.int .i64 r) ∧ Below w.heap.size w w' := by
 have hu53 := Try.underlying53
 have hu24 := Try.underlying24
 have HR0_1 := Aside0.mk hr0_1
 have HC0_1 := Aside0.mk hc0_1
 clear hr0_1 hc0_1
 have HR1_1 := Aside0.mk hr1_1
 have HC1_1 := Aside0.mk hc1_1
 clear hr1_1 hc1_1
 have HB := Aside0.mk (Below.refl w.heap.size w)
 have H : ((constableref01_Strings.f k a0_0 a1_0).bind fun t509 => (if t509 = 0 then ((constableref01_order.f (l0_1.length : Int) (l1_1.length : Int)).bind fun t510 => (if t510 = 0 then (constableref01_Facts.l0 k 0 a0_0 l0_1 a1_0 l1_1) else (some t510))) else (some t509))) = some r := h
 clear h
 replace H := Option.bind_eq_some_iff.mp H
 obtain ⟨t509, A30, H⟩ := H
 replace H : (if t509 = 0 then ((constableref01_order.f (l0_1.length : Int) (l1_1.length : Int)).bind fun t510 => (if t510 = 0 then (constableref01_Facts.l0 k 0 a0_0 l0_1 a1_0 l1_1) else (some t510))) else (some t509)) = some r := H
 have A3 := Aside0.mk A30
 clear A30
 by_cases c4 : t509 = 0
 ·rw [if_pos c4] at H
  have c4b0 : (t509 == 0) = true := beq_iff_eq.mpr c4
  have c4b1 : (t509 != 0) = false := bne_eq_false_iff_eq.mpr c4
  clear c4
  replace H := Option.bind_eq_some_iff.mp H
  obtain ⟨t510, A50, H⟩ := H
  replace H : (if t510 = 0 then (constableref01_Facts.l0 k 0 a0_0 l0_1 a1_0 l1_1) else (some t510)) = some r := H
  have A5 := Aside0.mk A50
  clear A50
  by_cases c6 : t510 = 0
  ·rw [if_pos c6] at H
   have c6b0 : (t510 == 0) = true := beq_iff_eq.mpr c6
   have c6b1 : (t510 != 0) = false := bne_eq_false_iff_eq.mpr c6
   clear c6
   have H' := Aside0.mk H
   clear H
   go_enter Try.func73, Try.ntmps73
   go_wp2_with (first | ((with_reducible refine gate_dst (N := 2) rfl ?_); refine bE (N := 2) (cs := #[.string a0_0, .slice A0_1 l0_1.length c0_1]) (t := 53) ?_; intro gb507 hg w7 hbox hb; have n0_ := Aside0.mk (below_step bB0 hb); have n1_ := Aside0.mk (hbox); have n2_ := Aside0.mk ((by rw [hg]; exact (below_size bB0) : w.heap.size ≤ gb507)); have n3_ := Aside0.mk ((by rw [hg]; exact (below_size bB0) : w.heap.size ≤ gb507)); clear HB; have HB := n0_; have BK507 := n1_; have GW507 := n2_; have GE507 := n3_; clear n0_ n1_ n2_ n3_; clear hb hbox hg) | ((with_reducible refine gate_dst (N := 3) rfl ?_); refine bE (N := 3) (cs := #[.string a1_0, .slice A1_1 l1_1.length c1_1]) (t := 53) ?_; intro gb508 hg w8 hbox hb; have n0_ := Aside0.mk (blk_below (g := gb507) (o := .cells #[.string a0_0, .slice A0_1 l0_1.length c0_1] 53 (0, 0)) (by refine bk ?_; exact BK507.out) hb); have n1_ := Aside0.mk (below_step (bB1 GE507.out) hb); have n2_ := Aside0.mk (hbox); have n3_ := Aside0.mk ((by rw [hg]; exact (below_size (bB1 GE507.out)) : w.heap.size ≤ gb508)); have n4_ := Aside0.mk ((by rw [hg]; exact (below_size (bB1 GE507.out)) : w.heap.size ≤ gb508)); have n5_ := Aside0.mk ((by rw [hg]; exact Nat.ne_of_lt (blk_lt (g := gb507) (o := .cells #[.string a0_0, .slice A0_1 l0_1.length c0_1] 53 (0, 0)) (by refine bk ?_; exact BK507.out)) : gb507 ≠ gb508)); have n6_ := Aside0.mk ((by rw [hg]; exact Nat.ne_of_gt (blk_lt (g := gb507) (o := .cells #[.string a0_0, .slice A0_1 l0_1.length c0_1] 53 (0, 0)) (by refine bk ?_; exact BK507.out)) : gb508 ≠ gb507)); clear BK507; clear HB; have BK507 := n0_; have HB := n1_; have BK508 := n2_; have GW508 := n3_; have GE508 := n4_; have NB507_508 := n5_; have NB508_507 := n6_; clear n0_ n1_ n2_ n3_ n4_ n5_ n6_; clear hb hbox hg; have hnb9 := NB507_508.out; have hnc9 := NB508_507.out; have hcz10_0 : w8.cell? ⟨gb507, 0, none⟩ = some (.string a0_0) := (blk_cell BK507.out 0).trans rfl; have hcz10_1 : w8.cell? ⟨gb507, 1, none⟩ = some (.slice A0_1 l0_1.length c0_1) := (blk_cell BK507.out 1).trans rfl; have hfz10_0 := blk_frozen BK507.out 0; have hfz10_1 := blk_frozen BK507.out 1; have hcz11_0 : w8.cell? ⟨gb508, 0, none⟩ = some (.string a1_0) := (blk_cell BK508.out 0).trans rfl; have hcz11_1 : w8.cell? ⟨gb508, 1, none⟩ = some (.slice A1_1 l1_1.length c1_1) := (blk_cell BK508.out 1).trans rfl; have hfz11_0 := blk_frozen BK508.out 0; have hfz11_1 := blk_frozen BK508.out 1) | ((with_reducible refine gate_callee (f := 67) rfl ?_); refine goesL_ (some 13) rfl rfl Try.func67 (by kernel_rfl) rfl #[.string a0_0, .string a1_0] rfl aG ?_; (with_reducible refine (constableref01_Strings.calls k a0_0 a1_0 t509 _ A3.out).mono ?_); rintro e w' ⟨rfl, ⟨nd, rfl⟩⟩; refine ⟨_, rfl, ?_⟩) | ((with_reducible refine gate_callee (f := 92) rfl ?_); refine goesL_ (some 23) rfl rfl Try.func92 (by kernel_rfl) rfl #[.int .i64 (l0_1.length : Int), .int .i64 (l1_1.length : Int)] rfl aG ?_; (with_reducible refine (constableref01_order.calls (l0_1.length : Int) (l1_1.length : Int) t510 _ A5.out).mono ?_); rintro e w' ⟨rfl, ⟨nd, rfl⟩⟩; refine ⟨_, rfl, ?_⟩))
   go_loopg [7] k (fun kq v7 w' => ∃ (x7_1 : Int), v7 = .int .i64 x7_1 ∧ Aside0 (constableref01_Facts.l0 kq x7_1 a0_0 l0_1 a1_0 l1_1 = some r) ∧ Aside0 (kq ≤ k) ∧ Aside0 (w'.heap[gb507]? = some (.cells #[.string a0_0, (.slice A0_1 l0_1.length c0_1)] 53 (0, 0))) ∧ Aside0 (w'.heap[gb508]? = some (.cells #[.string a1_0, (.slice A1_1 l1_1.length c1_1)] 53 (0, 0))) ∧ Aside0 (Below w.heap.size w w'))
   case atStart => exact ⟨(0), (by first | rfl | (simp; done) | (simp [*]; done)), H', ⟨Nat.le_refl _⟩, ⟨by refine bk ?_; exact BK507.out⟩, ⟨by refine bk ?_; exact BK508.out⟩, ⟨(bB2 GE507.out GE508.out)⟩⟩
   case round =>
    clear H'
    (try clear c1); (try clear p2); (try clear c4); (try clear c4b0); (try clear c4b1); (try clear c6); (try clear c6b0); (try clear c6b1); (try clear c7); (try clear c9); (try clear hcz10_0); (try clear hcz10_1); (try clear hcz11_0); (try clear hcz11_1); (try clear hfz10_0); (try clear hfz10_1); (try clear hfz11_0); (try clear hfz11_1)
    obtain ⟨x7_1, rfl, HA, HK1, BK507, BK508, HB⟩ := hrel
    cases gk with
    | zero => exact absurd HA.out (by simp [constableref01_Facts.l0])
    | succ k1 =>
     have H := HA.out
     clear HA
     simp only [constableref01_Facts.l0] at H
     by_cases c12 : x7_1 < (l0_1.length : Int)
     ·rw [if_pos c12] at H
      have c12b0 : decide (x7_1 < (l0_1.length : Int)) = true := decide_eq_true c12
      clear c12
      by_cases c13 : 0 ≤ x7_1
      ·rw [if_pos c13] at H
       have c13b0 : decide (0 ≤ x7_1) = true := decide_eq_true c13
       clear c13
       by_cases c14 : x7_1 < (l1_1.length : Int)
       ·rw [if_pos c14] at H
        have c14b0 : decide (x7_1 < (l1_1.length : Int)) = true := decide_eq_true c14
        clear c14
        replace H := Option.bind_eq_some_iff.mp H
        obtain ⟨t513, A150, H⟩ := H
        replace H : (if t513 = 0 then (constableref01_Facts.l0 k1 (wrap64 (x7_1 + 1)) a0_0 l0_1 a1_0 l1_1) else (some t513)) = some r := H
        have A15 := Aside0.mk A150
        clear A150
        by_cases c16 : t513 = 0
        ·rw [if_pos c16] at H
         have c16b0 : (t513 == 0) = true := beq_iff_eq.mpr c16
         have c16b1 : (t513 != 0) = false := bne_eq_false_iff_eq.mpr c16
         clear c16
         have H' := Aside0.mk H
         clear H
         have hnb17 := NB507_508.out
         have hnc17 := NB508_507.out
         have hcz18_0 : wr.cell? ⟨gb507, 0, none⟩ = some (.string a0_0) := (blk_cell BK507.out 0).trans rfl
         have hcz18_1 : wr.cell? ⟨gb507, 1, none⟩ = some (.slice A0_1 l0_1.length c0_1) := (blk_cell BK507.out 1).trans rfl
         have hfz18_0 := blk_frozen BK507.out 0
         have hfz18_1 := blk_frozen BK507.out 1
         try go_wp2
         have n0_ := Aside0.mk (blk_drew BK507.out)
         have n1_ := Aside0.mk (blk_drew BK508.out)
         have n2_ := Aside0.mk (below_drew1 HB.out)
         clear BK507
         clear BK508
         clear HB
         have BK507 := n0_
         have BK508 := n1_
         have HB := n2_
         clear n0_ n1_ n2_
         have p511 : 0 ≤ (x7_1 : Int) := of_decide_eq_true (by first | (with_reducible assumption) | assumption)
         have q511 : x7_1 < (l0_1.length : Int) := of_decide_eq_true (by first | (with_reducible assumption) | assumption)
         obtain ⟨ad511, e511, hx511_0, hx511_1, hx511_2⟩ := at_T24 HR0_1.out x7_1 p511 q511
         have hw511_2 := hx511_2
         have hw511_1 := hx511_1
         have hw511_0 := hx511_0
         cases e511
         replace hx511_0 := (HB.out.cell (World.block_lt_of_cell? w _ hx511_0)).trans hx511_0
         replace hx511_1 := (HB.out.cell (World.block_lt_of_cell? w _ hx511_1)).trans hx511_1
         replace hx511_2 := (HB.out.cell (World.block_lt_of_cell? w _ hx511_2)).trans hx511_2
         replace p511 := eq_true p511
         replace q511 := eq_true q511
         have p512 : 0 ≤ (x7_1 : Int) := of_decide_eq_true (by first | (with_reducible assumption) | assumption)
         have q512 : x7_1 < (l1_1.length : Int) := of_decide_eq_true (by first | (with_reducible assumption) | assumption)
         obtain ⟨ad512, e512, hx512_0, hx512_1, hx512_2⟩ := at_T24 HR1_1.out x7_1 p512 q512
         have hw512_2 := hx512_2
         have hw512_1 := hx512_1
         have hw512_0 := hx512_0
         cases e512
         replace hx512_0 := (HB.out.cell (World.block_lt_of_cell? w _ hx512_0)).trans hx512_0
         replace hx512_1 := (HB.out.cell (World.block_lt_of_cell? w _ hx512_1)).trans hx512_1
         replace hx512_2 := (HB.out.cell (World.block_lt_of_cell? w _ hx512_2)).trans hx512_2
         replace p512 := eq_true p512
         replace q512 := eq_true q512
         refine start_ (n := 12) (S := fun w' => w'.cell? ⟨gb507, 0, none⟩ = some (.string a0_0) ∧ w'.cell? ⟨gb507, 1, none⟩ = some (.slice (some ad511) l0_1.length c0_1) ∧ w'.cell? ⟨gb508, 0, none⟩ = some (.string a1_0) ∧ w'.cell? ⟨gb508, 1, none⟩ = some (.slice (some ad512) l1_1.length c1_1) ∧ w'.cell? (ad511.add ((x7_1).toNat * 3)) = some (.int .i64 ((rd_T24 l0_1 x7_1).f0)) ∧ w'.cell? ⟨(ad511.add ((x7_1).toNat * 3)).block, (ad511.add ((x7_1).toNat * 3)).off + 1, none⟩ = some (.int .i64 ((rd_T24 l0_1 x7_1).f1)) ∧ w'.cell? ⟨(ad511.add ((x7_1).toNat * 3)).block, (ad511.add ((x7_1).toNat * 3)).off + 2, none⟩ = some (.string ((rd_T24 l0_1 x7_1).f2)) ∧ w'.cell? (ad512.add ((x7_1).toNat * 3)) = some (.int .i64 ((rd_T24 l1_1 x7_1).f0)) ∧ w'.cell? ⟨(ad512.add ((x7_1).toNat * 3)).block, (ad512.add ((x7_1).toNat * 3)).off + 1, none⟩ = some (.int .i64 ((rd_T24 l1_1 x7_1).f1)) ∧ w'.cell? ⟨(ad512.add ((x7_1).toNat * 3)).block, (ad512.add ((x7_1).toNat * 3)).off + 2, none⟩ = some (.string ((rd_T24 l1_1 x7_1).f2))) (ds := []) #[false, false, false, false, false, false, false, false, false, false, false, false] (by kernel_rfl) rfl rfl ⟨(blk_cell BK507.out 0).trans rfl, (blk_cell BK507.out 1).trans rfl, (blk_cell BK508.out 0).trans rfl, (blk_cell BK508.out 1).trans rfl, ((HB.out.cell (World.block_lt_of_cell? w _ hw511_0)).trans hw511_0), ((HB.out.cell (World.block_lt_of_cell? w _ hw511_1)).trans hw511_1), ((HB.out.cell (World.block_lt_of_cell? w _ hw511_2)).trans hw511_2), ((HB.out.cell (World.block_lt_of_cell? w _ hw512_0)).trans hw512_0), ((HB.out.cell (World.block_lt_of_cell? w _ hw512_1)).trans hw512_1), ((HB.out.cell (World.block_lt_of_cell? w _ hw512_2)).trans hw512_2)⟩ (fun hHeld => ?_); refine with_tabW constableref01_Facts.tab10 constableref01_Facts.bits10 (fun HT_ HW_ => ?_)
         generalize wr.drew = w19 at BK507 BK508 HB hx511_0 hx511_1 hx511_2 hx512_0 hx512_1 hx512_2 hHeld ⊢
         refine pQ (i := 0) (N := some 34) (bb 12 1) ?_
         refine pQ (i := 2) (N := some 36) (bb 12 5) ?_
         refine pQ (i := 5) (N := some 39) (bb 12 37) ?_
         refine pQ (i := 7) (N := some 41) (bb 12 165) ?_
         refine tQ10 (i := 1) (N := some 35) (bb 12 167) hHeld ?_
         refine pQ (i := 3) (N := some 37) (bb 12 175) ?_
         refine tQ10 (i := 4) (N := some 38) (bb 12 191) hHeld ?_
         refine tQ10 (i := 6) (N := some 40) (bb 12 255) hHeld ?_
         refine pQ (i := 8) (N := some 42) (bb 12 511) ?_
         refine tQ10 (i := 9) (N := some 43) (bb 12 1023) hHeld ?_
         refine one_ (i := 10) (N := some 44) (bb 12 2047) rfl rfl (one_of HT_.out (by kernel_rfl)) (by decide) (fun K hK => ?_)
         refine goes_ Try.func98 (by kernel_rfl) rfl #[.agg #[.int .i64 ((rd_T24 l0_1 x7_1).f0), .int .i64 ((rd_T24 l0_1 x7_1).f1), .string ((rd_T24 l0_1 x7_1).f2)], .agg #[.int .i64 ((rd_T24 l1_1 x7_1).f0), .int .i64 ((rd_T24 l1_1 x7_1).f1), .string ((rd_T24 l1_1 x7_1).f2)]] (by rfl) rfl rfl aG ?_
         with_reducible refine (constableref01_Values.calls k1 ((rd_T24 l0_1 x7_1).f0) ((rd_T24 l0_1 x7_1).f1) ((rd_T24 l0_1 x7_1).f2) ((rd_T24 l1_1 x7_1).f0) ((rd_T24 l1_1 x7_1).f1) ((rd_T24 l1_1 x7_1).f2) t513 _ A15.out).mono ?_
         rintro e w20 ⟨rfl, hb⟩
         refine ⟨_, rfl, ?_⟩
         have n0_ := Aside0.mk (blk_below (g := gb507) (o := .cells #[.string a0_0, .slice (some ad511) l0_1.length c0_1] 53 (0, 0)) (by refine bk ?_; exact BK507.out) hb)
         have n1_ := Aside0.mk (blk_below (g := gb508) (o := .cells #[.string a1_0, .slice (some ad512) l1_1.length c1_1] 53 (0, 0)) (by refine bk ?_; exact BK508.out) hb)
         have n2_ := Aside0.mk (below_step (bB2 GE507.out GE508.out) hb)
         clear BK507
         clear BK508
         clear HB
         have BK507 := n0_
         have BK508 := n1_
         have HB := n2_
         clear n0_ n1_ n2_
         (try clear hb)
         (try clear hb2)
         (try clear hk)
         (try clear hi)
         refine hK.out _ _ ⟨(blk_cell BK507.out 0).trans rfl, (blk_cell BK507.out 1).trans rfl, (blk_cell BK508.out 0).trans rfl, (blk_cell BK508.out 1).trans rfl, ((HB.out.cell (World.block_lt_of_cell? w _ hw511_0)).trans hw511_0), ((HB.out.cell (World.block_lt_of_cell? w _ hw511_1)).trans hw511_1), ((HB.out.cell (World.block_lt_of_cell? w _ hw511_2)).trans hw511_2), ((HB.out.cell (World.block_lt_of_cell? w _ hw512_0)).trans hw512_0), ((HB.out.cell (World.block_lt_of_cell? w _ hw512_1)).trans hw512_1), ((HB.out.cell (World.block_lt_of_cell? w _ hw512_2)).trans hw512_2)⟩ (fun hHeld => ?_)
         clear hK K
         refine norm_ (a' := ?_) ?_ ?_
         rotate_left
         ·show Act.put _ (some 44) _ = _
          simp only [Act.put, List.setIfInBounds_toArray, List.set_cons_zero, List.set_cons_succ, i64_w, i32_w]
          rfl
         refine pQ (i := 11) (N := some 8) (bb 12 4095) ?_
         refine done_ (done_of HT_.out (by kernel_rfl)) ?_
         try go_wp2
         go_roundg k1
         case measure => have := HK1.out; omega
         case rel => exact ⟨(wrap64 (x7_1 + 1)), (by first | rfl | (simp; done) | (simp [*]; done)), H', ⟨by have := HK1.out; omega⟩, ⟨by refine bk ?_; exact BK507.out⟩, ⟨by refine bk ?_; exact BK508.out⟩, ⟨(bB2 GE507.out GE508.out)⟩⟩
        ·rw [if_neg c16] at H
         have c16b0 : (t513 == 0) = false := beq_eq_false_iff_ne.mpr c16
         have c16b1 : (t513 != 0) = true := bne_iff_ne.mpr c16
         obtain rfl := Option.some.inj H
         have hnb21 := NB507_508.out
         have hnc21 := NB508_507.out
         have hcz22_0 : wr.cell? ⟨gb507, 0, none⟩ = some (.string a0_0) := (blk_cell BK507.out 0).trans rfl
         have hcz22_1 : wr.cell? ⟨gb507, 1, none⟩ = some (.slice A0_1 l0_1.length c0_1) := (blk_cell BK507.out 1).trans rfl
         have hfz22_0 := blk_frozen BK507.out 0
         have hfz22_1 := blk_frozen BK507.out 1
         try go_wp2
         have n0_ := Aside0.mk (blk_drew BK507.out)
         have n1_ := Aside0.mk (blk_drew BK508.out)
         have n2_ := Aside0.mk (below_drew1 HB.out)
         clear BK507
         clear BK508
         clear HB
         have BK507 := n0_
         have BK508 := n1_
         have HB := n2_
         clear n0_ n1_ n2_
         have p511 : 0 ≤ (x7_1 : Int) := of_decide_eq_true (by first | (with_reducible assumption) | assumption)
         have q511 : x7_1 < (l0_1.length : Int) := of_decide_eq_true (by first | (with_reducible assumption) | assumption)
         obtain ⟨ad511, e511, hx511_0, hx511_1, hx511_2⟩ := at_T24 HR0_1.out x7_1 p511 q511
         have hw511_2 := hx511_2
         have hw511_1 := hx511_1
         have hw511_0 := hx511_0
         cases e511
         replace hx511_0 := (HB.out.cell (World.block_lt_of_cell? w _ hx511_0)).trans hx511_0
         replace hx511_1 := (HB.out.cell (World.block_lt_of_cell? w _ hx511_1)).trans hx511_1
         replace hx511_2 := (HB.out.cell (World.block_lt_of_cell? w _ hx511_2)).trans hx511_2
         replace p511 := eq_true p511
         replace q511 := eq_true q511
         have p512 : 0 ≤ (x7_1 : Int) := of_decide_eq_true (by first | (with_reducible assumption) | assumption)
         have q512 : x7_1 < (l1_1.length : Int) := of_decide_eq_true (by first | (with_reducible assumption) | assumption)
         obtain ⟨ad512, e512, hx512_0, hx512_1, hx512_2⟩ := at_T24 HR1_1.out x7_1 p512 q512
         have hw512_2 := hx512_2
         have hw512_1 := hx512_1
         have hw512_0 := hx512_0
         cases e512
         replace hx512_0 := (HB.out.cell (World.block_lt_of_cell? w _ hx512_0)).trans hx512_0
         replace hx512_1 := (HB.out.cell (World.block_lt_of_cell? w _ hx512_1)).trans hx512_1
         replace hx512_2 := (HB.out.cell (World.block_lt_of_cell? w _ hx512_2)).trans hx512_2
         replace p512 := eq_true p512
         replace q512 := eq_true q512
         refine start_ (n := 12) (S := fun w' => w'.cell? ⟨gb507, 0, none⟩ = some (.string a0_0) ∧ w'.cell? ⟨gb507, 1, none⟩ = some (.slice (some ad511) l0_1.length c0_1) ∧ w'.cell? ⟨gb508, 0, none⟩ = some (.string a1_0) ∧ w'.cell? ⟨gb508, 1, none⟩ = some (.slice (some ad512) l1_1.length c1_1) ∧ w'.cell? (ad511.add ((x7_1).toNat * 3)) = some (.int .i64 ((rd_T24 l0_1 x7_1).f0)) ∧ w'.cell? ⟨(ad511.add ((x7_1).toNat * 3)).block, (ad511.add ((x7_1).toNat * 3)).off + 1, none⟩ = some (.int .i64 ((rd_T24 l0_1 x7_1).f1)) ∧ w'.cell? ⟨(ad511.add ((x7_1).toNat * 3)).block, (ad511.add ((x7_1).toNat * 3)).off + 2, none⟩ = some (.string ((rd_T24 l0_1 x7_1).f2)) ∧ w'.cell? (ad512.add ((x7_1).toNat * 3)) = some (.int .i64 ((rd_T24 l1_1 x7_1).f0)) ∧ w'.cell? ⟨(ad512.add ((x7_1).toNat * 3)).block, (ad512.add ((x7_1).toNat * 3)).off + 1, none⟩ = some (.int .i64 ((rd_T24 l1_1 x7_1).f1)) ∧ w'.cell? ⟨(ad512.add ((x7_1).toNat * 3)).block, (ad512.add ((x7_1).toNat * 3)).off + 2, none⟩ = some (.string ((rd_T24 l1_1 x7_1).f2))) (ds := []) #[false, false, false, false, false, false, false, false, false, false, false, false] (by kernel_rfl) rfl rfl ⟨(blk_cell BK507.out 0).trans rfl, (blk_cell BK507.out 1).trans rfl, (blk_cell BK508.out 0).trans rfl, (blk_cell BK508.out 1).trans rfl, ((HB.out.cell (World.block_lt_of_cell? w _ hw511_0)).trans hw511_0), ((HB.out.cell (World.block_lt_of_cell? w _ hw511_1)).trans hw511_1), ((HB.out.cell (World.block_lt_of_cell? w _ hw511_2)).trans hw511_2), ((HB.out.cell (World.block_lt_of_cell? w _ hw512_0)).trans hw512_0), ((HB.out.cell (World.block_lt_of_cell? w _ hw512_1)).trans hw512_1), ((HB.out.cell (World.block_lt_of_cell? w _ hw512_2)).trans hw512_2)⟩ (fun hHeld => ?_); refine with_tabW constableref01_Facts.tab10 constableref01_Facts.bits10 (fun HT_ HW_ => ?_)
         generalize wr.drew = w23 at BK507 BK508 HB hx511_0 hx511_1 hx511_2 hx512_0 hx512_1 hx512_2 hHeld ⊢
         refine pQ (i := 0) (N := some 34) (bb 12 1) ?_
         refine pQ (i := 2) (N := some 36) (bb 12 5) ?_
         refine pQ (i := 5) (N := some 39) (bb 12 37) ?_
         refine pQ (i := 7) (N := some 41) (bb 12 165) ?_
         refine tQ10 (i := 1) (N := some 35) (bb 12 167) hHeld ?_
         refine pQ (i := 3) (N := some 37) (bb 12 175) ?_
         refine tQ10 (i := 4) (N := some 38) (bb 12 191) hHeld ?_
         refine tQ10 (i := 6) (N := some 40) (bb 12 255) hHeld ?_
         refine pQ (i := 8) (N := some 42) (bb 12 511) ?_
         refine tQ10 (i := 9) (N := some 43) (bb 12 1023) hHeld ?_
         refine one_ (i := 10) (N := some 44) (bb 12 2047) rfl rfl (one_of HT_.out (by kernel_rfl)) (by decide) (fun K hK => ?_)
         refine goes_ Try.func98 (by kernel_rfl) rfl #[.agg #[.int .i64 ((rd_T24 l0_1 x7_1).f0), .int .i64 ((rd_T24 l0_1 x7_1).f1), .string ((rd_T24 l0_1 x7_1).f2)], .agg #[.int .i64 ((rd_T24 l1_1 x7_1).f0), .int .i64 ((rd_T24 l1_1 x7_1).f1), .string ((rd_T24 l1_1 x7_1).f2)]] (by rfl) rfl rfl aG ?_
         with_reducible refine (constableref01_Values.calls k1 ((rd_T24 l0_1 x7_1).f0) ((rd_T24 l0_1 x7_1).f1) ((rd_T24 l0_1 x7_1).f2) ((rd_T24 l1_1 x7_1).f0) ((rd_T24 l1_1 x7_1).f1) ((rd_T24 l1_1 x7_1).f2) t513 _ A15.out).mono ?_
         rintro e w24 ⟨rfl, hb⟩
         refine ⟨_, rfl, ?_⟩
         have n0_ := Aside0.mk (blk_below (g := gb507) (o := .cells #[.string a0_0, .slice (some ad511) l0_1.length c0_1] 53 (0, 0)) (by refine bk ?_; exact BK507.out) hb)
         have n1_ := Aside0.mk (blk_below (g := gb508) (o := .cells #[.string a1_0, .slice (some ad512) l1_1.length c1_1] 53 (0, 0)) (by refine bk ?_; exact BK508.out) hb)
         have n2_ := Aside0.mk (below_step (bB2 GE507.out GE508.out) hb)
         clear BK507
         clear BK508
         clear HB
         have BK507 := n0_
         have BK508 := n1_
         have HB := n2_
         clear n0_ n1_ n2_
         (try clear hb)
         (try clear hb2)
         (try clear hk)
         (try clear hi)
         refine hK.out _ _ ⟨(blk_cell BK507.out 0).trans rfl, (blk_cell BK507.out 1).trans rfl, (blk_cell BK508.out 0).trans rfl, (blk_cell BK508.out 1).trans rfl, ((HB.out.cell (World.block_lt_of_cell? w _ hw511_0)).trans hw511_0), ((HB.out.cell (World.block_lt_of_cell? w _ hw511_1)).trans hw511_1), ((HB.out.cell (World.block_lt_of_cell? w _ hw511_2)).trans hw511_2), ((HB.out.cell (World.block_lt_of_cell? w _ hw512_0)).trans hw512_0), ((HB.out.cell (World.block_lt_of_cell? w _ hw512_1)).trans hw512_1), ((HB.out.cell (World.block_lt_of_cell? w _ hw512_2)).trans hw512_2)⟩ (fun hHeld => ?_)
         clear hK K
         refine norm_ (a' := ?_) ?_ ?_
         rotate_left
         ·show Act.put _ (some 44) _ = _
          simp only [Act.put, List.setIfInBounds_toArray, List.set_cons_zero, List.set_cons_succ, i64_w, i32_w]
          rfl
         refine pQ (i := 11) (N := some 8) (bb 12 4095) ?_
         refine done_ (done_of HT_.out (by kernel_rfl)) ?_
         try go_wp2
         go_ret
         exact ⟨eW, (bB2 GE507.out GE508.out)⟩
       ·rw [if_neg c14] at H
        exact absurd H (by simp)
      ·rw [if_neg c13] at H
       exact absurd H (by simp)
     ·rw [if_neg c12] at H
      have c12b0 : decide (x7_1 < (l0_1.length : Int)) = false := decide_eq_false c12
      clear c12
      obtain rfl := Option.some.inj H
      have hnb25 := NB507_508.out
      have hnc25 := NB508_507.out
      have hcz26_0 : wr.cell? ⟨gb507, 0, none⟩ = some (.string a0_0) := (blk_cell BK507.out 0).trans rfl
      have hcz26_1 : wr.cell? ⟨gb507, 1, none⟩ = some (.slice A0_1 l0_1.length c0_1) := (blk_cell BK507.out 1).trans rfl
      have hfz26_0 := blk_frozen BK507.out 0
      have hfz26_1 := blk_frozen BK507.out 1
      go_wp2
      go_ret
      exact ⟨eW, (bB2 GE507.out GE508.out)⟩
  ·rw [if_neg c6] at H
   have c6b0 : (t510 == 0) = false := beq_eq_false_iff_ne.mpr c6
   have c6b1 : (t510 != 0) = true := bne_iff_ne.mpr c6
   obtain rfl := Option.some.inj H
   go_enter Try.func73, Try.ntmps73
   go_wp2_with (first | ((with_reducible refine gate_dst (N := 2) rfl ?_); refine bE (N := 2) (cs := #[.string a0_0, .slice A0_1 l0_1.length c0_1]) (t := 53) ?_; intro gb507 hg w27 hbox hb; have n0_ := Aside0.mk (below_step bB0 hb); have n1_ := Aside0.mk (hbox); have n2_ := Aside0.mk ((by rw [hg]; exact (below_size bB0) : w.heap.size ≤ gb507)); have n3_ := Aside0.mk ((by rw [hg]; exact (below_size bB0) : w.heap.size ≤ gb507)); clear HB; have HB := n0_; have BK507 := n1_; have GW507 := n2_; have GE507 := n3_; clear n0_ n1_ n2_ n3_; clear hb hbox hg) | ((with_reducible refine gate_dst (N := 3) rfl ?_); refine bE (N := 3) (cs := #[.string a1_0, .slice A1_1 l1_1.length c1_1]) (t := 53) ?_; intro gb508 hg w28 hbox hb; have n0_ := Aside0.mk (blk_below (g := gb507) (o := .cells #[.string a0_0, .slice A0_1 l0_1.length c0_1] 53 (0, 0)) (by refine bk ?_; exact BK507.out) hb); have n1_ := Aside0.mk (below_step (bB1 GE507.out) hb); have n2_ := Aside0.mk (hbox); have n3_ := Aside0.mk ((by rw [hg]; exact (below_size (bB1 GE507.out)) : w.heap.size ≤ gb508)); have n4_ := Aside0.mk ((by rw [hg]; exact (below_size (bB1 GE507.out)) : w.heap.size ≤ gb508)); have n5_ := Aside0.mk ((by rw [hg]; exact Nat.ne_of_lt (blk_lt (g := gb507) (o := .cells #[.string a0_0, .slice A0_1 l0_1.length c0_1] 53 (0, 0)) (by refine bk ?_; exact BK507.out)) : gb507 ≠ gb508)); have n6_ := Aside0.mk ((by rw [hg]; exact Nat.ne_of_gt (blk_lt (g := gb507) (o := .cells #[.string a0_0, .slice A0_1 l0_1.length c0_1] 53 (0, 0)) (by refine bk ?_; exact BK507.out)) : gb508 ≠ gb507)); clear BK507; clear HB; have BK507 := n0_; have HB := n1_; have BK508 := n2_; have GW508 := n3_; have GE508 := n4_; have NB507_508 := n5_; have NB508_507 := n6_; clear n0_ n1_ n2_ n3_ n4_ n5_ n6_; clear hb hbox hg; have hnb29 := NB507_508.out; have hnc29 := NB508_507.out; have hcz30_0 : w28.cell? ⟨gb507, 0, none⟩ = some (.string a0_0) := (blk_cell BK507.out 0).trans rfl; have hcz30_1 : w28.cell? ⟨gb507, 1, none⟩ = some (.slice A0_1 l0_1.length c0_1) := (blk_cell BK507.out 1).trans rfl; have hfz30_0 := blk_frozen BK507.out 0; have hfz30_1 := blk_frozen BK507.out 1; have hcz31_0 : w28.cell? ⟨gb508, 0, none⟩ = some (.string a1_0) := (blk_cell BK508.out 0).trans rfl; have hcz31_1 : w28.cell? ⟨gb508, 1, none⟩ = some (.slice A1_1 l1_1.length c1_1) := (blk_cell BK508.out 1).trans rfl; have hfz31_0 := blk_frozen BK508.out 0; have hfz31_1 := blk_frozen BK508.out 1) | ((with_reducible refine gate_callee (f := 67) rfl ?_); refine goesL_ (some 13) rfl rfl Try.func67 (by kernel_rfl) rfl #[.string a0_0, .string a1_0] rfl aG ?_; (with_reducible refine (constableref01_Strings.calls k a0_0 a1_0 t509 _ A3.out).mono ?_); rintro e w' ⟨rfl, ⟨nd, rfl⟩⟩; refine ⟨_, rfl, ?_⟩) | ((with_reducible refine gate_callee (f := 92) rfl ?_); refine goesL_ (some 23) rfl rfl Try.func92 (by kernel_rfl) rfl #[.int .i64 (l0_1.length : Int), .int .i64 (l1_1.length : Int)] rfl aG ?_; (with_reducible refine (constableref01_order.calls (l0_1.length : Int) (l1_1.length : Int) t510 _ A5.out).mono ?_); rintro e w' ⟨rfl, ⟨nd, rfl⟩⟩; refine ⟨_, rfl, ?_⟩))
   go_ret
   exact ⟨eW, (bB2 GE507.out GE508.out)⟩
 ·rw [if_neg c4] at H
  have c4b0 : (t509 == 0) = false := beq_eq_false_iff_ne.mpr c4
  have c4b1 : (t509 != 0) = true := bne_iff_ne.mpr c4
  obtain rfl := Option.some.inj H
  go_enter Try.func73, Try.ntmps73
  go_wp2_with (first | ((with_reducible refine gate_dst (N := 2) rfl ?_); refine bE (N := 2) (cs := #[.string a0_0, .slice A0_1 l0_1.length c0_1]) (t := 53) ?_; intro gb507 hg w32 hbox hb; have n0_ := Aside0.mk (below_step bB0 hb); have n1_ := Aside0.mk (hbox); have n2_ := Aside0.mk ((by rw [hg]; exact (below_size bB0) : w.heap.size ≤ gb507)); have n3_ := Aside0.mk ((by rw [hg]; exact (below_size bB0) : w.heap.size ≤ gb507)); clear HB; have HB := n0_; have BK507 := n1_; have GW507 := n2_; have GE507 := n3_; clear n0_ n1_ n2_ n3_; clear hb hbox hg) | ((with_reducible refine gate_dst (N := 3) rfl ?_); refine bE (N := 3) (cs := #[.string a1_0, .slice A1_1 l1_1.length c1_1]) (t := 53) ?_; intro gb508 hg w33 hbox hb; have n0_ := Aside0.mk (blk_below (g := gb507) (o := .cells #[.string a0_0, .slice A0_1 l0_1.length c0_1] 53 (0, 0)) (by refine bk ?_; exact BK507.out) hb); have n1_ := Aside0.mk (below_step (bB1 GE507.out) hb); have n2_ := Aside0.mk (hbox); have n3_ := Aside0.mk ((by rw [hg]; exact (below_size (bB1 GE507.out)) : w.heap.size ≤ gb508)); have n4_ := Aside0.mk ((by rw [hg]; exact (below_size (bB1 GE507.out)) : w.heap.size ≤ gb508)); have n5_ := Aside0.mk ((by rw [hg]; exact Nat.ne_of_lt (blk_lt (g := gb507) (o := .cells #[.string a0_0, .slice A0_1 l0_1.length c0_1] 53 (0, 0)) (by refine bk ?_; exact BK507.out)) : gb507 ≠ gb508)); have n6_ := Aside0.mk ((by rw [hg]; exact Nat.ne_of_gt (blk_lt (g := gb507) (o := .cells #[.string a0_0, .slice A0_1 l0_1.length c0_1] 53 (0, 0)) (by refine bk ?_; exact BK507.out)) : gb508 ≠ gb507)); clear BK507; clear HB; have BK507 := n0_; have HB := n1_; have BK508 := n2_; have GW508 := n3_; have GE508 := n4_; have NB507_508 := n5_; have NB508_507 := n6_; clear n0_ n1_ n2_ n3_ n4_ n5_ n6_; clear hb hbox hg; have hnb34 := NB507_508.out; have hnc34 := NB508_507.out; have hcz35_0 : w33.cell? ⟨gb507, 0, none⟩ = some (.string a0_0) := (blk_cell BK507.out 0).trans rfl; have hcz35_1 : w33.cell? ⟨gb507, 1, none⟩ = some (.slice A0_1 l0_1.length c0_1) := (blk_cell BK507.out 1).trans rfl; have hfz35_0 := blk_frozen BK507.out 0; have hfz35_1 := blk_frozen BK507.out 1; have hcz36_0 : w33.cell? ⟨gb508, 0, none⟩ = some (.string a1_0) := (blk_cell BK508.out 0).trans rfl; have hcz36_1 : w33.cell? ⟨gb508, 1, none⟩ = some (.slice A1_1 l1_1.length c1_1) := (blk_cell BK508.out 1).trans rfl; have hfz36_0 := blk_frozen BK508.out 0; have hfz36_1 := blk_frozen BK508.out 1) | ((with_reducible refine gate_callee (f := 67) rfl ?_); refine goesL_ (some 13) rfl rfl Try.func67 (by kernel_rfl) rfl #[.string a0_0, .string a1_0] rfl aG ?_; (with_reducible refine (constableref01_Strings.calls k a0_0 a1_0 t509 _ A3.out).mono ?_); rintro e w' ⟨rfl, ⟨nd, rfl⟩⟩; refine ⟨_, rfl, ?_⟩))
  go_ret
  exact ⟨eW, (bB2 GE507.out GE508.out)⟩

end Go.Proofs.Ytghommaokdhjmaa.P
namespace Go.Proofs.Ytghommaokdhjmaa.P
open Go.RowKit Go.Proofs.YtghommaokdhjmaaW.PrintWords Go.Proofs.YtghommaokdhjmaaW.PrintLast Go.Proofs.Ytghommaokdhjmaa.Gate
set_option linter.unusedVariables false
set_option linter.unusedSimpArgs false

/-! ### constableref01_Set: function 37 -/
def constableref01_Set.l0 : Nat → List (S53) → Int → Option (Bool)
 | 0, _, _ => none
 | k + 1, x0, x3 => if x3 < (x0.length : Int) then (if 0 ≤ x3 then ((constableref01_Fact.f k ((rd_T53 x0 x3).f0) ((rd_T53 x0 x3).f1)).bind fun t515 => (if t515 = true then (if x3 > 0 then (if 0 ≤ (wrap64 (x3 - 1)) then (if (wrap64 (x3 - 1)) < (x0.length : Int) then ((constableref01_Facts.f k ((rd_T53 x0 (wrap64 (x3 - 1))).f0) ((rd_T53 x0 (wrap64 (x3 - 1))).f1) ((rd_T53 x0 x3).f0) ((rd_T53 x0 x3).f1)).bind fun t518 => (if t518 ≥ 0 then (some false) else (constableref01_Set.l0 k x0 (wrap64 (x3 + 1))))) else (none)) else (none)) else (constableref01_Set.l0 k x0 (wrap64 (x3 + 1)))) else (some false))) else (none)) else (some true)
def constableref01_Set.f (k : Nat) (l0 : List (S53)) : Option (Bool) := constableref01_Set.l0 k l0 0
theorem constableref01_Set.mono_l : ∀ k, (∀ y0 y1, LeO (constableref01_Set.l0 k y0 y1) (constableref01_Set.l0 (k + 1) y0 y1))
 | 0 => fun _ _ r h => by simp [constableref01_Set.l0] at h
 | k + 1 => by
  have ih0 := constableref01_Set.mono_l k
  ·intro y0 y1
   unfold constableref01_Set.l0
   repeat' first
   | (with_reducible exact ih0 _ _)
   | (with_reducible exact constableref01_Fact.mono _ _ _)
   | (with_reducible exact constableref01_Facts.mono _ _ _ _ _)
   | (with_reducible exact LeO.refl _)
   | (with_reducible exact LeO.none _)
   | (with_reducible refine LeO.ite ?_ ?_)
   | (with_reducible refine LeO.bind ?_ (fun _ => ?_))
theorem constableref01_Set.mono : ∀ a0 k, LeO (constableref01_Set.f k a0) (constableref01_Set.f (k + 1) a0) := by
 intro a0 k
 have ih0 := constableref01_Set.mono_l k
 unfold constableref01_Set.f
 repeat' first
   | (with_reducible exact ih0 _ _)
   | (with_reducible exact constableref01_Fact.mono _ _ _)
   | (with_reducible exact constableref01_Facts.mono _ _ _ _ _)
   | (with_reducible exact LeO.refl _)
   | (with_reducible exact LeO.none _)
   | (with_reducible refine LeO.ite ?_ ?_)
   | (with_reducible refine LeO.bind ?_ (fun _ => ?_))
def constableref01_Set.T4 : Bool × List (List Nat × List Nat) := (true, [([], []), ([], []), ([0, 1], [0, 1]), ([2], [2]), ([3], [3]), ([4], [4]), ([5, 4], [5]), ([6], [6]), ([7, 6], [6, 7]), ([8, 6, 6], [6, 8]), ([9], [9]), ([9], [9]), ([11, 9], [9, 11]), ([10, 12, 9], [9, 10, 12]), ([13, 9], [9, 13]), ([9], [9]), ([9], [9]), ([15, 16, 9], [9, 15, 16]), ([17, 9], [9, 17]), ([14, 18, 9, 9], [9, 14, 18]), ([19, 9], [9, 19]), ([9, 20, 6], [6, 9, 20]), ([6, 21], [6, 21])])
def constableref01_Set.B4 : List Nat := [0, 0, 3, 7, 15, 31, 63, 127, 255, 511, 1023, 1023, 3071, 8191, 16383, 1023, 1023, 99327, 230399, 524287, 1048575, 2097151, 4194303]
theorem constableref01_Set.tab4 : rtab .any (opsOf Try.f37 4) = constableref01_Set.T4 := by kernel_rfl
theorem constableref01_Set.bits4 : waitsOk constableref01_Set.T4.2 constableref01_Set.B4 = true := by kernel_rfl
set_option maxHeartbeats 8000000 in
set_option maxRecDepth 100000 in
theorem constableref01_Set.calls (k : Nat) (A0 : Option Addr) (c0 : Nat) (l0 : List (S53)) (r : Bool) (w : World) (hr0 : Kd.C k53 w A0 l0.length l0) (hc0 : l0.length ≤ c0) (h : constableref01_Set.f k l0 = some r) :
  Calls Try.prog 37 #[.slice A0 l0.length c0] w fun e w' => e = .returned (.bool r) ∧ Below w.heap.size w w' := by
 have hu53 := Try.underlying53
 have HR0 := Aside0.mk hr0
 have HC0 := Aside0.mk hc0
 clear hr0 hc0
 have HB := Aside0.mk (Below.refl w.heap.size w)
 have H : (constableref01_Set.l0 k l0 0) = some r := h
 clear h
 have H' := Aside0.mk H
 clear H
 go_enter Try.func37, Try.ntmps37
 go_wp2
 go_loopg [3] k (fun kq v3 w' => ∃ (x3_1 : Int), v3 = .int .i64 x3_1 ∧ Aside0 (constableref01_Set.l0 kq l0 x3_1 = some r) ∧ Aside0 (kq ≤ k) ∧ Aside0 (Below w.heap.size w w'))
 case atStart => exact ⟨(0), (by first | rfl | (simp; done) | (simp [*]; done)), H', ⟨Nat.le_refl _⟩, ⟨bB0⟩⟩
 case round =>
  clear H'
  obtain ⟨x3_1, rfl, HA, HK1, HB⟩ := hrel
  cases gk with
  | zero => exact absurd HA.out (by simp [constableref01_Set.l0])
  | succ k1 =>
   have H := HA.out
   clear HA
   simp only [constableref01_Set.l0] at H
   by_cases c2 : x3_1 < (l0.length : Int)
   ·rw [if_pos c2] at H
    have c2b0 : decide (x3_1 < (l0.length : Int)) = true := decide_eq_true c2
    clear c2
    by_cases c3 : 0 ≤ x3_1
    ·rw [if_pos c3] at H
     have c3b0 : decide (0 ≤ x3_1) = true := decide_eq_true c3
     clear c3
     replace H := Option.bind_eq_some_iff.mp H
     obtain ⟨t515, A40, H⟩ := H
     replace H : (if t515 = true then (if x3_1 > 0 then (if 0 ≤ (wrap64 (x3_1 - 1)) then (if (wrap64 (x3_1 - 1)) < (l0.length : Int) then ((constableref01_Facts.f k1 ((rd_T53 l0 (wrap64 (x3_1 - 1))).f0) ((rd_T53 l0 (wrap64 (x3_1 - 1))).f1) ((rd_T53 l0 x3_1).f0) ((rd_T53 l0 x3_1).f1)).bind fun t518 => (if t518 ≥ 0 then (some false) else (constableref01_Set.l0 k1 l0 (wrap64 (x3_1 + 1))))) else (none)) else (none)) else (constableref01_Set.l0 k1 l0 (wrap64 (x3_1 + 1)))) else (some false)) = some r := H
     have A4 := Aside0.mk A40
     clear A40
     by_cases c5 : t515 = true
     ·subst c5
      have H1 : (if x3_1 > 0 then (if 0 ≤ (wrap64 (x3_1 - 1)) then (if (wrap64 (x3_1 - 1)) < (l0.length : Int) then ((constableref01_Facts.f k1 ((rd_T53 l0 (wrap64 (x3_1 - 1))).f0) ((rd_T53 l0 (wrap64 (x3_1 - 1))).f1) ((rd_T53 l0 x3_1).f0) ((rd_T53 l0 x3_1).f1)).bind fun t518 => (if t518 ≥ 0 then (some false) else (constableref01_Set.l0 k1 l0 (wrap64 (x3_1 + 1))))) else (none)) else (none)) else (constableref01_Set.l0 k1 l0 (wrap64 (x3_1 + 1)))) = some r := by rw [if_pos rfl] at H; exact H
      clear H
      have H := H1
      clear H1
      by_cases c6 : x3_1 > 0
      ·rw [if_pos c6] at H
       have c6b0 : decide (0 < x3_1) = true := decide_eq_true c6
       clear c6
       obtain ⟨ji7, hji7⟩ : ∃ j_ : Int, (wrap64 (x3_1 - 1)) = j_ := ⟨_, rfl⟩
       replace H : (if 0 ≤ (ji7) then (if (ji7) < (l0.length : Int) then ((constableref01_Facts.f k1 ((rd_T53 l0 (ji7)).f0) ((rd_T53 l0 (ji7)).f1) ((rd_T53 l0 x3_1).f0) ((rd_T53 l0 x3_1).f1)).bind fun t518 => (if t518 ≥ 0 then (some false) else (constableref01_Set.l0 k1 l0 (wrap64 (x3_1 + 1))))) else (none)) else (none)) = some r := by first | (rw [hji7] at H; exact H) | (simp only [hji7] at H ⊢; exact H)
       (try rw [hji7] at A4)
       have hji7w : (IntKind.i64.wrap (x3_1 - 1)) = ji7 := (i64_w _).trans hji7
       by_cases c8 : 0 ≤ (ji7)
       ·rw [if_pos c8] at H
        have c8b0 : decide (0 ≤ (ji7)) = true := decide_eq_true c8
        clear c8
        by_cases c9 : (ji7) < (l0.length : Int)
        ·rw [if_pos c9] at H
         have c9b0 : decide ((ji7) < (l0.length : Int)) = true := decide_eq_true c9
         clear c9
         replace H := Option.bind_eq_some_iff.mp H
         obtain ⟨t518, A100, H⟩ := H
         replace H : (if t518 ≥ 0 then (some false) else (constableref01_Set.l0 k1 l0 (wrap64 (x3_1 + 1)))) = some r := H
         have A10 := Aside0.mk A100
         clear A100
         by_cases c11 : t518 ≥ 0
         ·rw [if_pos c11] at H
          have c11b0 : decide (0 ≤ t518) = true := decide_eq_true c11
          clear c11
          obtain rfl := Option.some.inj H
          try go_wp2
          have n0_ := Aside0.mk (below_drew1 HB.out)
          clear HB
          have HB := n0_
          clear n0_
          have p514 : 0 ≤ (x3_1 : Int) := of_decide_eq_true (by first | (with_reducible assumption) | assumption)
          have q514 : x3_1 < (l0.length : Int) := of_decide_eq_true (by first | (with_reducible assumption) | assumption)
          obtain ⟨ad514, A514_1, c514_1, e514, hx514_0, hx514_1, hl514_1, hi514_1⟩ := at_T53 HR0.out x3_1 p514 q514
          have hw514_1 := hx514_1
          have hw514_0 := hx514_0
          cases e514
          have HZ514_1 := Aside0.mk hx514_1
          replace hx514_0 := (HB.out.cell (World.block_lt_of_cell? w _ hx514_0)).trans hx514_0
          replace hx514_1 := (HB.out.cell (World.block_lt_of_cell? w _ hx514_1)).trans hx514_1
          have HR514_1 := Aside0.mk hi514_1
          have HC514_1 := Aside0.mk hl514_1
          clear hi514_1 hl514_1
          replace p514 := eq_true p514
          replace q514 := eq_true q514
          have p516 : 0 ≤ ((ji7) : Int) := of_decide_eq_true (by first | (with_reducible assumption) | assumption)
          have q516 : (ji7) < (l0.length : Int) := of_decide_eq_true (by first | (with_reducible assumption) | assumption)
          obtain ⟨ad516, A516_1, c516_1, e516, hx516_0, hx516_1, hl516_1, hi516_1⟩ := at_T53 HR0.out (ji7) p516 q516
          have hw516_1 := hx516_1
          have hw516_0 := hx516_0
          obtain rfl : ad514 = ad516 := (by injection e516)
          have HZ516_1 := Aside0.mk hx516_1
          replace hx516_0 := (HB.out.cell (World.block_lt_of_cell? w _ hx516_0)).trans hx516_0
          replace hx516_1 := (HB.out.cell (World.block_lt_of_cell? w _ hx516_1)).trans hx516_1
          have HR516_1 := Aside0.mk hi516_1
          have HC516_1 := Aside0.mk hl516_1
          clear hi516_1 hl516_1
          replace p516 := eq_true p516
          replace q516 := eq_true q516
          have p517 : 0 ≤ (x3_1 : Int) := of_decide_eq_true (by first | (with_reducible assumption) | assumption)
          have q517 : x3_1 < (l0.length : Int) := of_decide_eq_true (by first | (with_reducible assumption) | assumption)
          obtain ⟨ad517, A517_1, c517_1, e517, hx517_0, hx517_1, hl517_1, hi517_1⟩ := at_T53 HR0.out x3_1 p517 q517
          have hw517_1 := hx517_1
          have hw517_0 := hx517_0
          obtain rfl : ad514 = ad517 := (by injection e517)
          have ea_ := Option.some.inj (HZ514_1.out.symm.trans hx517_1)
          injection ea_ with ea_ en_ ec_
          subst ea_
          subst ec_
          clear en_
          replace hx517_0 := (HB.out.cell (World.block_lt_of_cell? w _ hx517_0)).trans hx517_0
          replace hx517_1 := (HB.out.cell (World.block_lt_of_cell? w _ hx517_1)).trans hx517_1
          have HR517_1 := Aside0.mk hi517_1
          have HC517_1 := Aside0.mk hl517_1
          clear hi517_1 hl517_1
          replace p517 := eq_true p517
          replace q517 := eq_true q517
          refine start_ (n := 23) (S := fun w' => w'.cell? (ad514.add ((x3_1).toNat * 2)) = some (.string ((rd_T53 l0 x3_1).f0)) ∧ w'.cell? ⟨(ad514.add ((x3_1).toNat * 2)).block, (ad514.add ((x3_1).toNat * 2)).off + 1, none⟩ = some (.slice A514_1 ((rd_T53 l0 x3_1).f1).length c514_1) ∧ w'.cell? (ad514.add (((ji7)).toNat * 2)) = some (.string ((rd_T53 l0 (ji7)).f0)) ∧ w'.cell? ⟨(ad514.add (((ji7)).toNat * 2)).block, (ad514.add (((ji7)).toNat * 2)).off + 1, none⟩ = some (.slice A516_1 ((rd_T53 l0 (ji7)).f1).length c516_1) ∧ w'.cell? (ad514.add ((x3_1).toNat * 2)) = some (.string ((rd_T53 l0 x3_1).f0)) ∧ w'.cell? ⟨(ad514.add ((x3_1).toNat * 2)).block, (ad514.add ((x3_1).toNat * 2)).off + 1, none⟩ = some (.slice A514_1 ((rd_T53 l0 x3_1).f1).length c514_1)) (ds := []) #[false, false, false, false, false, false, false, false, false, false, false, false, false, false, false, false, false, false, false, false, false, false, false] (by kernel_rfl) rfl rfl ⟨((HB.out.cell (World.block_lt_of_cell? w _ hw514_0)).trans hw514_0), ((HB.out.cell (World.block_lt_of_cell? w _ hw514_1)).trans hw514_1), ((HB.out.cell (World.block_lt_of_cell? w _ hw516_0)).trans hw516_0), ((HB.out.cell (World.block_lt_of_cell? w _ hw516_1)).trans hw516_1), ((HB.out.cell (World.block_lt_of_cell? w _ hw517_0)).trans hw517_0), ((HB.out.cell (World.block_lt_of_cell? w _ hw517_1)).trans hw517_1)⟩ (fun hHeld => ?_); refine with_tabW constableref01_Set.tab4 constableref01_Set.bits4 (fun HT_ HW_ => ?_)
          generalize wr.drew = w12 at HB HR514_1 HR516_1 HR517_1 hx514_0 hx514_1 hx516_0 hx516_1 hx517_0 hx517_1 hHeld ⊢
          refine pQ (i := 0) (N := some 10) (bb 23 1) ?_
          refine pQ (i := 1) (N := some 11) (bb 23 3) ?_
          refine pQ (i := 2) (N := some 12) (bb 23 7) ?_
          refine tQ6 (i := 3) (N := some 13) (bb 23 15) hHeld ?_
          refine one_ (i := 4) (N := some 14) (bb 23 31) rfl rfl (one_of HT_.out (by kernel_rfl)) (by decide) (fun K hK => ?_)
          refine goes_ Try.func38 (by kernel_rfl) rfl #[.agg #[.string ((rd_T53 l0 x3_1).f0), .slice A514_1 ((rd_T53 l0 x3_1).f1).length c514_1]] (by rfl) rfl rfl aG ?_
          with_reducible refine (constableref01_Fact.calls k1 ((rd_T53 l0 x3_1).f0) _ _ ((rd_T53 l0 x3_1).f1) true _ ?side1 ?side2 A4.out).mono ?_
          (case side1 => exact sC (Kd.C_below HR514_1.out HB.out))
          (case side2 => exact HC514_1.out)
          rintro e w13 ⟨rfl, hb⟩
          refine ⟨_, rfl, ?_⟩
          have n0_ := Aside0.mk (below_step bB0 hb)
          clear HB
          have HB := n0_
          clear n0_
          (try clear hb)
          (try clear hb2)
          (try clear hk)
          (try clear hi)
          refine hK.out _ _ ⟨((HB.out.cell (World.block_lt_of_cell? w _ hw514_0)).trans hw514_0), ((HB.out.cell (World.block_lt_of_cell? w _ hw514_1)).trans hw514_1), ((HB.out.cell (World.block_lt_of_cell? w _ hw516_0)).trans hw516_0), ((HB.out.cell (World.block_lt_of_cell? w _ hw516_1)).trans hw516_1), ((HB.out.cell (World.block_lt_of_cell? w _ hw517_0)).trans hw517_0), ((HB.out.cell (World.block_lt_of_cell? w _ hw517_1)).trans hw517_1)⟩ (fun hHeld => ?_)
          clear hK K
          refine norm_ (a' := ?_) ?_ ?_
          rotate_left
          ·show Act.put _ (some 14) _ = _
           simp only [Act.put, List.setIfInBounds_toArray, List.set_cons_zero, List.set_cons_succ, i64_w, i32_w]
           rfl
          refine pQ (i := 5) (N := some 15) (bb 23 63) ?_
          refine pQ (i := 6) (N := some 16) (bb 23 127) ?_
          refine pQ (i := 7) (N := some 17) (bb 23 255) ?_
          refine pQ (i := 8) (N := some 18) (bb 23 511) ?_
          refine pQ (i := 9) (N := some 19) (bb 23 1023) ?_
          refine pQ (i := 10) (N := some 20) (bb 23 2047) ?_
          refine pQ (i := 11) (N := some 21) (bb 23 4095) ?_
          refine pQ (i := 12) (N := some 22) (bb 23 8191) ?_
          refine pQ (i := 13) (N := some 23) (bb 23 16383) ?_
          refine pQ (i := 15) (N := some 25) (bb 23 49151) ?_
          refine pQ (i := 16) (N := some 26) (bb 23 114687) ?_
          refine pQ (i := 17) (N := some 27) (bb 23 245759) ?_
          refine tQ6 (i := 14) (N := some 24) (bb 23 262143) hHeld ?_
          refine tQ6 (i := 18) (N := some 28) (bb 23 524287) hHeld ?_
          refine one_ (i := 19) (N := some 29) (bb 23 1048575) rfl rfl (one_of HT_.out (by kernel_rfl)) (by decide) (fun K hK => ?_)
          refine goes_ Try.func73 (by kernel_rfl) rfl #[.agg #[.string ((rd_T53 l0 (ji7)).f0), .slice A516_1 ((rd_T53 l0 (ji7)).f1).length c516_1], .agg #[.string ((rd_T53 l0 x3_1).f0), .slice A514_1 ((rd_T53 l0 x3_1).f1).length c514_1]] (by rfl) rfl rfl (by (try simp only [List.map_toArray, List.map_cons, List.map_nil]); first | done | (simp only [hji7]; rfl) | rfl | (simp only [List.length_drop, List.length_take]; rfl)) ?_
          with_reducible refine (constableref01_Facts.calls k1 ((rd_T53 l0 (ji7)).f0) _ _ ((rd_T53 l0 (ji7)).f1) ((rd_T53 l0 x3_1).f0) _ _ ((rd_T53 l0 x3_1).f1) t518 _ ?side1 ?side2 ?side3 ?side4 A10.out).mono ?_
          (case side1 => exact sC (Kd.C_below HR516_1.out HB.out))
          (case side2 => exact HC516_1.out)
          (case side3 => exact sC (Kd.C_below HR517_1.out HB.out))
          (case side4 => exact HC517_1.out)
          rintro e w14 ⟨rfl, hb⟩
          refine ⟨_, rfl, ?_⟩
          have n0_ := Aside0.mk (below_step bB0 hb)
          clear HB
          have HB := n0_
          clear n0_
          (try clear hb)
          (try clear hb2)
          (try clear hk)
          (try clear hi)
          refine hK.out _ _ ⟨((HB.out.cell (World.block_lt_of_cell? w _ hw514_0)).trans hw514_0), ((HB.out.cell (World.block_lt_of_cell? w _ hw514_1)).trans hw514_1), ((HB.out.cell (World.block_lt_of_cell? w _ hw516_0)).trans hw516_0), ((HB.out.cell (World.block_lt_of_cell? w _ hw516_1)).trans hw516_1), ((HB.out.cell (World.block_lt_of_cell? w _ hw517_0)).trans hw517_0), ((HB.out.cell (World.block_lt_of_cell? w _ hw517_1)).trans hw517_1)⟩ (fun hHeld => ?_)
          clear hK K
          refine norm_ (a' := ?_) ?_ ?_
          rotate_left
          ·show Act.put _ (some 29) _ = _
           simp only [Act.put, List.setIfInBounds_toArray, List.set_cons_zero, List.set_cons_succ, i64_w, i32_w]
           rfl
          refine pQ (i := 20) (N := some 30) (bb 23 2097151) ?_
          refine pQ (i := 21) (N := some 31) (bb 23 4194303) ?_
          refine pQ (i := 22) (N := some 32) (bb 23 8388607) ?_
          refine done_ (done_of HT_.out (by kernel_rfl)) ?_
          try go_wp2
          go_ret
          exact ⟨by first | rfl | (simp [errW_none, errW_some] <;> rfl) | (simp only [← hji7]; first | rfl | (simp [errW_none, errW_some] <;> rfl)) | (simp [*, errW_none, errW_some] <;> rfl), bB0⟩
         ·rw [if_neg c11] at H
          have c11b0 : decide (0 ≤ t518) = false := decide_eq_false c11
          clear c11
          have H' := Aside0.mk H
          clear H
          try go_wp2
          have n0_ := Aside0.mk (below_drew1 HB.out)
          clear HB
          have HB := n0_
          clear n0_
          have p514 : 0 ≤ (x3_1 : Int) := of_decide_eq_true (by first | (with_reducible assumption) | assumption)
          have q514 : x3_1 < (l0.length : Int) := of_decide_eq_true (by first | (with_reducible assumption) | assumption)
          obtain ⟨ad514, A514_1, c514_1, e514, hx514_0, hx514_1, hl514_1, hi514_1⟩ := at_T53 HR0.out x3_1 p514 q514
          have hw514_1 := hx514_1
          have hw514_0 := hx514_0
          cases e514
          have HZ514_1 := Aside0.mk hx514_1
          replace hx514_0 := (HB.out.cell (World.block_lt_of_cell? w _ hx514_0)).trans hx514_0
          replace hx514_1 := (HB.out.cell (World.block_lt_of_cell? w _ hx514_1)).trans hx514_1
          have HR514_1 := Aside0.mk hi514_1
          have HC514_1 := Aside0.mk hl514_1
          clear hi514_1 hl514_1
          replace p514 := eq_true p514
          replace q514 := eq_true q514
          have p516 : 0 ≤ ((ji7) : Int) := of_decide_eq_true (by first | (with_reducible assumption) | assumption)
          have q516 : (ji7) < (l0.length : Int) := of_decide_eq_true (by first | (with_reducible assumption) | assumption)
          obtain ⟨ad516, A516_1, c516_1, e516, hx516_0, hx516_1, hl516_1, hi516_1⟩ := at_T53 HR0.out (ji7) p516 q516
          have hw516_1 := hx516_1
          have hw516_0 := hx516_0
          obtain rfl : ad514 = ad516 := (by injection e516)
          have HZ516_1 := Aside0.mk hx516_1
          replace hx516_0 := (HB.out.cell (World.block_lt_of_cell? w _ hx516_0)).trans hx516_0
          replace hx516_1 := (HB.out.cell (World.block_lt_of_cell? w _ hx516_1)).trans hx516_1
          have HR516_1 := Aside0.mk hi516_1
          have HC516_1 := Aside0.mk hl516_1
          clear hi516_1 hl516_1
          replace p516 := eq_true p516
          replace q516 := eq_true q516
          have p517 : 0 ≤ (x3_1 : Int) := of_decide_eq_true (by first | (with_reducible assumption) | assumption)
          have q517 : x3_1 < (l0.length : Int) := of_decide_eq_true (by first | (with_reducible assumption) | assumption)
          obtain ⟨ad517, A517_1, c517_1, e517, hx517_0, hx517_1, hl517_1, hi517_1⟩ := at_T53 HR0.out x3_1 p517 q517
          have hw517_1 := hx517_1
          have hw517_0 := hx517_0
          obtain rfl : ad514 = ad517 := (by injection e517)
          have ea_ := Option.some.inj (HZ514_1.out.symm.trans hx517_1)
          injection ea_ with ea_ en_ ec_
          subst ea_
          subst ec_
          clear en_
          replace hx517_0 := (HB.out.cell (World.block_lt_of_cell? w _ hx517_0)).trans hx517_0
          replace hx517_1 := (HB.out.cell (World.block_lt_of_cell? w _ hx517_1)).trans hx517_1
          have HR517_1 := Aside0.mk hi517_1
          have HC517_1 := Aside0.mk hl517_1
          clear hi517_1 hl517_1
          replace p517 := eq_true p517
          replace q517 := eq_true q517
          refine start_ (n := 23) (S := fun w' => w'.cell? (ad514.add ((x3_1).toNat * 2)) = some (.string ((rd_T53 l0 x3_1).f0)) ∧ w'.cell? ⟨(ad514.add ((x3_1).toNat * 2)).block, (ad514.add ((x3_1).toNat * 2)).off + 1, none⟩ = some (.slice A514_1 ((rd_T53 l0 x3_1).f1).length c514_1) ∧ w'.cell? (ad514.add (((ji7)).toNat * 2)) = some (.string ((rd_T53 l0 (ji7)).f0)) ∧ w'.cell? ⟨(ad514.add (((ji7)).toNat * 2)).block, (ad514.add (((ji7)).toNat * 2)).off + 1, none⟩ = some (.slice A516_1 ((rd_T53 l0 (ji7)).f1).length c516_1) ∧ w'.cell? (ad514.add ((x3_1).toNat * 2)) = some (.string ((rd_T53 l0 x3_1).f0)) ∧ w'.cell? ⟨(ad514.add ((x3_1).toNat * 2)).block, (ad514.add ((x3_1).toNat * 2)).off + 1, none⟩ = some (.slice A514_1 ((rd_T53 l0 x3_1).f1).length c514_1)) (ds := []) #[false, false, false, false, false, false, false, false, false, false, false, false, false, false, false, false, false, false, false, false, false, false, false] (by kernel_rfl) rfl rfl ⟨((HB.out.cell (World.block_lt_of_cell? w _ hw514_0)).trans hw514_0), ((HB.out.cell (World.block_lt_of_cell? w _ hw514_1)).trans hw514_1), ((HB.out.cell (World.block_lt_of_cell? w _ hw516_0)).trans hw516_0), ((HB.out.cell (World.block_lt_of_cell? w _ hw516_1)).trans hw516_1), ((HB.out.cell (World.block_lt_of_cell? w _ hw517_0)).trans hw517_0), ((HB.out.cell (World.block_lt_of_cell? w _ hw517_1)).trans hw517_1)⟩ (fun hHeld => ?_); refine with_tabW constableref01_Set.tab4 constableref01_Set.bits4 (fun HT_ HW_ => ?_)
          generalize wr.drew = w15 at HB HR514_1 HR516_1 HR517_1 hx514_0 hx514_1 hx516_0 hx516_1 hx517_0 hx517_1 hHeld ⊢
          refine pQ (i := 0) (N := some 10) (bb 23 1) ?_
          refine pQ (i := 1) (N := some 11) (bb 23 3) ?_
          refine pQ (i := 2) (N := some 12) (bb 23 7) ?_
          refine tQ6 (i := 3) (N := some 13) (bb 23 15) hHeld ?_
          refine one_ (i := 4) (N := some 14) (bb 23 31) rfl rfl (one_of HT_.out (by kernel_rfl)) (by decide) (fun K hK => ?_)
          refine goes_ Try.func38 (by kernel_rfl) rfl #[.agg #[.string ((rd_T53 l0 x3_1).f0), .slice A514_1 ((rd_T53 l0 x3_1).f1).length c514_1]] (by rfl) rfl rfl aG ?_
          with_reducible refine (constableref01_Fact.calls k1 ((rd_T53 l0 x3_1).f0) _ _ ((rd_T53 l0 x3_1).f1) true _ ?side1 ?side2 A4.out).mono ?_
          (case side1 => exact sC (Kd.C_below HR514_1.out HB.out))
          (case side2 => exact HC514_1.out)
          rintro e w16 ⟨rfl, hb⟩
          refine ⟨_, rfl, ?_⟩
          have n0_ := Aside0.mk (below_step bB0 hb)
          clear HB
          have HB := n0_
          clear n0_
          (try clear hb)
          (try clear hb2)
          (try clear hk)
          (try clear hi)
          refine hK.out _ _ ⟨((HB.out.cell (World.block_lt_of_cell? w _ hw514_0)).trans hw514_0), ((HB.out.cell (World.block_lt_of_cell? w _ hw514_1)).trans hw514_1), ((HB.out.cell (World.block_lt_of_cell? w _ hw516_0)).trans hw516_0), ((HB.out.cell (World.block_lt_of_cell? w _ hw516_1)).trans hw516_1), ((HB.out.cell (World.block_lt_of_cell? w _ hw517_0)).trans hw517_0), ((HB.out.cell (World.block_lt_of_cell? w _ hw517_1)).trans hw517_1)⟩ (fun hHeld => ?_)
          clear hK K
          refine norm_ (a' := ?_) ?_ ?_
          rotate_left
          ·show Act.put _ (some 14) _ = _
           simp only [Act.put, List.setIfInBounds_toArray, List.set_cons_zero, List.set_cons_succ, i64_w, i32_w]
           rfl
          refine pQ (i := 5) (N := some 15) (bb 23 63) ?_
          refine pQ (i := 6) (N := some 16) (bb 23 127) ?_
          refine pQ (i := 7) (N := some 17) (bb 23 255) ?_
          refine pQ (i := 8) (N := some 18) (bb 23 511) ?_
          refine pQ (i := 9) (N := some 19) (bb 23 1023) ?_
          refine pQ (i := 10) (N := some 20) (bb 23 2047) ?_
          refine pQ (i := 11) (N := some 21) (bb 23 4095) ?_
          refine pQ (i := 12) (N := some 22) (bb 23 8191) ?_
          refine pQ (i := 13) (N := some 23) (bb 23 16383) ?_
          refine pQ (i := 15) (N := some 25) (bb 23 49151) ?_
          refine pQ (i := 16) (N := some 26) (bb 23 114687) ?_
          refine pQ (i := 17) (N := some 27) (bb 23 245759) ?_
          refine tQ6 (i := 14) (N := some 24) (bb 23 262143) hHeld ?_
          refine tQ6 (i := 18) (N := some 28) (bb 23 524287) hHeld ?_
          refine one_ (i := 19) (N := some 29) (bb 23 1048575) rfl rfl (one_of HT_.out (by kernel_rfl)) (by decide) (fun K hK => ?_)
          refine goes_ Try.func73 (by kernel_rfl) rfl #[.agg #[.string ((rd_T53 l0 (ji7)).f0), .slice A516_1 ((rd_T53 l0 (ji7)).f1).length c516_1], .agg #[.string ((rd_T53 l0 x3_1).f0), .slice A514_1 ((rd_T53 l0 x3_1).f1).length c514_1]] (by rfl) rfl rfl (by (try simp only [List.map_toArray, List.map_cons, List.map_nil]); first | done | (simp only [hji7]; rfl) | rfl | (simp only [List.length_drop, List.length_take]; rfl)) ?_
          with_reducible refine (constableref01_Facts.calls k1 ((rd_T53 l0 (ji7)).f0) _ _ ((rd_T53 l0 (ji7)).f1) ((rd_T53 l0 x3_1).f0) _ _ ((rd_T53 l0 x3_1).f1) t518 _ ?side1 ?side2 ?side3 ?side4 A10.out).mono ?_
          (case side1 => exact sC (Kd.C_below HR516_1.out HB.out))
          (case side2 => exact HC516_1.out)
          (case side3 => exact sC (Kd.C_below HR517_1.out HB.out))
          (case side4 => exact HC517_1.out)
          rintro e w17 ⟨rfl, hb⟩
          refine ⟨_, rfl, ?_⟩
          have n0_ := Aside0.mk (below_step bB0 hb)
          clear HB
          have HB := n0_
          clear n0_
          (try clear hb)
          (try clear hb2)
          (try clear hk)
          (try clear hi)
          refine hK.out _ _ ⟨((HB.out.cell (World.block_lt_of_cell? w _ hw514_0)).trans hw514_0), ((HB.out.cell (World.block_lt_of_cell? w _ hw514_1)).trans hw514_1), ((HB.out.cell (World.block_lt_of_cell? w _ hw516_0)).trans hw516_0), ((HB.out.cell (World.block_lt_of_cell? w _ hw516_1)).trans hw516_1), ((HB.out.cell (World.block_lt_of_cell? w _ hw517_0)).trans hw517_0), ((HB.out.cell (World.block_lt_of_cell? w _ hw517_1)).trans hw517_1)⟩ (fun hHeld => ?_)
          clear hK K
          refine norm_ (a' := ?_) ?_ ?_
          rotate_left
          ·show Act.put _ (some 29) _ = _
           simp only [Act.put, List.setIfInBounds_toArray, List.set_cons_zero, List.set_cons_succ, i64_w, i32_w]
           rfl
          refine pQ (i := 20) (N := some 30) (bb 23 2097151) ?_
          refine pQ (i := 21) (N := some 31) (bb 23 4194303) ?_
          refine pQ (i := 22) (N := some 32) (bb 23 8388607) ?_
          refine done_ (done_of HT_.out (by kernel_rfl)) ?_
          try go_wp2
          go_roundg k1
          case measure => have := HK1.out; omega
          case rel => exact ⟨(wrap64 (x3_1 + 1)), (by first | rfl | (simp; done) | (simp [*]; done)), H', ⟨by have := HK1.out; omega⟩, ⟨bB0⟩⟩
        ·rw [if_neg c9] at H
         exact absurd H (by simp)
       ·rw [if_neg c8] at H
        exact absurd H (by simp)
      ·rw [if_neg c6] at H
       have c6b0 : decide (0 < x3_1) = false := decide_eq_false c6
       clear c6
       have H' := Aside0.mk H
       clear H
       try go_wp2
       have n0_ := Aside0.mk (below_drew1 HB.out)
       clear HB
       have HB := n0_
       clear n0_
       have p514 : 0 ≤ (x3_1 : Int) := of_decide_eq_true (by first | (with_reducible assumption) | assumption)
       have q514 : x3_1 < (l0.length : Int) := of_decide_eq_true (by first | (with_reducible assumption) | assumption)
       obtain ⟨ad514, A514_1, c514_1, e514, hx514_0, hx514_1, hl514_1, hi514_1⟩ := at_T53 HR0.out x3_1 p514 q514
       have hw514_1 := hx514_1
       have hw514_0 := hx514_0
       cases e514
       have HZ514_1 := Aside0.mk hx514_1
       replace hx514_0 := (HB.out.cell (World.block_lt_of_cell? w _ hx514_0)).trans hx514_0
       replace hx514_1 := (HB.out.cell (World.block_lt_of_cell? w _ hx514_1)).trans hx514_1
       have HR514_1 := Aside0.mk hi514_1
       have HC514_1 := Aside0.mk hl514_1
       clear hi514_1 hl514_1
       replace p514 := eq_true p514
       replace q514 := eq_true q514
       refine start_ (n := 23) (S := fun w' => w'.cell? (ad514.add ((x3_1).toNat * 2)) = some (.string ((rd_T53 l0 x3_1).f0)) ∧ w'.cell? ⟨(ad514.add ((x3_1).toNat * 2)).block, (ad514.add ((x3_1).toNat * 2)).off + 1, none⟩ = some (.slice A514_1 ((rd_T53 l0 x3_1).f1).length c514_1)) (ds := []) #[false, false, false, false, false, false, false, false, false, false, false, false, false, false, false, false, false, false, false, false, false, false, false] (by kernel_rfl) rfl rfl ⟨((HB.out.cell (World.block_lt_of_cell? w _ hw514_0)).trans hw514_0), ((HB.out.cell (World.block_lt_of_cell? w _ hw514_1)).trans hw514_1)⟩ (fun hHeld => ?_); refine with_tabW constableref01_Set.tab4 constableref01_Set.bits4 (fun HT_ HW_ => ?_)
       generalize wr.drew = w18 at HB HR514_1 hx514_0 hx514_1 hHeld ⊢
       refine pQ (i := 0) (N := some 10) (bb 23 1) ?_
       refine pQ (i := 1) (N := some 11) (bb 23 3) ?_
       refine pQ (i := 2) (N := some 12) (bb 23 7) ?_
       refine tQ2 (i := 3) (N := some 13) (bb 23 15) hHeld ?_
       refine one_ (i := 4) (N := some 14) (bb 23 31) rfl rfl (one_of HT_.out (by kernel_rfl)) (by decide) (fun K hK => ?_)
       refine goes_ Try.func38 (by kernel_rfl) rfl #[.agg #[.string ((rd_T53 l0 x3_1).f0), .slice A514_1 ((rd_T53 l0 x3_1).f1).length c514_1]] (by rfl) rfl rfl aG ?_
       with_reducible refine (constableref01_Fact.calls k1 ((rd_T53 l0 x3_1).f0) _ _ ((rd_T53 l0 x3_1).f1) true _ ?side1 ?side2 A4.out).mono ?_
       (case side1 => exact sC (Kd.C_below HR514_1.out HB.out))
       (case side2 => exact HC514_1.out)
       rintro e w19 ⟨rfl, hb⟩
       refine ⟨_, rfl, ?_⟩
       have n0_ := Aside0.mk (below_step bB0 hb)
       clear HB
       have HB := n0_
       clear n0_
       (try clear hb)
       (try clear hb2)
       (try clear hk)
       (try clear hi)
       refine hK.out _ _ ⟨((HB.out.cell (World.block_lt_of_cell? w _ hw514_0)).trans hw514_0), ((HB.out.cell (World.block_lt_of_cell? w _ hw514_1)).trans hw514_1)⟩ (fun hHeld => ?_)
       clear hK K
       refine norm_ (a' := ?_) ?_ ?_
       rotate_left
       ·show Act.put _ (some 14) _ = _
        simp only [Act.put, List.setIfInBounds_toArray, List.set_cons_zero, List.set_cons_succ, i64_w, i32_w]
        rfl
       refine pQ (i := 5) (N := some 15) (bb 23 63) ?_
       refine pQ (i := 6) (N := some 16) (bb 23 127) ?_
       refine pQ (i := 7) (N := some 17) (bb 23 255) ?_
       refine pQ (i := 8) (N := some 18) (bb 23 511) ?_
       refine pQ (i := 9) (N := some 19) (bb 23 1023) ?_
       refine pure_ (i := 10) (N := some 20) (v := undef) (a' := ?_) (bb 23 2047) rfl rfl (any_of HT_.out (by kernel_rfl)) (fun _ _ _ h => h) (Or.inr ⟨by rfl, rfl⟩) ?_ ?_
       rotate_left
       ·simp only [Act.put, List.setIfInBounds_toArray, List.set_cons_zero, List.set_cons_succ, i64_w, i32_w]
        rfl
       refine pure_ (i := 11) (N := some 21) (v := undef) (a' := ?_) (bb 23 4095) rfl rfl (any_of HT_.out (by kernel_rfl)) (fun _ _ _ h => h) (Or.inr ⟨by rfl, rfl⟩) ?_ ?_
       rotate_left
       ·simp only [Act.put, List.setIfInBounds_toArray, List.set_cons_zero, List.set_cons_succ, i64_w, i32_w]
        rfl
       refine pure_ (i := 12) (N := some 22) (v := undef) (a' := ?_) (bb 23 8191) rfl rfl (any_of HT_.out (by kernel_rfl)) (fun _ _ _ h => h) (Or.inr ⟨by rfl, rfl⟩) ?_ ?_
       rotate_left
       ·simp only [Act.put, List.setIfInBounds_toArray, List.set_cons_zero, List.set_cons_succ, i64_w, i32_w]
        rfl
       refine pure_ (i := 13) (N := some 23) (v := undef) (a' := ?_) (bb 23 16383) rfl rfl (any_of HT_.out (by kernel_rfl)) (fun _ _ _ h => h) (Or.inr ⟨by rfl, rfl⟩) ?_ ?_
       rotate_left
       ·simp only [Act.put, List.setIfInBounds_toArray, List.set_cons_zero, List.set_cons_succ, i64_w, i32_w]
        rfl
       refine pure_ (i := 14) (N := some 24) (v := undef) (a' := ?_) (bb 23 32767) rfl rfl (any_of HT_.out (by kernel_rfl)) (fun _ _ _ h => h) (Or.inr ⟨by rfl, rfl⟩) ?_ ?_
       rotate_left
       ·simp only [Act.put, List.setIfInBounds_toArray, List.set_cons_zero, List.set_cons_succ, i64_w, i32_w]
        rfl
       refine pure_ (i := 15) (N := some 25) (v := undef) (a' := ?_) (bb 23 65535) rfl rfl (any_of HT_.out (by kernel_rfl)) (fun _ _ _ h => h) (Or.inr ⟨by rfl, rfl⟩) ?_ ?_
       rotate_left
       ·simp only [Act.put, List.setIfInBounds_toArray, List.set_cons_zero, List.set_cons_succ, i64_w, i32_w]
        rfl
       refine pure_ (i := 16) (N := some 26) (v := undef) (a' := ?_) (bb 23 131071) rfl rfl (any_of HT_.out (by kernel_rfl)) (fun _ _ _ h => h) (Or.inr ⟨by rfl, rfl⟩) ?_ ?_
       rotate_left
       ·simp only [Act.put, List.setIfInBounds_toArray, List.set_cons_zero, List.set_cons_succ, i64_w, i32_w]
        rfl
       refine pure_ (i := 17) (N := some 27) (v := undef) (a' := ?_) (bb 23 262143) rfl rfl (any_of HT_.out (by kernel_rfl)) (fun _ _ _ h => h) (Or.inr ⟨by rfl, rfl⟩) ?_ ?_
       rotate_left
       ·simp only [Act.put, List.setIfInBounds_toArray, List.set_cons_zero, List.set_cons_succ, i64_w, i32_w]
        rfl
       refine pure_ (i := 18) (N := some 28) (v := undef) (a' := ?_) (bb 23 524287) rfl rfl (any_of HT_.out (by kernel_rfl)) (fun _ _ _ h => h) (Or.inr ⟨by rfl, rfl⟩) ?_ ?_
       rotate_left
       ·simp only [Act.put, List.setIfInBounds_toArray, List.set_cons_zero, List.set_cons_succ, i64_w, i32_w]
        rfl
       refine pure_ (i := 19) (N := some 29) (v := undef) (a' := ?_) (bb 23 1048575) rfl rfl (any_of HT_.out (by kernel_rfl)) (fun _ _ _ h => h) (Or.inr ⟨by rfl, rfl⟩) ?_ ?_
       rotate_left
       ·simp only [Act.put, List.setIfInBounds_toArray, List.set_cons_zero, List.set_cons_succ, i64_w, i32_w]
        rfl
       refine pure_ (i := 20) (N := some 30) (v := undef) (a' := ?_) (bb 23 2097151) rfl rfl (any_of HT_.out (by kernel_rfl)) (fun _ _ _ h => h) (Or.inr ⟨by rfl, rfl⟩) ?_ ?_
       rotate_left
       ·simp only [Act.put, List.setIfInBounds_toArray, List.set_cons_zero, List.set_cons_succ, i64_w, i32_w]
        rfl
       refine pQ (i := 21) (N := some 31) (bb 23 4194303) ?_
       refine pQ (i := 22) (N := some 32) (bb 23 8388607) ?_
       refine done_ (done_of HT_.out (by kernel_rfl)) ?_
       try go_wp2
       go_roundg k1
       case measure => have := HK1.out; omega
       case rel => exact ⟨(wrap64 (x3_1 + 1)), (by first | rfl | (simp; done) | (simp [*]; done)), H', ⟨by have := HK1.out; omega⟩, ⟨bB0⟩⟩
     ·replace c5 := Bool.eq_false_iff.mpr c5
      subst c5
      have H1 : (some false) = some r := by rw [if_neg (show ¬ (false = true) by decide)] at H; exact H
      clear H
      have H := H1
      clear H1
      obtain rfl := Option.some.inj H
      try go_wp2
      have n0_ := Aside0.mk (below_drew1 HB.out)
      clear HB
      have HB := n0_
      clear n0_
      have p514 : 0 ≤ (x3_1 : Int) := of_decide_eq_true (by first | (with_reducible assumption) | assumption)
      have q514 : x3_1 < (l0.length : Int) := of_decide_eq_true (by first | (with_reducible assumption) | assumption)
      obtain ⟨ad514, A514_1, c514_1, e514, hx514_0, hx514_1, hl514_1, hi514_1⟩ := at_T53 HR0.out x3_1 p514 q514
      have hw514_1 := hx514_1
      have hw514_0 := hx514_0
      cases e514
      have HZ514_1 := Aside0.mk hx514_1
      replace hx514_0 := (HB.out.cell (World.block_lt_of_cell? w _ hx514_0)).trans hx514_0
      replace hx514_1 := (HB.out.cell (World.block_lt_of_cell? w _ hx514_1)).trans hx514_1
      have HR514_1 := Aside0.mk hi514_1
      have HC514_1 := Aside0.mk hl514_1
      clear hi514_1 hl514_1
      replace p514 := eq_true p514
      replace q514 := eq_true q514
      refine start_ (n := 23) (S := fun w' => w'.cell? (ad514.add ((x3_1).toNat * 2)) = some (.string ((rd_T53 l0 x3_1).f0)) ∧ w'.cell? ⟨(ad514.add ((x3_1).toNat * 2)).block, (ad514.add ((x3_1).toNat * 2)).off + 1, none⟩ = some (.slice A514_1 ((rd_T53 l0 x3_1).f1).length c514_1)) (ds := []) #[false, false, false, false, false, false, false, false, false, false, false, false, false, false, false, false, false, false, false, false, false, false, false] (by kernel_rfl) rfl rfl ⟨((HB.out.cell (World.block_lt_of_cell? w _ hw514_0)).trans hw514_0), ((HB.out.cell (World.block_lt_of_cell? w _ hw514_1)).trans hw514_1)⟩ (fun hHeld => ?_); refine with_tabW constableref01_Set.tab4 constableref01_Set.bits4 (fun HT_ HW_ => ?_)
      generalize wr.drew = w20 at HB HR514_1 hx514_0 hx514_1 hHeld ⊢
      refine pQ (i := 0) (N := some 10) (bb 23 1) ?_
      refine pQ (i := 1) (N := some 11) (bb 23 3) ?_
      refine pQ (i := 2) (N := some 12) (bb 23 7) ?_
      refine tQ2 (i := 3) (N := some 13) (bb 23 15) hHeld ?_
      refine one_ (i := 4) (N := some 14) (bb 23 31) rfl rfl (one_of HT_.out (by kernel_rfl)) (by decide) (fun K hK => ?_)
      refine goes_ Try.func38 (by kernel_rfl) rfl #[.agg #[.string ((rd_T53 l0 x3_1).f0), .slice A514_1 ((rd_T53 l0 x3_1).f1).length c514_1]] (by rfl) rfl rfl aG ?_
      with_reducible refine (constableref01_Fact.calls k1 ((rd_T53 l0 x3_1).f0) _ _ ((rd_T53 l0 x3_1).f1) false _ ?side1 ?side2 A4.out).mono ?_
      (case side1 => exact sC (Kd.C_below HR514_1.out HB.out))
      (case side2 => exact HC514_1.out)
      rintro e w21 ⟨rfl, hb⟩
      refine ⟨_, rfl, ?_⟩
      have n0_ := Aside0.mk (below_step bB0 hb)
      clear HB
      have HB := n0_
      clear n0_
      (try clear hb)
      (try clear hb2)
      (try clear hk)
      (try clear hi)
      refine hK.out _ _ ⟨((HB.out.cell (World.block_lt_of_cell? w _ hw514_0)).trans hw514_0), ((HB.out.cell (World.block_lt_of_cell? w _ hw514_1)).trans hw514_1)⟩ (fun hHeld => ?_)
      clear hK K
      refine norm_ (a' := ?_) ?_ ?_
      rotate_left
      ·show Act.put _ (some 14) _ = _
       simp only [Act.put, List.setIfInBounds_toArray, List.set_cons_zero, List.set_cons_succ, i64_w, i32_w]
       rfl
      refine pQ (i := 5) (N := some 15) (bb 23 63) ?_
      refine pQ (i := 6) (N := some 16) (bb 23 127) ?_
      refine pure_ (i := 7) (N := some 17) (v := undef) (a' := ?_) (bb 23 255) rfl rfl (any_of HT_.out (by kernel_rfl)) (fun _ _ _ h => h) (Or.inr ⟨by rfl, rfl⟩) ?_ ?_
      rotate_left
      ·simp only [Act.put, List.setIfInBounds_toArray, List.set_cons_zero, List.set_cons_succ, i64_w, i32_w]
       rfl
      refine pure_ (i := 8) (N := some 18) (v := undef) (a' := ?_) (bb 23 511) rfl rfl (any_of HT_.out (by kernel_rfl)) (fun _ _ _ h => h) (Or.inr ⟨by rfl, rfl⟩) ?_ ?_
      rotate_left
      ·simp only [Act.put, List.setIfInBounds_toArray, List.set_cons_zero, List.set_cons_succ, i64_w, i32_w]
       rfl
      refine pure_ (i := 9) (N := some 19) (v := undef) (a' := ?_) (bb 23 1023) rfl rfl (any_of HT_.out (by kernel_rfl)) (fun _ _ _ h => h) (Or.inr ⟨by rfl, rfl⟩) ?_ ?_
      rotate_left
      ·simp only [Act.put, List.setIfInBounds_toArray, List.set_cons_zero, List.set_cons_succ, i64_w, i32_w]
       rfl
      refine pure_ (i := 10) (N := some 20) (v := undef) (a' := ?_) (bb 23 2047) rfl rfl (any_of HT_.out (by kernel_rfl)) (fun _ _ _ h => h) (Or.inr ⟨by rfl, rfl⟩) ?_ ?_
      rotate_left
      ·simp only [Act.put, List.setIfInBounds_toArray, List.set_cons_zero, List.set_cons_succ, i64_w, i32_w]
       rfl
      refine pure_ (i := 11) (N := some 21) (v := undef) (a' := ?_) (bb 23 4095) rfl rfl (any_of HT_.out (by kernel_rfl)) (fun _ _ _ h => h) (Or.inr ⟨by rfl, rfl⟩) ?_ ?_
      rotate_left
      ·simp only [Act.put, List.setIfInBounds_toArray, List.set_cons_zero, List.set_cons_succ, i64_w, i32_w]
       rfl
      refine pure_ (i := 12) (N := some 22) (v := undef) (a' := ?_) (bb 23 8191) rfl rfl (any_of HT_.out (by kernel_rfl)) (fun _ _ _ h => h) (Or.inr ⟨by rfl, rfl⟩) ?_ ?_
      rotate_left
      ·simp only [Act.put, List.setIfInBounds_toArray, List.set_cons_zero, List.set_cons_succ, i64_w, i32_w]
       rfl
      refine pure_ (i := 13) (N := some 23) (v := undef) (a' := ?_) (bb 23 16383) rfl rfl (any_of HT_.out (by kernel_rfl)) (fun _ _ _ h => h) (Or.inr ⟨by rfl, rfl⟩) ?_ ?_
      rotate_left
      ·simp only [Act.put, List.setIfInBounds_toArray, List.set_cons_zero, List.set_cons_succ, i64_w, i32_w]
       rfl
      refine pure_ (i := 14) (N := some 24) (v := undef) (a' := ?_) (bb 23 32767) rfl rfl (any_of HT_.out (by kernel_rfl)) (fun _ _ _ h => h) (Or.inr ⟨by rfl, rfl⟩) ?_ ?_
      rotate_left
      ·simp only [Act.put, List.setIfInBounds_toArray, List.set_cons_zero, List.set_cons_succ, i64_w, i32_w]
       rfl
      refine pure_ (i := 15) (N := some 25) (v := undef) (a' := ?_) (bb 23 65535) rfl rfl (any_of HT_.out (by kernel_rfl)) (fun _ _ _ h => h) (Or.inr ⟨by rfl, rfl⟩) ?_ ?_
      rotate_left
      ·simp only [Act.put, List.setIfInBounds_toArray, List.set_cons_zero, List.set_cons_succ, i64_w, i32_w]
       rfl
      refine pure_ (i := 16) (N := some 26) (v := undef) (a' := ?_) (bb 23 131071) rfl rfl (any_of HT_.out (by kernel_rfl)) (fun _ _ _ h => h) (Or.inr ⟨by rfl, rfl⟩) ?_ ?_
      rotate_left
      ·simp only [Act.put, List.setIfInBounds_toArray, List.set_cons_zero, List.set_cons_succ, i64_w, i32_w]
       rfl
      refine pure_ (i := 17) (N := some 27) (v := undef) (a' := ?_) (bb 23 262143) rfl rfl (any_of HT_.out (by kernel_rfl)) (fun _ _ _ h => h) (Or.inr ⟨by rfl, rfl⟩) ?_ ?_
      rotate_left
      ·simp only [Act.put, List.setIfInBounds_toArray, List.set_cons_zero, List.set_cons_succ, i64_w, i32_w]
       rfl
      refine pure_ (i := 18) (N := some 28) (v := undef) (a' := ?_) (bb 23 524287) rfl rfl (any_of HT_.out (by kernel_rfl)) (fun _ _ _ h => h) (Or.inr ⟨by rfl, rfl⟩) ?_ ?_
      rotate_left
      ·simp only [Act.put, List.setIfInBounds_toArray, List.set_cons_zero, List.set_cons_succ, i64_w, i32_w]
       rfl
      refine pure_ (i := 19) (N := some 29) (v := undef) (a' := ?_) (bb 23 1048575) rfl rfl (any_of HT_.out (by kernel_rfl)) (fun _ _ _ h => h) (Or.inr ⟨by rfl, rfl⟩) ?_ ?_
      rotate_left
      ·simp only [Act.put, List.setIfInBounds_toArray, List.set_cons_zero, List.set_cons_succ, i64_w, i32_w]
       rfl
      refine pure_ (i := 20) (N := some 30) (v := undef) (a' := ?_) (bb 23 2097151) rfl rfl (any_of HT_.out (by kernel_rfl)) (fun _ _ _ h => h) (Or.inr ⟨by rfl, rfl⟩) ?_ ?_
      rotate_left
      ·simp only [Act.put, List.setIfInBounds_toArray, List.set_cons_zero, List.set_cons_succ, i64_w, i32_w]
       rfl
      refine pure_ (i := 21) (N := some 31) (v := undef) (a' := ?_) (bb 23 4194303) rfl rfl (any_of HT_.out (by kernel_rfl)) (fun _ _ _ h => h) (Or.inr ⟨by rfl, rfl⟩) ?_ ?_
      rotate_left
      ·simp only [Act.put, List.setIfInBounds_toArray, List.set_cons_zero, List.set_cons_succ, i64_w, i32_w]
       rfl
      refine pQ (i := 22) (N := some 32) (bb 23 8388607) ?_
      refine done_ (done_of HT_.out (by kernel_rfl)) ?_
      try go_wp2
      go_ret
      exact ⟨eW, bB0⟩
    ·rw [if_neg c3] at H
     exact absurd H (by simp)
   ·rw [if_neg c2] at H
    have c2b0 : decide (x3_1 < (l0.length : Int)) = false := decide_eq_false c2
    clear c2
    obtain rfl := Option.some.inj H
    go_wp2
    go_ret
    exact ⟨eW, bB0⟩

end Go.Proofs.Ytghommaokdhjmaa.P
