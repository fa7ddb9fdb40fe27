/- A part of the proof: walks of the code and plain laws, printed and by hand; no condition. -/
import Derived.Test.YtghommaokdhjmaaGreatDYA1
import Derived.Lib.SlicesS
set_option linter.unusedVariables false
set_option linter.unusedSimpArgs false
namespace Go.Proofs.YtghommaokdhjmaaGreat.P
open Go.RowKit Go.Proofs.YtghommaokdhjmaaGreatW.PrintWords Go.Proofs.YtghommaokdhjmaaGreatW.PrintLast Gate

def subst_Check.l0 : Nat → List (S66) → List (S66) → Int → Int → Option (Int)
 | 0, _, _, _, _ => none
 | k + 1, x0, x8, x9, x10 => if x10 < x9 then (if 0 ≤ x10 then (if x10 < (x8.length : Int) then ((subst_right.f k ((rd_T66 x8 x10).f0) ((rd_T66 x8 x10).f1.f0) ((rd_T66 x8 x10).f1.f1) ((rd_T66 x8 x10).f1.f2)).bind fun t188 => (if t188 = true then (if x10 > 0 then (if 0 ≤ (wrap64 (x10 - 1)) then (if (wrap64 (x10 - 1)) < (x0.length : Int) then (if ((Op.bytesLess (((rd_T66 x0 (wrap64 (x10 - 1))).f0).toList) (((rd_T66 x8 x10).f0).toList)) = true) then (subst_Check.l0 k x0 x8 x9 (wrap64 (x10 + 1))) else (some 1)) else (none)) else (none)) else (subst_Check.l0 k x0 x8 x9 (wrap64 (x10 + 1)))) else (some 1))) else (none)) else (none)) else (some 0)
def subst_Check.f (k : Nat) (l0 : List (S66)) : Option (Int) := if (l0.length : Int) > 100 then (some 1) else (subst_Check.l0 k l0 l0 (l0.length : Int) 0)
theorem subst_Check.mono_l : ∀ k, (∀ y0 y1 y2 y3, LeO (subst_Check.l0 k y0 y1 y2 y3) (subst_Check.l0 (k + 1) y0 y1 y2 y3))
 | 0 => fun _ _ _ _ r h => by simp [subst_Check.l0] at h
 | k + 1 => by
  have ih0 := subst_Check.mono_l k
  ·intro y0 y1 y2 y3
   unfold subst_Check.l0
   repeat' first
   | (with_reducible exact ih0 _ _ _ _)
   | (with_reducible exact subst_right.mono _ _ _ _ _)
   | (with_reducible exact LeO.refl _)
   | (with_reducible exact LeO.none _)
   | (with_reducible refine LeO.ite ?_ ?_)
   | (with_reducible refine LeO.bind ?_ (fun _ => ?_))
theorem subst_Check.mono : ∀ a0 k, LeO (subst_Check.f k a0) (subst_Check.f (k + 1) a0) := by
 intro a0 k
 have ih0 := subst_Check.mono_l k
 unfold subst_Check.f
 repeat' first
   | (with_reducible exact ih0 _ _ _ _)
   | (with_reducible exact subst_right.mono _ _ _ _ _)
   | (with_reducible exact LeO.refl _)
   | (with_reducible exact LeO.none _)
   | (with_reducible refine LeO.ite ?_ ?_)
   | (with_reducible refine LeO.bind ?_ (fun _ => ?_))
def subst_Check.T6 : Bool × List (List Nat × List Nat) := (true, [([], []), ([0], [0]), ([1], [1]), ([2, 1], [2]), ([3], [3]), ([4, 3], [3, 4]), ([5, 3, 3], [3, 5]), ([6], [6]), ([6], [6]), ([8, 6], [6, 8]), ([7, 9, 6], [6, 7, 9]), ([10, 6], [6, 10]), ([11, 6], [6, 11]), ([6], [6]), ([13, 6], [6, 13]), ([12, 14, 6], [6, 12, 14]), ([6, 15, 3], [3, 6, 15]), ([3, 16], [3, 16])])
def subst_Check.B6 : List Nat := [0, 1, 3, 7, 15, 31, 63, 127, 127, 383, 1023, 2047, 4095, 127, 8319, 32767, 65535, 131071]
theorem subst_Check.tab6 : rtab .any (opsOf Tryz.f34 6) = subst_Check.T6 := by kernel_rfl
theorem subst_Check.bits6 : waitsOk subst_Check.T6.2 subst_Check.B6 = true := by kernel_rfl
set_option maxHeartbeats 8000000 in
set_option maxRecDepth 100000 in
theorem subst_Check.calls (k : Nat) (A0 : Option Addr) (c0 : Nat) (l0 : List (S66)) (r : Int) (w : World) (hr0 : Kd.C k66 w A0 l0.length l0) (hc0 : l0.length ≤ c0) (h : subst_Check.f k l0 = some r) :
  Calls Tryz.prog 34 #[.slice A0 l0.length c0] w fun e w' => e = .returned (.int .i64 r) ∧ Below w.heap.size w w' := by
 have hu66 := Tryz.underlying66
 have HR0 := Aside0.mk hr0
 have HC0 := Aside0.mk hc0
 clear hr0 hc0
 have HB := Aside0.mk (Below.refl w.heap.size w)
 have H : (if (l0.length : Int) > 100 then (some 1) else (subst_Check.l0 k l0 l0 (l0.length : Int) 0)) = some r := h
 clear h
 by_cases c2 : (l0.length : Int) > 100
 ·rw [if_pos c2] at H
  have c2b0 : decide (100 < (l0.length : Int)) = true := decide_eq_true c2
  have c2b1 : decide (100 < l0.length) = true := decide_eq_true (by omega)
  clear c2
  obtain rfl := Option.some.inj H
  go_enter Tryz.func34, Tryz.ntmps34
  go_wp2
  go_ret
  exact ⟨eW, bB0⟩
 ·rw [if_neg c2] at H
  have c2b0 : decide (100 < (l0.length : Int)) = false := decide_eq_false c2
  have c2b1 : decide (100 < l0.length) = false := decide_eq_false (by omega)
  clear c2
  have H' := Aside0.mk H
  clear H
  go_enter Tryz.func34, Tryz.ntmps34
  go_wp2
  go_loopg [10] k (fun kq v10 w' => ∃ (x10_1 : Int), v10 = .int .i64 x10_1 ∧ Aside0 (subst_Check.l0 kq l0 l0 (l0.length : Int) x10_1 = some r) ∧ Aside0 (kq ≤ k) ∧ Aside0 (Below w.heap.size w w'))
  case atStart => exact ⟨(0), (by first | rfl | (simp; done) | (simp [*]; done)), H', ⟨Nat.le_refl _⟩, ⟨bB0⟩⟩
  case round =>
   clear H'
   (try clear c2); (try clear c2b0); (try clear c2b1); (try clear p2)
   obtain ⟨x10_1, rfl, HA, HK1, HB⟩ := hrel
   cases gk with
   | zero => exact absurd HA.out (by simp [subst_Check.l0])
   | succ k1 =>
    have H := HA.out
    clear HA
    simp only [subst_Check.l0] at H
    by_cases c3 : x10_1 < (l0.length : Int)
    ·rw [if_pos c3] at H
     have c3b0 : decide (x10_1 < (l0.length : Int)) = true := decide_eq_true c3
     clear c3
     by_cases c4 : 0 ≤ x10_1
     ·rw [if_pos c4] at H
      have c4b0 : decide (0 ≤ x10_1) = true := decide_eq_true c4
      clear c4
      by_cases c5 : x10_1 < (l0.length : Int)
      ·rw [if_pos c5] at H
       have c5b0 : decide (x10_1 < (l0.length : Int)) = true := decide_eq_true c5
       clear c5
       replace H := Option.bind_eq_some_iff.mp H
       obtain ⟨t188, A60, H⟩ := H
       replace H : (if t188 = true then (if x10_1 > 0 then (if 0 ≤ (wrap64 (x10_1 - 1)) then (if (wrap64 (x10_1 - 1)) < (l0.length : Int) then (if ((Op.bytesLess (((rd_T66 l0 (wrap64 (x10_1 - 1))).f0).toList) (((rd_T66 l0 x10_1).f0).toList)) = true) then (subst_Check.l0 k1 l0 l0 (l0.length : Int) (wrap64 (x10_1 + 1))) else (some 1)) else (none)) else (none)) else (subst_Check.l0 k1 l0 l0 (l0.length : Int) (wrap64 (x10_1 + 1)))) else (some 1)) = some r := H
       have A6 := Aside0.mk A60
       clear A60
       by_cases c7 : t188 = true
       ·subst c7
        have H1 : (if x10_1 > 0 then (if 0 ≤ (wrap64 (x10_1 - 1)) then (if (wrap64 (x10_1 - 1)) < (l0.length : Int) then (if ((Op.bytesLess (((rd_T66 l0 (wrap64 (x10_1 - 1))).f0).toList) (((rd_T66 l0 x10_1).f0).toList)) = true) then (subst_Check.l0 k1 l0 l0 (l0.length : Int) (wrap64 (x10_1 + 1))) else (some 1)) else (none)) else (none)) else (subst_Check.l0 k1 l0 l0 (l0.length : Int) (wrap64 (x10_1 + 1)))) = some r := by rw [if_pos rfl] at H; exact H
        clear H
        have H := H1
        clear H1
        by_cases c8 : x10_1 > 0
        ·rw [if_pos c8] at H
         have c8b0 : decide (0 < x10_1) = true := decide_eq_true c8
         clear c8
         obtain ⟨ji9, hji9⟩ : ∃ j_ : Int, (wrap64 (x10_1 - 1)) = j_ := ⟨_, rfl⟩
         replace H : (if 0 ≤ (ji9) then (if (ji9) < (l0.length : Int) then (if ((Op.bytesLess (((rd_T66 l0 (ji9)).f0).toList) (((rd_T66 l0 x10_1).f0).toList)) = true) then (subst_Check.l0 k1 l0 l0 (l0.length : Int) (wrap64 (x10_1 + 1))) else (some 1)) else (none)) else (none)) = some r := by first | (rw [hji9] at H; exact H) | (simp only [hji9] at H ⊢; exact H)
         (try rw [hji9] at A6)
         have hji9w : (IntKind.i64.wrap (x10_1 - 1)) = ji9 := (i64_w _).trans hji9
         by_cases c10 : 0 ≤ (ji9)
         ·rw [if_pos c10] at H
          have c10b0 : decide (0 ≤ (ji9)) = true := decide_eq_true c10
          clear c10
          by_cases c11 : (ji9) < (l0.length : Int)
          ·rw [if_pos c11] at H
           have c11b0 : decide ((ji9) < (l0.length : Int)) = true := decide_eq_true c11
           clear c11
           by_cases c12 : ((Op.bytesLess (((rd_T66 l0 (ji9)).f0).toList) (((rd_T66 l0 x10_1).f0).toList)) = true)
           ·rw [if_pos c12] at H
            have c12b0 : (Op.bytesLess (((rd_T66 l0 (ji9)).f0).toList) (((rd_T66 l0 x10_1).f0).toList)) = true := c12
            clear c12
            have H' := Aside0.mk H
            clear H
            have p186 : 0 ≤ (x10_1 : Int) := of_decide_eq_true (by first | (with_reducible assumption) | assumption)
            have q186 : x10_1 < (l0.length : Int) := of_decide_eq_true (by first | (with_reducible assumption) | assumption)
            obtain ⟨ad186, e186, hx186_0, hx186_1, hx186_2, hx186_3⟩ := at_T66 HR0.out x10_1 p186 q186
            cases e186
            replace hx186_0 := (HB.out.cell (World.block_lt_of_cell? w _ hx186_0)).trans hx186_0
            replace hx186_1 := (HB.out.cell (World.block_lt_of_cell? w _ hx186_1)).trans hx186_1
            replace hx186_2 := (HB.out.cell (World.block_lt_of_cell? w _ hx186_2)).trans hx186_2
            replace hx186_3 := (HB.out.cell (World.block_lt_of_cell? w _ hx186_3)).trans hx186_3
            replace p186 := eq_true p186
            replace q186 := eq_true q186
            try go_wp2_with (first | ((with_reducible refine gate_dst (N := 4) rfl ?_); refine bE (N := 4) (cs := #[.string (⟨#[]⟩ : ByteArray), .int .i64 0, .int .i64 0, .string (⟨#[]⟩ : ByteArray)]) (t := 66) ?_; intro gb187 hg w13 hbox hb; have n0_ := Aside0.mk (below_step bB0 hb); have n1_ := Aside0.mk (hbox); have n2_ := Aside0.mk ((by rw [hg]; exact (below_size bB0) : w.heap.size ≤ gb187)); have n3_ := Aside0.mk ((by rw [hg]; exact (below_size bB0) : w.heap.size ≤ gb187)); clear HB; have HB := n0_; have BK187 := n1_; have GW187 := n2_; have GE187 := n3_; clear n0_ n1_ n2_ n3_; clear hb hbox hg; have hcz14_0 : w13.cell? ⟨gb187, 0, none⟩ = some (.string (⟨#[]⟩ : ByteArray)) := (blk_cell BK187.out 0).trans rfl; have hcz14_1 : w13.cell? ⟨gb187, 1, none⟩ = some (.int .i64 0) := (blk_cell BK187.out 1).trans rfl; have hcz14_2 : w13.cell? ⟨gb187, 2, none⟩ = some (.int .i64 0) := (blk_cell BK187.out 2).trans rfl; have hcz14_3 : w13.cell? ⟨gb187, 3, none⟩ = some (.string (⟨#[]⟩ : ByteArray)) := (blk_cell BK187.out 3).trans rfl; have hfz14_0 := blk_frozen BK187.out 0; have hfz14_1 := blk_frozen BK187.out 1; have hfz14_2 := blk_frozen BK187.out 2; have hfz14_3 := blk_frozen BK187.out 3))
            have n0_ : Aside0 (((((w13.setCell ⟨gb187, 0, none⟩ (.string ((rd_T66 l0 x10_1).f0))).setCell ⟨gb187, 1, none⟩ (.int .i64 ((rd_T66 l0 x10_1).f1.f0))).setCell ⟨gb187, 2, none⟩ (.int .i64 ((rd_T66 l0 x10_1).f1.f1))).setCell ⟨gb187, 3, none⟩ (.string ((rd_T66 l0 x10_1).f1.f2))).heap[gb187]? = some (.cells #[.string ((rd_T66 l0 x10_1).f0), .int .i64 ((rd_T66 l0 x10_1).f1.f0), .int .i64 ((rd_T66 l0 x10_1).f1.f1), .string ((rd_T66 l0 x10_1).f1.f2)] 66 (0, 0))) := ⟨by refine bk ?_; refine blk_put (cs := #[.string ((rd_T66 l0 x10_1).f0), .int .i64 ((rd_T66 l0 x10_1).f1.f0), .int .i64 ((rd_T66 l0 x10_1).f1.f1), .string (⟨#[]⟩ : ByteArray)]) ?_ 3 _ rfl; refine bk ?_; refine blk_put (cs := #[.string ((rd_T66 l0 x10_1).f0), .int .i64 ((rd_T66 l0 x10_1).f1.f0), .int .i64 0, .string (⟨#[]⟩ : ByteArray)]) ?_ 2 _ rfl; refine bk ?_; refine blk_put (cs := #[.string ((rd_T66 l0 x10_1).f0), .int .i64 0, .int .i64 0, .string (⟨#[]⟩ : ByteArray)]) ?_ 1 _ rfl; refine bk ?_; refine blk_put (cs := #[.string (⟨#[]⟩ : ByteArray), .int .i64 0, .int .i64 0, .string (⟨#[]⟩ : ByteArray)]) ?_ 0 _ rfl; refine bk ?_; exact BK187.out⟩
            have n1_ : Aside0 (Below w.heap.size w ((((w13.setCell ⟨gb187, 0, none⟩ (.string ((rd_T66 l0 x10_1).f0))).setCell ⟨gb187, 1, none⟩ (.int .i64 ((rd_T66 l0 x10_1).f1.f0))).setCell ⟨gb187, 2, none⟩ (.int .i64 ((rd_T66 l0 x10_1).f1.f1))).setCell ⟨gb187, 3, none⟩ (.string ((rd_T66 l0 x10_1).f1.f2)))) := ⟨(bB1 GE187.out)⟩
            (try clear BK187)
            (try clear HB)
            generalize ((((w13.setCell ⟨gb187, 0, none⟩ (.string ((rd_T66 l0 x10_1).f0))).setCell ⟨gb187, 1, none⟩ (.int .i64 ((rd_T66 l0 x10_1).f1.f0))).setCell ⟨gb187, 2, none⟩ (.int .i64 ((rd_T66 l0 x10_1).f1.f1))).setCell ⟨gb187, 3, none⟩ (.string ((rd_T66 l0 x10_1).f1.f2))) = w15 at n0_ n1_ ⊢
            have BK187 := n0_
            have HB := n1_
            clear n0_ n1_
            have n0_ := Aside0.mk (blk_drew BK187.out)
            have n1_ := Aside0.mk (below_drew1 HB.out)
            clear BK187
            clear HB
            have BK187 := n0_
            have HB := n1_
            clear n0_ n1_
            have p189 : 0 ≤ ((ji9) : Int) := of_decide_eq_true (by first | (with_reducible assumption) | assumption)
            have q189 : (ji9) < (l0.length : Int) := of_decide_eq_true (by first | (with_reducible assumption) | assumption)
            obtain ⟨ad189, e189, hx189_0, hx189_1, hx189_2, hx189_3⟩ := at_T66 HR0.out (ji9) p189 q189
            have hw189_3 := hx189_3
            have hw189_2 := hx189_2
            have hw189_1 := hx189_1
            have hw189_0 := hx189_0
            obtain rfl : ad186 = ad189 := (by injection e189)
            replace hx189_0 := (HB.out.cell (World.block_lt_of_cell? w _ hx189_0)).trans hx189_0
            replace hx189_1 := (HB.out.cell (World.block_lt_of_cell? w _ hx189_1)).trans hx189_1
            replace hx189_2 := (HB.out.cell (World.block_lt_of_cell? w _ hx189_2)).trans hx189_2
            replace hx189_3 := (HB.out.cell (World.block_lt_of_cell? w _ hx189_3)).trans hx189_3
            replace p189 := eq_true p189
            replace q189 := eq_true q189
            refine start_ (n := 18) (S := fun w' => w'.cell? ⟨gb187, 0, none⟩ = some (.string ((rd_T66 l0 x10_1).f0)) ∧ w'.cell? ⟨gb187, 1, none⟩ = some (.int .i64 ((rd_T66 l0 x10_1).f1.f0)) ∧ w'.cell? ⟨gb187, 2, none⟩ = some (.int .i64 ((rd_T66 l0 x10_1).f1.f1)) ∧ w'.cell? ⟨gb187, 3, none⟩ = some (.string ((rd_T66 l0 x10_1).f1.f2)) ∧ w'.cell? (ad186.add (((ji9)).toNat * 4)) = some (.string ((rd_T66 l0 (ji9)).f0)) ∧ w'.cell? ⟨(ad186.add (((ji9)).toNat * 4)).block, (ad186.add (((ji9)).toNat * 4)).off + 1, none⟩ = some (.int .i64 ((rd_T66 l0 (ji9)).f1.f0)) ∧ w'.cell? ⟨(ad186.add (((ji9)).toNat * 4)).block, (ad186.add (((ji9)).toNat * 4)).off + 2, none⟩ = some (.int .i64 ((rd_T66 l0 (ji9)).f1.f1)) ∧ w'.cell? ⟨(ad186.add (((ji9)).toNat * 4)).block, (ad186.add (((ji9)).toNat * 4)).off + 3, none⟩ = some (.string ((rd_T66 l0 (ji9)).f1.f2))) (ds := []) #[false, false, false, false, false, false, false, false, false, false, false, false, false, false, false, false, false, false] (by kernel_rfl) rfl rfl ⟨(blk_cell BK187.out 0).trans rfl, (blk_cell BK187.out 1).trans rfl, (blk_cell BK187.out 2).trans rfl, (blk_cell BK187.out 3).trans rfl, ((HB.out.cell (World.block_lt_of_cell? w _ hw189_0)).trans hw189_0), ((HB.out.cell (World.block_lt_of_cell? w _ hw189_1)).trans hw189_1), ((HB.out.cell (World.block_lt_of_cell? w _ hw189_2)).trans hw189_2), ((HB.out.cell (World.block_lt_of_cell? w _ hw189_3)).trans hw189_3)⟩ (fun hHeld => ?_); refine with_tabW subst_Check.tab6 subst_Check.bits6 (fun HT_ HW_ => ?_)
            generalize w15.drew = w16 at BK187 HB hx189_0 hx189_1 hx189_2 hx189_3 hHeld ⊢
            refine tQ8 (i := 0) (N := some 15) (bb 18 1) hHeld ?_
            refine one_ (i := 1) (N := some 16) (bb 18 3) rfl rfl (one_of HT_.out (by kernel_rfl)) (by decide) (fun K hK => ?_)
            refine goes_ Tryz.func64 (by kernel_rfl) rfl #[.agg #[.string ((rd_T66 l0 x10_1).f0), .int .i64 ((rd_T66 l0 x10_1).f1.f0), .int .i64 ((rd_T66 l0 x10_1).f1.f1), .string ((rd_T66 l0 x10_1).f1.f2)]] (by rfl) rfl rfl aG ?_
            with_reducible refine (subst_right.calls k1 ((rd_T66 l0 x10_1).f0) ((rd_T66 l0 x10_1).f1.f0) ((rd_T66 l0 x10_1).f1.f1) ((rd_T66 l0 x10_1).f1.f2) true _ A6.out).mono ?_
            rintro e w17 ⟨rfl, hb⟩
            refine ⟨_, rfl, ?_⟩
            have n0_ := Aside0.mk (blk_below (g := gb187) (o := .cells #[.string ((rd_T66 l0 x10_1).f0), .int .i64 ((rd_T66 l0 x10_1).f1.f0), .int .i64 ((rd_T66 l0 x10_1).f1.f1), .string ((rd_T66 l0 x10_1).f1.f2)] 66 (0, 0)) (by refine bk ?_; exact BK187.out) hb)
            have n1_ := Aside0.mk (below_step (bB1 GE187.out) hb)
            clear BK187
            clear HB
            have BK187 := n0_
            have HB := n1_
            clear n0_ n1_
            (try clear hb)
            (try clear hb2)
            (try clear hk)
            (try clear hi)
            refine hK.out _ _ ⟨(blk_cell BK187.out 0).trans rfl, (blk_cell BK187.out 1).trans rfl, (blk_cell BK187.out 2).trans rfl, (blk_cell BK187.out 3).trans rfl, ((HB.out.cell (World.block_lt_of_cell? w _ hw189_0)).trans hw189_0), ((HB.out.cell (World.block_lt_of_cell? w _ hw189_1)).trans hw189_1), ((HB.out.cell (World.block_lt_of_cell? w _ hw189_2)).trans hw189_2), ((HB.out.cell (World.block_lt_of_cell? w _ hw189_3)).trans hw189_3)⟩ (fun hHeld => ?_)
            clear hK K
            refine norm_ (a' := ?_) ?_ ?_
            rotate_left
            ·show Act.put _ (some 16) _ = _
             simp only [Act.put, List.setIfInBounds_toArray, List.set_cons_zero, List.set_cons_succ, i64_w, i32_w]
             rfl
            refine pQ (i := 2) (N := some 17) (bb 18 7) ?_
            refine pQ (i := 3) (N := some 18) (bb 18 15) ?_
            refine pQ (i := 4) (N := some 19) (bb 18 31) ?_
            refine pQ (i := 5) (N := some 20) (bb 18 63) ?_
            refine pQ (i := 6) (N := some 21) (bb 18 127) ?_
            refine pQ (i := 7) (N := some 22) (bb 18 255) ?_
            refine pQ (i := 8) (N := some 23) (bb 18 511) ?_
            refine pQ (i := 9) (N := some 24) (bb 18 1023) ?_
            refine pQ (i := 10) (N := some 25) (bb 18 2047) ?_
            refine pQ (i := 11) (N := some 26) (bb 18 4095) ?_
            refine pQ (i := 13) (N := some 28) (bb 18 12287) ?_
            refine tQ8 (i := 12) (N := some 27) (bb 18 16383) hHeld ?_
            refine tQ8 (i := 14) (N := some 29) (bb 18 32767) hHeld ?_
            refine pQ (i := 15) (N := some 30) (bb 18 65535) ?_
            refine pQ (i := 16) (N := some 31) (bb 18 131071) ?_
            refine pQ (i := 17) (N := some 32) (bb 18 262143) ?_
            refine done_ (done_of HT_.out (by kernel_rfl)) ?_
            try go_wp2
            go_roundg k1
            case measure => have := HK1.out; omega
            case rel => exact ⟨(wrap64 (x10_1 + 1)), (by first | rfl | (simp; done) | (simp [*]; done)), H', ⟨by have := HK1.out; omega⟩, ⟨(bB1 GE187.out)⟩⟩
           ·rw [if_neg c12] at H
            have c12b0 : (Op.bytesLess (((rd_T66 l0 (ji9)).f0).toList) (((rd_T66 l0 x10_1).f0).toList)) = false := by simpa using c12
            clear c12
            obtain rfl := Option.some.inj H
            have p186 : 0 ≤ (x10_1 : Int) := of_decide_eq_true (by first | (with_reducible assumption) | assumption)
            have q186 : x10_1 < (l0.length : Int) := of_decide_eq_true (by first | (with_reducible assumption) | assumption)
            obtain ⟨ad186, e186, hx186_0, hx186_1, hx186_2, hx186_3⟩ := at_T66 HR0.out x10_1 p186 q186
            cases e186
            replace hx186_0 := (HB.out.cell (World.block_lt_of_cell? w _ hx186_0)).trans hx186_0
            replace hx186_1 := (HB.out.cell (World.block_lt_of_cell? w _ hx186_1)).trans hx186_1
            replace hx186_2 := (HB.out.cell (World.block_lt_of_cell? w _ hx186_2)).trans hx186_2
            replace hx186_3 := (HB.out.cell (World.block_lt_of_cell? w _ hx186_3)).trans hx186_3
            replace p186 := eq_true p186
            replace q186 := eq_true q186
            try go_wp2_with (first | ((with_reducible refine gate_dst (N := 4) rfl ?_); refine bE (N := 4) (cs := #[.string (⟨#[]⟩ : ByteArray), .int .i64 0, .int .i64 0, .string (⟨#[]⟩ : ByteArray)]) (t := 66) ?_; intro gb187 hg w18 hbox hb; have n0_ := Aside0.mk (below_step bB0 hb); have n1_ := Aside0.mk (hbox); have n2_ := Aside0.mk ((by rw [hg]; exact (below_size bB0) : w.heap.size ≤ gb187)); have n3_ := Aside0.mk ((by rw [hg]; exact (below_size bB0) : w.heap.size ≤ gb187)); clear HB; have HB := n0_; have BK187 := n1_; have GW187 := n2_; have GE187 := n3_; clear n0_ n1_ n2_ n3_; clear hb hbox hg; have hcz19_0 : w18.cell? ⟨gb187, 0, none⟩ = some (.string (⟨#[]⟩ : ByteArray)) := (blk_cell BK187.out 0).trans rfl; have hcz19_1 : w18.cell? ⟨gb187, 1, none⟩ = some (.int .i64 0) := (blk_cell BK187.out 1).trans rfl; have hcz19_2 : w18.cell? ⟨gb187, 2, none⟩ = some (.int .i64 0) := (blk_cell BK187.out 2).trans rfl; have hcz19_3 : w18.cell? ⟨gb187, 3, none⟩ = some (.string (⟨#[]⟩ : ByteArray)) := (blk_cell BK187.out 3).trans rfl; have hfz19_0 := blk_frozen BK187.out 0; have hfz19_1 := blk_frozen BK187.out 1; have hfz19_2 := blk_frozen BK187.out 2; have hfz19_3 := blk_frozen BK187.out 3))
            have n0_ : Aside0 (((((w18.setCell ⟨gb187, 0, none⟩ (.string ((rd_T66 l0 x10_1).f0))).setCell ⟨gb187, 1, none⟩ (.int .i64 ((rd_T66 l0 x10_1).f1.f0))).setCell ⟨gb187, 2, none⟩ (.int .i64 ((rd_T66 l0 x10_1).f1.f1))).setCell ⟨gb187, 3, none⟩ (.string ((rd_T66 l0 x10_1).f1.f2))).heap[gb187]? = some (.cells #[.string ((rd_T66 l0 x10_1).f0), .int .i64 ((rd_T66 l0 x10_1).f1.f0), .int .i64 ((rd_T66 l0 x10_1).f1.f1), .string ((rd_T66 l0 x10_1).f1.f2)] 66 (0, 0))) := ⟨by refine bk ?_; refine blk_put (cs := #[.string ((rd_T66 l0 x10_1).f0), .int .i64 ((rd_T66 l0 x10_1).f1.f0), .int .i64 ((rd_T66 l0 x10_1).f1.f1), .string (⟨#[]⟩ : ByteArray)]) ?_ 3 _ rfl; refine bk ?_; refine blk_put (cs := #[.string ((rd_T66 l0 x10_1).f0), .int .i64 ((rd_T66 l0 x10_1).f1.f0), .int .i64 0, .string (⟨#[]⟩ : ByteArray)]) ?_ 2 _ rfl; refine bk ?_; refine blk_put (cs := #[.string ((rd_T66 l0 x10_1).f0), .int .i64 0, .int .i64 0, .string (⟨#[]⟩ : ByteArray)]) ?_ 1 _ rfl; refine bk ?_; refine blk_put (cs := #[.string (⟨#[]⟩ : ByteArray), .int .i64 0, .int .i64 0, .string (⟨#[]⟩ : ByteArray)]) ?_ 0 _ rfl; refine bk ?_; exact BK187.out⟩
            have n1_ : Aside0 (Below w.heap.size w ((((w18.setCell ⟨gb187, 0, none⟩ (.string ((rd_T66 l0 x10_1).f0))).setCell ⟨gb187, 1, none⟩ (.int .i64 ((rd_T66 l0 x10_1).f1.f0))).setCell ⟨gb187, 2, none⟩ (.int .i64 ((rd_T66 l0 x10_1).f1.f1))).setCell ⟨gb187, 3, none⟩ (.string ((rd_T66 l0 x10_1).f1.f2)))) := ⟨(bB1 GE187.out)⟩
            (try clear BK187)
            (try clear HB)
            generalize ((((w18.setCell ⟨gb187, 0, none⟩ (.string ((rd_T66 l0 x10_1).f0))).setCell ⟨gb187, 1, none⟩ (.int .i64 ((rd_T66 l0 x10_1).f1.f0))).setCell ⟨gb187, 2, none⟩ (.int .i64 ((rd_T66 l0 x10_1).f1.f1))).setCell ⟨gb187, 3, none⟩ (.string ((rd_T66 l0 x10_1).f1.f2))) = w20 at n0_ n1_ ⊢
            have BK187 := n0_
            have HB := n1_
            clear n0_ n1_
            have n0_ := Aside0.mk (blk_drew BK187.out)
            have n1_ := Aside0.mk (below_drew1 HB.out)
            clear BK187
            clear HB
            have BK187 := n0_
            have HB := n1_
            clear n0_ n1_
            have p189 : 0 ≤ ((ji9) : Int) := of_decide_eq_true (by first | (with_reducible assumption) | assumption)
            have q189 : (ji9) < (l0.length : Int) := of_decide_eq_true (by first | (with_reducible assumption) | assumption)
            obtain ⟨ad189, e189, hx189_0, hx189_1, hx189_2, hx189_3⟩ := at_T66 HR0.out (ji9) p189 q189
            have hw189_3 := hx189_3
            have hw189_2 := hx189_2
            have hw189_1 := hx189_1
            have hw189_0 := hx189_0
            obtain rfl : ad186 = ad189 := (by injection e189)
            replace hx189_0 := (HB.out.cell (World.block_lt_of_cell? w _ hx189_0)).trans hx189_0
            replace hx189_1 := (HB.out.cell (World.block_lt_of_cell? w _ hx189_1)).trans hx189_1
            replace hx189_2 := (HB.out.cell (World.block_lt_of_cell? w _ hx189_2)).trans hx189_2
            replace hx189_3 := (HB.out.cell (World.block_lt_of_cell? w _ hx189_3)).trans hx189_3
            replace p189 := eq_true p189
            replace q189 := eq_true q189
            refine start_ (n := 18) (S := fun w' => w'.cell? ⟨gb187, 0, none⟩ = some (.string ((rd_T66 l0 x10_1).f0)) ∧ w'.cell? ⟨gb187, 1, none⟩ = some (.int .i64 ((rd_T66 l0 x10_1).f1.f0)) ∧ w'.cell? ⟨gb187, 2, none⟩ = some (.int .i64 ((rd_T66 l0 x10_1).f1.f1)) ∧ w'.cell? ⟨gb187, 3, none⟩ = some (.string ((rd_T66 l0 x10_1).f1.f2)) ∧ w'.cell? (ad186.add (((ji9)).toNat * 4)) = some (.string ((rd_T66 l0 (ji9)).f0)) ∧ w'.cell? ⟨(ad186.add (((ji9)).toNat * 4)).block, (ad186.add (((ji9)).toNat * 4)).off + 1, none⟩ = some (.int .i64 ((rd_T66 l0 (ji9)).f1.f0)) ∧ w'.cell? ⟨(ad186.add (((ji9)).toNat * 4)).block, (ad186.add (((ji9)).toNat * 4)).off + 2, none⟩ = some (.int .i64 ((rd_T66 l0 (ji9)).f1.f1)) ∧ w'.cell? ⟨(ad186.add (((ji9)).toNat * 4)).block, (ad186.add (((ji9)).toNat * 4)).off + 3, none⟩ = some (.string ((rd_T66 l0 (ji9)).f1.f2))) (ds := []) #[false, false, false, false, false, false, false, false, false, false, false, false, false, false, false, false, false, false] (by kernel_rfl) rfl rfl ⟨(blk_cell BK187.out 0).trans rfl, (blk_cell BK187.out 1).trans rfl, (blk_cell BK187.out 2).trans rfl, (blk_cell BK187.out 3).trans rfl, ((HB.out.cell (World.block_lt_of_cell? w _ hw189_0)).trans hw189_0), ((HB.out.cell (World.block_lt_of_cell? w _ hw189_1)).trans hw189_1), ((HB.out.cell (World.block_lt_of_cell? w _ hw189_2)).trans hw189_2), ((HB.out.cell (World.block_lt_of_cell? w _ hw189_3)).trans hw189_3)⟩ (fun hHeld => ?_); refine with_tabW subst_Check.tab6 subst_Check.bits6 (fun HT_ HW_ => ?_)
            generalize w20.drew = w21 at BK187 HB hx189_0 hx189_1 hx189_2 hx189_3 hHeld ⊢
            refine tQ8 (i := 0) (N := some 15) (bb 18 1) hHeld ?_
            refine one_ (i := 1) (N := some 16) (bb 18 3) rfl rfl (one_of HT_.out (by kernel_rfl)) (by decide) (fun K hK => ?_)
            refine goes_ Tryz.func64 (by kernel_rfl) rfl #[.agg #[.string ((rd_T66 l0 x10_1).f0), .int .i64 ((rd_T66 l0 x10_1).f1.f0), .int .i64 ((rd_T66 l0 x10_1).f1.f1), .string ((rd_T66 l0 x10_1).f1.f2)]] (by rfl) rfl rfl aG ?_
            with_reducible refine (subst_right.calls k1 ((rd_T66 l0 x10_1).f0) ((rd_T66 l0 x10_1).f1.f0) ((rd_T66 l0 x10_1).f1.f1) ((rd_T66 l0 x10_1).f1.f2) true _ A6.out).mono ?_
            rintro e w22 ⟨rfl, hb⟩
            refine ⟨_, rfl, ?_⟩
            have n0_ := Aside0.mk (blk_below (g := gb187) (o := .cells #[.string ((rd_T66 l0 x10_1).f0), .int .i64 ((rd_T66 l0 x10_1).f1.f0), .int .i64 ((rd_T66 l0 x10_1).f1.f1), .string ((rd_T66 l0 x10_1).f1.f2)] 66 (0, 0)) (by refine bk ?_; exact BK187.out) hb)
            have n1_ := Aside0.mk (below_step (bB1 GE187.out) hb)
            clear BK187
            clear HB
            have BK187 := n0_
            have HB := n1_
            clear n0_ n1_
            (try clear hb)
            (try clear hb2)
            (try clear hk)
            (try clear hi)
            refine hK.out _ _ ⟨(blk_cell BK187.out 0).trans rfl, (blk_cell BK187.out 1).trans rfl, (blk_cell BK187.out 2).trans rfl, (blk_cell BK187.out 3).trans rfl, ((HB.out.cell (World.block_lt_of_cell? w _ hw189_0)).trans hw189_0), ((HB.out.cell (World.block_lt_of_cell? w _ hw189_1)).trans hw189_1), ((HB.out.cell (World.block_lt_of_cell? w _ hw189_2)).trans hw189_2), ((HB.out.cell (World.block_lt_of_cell? w _ hw189_3)).trans hw189_3)⟩ (fun hHeld => ?_)
            clear hK K
            refine norm_ (a' := ?_) ?_ ?_
            rotate_left
            ·show Act.put _ (some 16) _ = _
             simp only [Act.put, List.setIfInBounds_toArray, List.set_cons_zero, List.set_cons_succ, i64_w, i32_w]
             rfl
            refine pQ (i := 2) (N := some 17) (bb 18 7) ?_
            refine pQ (i := 3) (N := some 18) (bb 18 15) ?_
            refine pQ (i := 4) (N := some 19) (bb 18 31) ?_
            refine pQ (i := 5) (N := some 20) (bb 18 63) ?_
            refine pQ (i := 6) (N := some 21) (bb 18 127) ?_
            refine pQ (i := 7) (N := some 22) (bb 18 255) ?_
            refine pQ (i := 8) (N := some 23) (bb 18 511) ?_
            refine pQ (i := 9) (N := some 24) (bb 18 1023) ?_
            refine pQ (i := 10) (N := some 25) (bb 18 2047) ?_
            refine pQ (i := 11) (N := some 26) (bb 18 4095) ?_
            refine pQ (i := 13) (N := some 28) (bb 18 12287) ?_
            refine tQ8 (i := 12) (N := some 27) (bb 18 16383) hHeld ?_
            refine tQ8 (i := 14) (N := some 29) (bb 18 32767) hHeld ?_
            refine pQ (i := 15) (N := some 30) (bb 18 65535) ?_
            refine pQ (i := 16) (N := some 31) (bb 18 131071) ?_
            refine pQ (i := 17) (N := some 32) (bb 18 262143) ?_
            refine done_ (done_of HT_.out (by kernel_rfl)) ?_
            try go_wp2
            go_ret
            exact ⟨by first | rfl | (simp [errW_none, errW_some] <;> rfl) | (simp only [← hji9]; first | rfl | (simp [errW_none, errW_some] <;> rfl)) | (simp [*, errW_none, errW_some] <;> rfl), (bB1 GE187.out)⟩
          ·rw [if_neg c11] at H
           exact absurd H (by simp)
         ·rw [if_neg c10] at H
          exact absurd H (by simp)
        ·rw [if_neg c8] at H
         have c8b0 : decide (0 < x10_1) = false := decide_eq_false c8
         clear c8
         have H' := Aside0.mk H
         clear H
         have p186 : 0 ≤ (x10_1 : Int) := of_decide_eq_true (by first | (with_reducible assumption) | assumption)
         have q186 : x10_1 < (l0.length : Int) := of_decide_eq_true (by first | (with_reducible assumption) | assumption)
         obtain ⟨ad186, e186, hx186_0, hx186_1, hx186_2, hx186_3⟩ := at_T66 HR0.out x10_1 p186 q186
         cases e186
         replace hx186_0 := (HB.out.cell (World.block_lt_of_cell? w _ hx186_0)).trans hx186_0
         replace hx186_1 := (HB.out.cell (World.block_lt_of_cell? w _ hx186_1)).trans hx186_1
         replace hx186_2 := (HB.out.cell (World.block_lt_of_cell? w _ hx186_2)).trans hx186_2
         replace hx186_3 := (HB.out.cell (World.block_lt_of_cell? w _ hx186_3)).trans hx186_3
         replace p186 := eq_true p186
         replace q186 := eq_true q186
         try go_wp2_with (first | ((with_reducible refine gate_dst (N := 4) rfl ?_); refine bE (N := 4) (cs := #[.string (⟨#[]⟩ : ByteArray), .int .i64 0, .int .i64 0, .string (⟨#[]⟩ : ByteArray)]) (t := 66) ?_; intro gb187 hg w23 hbox hb; have n0_ := Aside0.mk (below_step bB0 hb); have n1_ := Aside0.mk (hbox); have n2_ := Aside0.mk ((by rw [hg]; exact (below_size bB0) : w.heap.size ≤ gb187)); have n3_ := Aside0.mk ((by rw [hg]; exact (below_size bB0) : w.heap.size ≤ gb187)); clear HB; have HB := n0_; have BK187 := n1_; have GW187 := n2_; have GE187 := n3_; clear n0_ n1_ n2_ n3_; clear hb hbox hg; have hcz24_0 : w23.cell? ⟨gb187, 0, none⟩ = some (.string (⟨#[]⟩ : ByteArray)) := (blk_cell BK187.out 0).trans rfl; have hcz24_1 : w23.cell? ⟨gb187, 1, none⟩ = some (.int .i64 0) := (blk_cell BK187.out 1).trans rfl; have hcz24_2 : w23.cell? ⟨gb187, 2, none⟩ = some (.int .i64 0) := (blk_cell BK187.out 2).trans rfl; have hcz24_3 : w23.cell? ⟨gb187, 3, none⟩ = some (.string (⟨#[]⟩ : ByteArray)) := (blk_cell BK187.out 3).trans rfl; have hfz24_0 := blk_frozen BK187.out 0; have hfz24_1 := blk_frozen BK187.out 1; have hfz24_2 := blk_frozen BK187.out 2; have hfz24_3 := blk_frozen BK187.out 3))
         have n0_ : Aside0 (((((w23.setCell ⟨gb187, 0, none⟩ (.string ((rd_T66 l0 x10_1).f0))).setCell ⟨gb187, 1, none⟩ (.int .i64 ((rd_T66 l0 x10_1).f1.f0))).setCell ⟨gb187, 2, none⟩ (.int .i64 ((rd_T66 l0 x10_1).f1.f1))).setCell ⟨gb187, 3, none⟩ (.string ((rd_T66 l0 x10_1).f1.f2))).heap[gb187]? = some (.cells #[.string ((rd_T66 l0 x10_1).f0), .int .i64 ((rd_T66 l0 x10_1).f1.f0), .int .i64 ((rd_T66 l0 x10_1).f1.f1), .string ((rd_T66 l0 x10_1).f1.f2)] 66 (0, 0))) := ⟨by refine bk ?_; refine blk_put (cs := #[.string ((rd_T66 l0 x10_1).f0), .int .i64 ((rd_T66 l0 x10_1).f1.f0), .int .i64 ((rd_T66 l0 x10_1).f1.f1), .string (⟨#[]⟩ : ByteArray)]) ?_ 3 _ rfl; refine bk ?_; refine blk_put (cs := #[.string ((rd_T66 l0 x10_1).f0), .int .i64 ((rd_T66 l0 x10_1).f1.f0), .int .i64 0, .string (⟨#[]⟩ : ByteArray)]) ?_ 2 _ rfl; refine bk ?_; refine blk_put (cs := #[.string ((rd_T66 l0 x10_1).f0), .int .i64 0, .int .i64 0, .string (⟨#[]⟩ : ByteArray)]) ?_ 1 _ rfl; refine bk ?_; refine blk_put (cs := #[.string (⟨#[]⟩ : ByteArray), .int .i64 0, .int .i64 0, .string (⟨#[]⟩ : ByteArray)]) ?_ 0 _ rfl; refine bk ?_; exact BK187.out⟩
         have n1_ : Aside0 (Below w.heap.size w ((((w23.setCell ⟨gb187, 0, none⟩ (.string ((rd_T66 l0 x10_1).f0))).setCell ⟨gb187, 1, none⟩ (.int .i64 ((rd_T66 l0 x10_1).f1.f0))).setCell ⟨gb187, 2, none⟩ (.int .i64 ((rd_T66 l0 x10_1).f1.f1))).setCell ⟨gb187, 3, none⟩ (.string ((rd_T66 l0 x10_1).f1.f2)))) := ⟨(bB1 GE187.out)⟩
         (try clear BK187)
         (try clear HB)
         generalize ((((w23.setCell ⟨gb187, 0, none⟩ (.string ((rd_T66 l0 x10_1).f0))).setCell ⟨gb187, 1, none⟩ (.int .i64 ((rd_T66 l0 x10_1).f1.f0))).setCell ⟨gb187, 2, none⟩ (.int .i64 ((rd_T66 l0 x10_1).f1.f1))).setCell ⟨gb187, 3, none⟩ (.string ((rd_T66 l0 x10_1).f1.f2))) = w25 at n0_ n1_ ⊢
         have BK187 := n0_
         have HB := n1_
         clear n0_ n1_
         have n0_ := Aside0.mk (blk_drew BK187.out)
         have n1_ := Aside0.mk (below_drew1 HB.out)
         clear BK187
         clear HB
         have BK187 := n0_
         have HB := n1_
         clear n0_ n1_
         refine start_ (n := 18) (S := fun w' => w'.cell? ⟨gb187, 0, none⟩ = some (.string ((rd_T66 l0 x10_1).f0)) ∧ w'.cell? ⟨gb187, 1, none⟩ = some (.int .i64 ((rd_T66 l0 x10_1).f1.f0)) ∧ w'.cell? ⟨gb187, 2, none⟩ = some (.int .i64 ((rd_T66 l0 x10_1).f1.f1)) ∧ w'.cell? ⟨gb187, 3, none⟩ = some (.string ((rd_T66 l0 x10_1).f1.f2))) (ds := []) #[false, false, false, false, false, false, false, false, false, false, false, false, false, false, false, false, false, false] (by kernel_rfl) rfl rfl ⟨(blk_cell BK187.out 0).trans rfl, (blk_cell BK187.out 1).trans rfl, (blk_cell BK187.out 2).trans rfl, (blk_cell BK187.out 3).trans rfl⟩ (fun hHeld => ?_); refine with_tabW subst_Check.tab6 subst_Check.bits6 (fun HT_ HW_ => ?_)
         generalize w25.drew = w26 at BK187 HB hHeld ⊢
         refine tQ4 (i := 0) (N := some 15) (bb 18 1) hHeld ?_
         refine one_ (i := 1) (N := some 16) (bb 18 3) rfl rfl (one_of HT_.out (by kernel_rfl)) (by decide) (fun K hK => ?_)
         refine goes_ Tryz.func64 (by kernel_rfl) rfl #[.agg #[.string ((rd_T66 l0 x10_1).f0), .int .i64 ((rd_T66 l0 x10_1).f1.f0), .int .i64 ((rd_T66 l0 x10_1).f1.f1), .string ((rd_T66 l0 x10_1).f1.f2)]] (by rfl) rfl rfl aG ?_
         with_reducible refine (subst_right.calls k1 ((rd_T66 l0 x10_1).f0) ((rd_T66 l0 x10_1).f1.f0) ((rd_T66 l0 x10_1).f1.f1) ((rd_T66 l0 x10_1).f1.f2) true _ A6.out).mono ?_
         rintro e w27 ⟨rfl, hb⟩
         refine ⟨_, rfl, ?_⟩
         have n0_ := Aside0.mk (blk_below (g := gb187) (o := .cells #[.string ((rd_T66 l0 x10_1).f0), .int .i64 ((rd_T66 l0 x10_1).f1.f0), .int .i64 ((rd_T66 l0 x10_1).f1.f1), .string ((rd_T66 l0 x10_1).f1.f2)] 66 (0, 0)) (by refine bk ?_; exact BK187.out) hb)
         have n1_ := Aside0.mk (below_step (bB1 GE187.out) hb)
         clear BK187
         clear HB
         have BK187 := n0_
         have HB := n1_
         clear n0_ n1_
         (try clear hb)
         (try clear hb2)
         (try clear hk)
         (try clear hi)
         refine hK.out _ _ ⟨(blk_cell BK187.out 0).trans rfl, (blk_cell BK187.out 1).trans rfl, (blk_cell BK187.out 2).trans rfl, (blk_cell BK187.out 3).trans rfl⟩ (fun hHeld => ?_)
         clear hK K
         refine norm_ (a' := ?_) ?_ ?_
         rotate_left
         ·show Act.put _ (some 16) _ = _
          simp only [Act.put, List.setIfInBounds_toArray, List.set_cons_zero, List.set_cons_succ, i64_w, i32_w]
          rfl
         refine pQ (i := 2) (N := some 17) (bb 18 7) ?_
         refine pQ (i := 3) (N := some 18) (bb 18 15) ?_
         refine pQ (i := 4) (N := some 19) (bb 18 31) ?_
         refine pQ (i := 5) (N := some 20) (bb 18 63) ?_
         refine pQ (i := 6) (N := some 21) (bb 18 127) ?_
         refine pure_ (i := 7) (N := some 22) (v := undef) (a' := ?_) (bb 18 255) rfl rfl (any_of HT_.out (by kernel_rfl)) (fun _ _ _ h => h) (Or.inr ⟨by rfl, rfl⟩) ?_ ?_
         rotate_left
         ·simp only [Act.put, List.setIfInBounds_toArray, List.set_cons_zero, List.set_cons_succ, i64_w, i32_w]
          rfl
         refine pure_ (i := 8) (N := some 23) (v := undef) (a' := ?_) (bb 18 511) rfl rfl (any_of HT_.out (by kernel_rfl)) (fun _ _ _ h => h) (Or.inr ⟨by rfl, rfl⟩) ?_ ?_
         rotate_left
         ·simp only [Act.put, List.setIfInBounds_toArray, List.set_cons_zero, List.set_cons_succ, i64_w, i32_w]
          rfl
         refine pure_ (i := 9) (N := some 24) (v := undef) (a' := ?_) (bb 18 1023) rfl rfl (any_of HT_.out (by kernel_rfl)) (fun _ _ _ h => h) (Or.inr ⟨by rfl, rfl⟩) ?_ ?_
         rotate_left
         ·simp only [Act.put, List.setIfInBounds_toArray, List.set_cons_zero, List.set_cons_succ, i64_w, i32_w]
          rfl
         refine pure_ (i := 10) (N := some 25) (v := undef) (a' := ?_) (bb 18 2047) rfl rfl (any_of HT_.out (by kernel_rfl)) (fun _ _ _ h => h) (Or.inr ⟨by rfl, rfl⟩) ?_ ?_
         rotate_left
         ·simp only [Act.put, List.setIfInBounds_toArray, List.set_cons_zero, List.set_cons_succ, i64_w, i32_w]
          rfl
         refine pure_ (i := 11) (N := some 26) (v := undef) (a' := ?_) (bb 18 4095) rfl rfl (any_of HT_.out (by kernel_rfl)) (fun _ _ _ h => h) (Or.inr ⟨by rfl, rfl⟩) ?_ ?_
         rotate_left
         ·simp only [Act.put, List.setIfInBounds_toArray, List.set_cons_zero, List.set_cons_succ, i64_w, i32_w]
          rfl
         refine pure_ (i := 12) (N := some 27) (v := undef) (a' := ?_) (bb 18 8191) rfl rfl (any_of HT_.out (by kernel_rfl)) (fun _ _ _ h => h) (Or.inr ⟨by rfl, rfl⟩) ?_ ?_
         rotate_left
         ·simp only [Act.put, List.setIfInBounds_toArray, List.set_cons_zero, List.set_cons_succ, i64_w, i32_w]
          rfl
         refine pure_ (i := 13) (N := some 28) (v := undef) (a' := ?_) (bb 18 16383) rfl rfl (any_of HT_.out (by kernel_rfl)) (fun _ _ _ h => h) (Or.inr ⟨by rfl, rfl⟩) ?_ ?_
         rotate_left
         ·simp only [Act.put, List.setIfInBounds_toArray, List.set_cons_zero, List.set_cons_succ, i64_w, i32_w]
          rfl
         refine pure_ (i := 14) (N := some 29) (v := undef) (a' := ?_) (bb 18 32767) rfl rfl (any_of HT_.out (by kernel_rfl)) (fun _ _ _ h => h) (Or.inr ⟨by rfl, rfl⟩) ?_ ?_
         rotate_left
         ·simp only [Act.put, List.setIfInBounds_toArray, List.set_cons_zero, List.set_cons_succ, i64_w, i32_w]
          rfl
         refine pure_ (i := 15) (N := some 30) (v := undef) (a' := ?_) (bb 18 65535) rfl rfl (any_of HT_.out (by kernel_rfl)) (fun _ _ _ h => h) (Or.inr ⟨by rfl, rfl⟩) ?_ ?_
         rotate_left
         ·simp only [Act.put, List.setIfInBounds_toArray, List.set_cons_zero, List.set_cons_succ, i64_w, i32_w]
          rfl
         refine pQ (i := 16) (N := some 31) (bb 18 131071) ?_
         refine pQ (i := 17) (N := some 32) (bb 18 262143) ?_
         refine done_ (done_of HT_.out (by kernel_rfl)) ?_
         try go_wp2
         go_roundg k1
         case measure => have := HK1.out; omega
         case rel => exact ⟨(wrap64 (x10_1 + 1)), (by first | rfl | (simp; done) | (simp [*]; done)), H', ⟨by have := HK1.out; omega⟩, ⟨(bB1 GE187.out)⟩⟩
       ·replace c7 := Bool.eq_false_iff.mpr c7
        subst c7
        have H1 : (some 1) = some r := by rw [if_neg (show ¬ (false = true) by decide)] at H; exact H
        clear H
        have H := H1
        clear H1
        obtain rfl := Option.some.inj H
        have p186 : 0 ≤ (x10_1 : Int) := of_decide_eq_true (by first | (with_reducible assumption) | assumption)
        have q186 : x10_1 < (l0.length : Int) := of_decide_eq_true (by first | (with_reducible assumption) | assumption)
        obtain ⟨ad186, e186, hx186_0, hx186_1, hx186_2, hx186_3⟩ := at_T66 HR0.out x10_1 p186 q186
        cases e186
        replace hx186_0 := (HB.out.cell (World.block_lt_of_cell? w _ hx186_0)).trans hx186_0
        replace hx186_1 := (HB.out.cell (World.block_lt_of_cell? w _ hx186_1)).trans hx186_1
        replace hx186_2 := (HB.out.cell (World.block_lt_of_cell? w _ hx186_2)).trans hx186_2
        replace hx186_3 := (HB.out.cell (World.block_lt_of_cell? w _ hx186_3)).trans hx186_3
        replace p186 := eq_true p186
        replace q186 := eq_true q186
        try go_wp2_with (first | ((with_reducible refine gate_dst (N := 4) rfl ?_); refine bE (N := 4) (cs := #[.string (⟨#[]⟩ : ByteArray), .int .i64 0, .int .i64 0, .string (⟨#[]⟩ : ByteArray)]) (t := 66) ?_; intro gb187 hg w28 hbox hb; have n0_ := Aside0.mk (below_step bB0 hb); have n1_ := Aside0.mk (hbox); have n2_ := Aside0.mk ((by rw [hg]; exact (below_size bB0) : w.heap.size ≤ gb187)); have n3_ := Aside0.mk ((by rw [hg]; exact (below_size bB0) : w.heap.size ≤ gb187)); clear HB; have HB := n0_; have BK187 := n1_; have GW187 := n2_; have GE187 := n3_; clear n0_ n1_ n2_ n3_; clear hb hbox hg; have hcz29_0 : w28.cell? ⟨gb187, 0, none⟩ = some (.string (⟨#[]⟩ : ByteArray)) := (blk_cell BK187.out 0).trans rfl; have hcz29_1 : w28.cell? ⟨gb187, 1, none⟩ = some (.int .i64 0) := (blk_cell BK187.out 1).trans rfl; have hcz29_2 : w28.cell? ⟨gb187, 2, none⟩ = some (.int .i64 0) := (blk_cell BK187.out 2).trans rfl; have hcz29_3 : w28.cell? ⟨gb187, 3, none⟩ = some (.string (⟨#[]⟩ : ByteArray)) := (blk_cell BK187.out 3).trans rfl; have hfz29_0 := blk_frozen BK187.out 0; have hfz29_1 := blk_frozen BK187.out 1; have hfz29_2 := blk_frozen BK187.out 2; have hfz29_3 := blk_frozen BK187.out 3))
        have n0_ : Aside0 (((((w28.setCell ⟨gb187, 0, none⟩ (.string ((rd_T66 l0 x10_1).f0))).setCell ⟨gb187, 1, none⟩ (.int .i64 ((rd_T66 l0 x10_1).f1.f0))).setCell ⟨gb187, 2, none⟩ (.int .i64 ((rd_T66 l0 x10_1).f1.f1))).setCell ⟨gb187, 3, none⟩ (.string ((rd_T66 l0 x10_1).f1.f2))).heap[gb187]? = some (.cells #[.string ((rd_T66 l0 x10_1).f0), .int .i64 ((rd_T66 l0 x10_1).f1.f0), .int .i64 ((rd_T66 l0 x10_1).f1.f1), .string ((rd_T66 l0 x10_1).f1.f2)] 66 (0, 0))) := ⟨by refine bk ?_; refine blk_put (cs := #[.string ((rd_T66 l0 x10_1).f0), .int .i64 ((rd_T66 l0 x10_1).f1.f0), .int .i64 ((rd_T66 l0 x10_1).f1.f1), .string (⟨#[]⟩ : ByteArray)]) ?_ 3 _ rfl; refine bk ?_; refine blk_put (cs := #[.string ((rd_T66 l0 x10_1).f0), .int .i64 ((rd_T66 l0 x10_1).f1.f0), .int .i64 0, .string (⟨#[]⟩ : ByteArray)]) ?_ 2 _ rfl; refine bk ?_; refine blk_put (cs := #[.string ((rd_T66 l0 x10_1).f0), .int .i64 0, .int .i64 0, .string (⟨#[]⟩ : ByteArray)]) ?_ 1 _ rfl; refine bk ?_; refine blk_put (cs := #[.string (⟨#[]⟩ : ByteArray), .int .i64 0, .int .i64 0, .string (⟨#[]⟩ : ByteArray)]) ?_ 0 _ rfl; refine bk ?_; exact BK187.out⟩
        have n1_ : Aside0 (Below w.heap.size w ((((w28.setCell ⟨gb187, 0, none⟩ (.string ((rd_T66 l0 x10_1).f0))).setCell ⟨gb187, 1, none⟩ (.int .i64 ((rd_T66 l0 x10_1).f1.f0))).setCell ⟨gb187, 2, none⟩ (.int .i64 ((rd_T66 l0 x10_1).f1.f1))).setCell ⟨gb187, 3, none⟩ (.string ((rd_T66 l0 x10_1).f1.f2)))) := ⟨(bB1 GE187.out)⟩
        (try clear BK187)
        (try clear HB)
        generalize ((((w28.setCell ⟨gb187, 0, none⟩ (.string ((rd_T66 l0 x10_1).f0))).setCell ⟨gb187, 1, none⟩ (.int .i64 ((rd_T66 l0 x10_1).f1.f0))).setCell ⟨gb187, 2, none⟩ (.int .i64 ((rd_T66 l0 x10_1).f1.f1))).setCell ⟨gb187, 3, none⟩ (.string ((rd_T66 l0 x10_1).f1.f2))) = w30 at n0_ n1_ ⊢
        have BK187 := n0_
        have HB := n1_
        clear n0_ n1_
        have n0_ := Aside0.mk (blk_drew BK187.out)
        have n1_ := Aside0.mk (below_drew1 HB.out)
        clear BK187
        clear HB
        have BK187 := n0_
        have HB := n1_
        clear n0_ n1_
        refine start_ (n := 18) (S := fun w' => w'.cell? ⟨gb187, 0, none⟩ = some (.string ((rd_T66 l0 x10_1).f0)) ∧ w'.cell? ⟨gb187, 1, none⟩ = some (.int .i64 ((rd_T66 l0 x10_1).f1.f0)) ∧ w'.cell? ⟨gb187, 2, none⟩ = some (.int .i64 ((rd_T66 l0 x10_1).f1.f1)) ∧ w'.cell? ⟨gb187, 3, none⟩ = some (.string ((rd_T66 l0 x10_1).f1.f2))) (ds := []) #[false, false, false, false, false, false, false, false, false, false, false, false, false, false, false, false, false, false] (by kernel_rfl) rfl rfl ⟨(blk_cell BK187.out 0).trans rfl, (blk_cell BK187.out 1).trans rfl, (blk_cell BK187.out 2).trans rfl, (blk_cell BK187.out 3).trans rfl⟩ (fun hHeld => ?_); refine with_tabW subst_Check.tab6 subst_Check.bits6 (fun HT_ HW_ => ?_)
        generalize w30.drew = w31 at BK187 HB hHeld ⊢
        refine tQ4 (i := 0) (N := some 15) (bb 18 1) hHeld ?_
        refine one_ (i := 1) (N := some 16) (bb 18 3) rfl rfl (one_of HT_.out (by kernel_rfl)) (by decide) (fun K hK => ?_)
        refine goes_ Tryz.func64 (by kernel_rfl) rfl #[.agg #[.string ((rd_T66 l0 x10_1).f0), .int .i64 ((rd_T66 l0 x10_1).f1.f0), .int .i64 ((rd_T66 l0 x10_1).f1.f1), .string ((rd_T66 l0 x10_1).f1.f2)]] (by rfl) rfl rfl aG ?_
        with_reducible refine (subst_right.calls k1 ((rd_T66 l0 x10_1).f0) ((rd_T66 l0 x10_1).f1.f0) ((rd_T66 l0 x10_1).f1.f1) ((rd_T66 l0 x10_1).f1.f2) false _ A6.out).mono ?_
        rintro e w32 ⟨rfl, hb⟩
        refine ⟨_, rfl, ?_⟩
        have n0_ := Aside0.mk (blk_below (g := gb187) (o := .cells #[.string ((rd_T66 l0 x10_1).f0), .int .i64 ((rd_T66 l0 x10_1).f1.f0), .int .i64 ((rd_T66 l0 x10_1).f1.f1), .string ((rd_T66 l0 x10_1).f1.f2)] 66 (0, 0)) (by refine bk ?_; exact BK187.out) hb)
        have n1_ := Aside0.mk (below_step (bB1 GE187.out) hb)
        clear BK187
        clear HB
        have BK187 := n0_
        have HB := n1_
        clear n0_ n1_
        (try clear hb)
        (try clear hb2)
        (try clear hk)
        (try clear hi)
        refine hK.out _ _ ⟨(blk_cell BK187.out 0).trans rfl, (blk_cell BK187.out 1).trans rfl, (blk_cell BK187.out 2).trans rfl, (blk_cell BK187.out 3).trans rfl⟩ (fun hHeld => ?_)
        clear hK K
        refine norm_ (a' := ?_) ?_ ?_
        rotate_left
        ·show Act.put _ (some 16) _ = _
         simp only [Act.put, List.setIfInBounds_toArray, List.set_cons_zero, List.set_cons_succ, i64_w, i32_w]
         rfl
        refine pQ (i := 2) (N := some 17) (bb 18 7) ?_
        refine pQ (i := 3) (N := some 18) (bb 18 15) ?_
        refine pure_ (i := 4) (N := some 19) (v := undef) (a' := ?_) (bb 18 31) rfl rfl (any_of HT_.out (by kernel_rfl)) (fun _ _ _ h => h) (Or.inr ⟨by rfl, rfl⟩) ?_ ?_
        rotate_left
        ·simp only [Act.put, List.setIfInBounds_toArray, List.set_cons_zero, List.set_cons_succ, i64_w, i32_w]
         rfl
        refine pure_ (i := 5) (N := some 20) (v := undef) (a' := ?_) (bb 18 63) rfl rfl (any_of HT_.out (by kernel_rfl)) (fun _ _ _ h => h) (Or.inr ⟨by rfl, rfl⟩) ?_ ?_
        rotate_left
        ·simp only [Act.put, List.setIfInBounds_toArray, List.set_cons_zero, List.set_cons_succ, i64_w, i32_w]
         rfl
        refine pure_ (i := 6) (N := some 21) (v := undef) (a' := ?_) (bb 18 127) rfl rfl (any_of HT_.out (by kernel_rfl)) (fun _ _ _ h => h) (Or.inr ⟨by rfl, rfl⟩) ?_ ?_
        rotate_left
        ·simp only [Act.put, List.setIfInBounds_toArray, List.set_cons_zero, List.set_cons_succ, i64_w, i32_w]
         rfl
        refine pure_ (i := 7) (N := some 22) (v := undef) (a' := ?_) (bb 18 255) rfl rfl (any_of HT_.out (by kernel_rfl)) (fun _ _ _ h => h) (Or.inr ⟨by rfl, rfl⟩) ?_ ?_
        rotate_left
        ·simp only [Act.put, List.setIfInBounds_toArray, List.set_cons_zero, List.set_cons_succ, i64_w, i32_w]
         rfl
        refine pure_ (i := 8) (N := some 23) (v := undef) (a' := ?_) (bb 18 511) rfl rfl (any_of HT_.out (by kernel_rfl)) (fun _ _ _ h => h) (Or.inr ⟨by rfl, rfl⟩) ?_ ?_
        rotate_left
        ·simp only [Act.put, List.setIfInBounds_toArray, List.set_cons_zero, List.set_cons_succ, i64_w, i32_w]
         rfl
        refine pure_ (i := 9) (N := some 24) (v := undef) (a' := ?_) (bb 18 1023) rfl rfl (any_of HT_.out (by kernel_rfl)) (fun _ _ _ h => h) (Or.inr ⟨by rfl, rfl⟩) ?_ ?_
        rotate_left
        ·simp only [Act.put, List.setIfInBounds_toArray, List.set_cons_zero, List.set_cons_succ, i64_w, i32_w]
         rfl
        refine pure_ (i := 10) (N := some 25) (v := undef) (a' := ?_) (bb 18 2047) rfl rfl (any_of HT_.out (by kernel_rfl)) (fun _ _ _ h => h) (Or.inr ⟨by rfl, rfl⟩) ?_ ?_
        rotate_left
        ·simp only [Act.put, List.setIfInBounds_toArray, List.set_cons_zero, List.set_cons_succ, i64_w, i32_w]
         rfl
        refine pure_ (i := 11) (N := some 26) (v := undef) (a' := ?_) (bb 18 4095) rfl rfl (any_of HT_.out (by kernel_rfl)) (fun _ _ _ h => h) (Or.inr ⟨by rfl, rfl⟩) ?_ ?_
        rotate_left
        ·simp only [Act.put, List.setIfInBounds_toArray, List.set_cons_zero, List.set_cons_succ, i64_w, i32_w]
         rfl
        refine pure_ (i := 12) (N := some 27) (v := undef) (a' := ?_) (bb 18 8191) rfl rfl (any_of HT_.out (by kernel_rfl)) (fun _ _ _ h => h) (Or.inr ⟨by rfl, rfl⟩) ?_ ?_
        rotate_left
        ·simp only [Act.put, List.setIfInBounds_toArray, List.set_cons_zero, List.set_cons_succ, i64_w, i32_w]
         rfl
        refine pure_ (i := 13) (N := some 28) (v := undef) (a' := ?_) (bb 18 16383) rfl rfl (any_of HT_.out (by kernel_rfl)) (fun _ _ _ h => h) (Or.inr ⟨by rfl, rfl⟩) ?_ ?_
        rotate_left
        ·simp only [Act.put, List.setIfInBounds_toArray, List.set_cons_zero, List.set_cons_succ, i64_w, i32_w]
         rfl
        refine pure_ (i := 14) (N := some 29) (v := undef) (a' := ?_) (bb 18 32767) rfl rfl (any_of HT_.out (by kernel_rfl)) (fun _ _ _ h => h) (Or.inr ⟨by rfl, rfl⟩) ?_ ?_
        rotate_left
        ·simp only [Act.put, List.setIfInBounds_toArray, List.set_cons_zero, List.set_cons_succ, i64_w, i32_w]
         rfl
        refine pure_ (i := 15) (N := some 30) (v := undef) (a' := ?_) (bb 18 65535) rfl rfl (any_of HT_.out (by kernel_rfl)) (fun _ _ _ h => h) (Or.inr ⟨by rfl, rfl⟩) ?_ ?_
        rotate_left
        ·simp only [Act.put, List.setIfInBounds_toArray, List.set_cons_zero, List.set_cons_succ, i64_w, i32_w]
         rfl
        refine pure_ (i := 16) (N := some 31) (v := undef) (a' := ?_) (bb 18 131071) rfl rfl (any_of HT_.out (by kernel_rfl)) (fun _ _ _ h => h) (Or.inr ⟨by rfl, rfl⟩) ?_ ?_
        rotate_left
        ·simp only [Act.put, List.setIfInBounds_toArray, List.set_cons_zero, List.set_cons_succ, i64_w, i32_w]
         rfl
        refine pQ (i := 17) (N := some 32) (bb 18 262143) ?_
        refine done_ (done_of HT_.out (by kernel_rfl)) ?_
        try go_wp2
        go_ret
        exact ⟨eW, (bB1 GE187.out)⟩
      ·rw [if_neg c5] at H
       exact absurd H (by simp)
     ·rw [if_neg c4] at H
      exact absurd H (by simp)
    ·rw [if_neg c3] at H
     have c3b0 : decide (x10_1 < (l0.length : Int)) = false := decide_eq_false c3
     clear c3
     obtain rfl := Option.some.inj H
     go_wp2
     go_ret
     exact ⟨eW, bB0⟩

end Go.Proofs.YtghommaokdhjmaaGreat.P
/- What subst.Check answers, as a plain function: the printed function answers it from some number of rounds on. -/
namespace Go.Proofs.YtghommaokdhjmaaGreat.PSpec
open Go.RowKit Go.Proofs.YtghommaokdhjmaaGreatW.PrintWords Go.Proofs.YtghommaokdhjmaaGreatW.PrintLast Gate P
theorem var_loop (s : ByteArray) (hs : s.size ≤ 1000000) : ∀ (m i K : Nat), i + m = s.size → m < K → subst_Var.l0 K s (s.size : Int) i = some (allFrom (fun i => letP (bt s i)) m i) := by
 intro m
 induction m with
 | zero =>
  intro i K h hK
  obtain ⟨K, rfl⟩ : ∃ q, K = q + 1 := ⟨K - 1, by omega⟩
  rw [subst_Var.l0, if_neg (by omega)]; rfl
 | succ m ih =>
  intro i K h hK
  obtain ⟨K, rfl⟩ : ∃ q, K = q + 1 := ⟨K - 1, by omega⟩
  rw [subst_Var.l0, if_pos (by omega), if_pos (by omega), if_pos (by omega), letP_eq, Option.bind_some, w64 hs (show i < s.size by omega), ih (i + 1) K (by omega) (by omega), allFrom]
  cases letP (bt s i) <;> rfl
theorem varP_eq (s : ByteArray) (K : Nat) (hK : 30 ≤ K) : subst_Var.f K s = some (varP s) := by
 have jt : subst_Var.j0 K s true = some false := by
  obtain ⟨K, rfl⟩ : ∃ q, K = q + 1 := ⟨K - 1, by omega⟩
  rw [subst_Var.j0, if_pos rfl]
 unfold subst_Var.f varP
 by_cases h1 : s.size < 1
 ·rw [if_pos (by omega), jt]; simp [show ¬ 1 ≤ s.size by omega]
 ·rw [if_neg (by omega)]
  by_cases h2 : s.size > 24
  ·rw [if_pos (by omega), jt]; simp [show ¬ s.size ≤ 24 by omega]
  ·rw [if_neg (by omega), if_pos (by omega)]
   by_cases h3 : bt s 0 < 65
   ·rw [if_pos h3, jt]; simp [show ¬ 65 ≤ bt s 0 by omega]
   ·rw [if_neg h3]
    by_cases h4 : bt s 0 > 90
    ·rw [decide_eq_true h4, jt]; simp [show ¬ bt s 0 ≤ 90 by omega]
    ·rw [decide_eq_false h4]
     obtain ⟨K, rfl⟩ : ∃ q, K = q + 1 := ⟨K - 1, by omega⟩
     rw [subst_Var.j0, if_neg (by simp), show (0 : Int) = ((0 : Nat) : Int) from rfl, var_loop s (by omega) s.size 0 K (by omega) (by omega)]
     simp [show 1 ≤ s.size by omega, show s.size ≤ 24 by omega, show 65 ≤ bt s 0 by omega, show bt s 0 ≤ 90 by omega, varAll]
def rightP (x : S66) : Bool := varP x.f0 && (valP x.f1.f0 x.f1.f1 x.f1.f2 == 0)
theorem rightP_eq (x : S66) (hs : x.f1.f2.size ≤ 1000000) (K : Nat) (hK : x.f1.f2.size + 40 ≤ K) : subst_right.f K x.f0 x.f1.f0 x.f1.f1 x.f1.f2 = some (rightP x) := by
 unfold subst_right.f rightP
 rw [varP_eq _ K (by omega), valP_eq _ _ _ hs K hK]
 simp only [Option.bind_some]
 cases varP x.f0 <;> rfl
def fitB (l : List S66) : Bool := l.all fun x => decide (x.f0.size ≤ 1000000) && decide (x.f1.f2.size ≤ 1000000)
theorem fitB_at {l : List S66} (h : fitB l = true) {i : Nat} (hi : i < l.length) : (rd_T66 l i).f0.size ≤ 1000000 ∧ (rd_T66 l i).f1.f2.size ≤ 1000000 := by
 unfold fitB at h
 rw [List.all_eq_true] at h
 have := h _ (List.getElem_mem hi)
 rw [Bool.and_eq_true, decide_eq_true_eq, decide_eq_true_eq] at this
 unfold rd_T66
 rw [Int.toNat_natCast, List.getD_eq_getElem?_getD, List.getElem?_eq_getElem hi]
 exact this
def chkT (l : List S66) (i : Nat) : Bool := rightP (rd_T66 l i) && (decide (i = 0) || Op.bytesLess (rd_T66 l ((i - 1 : Nat) : Int)).f0.toList (rd_T66 l i).f0.toList)
def chkP (l : List S66) : Int := if l.length > 100 then 1 else if allFrom (chkT l) l.length 0 then 0 else 1
theorem chk_loop (l : List S66) (hf : fitB l = true) (hl : l.length ≤ 1000000) : ∀ (m i K : Nat), i + m = l.length → m + 1000100 ≤ K → subst_Check.l0 K l l (l.length : Int) i = some (if allFrom (chkT l) m i then 0 else 1) := by
 intro m
 induction m with
 | zero =>
  intro i K h hK
  obtain ⟨K, rfl⟩ : ∃ q, K = q + 1 := ⟨K - 1, by omega⟩
  rw [subst_Check.l0, if_neg (by omega)]; rfl
 | succ m ih =>
  intro i K h hK
  obtain ⟨K, rfl⟩ : ∃ q, K = q + 1 := ⟨K - 1, by omega⟩
  have hfi := fitB_at hf (show i < l.length by omega)
  rw [subst_Check.l0, if_pos (by omega), if_pos (by omega), if_pos (by omega), rightP_eq _ hfi.2 K (by omega), Option.bind_some, w64 hl (show i < l.length by omega), ih (i + 1) K (by omega) (by omega), allFrom]
  have hw : i ≠ 0 → wrap64 ((i : Int) - 1) = ((i - 1 : Nat) : Int) := fun h => by unfold wrap64; omega
  unfold chkT
  cases hr : rightP (rd_T66 l i)
  ·simp
  ·by_cases h0 : i = 0
   ·subst h0; simp
   ·rw [if_pos rfl, if_pos (by omega), hw h0, if_pos (by omega), if_pos (by omega)]
    cases hb : Op.bytesLess (rd_T66 l ((i - 1 : Nat) : Int)).f0.toList (rd_T66 l i).f0.toList <;> simp [h0]
theorem chkP_eq (l : List S66) (hf : fitB l = true) : subst_Check.f 1000300 l = some (chkP l) := by
 unfold subst_Check.f chkP
 by_cases h : l.length > 100
 ·rw [if_pos (by omega), if_pos h]
 ·rw [if_neg (by omega), if_neg h, show (0 : Int) = ((0 : Nat) : Int) from rfl, chk_loop l hf (by omega) l.length 0 _ (by omega) (by omega)]
  split <;> rfl
theorem chk_calls (A : Option Addr) (c : Nat) (l : List S66) (w : World) (hr : Kd.C k66 w A l.length l) (hc : l.length ≤ c) (hf : fitB l = true) :
  Calls Tryz.prog 34 #[.slice A l.length c] w fun e w' => e = .returned (.int .i64 (chkP l)) ∧ Below w.heap.size w w' := subst_Check.calls _ A c l _ w hr hc (chkP_eq l hf)
end Go.Proofs.YtghommaokdhjmaaGreat.PSpec
namespace Go.Proofs.YtghommaokdhjmaaGreat.P
open Go.RowKit Go.Proofs.YtghommaokdhjmaaGreatW.PrintWords Go.Proofs.YtghommaokdhjmaaGreatW.PrintLast Gate

theorem eqA64 (d : Nat) (w : World) (x0 y0 : Int) (x1 y1 : Int) (x2 y2 : ByteArray) :
  (Op.equalIn (d + 2) 64 (.agg #[.int .i64 x0, .int .i64 x1, .string x2]) (.agg #[.int .i64 y0, .int .i64 y1, .string y2])).run Tryz.prog w = .ok (x0 == y0 && (x1 == y1 && (x2.toList == y2.toList))) w := by
 refine eqA_of Tryz.underlying64 (by kernel_rfl) ?_
 refine eqf_cons (by rfl) (by go_simp; rfl) (by go_simp; rfl) (by go_simp) ?_
 refine eqf_cons (by rfl) (by go_simp; rfl) (by go_simp; rfl) (by go_simp) ?_
 exact eqf_last (by rfl) (by go_simp; rfl) (by go_simp; rfl) (by go_simp)
end Go.Proofs.YtghommaokdhjmaaGreat.P
namespace Go.Proofs.YtghommaokdhjmaaGreat.P
open Go.RowKit Go.Proofs.YtghommaokdhjmaaGreatW.PrintWords Go.Proofs.YtghommaokdhjmaaGreatW.PrintLast Gate

theorem eqA66 (d : Nat) (w : World) (x0 y0 : ByteArray) (x1 y1 : Int) (x2 y2 : Int) (x3 y3 : ByteArray) :
  (Op.equalIn (d + 3) 66 (.agg #[.string x0, .int .i64 x1, .int .i64 x2, .string x3]) (.agg #[.string y0, .int .i64 y1, .int .i64 y2, .string y3])).run Tryz.prog w = .ok (x0.toList == y0.toList && ((x1 == y1 && (x2 == y2 && (x3.toList == y3.toList))))) w := by
 refine eqA_of Tryz.underlying66 (by kernel_rfl) ?_
 refine eqf_cons (by rfl) (by go_simp; rfl) (by go_simp; rfl) (by go_simp) ?_
 exact eqf_last (by rfl) (by go_simp) (by go_simp) (eqA64 (d + 0) w _ _ _ _ _ _)
end Go.Proofs.YtghommaokdhjmaaGreat.P
/- Two Binds compared with == and !=; the plain compaction and the plain sort of a list of Binds; where the compaction of one sorted arrangement is right the arrangement is the only one. -/
namespace Go.Proofs.YtghommaokdhjmaaGreat.BothB
open Go.Shelf Go.RowKit Go.Lib Go.Sort Go.Proofs.SymP Go.Proofs.YtghommaokdhjmaaGreatW.PrintWords P Str PSpec
def sameB (x y : S66) : Bool := x.f0.toList == y.f0.toList && ((x.f1.f0 == y.f1.f0 && (x.f1.f1 == y.f1.f1 && (x.f1.f2.toList == y.f1.f2.toList))))
theorem sameB_iff (x y : S66) : sameB x y = true ↔ x = y := by
 obtain ⟨x0, x1, x2, x3⟩ := x
 obtain ⟨y0, y1, y2, y3⟩ := y
 unfold sameB
 have e : ∀ a b : ByteArray, a.toList = b.toList ↔ a = b := fun a b => by rw [← bytes_beq_iff, beq_iff_eq]
 simp only [Bool.and_eq_true, beq_iff_eq, S66.mk.injEq, S64.mk.injEq, e]
instance : DecidableEq S66 := fun x y => decidable_of_iff _ (sameB_iff x y)
theorem same_dec (x y : S66) : sameB x y = decide (x = y) := by
 by_cases h : x = y
 ·rw [decide_eq_true h]; exact (sameB_iff x y).2 h
 ·rw [decide_eq_false h]
  cases hs : sameB x y
  ·rfl
  ·exact absurd ((sameB_iff x y).1 hs) h
theorem heq (x y : S66) (w : World) : (binOp .eql 66 (.agg (encB x).toArray) (.agg (encB y).toArray)).run Tryz.prog w = .ok (.bool (decide (x = y))) w := by
 have h := eqA66 (Op.maxDepth - 3) w x.f0 y.f0 x.f1.f0 y.f1.f0 x.f1.f1 y.f1.f1 x.f1.f2 y.f1.f2
 change Sem.run Tryz.prog (Op.equal 66 (.agg (encB x).toArray) (.agg (encB y).toArray)) w = .ok (sameB x y) w at h
 rw [same_dec] at h
 simp [binOp, h]
theorem hne (x y : S66) (w : World) : (binOp .neq 66 (.agg (encB x).toArray) (.agg (encB y).toArray)).run Tryz.prog w = .ok (.bool (!decide (x = y))) w := by
 have h := eqA66 (Op.maxDepth - 3) w x.f0 y.f0 x.f1.f0 y.f1.f0 x.f1.f1 y.f1.f1 x.f1.f2 y.f1.f2
 change Sem.run Tryz.prog (Op.equal 66 (.agg (encB x).toArray) (.agg (encB y).toArray)) w = .ok (sameB x y) w at h
 rw [same_dec] at h
 simp [binOp, h]
theorem hgd (op : BinOp) (a b : Operand) (x y : S66) (w : World) : Sem.run Tryz.prog (eqGuard op 66 a b (.agg (encB x).toArray) (.agg (encB y).toArray)) w = .ok () w := by
 have h : Tryz.prog.eqGuardType Tryz.prog.depth 66 = false := by kernel_rfl
 cases op <;> simp [eqGuard, h]
theorem zeroB (w : World) : (zeroValue 66).run Tryz.prog w = .ok (.agg (encB z66).toArray) w := by kernel_rfl

theorem less_iff (a b : ByteArray) : Op.bytesLess a.toList b.toList = true ↔ cmpS a b < 0 := by
 have h : ∀ x y : List UInt8, Op.bytesLess x y = true ↔ Lib.compareBytes x y < 0 := by
  intro x
  induction x with
  | nil => intro y; cases y <;> simp [Op.bytesLess, Lib.compareBytes]
  | cons p x ih =>
   intro y
   cases y with
   | nil => simp [Op.bytesLess, Lib.compareBytes]
   | cons q y =>
    simp only [Op.bytesLess, Lib.compareBytes, Bool.or_eq_true, Bool.and_eq_true, decide_eq_true_eq, beq_iff_eq, ih y]
    by_cases h1 : p < q
    ·simp [h1]
    ·by_cases h2 : q < p
     ·have : p ≠ q := fun e => by subst e; exact UInt8.lt_irrefl _ h2
      simp [h1, h2, this]
     ·have e : p = q := by
       apply UInt8.toNat_inj.1
       have h3 : ¬ p.toNat < q.toNat := h1
       have h4 : ¬ q.toNat < p.toNat := h2
       omega
      simp [h1, h2, e]
 have e : ∀ s : ByteArray, s.toList = s.data.toList := fun s => ByteArray.toList_eq s
 rw [e, e]
 exact h _ _
def Sorted (l : List S66) : Prop := l.Pairwise fun x y => cfB x y ≤ 0
def insB (x : S66) : List S66 → List S66
 | [] => [x]
 | y :: l => if cfB x y ≤ 0 then x :: y :: l else y :: insB x l
def sortB (l : List S66) : List S66 := l.foldr insB []
theorem insB_perm (x : S66) : ∀ l, (insB x l).Perm (x :: l)
 | [] => List.Perm.refl _
 | y :: l => by
  unfold insB
  split
  ·exact List.Perm.refl _
  ·exact ((insB_perm x l).cons y).trans (List.Perm.swap _ _ _)
theorem sortB_perm : ∀ l : List S66, (sortB l).Perm l
 | [] => List.Perm.refl _
 | x :: l => (insB_perm x (sortB l)).trans ((sortB_perm l).cons x)
theorem cf_le {x y z : S66} (h1 : cfB x y ≤ 0) (h2 : cfB y z ≤ 0) : cfB x z ≤ 0 := cmpS_le _ _ _ h1 h2
theorem insB_sorted (x : S66) : ∀ l, Sorted l → Sorted (insB x l)
 | [], _ => List.pairwise_singleton _ _
 | y :: l, h => by
  have h2 := List.pairwise_cons.1 h
  unfold insB
  split
  ·rename_i hc
   exact List.pairwise_cons.2 ⟨fun z hz => by
    rcases List.mem_cons.1 hz with rfl | hz
    ·exact hc
    ·exact cf_le hc (h2.1 z hz), h⟩
  ·rename_i hc
   refine List.pairwise_cons.2 ⟨fun z hz => ?_, insB_sorted x l h2.2⟩
   have hz' := (insB_perm x l).mem_iff.1 hz
   rcases List.mem_cons.1 hz' with rfl | hz'
   ·have := cmpS_swap z.f0 y.f0
    unfold cfB at *
    omega
   ·exact h2.1 z hz'
theorem sortB_sorted : ∀ l : List S66, Sorted (sortB l)
 | [] => List.Pairwise.nil
 | x :: l => insB_sorted x _ (sortB_sorted l)

theorem allFrom_iff (t : Nat → Bool) : ∀ (m i : Nat), allFrom t m i = true ↔ ∀ j, i ≤ j → j < i + m → t j = true
 | 0, i => by simp [allFrom]; intro j h1 h2; omega
 | m + 1, i => by
  rw [allFrom, Bool.and_eq_true, allFrom_iff t m (i + 1)]
  constructor
  ·rintro ⟨h1, h2⟩ j h3 h4
   by_cases e : j = i
   ·subst e; exact h1
   ·exact h2 j (by omega) (by omega)
  ·intro h
   exact ⟨h i (Nat.le_refl _) (by omega), fun j h1 h2 => h j (by omega) (by omega)⟩
theorem chkP_zero (l : List S66) : chkP l = 0 ↔ l.length ≤ 100 ∧ ∀ i, i < l.length → chkT l i = true := by
 unfold chkP
 by_cases h : l.length > 100
 ·rw [if_pos h]; constructor
  ·intro h; cases h
  ·intro h2; omega
 ·rw [if_neg h]
  by_cases h2 : allFrom (chkT l) l.length 0 = true
  ·rw [if_pos h2]
   have := (allFrom_iff _ _ _).1 h2
   exact ⟨fun _ => ⟨by omega, fun i hi => this i (Nat.zero_le _) (by omega)⟩, fun _ => rfl⟩
  ·rw [if_neg h2]
   constructor
   ·intro h; cases h
   ·intro h3; exact absurd ((allFrom_iff _ _ _).2 fun j _ hj => h3.2 j (by omega)) h2
theorem rd_get {l : List S66} {i : Nat} (hi : i < l.length) : rd_T66 l i = l[i] := by
 unfold rd_T66
 rw [Int.toNat_natCast, List.getD_eq_getElem?_getD, List.getElem?_eq_getElem hi]; rfl
theorem chk_step {l : List S66} (h : chkP l = 0) {i : Nat} (hi : i + 1 < l.length) : cfB l[i] l[i + 1] < 0 := by
 have := ((chkP_zero l).1 h).2 (i + 1) hi
 unfold chkT at this
 simp only [Bool.and_eq_true, Bool.or_eq_true, Nat.add_sub_cancel] at this
 rcases this.2 with h0 | h0
 ·simp at h0
 ·rw [less_iff, rd_get (by omega), rd_get hi] at h0
  exact h0
theorem chk_asc {l : List S66} (h : chkP l = 0) : ∀ (j i : Nat) (hij : i < j) (hj : j < l.length), cfB l[i] l[j] < 0 := by
 intro j
 induction j with
 | zero => intro i hij; omega
 | succ j ih =>
  intro i hij hj
  have h1 := chk_step h hj
  by_cases e : i = j
  ·subst e; exact h1
  ·exact cmpS_lt (ih i (by omega) (by omega)) h1
theorem chk_same {l : List S66} (h : chkP l = 0) {x y : S66} (hx : x ∈ l) (hy : y ∈ l) (he : cfB x y = 0) : x = y := by
 obtain ⟨i, hi, rfl⟩ := List.mem_iff_getElem.1 hx
 obtain ⟨j, hj, rfl⟩ := List.mem_iff_getElem.1 hy
 rcases Nat.lt_trichotomy i j with h1 | h1 | h1
 ·have := chk_asc h j i h1 hj; omega
 ·subst h1; rfl
 ·have h2 := chk_asc h i j h1 hi
  have h3 := cmpS_swap l[i].f0 l[j].f0
  unfold cfB at *
  omega
theorem mem_compact {d : Array S66} : ∀ (m j : Nat), m ≤ d.size → j < m → d[j]! ∈ compactUpTo d m
 | 0, j, _, h => by omega
 | m + 1, j, hm, hj => by
  rw [compactUpTo_succ]
  by_cases e : j = m
  ·subst e
   by_cases hk : keeps d j = true
   ·rw [if_pos hk]; exact List.mem_append_right _ (List.mem_singleton.2 rfl)
   ·rw [if_neg hk, List.append_nil]
    unfold keeps at hk
    rw [decide_eq_true_eq] at hk
    have h1 : j ≠ 0 := fun h => hk (.inl h)
    have h2 : d[j]! = d[j - 1]! := Classical.byContradiction fun h => hk (.inr h)
    rw [h2]
    exact mem_compact j (j - 1) (by omega) (by omega)
  ·exact List.mem_append_left _ (mem_compact m j (by omega) (by omega))
theorem compact_sub {d : Array S66} {m : Nat} (hm : m ≤ d.size) {x : S66} (h : x ∈ compactUpTo d m) : x ∈ d.toList := by
 unfold compactUpTo at h
 obtain ⟨j, hj, rfl⟩ := List.mem_map.1 h
 have hj' := List.mem_range.1 (List.mem_filter.1 hj).1
 rw [getElem!_pos d j (by omega)]
 exact Array.mem_toList_iff.2 (Array.getElem_mem _)
theorem mem_compact_iff {d : Array S66} {x : S66} : x ∈ compactUpTo d d.size ↔ x ∈ d.toList := by
 constructor
 ·exact compact_sub (Nat.le_refl _)
 ·intro h
  obtain ⟨j, hj, rfl⟩ := Array.mem_iff_getElem.1 (Array.mem_toList_iff.1 h)
  have := mem_compact d.size j (Nat.le_refl _) hj
  rwa [getElem!_pos d j hj] at this
theorem sorted_only {d d' : Array S66} (hp : d.toList.Perm d'.toList) (h1 : Sorted d.toList) (h2 : Sorted d'.toList) (hc : chkP (compactUpTo d d.size) = 0) : d = d' := by
 apply Array.toList_inj.1
 refine List.Perm.eq_of_pairwise (le := fun x y => cfB x y ≤ 0) (fun x y hx hy hxy hyx => ?_) h1 h2 hp
 refine chk_same hc (mem_compact_iff.2 hx) (mem_compact_iff.2 (hp.mem_iff.2 hy)) ?_
 have := cmpS_swap x.f0 y.f0
 unfold cfB at *
 omega
end Go.Proofs.YtghommaokdhjmaaGreat.BothB
/- subst.Both: its walk, and what it answers as a plain function; the rows' texts no longer than a million bytes. -/
namespace Go.Proofs.YtghommaokdhjmaaGreat.BothB
open Go.Shelf Go.RowKit Go.Lib Go.Sort Go.Proofs.SymP Go.Proofs.YtghommaokdhjmaaGreatW.PrintWords P Str PSpec
theorem aggB : ∀ w, (isAgg 66).run Tryz.prog w = .ok true w := fun w => by kernel_rfl
theorem sizeB : ∀ w, (Go.sizeOf 66).run Tryz.prog w = .ok 4 w := fun w => by kernel_rfl
theorem perm_list {d d' : Array S66} {n : Nat} (hn : n = d.size) (h : PermIn 0 n d d') : d.toList.Perm d'.toList := by
 subst hn
 have h3 := h.2.2
 rw [show d.extract 0 d.size = d by simp, show d'.extract 0 d.size = d' by rw [← h.1]; simp] at h3
 exact h3.symm
theorem sorted_list {d : Array S66} {n : Nat} (hn : n = d.size) (h : SortedIn (ltOf cfB) 0 n d) : Sorted d.toList := by
 subst hn
 refine List.pairwise_iff_getElem.2 fun i j hi hj hij => ?_
 have hi' : i < d.size := by simpa using hi
 have hj' : j < d.size := by simpa using hj
 have h1 := h i j (Nat.zero_le _) hij hj'
 have h2 : ¬ cfB d[j]! d[i]! < 0 := of_decide_eq_false h1
 rw [getElem!_pos d i hi', getElem!_pos d j hj'] at h2
 have := cmpS_swap d[i].f0 d[j].f0
 simp only [Array.getElem_toList]
 unfold cfB at *
 omega
theorem sortC (base : Nat) (v : Value) (l : List S66) (hl : l.length ≤ 1000) (w : World) (ho : w.ownsRow base 66 4 v l.length (l.flatMap encB)) (hb : base ≤ w.heap.size) :
  Calls Tryz.prog 115 #[v, .func (.func 116) #[] #[]] w fun e w' => e = .returned (.tuple #[]) ∧ ∃ m : List S66, m.Perm l ∧ Sorted m ∧ w'.ownsRow base 66 4 v m.length (m.flatMap encB) ∧ Go.RowKit.Below base w w' := by
 rcases ho.2 with ⟨rfl, h0⟩ | ⟨g, cap, cur, rfl, hbg, hg, hn, hc, hs, ht⟩
 ·have hl0 : l = [] := List.length_eq_zero_iff.1 h0
  subst hl0
  refine (SortB.sort_nil SortB.lays Tryz.func148 _ _ w).mono ?_
  rintro e w' ⟨rfl, hB⟩
  exact ⟨rfl, [], List.Perm.refl _, List.Pairwise.nil, ⟨rfl, .inl ⟨rfl, rfl⟩⟩, hB.mono hb⟩
 ·have hgl : g < w.heap.size := (Array.getElem?_eq_some_iff.1 hg).1
  have hF := flat_of_take encB_len (by decide) (by rw [hs]; exact Nat.mul_le_mul_right _ hn) ht
  have R : RowK encB 4 w g 0 l.toArray := ⟨encB_len, encB_one, holds_of_flat hg hF, hgl⟩
  have eg : ∀ args w, (callFunc 116 args).run Tryz.prog w = .ok (.enter 116 args) w := enters_of Tryz.func116 (by kernel_rfl) rfl
  refine (SortB.sortStableFunc SortB.laysI SortB.lays 4 aggB sizeB encB cfB 116 #[] g 0 l.length w eg (cmpLays _ _ _ _) cap l.toArray l.toArray w R rfl rfl (SWK.start R.hH) swoB (by omega)).mono ?_
  rintro e w' ⟨rfl, d', hS, hp, hso⟩
  have hsz : d'.size = l.length := hp.1
  obtain ⟨cur', hg', hs', hF'⟩ := flat_swk hS hg (by rw [hsz, hs]; exact Nat.mul_le_mul_right _ hn)
  refine ⟨rfl, d'.toList, (perm_list rfl hp).symm, sorted_list hsz.symm hso, ?_, below_swk hS hbg hgl⟩
  have := own_shut (e := 66) encB_len (by decide) hg' hbg (hs'.trans hs) hc hF' d'.toList (List.prefix_refl _) (by rw [Array.length_toList, hsz]; exact hn)
  have e : d'.toList.length = l.length := by rw [Array.length_toList, hsz]
  rw [e] at this ⊢
  exact this
theorem own_lower {W : World} {base b' : Nat} {e : TypeId} {k n : Nat} {v : Value} {xs : List Value} (h : W.ownsRow base e k v n xs) (hb : b' ≤ base) : W.ownsRow b' e k v n xs :=
 ⟨h.1, h.2.imp id fun ⟨g, cap, cur, a, b, c⟩ => ⟨g, cap, cur, a, Nat.le_trans hb b, c⟩⟩
theorem compactC (base : Nat) (v : Value) (l : List S66) (hl : l.length ≤ 1000) (w : World) (ho : w.ownsRow base 66 4 v l.length (l.flatMap encB)) (hb : base ≤ w.heap.size) :
  Calls Tryz.prog 118 #[v] w fun e w' => ∃ v', e = .returned v' ∧ w'.ownsRow base 66 4 v' (compactUpTo l.toArray l.toArray.size).length ((compactUpTo l.toArray l.toArray.size).flatMap encB) ∧ Go.RowKit.Below base w w' := by
 rcases ho.2 with ⟨rfl, h0⟩ | ⟨g, cap, cur, rfl, hbg, hg, hn, hc, hs, ht⟩
 ·have hl0 : l = [] := List.length_eq_zero_iff.1 h0
  subst hl0
  refine (SortB.compact_nil SortB.lays Tryz.func118 w).mono ?_
  rintro e w' ⟨rfl, rfl⟩
  exact ⟨_, rfl, ⟨rfl, .inl ⟨rfl, rfl⟩⟩, Go.RowKit.Below.refl _ _⟩
 ·have hgl : g < w.heap.size := (Array.getElem?_eq_some_iff.1 hg).1
  have hF := flat_of_take encB_len (by decide) (by rw [hs]; exact Nat.mul_le_mul_right _ hn) ht
  have R : RowK encB 4 w g 0 l.toArray := ⟨encB_len, encB_one, holds_of_flat hg hF, hgl⟩
  refine (SortB.compact SortB.lays 4 aggB sizeB encB Tryz.func118 heq hne hgd z66 zeroB g 0 l.length cap l.toArray l.toArray w w R rfl rfl (SWK.start R.hH) (by omega) hn).mono ?_
  rintro e w' ⟨rfl, hS⟩
  have hlen : (compactUpTo l.toArray l.toArray.size).length ≤ l.length := by
   unfold compactUpTo
   rw [List.length_map]
   exact Nat.le_trans (List.length_filter_le _ _) (by simp)
  generalize compactUpTo l.toArray l.toArray.size = m at hS hlen ⊢
  have hsz : (m ++ List.replicate (l.toArray.size - m.length) z66).toArray.size = l.length := by simp; omega
  obtain ⟨cur', hg', hs', hF'⟩ := flat_swk hS hg (by rw [hsz, hs]; exact Nat.mul_le_mul_right _ hn)
  refine ⟨_, rfl, ?_, below_swk hS hbg hgl⟩
  exact own_shut (e := 66) encB_len (by decide) hg' hbg (hs'.trans hs) hc hF' m (by simp) (by omega)
end Go.Proofs.YtghommaokdhjmaaGreat.BothB
namespace Go.Proofs.YtghommaokdhjmaaGreat.P
open Go.Shelf Go.RowKit Go.Lib Go.Sort Go.Proofs.SymP Go.Proofs.YtghommaokdhjmaaGreatW.PrintWords Str PSpec BothB
def bothL (l : List S66) : List S66 := compactUpTo (sortB l).toArray (sortB l).toArray.size
def bothP (l0 l1 : List S66) : List S66 × Bool := if chkP l0 = 0 ∧ chkP l1 = 0 ∧ chkP (bothL (l0 ++ l1)) = 0 then (bothL (l0 ++ l1), true) else ([], false)
def subst_Both.f (l0 : List (S66)) (l1 : List (S66)) : Option ((List (S66)) × Bool) := if fitB l0 = true ∧ fitB l1 = true then some (bothP l0 l1) else none
set_option maxHeartbeats 400000 in
set_option maxRecDepth 1000000 in
theorem subst_Both.calls (A0 : Option Addr) (c0 : Nat) (l0 : List (S66)) (A1 : Option Addr) (c1 : Nat) (l1 : List (S66)) (r1 : List (S66)) (r2 : Bool) (w : World) (hr0 : Kd.C k66 w A0 l0.length l0) (hc0 : l0.length ≤ c0) (hr1 : Kd.C k66 w A1 l1.length l1) (hc1 : l1.length ≤ c1) (h : subst_Both.f l0 l1 = some (r1, r2)) :
  Calls Tryz.prog 93 #[.slice A0 l0.length c0, .slice A1 l1.length c1] w fun e w' => ∃ v0_ : Value, e = .returned (.tuple #[v0_, .bool r2]) ∧ Kd.R k66 66 w' w.heap.size (fun _ => True) v0_ r1 ∧ Go.RowKit.Below w.heap.size w w' := by
 have hfit : fitB l0 = true ∧ fitB l1 = true := by
  unfold subst_Both.f at h
  by_cases hc : fitB l0 = true ∧ fitB l1 = true
  ·exact hc
  ·rw [if_neg hc] at h; cases h
 have hres : bothP l0 l1 = (r1, r2) := by
  unfold subst_Both.f at h
  rw [if_pos hfit] at h
  exact Option.some.inj h
 clear h
 have HR := Aside0.mk hres
 have ck : ∀ args w, (callFunc 34 args).run Tryz.prog w = .ok (.enter 34 args) w := enters_of Tryz.func34 (by kernel_rfl) rfl
 have cc : ∀ args w, (callFunc 114 args).run Tryz.prog w = .ok (.enter 114 args) w := enters_of Tryz.func114 (by kernel_rfl) rfl
 have cs : ∀ args w, (callFunc 115 args).run Tryz.prog w = .ok (.enter 115 args) w := enters_of Tryz.func115 (by kernel_rfl) rfl
 have cp : ∀ args w, (callFunc 118 args).run Tryz.prog w = .ok (.enter 118 args) w := enters_of Tryz.func118 (by kernel_rfl) rfl
 have hc0' := chk_calls A0 c0 l0 w hr0 hc0 hfit.1
 have hfi : Aside0 (fitB l0 = true ∧ fitB l1 = true) := Aside0.mk hfit
 clear hfit hres
 have HRow0 := Aside0.mk hr0
 have HRow1 := Aside0.mk hr1
 clear hr0 hr1
 by_cases h0 : chkP l0 = 0
 ·rw [h0] at hc0'
  go_enter Tryz.func93, Tryz.ntmps93
  by_cases h1 : chkP l1 = 0
  ·have HC1 : Aside (∀ W, Go.RowKit.Below w.heap.size w W → Calls Tryz.prog 34 #[.slice A1 l1.length c1] W fun e w' => e = .returned (.int .i64 0) ∧ Go.RowKit.Below W.heap.size W w') := fun W hB => by
    have := chk_calls A1 c1 l1 W (Kd.C_below HRow1.out hB) hc1 hfi.out.2
    rw [h1] at this
    exact this
   go_wp2_with (go_at_fn 34; first | (with_reducible refine hc0'.mono ?_; rintro e w1 ⟨rfl, hB1⟩) | (with_reducible refine (HC1.out _ hB1).mono ?_; rintro e w2 ⟨rfl, hB2⟩))
   have hl0 := ((chkP_zero l0).1 h0).1
   have hl1 := ((chkP_zero l1).1 h1).1
   have hw12 : Go.RowKit.Below w.heap.size w w2 := hB1.trans (hB2.mono hB1.size)
   have hw3 : Go.RowKit.Below w.heap.size w (w2.alloc (.cells #[.slice A0 l0.length c0, .slice A1 l1.length c1] 29)) := hw12.alloc hw12.size _
   have hcon := concat A0 c0 l0 A1 c1 l1 w2.heap.size (w2.alloc (.cells #[.slice A0 l0.length c0, .slice A1 l1.length c1] 29)) (by simp) (by simp) (by simp) (Kd.C_below HRow0.out hw3) (Kd.C_below HRow1.out hw3) hl0 hl1
   have hw12a : Aside (Go.RowKit.Below w.heap.size w w2) := hw12
   have hw3a : Aside (Go.RowKit.Below w.heap.size w (w2.alloc (.cells #[.slice A0 l0.length c0, .slice A1 l1.length c1] 29))) := hw3
   clear hw12 hw3 hB1 hB2 HC1
   go_wp2_with (go_at_fn 114; with_reducible refine hcon.mono ?_; rintro e w4 ⟨v, rfl, ho, hB⟩)
   have hw4 : Go.RowKit.Below w.heap.size w w4 := hw3a.out.trans (hB.mono (by have := hw12a.out.size; simp; omega))
   have hw4a : Aside (Go.RowKit.Below w.heap.size w w4) := hw4
   have ho4 : Aside (w4.ownsRow w.heap.size 66 4 v (l0 ++ l1).length ((l0 ++ l1).flatMap encB)) := own_lower ho (by have := hw12a.out.size; simp; omega)
   clear ho hB hw4 hcon hw3a hw12a
   go_wp2_with (go_at_fn 115; with_reducible refine (sortC w.heap.size v (l0 ++ l1) (by rw [List.length_append]; omega) w4 ho4.out hw4a.out.size).mono ?_; rintro e w5 ⟨rfl, m, hp, hso, ho5, hB5⟩)
   have hw5a : Aside (Go.RowKit.Below w.heap.size w w5) := hw4a.out.trans hB5
   have ho5a : Aside (w5.ownsRow w.heap.size 66 4 v m.length (m.flatMap encB)) := ho5
   have hpa := Aside0.mk hp
   have hsa := Aside0.mk hso
   have hml : m.length ≤ 1000 := by rw [hp.length_eq, List.length_append]; omega
   clear ho5 hB5 hw4a ho4 hp hso
   go_wp2_with (go_at_fn 118; with_reducible refine (compactC w.heap.size v m hml w5 ho5a.out hw5a.out.size).mono ?_; rintro e w6 ⟨v', rfl, ho6, hB6⟩)
   have hw6a : Aside (Go.RowKit.Below w.heap.size w w6) := hw5a.out.trans hB6
   have hmf : fitB (compactUpTo m.toArray m.toArray.size) = true := by
    refine List.all_eq_true.2 fun x hx => ?_
    have hx2 := hpa.out.mem_iff.1 (mem_compact_iff.1 hx)
    rcases List.mem_append.1 hx2 with h | h
    ·exact List.all_eq_true.1 hfi.out.1 x h
    ·exact List.all_eq_true.1 hfi.out.2 x h
   have hRa := Aside0.mk (R_flat (kd := k66) encB_M encB_len rfl ho6)
   obtain ⟨A6, c6, rfl, hle6, hC6⟩ := Kd.R_reads hRa.out
   have hck := chk_calls A6 c6 _ w6 hC6 hle6 hmf
   have hres2 : (chkP (compactUpTo m.toArray m.toArray.size) = 0 → r1 = compactUpTo m.toArray m.toArray.size ∧ r2 = true) ∧ (¬ chkP (compactUpTo m.toArray m.toArray.size) = 0 → r1 = [] ∧ r2 = false) := by
    have hr := HR.out
    unfold bothP at hr
    have hperm : (sortB (l0 ++ l1)).Perm m := (sortB_perm _).trans hpa.out.symm
    constructor
    ·intro hz
     have he := sorted_only (d := m.toArray) (d' := (sortB (l0 ++ l1)).toArray) hperm.symm hsa.out (sortB_sorted _) hz
     have hb : bothL (l0 ++ l1) = compactUpTo m.toArray m.toArray.size := by unfold bothL; rw [← he]
     rw [hb, if_pos ⟨h0, h1, hz⟩] at hr
     injection hr with a b
     exact ⟨a.symm, b.symm⟩
    ·intro hz
     have hn : ¬ chkP (bothL (l0 ++ l1)) = 0 := fun hz2 => by
      have he := sorted_only (d := (sortB (l0 ++ l1)).toArray) (d' := m.toArray) hperm (sortB_sorted _) hsa.out hz2
      unfold bothL at hz2
      rw [he] at hz2
      exact hz hz2
     rw [if_neg (fun h => hn h.2.2)] at hr
     injection hr with a b
     exact ⟨a.symm, b.symm⟩
   have hrs := Aside0.mk hres2
   clear hres2 ho6 hC6 hmf hB6 ho5a hw5a
   generalize compactUpTo m.toArray m.toArray.size = mm at hrs hRa hck hle6 ⊢
   have hlen6 : Aside0 (mm.length ≤ c6) := Aside0.mk hle6
   by_cases h6 : chkP mm = 0
   ·obtain ⟨rfl, rfl⟩ := hrs.out.1 h6
    rw [h6] at hck
    go_wp2_with (go_at_fn 34; with_reducible refine hck.mono ?_; rintro e w7 ⟨rfl, hB7⟩)
    go_ret2
    exact ⟨_, rfl, Kd.R_below hRa.out hB7, hw6a.out.trans (hB7.mono hw6a.out.size)⟩
   ·obtain ⟨rfl, rfl⟩ := hrs.out.2 h6
    have h6b : (chkP mm != 0) = true := by simpa using h6
    generalize chkP mm = q at hck h6 h6b
    go_wp2_with (go_at_fn 34; with_reducible refine hck.mono ?_; rintro e w7 ⟨rfl, hB7⟩)
    go_ret2
    exact ⟨_, rfl, Kd.R_nil _ _ _ _ _, hw6a.out.trans (hB7.mono hw6a.out.size)⟩
  ·have hn1 : ¬ (chkP l1 = 0) := h1
   have hn1b : (chkP l1 != 0) = true := by simpa using h1
   obtain ⟨rfl, rfl⟩ : r1 = [] ∧ r2 = false := by
    have := HR.out
    unfold bothP at this
    rw [if_neg (fun h => h1 h.2.1)] at this
    injection this with a b
    exact ⟨a.symm, b.symm⟩
   have HC1 : Aside (∀ W, Go.RowKit.Below w.heap.size w W → Calls Tryz.prog 34 #[.slice A1 l1.length c1] W fun e w' => e = .returned (.int .i64 (chkP l1)) ∧ Go.RowKit.Below W.heap.size W w') := fun W hB => chk_calls A1 c1 l1 W (Kd.C_below HRow1.out hB) hc1 hfi.out.2
   generalize chkP l1 = q at HC1 hn1 hn1b
   go_wp2_with (go_at_fn 34; first | (with_reducible refine hc0'.mono ?_; rintro e w1 ⟨rfl, hB1⟩) | (with_reducible refine (HC1.out _ hB1).mono ?_; rintro e w2 ⟨rfl, hB2⟩))
   go_ret2
   exact ⟨_, rfl, Kd.R_nil _ _ _ _ _, hB1.trans (hB2.mono hB1.size)⟩
 ·have hn0 : ¬ (chkP l0 = 0) := h0
  have hn0b : (chkP l0 != 0) = true := by simpa using h0
  obtain ⟨rfl, rfl⟩ : r1 = [] ∧ r2 = false := by
   have := HR.out
   unfold bothP at this
   rw [if_neg (fun h => h0 h.1)] at this
   injection this with a b
   exact ⟨a.symm, b.symm⟩
  generalize chkP l0 = q at hc0' hn0 hn0b
  go_enter Tryz.func93, Tryz.ntmps93
  go_wp2_with (go_at_fn 34; with_reducible refine hc0'.mono ?_; rintro e w1 ⟨rfl, hB1⟩)
  go_ret2
  exact ⟨_, rfl, Kd.R_nil _ _ _ _ _, hB1⟩
end Go.Proofs.YtghommaokdhjmaaGreat.P
