/- The row of SubstMany, and what it rests on; no condition. -/
import Derived.Test.YtghommaokdhjmaaKB1
import Derived.Test.YtghommaokdhjmaaRows
import Derived.WalkKit
import Derived.ProofKit
import Derived.OpenShut
import Derived.ShutString
import Derived.ChangeOld
import Derived.Below
import Derived.SizedLaws
namespace Go.Proofs.Ytghommaokdhjmaa.P
open Go.RowKit Go.Proofs.YtghommaokdhjmaaW.PrintWords Go.Proofs.YtghommaokdhjmaaW.PrintLast Go.Proofs.YtghommaokdhjmaaW.PrintMore
attribute [local go_sem] max2_int min2_int max_two min_two max_three min_three max_four min_four   -- for this text's walks alone
set_option linter.unusedVariables false
set_option linter.unusedSimpArgs false

attribute [local go_sem high] eqA24
/-! ### constablelaw05_SubstMany: function 6 -/
mutual
def constablelaw05_SubstMany.l0 : Nat → Int → ByteArray → List (S39) → Int → Option (Bool)
  | 0, _, _, _, _ => none
  | k + 1, x0, x3, x4, x5 => if x5 < 100 then (if 0 ≤ (wrap64 (Int.tdiv (Int.tmod (wrap64 (x5 * x0)) 100) 10)) then (if (wrap64 (Int.tdiv (Int.tmod (wrap64 (x5 * x0)) 100) 10)) ≤ (wrap64 ((wrap64 (Int.tdiv (Int.tmod (wrap64 (x5 * x0)) 100) 10)) + 1)) then (if (wrap64 ((wrap64 (Int.tdiv (Int.tmod (wrap64 (x5 * x0)) 100) 10)) + 1)) ≤ (x3.size : Int) then (if 1 + (x3.extract ((wrap64 (Int.tdiv (Int.tmod (wrap64 (x5 * x0)) 100) 10)) : Int).toNat ((wrap64 ((wrap64 (Int.tdiv (Int.tmod (wrap64 (x5 * x0)) 100) 10)) + 1)) : Int).toNat).size ≤ 9223372036854775807 then (if 0 ≤ (Int.tmod (Int.tmod (wrap64 (x5 * x0)) 100) 10) then (if (Int.tmod (Int.tmod (wrap64 (x5 * x0)) 100) 10) ≤ (wrap64 ((Int.tmod (Int.tmod (wrap64 (x5 * x0)) 100) 10) + 1)) then (if (wrap64 ((Int.tmod (Int.tmod (wrap64 (x5 * x0)) 100) 10) + 1)) ≤ (x3.size : Int) then (if ((⟨#[86]⟩ : ByteArray) ++ (x3.extract ((wrap64 (Int.tdiv (Int.tmod (wrap64 (x5 * x0)) 100) 10)) : Int).toNat ((wrap64 ((wrap64 (Int.tdiv (Int.tmod (wrap64 (x5 * x0)) 100) 10)) + 1)) : Int).toNat)).size + (x3.extract ((Int.tmod (Int.tmod (wrap64 (x5 * x0)) 100) 10) : Int).toNat ((wrap64 ((Int.tmod (Int.tmod (wrap64 (x5 * x0)) 100) 10) + 1)) : Int).toNat).size ≤ 9223372036854775807 then ((subst_Put.f k x4 (((⟨#[86]⟩ : ByteArray) ++ (x3.extract ((wrap64 (Int.tdiv (Int.tmod (wrap64 (x5 * x0)) 100) 10)) : Int).toNat ((wrap64 ((wrap64 (Int.tdiv (Int.tmod (wrap64 (x5 * x0)) 100) 10)) + 1)) : Int).toNat)) ++ (x3.extract ((Int.tmod (Int.tmod (wrap64 (x5 * x0)) 100) 10) : Int).toNat ((wrap64 ((Int.tmod (Int.tmod (wrap64 (x5 * x0)) 100) 10) + 1)) : Int).toNat)) 1 (Int.tmod (wrap64 (x5 * x0)) 100) (⟨#[]⟩ : ByteArray)).bind fun bt345 => (if bt345.2 = true then (if (bt345.1.length : Int) = (wrap64 (x5 + 1)) then ((subst_Check.f k bt345.1).bind fun t349 => (if t349 = 0 then (constablelaw05_SubstMany.l0 k x0 x3 bt345.1 (wrap64 (x5 + 1))) else (none))) else (none)) else (none))) else (none)) else (none)) else (none)) else (none)) else (none)) else (none)) else (none)) else (none)) else ((subst_Put.f k x4 (⟨#[87]⟩ : ByteArray) 1 0 (⟨#[]⟩ : ByteArray)).bind fun bt350 => ((subst_Put.f k x4 (⟨#[86, 48, 55]⟩ : ByteArray) 1 7 (⟨#[]⟩ : ByteArray)).bind fun bt354 => (constablelaw05_SubstMany.l1 k x3 x4 bt350.2 bt354.2 0)))
def constablelaw05_SubstMany.l1 : Nat → ByteArray → List (S39) → Bool → Bool → Int → Option (Bool)
  | 0, _, _, _, _, _ => none
  | k + 1, x3, x4, x10, x12, x13 => if x13 < 100 then (if 0 ≤ (wrap64 (Int.tdiv x13 10)) then (if (wrap64 (Int.tdiv x13 10)) ≤ (wrap64 ((wrap64 (Int.tdiv x13 10)) + 1)) then (if (wrap64 ((wrap64 (Int.tdiv x13 10)) + 1)) ≤ (x3.size : Int) then (if 1 + (x3.extract ((wrap64 (Int.tdiv x13 10)) : Int).toNat ((wrap64 ((wrap64 (Int.tdiv x13 10)) + 1)) : Int).toNat).size ≤ 9223372036854775807 then (if 0 ≤ (Int.tmod x13 10) then (if (Int.tmod x13 10) ≤ (wrap64 ((Int.tmod x13 10) + 1)) then (if (wrap64 ((Int.tmod x13 10) + 1)) ≤ (x3.size : Int) then (if ((⟨#[86]⟩ : ByteArray) ++ (x3.extract ((wrap64 (Int.tdiv x13 10)) : Int).toNat ((wrap64 ((wrap64 (Int.tdiv x13 10)) + 1)) : Int).toNat)).size + (x3.extract ((Int.tmod x13 10) : Int).toNat ((wrap64 ((Int.tmod x13 10) + 1)) : Int).toNat).size ≤ 9223372036854775807 then ((subst_Get.f k x4 (((⟨#[86]⟩ : ByteArray) ++ (x3.extract ((wrap64 (Int.tdiv x13 10)) : Int).toNat ((wrap64 ((wrap64 (Int.tdiv x13 10)) + 1)) : Int).toNat)) ++ (x3.extract ((Int.tmod x13 10) : Int).toNat ((wrap64 ((Int.tmod x13 10) + 1)) : Int).toNat))).bind fun bt358 => (if bt358.2.2.2 = true then (if bt358.2.1 = x13 then (if 0 ≤ x13 then (if x13 < (x4.length : Int) then (if (!(((rd_T39 x4 x13).f1.f0) == bt358.1) || (!(((rd_T39 x4 x13).f1.f1) == bt358.2.1) || (!((((rd_T39 x4 x13).f1.f2).toList) == bt358.2.2.1.toList)))) = true then (none) else (constablelaw05_SubstMany.l1 k x3 x4 x10 x12 (wrap64 (x13 + 1)))) else (none)) else (none)) else (none)) else (none))) else (none)) else (none)) else (none)) else (none)) else (none)) else (none)) else (none)) else (none)) else (if x10 = true then (none) else (if x12 = true then ((constablelaw05_wakes.f k).bind fun t364 => (some t364)) else (none)))
end
def constablelaw05_SubstMany.f (k : Nat) (a0 : Int) : Option (Bool) := (some (([1, 3, 7, 9, 11, 13] : List Int) : List Int)).bind fun y341 => (if 0 ≤ (wrap64 (Int.tmod (IntKind.u64.wrap (a0)) 6)) then (if (wrap64 (Int.tmod (IntKind.u64.wrap (a0)) 6)) < (y341.length : Int) then (constablelaw05_SubstMany.l0 k (rd y341 (wrap64 (Int.tmod (IntKind.u64.wrap (a0)) 6))) (⟨#[48, 49, 50, 51, 52, 53, 54, 55, 56, 57]⟩ : ByteArray) ([] : List (S39)) 0) else (none)) else (none))
theorem constablelaw05_SubstMany.mono_l : ∀ k, (∀ y0 y1 y2 y3, LeO (constablelaw05_SubstMany.l0 k y0 y1 y2 y3) (constablelaw05_SubstMany.l0 (k + 1) y0 y1 y2 y3)) ∧ (∀ y0 y1 y2 y3 y4, LeO (constablelaw05_SubstMany.l1 k y0 y1 y2 y3 y4) (constablelaw05_SubstMany.l1 (k + 1) y0 y1 y2 y3 y4))
  | 0 => ⟨fun _ _ _ _ r h => by simp [constablelaw05_SubstMany.l0] at h, fun _ _ _ _ _ r h => by simp [constablelaw05_SubstMany.l1] at h⟩
  | k + 1 => by
    obtain ⟨ih0, ih1⟩ := constablelaw05_SubstMany.mono_l k
    refine ⟨?_, ?_⟩
    · intro y0 y1 y2 y3
      unfold constablelaw05_SubstMany.l0
      repeat' first
      | (with_reducible exact ih0 _ _ _ _)
      | (with_reducible exact ih1 _ _ _ _ _)
      | (with_reducible exact constablelaw05_wakes.mono _)
      | (with_reducible exact subst_Check.mono _ _)
      | (with_reducible exact subst_Get.mono _ _ _)
      | (with_reducible exact subst_Put.mono _ _ _ _ _ _)
      | (with_reducible exact LeO.refl _)
      | (with_reducible exact LeO.none _)
      | (with_reducible refine LeO.ite ?_ ?_)
      | (with_reducible refine LeO.bind ?_ (fun _ => ?_))
      | exact ih0 _ _ _ _
      | exact ih1 _ _ _ _ _
      | exact constablelaw05_wakes.mono _
      | exact subst_Check.mono _ _
      | exact subst_Get.mono _ _ _
      | exact subst_Put.mono _ _ _ _ _ _
      | exact LeO.none _
      | refine LeO.ite ?_ ?_
      | refine LeO.bind ?_ (fun _ => ?_)
    · intro y0 y1 y2 y3 y4
      unfold constablelaw05_SubstMany.l1
      repeat' first
      | (with_reducible exact ih0 _ _ _ _)
      | (with_reducible exact ih1 _ _ _ _ _)
      | (with_reducible exact constablelaw05_wakes.mono _)
      | (with_reducible exact subst_Check.mono _ _)
      | (with_reducible exact subst_Get.mono _ _ _)
      | (with_reducible exact subst_Put.mono _ _ _ _ _ _)
      | (with_reducible exact LeO.refl _)
      | (with_reducible exact LeO.none _)
      | (with_reducible refine LeO.ite ?_ ?_)
      | (with_reducible refine LeO.bind ?_ (fun _ => ?_))
      | exact ih0 _ _ _ _
      | exact ih1 _ _ _ _ _
      | exact constablelaw05_wakes.mono _
      | exact subst_Check.mono _ _
      | exact subst_Get.mono _ _ _
      | exact subst_Put.mono _ _ _ _ _ _
      | exact LeO.none _
      | refine LeO.ite ?_ ?_
      | refine LeO.bind ?_ (fun _ => ?_)
theorem constablelaw05_SubstMany.mono : ∀ a0 k, LeO (constablelaw05_SubstMany.f k a0) (constablelaw05_SubstMany.f (k + 1) a0) := by
  intro a0 k
  obtain ⟨ih0, ih1⟩ := constablelaw05_SubstMany.mono_l k
  unfold constablelaw05_SubstMany.f
  repeat' first
      | (with_reducible exact ih0 _ _ _ _)
      | (with_reducible exact ih1 _ _ _ _ _)
      | (with_reducible exact constablelaw05_wakes.mono _)
      | (with_reducible exact subst_Check.mono _ _)
      | (with_reducible exact subst_Get.mono _ _ _)
      | (with_reducible exact subst_Put.mono _ _ _ _ _ _)
      | (with_reducible exact LeO.refl _)
      | (with_reducible exact LeO.none _)
      | (with_reducible refine LeO.ite ?_ ?_)
      | (with_reducible refine LeO.bind ?_ (fun _ => ?_))
      | exact ih0 _ _ _ _
      | exact ih1 _ _ _ _ _
      | exact constablelaw05_wakes.mono _
      | exact subst_Check.mono _ _
      | exact subst_Get.mono _ _ _
      | exact subst_Put.mono _ _ _ _ _ _
      | exact LeO.none _
      | refine LeO.ite ?_ ?_
      | refine LeO.bind ?_ (fun _ => ?_)
def constablelaw05_SubstMany.T8 : Bool × List (List Nat × List Nat) := (true, [([], []), ([], []), ([], []), ([2], [2]), ([], []), ([4], [4]), ([5], [5]), ([1, 3, 6], [1, 3, 6]), ([7], [7]), ([], []), ([], []), ([10], [10]), ([], []), ([12], [12]), ([13], [13]), ([9, 11, 14], [9, 11, 14]), ([8, 15], [8, 15]), ([], []), ([17], [17]), ([0, 16, 18], [0, 16, 18]), ([19], [19]), ([20], [20]), ([20], [20]), ([21, 19, 0, 1, 2, 3, 4, 5, 6, 7, 8, 9, 10, 11, 12, 13, 14, 15, 16, 17, 18, 19, 20, 21], [21]), ([22, 23, 0, 1, 2, 3, 4, 5, 6, 7, 8, 9, 10, 11, 12, 13, 14, 15, 16, 17, 18, 19, 20, 21, 22, 23], [22])])
def constablelaw05_SubstMany.B8 : List Nat := [0, 0, 0, 4, 0, 16, 48, 126, 254, 0, 0, 1024, 0, 4096, 12288, 32256, 65534, 0, 131072, 524287, 1048575, 2097151, 2097151, 4194303, 16777215]
theorem constablelaw05_SubstMany.tab8 : rtab .any (opsOf Try.f6 8) = constablelaw05_SubstMany.T8 := by kernel_rfl
theorem constablelaw05_SubstMany.bits8 : waitsOk constablelaw05_SubstMany.T8.2 constablelaw05_SubstMany.B8 = true := by kernel_rfl
def constablelaw05_SubstMany.T17 : Bool × List (List Nat × List Nat) := (true, [([], []), ([], []), ([], []), ([2], [2]), ([], []), ([4], [4]), ([5], [5]), ([1, 3, 6], [1, 3, 6]), ([7], [7]), ([], []), ([], []), ([10], [10]), ([], []), ([12], [12]), ([13], [13]), ([9, 11, 14], [9, 11, 14]), ([8, 15], [8, 15]), ([0, 16], [0, 16]), ([17], [17]), ([18], [18]), ([18], [18]), ([], []), ([21, 19, 17, 0, 1, 2, 3, 4, 5, 6, 7, 8, 9, 10, 11, 12, 13, 14, 15, 16, 17, 18, 19, 21], [19, 21]), ([20, 22, 0, 1, 2, 3, 4, 5, 6, 7, 8, 9, 10, 11, 12, 13, 14, 15, 16, 17, 18, 19, 20, 21, 22], [20])])
def constablelaw05_SubstMany.B17 : List Nat := [0, 0, 0, 4, 0, 16, 48, 126, 254, 0, 0, 1024, 0, 4096, 12288, 32256, 65534, 131071, 262143, 524287, 524287, 0, 3145727, 8388607]
theorem constablelaw05_SubstMany.tab17 : rtab .any (opsOf Try.f6 17) = constablelaw05_SubstMany.T17 := by kernel_rfl
theorem constablelaw05_SubstMany.bits17 : waitsOk constablelaw05_SubstMany.T17.2 constablelaw05_SubstMany.B17 = true := by kernel_rfl
def constablelaw05_SubstMany.T18 : Bool × List (List Nat × List Nat) := (true, [([], []), ([0], [0]), ([1], [1]), ([2], [2]), ([3, 2], [2, 3]), ([2], [2]), ([4, 5, 2], [2, 4, 5]), ([2, 6], [2, 6]), ([7, 2], [7]), ([8], [8]), ([8], [8]), ([9, 10, 8], [8, 9, 10]), ([11, 8], [8, 11]), ([12, 8], [8, 12]), ([8], [8]), ([13, 14, 8], [8, 13, 14]), ([8, 15], [8, 15])])
def constablelaw05_SubstMany.B18 : List Nat := [0, 1, 3, 7, 15, 7, 63, 127, 255, 511, 511, 2047, 4095, 8191, 511, 32767, 65535]
theorem constablelaw05_SubstMany.tab18 : rtab .any (opsOf Try.f6 18) = constablelaw05_SubstMany.T18 := by kernel_rfl
theorem constablelaw05_SubstMany.bits18 : waitsOk constablelaw05_SubstMany.T18.2 constablelaw05_SubstMany.B18 = true := by kernel_rfl
set_option maxHeartbeats 8000000 in
set_option maxRecDepth 100000 in
theorem constablelaw05_SubstMany.calls (k : Nat) (a0 : Int) (r : Bool) (w : World) (h : constablelaw05_SubstMany.f k a0 = some r) :
    Calls Try.prog 6 #[.int .i64 a0] w fun e w' => e = .returned (.bool r) ∧ Below w.heap.size w w' := by
  have hu24 := Try.underlying24
  have HB := Aside0.mk (Below.refl w.heap.size w)
  have H : ((some (([1, 3, 7, 9, 11, 13] : List Int) : List Int)).bind fun y341 => (if 0 ≤ (wrap64 (Int.tmod (IntKind.u64.wrap (a0)) 6)) then (if (wrap64 (Int.tmod (IntKind.u64.wrap (a0)) 6)) < (y341.length : Int) then (constablelaw05_SubstMany.l0 k (rd y341 (wrap64 (Int.tmod (IntKind.u64.wrap (a0)) 6))) (⟨#[48, 49, 50, 51, 52, 53, 54, 55, 56, 57]⟩ : ByteArray) ([] : List (S39)) 0) else (none)) else (none))) = some r := h
  clear h
  obtain ⟨y341, hy341⟩ : ∃ y_ : List Int, y_ = (([1, 3, 7, 9, 11, 13] : List Int)) := ⟨_, rfl⟩
  replace H : (if 0 ≤ (wrap64 (Int.tmod (IntKind.u64.wrap (a0)) 6)) then (if (wrap64 (Int.tmod (IntKind.u64.wrap (a0)) 6)) < (y341.length : Int) then (constablelaw05_SubstMany.l0 k (rd y341 (wrap64 (Int.tmod (IntKind.u64.wrap (a0)) 6))) (⟨#[48, 49, 50, 51, 52, 53, 54, 55, 56, 57]⟩ : ByteArray) ([] : List (S39)) 0) else (none)) else (none)) = some r := by first | (rw [hy341]; with_reducible exact H) | (have H2_ := (Option.bind_some _ _).symm.trans H; rw [hy341]; with_reducible exact H2_) | (have H2_ := (Option.bind_some _ _).symm.trans H; with_reducible exact H2_) | with_reducible exact H | (rw [hy341]; exact H) | exact H
  have Ny341 := Aside0.mk hy341
  clear hy341
  obtain ⟨ji2, hji2⟩ : ∃ j_ : Int, (wrap64 (Int.tmod (IntKind.u64.wrap (a0)) 6)) = j_ := ⟨_, rfl⟩
  replace H : (if 0 ≤ (ji2) then (if (ji2) < (y341.length : Int) then (constablelaw05_SubstMany.l0 k (rd y341 (ji2)) (⟨#[48, 49, 50, 51, 52, 53, 54, 55, 56, 57]⟩ : ByteArray) ([] : List (S39)) 0) else (none)) else (none)) = some r := by first | (rw [hji2] at H; exact H) | (simp only [hji2] at H ⊢; exact H)
  have hji2w : (IntKind.i64.wrap (Int.tmod (IntKind.u64.wrap (a0)) 6)) = ji2 := (i64_w _).trans hji2
  by_cases c3 : 0 ≤ (ji2)
  · rw [if_pos c3] at H
    have c3b0 : decide (0 ≤ (ji2)) = true := decide_eq_true c3
    clear c3
    by_cases c4 : (ji2) < (y341.length : Int)
    · rw [if_pos c4] at H
      have c4b0 : decide ((ji2) < (y341.length : Int)) = true := decide_eq_true c4
      clear c4
      have H' := Aside0.mk H
      clear H
      go_enter Try.func6, Try.ntmps6
      go_wp2_with (first | ((with_reducible refine gate_dst (N := 16) rfl ?_); (try (refine gate_guard (by rfl) ?_; dsimp only)); refine Kd.R_lit (Kd.int .i64) _ 3 ?hg (N := 16) ?hd (xs := ([1, 3, 7, 9, 11, 13] : List Int)) (inner := [.int .i64 1, .int .i64 3, .int .i64 7, .int .i64 9, .int .i64 11, .int .i64 13]) (ok := fun _ => True) (okp := fun _ => True) ?hr ?hp (fun _ hk => hk) trivial (Below.refl _ _) (Nat.le_refl _) (by simp) ?_; (case hd => rfl); (case hg => rfl); (case hr => first | (go_simp; done) | (go_simp; rfl)); (case hp => exact (Reps.one (show Kd.M (Kd.int .i64) _ _ _ 1 [.int .i64 1] from rfl) (Reps.one (show Kd.M (Kd.int .i64) _ _ _ 3 [.int .i64 3] from rfl) (Reps.one (show Kd.M (Kd.int .i64) _ _ _ 7 [.int .i64 7] from rfl) (Reps.one (show Kd.M (Kd.int .i64) _ _ _ 9 [.int .i64 9] from rfl) (Reps.one (show Kd.M (Kd.int .i64) _ _ _ 11 [.int .i64 11] from rfl) (Reps.one (show Kd.M (Kd.int .i64) _ _ _ 13 [.int .i64 13] from rfl) (Reps.none _ _)))))))); intro v342 w5 ho6 hb hg_ hnew_; clear hg_ hnew_; (first | rw [← Ny341.out] at ho6 | (simp only [Int.reduceToNat] at ho6; rw [← Ny341.out] at ho6)); have n0_ := Aside0.mk (Kd.R_lower ho6 (below_size (by repeat (first | (with_reducible first | exact HB.out | apply below_alloc | apply pw_below_drewN | apply below_drew1) | exact HB.out)))); have n1_ := Aside0.mk (below_step (by repeat (first | (with_reducible first | exact HB.out | apply below_alloc | apply pw_below_drewN | apply below_drew1) | exact HB.out)) hb); clear HB; have HO343 := n0_; have HB := n1_; clear n0_ n1_; clear hb ho6; obtain ⟨Ao7, co7, eo7⟩ := Kd.R_slice HO343.out; subst eo7; have p344 : 0 ≤ ((ji2) : Int) := of_decide_eq_true (by first | (with_reducible assumption) | assumption); have q344 : (ji2) < (y341.length : Int) := of_decide_eq_true (by first | (with_reducible assumption) | assumption); obtain ⟨ad344, e344, hx344_0⟩ := Kd.at_int (Kd.R_reads' HO343.out).2.2 (ji2) p344 q344; cases e344; replace p344 := eq_true p344; replace q344 := eq_true q344))
      go_loopg [4, 5] k (fun kq v4 v5 w' => ∃ (x4_1 : List (S39)) (x5_1 : Int), v5 = .int .i64 x5_1 ∧ Aside0 (constablelaw05_SubstMany.l0 kq (rd y341 (ji2)) (⟨#[48, 49, 50, 51, 52, 53, 54, 55, 56, 57]⟩ : ByteArray) x4_1 x5_1 = some r) ∧ Aside0 (kq ≤ k) ∧ Aside0 (Kd.R k39 39 w' w.heap.size (fun _ => True) v4 x4_1) ∧ Aside0 (Below w.heap.size w w'))
      case atStart => exact ⟨(([] : List (S39))), (0), (by first | rfl | (simp; done) | (simp [*]; done)), H', ⟨Nat.le_refl _⟩, ⟨by first | exact Kd.R_nil _ _ _ _ _ | exact Kd.N_nil _ _ _ _ _ | exact Kd.V_nil _ _ _ _ _ | exact Kd.Q_nil _ _ _ _ _ | exact Kd.S_nil _ _ _ _ _⟩, ⟨by repeat (first | (with_reducible first | exact HB.out | apply below_alloc | apply pw_below_drewN | apply below_drew1) | exact HB.out)⟩⟩
      case round =>
        clear H'
        (try clear p2); (try clear c3); (try clear c3b0); (try clear p3); (try clear q3); (try clear hx3); (try clear c4); (try clear c4b0); (try clear c6); (try clear p6); (try clear hx344_0); (try clear p344); (try clear q344)
        obtain ⟨x4_1, x5_1, rfl, HA, HK1, HO_4, HB⟩ := hrel
        cases gk with
        | zero => exact absurd HA.out (by simp [constablelaw05_SubstMany.l0])
        | succ k1 =>
          have H := HA.out
          clear HA
          simp only [constablelaw05_SubstMany.l0] at H
          by_cases c8 : x5_1 < 100
          · rw [if_pos c8] at H
            have c8b0 : decide (x5_1 < 100) = true := decide_eq_true c8
            clear c8
            obtain ⟨ji9, hji9⟩ : ∃ j_ : Int, (wrap64 (Int.tdiv (Int.tmod (wrap64 (x5_1 * (rd y341 (ji2)))) 100) 10)) = j_ := ⟨_, rfl⟩
            replace H : (if 0 ≤ (ji9) then (if (ji9) ≤ (wrap64 ((ji9) + 1)) then (if (wrap64 ((ji9) + 1)) ≤ ((⟨#[48, 49, 50, 51, 52, 53, 54, 55, 56, 57]⟩ : ByteArray).size : Int) then (if 1 + ((⟨#[48, 49, 50, 51, 52, 53, 54, 55, 56, 57]⟩ : ByteArray).extract ((ji9) : Int).toNat ((wrap64 ((ji9) + 1)) : Int).toNat).size ≤ 9223372036854775807 then (if 0 ≤ (Int.tmod (Int.tmod (wrap64 (x5_1 * (rd y341 (ji2)))) 100) 10) then (if (Int.tmod (Int.tmod (wrap64 (x5_1 * (rd y341 (ji2)))) 100) 10) ≤ (wrap64 ((Int.tmod (Int.tmod (wrap64 (x5_1 * (rd y341 (ji2)))) 100) 10) + 1)) then (if (wrap64 ((Int.tmod (Int.tmod (wrap64 (x5_1 * (rd y341 (ji2)))) 100) 10) + 1)) ≤ ((⟨#[48, 49, 50, 51, 52, 53, 54, 55, 56, 57]⟩ : ByteArray).size : Int) then (if ((⟨#[86]⟩ : ByteArray) ++ ((⟨#[48, 49, 50, 51, 52, 53, 54, 55, 56, 57]⟩ : ByteArray).extract ((ji9) : Int).toNat ((wrap64 ((ji9) + 1)) : Int).toNat)).size + ((⟨#[48, 49, 50, 51, 52, 53, 54, 55, 56, 57]⟩ : ByteArray).extract ((Int.tmod (Int.tmod (wrap64 (x5_1 * (rd y341 (ji2)))) 100) 10) : Int).toNat ((wrap64 ((Int.tmod (Int.tmod (wrap64 (x5_1 * (rd y341 (ji2)))) 100) 10) + 1)) : Int).toNat).size ≤ 9223372036854775807 then ((subst_Put.f k1 x4_1 (((⟨#[86]⟩ : ByteArray) ++ ((⟨#[48, 49, 50, 51, 52, 53, 54, 55, 56, 57]⟩ : ByteArray).extract ((ji9) : Int).toNat ((wrap64 ((ji9) + 1)) : Int).toNat)) ++ ((⟨#[48, 49, 50, 51, 52, 53, 54, 55, 56, 57]⟩ : ByteArray).extract ((Int.tmod (Int.tmod (wrap64 (x5_1 * (rd y341 (ji2)))) 100) 10) : Int).toNat ((wrap64 ((Int.tmod (Int.tmod (wrap64 (x5_1 * (rd y341 (ji2)))) 100) 10) + 1)) : Int).toNat)) 1 (Int.tmod (wrap64 (x5_1 * (rd y341 (ji2)))) 100) (⟨#[]⟩ : ByteArray)).bind fun bt345 => (if bt345.2 = true then (if (bt345.1.length : Int) = (wrap64 (x5_1 + 1)) then ((subst_Check.f k1 bt345.1).bind fun t349 => (if t349 = 0 then (constablelaw05_SubstMany.l0 k1 (rd y341 (ji2)) (⟨#[48, 49, 50, 51, 52, 53, 54, 55, 56, 57]⟩ : ByteArray) bt345.1 (wrap64 (x5_1 + 1))) else (none))) else (none)) else (none))) else (none)) else (none)) else (none)) else (none)) else (none)) else (none)) else (none)) else (none)) = some r := by first | (rw [hji9] at H; exact H) | (simp only [hji9] at H ⊢; exact H)
            have hji9w : (IntKind.i64.wrap (Int.tdiv (Int.tmod (wrap64 (x5_1 * (rd y341 (ji2)))) 100) 10)) = ji9 := (i64_w _).trans hji9
            by_cases c10 : 0 ≤ (ji9)
            · rw [if_pos c10] at H
              have c10b0 := eq_true c10
              have c10b1 : decide (0 ≤ (ji9)) = true := decide_eq_true c10
              clear c10
              by_cases c11 : (ji9) ≤ (wrap64 ((ji9) + 1))
              · rw [if_pos c11] at H
                have c11b0 := eq_true c11
                have c11b1 : decide ((ji9) ≤ (wrap64 ((ji9) + 1))) = true := decide_eq_true c11
                by_cases c12 : (wrap64 ((ji9) + 1)) ≤ ((⟨#[48, 49, 50, 51, 52, 53, 54, 55, 56, 57]⟩ : ByteArray).size : Int)
                · rw [if_pos c12] at H
                  have c12b0 := eq_true c12
                  have c12b1 : decide ((wrap64 ((ji9) + 1)) ≤ ((⟨#[48, 49, 50, 51, 52, 53, 54, 55, 56, 57]⟩ : ByteArray).size : Int)) = true := decide_eq_true c12
                  have c12b9 : ((wrap64 ((ji9) + 1)) ≤ 10) = True := c12b0
                  have c12b8 : (9223372036854775807 < 1 + ((wrap64 (ji9 + 1)).toNat - ji9.toNat)) = False := eq_false (by have h_ : (wrap64 ((ji9) + 1)) ≤ 10 := of_eq_true c12b9; omega)
                  by_cases c13 : 1 + ((⟨#[48, 49, 50, 51, 52, 53, 54, 55, 56, 57]⟩ : ByteArray).extract ((ji9) : Int).toNat ((wrap64 ((ji9) + 1)) : Int).toNat).size ≤ 9223372036854775807
                  · rw [if_pos c13] at H
                    have c13b0 := eq_true c13
                    have c13b1 : decide (1 + ((⟨#[48, 49, 50, 51, 52, 53, 54, 55, 56, 57]⟩ : ByteArray).extract ((ji9) : Int).toNat ((wrap64 ((ji9) + 1)) : Int).toNat).size ≤ 9223372036854775807) = true := decide_eq_true c13
                    try have c13b2 : (9223372036854775807 < 1 + ((⟨#[48, 49, 50, 51, 52, 53, 54, 55, 56, 57]⟩ : ByteArray).extract ((ji9) : Int).toNat ((wrap64 ((ji9) + 1)) : Int).toNat).size) = False := eq_false (Nat.not_lt.2 c13)
                    obtain ⟨ji14, hji14⟩ : ∃ j_ : Int, (Int.tmod (Int.tmod (wrap64 (x5_1 * (rd y341 (ji2)))) 100) 10) = j_ := ⟨_, rfl⟩
                    replace H : (if 0 ≤ (ji14) then (if (ji14) ≤ (wrap64 ((ji14) + 1)) then (if (wrap64 ((ji14) + 1)) ≤ ((⟨#[48, 49, 50, 51, 52, 53, 54, 55, 56, 57]⟩ : ByteArray).size : Int) then (if ((⟨#[86]⟩ : ByteArray) ++ ((⟨#[48, 49, 50, 51, 52, 53, 54, 55, 56, 57]⟩ : ByteArray).extract ((ji9) : Int).toNat ((wrap64 ((ji9) + 1)) : Int).toNat)).size + ((⟨#[48, 49, 50, 51, 52, 53, 54, 55, 56, 57]⟩ : ByteArray).extract ((ji14) : Int).toNat ((wrap64 ((ji14) + 1)) : Int).toNat).size ≤ 9223372036854775807 then ((subst_Put.f k1 x4_1 (((⟨#[86]⟩ : ByteArray) ++ ((⟨#[48, 49, 50, 51, 52, 53, 54, 55, 56, 57]⟩ : ByteArray).extract ((ji9) : Int).toNat ((wrap64 ((ji9) + 1)) : Int).toNat)) ++ ((⟨#[48, 49, 50, 51, 52, 53, 54, 55, 56, 57]⟩ : ByteArray).extract ((ji14) : Int).toNat ((wrap64 ((ji14) + 1)) : Int).toNat)) 1 (Int.tmod (wrap64 (x5_1 * (rd y341 (ji2)))) 100) (⟨#[]⟩ : ByteArray)).bind fun bt345 => (if bt345.2 = true then (if (bt345.1.length : Int) = (wrap64 (x5_1 + 1)) then ((subst_Check.f k1 bt345.1).bind fun t349 => (if t349 = 0 then (constablelaw05_SubstMany.l0 k1 (rd y341 (ji2)) (⟨#[48, 49, 50, 51, 52, 53, 54, 55, 56, 57]⟩ : ByteArray) bt345.1 (wrap64 (x5_1 + 1))) else (none))) else (none)) else (none))) else (none)) else (none)) else (none)) else (none)) = some r := by first | (rw [hji14] at H; exact H) | (simp only [hji14] at H ⊢; exact H)
                    by_cases c15 : 0 ≤ (ji14)
                    · rw [if_pos c15] at H
                      have c15b0 := eq_true c15
                      have c15b1 : decide (0 ≤ (ji14)) = true := decide_eq_true c15
                      clear c15
                      by_cases c16 : (ji14) ≤ (wrap64 ((ji14) + 1))
                      · rw [if_pos c16] at H
                        have c16b0 := eq_true c16
                        have c16b1 : decide ((ji14) ≤ (wrap64 ((ji14) + 1))) = true := decide_eq_true c16
                        by_cases c17 : (wrap64 ((ji14) + 1)) ≤ ((⟨#[48, 49, 50, 51, 52, 53, 54, 55, 56, 57]⟩ : ByteArray).size : Int)
                        · rw [if_pos c17] at H
                          have c17b0 := eq_true c17
                          have c17b1 : decide ((wrap64 ((ji14) + 1)) ≤ ((⟨#[48, 49, 50, 51, 52, 53, 54, 55, 56, 57]⟩ : ByteArray).size : Int)) = true := decide_eq_true c17
                          have c17b9 : ((wrap64 ((ji14) + 1)) ≤ 10) = True := c17b0
                          (try (have c17b7 : (9223372036854775807 < 1 + ((wrap64 (ji9 + 1)).toNat - ji9.toNat) + ((wrap64 (ji14 + 1)).toNat - ji14.toNat)) = False := eq_false (by have h_ : (wrap64 ((ji14) + 1)) ≤ 10 := of_eq_true c17b9; have h2_ : (wrap64 ((ji9) + 1)) ≤ 10 := of_eq_true c12b9; omega)))
                          have c17b8 : (9223372036854775807 < 1 + ((wrap64 (ji14 + 1)).toNat - ji14.toNat)) = False := eq_false (by have h_ : (wrap64 ((ji14) + 1)) ≤ 10 := of_eq_true c17b9; omega)
                          by_cases c18 : ((⟨#[86]⟩ : ByteArray) ++ ((⟨#[48, 49, 50, 51, 52, 53, 54, 55, 56, 57]⟩ : ByteArray).extract ((ji9) : Int).toNat ((wrap64 ((ji9) + 1)) : Int).toNat)).size + ((⟨#[48, 49, 50, 51, 52, 53, 54, 55, 56, 57]⟩ : ByteArray).extract ((ji14) : Int).toNat ((wrap64 ((ji14) + 1)) : Int).toNat).size ≤ 9223372036854775807
                          · rw [if_pos c18] at H
                            have c18b0 := eq_true c18
                            have c18b1 : decide (((⟨#[86]⟩ : ByteArray) ++ ((⟨#[48, 49, 50, 51, 52, 53, 54, 55, 56, 57]⟩ : ByteArray).extract ((ji9) : Int).toNat ((wrap64 ((ji9) + 1)) : Int).toNat)).size + ((⟨#[48, 49, 50, 51, 52, 53, 54, 55, 56, 57]⟩ : ByteArray).extract ((ji14) : Int).toNat ((wrap64 ((ji14) + 1)) : Int).toNat).size ≤ 9223372036854775807) = true := decide_eq_true c18
                            try have c18b2 : (9223372036854775807 < ((⟨#[86]⟩ : ByteArray) ++ ((⟨#[48, 49, 50, 51, 52, 53, 54, 55, 56, 57]⟩ : ByteArray).extract ((ji9) : Int).toNat ((wrap64 ((ji9) + 1)) : Int).toNat)).size + ((⟨#[48, 49, 50, 51, 52, 53, 54, 55, 56, 57]⟩ : ByteArray).extract ((ji14) : Int).toNat ((wrap64 ((ji14) + 1)) : Int).toNat).size) = False := eq_false (Nat.not_lt.2 c18)
                            replace H := Option.bind_eq_some_iff.mp H
                            obtain ⟨⟨t345, t348⟩, A190, H⟩ := H
                            replace H : (if t348 = true then (if (t345.length : Int) = (wrap64 (x5_1 + 1)) then ((subst_Check.f k1 t345).bind fun t349 => (if t349 = 0 then (constablelaw05_SubstMany.l0 k1 (rd y341 (ji2)) (⟨#[48, 49, 50, 51, 52, 53, 54, 55, 56, 57]⟩ : ByteArray) t345 (wrap64 (x5_1 + 1))) else (none))) else (none)) else (none)) = some r := H
                            have A19 := Aside0.mk A190
                            clear A190
                            by_cases c20 : t348 = true
                            · subst c20
                              have H1 : (if (t345.length : Int) = (wrap64 (x5_1 + 1)) then ((subst_Check.f k1 t345).bind fun t349 => (if t349 = 0 then (constablelaw05_SubstMany.l0 k1 (rd y341 (ji2)) (⟨#[48, 49, 50, 51, 52, 53, 54, 55, 56, 57]⟩ : ByteArray) t345 (wrap64 (x5_1 + 1))) else (none))) else (none)) = some r := by rw [if_pos rfl] at H; exact H
                              clear H
                              have H := H1
                              clear H1
                              by_cases c21 : (t345.length : Int) = (wrap64 (x5_1 + 1))
                              · rw [if_pos c21] at H
                                have c21b0 : ((t345.length : Int) == (wrap64 (x5_1 + 1))) = true := beq_iff_eq.mpr c21
                                have c21b1 : ((t345.length : Int) != (wrap64 (x5_1 + 1))) = false := bne_eq_false_iff_eq.mpr c21
                                clear c21
                                replace H := Option.bind_eq_some_iff.mp H
                                obtain ⟨t349, A220, H⟩ := H
                                replace H : (if t349 = 0 then (constablelaw05_SubstMany.l0 k1 (rd y341 (ji2)) (⟨#[48, 49, 50, 51, 52, 53, 54, 55, 56, 57]⟩ : ByteArray) t345 (wrap64 (x5_1 + 1))) else (none)) = some r := H
                                have A22 := Aside0.mk A220
                                clear A220
                                by_cases c23 : t349 = 0
                                · rw [if_pos c23] at H
                                  have c23b0 : (t349 == 0) = true := beq_iff_eq.mpr c23
                                  have c23b1 : (t349 != 0) = false := bne_eq_false_iff_eq.mpr c23
                                  clear c23
                                  have H' := Aside0.mk H
                                  clear H
                                  try go_wp2
                                  have n0_ := Aside0.mk (Kd.R_drew HO_4.out)
                                  have n1_ := Aside0.mk (below_drew1 HB.out)
                                  clear HO_4
                                  clear HB
                                  have HO_4 := n0_
                                  have HB := n1_
                                  clear n0_ n1_
                                  obtain ⟨Ao25, co25, eo25⟩ := Kd.R_slice HO_4.out
                                  (first | subst eo25 | (injection eo25 with f1_ f2_ f3_; have f4_ := f1_.symm; have f5_ := f3_.symm; clear f1_ f2_ f3_; subst f4_; subst f5_))
                                  refine start_ (n := 25) (S := fun w' => True) (ds := []) #[false, false, false, false, false, false, false, false, false, false, false, false, false, false, false, false, false, false, false, false, false, false, false, false, false] (by kernel_rfl) rfl rfl trivial (fun hHeld => ?_); refine with_tabW constablelaw05_SubstMany.tab8 constablelaw05_SubstMany.bits8 (fun HT_ HW_ => ?_)
                                  generalize wr.drew = w24 at HO_4 HB hHeld ⊢
                                  refine pure_ (i := 0) (N := some 32) (v := ?_) (a' := ?_) #[true, false, false, false, false, false, false, false, false, false, false, false, false, false, false, false, false, false, false, false, false, false, false, false, false] rfl rfl (any_of HT_.out (by kernel_rfl)) (fun _ _ _ h => h) (Or.inl ⟨by rfl, ?_⟩) ?_ ?_
                                  rotate_left
                                  · intro w'
                                    go_simp
                                    with_reducible rfl
                                  rotate_left
                                  · simp only [Act.put, List.setIfInBounds_toArray, List.set_cons_zero, List.set_cons_succ, i64_w, i32_w]
                                    rfl
                                  refine pure_ (i := 1) (N := some 33) (v := ?_) (a' := ?_) #[true, true, false, false, false, false, false, false, false, false, false, false, false, false, false, false, false, false, false, false, false, false, false, false, false] rfl rfl (any_of HT_.out (by kernel_rfl)) (fun _ _ _ h => h) (Or.inl ⟨by rfl, ?_⟩) ?_ ?_
                                  rotate_left
                                  · intro w'
                                    go_simp
                                    with_reducible rfl
                                  rotate_left
                                  · simp only [Act.put, List.setIfInBounds_toArray, List.set_cons_zero, List.set_cons_succ, i64_w, i32_w]
                                    rfl
                                  refine pure_ (i := 2) (N := some 34) (v := ?_) (a' := ?_) #[true, true, true, false, false, false, false, false, false, false, false, false, false, false, false, false, false, false, false, false, false, false, false, false, false] rfl rfl (any_of HT_.out (by kernel_rfl)) (fun _ _ _ h => h) (Or.inl ⟨by rfl, ?_⟩) ?_ ?_
                                  rotate_left
                                  · intro w'
                                    go_simp
                                    with_reducible rfl
                                  rotate_left
                                  · simp only [Act.put, List.setIfInBounds_toArray, List.set_cons_zero, List.set_cons_succ, i64_w, i32_w]
                                    rfl
                                  refine pure_ (i := 3) (N := some 35) (v := ?_) (a' := ?_) #[true, true, true, true, false, false, false, false, false, false, false, false, false, false, false, false, false, false, false, false, false, false, false, false, false] rfl rfl (any_of HT_.out (by kernel_rfl)) (fun _ _ _ h => h) (Or.inl ⟨by rfl, ?_⟩) ?_ ?_
                                  rotate_left
                                  · intro w'
                                    go_simp
                                    with_reducible rfl
                                  rotate_left
                                  · simp only [Act.put, List.setIfInBounds_toArray, List.set_cons_zero, List.set_cons_succ, i64_w, i32_w]
                                    rfl
                                  refine pure_ (i := 4) (N := some 36) (v := ?_) (a' := ?_) #[true, true, true, true, true, false, false, false, false, false, false, false, false, false, false, false, false, false, false, false, false, false, false, false, false] rfl rfl (any_of HT_.out (by kernel_rfl)) (fun _ _ _ h => h) (Or.inl ⟨by rfl, ?_⟩) ?_ ?_
                                  rotate_left
                                  · intro w'
                                    go_simp
                                    with_reducible rfl
                                  rotate_left
                                  · simp only [Act.put, List.setIfInBounds_toArray, List.set_cons_zero, List.set_cons_succ, i64_w, i32_w]
                                    rfl
                                  refine pure_ (i := 5) (N := some 37) (v := ?_) (a' := ?_) #[true, true, true, true, true, true, false, false, false, false, false, false, false, false, false, false, false, false, false, false, false, false, false, false, false] rfl rfl (any_of HT_.out (by kernel_rfl)) (fun _ _ _ h => h) (Or.inl ⟨by rfl, ?_⟩) ?_ ?_
                                  rotate_left
                                  · intro w'
                                    go_simp
                                    with_reducible rfl
                                  rotate_left
                                  · simp only [Act.put, List.setIfInBounds_toArray, List.set_cons_zero, List.set_cons_succ, i64_w, i32_w]
                                    rfl
                                  refine pure_ (i := 6) (N := some 38) (v := ?_) (a' := ?_) #[true, true, true, true, true, true, true, false, false, false, false, false, false, false, false, false, false, false, false, false, false, false, false, false, false] rfl rfl (any_of HT_.out (by kernel_rfl)) (fun _ _ _ h => h) (Or.inl ⟨by rfl, ?_⟩) ?_ ?_
                                  rotate_left
                                  · intro w'
                                    go_simp
                                    with_reducible rfl
                                  rotate_left
                                  · simp only [Act.put, List.setIfInBounds_toArray, List.set_cons_zero, List.set_cons_succ, i64_w, i32_w]
                                    rfl
                                  refine pure_ (i := 7) (N := some 39) (v := ?_) (a' := ?_) #[true, true, true, true, true, true, true, true, false, false, false, false, false, false, false, false, false, false, false, false, false, false, false, false, false] rfl rfl (any_of HT_.out (by kernel_rfl)) (fun _ _ _ h => h) (Or.inl ⟨by rfl, ?_⟩) ?_ ?_
                                  rotate_left
                                  · intro w'
                                    go_simp
                                    with_reducible rfl
                                  rotate_left
                                  · simp only [Act.put, List.setIfInBounds_toArray, List.set_cons_zero, List.set_cons_succ, i64_w, i32_w]
                                    rfl
                                  refine pure_ (i := 8) (N := some 40) (v := ?_) (a' := ?_) #[true, true, true, true, true, true, true, true, true, false, false, false, false, false, false, false, false, false, false, false, false, false, false, false, false] rfl rfl (any_of HT_.out (by kernel_rfl)) (fun _ _ _ h => h) (Or.inl ⟨by rfl, ?_⟩) ?_ ?_
                                  rotate_left
                                  · intro w'
                                    go_simp
                                    with_reducible rfl
                                  rotate_left
                                  · simp only [Act.put, List.setIfInBounds_toArray, List.set_cons_zero, List.set_cons_succ, i64_w, i32_w]
                                    rfl
                                  refine pure_ (i := 9) (N := some 41) (v := ?_) (a' := ?_) #[true, true, true, true, true, true, true, true, true, true, false, false, false, false, false, false, false, false, false, false, false, false, false, false, false] rfl rfl (any_of HT_.out (by kernel_rfl)) (fun _ _ _ h => h) (Or.inl ⟨by rfl, ?_⟩) ?_ ?_
                                  rotate_left
                                  · intro w'
                                    go_simp
                                    with_reducible rfl
                                  rotate_left
                                  · simp only [Act.put, List.setIfInBounds_toArray, List.set_cons_zero, List.set_cons_succ, i64_w, i32_w]
                                    rfl
                                  refine pure_ (i := 10) (N := some 42) (v := ?_) (a' := ?_) #[true, true, true, true, true, true, true, true, true, true, true, false, false, false, false, false, false, false, false, false, false, false, false, false, false] rfl rfl (any_of HT_.out (by kernel_rfl)) (fun _ _ _ h => h) (Or.inl ⟨by rfl, ?_⟩) ?_ ?_
                                  rotate_left
                                  · intro w'
                                    go_simp
                                    with_reducible rfl
                                  rotate_left
                                  · simp only [Act.put, List.setIfInBounds_toArray, List.set_cons_zero, List.set_cons_succ, i64_w, i32_w]
                                    rfl
                                  refine pure_ (i := 11) (N := some 43) (v := ?_) (a' := ?_) #[true, true, true, true, true, true, true, true, true, true, true, true, false, false, false, false, false, false, false, false, false, false, false, false, false] rfl rfl (any_of HT_.out (by kernel_rfl)) (fun _ _ _ h => h) (Or.inl ⟨by rfl, ?_⟩) ?_ ?_
                                  rotate_left
                                  · intro w'
                                    go_simp
                                    with_reducible rfl
                                  rotate_left
                                  · simp only [Act.put, List.setIfInBounds_toArray, List.set_cons_zero, List.set_cons_succ, i64_w, i32_w]
                                    rfl
                                  refine pure_ (i := 12) (N := some 44) (v := ?_) (a' := ?_) #[true, true, true, true, true, true, true, true, true, true, true, true, true, false, false, false, false, false, false, false, false, false, false, false, false] rfl rfl (any_of HT_.out (by kernel_rfl)) (fun _ _ _ h => h) (Or.inl ⟨by rfl, ?_⟩) ?_ ?_
                                  rotate_left
                                  · intro w'
                                    go_simp
                                    with_reducible rfl
                                  rotate_left
                                  · simp only [Act.put, List.setIfInBounds_toArray, List.set_cons_zero, List.set_cons_succ, i64_w, i32_w]
                                    rfl
                                  refine pure_ (i := 13) (N := some 45) (v := ?_) (a' := ?_) #[true, true, true, true, true, true, true, true, true, true, true, true, true, true, false, false, false, false, false, false, false, false, false, false, false] rfl rfl (any_of HT_.out (by kernel_rfl)) (fun _ _ _ h => h) (Or.inl ⟨by rfl, ?_⟩) ?_ ?_
                                  rotate_left
                                  · intro w'
                                    go_simp
                                    with_reducible rfl
                                  rotate_left
                                  · simp only [Act.put, List.setIfInBounds_toArray, List.set_cons_zero, List.set_cons_succ, i64_w, i32_w]
                                    rfl
                                  refine pure_ (i := 14) (N := some 46) (v := ?_) (a' := ?_) #[true, true, true, true, true, true, true, true, true, true, true, true, true, true, true, false, false, false, false, false, false, false, false, false, false] rfl rfl (any_of HT_.out (by kernel_rfl)) (fun _ _ _ h => h) (Or.inl ⟨by rfl, ?_⟩) ?_ ?_
                                  rotate_left
                                  · intro w'
                                    go_simp
                                    with_reducible rfl
                                  rotate_left
                                  · simp only [Act.put, List.setIfInBounds_toArray, List.set_cons_zero, List.set_cons_succ, i64_w, i32_w]
                                    rfl
                                  refine pure_ (i := 15) (N := some 47) (v := ?_) (a' := ?_) #[true, true, true, true, true, true, true, true, true, true, true, true, true, true, true, true, false, false, false, false, false, false, false, false, false] rfl rfl (any_of HT_.out (by kernel_rfl)) (fun _ _ _ h => h) (Or.inl ⟨by rfl, ?_⟩) ?_ ?_
                                  rotate_left
                                  · intro w'
                                    go_simp
                                    with_reducible rfl
                                  rotate_left
                                  · simp only [Act.put, List.setIfInBounds_toArray, List.set_cons_zero, List.set_cons_succ, i64_w, i32_w]
                                    rfl
                                  refine pure_ (i := 16) (N := some 48) (v := ?_) (a' := ?_) #[true, true, true, true, true, true, true, true, true, true, true, true, true, true, true, true, true, false, false, false, false, false, false, false, false] rfl rfl (any_of HT_.out (by kernel_rfl)) (fun _ _ _ h => h) (Or.inl ⟨by rfl, ?_⟩) ?_ ?_
                                  rotate_left
                                  · intro w'
                                    go_simp
                                    with_reducible rfl
                                  rotate_left
                                  · simp only [Act.put, List.setIfInBounds_toArray, List.set_cons_zero, List.set_cons_succ, i64_w, i32_w]
                                    rfl
                                  refine pure_ (i := 17) (N := some 49) (v := ?_) (a' := ?_) #[true, true, true, true, true, true, true, true, true, true, true, true, true, true, true, true, true, true, false, false, false, false, false, false, false] rfl rfl (any_of HT_.out (by kernel_rfl)) (fun _ _ _ h => h) (Or.inl ⟨by rfl, ?_⟩) ?_ ?_
                                  rotate_left
                                  · intro w'
                                    go_simp
                                    with_reducible rfl
                                  rotate_left
                                  · simp only [Act.put, List.setIfInBounds_toArray, List.set_cons_zero, List.set_cons_succ, i64_w, i32_w]
                                    rfl
                                  refine pure_ (i := 18) (N := some 50) (v := ?_) (a' := ?_) #[true, true, true, true, true, true, true, true, true, true, true, true, true, true, true, true, true, true, true, false, false, false, false, false, false] rfl rfl (any_of HT_.out (by kernel_rfl)) (fun _ _ _ h => h) (Or.inl ⟨by rfl, ?_⟩) ?_ ?_
                                  rotate_left
                                  · intro w'
                                    go_simp
                                    with_reducible rfl
                                  rotate_left
                                  · simp only [Act.put, List.setIfInBounds_toArray, List.set_cons_zero, List.set_cons_succ, i64_w, i32_w]
                                    rfl
                                  refine one_ (i := 19) (N := some 51) #[true, true, true, true, true, true, true, true, true, true, true, true, true, true, true, true, true, true, true, true, false, false, false, false, false] rfl rfl (one_of HT_.out (by kernel_rfl)) (by decide) (fun K hK => ?_)
                                  refine goes_ Try.func19 (by kernel_rfl) rfl #[.slice Ao25 x4_1.length co25, .string (((⟨#[86]⟩ : ByteArray) ++ ((⟨#[48, 49, 50, 51, 52, 53, 54, 55, 56, 57]⟩ : ByteArray).extract ((ji9) : Int).toNat ((wrap64 ((ji9) + 1)) : Int).toNat)) ++ ((⟨#[48, 49, 50, 51, 52, 53, 54, 55, 56, 57]⟩ : ByteArray).extract ((ji14) : Int).toNat ((wrap64 ((ji14) + 1)) : Int).toNat)), .agg #[.int .i64 1, .int .i64 (Int.tmod (wrap64 (x5_1 * (rd y341 (ji2)))) 100), .string (⟨#[]⟩ : ByteArray)]] (by rfl) rfl rfl (by (try simp only [List.map_toArray, List.map_cons, List.map_nil]); first | done | (simp only [hji14, hji2, hji9]; rfl) | rfl | (simp only [List.length_drop, List.length_take]; rfl)) ?_
                                  with_reducible refine (subst_Put.calls k1 _ _ x4_1 (((⟨#[86]⟩ : ByteArray) ++ ((⟨#[48, 49, 50, 51, 52, 53, 54, 55, 56, 57]⟩ : ByteArray).extract ((ji9) : Int).toNat ((wrap64 ((ji9) + 1)) : Int).toNat)) ++ ((⟨#[48, 49, 50, 51, 52, 53, 54, 55, 56, 57]⟩ : ByteArray).extract ((ji14) : Int).toNat ((wrap64 ((ji14) + 1)) : Int).toNat)) 1 (Int.tmod (wrap64 (x5_1 * (rd y341 (ji2)))) 100) (⟨#[]⟩ : ByteArray) t345 true _ ?side1 ?side2 A19.out).mono ?_
                                  (case side1 => repeat (first | exact (Kd.R_reads' HO_4.out).2.2 | (with_reducible refine Kd.C_alloc ?_ _) | (with_reducible refine Kd.C_drewN ?_ _) | (with_reducible refine Kd.C_drew ?_)))
                                  (case side2 => exact (Kd.R_reads' HO_4.out).2.1)
                                  rintro e w26 ⟨v346, rfl, ho0, hb⟩
                                  refine ⟨_, rfl, ?_⟩
                                  have n0_ := Aside0.mk (Kd.R_elder' (by (with_reducible repeat (first | apply Kd.R_alloc | apply Kd.R_drewN | apply Kd.R_drew)); exact HO_4.out) (Kd.R_base ho0) hb)
                                  have n1_ := Aside0.mk (Kd.R_lower (Kd.R_new' ho0 (Kd.R_lt (by (with_reducible repeat (first | apply Kd.R_alloc | apply Kd.R_drewN | apply Kd.R_drew)); exact HO_4.out))) (below_size (by repeat (first | (with_reducible first | exact HB.out | apply below_alloc | apply pw_below_drewN | apply below_drew1) | exact HB.out))))
                                  have n2_ := Aside0.mk (below_step (by repeat (first | (with_reducible first | exact HB.out | apply below_alloc | apply pw_below_drewN | apply below_drew1) | exact HB.out)) hb)
                                  clear HO_4
                                  clear HB
                                  have HO_4 := n0_
                                  have HO347 := n1_
                                  have HB := n2_
                                  clear n0_ n1_ n2_
                                  (try clear hb)
                                  (try clear hb2)
                                  (try clear hk)
                                  (try clear hi)
                                  (try clear ho0)
                                  refine hK.out _ _ trivial (fun hHeld => ?_)
                                  clear hK K
                                  refine norm_ (a' := ?_) ?_ ?_
                                  rotate_left
                                  · show Act.put _ (some 51) _ = _
                                    simp only [Act.put, List.setIfInBounds_toArray, List.set_cons_zero, List.set_cons_succ, i64_w, i32_w]
                                    rfl
                                  refine pure_ (i := 20) (N := some 31) (v := ?_) (a' := ?_) #[true, true, true, true, true, true, true, true, true, true, true, true, true, true, true, true, true, true, true, true, true, false, false, false, false] rfl rfl (any_of HT_.out (by kernel_rfl)) (fun _ _ _ h => h) (Or.inl ⟨by rfl, ?_⟩) ?_ ?_
                                  rotate_left
                                  · intro w'
                                    go_simp
                                    with_reducible rfl
                                  rotate_left
                                  · simp only [Act.put, List.setIfInBounds_toArray, List.set_cons_zero, List.set_cons_succ, i64_w, i32_w]
                                    rfl
                                  refine pure_ (i := 21) (N := some 52) (v := ?_) (a' := ?_) #[true, true, true, true, true, true, true, true, true, true, true, true, true, true, true, true, true, true, true, true, true, true, false, false, false] rfl rfl (any_of HT_.out (by kernel_rfl)) (fun _ _ _ h => h) (Or.inl ⟨by rfl, ?_⟩) ?_ ?_
                                  rotate_left
                                  · intro w'
                                    go_simp
                                    with_reducible rfl
                                  rotate_left
                                  · simp only [Act.put, List.setIfInBounds_toArray, List.set_cons_zero, List.set_cons_succ, i64_w, i32_w]
                                    rfl
                                  refine pure_ (i := 22) (N := some 53) (v := ?_) (a' := ?_) #[true, true, true, true, true, true, true, true, true, true, true, true, true, true, true, true, true, true, true, true, true, true, true, false, false] rfl rfl (any_of HT_.out (by kernel_rfl)) (fun _ _ _ h => h) (Or.inl ⟨by rfl, ?_⟩) ?_ ?_
                                  rotate_left
                                  · intro w'
                                    go_simp
                                    with_reducible rfl
                                  rotate_left
                                  · simp only [Act.put, List.setIfInBounds_toArray, List.set_cons_zero, List.set_cons_succ, i64_w, i32_w]
                                    rfl
                                  refine pure_ (i := 23) (N := some 7) (v := ?_) (a' := ?_) #[true, true, true, true, true, true, true, true, true, true, true, true, true, true, true, true, true, true, true, true, true, true, true, true, false] rfl rfl (any_of HT_.out (by kernel_rfl)) (fun _ _ _ h => h) (Or.inl ⟨by rfl, ?_⟩) ?_ ?_
                                  rotate_left
                                  · intro w'
                                    go_simp
                                    with_reducible rfl
                                  rotate_left
                                  · simp only [Act.put, List.setIfInBounds_toArray, List.set_cons_zero, List.set_cons_succ, i64_w, i32_w]
                                    rfl
                                  refine pure_ (i := 24) (N := some 8) (v := ?_) (a' := ?_) #[true, true, true, true, true, true, true, true, true, true, true, true, true, true, true, true, true, true, true, true, true, true, true, true, true] rfl rfl (any_of HT_.out (by kernel_rfl)) (fun _ _ _ h => h) (Or.inl ⟨by rfl, ?_⟩) ?_ ?_
                                  rotate_left
                                  · intro w'
                                    go_simp
                                    with_reducible rfl
                                  rotate_left
                                  · simp only [Act.put, List.setIfInBounds_toArray, List.set_cons_zero, List.set_cons_succ, i64_w, i32_w]
                                    rfl
                                  refine done_ (done_of HT_.out (by kernel_rfl)) ?_
                                  obtain ⟨Ao27, co27, eo27⟩ := Kd.R_slice HO347.out
                                  subst eo27
                                  try go_wp2_with (first | (go_at_call 25; (with_reducible refine (subst_Check.calls k1 _ _ t345 t349 _ ?side1 ?side2 A22.out).mono ?_); (case side1 => repeat (first | exact (Kd.R_reads' HO347.out).2.2 | (with_reducible refine Kd.C_alloc ?_ _) | (with_reducible refine Kd.C_drewN ?_ _) | (with_reducible refine Kd.C_drew ?_))); (case side2 => exact (Kd.R_reads' HO347.out).2.1); rintro e w28 ⟨rfl, hb⟩; have n0_ := Aside0.mk (Kd.R_below (by (with_reducible repeat (first | apply Kd.R_alloc | apply Kd.R_drewN | apply Kd.R_drew)); exact HO_4.out) hb); have n1_ := Aside0.mk (Kd.R_below (by (with_reducible repeat (first | apply Kd.R_alloc | apply Kd.R_drewN | apply Kd.R_drew)); exact HO347.out) hb); have n2_ := Aside0.mk (below_step (by repeat (first | (with_reducible first | exact HB.out | apply below_alloc | apply pw_below_drewN | apply below_drew1) | exact HB.out)) hb); clear HO_4; clear HO347; clear HB; have HO_4 := n0_; have HO347 := n1_; have HB := n2_; clear n0_ n1_ n2_; (try clear hb); (try clear hb2); (try clear hk); (try clear hi)))
                                  go_roundg k1
                                  case measure => have := HK1.out; omega
                                  case rel => exact ⟨(t345), (wrap64 (x5_1 + 1)), (by first | rfl | (simp; done) | (simp [*]; done)), H', ⟨by have := HK1.out; omega⟩, ⟨by (with_reducible repeat (first | apply Kd.R_alloc | apply Kd.R_drewN | apply Kd.R_drew)); exact Kd.R_mono HO347.out (fun _ hk => trivial)⟩, ⟨by repeat (first | (with_reducible first | exact HB.out | apply below_alloc | apply pw_below_drewN | apply below_drew1) | exact HB.out)⟩⟩
                                · rw [if_neg c23] at H
                                  exact absurd H (by simp)
                              · rw [if_neg c21] at H
                                exact absurd H (by simp)
                            · replace c20 := Bool.eq_false_iff.mpr c20
                              subst c20
                              have H1 : (none) = some r := by rw [if_neg (show ¬ (false = true) by decide)] at H; exact H
                              clear H
                              have H := H1
                              clear H1
                              exact absurd H (by simp)
                          · rw [if_neg c18] at H
                            exact absurd H (by simp)
                        · rw [if_neg c17] at H
                          exact absurd H (by simp)
                      · rw [if_neg c16] at H
                        exact absurd H (by simp)
                    · rw [if_neg c15] at H
                      exact absurd H (by simp)
                  · rw [if_neg c13] at H
                    exact absurd H (by simp)
                · rw [if_neg c12] at H
                  exact absurd H (by simp)
              · rw [if_neg c11] at H
                exact absurd H (by simp)
            · rw [if_neg c10] at H
              exact absurd H (by simp)
          · rw [if_neg c8] at H
            have c8b0 : decide (x5_1 < 100) = false := decide_eq_false c8
            clear c8
            replace H := Option.bind_eq_some_iff.mp H
            obtain ⟨⟨t350, t353⟩, A290, H⟩ := H
            replace H : ((subst_Put.f k1 x4_1 (⟨#[86, 48, 55]⟩ : ByteArray) 1 7 (⟨#[]⟩ : ByteArray)).bind fun bt354 => (constablelaw05_SubstMany.l1 k1 (⟨#[48, 49, 50, 51, 52, 53, 54, 55, 56, 57]⟩ : ByteArray) x4_1 t353 bt354.2 0)) = some r := H
            have A29 := Aside0.mk A290
            clear A290
            replace H := Option.bind_eq_some_iff.mp H
            obtain ⟨⟨t354, t357⟩, A300, H⟩ := H
            replace H : (constablelaw05_SubstMany.l1 k1 (⟨#[48, 49, 50, 51, 52, 53, 54, 55, 56, 57]⟩ : ByteArray) x4_1 t353 t357 0) = some r := H
            have A30 := Aside0.mk A300
            clear A300
            have H' := Aside0.mk H
            clear H
            obtain ⟨Ao31, co31, eo31⟩ := Kd.R_slice HO_4.out
            subst eo31
            go_wp2_with (first | ((with_reducible refine gate_callee (f := 19) rfl ?_); refine goesL_ (some 72) rfl rfl Try.func19 (by kernel_rfl) rfl #[.slice Ao31 x4_1.length co31, .string (⟨#[87]⟩ : ByteArray), .agg #[.int .i64 1, .int .i64 0, .string (⟨#[]⟩ : ByteArray)]] rfl (by (try simp only [List.map_toArray, List.map_cons, List.map_nil]); first | done | rfl | (simp only [List.length_drop, List.length_take]; rfl)) ?_; (with_reducible refine (subst_Put.calls k1 _ _ x4_1 (⟨#[87]⟩ : ByteArray) 1 0 (⟨#[]⟩ : ByteArray) t350 t353 _ ?side1 ?side2 A29.out).mono ?_); (case side1 => repeat (first | exact (Kd.R_reads' HO_4.out).2.2 | (with_reducible refine Kd.C_alloc ?_ _) | (with_reducible refine Kd.C_drewN ?_ _) | (with_reducible refine Kd.C_drew ?_))); (case side2 => exact (Kd.R_reads' HO_4.out).2.1); rintro e w32 ⟨v351, rfl, ho0, hb⟩; refine ⟨_, rfl, ?_⟩; have n0_ := Aside0.mk (Kd.R_elder' (by (with_reducible repeat (first | apply Kd.R_alloc | apply Kd.R_drewN | apply Kd.R_drew)); exact HO_4.out) (Kd.R_base ho0) hb); have n1_ := Aside0.mk (Kd.R_lower (Kd.R_new' ho0 (Kd.R_lt (by (with_reducible repeat (first | apply Kd.R_alloc | apply Kd.R_drewN | apply Kd.R_drew)); exact HO_4.out))) (below_size (by repeat (first | (with_reducible first | exact HB.out | apply below_alloc | apply pw_below_drewN | apply below_drew1) | exact HB.out)))); have n2_ := Aside0.mk (below_step (by repeat (first | (with_reducible first | exact HB.out | apply below_alloc | apply pw_below_drewN | apply below_drew1) | exact HB.out)) hb); clear HO_4; clear HB; have HO_4 := n0_; have HO352 := n1_; have HB := n2_; clear n0_ n1_ n2_; (try clear hb); (try clear hb2); (try clear hk); (try clear hi); (try clear ho0)) | ((with_reducible refine gate_callee (f := 19) rfl ?_); refine goesL_ (some 78) rfl rfl Try.func19 (by kernel_rfl) rfl #[.slice Ao31 x4_1.length co31, .string (⟨#[86, 48, 55]⟩ : ByteArray), .agg #[.int .i64 1, .int .i64 7, .string (⟨#[]⟩ : ByteArray)]] rfl (by (try simp only [List.map_toArray, List.map_cons, List.map_nil]); first | done | rfl | (simp only [List.length_drop, List.length_take]; rfl)) ?_; (with_reducible refine (subst_Put.calls k1 _ _ x4_1 (⟨#[86, 48, 55]⟩ : ByteArray) 1 7 (⟨#[]⟩ : ByteArray) t354 t357 _ ?side1 ?side2 A30.out).mono ?_); (case side1 => repeat (first | exact (Kd.R_reads' HO_4.out).2.2 | (with_reducible refine Kd.C_alloc ?_ _) | (with_reducible refine Kd.C_drewN ?_ _) | (with_reducible refine Kd.C_drew ?_))); (case side2 => exact (Kd.R_reads' HO_4.out).2.1); rintro e w33 ⟨v355, rfl, ho0, hb⟩; refine ⟨_, rfl, ?_⟩; have n0_ := Aside0.mk (Kd.R_elder' (by (with_reducible repeat (first | apply Kd.R_alloc | apply Kd.R_drewN | apply Kd.R_drew)); exact HO_4.out) (Kd.R_base ho0) hb); have n1_ := Aside0.mk (Kd.R_elder' (by (with_reducible repeat (first | apply Kd.R_alloc | apply Kd.R_drewN | apply Kd.R_drew)); exact HO352.out) (Kd.R_base ho0) hb); have n2_ := Aside0.mk (Kd.R_lower (Kd.R_new' (Kd.R_new' ho0 (Kd.R_lt (by (with_reducible repeat (first | apply Kd.R_alloc | apply Kd.R_drewN | apply Kd.R_drew)); exact HO_4.out))) (Kd.R_lt (by (with_reducible repeat (first | apply Kd.R_alloc | apply Kd.R_drewN | apply Kd.R_drew)); exact HO352.out))) (below_size (by repeat (first | (with_reducible first | exact HB.out | apply below_alloc | apply pw_below_drewN | apply below_drew1) | exact HB.out)))); have n3_ := Aside0.mk (below_step (by repeat (first | (with_reducible first | exact HB.out | apply below_alloc | apply pw_below_drewN | apply below_drew1) | exact HB.out)) hb); clear HO_4; clear HO352; clear HB; have HO_4 := n0_; have HO352 := n1_; have HO356 := n2_; have HB := n3_; clear n0_ n1_ n2_ n3_; (try clear hb); (try clear hb2); (try clear hk); (try clear hi); (try clear ho0)))
            go_loopg [13] k1 (fun kq v13 w' => ∃ (x13_2 : Int), v13 = .int .i64 x13_2 ∧ Aside0 (constablelaw05_SubstMany.l1 kq (⟨#[48, 49, 50, 51, 52, 53, 54, 55, 56, 57]⟩ : ByteArray) x4_1 t353 t357 x13_2 = some r) ∧ Aside0 (kq ≤ k1) ∧ Aside0 (Kd.R k39 39 w' w.heap.size (fun _ => True) (.slice Ao31 x4_1.length co31) x4_1) ∧ Aside0 (Below w.heap.size w w'))
            case atStart => exact ⟨(0), (by first | rfl | (simp; done) | (simp [*]; done)), H', ⟨Nat.le_refl _⟩, ⟨by (with_reducible repeat (first | apply Kd.R_alloc | apply Kd.R_drewN | apply Kd.R_drew)); exact Kd.R_mono HO_4.out (fun _ hk => trivial)⟩, ⟨by repeat (first | (with_reducible first | exact HB.out | apply below_alloc | apply pw_below_drewN | apply below_drew1) | exact HB.out)⟩⟩
            case round =>
              clear H'
              (try clear c1); (try clear c2); (try clear p2); (try clear c3); (try clear c3b0); (try clear p3); (try clear q3); (try clear hx3); (try clear c4); (try clear c4b0); (try clear c6); (try clear p6); (try clear c8); (try clear c8b0); (try clear c10); (try clear c10b0); (try clear c10b1); (try clear c11); (try clear c11b0); (try clear c11b1); (try clear c12); (try clear c12b0); (try clear c12b1); (try clear c13); (try clear c13b0); (try clear c13b1); (try clear c13b2); (try clear c15); (try clear c15b0); (try clear c15b1); (try clear c16); (try clear c16b0); (try clear c16b1); (try clear c17); (try clear c17b0); (try clear c17b1); (try clear c18); (try clear c18b0); (try clear c18b1); (try clear c18b2); (try clear c19); (try clear c20); (try clear c21); (try clear c21b0); (try clear c21b1); (try clear c23); (try clear c23b0); (try clear c23b1); (try clear hx344_0); (try clear p2); (try clear p3); (try clear p344); (try clear p6); (try clear q3); (try clear q344)
              obtain ⟨x13_2, rfl, HA, HK2, HO_4, HB⟩ := hrel
              cases gk with
              | zero => exact absurd HA.out (by simp [constablelaw05_SubstMany.l1])
              | succ k2 =>
                have H := HA.out
                clear HA
                simp only [constablelaw05_SubstMany.l1] at H
                by_cases c34 : x13_2 < 100
                · rw [if_pos c34] at H
                  have c34b0 : decide (x13_2 < 100) = true := decide_eq_true c34
                  clear c34
                  obtain ⟨ji35, hji35⟩ : ∃ j_ : Int, (wrap64 (Int.tdiv x13_2 10)) = j_ := ⟨_, rfl⟩
                  replace H : (if 0 ≤ (ji35) then (if (ji35) ≤ (wrap64 ((ji35) + 1)) then (if (wrap64 ((ji35) + 1)) ≤ ((⟨#[48, 49, 50, 51, 52, 53, 54, 55, 56, 57]⟩ : ByteArray).size : Int) then (if 1 + ((⟨#[48, 49, 50, 51, 52, 53, 54, 55, 56, 57]⟩ : ByteArray).extract ((ji35) : Int).toNat ((wrap64 ((ji35) + 1)) : Int).toNat).size ≤ 9223372036854775807 then (if 0 ≤ (Int.tmod x13_2 10) then (if (Int.tmod x13_2 10) ≤ (wrap64 ((Int.tmod x13_2 10) + 1)) then (if (wrap64 ((Int.tmod x13_2 10) + 1)) ≤ ((⟨#[48, 49, 50, 51, 52, 53, 54, 55, 56, 57]⟩ : ByteArray).size : Int) then (if ((⟨#[86]⟩ : ByteArray) ++ ((⟨#[48, 49, 50, 51, 52, 53, 54, 55, 56, 57]⟩ : ByteArray).extract ((ji35) : Int).toNat ((wrap64 ((ji35) + 1)) : Int).toNat)).size + ((⟨#[48, 49, 50, 51, 52, 53, 54, 55, 56, 57]⟩ : ByteArray).extract ((Int.tmod x13_2 10) : Int).toNat ((wrap64 ((Int.tmod x13_2 10) + 1)) : Int).toNat).size ≤ 9223372036854775807 then ((subst_Get.f k2 x4_1 (((⟨#[86]⟩ : ByteArray) ++ ((⟨#[48, 49, 50, 51, 52, 53, 54, 55, 56, 57]⟩ : ByteArray).extract ((ji35) : Int).toNat ((wrap64 ((ji35) + 1)) : Int).toNat)) ++ ((⟨#[48, 49, 50, 51, 52, 53, 54, 55, 56, 57]⟩ : ByteArray).extract ((Int.tmod x13_2 10) : Int).toNat ((wrap64 ((Int.tmod x13_2 10) + 1)) : Int).toNat))).bind fun bt358 => (if bt358.2.2.2 = true then (if bt358.2.1 = x13_2 then (if 0 ≤ x13_2 then (if x13_2 < (x4_1.length : Int) then (if (!(((rd_T39 x4_1 x13_2).f1.f0) == bt358.1) || (!(((rd_T39 x4_1 x13_2).f1.f1) == bt358.2.1) || (!((((rd_T39 x4_1 x13_2).f1.f2).toList) == bt358.2.2.1.toList)))) = true then (none) else (constablelaw05_SubstMany.l1 k2 (⟨#[48, 49, 50, 51, 52, 53, 54, 55, 56, 57]⟩ : ByteArray) x4_1 t353 t357 (wrap64 (x13_2 + 1)))) else (none)) else (none)) else (none)) else (none))) else (none)) else (none)) else (none)) else (none)) else (none)) else (none)) else (none)) else (none)) = some r := by first | (rw [hji35] at H; exact H) | (simp only [hji35] at H ⊢; exact H)
                  have hji35w : (IntKind.i64.wrap (Int.tdiv x13_2 10)) = ji35 := (i64_w _).trans hji35
                  by_cases c36 : 0 ≤ (ji35)
                  · rw [if_pos c36] at H
                    have c36b0 := eq_true c36
                    have c36b1 : decide (0 ≤ (ji35)) = true := decide_eq_true c36
                    clear c36
                    by_cases c37 : (ji35) ≤ (wrap64 ((ji35) + 1))
                    · rw [if_pos c37] at H
                      have c37b0 := eq_true c37
                      have c37b1 : decide ((ji35) ≤ (wrap64 ((ji35) + 1))) = true := decide_eq_true c37
                      by_cases c38 : (wrap64 ((ji35) + 1)) ≤ ((⟨#[48, 49, 50, 51, 52, 53, 54, 55, 56, 57]⟩ : ByteArray).size : Int)
                      · rw [if_pos c38] at H
                        have c38b0 := eq_true c38
                        have c38b1 : decide ((wrap64 ((ji35) + 1)) ≤ ((⟨#[48, 49, 50, 51, 52, 53, 54, 55, 56, 57]⟩ : ByteArray).size : Int)) = true := decide_eq_true c38
                        have c38b9 : ((wrap64 ((ji35) + 1)) ≤ 10) = True := c38b0
                        (try (have c38b7 : (9223372036854775807 < 1 + ((wrap64 (ji14 + 1)).toNat - ji14.toNat) + ((wrap64 (ji35 + 1)).toNat - ji35.toNat)) = False := eq_false (by have h_ : (wrap64 ((ji35) + 1)) ≤ 10 := of_eq_true c38b9; have h2_ : (wrap64 ((ji14) + 1)) ≤ 10 := of_eq_true c17b9; omega)))
                        have c38b8 : (9223372036854775807 < 1 + ((wrap64 (ji35 + 1)).toNat - ji35.toNat)) = False := eq_false (by have h_ : (wrap64 ((ji35) + 1)) ≤ 10 := of_eq_true c38b9; omega)
                        by_cases c39 : 1 + ((⟨#[48, 49, 50, 51, 52, 53, 54, 55, 56, 57]⟩ : ByteArray).extract ((ji35) : Int).toNat ((wrap64 ((ji35) + 1)) : Int).toNat).size ≤ 9223372036854775807
                        · rw [if_pos c39] at H
                          have c39b0 := eq_true c39
                          have c39b1 : decide (1 + ((⟨#[48, 49, 50, 51, 52, 53, 54, 55, 56, 57]⟩ : ByteArray).extract ((ji35) : Int).toNat ((wrap64 ((ji35) + 1)) : Int).toNat).size ≤ 9223372036854775807) = true := decide_eq_true c39
                          try have c39b2 : (9223372036854775807 < 1 + ((⟨#[48, 49, 50, 51, 52, 53, 54, 55, 56, 57]⟩ : ByteArray).extract ((ji35) : Int).toNat ((wrap64 ((ji35) + 1)) : Int).toNat).size) = False := eq_false (Nat.not_lt.2 c39)
                          obtain ⟨ji40, hji40⟩ : ∃ j_ : Int, (Int.tmod x13_2 10) = j_ := ⟨_, rfl⟩
                          replace H : (if 0 ≤ (ji40) then (if (ji40) ≤ (wrap64 ((ji40) + 1)) then (if (wrap64 ((ji40) + 1)) ≤ ((⟨#[48, 49, 50, 51, 52, 53, 54, 55, 56, 57]⟩ : ByteArray).size : Int) then (if ((⟨#[86]⟩ : ByteArray) ++ ((⟨#[48, 49, 50, 51, 52, 53, 54, 55, 56, 57]⟩ : ByteArray).extract ((ji35) : Int).toNat ((wrap64 ((ji35) + 1)) : Int).toNat)).size + ((⟨#[48, 49, 50, 51, 52, 53, 54, 55, 56, 57]⟩ : ByteArray).extract ((ji40) : Int).toNat ((wrap64 ((ji40) + 1)) : Int).toNat).size ≤ 9223372036854775807 then ((subst_Get.f k2 x4_1 (((⟨#[86]⟩ : ByteArray) ++ ((⟨#[48, 49, 50, 51, 52, 53, 54, 55, 56, 57]⟩ : ByteArray).extract ((ji35) : Int).toNat ((wrap64 ((ji35) + 1)) : Int).toNat)) ++ ((⟨#[48, 49, 50, 51, 52, 53, 54, 55, 56, 57]⟩ : ByteArray).extract ((ji40) : Int).toNat ((wrap64 ((ji40) + 1)) : Int).toNat))).bind fun bt358 => (if bt358.2.2.2 = true then (if bt358.2.1 = x13_2 then (if 0 ≤ x13_2 then (if x13_2 < (x4_1.length : Int) then (if (!(((rd_T39 x4_1 x13_2).f1.f0) == bt358.1) || (!(((rd_T39 x4_1 x13_2).f1.f1) == bt358.2.1) || (!((((rd_T39 x4_1 x13_2).f1.f2).toList) == bt358.2.2.1.toList)))) = true then (none) else (constablelaw05_SubstMany.l1 k2 (⟨#[48, 49, 50, 51, 52, 53, 54, 55, 56, 57]⟩ : ByteArray) x4_1 t353 t357 (wrap64 (x13_2 + 1)))) else (none)) else (none)) else (none)) else (none))) else (none)) else (none)) else (none)) else (none)) = some r := by first | (rw [hji40] at H; exact H) | (simp only [hji40] at H ⊢; exact H)
                          by_cases c41 : 0 ≤ (ji40)
                          · rw [if_pos c41] at H
                            have c41b0 := eq_true c41
                            have c41b1 : decide (0 ≤ (ji40)) = true := decide_eq_true c41
                            clear c41
                            by_cases c42 : (ji40) ≤ (wrap64 ((ji40) + 1))
                            · rw [if_pos c42] at H
                              have c42b0 := eq_true c42
                              have c42b1 : decide ((ji40) ≤ (wrap64 ((ji40) + 1))) = true := decide_eq_true c42
                              by_cases c43 : (wrap64 ((ji40) + 1)) ≤ ((⟨#[48, 49, 50, 51, 52, 53, 54, 55, 56, 57]⟩ : ByteArray).size : Int)
                              · rw [if_pos c43] at H
                                have c43b0 := eq_true c43
                                have c43b1 : decide ((wrap64 ((ji40) + 1)) ≤ ((⟨#[48, 49, 50, 51, 52, 53, 54, 55, 56, 57]⟩ : ByteArray).size : Int)) = true := decide_eq_true c43
                                have c43b9 : ((wrap64 ((ji40) + 1)) ≤ 10) = True := c43b0
                                (try (have c43b7 : (9223372036854775807 < 1 + ((wrap64 (ji35 + 1)).toNat - ji35.toNat) + ((wrap64 (ji40 + 1)).toNat - ji40.toNat)) = False := eq_false (by have h_ : (wrap64 ((ji40) + 1)) ≤ 10 := of_eq_true c43b9; have h2_ : (wrap64 ((ji35) + 1)) ≤ 10 := of_eq_true c38b9; omega)))
                                have c43b8 : (9223372036854775807 < 1 + ((wrap64 (ji40 + 1)).toNat - ji40.toNat)) = False := eq_false (by have h_ : (wrap64 ((ji40) + 1)) ≤ 10 := of_eq_true c43b9; omega)
                                by_cases c44 : ((⟨#[86]⟩ : ByteArray) ++ ((⟨#[48, 49, 50, 51, 52, 53, 54, 55, 56, 57]⟩ : ByteArray).extract ((ji35) : Int).toNat ((wrap64 ((ji35) + 1)) : Int).toNat)).size + ((⟨#[48, 49, 50, 51, 52, 53, 54, 55, 56, 57]⟩ : ByteArray).extract ((ji40) : Int).toNat ((wrap64 ((ji40) + 1)) : Int).toNat).size ≤ 9223372036854775807
                                · rw [if_pos c44] at H
                                  have c44b0 := eq_true c44
                                  have c44b1 : decide (((⟨#[86]⟩ : ByteArray) ++ ((⟨#[48, 49, 50, 51, 52, 53, 54, 55, 56, 57]⟩ : ByteArray).extract ((ji35) : Int).toNat ((wrap64 ((ji35) + 1)) : Int).toNat)).size + ((⟨#[48, 49, 50, 51, 52, 53, 54, 55, 56, 57]⟩ : ByteArray).extract ((ji40) : Int).toNat ((wrap64 ((ji40) + 1)) : Int).toNat).size ≤ 9223372036854775807) = true := decide_eq_true c44
                                  try have c44b2 : (9223372036854775807 < ((⟨#[86]⟩ : ByteArray) ++ ((⟨#[48, 49, 50, 51, 52, 53, 54, 55, 56, 57]⟩ : ByteArray).extract ((ji35) : Int).toNat ((wrap64 ((ji35) + 1)) : Int).toNat)).size + ((⟨#[48, 49, 50, 51, 52, 53, 54, 55, 56, 57]⟩ : ByteArray).extract ((ji40) : Int).toNat ((wrap64 ((ji40) + 1)) : Int).toNat).size) = False := eq_false (Nat.not_lt.2 c44)
                                  replace H := Option.bind_eq_some_iff.mp H
                                  obtain ⟨⟨t358, t359, t360, t361⟩, A450, H⟩ := H
                                  replace H : (if t361 = true then (if t359 = x13_2 then (if 0 ≤ x13_2 then (if x13_2 < (x4_1.length : Int) then (if (!(((rd_T39 x4_1 x13_2).f1.f0) == t358) || (!(((rd_T39 x4_1 x13_2).f1.f1) == t359) || (!((((rd_T39 x4_1 x13_2).f1.f2).toList) == t360.toList)))) = true then (none) else (constablelaw05_SubstMany.l1 k2 (⟨#[48, 49, 50, 51, 52, 53, 54, 55, 56, 57]⟩ : ByteArray) x4_1 t353 t357 (wrap64 (x13_2 + 1)))) else (none)) else (none)) else (none)) else (none)) = some r := H
                                  have A45 := Aside0.mk A450
                                  clear A450
                                  by_cases c46 : t361 = true
                                  · subst c46
                                    have H1 : (if t359 = x13_2 then (if 0 ≤ x13_2 then (if x13_2 < (x4_1.length : Int) then (if (!(((rd_T39 x4_1 x13_2).f1.f0) == t358) || (!(((rd_T39 x4_1 x13_2).f1.f1) == t359) || (!((((rd_T39 x4_1 x13_2).f1.f2).toList) == t360.toList)))) = true then (none) else (constablelaw05_SubstMany.l1 k2 (⟨#[48, 49, 50, 51, 52, 53, 54, 55, 56, 57]⟩ : ByteArray) x4_1 t353 t357 (wrap64 (x13_2 + 1)))) else (none)) else (none)) else (none)) = some r := by rw [if_pos rfl] at H; exact H
                                    clear H
                                    have H := H1
                                    clear H1
                                    by_cases c47 : t359 = x13_2
                                    · rw [if_pos c47] at H
                                      have c47b0 : (t359 == x13_2) = true := beq_iff_eq.mpr c47
                                      have c47b1 : (t359 != x13_2) = false := bne_eq_false_iff_eq.mpr c47
                                      clear c47
                                      by_cases c48 : 0 ≤ x13_2
                                      · rw [if_pos c48] at H
                                        have c48b0 : decide (0 ≤ x13_2) = true := decide_eq_true c48
                                        clear c48
                                        by_cases c49 : x13_2 < (x4_1.length : Int)
                                        · rw [if_pos c49] at H
                                          have c49b0 : decide (x13_2 < (x4_1.length : Int)) = true := decide_eq_true c49
                                          clear c49
                                          obtain ⟨qc50, hqc50⟩ : ∃ b_ : Bool, (!(((rd_T39 x4_1 x13_2).f1.f0) == t358) || (!(((rd_T39 x4_1 x13_2).f1.f1) == t359) || (!((((rd_T39 x4_1 x13_2).f1.f2).toList) == t360.toList)))) = b_ := ⟨_, rfl⟩
                                          by_cases c50 : (!(((rd_T39 x4_1 x13_2).f1.f0) == t358) || (!(((rd_T39 x4_1 x13_2).f1.f1) == t359) || (!((((rd_T39 x4_1 x13_2).f1.f2).toList) == t360.toList)))) = true
                                          · rw [if_pos c50] at H
                                            exact absurd H (by simp)
                                          · rw [if_neg c50] at H
                                            have c50b0 : qc50 = false := hqc50.symm.trans (Bool.eq_false_iff.mpr c50)
                                            clear c50
                                            have H' := Aside0.mk H
                                            clear H
                                            try go_wp2
                                            have n0_ := Aside0.mk (Kd.R_drew HO_4.out)
                                            have n1_ := Aside0.mk (below_drew1 HB.out)
                                            clear HO_4
                                            clear HB
                                            have HO_4 := n0_
                                            have HB := n1_
                                            clear n0_ n1_
                                            refine start_ (n := 24) (S := fun w' => True) (ds := []) #[false, false, false, false, false, false, false, false, false, false, false, false, false, false, false, false, false, false, false, false, false, false, false, false] (by kernel_rfl) rfl rfl trivial (fun hHeld => ?_); refine with_tabW constablelaw05_SubstMany.tab17 constablelaw05_SubstMany.bits17 (fun HT_ HW_ => ?_)
                                            generalize wr.drew = w51 at HO_4 HB hHeld ⊢
                                            refine pure_ (i := 0) (N := some 86) (v := ?_) (a' := ?_) #[true, false, false, false, false, false, false, false, false, false, false, false, false, false, false, false, false, false, false, false, false, false, false, false] rfl rfl (any_of HT_.out (by kernel_rfl)) (fun _ _ _ h => h) (Or.inl ⟨by rfl, ?_⟩) ?_ ?_
                                            rotate_left
                                            · intro w'
                                              go_simp
                                              with_reducible rfl
                                            rotate_left
                                            · simp only [Act.put, List.setIfInBounds_toArray, List.set_cons_zero, List.set_cons_succ, i64_w, i32_w]
                                              rfl
                                            refine pure_ (i := 1) (N := some 87) (v := ?_) (a' := ?_) #[true, true, false, false, false, false, false, false, false, false, false, false, false, false, false, false, false, false, false, false, false, false, false, false] rfl rfl (any_of HT_.out (by kernel_rfl)) (fun _ _ _ h => h) (Or.inl ⟨by rfl, ?_⟩) ?_ ?_
                                            rotate_left
                                            · intro w'
                                              go_simp
                                              with_reducible rfl
                                            rotate_left
                                            · simp only [Act.put, List.setIfInBounds_toArray, List.set_cons_zero, List.set_cons_succ, i64_w, i32_w]
                                              rfl
                                            refine pure_ (i := 2) (N := some 88) (v := ?_) (a' := ?_) #[true, true, true, false, false, false, false, false, false, false, false, false, false, false, false, false, false, false, false, false, false, false, false, false] rfl rfl (any_of HT_.out (by kernel_rfl)) (fun _ _ _ h => h) (Or.inl ⟨by rfl, ?_⟩) ?_ ?_
                                            rotate_left
                                            · intro w'
                                              go_simp
                                              with_reducible rfl
                                            rotate_left
                                            · simp only [Act.put, List.setIfInBounds_toArray, List.set_cons_zero, List.set_cons_succ, i64_w, i32_w]
                                              rfl
                                            refine pure_ (i := 3) (N := some 89) (v := ?_) (a' := ?_) #[true, true, true, true, false, false, false, false, false, false, false, false, false, false, false, false, false, false, false, false, false, false, false, false] rfl rfl (any_of HT_.out (by kernel_rfl)) (fun _ _ _ h => h) (Or.inl ⟨by rfl, ?_⟩) ?_ ?_
                                            rotate_left
                                            · intro w'
                                              go_simp
                                              with_reducible rfl
                                            rotate_left
                                            · simp only [Act.put, List.setIfInBounds_toArray, List.set_cons_zero, List.set_cons_succ, i64_w, i32_w]
                                              rfl
                                            refine pure_ (i := 4) (N := some 90) (v := ?_) (a' := ?_) #[true, true, true, true, true, false, false, false, false, false, false, false, false, false, false, false, false, false, false, false, false, false, false, false] rfl rfl (any_of HT_.out (by kernel_rfl)) (fun _ _ _ h => h) (Or.inl ⟨by rfl, ?_⟩) ?_ ?_
                                            rotate_left
                                            · intro w'
                                              go_simp
                                              with_reducible rfl
                                            rotate_left
                                            · simp only [Act.put, List.setIfInBounds_toArray, List.set_cons_zero, List.set_cons_succ, i64_w, i32_w]
                                              rfl
                                            refine pure_ (i := 5) (N := some 91) (v := ?_) (a' := ?_) #[true, true, true, true, true, true, false, false, false, false, false, false, false, false, false, false, false, false, false, false, false, false, false, false] rfl rfl (any_of HT_.out (by kernel_rfl)) (fun _ _ _ h => h) (Or.inl ⟨by rfl, ?_⟩) ?_ ?_
                                            rotate_left
                                            · intro w'
                                              go_simp
                                              with_reducible rfl
                                            rotate_left
                                            · simp only [Act.put, List.setIfInBounds_toArray, List.set_cons_zero, List.set_cons_succ, i64_w, i32_w]
                                              rfl
                                            refine pure_ (i := 6) (N := some 92) (v := ?_) (a' := ?_) #[true, true, true, true, true, true, true, false, false, false, false, false, false, false, false, false, false, false, false, false, false, false, false, false] rfl rfl (any_of HT_.out (by kernel_rfl)) (fun _ _ _ h => h) (Or.inl ⟨by rfl, ?_⟩) ?_ ?_
                                            rotate_left
                                            · intro w'
                                              go_simp
                                              with_reducible rfl
                                            rotate_left
                                            · simp only [Act.put, List.setIfInBounds_toArray, List.set_cons_zero, List.set_cons_succ, i64_w, i32_w]
                                              rfl
                                            refine pure_ (i := 7) (N := some 93) (v := ?_) (a' := ?_) #[true, true, true, true, true, true, true, true, false, false, false, false, false, false, false, false, false, false, false, false, false, false, false, false] rfl rfl (any_of HT_.out (by kernel_rfl)) (fun _ _ _ h => h) (Or.inl ⟨by rfl, ?_⟩) ?_ ?_
                                            rotate_left
                                            · intro w'
                                              go_simp
                                              with_reducible rfl
                                            rotate_left
                                            · simp only [Act.put, List.setIfInBounds_toArray, List.set_cons_zero, List.set_cons_succ, i64_w, i32_w]
                                              rfl
                                            refine pure_ (i := 8) (N := some 94) (v := ?_) (a' := ?_) #[true, true, true, true, true, true, true, true, true, false, false, false, false, false, false, false, false, false, false, false, false, false, false, false] rfl rfl (any_of HT_.out (by kernel_rfl)) (fun _ _ _ h => h) (Or.inl ⟨by rfl, ?_⟩) ?_ ?_
                                            rotate_left
                                            · intro w'
                                              go_simp
                                              with_reducible rfl
                                            rotate_left
                                            · simp only [Act.put, List.setIfInBounds_toArray, List.set_cons_zero, List.set_cons_succ, i64_w, i32_w]
                                              rfl
                                            refine pure_ (i := 9) (N := some 95) (v := ?_) (a' := ?_) #[true, true, true, true, true, true, true, true, true, true, false, false, false, false, false, false, false, false, false, false, false, false, false, false] rfl rfl (any_of HT_.out (by kernel_rfl)) (fun _ _ _ h => h) (Or.inl ⟨by rfl, ?_⟩) ?_ ?_
                                            rotate_left
                                            · intro w'
                                              go_simp
                                              with_reducible rfl
                                            rotate_left
                                            · simp only [Act.put, List.setIfInBounds_toArray, List.set_cons_zero, List.set_cons_succ, i64_w, i32_w]
                                              rfl
                                            refine pure_ (i := 10) (N := some 96) (v := ?_) (a' := ?_) #[true, true, true, true, true, true, true, true, true, true, true, false, false, false, false, false, false, false, false, false, false, false, false, false] rfl rfl (any_of HT_.out (by kernel_rfl)) (fun _ _ _ h => h) (Or.inl ⟨by rfl, ?_⟩) ?_ ?_
                                            rotate_left
                                            · intro w'
                                              go_simp
                                              with_reducible rfl
                                            rotate_left
                                            · simp only [Act.put, List.setIfInBounds_toArray, List.set_cons_zero, List.set_cons_succ, i64_w, i32_w]
                                              rfl
                                            refine pure_ (i := 11) (N := some 97) (v := ?_) (a' := ?_) #[true, true, true, true, true, true, true, true, true, true, true, true, false, false, false, false, false, false, false, false, false, false, false, false] rfl rfl (any_of HT_.out (by kernel_rfl)) (fun _ _ _ h => h) (Or.inl ⟨by rfl, ?_⟩) ?_ ?_
                                            rotate_left
                                            · intro w'
                                              go_simp
                                              with_reducible rfl
                                            rotate_left
                                            · simp only [Act.put, List.setIfInBounds_toArray, List.set_cons_zero, List.set_cons_succ, i64_w, i32_w]
                                              rfl
                                            refine pure_ (i := 12) (N := some 98) (v := ?_) (a' := ?_) #[true, true, true, true, true, true, true, true, true, true, true, true, true, false, false, false, false, false, false, false, false, false, false, false] rfl rfl (any_of HT_.out (by kernel_rfl)) (fun _ _ _ h => h) (Or.inl ⟨by rfl, ?_⟩) ?_ ?_
                                            rotate_left
                                            · intro w'
                                              go_simp
                                              with_reducible rfl
                                            rotate_left
                                            · simp only [Act.put, List.setIfInBounds_toArray, List.set_cons_zero, List.set_cons_succ, i64_w, i32_w]
                                              rfl
                                            refine pure_ (i := 13) (N := some 99) (v := ?_) (a' := ?_) #[true, true, true, true, true, true, true, true, true, true, true, true, true, true, false, false, false, false, false, false, false, false, false, false] rfl rfl (any_of HT_.out (by kernel_rfl)) (fun _ _ _ h => h) (Or.inl ⟨by rfl, ?_⟩) ?_ ?_
                                            rotate_left
                                            · intro w'
                                              go_simp
                                              with_reducible rfl
                                            rotate_left
                                            · simp only [Act.put, List.setIfInBounds_toArray, List.set_cons_zero, List.set_cons_succ, i64_w, i32_w]
                                              rfl
                                            refine pure_ (i := 14) (N := some 100) (v := ?_) (a' := ?_) #[true, true, true, true, true, true, true, true, true, true, true, true, true, true, true, false, false, false, false, false, false, false, false, false] rfl rfl (any_of HT_.out (by kernel_rfl)) (fun _ _ _ h => h) (Or.inl ⟨by rfl, ?_⟩) ?_ ?_
                                            rotate_left
                                            · intro w'
                                              go_simp
                                              with_reducible rfl
                                            rotate_left
                                            · simp only [Act.put, List.setIfInBounds_toArray, List.set_cons_zero, List.set_cons_succ, i64_w, i32_w]
                                              rfl
                                            refine pure_ (i := 15) (N := some 101) (v := ?_) (a' := ?_) #[true, true, true, true, true, true, true, true, true, true, true, true, true, true, true, true, false, false, false, false, false, false, false, false] rfl rfl (any_of HT_.out (by kernel_rfl)) (fun _ _ _ h => h) (Or.inl ⟨by rfl, ?_⟩) ?_ ?_
                                            rotate_left
                                            · intro w'
                                              go_simp
                                              with_reducible rfl
                                            rotate_left
                                            · simp only [Act.put, List.setIfInBounds_toArray, List.set_cons_zero, List.set_cons_succ, i64_w, i32_w]
                                              rfl
                                            refine pure_ (i := 16) (N := some 102) (v := ?_) (a' := ?_) #[true, true, true, true, true, true, true, true, true, true, true, true, true, true, true, true, true, false, false, false, false, false, false, false] rfl rfl (any_of HT_.out (by kernel_rfl)) (fun _ _ _ h => h) (Or.inl ⟨by rfl, ?_⟩) ?_ ?_
                                            rotate_left
                                            · intro w'
                                              go_simp
                                              with_reducible rfl
                                            rotate_left
                                            · simp only [Act.put, List.setIfInBounds_toArray, List.set_cons_zero, List.set_cons_succ, i64_w, i32_w]
                                              rfl
                                            refine join_ (σ := Nat) 2 #[true, true, true, true, true, true, true, true, true, true, true, true, true, true, true, true, true, true, true, true, true, true, false, false] (fun s_ => [(103, .tuple #[.agg #[.int .i64 t358, .int .i64 t359, .string t360], .bool true]), (14, .pointer (some ⟨s_, 0, none⟩)), (85, .tuple #[.agg #[.int .i64 t358, .int .i64 t359, .string t360], .bool true]), (104, .agg #[.int .i64 t358, .int .i64 t359, .string t360]), (105, .bool true)]) (fun s_ w' => (Kd.R k39 39 w' w.heap.size (fun _ => True) (.slice Ao31 x4_1.length co31) x4_1) ∧ (w'.heap[s_]? = some (.cells #[.int .i64 0, .int .i64 0, .string (⟨#[]⟩ : ByteArray)] 24 (0, 0))) ∧ (w.heap.size ≤ s_) ∧ (w.heap.size ≤ s_) ∧ (Below w.heap.size w w')) ?_ ?_
                                            rotate_left
                                            · intro hCont
                                              refine two_ (i := 17) (j := 21) (Ni := some 103) (Nj := some 14) #[true, true, true, true, true, true, true, true, true, true, true, true, true, true, true, true, true, true, false, false, false, false, false, false] #[true, true, true, true, true, true, true, true, true, true, true, true, true, true, true, true, true, false, false, false, false, true, false, false] rfl rfl rfl rfl (two_of HT_.out (by kernel_rfl)) (by decide) (by decide) (fun K hK => ?_) (fun K hK => ?_)
                                              · skip
                                                refine goes_ Try.func17 (by kernel_rfl) rfl #[.slice Ao31 x4_1.length co31, .string (((⟨#[86]⟩ : ByteArray) ++ ((⟨#[48, 49, 50, 51, 52, 53, 54, 55, 56, 57]⟩ : ByteArray).extract ((ji35) : Int).toNat ((wrap64 ((ji35) + 1)) : Int).toNat)) ++ ((⟨#[48, 49, 50, 51, 52, 53, 54, 55, 56, 57]⟩ : ByteArray).extract ((ji40) : Int).toNat ((wrap64 ((ji40) + 1)) : Int).toNat))] (by rfl) rfl rfl (by (try simp only [List.map_toArray, List.map_cons, List.map_nil]); first | done | (simp only [hji35, hji40]; rfl) | rfl | (simp only [List.length_drop, List.length_take]; rfl)) ?_
                                                with_reducible refine (subst_Get.calls k2 _ _ x4_1 (((⟨#[86]⟩ : ByteArray) ++ ((⟨#[48, 49, 50, 51, 52, 53, 54, 55, 56, 57]⟩ : ByteArray).extract ((ji35) : Int).toNat ((wrap64 ((ji35) + 1)) : Int).toNat)) ++ ((⟨#[48, 49, 50, 51, 52, 53, 54, 55, 56, 57]⟩ : ByteArray).extract ((ji40) : Int).toNat ((wrap64 ((ji40) + 1)) : Int).toNat)) t358 t359 t360 true _ ?side1 ?side2 A45.out).mono ?_
                                                (case side1 => repeat (first | exact (Kd.R_reads' HO_4.out).2.2 | (with_reducible refine Kd.C_alloc ?_ _) | (with_reducible refine Kd.C_drewN ?_ _) | (with_reducible refine Kd.C_drew ?_)))
                                                (case side2 => exact (Kd.R_reads' HO_4.out).2.1)
                                                rintro e w52 ⟨rfl, hb⟩
                                                refine ⟨_, rfl, ?_⟩
                                                have n0_ := Aside0.mk (Kd.R_below (by (with_reducible repeat (first | apply Kd.R_alloc | apply Kd.R_drewN | apply Kd.R_drew)); exact HO_4.out) hb)
                                                have n1_ := Aside0.mk (below_step (by repeat (first | (with_reducible first | exact HB.out | apply below_alloc | apply pw_below_drewN | apply below_drew1) | exact HB.out)) hb)
                                                clear HO_4
                                                clear HB
                                                have HO_4 := n0_
                                                have HB := n1_
                                                clear n0_ n1_
                                                (try clear hb)
                                                (try clear hb2)
                                                (try clear hk)
                                                (try clear hi)
                                                refine hK.out _ _ trivial (fun hHeld => ?_)
                                                clear hK K
                                                refine norm_ (a' := ?_) ?_ ?_
                                                rotate_left
                                                · show Act.put _ (some 103) _ = _
                                                  simp only [Act.put, List.setIfInBounds_toArray, List.set_cons_zero, List.set_cons_succ, i64_w, i32_w]
                                                  rfl
                                                refine pure_ (i := 18) (N := some 85) (v := ?_) (a' := ?_) #[true, true, true, true, true, true, true, true, true, true, true, true, true, true, true, true, true, true, true, false, false, false, false, false] rfl rfl (any_of HT_.out (by kernel_rfl)) (fun _ _ _ h => h) (Or.inl ⟨by rfl, ?_⟩) ?_ ?_
                                                rotate_left
                                                · intro w'
                                                  go_simp
                                                  with_reducible rfl
                                                rotate_left
                                                · simp only [Act.put, List.setIfInBounds_toArray, List.set_cons_zero, List.set_cons_succ, i64_w, i32_w]
                                                  rfl
                                                refine pure_ (i := 19) (N := some 104) (v := ?_) (a' := ?_) #[true, true, true, true, true, true, true, true, true, true, true, true, true, true, true, true, true, true, true, true, false, false, false, false] rfl rfl (any_of HT_.out (by kernel_rfl)) (fun _ _ _ h => h) (Or.inl ⟨by rfl, ?_⟩) ?_ ?_
                                                rotate_left
                                                · intro w'
                                                  go_simp
                                                  with_reducible rfl
                                                rotate_left
                                                · simp only [Act.put, List.setIfInBounds_toArray, List.set_cons_zero, List.set_cons_succ, i64_w, i32_w]
                                                  rfl
                                                refine pure_ (i := 20) (N := some 105) (v := ?_) (a' := ?_) #[true, true, true, true, true, true, true, true, true, true, true, true, true, true, true, true, true, true, true, true, true, false, false, false] rfl rfl (any_of HT_.out (by kernel_rfl)) (fun _ _ _ h => h) (Or.inl ⟨by rfl, ?_⟩) ?_ ?_
                                                rotate_left
                                                · intro w'
                                                  go_simp
                                                  with_reducible rfl
                                                rotate_left
                                                · simp only [Act.put, List.setIfInBounds_toArray, List.set_cons_zero, List.set_cons_succ, i64_w, i32_w]
                                                  rfl
                                                refine one_ (i := 21) (N := some 14) #[true, true, true, true, true, true, true, true, true, true, true, true, true, true, true, true, true, true, true, true, true, true, false, false] rfl rfl (one_of HT_.out (by kernel_rfl)) (by decide) (fun K hK => ?_)
                                                refine box_step ?hg (N := 14) ?hd (cs := #[.int .i64 0, .int .i64 0, .string (⟨#[]⟩ : ByteArray)]) (t := 24) ?hr ?_; (case hd => rfl); (case hg => rfl); (case hr => first | (go_simp; done) | (go_simp; rfl))
                                                intro gb362 hg w53 hbox hb
                                                have n0_ := Aside0.mk (Kd.R_below (by (with_reducible repeat (first | apply Kd.R_alloc | apply Kd.R_drewN | apply Kd.R_drew)); exact HO_4.out) hb)
                                                have n1_ := Aside0.mk (below_step (by repeat (first | (with_reducible first | exact HB.out | apply below_alloc | apply pw_below_drewN | apply below_drew1) | exact HB.out)) hb)
                                                have n2_ := Aside0.mk (hbox)
                                                have n3_ := Aside0.mk ((by rw [hg]; exact (below_size (by repeat (first | (with_reducible first | exact HB.out | apply below_alloc | apply pw_below_drewN | apply below_drew1) | exact HB.out))) : w.heap.size ≤ gb362))
                                                have n4_ := Aside0.mk ((by rw [hg]; exact (below_size (by repeat (first | (with_reducible first | exact HB.out | apply below_alloc | apply pw_below_drewN | apply below_drew1) | exact HB.out))) : w.heap.size ≤ gb362))
                                                clear HO_4
                                                clear HB
                                                have HO_4 := n0_
                                                have HB := n1_
                                                have BK362 := n2_
                                                have GW362 := n3_
                                                have GE362 := n4_
                                                clear n0_ n1_ n2_ n3_ n4_
                                                clear hb hbox hg
                                                refine hK.out _ _ trivial (fun hHeld => ?_)
                                                clear hK K
                                                refine norm_ (a' := ?_) ?_ ?_
                                                rotate_left
                                                · show Act.put _ (some 14) _ = _
                                                  simp only [Act.put, List.setIfInBounds_toArray, List.set_cons_zero, List.set_cons_succ, i64_w, i32_w]
                                                  rfl
                                                exact norm_ (by simp only [putAll, Act.put, List.setIfInBounds_toArray, List.set_cons_zero, List.set_cons_succ]) (hCont (gb362) _ ⟨(by (with_reducible repeat (first | apply Kd.R_alloc | apply Kd.R_drewN | apply Kd.R_drew)); exact HO_4.out), (by (with_reducible repeat (first | refine blk_drewN ?_ _ | refine blk_drew ?_ | refine blk_alloc ?_ _)); exact BK362.out), GW362.out, GE362.out, (by repeat (first | (with_reducible first | exact HB.out | apply below_alloc | apply pw_below_drewN | apply below_drew1 | refine below_set ?_ GE362.out) | exact HB.out))⟩)
                                              · skip
                                                refine box_step ?hg (N := 14) ?hd (cs := #[.int .i64 0, .int .i64 0, .string (⟨#[]⟩ : ByteArray)]) (t := 24) ?hr ?_; (case hd => rfl); (case hg => rfl); (case hr => first | (go_simp; done) | (go_simp; rfl))
                                                intro gb362 hg w52 hbox hb
                                                have n0_ := Aside0.mk (Kd.R_below (by (with_reducible repeat (first | apply Kd.R_alloc | apply Kd.R_drewN | apply Kd.R_drew)); exact HO_4.out) hb)
                                                have n1_ := Aside0.mk (below_step (by repeat (first | (with_reducible first | exact HB.out | apply below_alloc | apply pw_below_drewN | apply below_drew1) | exact HB.out)) hb)
                                                have n2_ := Aside0.mk (hbox)
                                                have n3_ := Aside0.mk ((by rw [hg]; exact (below_size (by repeat (first | (with_reducible first | exact HB.out | apply below_alloc | apply pw_below_drewN | apply below_drew1) | exact HB.out))) : w.heap.size ≤ gb362))
                                                have n4_ := Aside0.mk ((by rw [hg]; exact (below_size (by repeat (first | (with_reducible first | exact HB.out | apply below_alloc | apply pw_below_drewN | apply below_drew1) | exact HB.out))) : w.heap.size ≤ gb362))
                                                clear HO_4
                                                clear HB
                                                have HO_4 := n0_
                                                have HB := n1_
                                                have BK362 := n2_
                                                have GW362 := n3_
                                                have GE362 := n4_
                                                clear n0_ n1_ n2_ n3_ n4_
                                                clear hb hbox hg
                                                refine hK.out _ _ trivial (fun hHeld => ?_)
                                                clear hK K
                                                refine norm_ (a' := ?_) ?_ ?_
                                                rotate_left
                                                · show Act.put _ (some 14) _ = _
                                                  simp only [Act.put, List.setIfInBounds_toArray, List.set_cons_zero, List.set_cons_succ, i64_w, i32_w]
                                                  rfl
                                                refine one_ (i := 17) (N := some 103) #[true, true, true, true, true, true, true, true, true, true, true, true, true, true, true, true, true, true, false, false, false, true, false, false] rfl rfl (one_of HT_.out (by kernel_rfl)) (by decide) (fun K hK => ?_)
                                                refine goes_ Try.func17 (by kernel_rfl) rfl #[.slice Ao31 x4_1.length co31, .string (((⟨#[86]⟩ : ByteArray) ++ ((⟨#[48, 49, 50, 51, 52, 53, 54, 55, 56, 57]⟩ : ByteArray).extract ((ji35) : Int).toNat ((wrap64 ((ji35) + 1)) : Int).toNat)) ++ ((⟨#[48, 49, 50, 51, 52, 53, 54, 55, 56, 57]⟩ : ByteArray).extract ((ji40) : Int).toNat ((wrap64 ((ji40) + 1)) : Int).toNat))] (by rfl) rfl rfl (by (try simp only [List.map_toArray, List.map_cons, List.map_nil]); first | done | (simp only [hji35, hji40]; rfl) | rfl | (simp only [List.length_drop, List.length_take]; rfl)) ?_
                                                with_reducible refine (subst_Get.calls k2 _ _ x4_1 (((⟨#[86]⟩ : ByteArray) ++ ((⟨#[48, 49, 50, 51, 52, 53, 54, 55, 56, 57]⟩ : ByteArray).extract ((ji35) : Int).toNat ((wrap64 ((ji35) + 1)) : Int).toNat)) ++ ((⟨#[48, 49, 50, 51, 52, 53, 54, 55, 56, 57]⟩ : ByteArray).extract ((ji40) : Int).toNat ((wrap64 ((ji40) + 1)) : Int).toNat)) t358 t359 t360 true _ ?side1 ?side2 A45.out).mono ?_
                                                (case side1 => repeat (first | exact (Kd.R_reads' HO_4.out).2.2 | (with_reducible refine Kd.C_alloc ?_ _) | (with_reducible refine Kd.C_drewN ?_ _) | (with_reducible refine Kd.C_drew ?_)))
                                                (case side2 => exact (Kd.R_reads' HO_4.out).2.1)
                                                rintro e w53 ⟨rfl, hb⟩
                                                refine ⟨_, rfl, ?_⟩
                                                have n0_ := Aside0.mk (Kd.R_below (by (with_reducible repeat (first | apply Kd.R_alloc | apply Kd.R_drewN | apply Kd.R_drew)); exact HO_4.out) hb)
                                                have n1_ := Aside0.mk (blk_below (g := gb362) (o := .cells #[.int .i64 0, .int .i64 0, .string (⟨#[]⟩ : ByteArray)] 24 (0, 0)) (by (with_reducible repeat (first | refine blk_drewN ?_ _ | refine blk_drew ?_ | refine blk_alloc ?_ _)); exact BK362.out) hb)
                                                have n2_ := Aside0.mk (below_step (by repeat (first | (with_reducible first | exact HB.out | apply below_alloc | apply pw_below_drewN | apply below_drew1 | refine below_set ?_ GE362.out) | exact HB.out)) hb)
                                                clear HO_4
                                                clear BK362
                                                clear HB
                                                have HO_4 := n0_
                                                have BK362 := n1_
                                                have HB := n2_
                                                clear n0_ n1_ n2_
                                                (try clear hb)
                                                (try clear hb2)
                                                (try clear hk)
                                                (try clear hi)
                                                refine hK.out _ _ trivial (fun hHeld => ?_)
                                                clear hK K
                                                refine norm_ (a' := ?_) ?_ ?_
                                                rotate_left
                                                · show Act.put _ (some 103) _ = _
                                                  simp only [Act.put, List.setIfInBounds_toArray, List.set_cons_zero, List.set_cons_succ, i64_w, i32_w]
                                                  rfl
                                                refine pure_ (i := 18) (N := some 85) (v := ?_) (a' := ?_) #[true, true, true, true, true, true, true, true, true, true, true, true, true, true, true, true, true, true, true, false, false, true, false, false] rfl rfl (any_of HT_.out (by kernel_rfl)) (fun _ _ _ h => h) (Or.inl ⟨by rfl, ?_⟩) ?_ ?_
                                                rotate_left
                                                · intro w'
                                                  go_simp
                                                  with_reducible rfl
                                                rotate_left
                                                · simp only [Act.put, List.setIfInBounds_toArray, List.set_cons_zero, List.set_cons_succ, i64_w, i32_w]
                                                  rfl
                                                refine pure_ (i := 19) (N := some 104) (v := ?_) (a' := ?_) #[true, true, true, true, true, true, true, true, true, true, true, true, true, true, true, true, true, true, true, true, false, true, false, false] rfl rfl (any_of HT_.out (by kernel_rfl)) (fun _ _ _ h => h) (Or.inl ⟨by rfl, ?_⟩) ?_ ?_
                                                rotate_left
                                                · intro w'
                                                  go_simp
                                                  with_reducible rfl
                                                rotate_left
                                                · simp only [Act.put, List.setIfInBounds_toArray, List.set_cons_zero, List.set_cons_succ, i64_w, i32_w]
                                                  rfl
                                                refine pure_ (i := 20) (N := some 105) (v := ?_) (a' := ?_) #[true, true, true, true, true, true, true, true, true, true, true, true, true, true, true, true, true, true, true, true, true, true, false, false] rfl rfl (any_of HT_.out (by kernel_rfl)) (fun _ _ _ h => h) (Or.inl ⟨by rfl, ?_⟩) ?_ ?_
                                                rotate_left
                                                · intro w'
                                                  go_simp
                                                  with_reducible rfl
                                                rotate_left
                                                · simp only [Act.put, List.setIfInBounds_toArray, List.set_cons_zero, List.set_cons_succ, i64_w, i32_w]
                                                  rfl
                                                exact norm_ (by simp only [putAll, Act.put, List.setIfInBounds_toArray, List.set_cons_zero, List.set_cons_succ]) (hCont (gb362) _ ⟨(by (with_reducible repeat (first | apply Kd.R_alloc | apply Kd.R_drewN | apply Kd.R_drew)); exact HO_4.out), (by (with_reducible repeat (first | refine blk_drewN ?_ _ | refine blk_drew ?_ | refine blk_alloc ?_ _)); exact BK362.out), GW362.out, GE362.out, (by repeat (first | (with_reducible first | exact HB.out | apply below_alloc | apply pw_below_drewN | apply below_drew1 | refine below_set ?_ GE362.out) | exact HB.out))⟩)
                                            rintro gb362 w54 ⟨h0_, h1_, h2_, h3_, h4_⟩
                                            have n0_ : Aside0 (Kd.R k39 39 w54 w.heap.size (fun _ => True) (.slice Ao31 x4_1.length co31) x4_1) := ⟨h0_⟩
                                            have n1_ : Aside0 (w54.heap[gb362]? = some (.cells #[.int .i64 0, .int .i64 0, .string (⟨#[]⟩ : ByteArray)] 24 (0, 0))) := ⟨h1_⟩
                                            have n2_ : Aside0 (w.heap.size ≤ gb362) := ⟨h2_⟩
                                            have n3_ : Aside0 (w.heap.size ≤ gb362) := ⟨h3_⟩
                                            have n4_ : Aside0 (Below w.heap.size w w54) := ⟨h4_⟩
                                            clear HO_4
                                            clear HB
                                            clear h0_ h1_ h2_ h3_ h4_
                                            have HO_4 := n0_
                                            have BK362 := n1_
                                            have GW362 := n2_
                                            have GE362 := n3_
                                            have HB := n4_
                                            clear n0_ n1_ n2_ n3_ n4_
                                            have hHeld := trivial
                                            refine norm_ (a' := ?_) ?_ ?_
                                            rotate_left
                                            · simp only [putAll, Act.put, List.setIfInBounds_toArray, List.set_cons_zero, List.set_cons_succ]
                                              rfl
                                            refine one_ (i := 22) (N := none) #[true, true, true, true, true, true, true, true, true, true, true, true, true, true, true, true, true, true, true, true, true, true, true, false] rfl rfl (one_of HT_.out (by kernel_rfl)) (by decide) (fun K hK => ?_)
                                            have hs55 : w54.cell? ⟨gb362, 0, none⟩ = some (.int .i64 0) := (blk_cell BK362.out 0).trans rfl
                                            have hfs55 := blk_frozen BK362.out 0
                                            have hs56 : w54.cell? ⟨gb362, 1, none⟩ = some (.int .i64 0) := (blk_cell BK362.out 1).trans rfl
                                            have hfs56 := blk_frozen BK362.out 1
                                            have hs57 : w54.cell? ⟨gb362, 2, none⟩ = some (.string (⟨#[]⟩ : ByteArray)) := (blk_cell BK362.out 2).trans rfl
                                            have hfs57 := blk_frozen BK362.out 2
                                            refine skip_ (w1 := ?_) (by rfl) rfl ?_ ?_
                                            rotate_left
                                            · go_simp
                                              rfl
                                            refine hK.out _ _ trivial (fun hHeld => ?_)
                                            clear hK K
                                            refine pure_ (i := 23) (N := some 15) (v := ?_) (a' := ?_) #[true, true, true, true, true, true, true, true, true, true, true, true, true, true, true, true, true, true, true, true, true, true, true, true] rfl rfl (any_of HT_.out (by kernel_rfl)) (fun _ _ _ h => h) (Or.inl ⟨by rfl, ?_⟩) ?_ ?_
                                            rotate_left
                                            · intro w'
                                              go_simp
                                              with_reducible rfl
                                            rotate_left
                                            · simp only [Act.put, List.setIfInBounds_toArray, List.set_cons_zero, List.set_cons_succ, i64_w, i32_w]
                                              rfl
                                            refine done_ (done_of HT_.out (by kernel_rfl)) ?_
                                            try go_wp2
                                            have n0_ : Aside0 (Kd.R k39 39 (((w54.setCell ⟨gb362, 0, none⟩ (.int .i64 t358)).setCell ⟨gb362, 1, none⟩ (.int .i64 t359)).setCell ⟨gb362, 2, none⟩ (.string t360)) w.heap.size (fun _ => True) (.slice Ao31 x4_1.length co31) x4_1) := ⟨by (with_reducible repeat (first | apply Kd.R_alloc | apply Kd.R_drewN | apply Kd.R_drew)); exact Kd.R_mono (Kd.R_far (p := ⟨gb362, 2, none⟩) (Kd.R_far (p := ⟨gb362, 1, none⟩) (Kd.R_far (p := ⟨gb362, 0, none⟩) (Kd.R_types HO_4.out BK362.out (by decide)) (fun _ hk => hk.2) (.int .i64 t358)) (fun _ hk => hk.2) (.int .i64 t359)) (fun _ hk => hk.2) (.string t360)) (fun _ hk => trivial)⟩
                                            have n1_ : Aside0 ((((w54.setCell ⟨gb362, 0, none⟩ (.int .i64 t358)).setCell ⟨gb362, 1, none⟩ (.int .i64 t359)).setCell ⟨gb362, 2, none⟩ (.string t360)).heap[gb362]? = some (.cells #[.int .i64 t358, .int .i64 t359, .string t360] 24 (0, 0))) := ⟨by (with_reducible repeat (first | refine blk_drewN ?_ _ | refine blk_drew ?_ | refine blk_alloc ?_ _)); refine blk_put (cs := #[.int .i64 t358, .int .i64 t359, .string (⟨#[]⟩ : ByteArray)]) ?_ 2 _ rfl; (with_reducible repeat (first | refine blk_drewN ?_ _ | refine blk_drew ?_ | refine blk_alloc ?_ _)); refine blk_put (cs := #[.int .i64 t358, .int .i64 0, .string (⟨#[]⟩ : ByteArray)]) ?_ 1 _ rfl; (with_reducible repeat (first | refine blk_drewN ?_ _ | refine blk_drew ?_ | refine blk_alloc ?_ _)); refine blk_put (cs := #[.int .i64 0, .int .i64 0, .string (⟨#[]⟩ : ByteArray)]) ?_ 0 _ rfl; (with_reducible repeat (first | refine blk_drewN ?_ _ | refine blk_drew ?_ | refine blk_alloc ?_ _)); exact BK362.out⟩
                                            have n2_ : Aside0 (Below w.heap.size w (((w54.setCell ⟨gb362, 0, none⟩ (.int .i64 t358)).setCell ⟨gb362, 1, none⟩ (.int .i64 t359)).setCell ⟨gb362, 2, none⟩ (.string t360))) := ⟨by repeat (first | (with_reducible first | exact HB.out | apply below_alloc | apply pw_below_drewN | apply below_drew1 | refine below_set ?_ GE362.out) | exact HB.out)⟩
                                            (try clear HO_4)
                                            (try clear BK362)
                                            (try clear HB)
                                            generalize (((w54.setCell ⟨gb362, 0, none⟩ (.int .i64 t358)).setCell ⟨gb362, 1, none⟩ (.int .i64 t359)).setCell ⟨gb362, 2, none⟩ (.string t360)) = w58 at n0_ n1_ n2_ ⊢
                                            have HO_4 := n0_
                                            have BK362 := n1_
                                            have HB := n2_
                                            clear n0_ n1_ n2_
                                            have n0_ := Aside0.mk (Kd.R_drew HO_4.out)
                                            have n1_ := Aside0.mk (blk_drew BK362.out)
                                            have n2_ := Aside0.mk (below_drew1 HB.out)
                                            clear HO_4
                                            clear BK362
                                            clear HB
                                            have HO_4 := n0_
                                            have BK362 := n1_
                                            have HB := n2_
                                            clear n0_ n1_ n2_
                                            have p363 : 0 ≤ (x13_2 : Int) := of_decide_eq_true (by first | (with_reducible assumption) | assumption)
                                            have q363 : x13_2 < (x4_1.length : Int) := of_decide_eq_true (by first | (with_reducible assumption) | assumption)
                                            obtain ⟨ad363, e363, hx363_0, hx363_1, hx363_2, hx363_3⟩ := at_T39 (Kd.R_reads' HO_4.out).2.2 x13_2 p363 q363
                                            cases e363
                                            replace p363 := eq_true p363
                                            replace q363 := eq_true q363
                                            refine start_ (n := 17) (S := fun w' => w'.cell? ⟨gb362, 0, none⟩ = some (.int .i64 t358) ∧ w'.cell? ⟨gb362, 1, none⟩ = some (.int .i64 t359) ∧ w'.cell? ⟨gb362, 2, none⟩ = some (.string t360) ∧ w'.cell? (ad363.add ((x13_2).toNat * 4)) = some (.string ((rd_T39 x4_1 x13_2).f0)) ∧ w'.cell? ⟨(ad363.add ((x13_2).toNat * 4)).block, (ad363.add ((x13_2).toNat * 4)).off + 1, none⟩ = some (.int .i64 ((rd_T39 x4_1 x13_2).f1.f0)) ∧ w'.cell? ⟨(ad363.add ((x13_2).toNat * 4)).block, (ad363.add ((x13_2).toNat * 4)).off + 2, none⟩ = some (.int .i64 ((rd_T39 x4_1 x13_2).f1.f1)) ∧ w'.cell? ⟨(ad363.add ((x13_2).toNat * 4)).block, (ad363.add ((x13_2).toNat * 4)).off + 3, none⟩ = some (.string ((rd_T39 x4_1 x13_2).f1.f2))) (ds := []) #[false, false, false, false, false, false, false, false, false, false, false, false, false, false, false, false, false] (by kernel_rfl) rfl rfl ⟨(blk_cell BK362.out 0).trans rfl, (blk_cell BK362.out 1).trans rfl, (blk_cell BK362.out 2).trans rfl, hx363_0, hx363_1, hx363_2, hx363_3⟩ (fun hHeld => ?_); refine with_tabW constablelaw05_SubstMany.tab18 constablelaw05_SubstMany.bits18 (fun HT_ HW_ => ?_)
                                            generalize w58.drew = w59 at HO_4 BK362 HB hx363_0 hx363_1 hx363_2 hx363_3 hHeld ⊢
                                            refine pure_ (i := 0) (N := some 106) (v := ?_) (a' := ?_) #[true, false, false, false, false, false, false, false, false, false, false, false, false, false, false, false, false] rfl rfl (any_of HT_.out (by kernel_rfl)) (fun _ _ _ h => h) (Or.inl ⟨by rfl, ?_⟩) ?_ ?_
                                            rotate_left
                                            · intro w'
                                              go_simp
                                              with_reducible rfl
                                            rotate_left
                                            · simp only [Act.put, List.setIfInBounds_toArray, List.set_cons_zero, List.set_cons_succ, i64_w, i32_w]
                                              rfl
                                            refine pure_ (i := 1) (N := some 107) (v := ?_) (a' := ?_) #[true, true, false, false, false, false, false, false, false, false, false, false, false, false, false, false, false] rfl rfl (any_of HT_.out (by kernel_rfl)) (fun _ _ _ h => h) (Or.inl ⟨by rfl, ?_⟩) ?_ ?_
                                            rotate_left
                                            · intro w'
                                              go_simp
                                              with_reducible rfl
                                            rotate_left
                                            · simp only [Act.put, List.setIfInBounds_toArray, List.set_cons_zero, List.set_cons_succ, i64_w, i32_w]
                                              rfl
                                            refine pure_ (i := 2) (N := some 108) (v := ?_) (a' := ?_) #[true, true, true, false, false, false, false, false, false, false, false, false, false, false, false, false, false] rfl rfl (any_of HT_.out (by kernel_rfl)) (fun _ _ _ h => h) (Or.inl ⟨by rfl, ?_⟩) ?_ ?_
                                            rotate_left
                                            · intro w'
                                              go_simp
                                              with_reducible rfl
                                            rotate_left
                                            · simp only [Act.put, List.setIfInBounds_toArray, List.set_cons_zero, List.set_cons_succ, i64_w, i32_w]
                                              rfl
                                            refine pure_ (i := 3) (N := some 109) (v := ?_) (a' := ?_) #[true, true, true, true, false, false, false, false, false, false, false, false, false, false, false, false, false] rfl rfl (any_of HT_.out (by kernel_rfl)) (fun _ _ _ h => h) (Or.inl ⟨by rfl, ?_⟩) ?_ ?_
                                            rotate_left
                                            · intro w'
                                              go_simp
                                              with_reducible rfl
                                            rotate_left
                                            · simp only [Act.put, List.setIfInBounds_toArray, List.set_cons_zero, List.set_cons_succ, i64_w, i32_w]
                                              rfl
                                            refine pure_ (i := 5) (N := some 111) (v := ?_) (a' := ?_) #[true, true, true, true, false, true, false, false, false, false, false, false, false, false, false, false, false] rfl rfl (any_of HT_.out (by kernel_rfl)) (fun _ _ _ h => h) (Or.inl ⟨by rfl, ?_⟩) ?_ ?_
                                            rotate_left
                                            · intro w'
                                              go_simp
                                              with_reducible rfl
                                            rotate_left
                                            · simp only [Act.put, List.setIfInBounds_toArray, List.set_cons_zero, List.set_cons_succ, i64_w, i32_w]
                                              rfl
                                            refine take_ (i := 4) (N := some 110) (v := ?_) (a' := ?_) #[true, true, true, true, true, true, false, false, false, false, false, false, false, false, false, false, false] rfl rfl (take_ofW HT_.out HW_.out (by kernel_rfl)) (fun _ _ _ h => h) (Or.inl ⟨by rfl, ?_⟩) hHeld ?_ ?_
                                            rotate_left
                                            · rintro w' ⟨s0, s1, s2, s3, s4, s5, s6⟩
                                              go_simp
                                              with_reducible rfl
                                            rotate_left
                                            · simp only [Act.put, List.setIfInBounds_toArray, List.set_cons_zero, List.set_cons_succ, i64_w, i32_w]
                                              rfl
                                            refine pure_ (i := 6) (N := some 112) (v := ?_) (a' := ?_) #[true, true, true, true, true, true, true, false, false, false, false, false, false, false, false, false, false] rfl rfl (any_of HT_.out (by kernel_rfl)) (fun _ _ _ h => h) (Or.inl ⟨by rfl, ?_⟩) ?_ ?_
                                            rotate_left
                                            · intro w'
                                              go_simp
                                              with_reducible rfl
                                            rotate_left
                                            · simp only [Act.put, List.setIfInBounds_toArray, List.set_cons_zero, List.set_cons_succ, i64_w, i32_w]
                                              rfl
                                            refine pure_ (i := 7) (N := some 113) (v := ?_) (a' := ?_) #[true, true, true, true, true, true, true, true, false, false, false, false, false, false, false, false, false] rfl rfl (any_of HT_.out (by kernel_rfl)) (fun _ _ _ h => h) (Or.inl ⟨by rfl, ?_⟩) ?_ ?_
                                            rotate_left
                                            · intro w'
                                              go_simp
                                              with_reducible rfl
                                            rotate_left
                                            · simp only [Act.put, List.setIfInBounds_toArray, List.set_cons_zero, List.set_cons_succ, i64_w, i32_w]
                                              rfl
                                            refine pure_ (i := 8) (N := some 114) (v := ?_) (a' := ?_) #[true, true, true, true, true, true, true, true, true, false, false, false, false, false, false, false, false] rfl rfl (any_of HT_.out (by kernel_rfl)) (fun _ _ _ h => h) (Or.inl ⟨by rfl, ?_⟩) ?_ ?_
                                            rotate_left
                                            · intro w'
                                              go_simp
                                              with_reducible rfl
                                            rotate_left
                                            · simp only [Act.put, List.setIfInBounds_toArray, List.set_cons_zero, List.set_cons_succ, i64_w, i32_w]
                                              rfl
                                            refine pure_ (i := 9) (N := some 115) (v := ?_) (a' := ?_) #[true, true, true, true, true, true, true, true, true, true, false, false, false, false, false, false, false] rfl rfl (any_of HT_.out (by kernel_rfl)) (fun _ _ _ h => h) (Or.inl ⟨by rfl, ?_⟩) ?_ ?_
                                            rotate_left
                                            · intro w'
                                              go_simp
                                              with_reducible rfl
                                            rotate_left
                                            · simp only [Act.put, List.setIfInBounds_toArray, List.set_cons_zero, List.set_cons_succ, i64_w, i32_w]
                                              rfl
                                            refine pure_ (i := 10) (N := some 116) (v := ?_) (a' := ?_) #[true, true, true, true, true, true, true, true, true, true, true, false, false, false, false, false, false] rfl rfl (any_of HT_.out (by kernel_rfl)) (fun _ _ _ h => h) (Or.inl ⟨by rfl, ?_⟩) ?_ ?_
                                            rotate_left
                                            · intro w'
                                              go_simp
                                              with_reducible rfl
                                            rotate_left
                                            · simp only [Act.put, List.setIfInBounds_toArray, List.set_cons_zero, List.set_cons_succ, i64_w, i32_w]
                                              rfl
                                            refine pure_ (i := 11) (N := some 117) (v := ?_) (a' := ?_) #[true, true, true, true, true, true, true, true, true, true, true, true, false, false, false, false, false] rfl rfl (any_of HT_.out (by kernel_rfl)) (fun _ _ _ h => h) (Or.inl ⟨by rfl, ?_⟩) ?_ ?_
                                            rotate_left
                                            · intro w'
                                              go_simp
                                              with_reducible rfl
                                            rotate_left
                                            · simp only [Act.put, List.setIfInBounds_toArray, List.set_cons_zero, List.set_cons_succ, i64_w, i32_w]
                                              rfl
                                            refine pure_ (i := 12) (N := some 118) (v := ?_) (a' := ?_) #[true, true, true, true, true, true, true, true, true, true, true, true, true, false, false, false, false] rfl rfl (any_of HT_.out (by kernel_rfl)) (fun _ _ _ h => h) (Or.inl ⟨by rfl, ?_⟩) ?_ ?_
                                            rotate_left
                                            · intro w'
                                              go_simp
                                              with_reducible rfl
                                            rotate_left
                                            · simp only [Act.put, List.setIfInBounds_toArray, List.set_cons_zero, List.set_cons_succ, i64_w, i32_w]
                                              rfl
                                            refine take_ (i := 13) (N := some 119) (v := ?_) (a' := ?_) #[true, true, true, true, true, true, true, true, true, true, true, true, true, true, false, false, false] rfl rfl (take_ofW HT_.out HW_.out (by kernel_rfl)) (fun _ _ _ h => h) (Or.inl ⟨by rfl, ?_⟩) hHeld ?_ ?_
                                            rotate_left
                                            · rintro w' ⟨s0, s1, s2, s3, s4, s5, s6⟩
                                              go_simp
                                              with_reducible rfl
                                            rotate_left
                                            · simp only [Act.put, List.setIfInBounds_toArray, List.set_cons_zero, List.set_cons_succ, i64_w, i32_w]
                                              rfl
                                            refine take_ (i := 14) (N := some 120) (v := ?_) (a' := ?_) #[true, true, true, true, true, true, true, true, true, true, true, true, true, true, true, false, false] rfl rfl (take_ofW HT_.out HW_.out (by kernel_rfl)) (fun _ _ _ h => h) (Or.inl ⟨by rfl, ?_⟩) hHeld ?_ ?_
                                            rotate_left
                                            · rintro w' ⟨s0, s1, s2, s3, s4, s5, s6⟩
                                              go_simp
                                              with_reducible rfl
                                            rotate_left
                                            · simp only [Act.put, List.setIfInBounds_toArray, List.set_cons_zero, List.set_cons_succ, i64_w, i32_w]
                                              rfl
                                            refine pure_ (i := 15) (N := some 121) (v := ?_) (a' := ?_) #[true, true, true, true, true, true, true, true, true, true, true, true, true, true, true, true, false] rfl rfl (any_of HT_.out (by kernel_rfl)) (fun _ _ _ h => h) (Or.inl ⟨by rfl, ?_⟩) ?_ ?_
                                            rotate_left
                                            · intro w'
                                              go_simp
                                              with_reducible rfl
                                            rotate_left
                                            · simp only [Act.put, List.setIfInBounds_toArray, List.set_cons_zero, List.set_cons_succ, i64_w, i32_w]
                                              rfl
                                            refine pure_ (i := 16) (N := some 122) (v := ?_) (a' := ?_) #[true, true, true, true, true, true, true, true, true, true, true, true, true, true, true, true, true] rfl rfl (any_of HT_.out (by kernel_rfl)) (fun _ _ _ h => h) (Or.inl ⟨by rfl, ?_⟩) ?_ ?_
                                            rotate_left
                                            · intro w'
                                              go_simp
                                              with_reducible rfl
                                            rotate_left
                                            · simp only [Act.put, List.setIfInBounds_toArray, List.set_cons_zero, List.set_cons_succ, i64_w, i32_w]
                                              rfl
                                            refine done_ (done_of HT_.out (by kernel_rfl)) ?_
                                            try go_wp2
                                            go_roundg k2
                                            case measure => have := HK1.out; have := HK2.out; omega
                                            case rel => exact ⟨(wrap64 (x13_2 + 1)), (by first | rfl | (simp; done) | (simp [*]; done)), H', ⟨by have := HK1.out; have := HK2.out; omega⟩, ⟨by (with_reducible repeat (first | apply Kd.R_alloc | apply Kd.R_drewN | apply Kd.R_drew)); exact HO_4.out⟩, ⟨by repeat (first | (with_reducible first | exact HB.out | apply below_alloc | apply pw_below_drewN | apply below_drew1 | refine below_set ?_ GE362.out) | exact HB.out)⟩⟩
                                        · rw [if_neg c49] at H
                                          exact absurd H (by simp)
                                      · rw [if_neg c48] at H
                                        exact absurd H (by simp)
                                    · rw [if_neg c47] at H
                                      exact absurd H (by simp)
                                  · replace c46 := Bool.eq_false_iff.mpr c46
                                    subst c46
                                    have H1 : (none) = some r := by rw [if_neg (show ¬ (false = true) by decide)] at H; exact H
                                    clear H
                                    have H := H1
                                    clear H1
                                    exact absurd H (by simp)
                                · rw [if_neg c44] at H
                                  exact absurd H (by simp)
                              · rw [if_neg c43] at H
                                exact absurd H (by simp)
                            · rw [if_neg c42] at H
                              exact absurd H (by simp)
                          · rw [if_neg c41] at H
                            exact absurd H (by simp)
                        · rw [if_neg c39] at H
                          exact absurd H (by simp)
                      · rw [if_neg c38] at H
                        exact absurd H (by simp)
                    · rw [if_neg c37] at H
                      exact absurd H (by simp)
                  · rw [if_neg c36] at H
                    exact absurd H (by simp)
                · rw [if_neg c34] at H
                  have c34b0 : decide (x13_2 < 100) = false := decide_eq_false c34
                  clear c34
                  by_cases c60 : t353 = true
                  · subst c60
                    have H1 : (none) = some r := by rw [if_pos rfl] at H; exact H
                    clear H
                    have H := H1
                    clear H1
                    exact absurd H (by simp)
                  · replace c60 := Bool.eq_false_iff.mpr c60
                    subst c60
                    have H1 : (if t357 = true then ((constablelaw05_wakes.f k2).bind fun t364 => (some t364)) else (none)) = some r := by rw [if_neg (show ¬ (false = true) by decide)] at H; exact H
                    clear H
                    have H := H1
                    clear H1
                    by_cases c61 : t357 = true
                    · subst c61
                      have H1 : ((constablelaw05_wakes.f k2).bind fun t364 => (some t364)) = some r := by rw [if_pos rfl] at H; exact H
                      clear H
                      have H := H1
                      clear H1
                      replace H := Option.bind_eq_some_iff.mp H
                      obtain ⟨t364, A620, H⟩ := H
                      replace H : (some t364) = some r := H
                      have A62 := Aside0.mk A620
                      clear A620
                      obtain rfl := Option.some.inj H
                      go_wp2_with (first | (go_at_call 28; (with_reducible refine (constablelaw05_wakes.calls k2  t364 _ A62.out).mono ?_); rintro e w63 ⟨rfl, hb⟩; have n0_ := Aside0.mk (Kd.R_below (by (with_reducible repeat (first | apply Kd.R_alloc | apply Kd.R_drewN | apply Kd.R_drew)); exact HO_4.out) hb); have n1_ := Aside0.mk (below_step (by repeat (first | (with_reducible first | exact HB.out | apply below_alloc | apply pw_below_drewN | apply below_drew1) | exact HB.out)) hb); clear HO_4; clear HB; have HO_4 := n0_; have HB := n1_; clear n0_ n1_; (try clear hb); (try clear hb2); (try clear hk); (try clear hi)))
                      go_ret
                      exact ⟨by first | rfl | (simp [errW_none, errW_some] <;> rfl) | (simp only [← hji2]; first | rfl | (simp [errW_none, errW_some] <;> rfl)) | (simp [*, errW_none, errW_some] <;> rfl), by repeat (first | (with_reducible first | exact HB.out | apply below_alloc | apply pw_below_drewN | apply below_drew1) | exact HB.out)⟩
                    · replace c61 := Bool.eq_false_iff.mpr c61
                      subst c61
                      have H1 : (none) = some r := by rw [if_neg (show ¬ (false = true) by decide)] at H; exact H
                      clear H
                      have H := H1
                      clear H1
                      exact absurd H (by simp)
    · rw [if_neg c4] at H
      exact absurd H (by simp)
  · rw [if_neg c3] at H
    exact absurd H (by simp)

end Go.Proofs.Ytghommaokdhjmaa.P
/- SubstMany's plain law: the printed function answers true from some number of rounds on; no condition. -/
set_option linter.unusedVariables false
set_option linter.unusedSimpArgs false
namespace Go.Proofs.Ytghommaokdhjmaa.Pure
open Go.RowKit Go.Proofs.YtghommaokdhjmaaW.PrintWords Go.Proofs.Ytghommaokdhjmaa.P Go.Proofs.Ytghommaokdhjmaa.PSpec Go.Proofs.Ytghommaokdhjmaa.BothB Go.Proofs.Ytghommaokdhjmaa.SpecB
/-- V00 to V99, and the ten digits. -/
def vb (j : Nat) : S39 := ⟨⟨#[86, UInt8.ofNat (48 + j / 10), UInt8.ofNat (48 + j % 10)]⟩, ⟨1, j, ⟨#[]⟩⟩⟩
def full : List S39 := (List.range 100).map vb
def dg : ByteArray := ⟨#[48, 49, 50, 51, 52, 53, 54, 55, 56, 57]⟩
theorem vb_var : ∀ j, j < 100 → varP (vb j).f0 = true := by decide +kernel
theorem vb_less : ∀ i, i < 100 → ∀ j, j < 100 → i < j → cfB (vb i) (vb j) < 0 := by decide +kernel
theorem vb_text : ∀ j, j < 100 → ((⟨#[86]⟩ : ByteArray) ++ dg.extract (j / 10) (j / 10 + 1)) ++ dg.extract (j % 10) (j % 10 + 1) = (vb j).f0 := by decide +kernel
theorem vb_right {j : Nat} (h : j < 100) : rightP (vb j) = true := by
  unfold rightP
  rw [vb_var j h, show valP (vb j).f1.f0 (vb j).f1.f1 (vb j).f1.f2 = 0 from valP_int (n := (j : Int)) (by omega) (by omega)]; rfl
theorem vb_inj {i j : Nat} (h : vb i = vb j) : i = j := by
  have := congrArg (fun x : S39 => x.f1.f1) h
  exact Int.ofNat.inj this
theorem mem_full {x : S39} : x ∈ full ↔ ∃ j, j < 100 ∧ x = vb j := by
  unfold full
  rw [List.mem_map]
  constructor
  · rintro ⟨j, h, rfl⟩; exact ⟨j, List.mem_range.1 h, rfl⟩
  · rintro ⟨j, h, rfl⟩; exact ⟨j, List.mem_range.2 h, rfl⟩
theorem full_right : chkP full = 0 := by
  refine (right_iff _).2 ⟨by unfold full; simp, fun x hx => ?_, ?_⟩
  · obtain ⟨j, h, rfl⟩ := mem_full.1 hx; exact vb_right h
  · refine List.pairwise_iff_getElem.2 fun i j hi hj hij => ?_
    unfold full at hi hj ⊢
    simp only [List.length_map, List.length_range] at hi hj
    simp only [List.getElem_map, List.getElem_range]
    exact vb_less i hi j hj hij
theorem full_len : full.length = 100 := by unfold full; simp
theorem full_at {j : Nat} (h : j < 100) : rd_T39 full j = vb j := by
  rw [rd_get (by rw [full_len]; exact h)]
  unfold full
  simp
theorem with_len {l m : List S39} {x : S39} (h : With l x m) (hx : x ∉ l) : m.length = l.length + 1 := by
  have hp : m.Perm (x :: l) := (List.perm_ext_iff_of_nodup (rises_nodup ((right_iff m).1 h.2.2.1).2.2) (List.nodup_cons.2 ⟨hx, rises_nodup ((right_iff l).1 h.1).2.2⟩)).2 fun y => by
    rw [h.2.2.2, List.mem_cons, or_comm]
  rw [hp.length_eq]; rfl
theorem vb_fit {l : List S39} (h : ∀ x ∈ l, x ∈ full) : fitB l = true := fit_mem.2 fun x hx => by
  obtain ⟨j, _, rfl⟩ := mem_full.1 (h x hx)
  exact ⟨by show 3 ≤ 1000000; omega, by show 0 ≤ 1000000; omega⟩
theorem dg_size (a b : Nat) : (dg.extract a b).size ≤ 10 := by
  rw [ByteArray.size_extract]
  have : dg.size = 10 := rfl
  omega
/-- How the numbers of a name are reckoned. -/
theorem nums {K : Nat} (h : K < 100) : Int.tdiv (K : Int) 10 = ((K / 10 : Nat) : Int) ∧ wrap64 ((K / 10 : Nat) : Int) = ((K / 10 : Nat) : Int) ∧ wrap64 (((K / 10 : Nat) : Int) + 1) = ((K / 10 + 1 : Nat) : Int) ∧
    Int.tmod (K : Int) 10 = ((K % 10 : Nat) : Int) ∧ wrap64 (((K % 10 : Nat) : Int) + 1) = ((K % 10 + 1 : Nat) : Int) := by
  refine ⟨?_, ?_, ?_, ?_, ?_⟩
  · exact (Int.ofNat_tdiv K 10).symm
  · unfold wrap64; omega
  · unfold wrap64; omega
  · exact (Int.ofNat_tmod K 10).symm
  · unfold wrap64; omega
theorem num_mod {i b : Nat} (hi : i < 100) (hb : b ≤ 13) : ∃ K : Nat, K = i * b % 100 ∧ K < 100 ∧ Int.tmod (wrap64 ((i : Int) * (b : Int))) 100 = (K : Int) := by
  have hib : i * b ≤ 1287 := Nat.mul_le_mul (show i ≤ 99 by omega) hb
  refine ⟨i * b % 100, rfl, Nat.mod_lt _ (by decide), ?_⟩
  have : wrap64 ((i : Int) * (b : Int)) = ((i * b : Nat) : Int) := by
    rw [show (i : Int) * (b : Int) = ((i * b : Nat) : Int) by simp]
    generalize i * b = q at hib ⊢
    unfold wrap64; omega
  rw [this]
  exact (Int.ofNat_tmod (i * b) 100).symm
theorem conds {K : Nat} (h : K < 100) : (0 : Int) ≤ ((K / 10 : Nat) : Int) ∧ ((K / 10 : Nat) : Int) ≤ ((K / 10 + 1 : Nat) : Int) ∧ ((K / 10 + 1 : Nat) : Int) ≤ (dg.size : Int) ∧ 1 + (dg.extract (K / 10) (K / 10 + 1)).size ≤ 9223372036854775807 ∧
    (0 : Int) ≤ ((K % 10 : Nat) : Int) ∧ ((K % 10 : Nat) : Int) ≤ ((K % 10 + 1 : Nat) : Int) ∧ ((K % 10 + 1 : Nat) : Int) ≤ (dg.size : Int) ∧
    ((⟨#[86]⟩ : ByteArray) ++ dg.extract (K / 10) (K / 10 + 1)).size + (dg.extract (K % 10) (K % 10 + 1)).size ≤ 9223372036854775807 := by
  have hd : dg.size = 10 := rfl
  have z1 := dg_size (K / 10) (K / 10 + 1)
  have z2 := dg_size (K % 10) (K % 10 + 1)
  have z3 : ((⟨#[86]⟩ : ByteArray) ++ dg.extract (K / 10) (K / 10 + 1)).size ≤ 11 := by rw [ByteArray.size_append]; show 1 + _ ≤ 11; omega
  refine ⟨by omega, by omega, by rw [hd]; omega, by omega, by omega, by omega, by rw [hd]; omega, by omega⟩
theorem many_get : ∀ (m i : Nat), i + m = 100 → Ev (fun k => constablelaw05_SubstMany.l1 k dg full false true i) true := by
  intro m
  induction m with
  | zero =>
    intro i h
    refine Ev.step (fun k => by rw [constablelaw05_SubstMany.l1, if_neg (by omega), if_neg (by decide), if_pos rfl]) ?_
    exact Ev.bind ev_wakes (Ev.now _)
  | succ m ih =>
    intro i h
    have hi : i < 100 := by omega
    obtain ⟨e1, e2, e3, e4, e5⟩ := nums hi
    obtain ⟨c1, c2, c3, c4, c5, c6, c7, c8⟩ := conds hi
    refine Ev.step (fun k => by rw [constablelaw05_SubstMany.l1, if_pos (show (i : Int) < 100 by omega), e1, e2, e3, e4, e5, if_pos c1, if_pos c2, if_pos c3, Int.toNat_natCast, Int.toNat_natCast, Int.toNat_natCast, Int.toNat_natCast, if_pos c4, if_pos c5, if_pos c6, if_pos c7, if_pos c8, vb_text i hi, full_at hi]) ?_
    clear c1 c2 c3 c4 c5 c6 c7 c8 e1 e2 e3 e4 e5
    have hg := ev_get (l := full) (by rw [full_len]; omega) (vb i).f0
    rw [getP_of full_right (mem_full.2 ⟨i, hi, rfl⟩)] at hg
    refine Ev.bind hg ?_
    simp only [if_true, beq_self_eq_true, Bool.not_true, Bool.or_self, Bool.false_eq_true, if_false, show (vb i).f1.f1 = (i : Int) from rfl, if_pos (show (0 : Int) ≤ (i : Int) by omega), if_pos (show (i : Int) < (full.length : Int) by rw [full_len]; omega), show wrap64 ((i : Int) + 1) = ((i + 1 : Nat) : Int) by unfold wrap64; omega]
    exact ih (i + 1) (by omega)
theorem many_put {b : Nat} (hb : b ≤ 13) (inj : ∀ t, t < 100 → ∀ s, s < 100 → t * b % 100 = s * b % 100 → t = s) (sur : ∀ j, j < 100 → ∃ t, t < 100 ∧ t * b % 100 = j) :
    ∀ (m i : Nat), i + m = 100 → ∀ z, chkP z = 0 → z.length = i → (∀ x, x ∈ z ↔ ∃ t, t < i ∧ x = vb (t * b % 100)) → Ev (fun k => constablelaw05_SubstMany.l0 k (b : Int) dg z i) true := by
  intro m
  induction m with
  | zero =>
    intro i h z hz hl hx
    have e : z = full := rises_only ((right_iff z).1 hz).2.2 ((right_iff full).1 full_right).2.2 fun x => by
      rw [hx, mem_full]
      constructor
      · rintro ⟨t, _, rfl⟩; exact ⟨t * b % 100, Nat.mod_lt _ (by omega), rfl⟩
      · rintro ⟨j, hj, rfl⟩
        obtain ⟨t, ht, rfl⟩ := sur j hj
        exact ⟨t, by omega, rfl⟩
    subst e
    refine Ev.step (fun k => by rw [constablelaw05_SubstMany.l0, if_neg (by omega)]) ?_
    have ff : fitB full = true := vb_fit fun x h => h
    have n1 : putP full ⟨⟨#[87]⟩, ⟨1, 0, ⟨#[]⟩⟩⟩ = ([], false) := by
      rcases put_cases full ⟨⟨#[87]⟩, ⟨1, 0, ⟨#[]⟩⟩⟩ with ⟨q, _, hq⟩ | ⟨hq, _⟩
      · have := with_len hq (fun hin => by
          obtain ⟨j, hj, e⟩ := mem_full.1 hin
          have := congrArg (fun x : S39 => x.f0.size) e
          exact absurd this (by show ¬ 1 = 3; omega))
        have := right_len hq.2.2.1
        rw [full_len] at *
        omega
      · exact hq
    have w2 : With full (vb 7) full := ⟨full_right, vb_right (by omega), full_right, fun y => ⟨.inl, fun h => h.elim id fun h => h ▸ mem_full.2 ⟨7, by omega, rfl⟩⟩⟩
    have p1 := ev_put ff ⟨#[87]⟩ 1 0 ⟨#[]⟩ (by show 1 ≤ 1000000; omega) (by show 0 ≤ 1000000; omega)
    rw [n1] at p1
    have p2 := ev_put ff ⟨#[86, 48, 55]⟩ 1 7 ⟨#[]⟩ (by show 3 ≤ 1000000; omega) (by show 0 ≤ 1000000; omega)
    rw [show (⟨⟨#[86, 48, 55]⟩, ⟨1, 7, ⟨#[]⟩⟩⟩ : S39) = vb 7 from rfl, put_with w2] at p2
    refine Ev.bind p1 ?_
    refine Ev.bind p2 ?_
    exact many_get 100 0 (by omega)
  | succ m ih =>
    intro i h z hz hl hx
    have hi : i < 100 := by omega
    obtain ⟨K, hK0, hK1, e0⟩ := num_mod hi hb
    have hK := Aside0.mk hK0
    clear hK0
    have hi2 : (i : Int) < 100 := by clear e0; omega
    obtain ⟨e1, e2, e3, e4, e5⟩ := nums hK1
    obtain ⟨c1, c2, c3, c4, c5, c6, c7, c8⟩ := conds hK1
    refine Ev.step (fun k => by rw [constablelaw05_SubstMany.l0, if_pos hi2, e0, e1, e2, e3, e4, e5, if_pos c1, if_pos c2, if_pos c3, Int.toNat_natCast, Int.toNat_natCast, Int.toNat_natCast, Int.toNat_natCast, if_pos c4, if_pos c5, if_pos c6, if_pos c7, if_pos c8, vb_text K hK1]) ?_
    clear c1 c2 c3 c4 c5 c6 c7 c8 e1 e2 e3 e4 e5 e0
    have hin : ∀ x, x ∈ z → x ∈ full := fun x h => by
      obtain ⟨t, _, rfl⟩ := (hx x).1 h
      exact mem_full.2 ⟨_, Nat.mod_lt _ (by omega), rfl⟩
    have hw : With z (vb K) (full.filter fun x => decide (x ∈ z ∨ x = vb K)) := ⟨hz, vb_right hK1, right_filter full_right _, fun x => by
      rw [List.mem_filter, decide_eq_true_eq]
      constructor
      · exact fun h => h.2
      · intro h
        refine ⟨?_, h⟩
        rcases h with h | rfl
        · exact hin x h
        · exact mem_full.2 ⟨K, hK1, rfl⟩⟩
    have hnot : vb K ∉ z := fun h => by
      obtain ⟨t, ht, e⟩ := (hx _).1 h
      have := vb_inj e
      have := inj i hi t (by omega) (hK.out.symm.trans this)
      omega
    have hlen := with_len hw hnot
    have fz : fitB z = true := vb_fit hin
    have fm : fitB (full.filter fun x => decide (x ∈ z ∨ x = vb K)) = true := vb_fit fun x h => (List.mem_filter.1 h).1
    have hp := ev_put fz (vb K).f0 1 (K : Int) ⟨#[]⟩ (by show 3 ≤ 1000000; omega) (by show 0 ≤ 1000000; omega)
    rw [show (⟨(vb K).f0, ⟨1, (K : Int), ⟨#[]⟩⟩⟩ : S39) = vb K from rfl, put_with hw] at hp
    refine Ev.bind hp ?_
    have hw1 : wrap64 ((i : Int) + 1) = ((i + 1 : Nat) : Int) := by unfold wrap64; omega
    simp only [if_true, hw1, hlen, hl]
    refine Ev.bind (ev_check fm) ?_
    simp only [if_pos hw.2.2.1]
    refine ih (i + 1) (by omega) _ hw.2.2.1 (by rw [hlen, hl]) fun x => ?_
    rw [hw.2.2.2, hx]
    constructor
    · rintro (⟨t, ht, rfl⟩ | rfl)
      · exact ⟨t, by omega, rfl⟩
      · exact ⟨i, by omega, by rw [hK.out]⟩
    · rintro ⟨t, ht, rfl⟩
      by_cases e : t = i
      · subst e; exact .inr (by rw [hK.out])
      · exact .inl ⟨t, by omega, rfl⟩
theorem many_start {b : Nat} (hb : b ≤ 13) (inj : ∀ t, t < 100 → ∀ s, s < 100 → t * b % 100 = s * b % 100 → t = s) (sur : ∀ j, j < 100 → ∃ t, t < 100 ∧ t * b % 100 = j) : Ev (fun k => constablelaw05_SubstMany.l0 k (b : Int) dg [] 0) true :=
  many_put hb inj sur 100 0 (by omega) [] right_nil rfl fun x => by simp
theorem substMany (a : Int) : ∃ k, constablelaw05_SubstMany.f k a = some true := by
  refine Ev.rounds (g := fun k => constablelaw05_SubstMany.f k a) ?_
  unfold constablelaw05_SubstMany.f
  simp only [Option.bind_some]
  have h0 : 0 ≤ IntKind.u64.wrap a ∧ IntKind.u64.wrap a < 18446744073709551616 := by
    unfold IntKind.wrap
    simp [IntKind.bits, IntKind.signed]
    omega
  generalize IntKind.u64.wrap a = u at h0 ⊢
  have ht : Int.tmod u 6 = u % 6 := Int.tmod_eq_emod_of_nonneg h0.1
  rw [ht]
  obtain ⟨q, hq⟩ : ∃ q, q = u % 6 := ⟨_, rfl⟩
  have hw : wrap64 q = q := by unfold wrap64; omega
  rw [← hq, hw]
  have hq6 : q = 0 ∨ q = 1 ∨ q = 2 ∨ q = 3 ∨ q = 4 ∨ q = 5 := by omega
  simp only [if_pos (show 0 ≤ q by omega), if_pos (show q < (([1, 3, 7, 9, 11, 13] : List Int).length : Int) by show q < 6; omega)]
  clear hw ht hq
  rcases hq6 with rfl | rfl | rfl | rfl | rfl | rfl
  · exact many_start (b := 1) (by omega) (by decide +kernel) (by decide +kernel)
  · exact many_start (b := 3) (by omega) (by decide +kernel) (by decide +kernel)
  · exact many_start (b := 7) (by omega) (by decide +kernel) (by decide +kernel)
  · exact many_start (b := 9) (by omega) (by decide +kernel) (by decide +kernel)
  · exact many_start (b := 11) (by omega) (by decide +kernel) (by decide +kernel)
  · exact many_start (b := 13) (by omega) (by decide +kernel) (by decide +kernel)
end Go.Proofs.Ytghommaokdhjmaa.Pure
/- The row of SubstMany: whatever the input, true; out of the printed walk and the plain law. -/
namespace Go.Proofs.Ytghommaokdhjmaa.substMany
open Go.ChangeShapes Go.WideShapes Go.ChangeAt Go.RowKit Go.Proofs.YtghommaokdhjmaaW.PrintWords Go.Proofs.Ytghommaokdhjmaa.P Go.Proofs.Ytghommaokdhjmaa.Open
open Go.ChangeMaps (open_string shut_string)
set_option linter.unusedVariables false
theorem own : ownKnob Try.prog.godebug = none := by kernel_rfl
theorem laidOut : laidOutB Try.prog = true := by kernel_rfl
set_option maxRecDepth 100000 in
theorem lifted (os : Os) (started : os.Started) (H : Type) (enc : TypeId × Value → H) :
    ReturnsInHanded {} Try.checked os 6 .any (Rows.substManySpec.pre6 enc Try.prog Try.f6 Rows.substManyRow.domain false) (Rows.substManySpec.post enc Try.prog Try.f6 false true false false) := by
  refine returnsInHanded_of_change_sized (C := Try.checked) own started (by kernel_rfl) Try.func6
    (ChangeSpec.witness6 (enc := enc) (C := Try.checked) false ⟨#[], #[.int .i64 0], []⟩ 8 (by kernel_rfl) (by kernel_rfl) (by kernel_rfl) (by kernel_rfl)) ?_
  intro W base args ds gs before hval0 hW hcnd hsz0 _
  have hval : ∀ (j : Nat) t v, Try.f6.params[j]? = some t → args[j]? = some v → Value.okWide Try.prog W .any base t v := hval0
  have hW' := hW
  obtain ⟨p, q, hA0, hV, rfl, hfz, hnd⟩ := hW
  have hA : DataW.TrodAll enc Try.prog W 0 (fun _ => true) true Try.f6.params.toList args.toList ds p := hA0
  rw [Try.params6] at hA hval
  obtain ⟨v0, vs0, d0, ds0, p0, q0, hargs, rfl, rfl, h0, r0⟩ := trodAll_cons hA
  obtain ⟨rfl, rfl, rfl⟩ := trodAll_nil r0
  obtain rfl : args = #[v0] := by cases args; simp_all
  obtain ⟨rfl, rfl⟩ := trodVars_none hV
  obtain ⟨a0, rfl, rfl, rfl, w0⟩ := open_int Try.underlying3 (hval 0 3 v0 rfl rfl) h0
  clear hA0 hval0 hsz0
  obtain ⟨kf, hkf⟩ := Pure.substMany a0
  refine (P.constablelaw05_SubstMany.calls kf a0 true W  hkf).mono fun e W' ⟨he, bel⟩ => ?_
  subst he
  exact ⟨_, rfl, _, _, _, [], _, [], hW', trodAll_mk1 (shut_bool Try.underlying4 _), (trodAll_cons_mk (shut_int Try.underlying3 w0) trodAll_mk0), rfl, bel.frame _, fun h => by cases h⟩
theorem over : Rows.substManyRow.holds Try.pinned (OpenSpec.ofChange Rows.substManySpec) :=
  OpenClaim.holds_of_wide 6 Try.f6 rfl rfl rfl rfl rfl rfl rfl ⟨rfl, rfl, rfl, rfl, rfl⟩ rfl rfl rfl rfl rfl (by kernel_rfl) Try.func6 (by kernel_rfl)
    (of_decide_eq_true (by kernel_rfl)) (by unfold Func.isWrapper; first | (rw [if_pos (by decide +kernel)]; kernel_rfl) | (rw [if_neg (by decide +kernel)]; exact ⟨rfl, rfl⟩))
    (fun os started H enc _ => lifted os started H enc)
theorem proved : Rows.SubstManySaid := over
end Go.Proofs.Ytghommaokdhjmaa.substMany
namespace Go.Proofs.Ytghommaokdhjmaa
/-- The row, under a short name, for the claim. -/
theorem substMany_holds : Rows.SubstManySaid := substMany.proved
#print axioms substMany_holds
end Go.Proofs.Ytghommaokdhjmaa
