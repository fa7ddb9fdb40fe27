/- The row of SetsBoth, and what it rests on; no condition. -/
import Derived.Test.YtghommaokdhjmaaSPC2
import Derived.ChangeSame
import Derived.ChangeArms
import Derived.Test.YtghommaokdhjmaaRows
import Derived.WalkKit
import Derived.ProofKit
import Derived.OpenShut
import Derived.ShutString
import Derived.ChangeOld
import Derived.Below
import Derived.SizedLaws
namespace Go.Proofs.Ytghommaokdhjmaa.P
open Go.RowKit Go.Proofs.YtghommaokdhjmaaW.PrintWords Go.Proofs.YtghommaokdhjmaaW.PrintLast Go.Proofs.Ytghommaokdhjmaa.Gate
set_option linter.unusedVariables false
set_option linter.unusedSimpArgs false

/-! ### constablelaw04_SetsBoth: function 10 -/
def constablelaw04_SetsBoth.f (k : Nat) (l0 : List (S53)) (l1 : List (S53)) (a2_0 : ByteArray) (l2_1 : List (S24)) : Option (Bool) := (constablelaw03_Many.f k l0).bind fun t622 => (if t622 = true then (some true) else ((constablelaw03_Many.f k l1).bind fun t623 => (if t623 = true then (some true) else ((constablelaw03_Heavy.f k a2_0 l2_1).bind fun t624 => (if t624 = true then (some true) else ((constableref01_Set.f k l0).bind fun t625 => (if t625 = true then ((constableref01_Set.f k l1).bind fun t626 => (if t626 = true then ((sets_Both.f l0 l1).bind fun bt627 => ((sets_Both.f l1 l0).bind fun bt631 => ((sets_Both.f l0 l0).bind fun bt635 => (if bt627.2 = 0 then (if bt631.2 = 0 then (if bt635.2 = 0 then ((constablekeep_Facts.f k bt627.1 bt631.1).bind fun t639 => (if t639 = true then ((constablekeep_Facts.f k bt635.1 l0).bind fun t640 => (if t640 = true then ((sets_Check.f k bt627.1).bind fun t641 => (if t641 = 0 then ((sets_Has.f bt627.1 a2_0 l2_1).bind fun t642 => ((sets_Has.f l0 a2_0 l2_1).bind fun t643 => (if t643 = true then (if (t642 == true) = true then ((constablelaw04_wakes.f).bind fun t644 => (some t644)) else (none)) else ((sets_Has.f l1 a2_0 l2_1).bind fun t645 => (if (t642 == t645) = true then ((constablelaw04_wakes.f).bind fun t646 => (some t646)) else (none)))))) else (none))) else (none))) else (none))) else (none)) else (none)) else (none))))) else (some true))) else (some true))))))))
def constablelaw04_SetsBoth.T6 : Bool × List (List Nat × List Nat) := (true, [([], []), ([0], [0]), ([1], [1]), ([2], [2]), ([3, 2], [2, 3]), ([2, 4], [2, 4]), ([5, 2], [5]), ([6], [6]), ([7, 6], [6, 7]), ([6, 8], [6, 8]), ([9, 6], [9]), ([10], [10]), ([10], [10]), ([11, 12, 10, 10], [10, 11, 12]), ([10, 13], [10, 13]), ([14, 13], [14]), ([15], [15]), ([15], [15]), ([16, 17, 15, 15], [15, 16, 17]), ([15, 18], [15, 18]), ([19, 18], [19]), ([20], [20]), ([21, 20, 20], [20, 21]), ([22, 20], [20, 22]), ([20, 23], [20, 23]), ([24, 22], [24]), ([25], [25]), ([25], [25]), ([26, 27, 25, 25], [25, 26, 27]), ([25], [25]), ([25], [25]), ([29, 30, 28, 25], [25, 29, 30]), ([31, 31, 25], [25, 31]), ([32], [32]), ([32], [32]), ([33, 34, 32, 32], [32, 33, 34]), ([32, 35, 25], [25, 32, 35]), ([28, 36, 25], [25, 28, 36]), ([25, 37], [25, 37]), ([38, 35], [38]), ([39, 39], [39]), ([39, 40], [39, 40]), ([41, 40, 0, 1, 2, 3, 4, 5, 6, 7, 8, 9, 10, 11, 12, 13, 14, 15, 16, 17, 18, 19, 20, 21, 22, 23, 24, 25, 26, 27, 28, 29, 30, 31, 32, 33, 34, 35, 36, 37, 38, 39, 40, 41], [41])])
def constablelaw04_SetsBoth.B6 : List Nat := [0, 1, 3, 7, 15, 31, 63, 127, 255, 511, 1023, 2047, 2047, 8191, 16383, 32767, 65535, 65535, 262143, 524287, 1048575, 2097151, 4194303, 8388607, 16777215, 33554431, 67108863, 67108863, 268435455, 67108863, 67108863, 2147483647, 4294967295, 8589934591, 8589934591, 34359738367, 68719476735, 137438953471, 274877906943, 549755813887, 1099511627775, 2199023255551, 4398046511103]
theorem constablelaw04_SetsBoth.tab6 : rtab .any (opsOf Try.f10 6) = constablelaw04_SetsBoth.T6 := by kernel_rfl
theorem constablelaw04_SetsBoth.bits6 : waitsOk constablelaw04_SetsBoth.T6.2 constablelaw04_SetsBoth.B6 = true := by kernel_rfl
set_option maxHeartbeats 8000000 in
set_option maxRecDepth 100000 in
theorem constablelaw04_SetsBoth.calls (k : Nat) (A0 : Option Addr) (c0 : Nat) (l0 : List (S53)) (A1 : Option Addr) (c1 : Nat) (l1 : List (S53)) (a2_0 : ByteArray) (A2_1 : Option Addr) (c2_1 : Nat) (l2_1 : List (S24)) (r : Bool) (w : World) (hr0 : Kd.C k53 w A0 l0.length l0) (hc0 : l0.length ≤ c0) (hr1 : Kd.C k53 w A1 l1.length l1) (hc1 : l1.length ≤ c1) (hr2_1 : Kd.C k24 w A2_1 l2_1.length l2_1) (hc2_1 : l2_1.length ≤ c2_1) (h : constablelaw04_SetsBoth.f k l0 l1 a2_0 l2_1 = some r) :
  Calls Try.prog 10 #[.slice A0 l0.length c0, .slice A1 l1.length c1, .agg #[.string a2_0, .slice A2_1 l2_1.length c2_1]] w fun e w' => e = .returned (.bool r) ∧ Below w.heap.size w w' := by
 have hu53 := Try.underlying53
 have HR0 := Aside0.mk hr0
 have HC0 := Aside0.mk hc0
 clear hr0 hc0
 have HR1 := Aside0.mk hr1
 have HC1 := Aside0.mk hc1
 clear hr1 hc1
 have HR2_1 := Aside0.mk hr2_1
 have HC2_1 := Aside0.mk hc2_1
 clear hr2_1 hc2_1
 have HB := Aside0.mk (Below.refl w.heap.size w)
 have H : ((constablelaw03_Many.f k l0).bind fun t622 => (if t622 = true then (some true) else ((constablelaw03_Many.f k l1).bind fun t623 => (if t623 = true then (some true) else ((constablelaw03_Heavy.f k a2_0 l2_1).bind fun t624 => (if t624 = true then (some true) else ((constableref01_Set.f k l0).bind fun t625 => (if t625 = true then ((constableref01_Set.f k l1).bind fun t626 => (if t626 = true then ((sets_Both.f l0 l1).bind fun bt627 => ((sets_Both.f l1 l0).bind fun bt631 => ((sets_Both.f l0 l0).bind fun bt635 => (if bt627.2 = 0 then (if bt631.2 = 0 then (if bt635.2 = 0 then ((constablekeep_Facts.f k bt627.1 bt631.1).bind fun t639 => (if t639 = true then ((constablekeep_Facts.f k bt635.1 l0).bind fun t640 => (if t640 = true then ((sets_Check.f k bt627.1).bind fun t641 => (if t641 = 0 then ((sets_Has.f bt627.1 a2_0 l2_1).bind fun t642 => ((sets_Has.f l0 a2_0 l2_1).bind fun t643 => (if t643 = true then (if (t642 == true) = true then ((constablelaw04_wakes.f).bind fun t644 => (some t644)) else (none)) else ((sets_Has.f l1 a2_0 l2_1).bind fun t645 => (if (t642 == t645) = true then ((constablelaw04_wakes.f).bind fun t646 => (some t646)) else (none)))))) else (none))) else (none))) else (none))) else (none)) else (none)) else (none))))) else (some true))) else (some true))))))))) = some r := h
 clear h
 replace H := Option.bind_eq_some_iff.mp H
 obtain ⟨t622, A40, H⟩ := H
 replace H : (if t622 = true then (some true) else ((constablelaw03_Many.f k l1).bind fun t623 => (if t623 = true then (some true) else ((constablelaw03_Heavy.f k a2_0 l2_1).bind fun t624 => (if t624 = true then (some true) else ((constableref01_Set.f k l0).bind fun t625 => (if t625 = true then ((constableref01_Set.f k l1).bind fun t626 => (if t626 = true then ((sets_Both.f l0 l1).bind fun bt627 => ((sets_Both.f l1 l0).bind fun bt631 => ((sets_Both.f l0 l0).bind fun bt635 => (if bt627.2 = 0 then (if bt631.2 = 0 then (if bt635.2 = 0 then ((constablekeep_Facts.f k bt627.1 bt631.1).bind fun t639 => (if t639 = true then ((constablekeep_Facts.f k bt635.1 l0).bind fun t640 => (if t640 = true then ((sets_Check.f k bt627.1).bind fun t641 => (if t641 = 0 then ((sets_Has.f bt627.1 a2_0 l2_1).bind fun t642 => ((sets_Has.f l0 a2_0 l2_1).bind fun t643 => (if t643 = true then (if (t642 == true) = true then ((constablelaw04_wakes.f).bind fun t644 => (some t644)) else (none)) else ((sets_Has.f l1 a2_0 l2_1).bind fun t645 => (if (t642 == t645) = true then ((constablelaw04_wakes.f).bind fun t646 => (some t646)) else (none)))))) else (none))) else (none))) else (none))) else (none)) else (none)) else (none))))) else (some true))) else (some true)))))))) = some r := H
 have A4 := Aside0.mk A40
 clear A40
 by_cases c5 : t622 = true
 ·subst c5
  have H1 : (some true) = some r := by rw [if_pos rfl] at H; exact H
  clear H
  have H := H1
  clear H1
  obtain rfl := Option.some.inj H
  go_enter Try.func10, Try.ntmps10
  go_wp2_with (first | ((with_reducible refine gate_dst (N := 5) rfl ?_); refine bE (N := 5) (cs := #[.string a2_0, .slice A2_1 l2_1.length c2_1]) (t := 53) ?_; intro gb621 hg w6 hbox hb; have n0_ := Aside0.mk (below_step bB0 hb); have n1_ := Aside0.mk (hbox); have n2_ := Aside0.mk ((by rw [hg]; exact (below_size bB0) : w.heap.size ≤ gb621)); have n3_ := Aside0.mk ((by rw [hg]; exact (below_size bB0) : w.heap.size ≤ gb621)); clear HB; have HB := n0_; have BK621 := n1_; have GW621 := n2_; have GE621 := n3_; clear n0_ n1_ n2_ n3_; clear hb hbox hg) | ((with_reducible refine gate_callee (f := 29) rfl ?_); refine goesL_ (some 14) rfl rfl Try.func29 (by kernel_rfl) rfl #[.slice A0 l0.length c0] rfl aG ?_; (with_reducible refine (constablelaw03_Many.calls k _ _ l0 true _ ?side1 ?side2 A4.out).mono ?_); (case side1 => exact sC (Kd.C_below HR0.out HB.out)); (case side2 => exact HC0.out); rintro e w7 ⟨rfl, hb⟩; refine ⟨_, rfl, ?_⟩; have n0_ := Aside0.mk (blk_below (g := gb621) (o := .cells #[.string a2_0, .slice A2_1 l2_1.length c2_1] 53 (0, 0)) (by refine bk ?_; exact BK621.out) hb); have n1_ := Aside0.mk (below_step (bB1 GE621.out) hb); clear BK621; clear HB; have BK621 := n0_; have HB := n1_; clear n0_ n1_; (try clear hb); (try clear hb2); (try clear hk); (try clear hi)))
  go_ret
  exact ⟨eW, (bB1 GE621.out)⟩
 ·replace c5 := Bool.eq_false_iff.mpr c5
  subst c5
  have H1 : ((constablelaw03_Many.f k l1).bind fun t623 => (if t623 = true then (some true) else ((constablelaw03_Heavy.f k a2_0 l2_1).bind fun t624 => (if t624 = true then (some true) else ((constableref01_Set.f k l0).bind fun t625 => (if t625 = true then ((constableref01_Set.f k l1).bind fun t626 => (if t626 = true then ((sets_Both.f l0 l1).bind fun bt627 => ((sets_Both.f l1 l0).bind fun bt631 => ((sets_Both.f l0 l0).bind fun bt635 => (if bt627.2 = 0 then (if bt631.2 = 0 then (if bt635.2 = 0 then ((constablekeep_Facts.f k bt627.1 bt631.1).bind fun t639 => (if t639 = true then ((constablekeep_Facts.f k bt635.1 l0).bind fun t640 => (if t640 = true then ((sets_Check.f k bt627.1).bind fun t641 => (if t641 = 0 then ((sets_Has.f bt627.1 a2_0 l2_1).bind fun t642 => ((sets_Has.f l0 a2_0 l2_1).bind fun t643 => (if t643 = true then (if (t642 == true) = true then ((constablelaw04_wakes.f).bind fun t644 => (some t644)) else (none)) else ((sets_Has.f l1 a2_0 l2_1).bind fun t645 => (if (t642 == t645) = true then ((constablelaw04_wakes.f).bind fun t646 => (some t646)) else (none)))))) else (none))) else (none))) else (none))) else (none)) else (none)) else (none))))) else (some true))) else (some true))))))) = some r := by rw [if_neg (show ¬ (false = true) by decide)] at H; exact H
  clear H
  have H := H1
  clear H1
  replace H := Option.bind_eq_some_iff.mp H
  obtain ⟨t623, A80, H⟩ := H
  replace H : (if t623 = true then (some true) else ((constablelaw03_Heavy.f k a2_0 l2_1).bind fun t624 => (if t624 = true then (some true) else ((constableref01_Set.f k l0).bind fun t625 => (if t625 = true then ((constableref01_Set.f k l1).bind fun t626 => (if t626 = true then ((sets_Both.f l0 l1).bind fun bt627 => ((sets_Both.f l1 l0).bind fun bt631 => ((sets_Both.f l0 l0).bind fun bt635 => (if bt627.2 = 0 then (if bt631.2 = 0 then (if bt635.2 = 0 then ((constablekeep_Facts.f k bt627.1 bt631.1).bind fun t639 => (if t639 = true then ((constablekeep_Facts.f k bt635.1 l0).bind fun t640 => (if t640 = true then ((sets_Check.f k bt627.1).bind fun t641 => (if t641 = 0 then ((sets_Has.f bt627.1 a2_0 l2_1).bind fun t642 => ((sets_Has.f l0 a2_0 l2_1).bind fun t643 => (if t643 = true then (if (t642 == true) = true then ((constablelaw04_wakes.f).bind fun t644 => (some t644)) else (none)) else ((sets_Has.f l1 a2_0 l2_1).bind fun t645 => (if (t642 == t645) = true then ((constablelaw04_wakes.f).bind fun t646 => (some t646)) else (none)))))) else (none))) else (none))) else (none))) else (none)) else (none)) else (none))))) else (some true))) else (some true)))))) = some r := H
  have A8 := Aside0.mk A80
  clear A80
  by_cases c9 : t623 = true
  ·subst c9
   have H1 : (some true) = some r := by rw [if_pos rfl] at H; exact H
   clear H
   have H := H1
   clear H1
   obtain rfl := Option.some.inj H
   go_enter Try.func10, Try.ntmps10
   go_wp2_with (first | ((with_reducible refine gate_dst (N := 5) rfl ?_); refine bE (N := 5) (cs := #[.string a2_0, .slice A2_1 l2_1.length c2_1]) (t := 53) ?_; intro gb621 hg w10 hbox hb; have n0_ := Aside0.mk (below_step bB0 hb); have n1_ := Aside0.mk (hbox); have n2_ := Aside0.mk ((by rw [hg]; exact (below_size bB0) : w.heap.size ≤ gb621)); have n3_ := Aside0.mk ((by rw [hg]; exact (below_size bB0) : w.heap.size ≤ gb621)); clear HB; have HB := n0_; have BK621 := n1_; have GW621 := n2_; have GE621 := n3_; clear n0_ n1_ n2_ n3_; clear hb hbox hg) | ((with_reducible refine gate_callee (f := 29) rfl ?_); refine goesL_ (some 14) rfl rfl Try.func29 (by kernel_rfl) rfl #[.slice A0 l0.length c0] rfl aG ?_; (with_reducible refine (constablelaw03_Many.calls k _ _ l0 false _ ?side1 ?side2 A4.out).mono ?_); (case side1 => exact sC (Kd.C_below HR0.out HB.out)); (case side2 => exact HC0.out); rintro e w11 ⟨rfl, hb⟩; refine ⟨_, rfl, ?_⟩; have n0_ := Aside0.mk (blk_below (g := gb621) (o := .cells #[.string a2_0, .slice A2_1 l2_1.length c2_1] 53 (0, 0)) (by refine bk ?_; exact BK621.out) hb); have n1_ := Aside0.mk (below_step (bB1 GE621.out) hb); clear BK621; clear HB; have BK621 := n0_; have HB := n1_; clear n0_ n1_; (try clear hb); (try clear hb2); (try clear hk); (try clear hi)) | (go_at_call 29; (with_reducible refine (constablelaw03_Many.calls k _ _ l1 true _ ?side1 ?side2 A8.out).mono ?_); (case side1 => exact sC (Kd.C_below HR1.out HB.out)); (case side2 => exact HC1.out); rintro e w12 ⟨rfl, hb⟩; have n0_ := Aside0.mk (blk_below (g := gb621) (o := .cells #[.string a2_0, .slice A2_1 l2_1.length c2_1] 53 (0, 0)) (by refine bk ?_; exact BK621.out) hb); have n1_ := Aside0.mk (below_step (bB1 GE621.out) hb); clear BK621; clear HB; have BK621 := n0_; have HB := n1_; clear n0_ n1_; (try clear hb); (try clear hb2); (try clear hk); (try clear hi)))
   go_ret
   exact ⟨eW, (bB1 GE621.out)⟩
  ·replace c9 := Bool.eq_false_iff.mpr c9
   subst c9
   have H1 : ((constablelaw03_Heavy.f k a2_0 l2_1).bind fun t624 => (if t624 = true then (some true) else ((constableref01_Set.f k l0).bind fun t625 => (if t625 = true then ((constableref01_Set.f k l1).bind fun t626 => (if t626 = true then ((sets_Both.f l0 l1).bind fun bt627 => ((sets_Both.f l1 l0).bind fun bt631 => ((sets_Both.f l0 l0).bind fun bt635 => (if bt627.2 = 0 then (if bt631.2 = 0 then (if bt635.2 = 0 then ((constablekeep_Facts.f k bt627.1 bt631.1).bind fun t639 => (if t639 = true then ((constablekeep_Facts.f k bt635.1 l0).bind fun t640 => (if t640 = true then ((sets_Check.f k bt627.1).bind fun t641 => (if t641 = 0 then ((sets_Has.f bt627.1 a2_0 l2_1).bind fun t642 => ((sets_Has.f l0 a2_0 l2_1).bind fun t643 => (if t643 = true then (if (t642 == true) = true then ((constablelaw04_wakes.f).bind fun t644 => (some t644)) else (none)) else ((sets_Has.f l1 a2_0 l2_1).bind fun t645 => (if (t642 == t645) = true then ((constablelaw04_wakes.f).bind fun t646 => (some t646)) else (none)))))) else (none))) else (none))) else (none))) else (none)) else (none)) else (none))))) else (some true))) else (some true))))) = some r := by rw [if_neg (show ¬ (false = true) by decide)] at H; exact H
   clear H
   have H := H1
   clear H1
   replace H := Option.bind_eq_some_iff.mp H
   obtain ⟨t624, A130, H⟩ := H
   replace H : (if t624 = true then (some true) else ((constableref01_Set.f k l0).bind fun t625 => (if t625 = true then ((constableref01_Set.f k l1).bind fun t626 => (if t626 = true then ((sets_Both.f l0 l1).bind fun bt627 => ((sets_Both.f l1 l0).bind fun bt631 => ((sets_Both.f l0 l0).bind fun bt635 => (if bt627.2 = 0 then (if bt631.2 = 0 then (if bt635.2 = 0 then ((constablekeep_Facts.f k bt627.1 bt631.1).bind fun t639 => (if t639 = true then ((constablekeep_Facts.f k bt635.1 l0).bind fun t640 => (if t640 = true then ((sets_Check.f k bt627.1).bind fun t641 => (if t641 = 0 then ((sets_Has.f bt627.1 a2_0 l2_1).bind fun t642 => ((sets_Has.f l0 a2_0 l2_1).bind fun t643 => (if t643 = true then (if (t642 == true) = true then ((constablelaw04_wakes.f).bind fun t644 => (some t644)) else (none)) else ((sets_Has.f l1 a2_0 l2_1).bind fun t645 => (if (t642 == t645) = true then ((constablelaw04_wakes.f).bind fun t646 => (some t646)) else (none)))))) else (none))) else (none))) else (none))) else (none)) else (none)) else (none))))) else (some true))) else (some true)))) = some r := H
   have A13 := Aside0.mk A130
   clear A130
   by_cases c14 : t624 = true
   ·subst c14
    have H1 : (some true) = some r := by rw [if_pos rfl] at H; exact H
    clear H
    have H := H1
    clear H1
    obtain rfl := Option.some.inj H
    go_enter Try.func10, Try.ntmps10
    go_wp2_with (first | ((with_reducible refine gate_dst (N := 5) rfl ?_); refine bE (N := 5) (cs := #[.string a2_0, .slice A2_1 l2_1.length c2_1]) (t := 53) ?_; intro gb621 hg w15 hbox hb; have n0_ := Aside0.mk (below_step bB0 hb); have n1_ := Aside0.mk (hbox); have n2_ := Aside0.mk ((by rw [hg]; exact (below_size bB0) : w.heap.size ≤ gb621)); have n3_ := Aside0.mk ((by rw [hg]; exact (below_size bB0) : w.heap.size ≤ gb621)); clear HB; have HB := n0_; have BK621 := n1_; have GW621 := n2_; have GE621 := n3_; clear n0_ n1_ n2_ n3_; clear hb hbox hg) | ((with_reducible refine gate_callee (f := 29) rfl ?_); refine goesL_ (some 14) rfl rfl Try.func29 (by kernel_rfl) rfl #[.slice A0 l0.length c0] rfl aG ?_; (with_reducible refine (constablelaw03_Many.calls k _ _ l0 false _ ?side1 ?side2 A4.out).mono ?_); (case side1 => exact sC (Kd.C_below HR0.out HB.out)); (case side2 => exact HC0.out); rintro e w16 ⟨rfl, hb⟩; refine ⟨_, rfl, ?_⟩; have n0_ := Aside0.mk (blk_below (g := gb621) (o := .cells #[.string a2_0, .slice A2_1 l2_1.length c2_1] 53 (0, 0)) (by refine bk ?_; exact BK621.out) hb); have n1_ := Aside0.mk (below_step (bB1 GE621.out) hb); clear BK621; clear HB; have BK621 := n0_; have HB := n1_; clear n0_ n1_; (try clear hb); (try clear hb2); (try clear hk); (try clear hi)) | (go_at_call 29; (with_reducible refine (constablelaw03_Many.calls k _ _ l1 false _ ?side1 ?side2 A8.out).mono ?_); (case side1 => exact sC (Kd.C_below HR1.out HB.out)); (case side2 => exact HC1.out); rintro e w17 ⟨rfl, hb⟩; have n0_ := Aside0.mk (blk_below (g := gb621) (o := .cells #[.string a2_0, .slice A2_1 l2_1.length c2_1] 53 (0, 0)) (by refine bk ?_; exact BK621.out) hb); have n1_ := Aside0.mk (below_step (bB1 GE621.out) hb); clear BK621; clear HB; have BK621 := n0_; have HB := n1_; clear n0_ n1_; (try clear hb); (try clear hb2); (try clear hk); (try clear hi); have hcz18_0 : w17.cell? ⟨gb621, 0, none⟩ = some (.string a2_0) := (blk_cell BK621.out 0).trans rfl; have hcz18_1 : w17.cell? ⟨gb621, 1, none⟩ = some (.slice A2_1 l2_1.length c2_1) := (blk_cell BK621.out 1).trans rfl; have hfz18_0 := blk_frozen BK621.out 0; have hfz18_1 := blk_frozen BK621.out 1) | (go_at_call 36; (with_reducible refine (constablelaw03_Heavy.calls k a2_0 _ _ l2_1 true _ ?side1 ?side2 A13.out).mono ?_); (case side1 => exact sC (Kd.C_below HR2_1.out HB.out)); (case side2 => exact HC2_1.out); rintro e w19 ⟨rfl, hb⟩; have n0_ := Aside0.mk (blk_below (g := gb621) (o := .cells #[.string a2_0, .slice A2_1 l2_1.length c2_1] 53 (0, 0)) (by refine bk ?_; exact BK621.out) hb); have n1_ := Aside0.mk (below_step (bB1 GE621.out) hb); clear BK621; clear HB; have BK621 := n0_; have HB := n1_; clear n0_ n1_; (try clear hb); (try clear hb2); (try clear hk); (try clear hi)))
    go_ret
    exact ⟨eW, (bB1 GE621.out)⟩
   ·replace c14 := Bool.eq_false_iff.mpr c14
    subst c14
    have H1 : ((constableref01_Set.f k l0).bind fun t625 => (if t625 = true then ((constableref01_Set.f k l1).bind fun t626 => (if t626 = true then ((sets_Both.f l0 l1).bind fun bt627 => ((sets_Both.f l1 l0).bind fun bt631 => ((sets_Both.f l0 l0).bind fun bt635 => (if bt627.2 = 0 then (if bt631.2 = 0 then (if bt635.2 = 0 then ((constablekeep_Facts.f k bt627.1 bt631.1).bind fun t639 => (if t639 = true then ((constablekeep_Facts.f k bt635.1 l0).bind fun t640 => (if t640 = true then ((sets_Check.f k bt627.1).bind fun t641 => (if t641 = 0 then ((sets_Has.f bt627.1 a2_0 l2_1).bind fun t642 => ((sets_Has.f l0 a2_0 l2_1).bind fun t643 => (if t643 = true then (if (t642 == true) = true then ((constablelaw04_wakes.f).bind fun t644 => (some t644)) else (none)) else ((sets_Has.f l1 a2_0 l2_1).bind fun t645 => (if (t642 == t645) = true then ((constablelaw04_wakes.f).bind fun t646 => (some t646)) else (none)))))) else (none))) else (none))) else (none))) else (none)) else (none)) else (none))))) else (some true))) else (some true))) = some r := by rw [if_neg (show ¬ (false = true) by decide)] at H; exact H
    clear H
    have H := H1
    clear H1
    replace H := Option.bind_eq_some_iff.mp H
    obtain ⟨t625, A200, H⟩ := H
    replace H : (if t625 = true then ((constableref01_Set.f k l1).bind fun t626 => (if t626 = true then ((sets_Both.f l0 l1).bind fun bt627 => ((sets_Both.f l1 l0).bind fun bt631 => ((sets_Both.f l0 l0).bind fun bt635 => (if bt627.2 = 0 then (if bt631.2 = 0 then (if bt635.2 = 0 then ((constablekeep_Facts.f k bt627.1 bt631.1).bind fun t639 => (if t639 = true then ((constablekeep_Facts.f k bt635.1 l0).bind fun t640 => (if t640 = true then ((sets_Check.f k bt627.1).bind fun t641 => (if t641 = 0 then ((sets_Has.f bt627.1 a2_0 l2_1).bind fun t642 => ((sets_Has.f l0 a2_0 l2_1).bind fun t643 => (if t643 = true then (if (t642 == true) = true then ((constablelaw04_wakes.f).bind fun t644 => (some t644)) else (none)) else ((sets_Has.f l1 a2_0 l2_1).bind fun t645 => (if (t642 == t645) = true then ((constablelaw04_wakes.f).bind fun t646 => (some t646)) else (none)))))) else (none))) else (none))) else (none))) else (none)) else (none)) else (none))))) else (some true))) else (some true)) = some r := H
    have A20 := Aside0.mk A200
    clear A200
    by_cases c21 : t625 = true
    ·subst c21
     have H1 : ((constableref01_Set.f k l1).bind fun t626 => (if t626 = true then ((sets_Both.f l0 l1).bind fun bt627 => ((sets_Both.f l1 l0).bind fun bt631 => ((sets_Both.f l0 l0).bind fun bt635 => (if bt627.2 = 0 then (if bt631.2 = 0 then (if bt635.2 = 0 then ((constablekeep_Facts.f k bt627.1 bt631.1).bind fun t639 => (if t639 = true then ((constablekeep_Facts.f k bt635.1 l0).bind fun t640 => (if t640 = true then ((sets_Check.f k bt627.1).bind fun t641 => (if t641 = 0 then ((sets_Has.f bt627.1 a2_0 l2_1).bind fun t642 => ((sets_Has.f l0 a2_0 l2_1).bind fun t643 => (if t643 = true then (if (t642 == true) = true then ((constablelaw04_wakes.f).bind fun t644 => (some t644)) else (none)) else ((sets_Has.f l1 a2_0 l2_1).bind fun t645 => (if (t642 == t645) = true then ((constablelaw04_wakes.f).bind fun t646 => (some t646)) else (none)))))) else (none))) else (none))) else (none))) else (none)) else (none)) else (none))))) else (some true))) = some r := by rw [if_pos rfl] at H; exact H
     clear H
     have H := H1
     clear H1
     replace H := Option.bind_eq_some_iff.mp H
     obtain ⟨t626, A220, H⟩ := H
     replace H : (if t626 = true then ((sets_Both.f l0 l1).bind fun bt627 => ((sets_Both.f l1 l0).bind fun bt631 => ((sets_Both.f l0 l0).bind fun bt635 => (if bt627.2 = 0 then (if bt631.2 = 0 then (if bt635.2 = 0 then ((constablekeep_Facts.f k bt627.1 bt631.1).bind fun t639 => (if t639 = true then ((constablekeep_Facts.f k bt635.1 l0).bind fun t640 => (if t640 = true then ((sets_Check.f k bt627.1).bind fun t641 => (if t641 = 0 then ((sets_Has.f bt627.1 a2_0 l2_1).bind fun t642 => ((sets_Has.f l0 a2_0 l2_1).bind fun t643 => (if t643 = true then (if (t642 == true) = true then ((constablelaw04_wakes.f).bind fun t644 => (some t644)) else (none)) else ((sets_Has.f l1 a2_0 l2_1).bind fun t645 => (if (t642 == t645) = true then ((constablelaw04_wakes.f).bind fun t646 => (some t646)) else (none)))))) else (none))) else (none))) else (none))) else (none)) else (none)) else (none))))) else (some true)) = some r := H
     have A22 := Aside0.mk A220
     clear A220
     by_cases c23 : t626 = true
     ·subst c23
      have H1 : ((sets_Both.f l0 l1).bind fun bt627 => ((sets_Both.f l1 l0).bind fun bt631 => ((sets_Both.f l0 l0).bind fun bt635 => (if bt627.2 = 0 then (if bt631.2 = 0 then (if bt635.2 = 0 then ((constablekeep_Facts.f k bt627.1 bt631.1).bind fun t639 => (if t639 = true then ((constablekeep_Facts.f k bt635.1 l0).bind fun t640 => (if t640 = true then ((sets_Check.f k bt627.1).bind fun t641 => (if t641 = 0 then ((sets_Has.f bt627.1 a2_0 l2_1).bind fun t642 => ((sets_Has.f l0 a2_0 l2_1).bind fun t643 => (if t643 = true then (if (t642 == true) = true then ((constablelaw04_wakes.f).bind fun t644 => (some t644)) else (none)) else ((sets_Has.f l1 a2_0 l2_1).bind fun t645 => (if (t642 == t645) = true then ((constablelaw04_wakes.f).bind fun t646 => (some t646)) else (none)))))) else (none))) else (none))) else (none))) else (none)) else (none)) else (none))))) = some r := by rw [if_pos rfl] at H; exact H
      clear H
      have H := H1
      clear H1
      replace H := Option.bind_eq_some_iff.mp H
      obtain ⟨⟨t627, t628⟩, A240, H⟩ := H
      replace H : ((sets_Both.f l1 l0).bind fun bt631 => ((sets_Both.f l0 l0).bind fun bt635 => (if t628 = 0 then (if bt631.2 = 0 then (if bt635.2 = 0 then ((constablekeep_Facts.f k t627 bt631.1).bind fun t639 => (if t639 = true then ((constablekeep_Facts.f k bt635.1 l0).bind fun t640 => (if t640 = true then ((sets_Check.f k t627).bind fun t641 => (if t641 = 0 then ((sets_Has.f t627 a2_0 l2_1).bind fun t642 => ((sets_Has.f l0 a2_0 l2_1).bind fun t643 => (if t643 = true then (if (t642 == true) = true then ((constablelaw04_wakes.f).bind fun t644 => (some t644)) else (none)) else ((sets_Has.f l1 a2_0 l2_1).bind fun t645 => (if (t642 == t645) = true then ((constablelaw04_wakes.f).bind fun t646 => (some t646)) else (none)))))) else (none))) else (none))) else (none))) else (none)) else (none)) else (none)))) = some r := H
      have A24 := Aside0.mk A240
      clear A240
      replace H := Option.bind_eq_some_iff.mp H
      obtain ⟨⟨t631, t632⟩, A250, H⟩ := H
      replace H : ((sets_Both.f l0 l0).bind fun bt635 => (if t628 = 0 then (if t632 = 0 then (if bt635.2 = 0 then ((constablekeep_Facts.f k t627 t631).bind fun t639 => (if t639 = true then ((constablekeep_Facts.f k bt635.1 l0).bind fun t640 => (if t640 = true then ((sets_Check.f k t627).bind fun t641 => (if t641 = 0 then ((sets_Has.f t627 a2_0 l2_1).bind fun t642 => ((sets_Has.f l0 a2_0 l2_1).bind fun t643 => (if t643 = true then (if (t642 == true) = true then ((constablelaw04_wakes.f).bind fun t644 => (some t644)) else (none)) else ((sets_Has.f l1 a2_0 l2_1).bind fun t645 => (if (t642 == t645) = true then ((constablelaw04_wakes.f).bind fun t646 => (some t646)) else (none)))))) else (none))) else (none))) else (none))) else (none)) else (none)) else (none))) = some r := H
      have A25 := Aside0.mk A250
      clear A250
      replace H := Option.bind_eq_some_iff.mp H
      obtain ⟨⟨t635, t636⟩, A260, H⟩ := H
      replace H : (if t628 = 0 then (if t632 = 0 then (if t636 = 0 then ((constablekeep_Facts.f k t627 t631).bind fun t639 => (if t639 = true then ((constablekeep_Facts.f k t635 l0).bind fun t640 => (if t640 = true then ((sets_Check.f k t627).bind fun t641 => (if t641 = 0 then ((sets_Has.f t627 a2_0 l2_1).bind fun t642 => ((sets_Has.f l0 a2_0 l2_1).bind fun t643 => (if t643 = true then (if (t642 == true) = true then ((constablelaw04_wakes.f).bind fun t644 => (some t644)) else (none)) else ((sets_Has.f l1 a2_0 l2_1).bind fun t645 => (if (t642 == t645) = true then ((constablelaw04_wakes.f).bind fun t646 => (some t646)) else (none)))))) else (none))) else (none))) else (none))) else (none)) else (none)) else (none)) = some r := H
      have A26 := Aside0.mk A260
      clear A260
      by_cases c27 : t628 = 0
      ·rw [if_pos c27] at H
       have c27b0 : (t628 == 0) = true := beq_iff_eq.mpr c27
       have c27b1 : (t628 != 0) = false := bne_eq_false_iff_eq.mpr c27
       clear c27
       by_cases c28 : t632 = 0
       ·rw [if_pos c28] at H
        have c28b0 : (t632 == 0) = true := beq_iff_eq.mpr c28
        have c28b1 : (t632 != 0) = false := bne_eq_false_iff_eq.mpr c28
        clear c28
        by_cases c29 : t636 = 0
        ·rw [if_pos c29] at H
         have c29b0 : (t636 == 0) = true := beq_iff_eq.mpr c29
         have c29b1 : (t636 != 0) = false := bne_eq_false_iff_eq.mpr c29
         clear c29
         replace H := Option.bind_eq_some_iff.mp H
         obtain ⟨t639, A300, H⟩ := H
         replace H : (if t639 = true then ((constablekeep_Facts.f k t635 l0).bind fun t640 => (if t640 = true then ((sets_Check.f k t627).bind fun t641 => (if t641 = 0 then ((sets_Has.f t627 a2_0 l2_1).bind fun t642 => ((sets_Has.f l0 a2_0 l2_1).bind fun t643 => (if t643 = true then (if (t642 == true) = true then ((constablelaw04_wakes.f).bind fun t644 => (some t644)) else (none)) else ((sets_Has.f l1 a2_0 l2_1).bind fun t645 => (if (t642 == t645) = true then ((constablelaw04_wakes.f).bind fun t646 => (some t646)) else (none)))))) else (none))) else (none))) else (none)) = some r := H
         have A30 := Aside0.mk A300
         clear A300
         by_cases c31 : t639 = true
         ·subst c31
          have H1 : ((constablekeep_Facts.f k t635 l0).bind fun t640 => (if t640 = true then ((sets_Check.f k t627).bind fun t641 => (if t641 = 0 then ((sets_Has.f t627 a2_0 l2_1).bind fun t642 => ((sets_Has.f l0 a2_0 l2_1).bind fun t643 => (if t643 = true then (if (t642 == true) = true then ((constablelaw04_wakes.f).bind fun t644 => (some t644)) else (none)) else ((sets_Has.f l1 a2_0 l2_1).bind fun t645 => (if (t642 == t645) = true then ((constablelaw04_wakes.f).bind fun t646 => (some t646)) else (none)))))) else (none))) else (none))) = some r := by rw [if_pos rfl] at H; exact H
          clear H
          have H := H1
          clear H1
          replace H := Option.bind_eq_some_iff.mp H
          obtain ⟨t640, A320, H⟩ := H
          replace H : (if t640 = true then ((sets_Check.f k t627).bind fun t641 => (if t641 = 0 then ((sets_Has.f t627 a2_0 l2_1).bind fun t642 => ((sets_Has.f l0 a2_0 l2_1).bind fun t643 => (if t643 = true then (if (t642 == true) = true then ((constablelaw04_wakes.f).bind fun t644 => (some t644)) else (none)) else ((sets_Has.f l1 a2_0 l2_1).bind fun t645 => (if (t642 == t645) = true then ((constablelaw04_wakes.f).bind fun t646 => (some t646)) else (none)))))) else (none))) else (none)) = some r := H
          have A32 := Aside0.mk A320
          clear A320
          by_cases c33 : t640 = true
          ·subst c33
           have H1 : ((sets_Check.f k t627).bind fun t641 => (if t641 = 0 then ((sets_Has.f t627 a2_0 l2_1).bind fun t642 => ((sets_Has.f l0 a2_0 l2_1).bind fun t643 => (if t643 = true then (if (t642 == true) = true then ((constablelaw04_wakes.f).bind fun t644 => (some t644)) else (none)) else ((sets_Has.f l1 a2_0 l2_1).bind fun t645 => (if (t642 == t645) = true then ((constablelaw04_wakes.f).bind fun t646 => (some t646)) else (none)))))) else (none))) = some r := by rw [if_pos rfl] at H; exact H
           clear H
           have H := H1
           clear H1
           replace H := Option.bind_eq_some_iff.mp H
           obtain ⟨t641, A340, H⟩ := H
           replace H : (if t641 = 0 then ((sets_Has.f t627 a2_0 l2_1).bind fun t642 => ((sets_Has.f l0 a2_0 l2_1).bind fun t643 => (if t643 = true then (if (t642 == true) = true then ((constablelaw04_wakes.f).bind fun t644 => (some t644)) else (none)) else ((sets_Has.f l1 a2_0 l2_1).bind fun t645 => (if (t642 == t645) = true then ((constablelaw04_wakes.f).bind fun t646 => (some t646)) else (none)))))) else (none)) = some r := H
           have A34 := Aside0.mk A340
           clear A340
           by_cases c35 : t641 = 0
           ·rw [if_pos c35] at H
            have c35b0 : (t641 == 0) = true := beq_iff_eq.mpr c35
            have c35b1 : (t641 != 0) = false := bne_eq_false_iff_eq.mpr c35
            clear c35
            replace H := Option.bind_eq_some_iff.mp H
            obtain ⟨t642, A360, H⟩ := H
            replace H : ((sets_Has.f l0 a2_0 l2_1).bind fun t643 => (if t643 = true then (if (t642 == true) = true then ((constablelaw04_wakes.f).bind fun t644 => (some t644)) else (none)) else ((sets_Has.f l1 a2_0 l2_1).bind fun t645 => (if (t642 == t645) = true then ((constablelaw04_wakes.f).bind fun t646 => (some t646)) else (none))))) = some r := H
            have A36 := Aside0.mk A360
            clear A360
            replace H := Option.bind_eq_some_iff.mp H
            obtain ⟨t643, A370, H⟩ := H
            replace H : (if t643 = true then (if (t642 == true) = true then ((constablelaw04_wakes.f).bind fun t644 => (some t644)) else (none)) else ((sets_Has.f l1 a2_0 l2_1).bind fun t645 => (if (t642 == t645) = true then ((constablelaw04_wakes.f).bind fun t646 => (some t646)) else (none)))) = some r := H
            have A37 := Aside0.mk A370
            clear A370
            by_cases c38 : t643 = true
            ·subst c38
             have H1 : (if (t642 == true) = true then ((constablelaw04_wakes.f).bind fun t644 => (some t644)) else (none)) = some r := by rw [if_pos rfl] at H; exact H
             clear H
             have H := H1
             clear H1
             by_cases c39 : (t642 == true) = true
             ·rw [if_pos c39] at H
              have c39b0 : (t642 == true) = true := c39
              (try (have c39b1 : decide (t642 = true) = true := by simpa using c39))
              (try (have c39b2 : (t642 == true) = true := by simpa using c39))
              clear c39
              replace H := Option.bind_eq_some_iff.mp H
              obtain ⟨t644, A400, H⟩ := H
              replace H : (some t644) = some r := H
              have A40 := Aside0.mk A400
              clear A400
              obtain rfl := Option.some.inj H
              go_enter Try.func10, Try.ntmps10
              try go_wp2_with (first | ((with_reducible refine gate_dst (N := 5) rfl ?_); refine bE (N := 5) (cs := #[.string a2_0, .slice A2_1 l2_1.length c2_1]) (t := 53) ?_; intro gb621 hg w41 hbox hb; have n0_ := Aside0.mk (below_step bB0 hb); have n1_ := Aside0.mk (hbox); have n2_ := Aside0.mk ((by rw [hg]; exact (below_size bB0) : w.heap.size ≤ gb621)); have n3_ := Aside0.mk ((by rw [hg]; exact (below_size bB0) : w.heap.size ≤ gb621)); clear HB; have HB := n0_; have BK621 := n1_; have GW621 := n2_; have GE621 := n3_; clear n0_ n1_ n2_ n3_; clear hb hbox hg) | ((with_reducible refine gate_callee (f := 29) rfl ?_); refine goesL_ (some 14) rfl rfl Try.func29 (by kernel_rfl) rfl #[.slice A0 l0.length c0] rfl aG ?_; (with_reducible refine (constablelaw03_Many.calls k _ _ l0 false _ ?side1 ?side2 A4.out).mono ?_); (case side1 => exact sC (Kd.C_below HR0.out HB.out)); (case side2 => exact HC0.out); rintro e w42 ⟨rfl, hb⟩; refine ⟨_, rfl, ?_⟩; have n0_ := Aside0.mk (blk_below (g := gb621) (o := .cells #[.string a2_0, .slice A2_1 l2_1.length c2_1] 53 (0, 0)) (by refine bk ?_; exact BK621.out) hb); have n1_ := Aside0.mk (below_step (bB1 GE621.out) hb); clear BK621; clear HB; have BK621 := n0_; have HB := n1_; clear n0_ n1_; (try clear hb); (try clear hb2); (try clear hk); (try clear hi)) | (go_at_call 29; (with_reducible refine (constablelaw03_Many.calls k _ _ l1 false _ ?side1 ?side2 A8.out).mono ?_); (case side1 => exact sC (Kd.C_below HR1.out HB.out)); (case side2 => exact HC1.out); rintro e w43 ⟨rfl, hb⟩; have n0_ := Aside0.mk (blk_below (g := gb621) (o := .cells #[.string a2_0, .slice A2_1 l2_1.length c2_1] 53 (0, 0)) (by refine bk ?_; exact BK621.out) hb); have n1_ := Aside0.mk (below_step (bB1 GE621.out) hb); clear BK621; clear HB; have BK621 := n0_; have HB := n1_; clear n0_ n1_; (try clear hb); (try clear hb2); (try clear hk); (try clear hi); have hcz44_0 : w43.cell? ⟨gb621, 0, none⟩ = some (.string a2_0) := (blk_cell BK621.out 0).trans rfl; have hcz44_1 : w43.cell? ⟨gb621, 1, none⟩ = some (.slice A2_1 l2_1.length c2_1) := (blk_cell BK621.out 1).trans rfl; have hfz44_0 := blk_frozen BK621.out 0; have hfz44_1 := blk_frozen BK621.out 1) | (go_at_call 36; (with_reducible refine (constablelaw03_Heavy.calls k a2_0 _ _ l2_1 false _ ?side1 ?side2 A13.out).mono ?_); (case side1 => exact sC (Kd.C_below HR2_1.out HB.out)); (case side2 => exact HC2_1.out); rintro e w45 ⟨rfl, hb⟩; have n0_ := Aside0.mk (blk_below (g := gb621) (o := .cells #[.string a2_0, .slice A2_1 l2_1.length c2_1] 53 (0, 0)) (by refine bk ?_; exact BK621.out) hb); have n1_ := Aside0.mk (below_step (bB1 GE621.out) hb); clear BK621; clear HB; have BK621 := n0_; have HB := n1_; clear n0_ n1_; (try clear hb); (try clear hb2); (try clear hk); (try clear hi)) | (go_at_call 37; (with_reducible refine (constableref01_Set.calls k _ _ l0 true _ ?side1 ?side2 A20.out).mono ?_); (case side1 => exact sC (Kd.C_below HR0.out HB.out)); (case side2 => exact HC0.out); rintro e w46 ⟨rfl, hb⟩; have n0_ := Aside0.mk (blk_below (g := gb621) (o := .cells #[.string a2_0, .slice A2_1 l2_1.length c2_1] 53 (0, 0)) (by refine bk ?_; exact BK621.out) hb); have n1_ := Aside0.mk (below_step (bB1 GE621.out) hb); clear BK621; clear HB; have BK621 := n0_; have HB := n1_; clear n0_ n1_; (try clear hb); (try clear hb2); (try clear hk); (try clear hi)) | (go_at_call 37; (with_reducible refine (constableref01_Set.calls k _ _ l1 true _ ?side1 ?side2 A22.out).mono ?_); (case side1 => exact sC (Kd.C_below HR1.out HB.out)); (case side2 => exact HC1.out); rintro e w47 ⟨rfl, hb⟩; have n0_ := Aside0.mk (blk_below (g := gb621) (o := .cells #[.string a2_0, .slice A2_1 l2_1.length c2_1] 53 (0, 0)) (by refine bk ?_; exact BK621.out) hb); have n1_ := Aside0.mk (below_step (bB1 GE621.out) hb); clear BK621; clear HB; have BK621 := n0_; have HB := n1_; clear n0_ n1_; (try clear hb); (try clear hb2); (try clear hk); (try clear hi)) | ((with_reducible refine gate_callee (f := 42) rfl ?_); refine goesL_ (some 36) rfl rfl Try.func42 (by kernel_rfl) rfl #[.slice A0 l0.length c0, .slice A1 l1.length c1] rfl aG ?_; (with_reducible refine (sets_Both.calls _ _ l0 _ _ l1 t627 t628 _ ?side1 ?side2 ?side3 ?side4 A24.out).mono ?_); (case side1 => exact sC (Kd.C_below HR0.out HB.out)); (case side2 => exact HC0.out); (case side3 => exact sC (Kd.C_below HR1.out HB.out)); (case side4 => exact HC1.out); rintro e w48 ⟨v629, rfl, ho0, hb⟩; refine ⟨_, rfl, ?_⟩; have n0_ := Aside0.mk (Kd.S_lower (Kd.S_newB ho0 (g := gb621) (o := .cells #[.string a2_0, .slice A2_1 l2_1.length c2_1] 53 (0, 0)) (by refine bk ?_; exact BK621.out)) (below_size (bB1 GE621.out))); have n1_ := Aside0.mk (blk_below (g := gb621) (o := .cells #[.string a2_0, .slice A2_1 l2_1.length c2_1] 53 (0, 0)) (by refine bk ?_; exact BK621.out) hb); have n2_ := Aside0.mk (below_step (bB1 GE621.out) hb); clear BK621; clear HB; have HO630 := n0_; have BK621 := n1_; have HB := n2_; clear n0_ n1_ n2_; (try clear hb); (try clear hb2); (try clear hk); (try clear hi); (try clear ho0)) | ((with_reducible refine gate_callee (f := 42) rfl ?_); refine goesL_ (some 42) rfl rfl Try.func42 (by kernel_rfl) rfl #[.slice A1 l1.length c1, .slice A0 l0.length c0] rfl aG ?_; (with_reducible refine (sets_Both.calls _ _ l1 _ _ l0 t631 t632 _ ?side1 ?side2 ?side3 ?side4 A25.out).mono ?_); (case side1 => exact sC (Kd.C_below HR1.out HB.out)); (case side2 => exact HC1.out); (case side3 => exact sC (Kd.C_below HR0.out HB.out)); (case side4 => exact HC0.out); rintro e w49 ⟨v633, rfl, ho0, hb⟩; refine ⟨_, rfl, ?_⟩; have n0_ := Aside0.mk (Kd.S_elder' (by (with_reducible repeat (first | apply Kd.S_alloc | apply Kd.S_drewN | apply Kd.S_drew)); exact HO630.out) (Kd.S_base ho0) hb); have n1_ := Aside0.mk (Kd.S_lower (Kd.S_newB (Kd.S_new' ho0 (Kd.S_lt (by (with_reducible repeat (first | apply Kd.S_alloc | apply Kd.S_drewN | apply Kd.S_drew)); exact HO630.out))) (g := gb621) (o := .cells #[.string a2_0, .slice A2_1 l2_1.length c2_1] 53 (0, 0)) (by refine bk ?_; exact BK621.out)) (below_size (bB1 GE621.out))); have n2_ := Aside0.mk (blk_below (g := gb621) (o := .cells #[.string a2_0, .slice A2_1 l2_1.length c2_1] 53 (0, 0)) (by refine bk ?_; exact BK621.out) hb); have n3_ := Aside0.mk (below_step (bB1 GE621.out) hb); clear HO630; clear BK621; clear HB; have HO630 := n0_; have HO634 := n1_; have BK621 := n2_; have HB := n3_; clear n0_ n1_ n2_ n3_; (try clear hb); (try clear hb2); (try clear hk); (try clear hi); (try clear ho0)) | ((with_reducible refine gate_callee (f := 42) rfl ?_); refine goesL_ (some 48) rfl rfl Try.func42 (by kernel_rfl) rfl #[.slice A0 l0.length c0, .slice A0 l0.length c0] rfl aG ?_; (with_reducible refine (sets_Both.calls _ _ l0 _ _ l0 t635 t636 _ ?side1 ?side2 ?side3 ?side4 A26.out).mono ?_); (case side1 => exact sC (Kd.C_below HR0.out HB.out)); (case side2 => exact HC0.out); (case side3 => exact sC (Kd.C_below HR0.out HB.out)); (case side4 => exact HC0.out); rintro e w50 ⟨v637, rfl, ho0, hb⟩; refine ⟨_, rfl, ?_⟩; have n0_ := Aside0.mk (Kd.S_elder' (by (with_reducible repeat (first | apply Kd.S_alloc | apply Kd.S_drewN | apply Kd.S_drew)); exact HO630.out) (Kd.S_base ho0) hb); have n1_ := Aside0.mk (Kd.S_elder' (by (with_reducible repeat (first | apply Kd.S_alloc | apply Kd.S_drewN | apply Kd.S_drew)); exact HO634.out) (Kd.S_base ho0) hb); have n2_ := Aside0.mk (Kd.S_lower (Kd.S_newB (Kd.S_new' (Kd.S_new' ho0 (Kd.S_lt (by (with_reducible repeat (first | apply Kd.S_alloc | apply Kd.S_drewN | apply Kd.S_drew)); exact HO630.out))) (Kd.S_lt (by (with_reducible repeat (first | apply Kd.S_alloc | apply Kd.S_drewN | apply Kd.S_drew)); exact HO634.out))) (g := gb621) (o := .cells #[.string a2_0, .slice A2_1 l2_1.length c2_1] 53 (0, 0)) (by refine bk ?_; exact BK621.out)) (below_size (bB1 GE621.out))); have n3_ := Aside0.mk (blk_below (g := gb621) (o := .cells #[.string a2_0, .slice A2_1 l2_1.length c2_1] 53 (0, 0)) (by refine bk ?_; exact BK621.out) hb); have n4_ := Aside0.mk (below_step (bB1 GE621.out) hb); clear HO630; clear HO634; clear BK621; clear HB; have HO630 := n0_; have HO634 := n1_; have HO638 := n2_; have BK621 := n3_; have HB := n4_; clear n0_ n1_ n2_ n3_ n4_; (try clear hb); (try clear hb2); (try clear hk); (try clear hi); (try clear ho0)))
              have n0_ := Aside0.mk (Kd.S_drew HO630.out)
              have n1_ := Aside0.mk (Kd.S_drew HO634.out)
              have n2_ := Aside0.mk (Kd.S_drew HO638.out)
              have n3_ := Aside0.mk (blk_drew BK621.out)
              have n4_ := Aside0.mk (below_drew1 HB.out)
              clear HO630
              clear HO634
              clear HO638
              clear BK621
              clear HB
              have HO630 := n0_
              have HO634 := n1_
              have HO638 := n2_
              have BK621 := n3_
              have HB := n4_
              clear n0_ n1_ n2_ n3_ n4_
              obtain ⟨Ao52, co52, eo52⟩ := Kd.S_slice HO630.out
              (first | subst eo52 | (injection eo52 with f1_ f2_ f3_; have f4_ := f1_.symm; have f5_ := f3_.symm; clear f1_ f2_ f3_; subst f4_; subst f5_))
              obtain ⟨Ao53, co53, eo53⟩ := Kd.S_slice HO634.out
              (first | subst eo53 | (injection eo53 with f1_ f2_ f3_; have f4_ := f1_.symm; have f5_ := f3_.symm; clear f1_ f2_ f3_; subst f4_; subst f5_))
              refine start_ (n := 43) (S := fun w' => w'.cell? ⟨gb621, 0, none⟩ = some (.string a2_0) ∧ w'.cell? ⟨gb621, 1, none⟩ = some (.slice A2_1 l2_1.length c2_1)) (ds := []) #[false, false, false, false, false, false, false, false, false, false, false, false, false, false, false, false, false, false, false, false, false, false, false, false, false, false, false, false, false, false, false, false, false, false, false, false, false, false, false, false, false, false, false] (by kernel_rfl) rfl rfl ⟨(blk_cell BK621.out 0).trans rfl, (blk_cell BK621.out 1).trans rfl⟩ (fun hHeld => ?_); refine with_tabW constablelaw04_SetsBoth.tab6 constablelaw04_SetsBoth.bits6 (fun HT_ HW_ => ?_)
              generalize w50.drew = w51 at HO630 HO634 HO638 BK621 HB hHeld ⊢
              refine pQ (i := 0) (N := some 51) (bb 43 1) ?_
              refine pQ (i := 1) (N := some 52) (bb 43 3) ?_
              refine pQ (i := 2) (N := some 53) (bb 43 7) ?_
              refine pQ (i := 3) (N := some 54) (bb 43 15) ?_
              refine pQ (i := 4) (N := some 55) (bb 43 31) ?_
              refine pQ (i := 5) (N := some 56) (bb 43 63) ?_
              refine pQ (i := 6) (N := some 57) (bb 43 127) ?_
              refine pQ (i := 7) (N := some 58) (bb 43 255) ?_
              refine pQ (i := 8) (N := some 59) (bb 43 511) ?_
              refine pQ (i := 9) (N := some 60) (bb 43 1023) ?_
              refine pQ (i := 10) (N := some 61) (bb 43 2047) ?_
              refine pQ (i := 11) (N := some 62) (bb 43 4095) ?_
              refine pQ (i := 12) (N := some 63) (bb 43 8191) ?_
              refine one_ (i := 13) (N := some 64) (bb 43 16383) rfl rfl (one_of HT_.out (by kernel_rfl)) (by decide) (fun K hK => ?_)
              refine goes_ Try.func34 (by kernel_rfl) rfl #[.slice Ao52 t627.length co52, .slice Ao53 t631.length co53] (by rfl) rfl rfl aG ?_
              with_reducible refine (constablekeep_Facts.calls k _ _ t627 _ _ t631 true _ ?side1 ?side2 ?side3 ?side4 A30.out).mono ?_
              (case side1 => exact sC (Kd.S_reads' HO630.out).2.2)
              (case side2 => exact (Kd.S_reads' HO630.out).2.1)
              (case side3 => exact sC (Kd.S_reads' HO634.out).2.2)
              (case side4 => exact (Kd.S_reads' HO634.out).2.1)
              rintro e w54 ⟨rfl, hb⟩
              refine ⟨_, rfl, ?_⟩
              have n0_ := Aside0.mk (Kd.S_below (by (with_reducible repeat (first | apply Kd.S_alloc | apply Kd.S_drewN | apply Kd.S_drew)); exact HO630.out) hb)
              have n1_ := Aside0.mk (Kd.S_below (by (with_reducible repeat (first | apply Kd.S_alloc | apply Kd.S_drewN | apply Kd.S_drew)); exact HO634.out) hb)
              have n2_ := Aside0.mk (Kd.S_below (by (with_reducible repeat (first | apply Kd.S_alloc | apply Kd.S_drewN | apply Kd.S_drew)); exact HO638.out) hb)
              have n3_ := Aside0.mk (blk_below (g := gb621) (o := .cells #[.string a2_0, .slice A2_1 l2_1.length c2_1] 53 (0, 0)) (by refine bk ?_; exact BK621.out) hb)
              have n4_ := Aside0.mk (below_step (bB1 GE621.out) hb)
              clear HO630
              clear HO634
              clear HO638
              clear BK621
              clear HB
              have HO630 := n0_
              have HO634 := n1_
              have HO638 := n2_
              have BK621 := n3_
              have HB := n4_
              clear n0_ n1_ n2_ n3_ n4_
              (try clear hb)
              (try clear hb2)
              (try clear hk)
              (try clear hi)
              obtain ⟨Ao55, co55, eo55⟩ := Kd.S_slice HO638.out
              (first | subst eo55 | (injection eo55 with f1_ f2_ f3_; have f4_ := f1_.symm; have f5_ := f3_.symm; clear f1_ f2_ f3_; subst f4_; subst f5_))
              refine hK.out _ _ ⟨(blk_cell BK621.out 0).trans rfl, (blk_cell BK621.out 1).trans rfl⟩ (fun hHeld => ?_)
              clear hK K
              refine norm_ (a' := ?_) ?_ ?_
              rotate_left
              ·show Act.put _ (some 64) _ = _
               simp only [Act.put, List.setIfInBounds_toArray, List.set_cons_zero, List.set_cons_succ, i64_w, i32_w]
               rfl
              refine pQ (i := 14) (N := some 65) (bb 43 32767) ?_
              refine pQ (i := 15) (N := some 66) (bb 43 65535) ?_
              refine pQ (i := 16) (N := some 67) (bb 43 131071) ?_
              refine pQ (i := 17) (N := some 68) (bb 43 262143) ?_
              refine one_ (i := 18) (N := some 69) (bb 43 524287) rfl rfl (one_of HT_.out (by kernel_rfl)) (by decide) (fun K hK => ?_)
              refine goes_ Try.func34 (by kernel_rfl) rfl #[.slice Ao55 t635.length co55, .slice A0 l0.length c0] (by rfl) rfl rfl aG ?_
              with_reducible refine (constablekeep_Facts.calls k _ _ t635 _ _ l0 true _ ?side1 ?side2 ?side3 ?side4 A32.out).mono ?_
              (case side1 => exact sC (Kd.S_reads' HO638.out).2.2)
              (case side2 => exact (Kd.S_reads' HO638.out).2.1)
              (case side3 => exact sC (Kd.C_below HR0.out HB.out))
              (case side4 => exact HC0.out)
              rintro e w56 ⟨rfl, hb⟩
              refine ⟨_, rfl, ?_⟩
              have n0_ := Aside0.mk (Kd.S_below (by (with_reducible repeat (first | apply Kd.S_alloc | apply Kd.S_drewN | apply Kd.S_drew)); exact HO630.out) hb)
              have n1_ := Aside0.mk (Kd.S_below (by (with_reducible repeat (first | apply Kd.S_alloc | apply Kd.S_drewN | apply Kd.S_drew)); exact HO634.out) hb)
              have n2_ := Aside0.mk (Kd.S_below (by (with_reducible repeat (first | apply Kd.S_alloc | apply Kd.S_drewN | apply Kd.S_drew)); exact HO638.out) hb)
              have n3_ := Aside0.mk (blk_below (g := gb621) (o := .cells #[.string a2_0, .slice A2_1 l2_1.length c2_1] 53 (0, 0)) (by refine bk ?_; exact BK621.out) hb)
              have n4_ := Aside0.mk (below_step (bB1 GE621.out) hb)
              clear HO630
              clear HO634
              clear HO638
              clear BK621
              clear HB
              have HO630 := n0_
              have HO634 := n1_
              have HO638 := n2_
              have BK621 := n3_
              have HB := n4_
              clear n0_ n1_ n2_ n3_ n4_
              (try clear hb)
              (try clear hb2)
              (try clear hk)
              (try clear hi)
              refine hK.out _ _ ⟨(blk_cell BK621.out 0).trans rfl, (blk_cell BK621.out 1).trans rfl⟩ (fun hHeld => ?_)
              clear hK K
              refine norm_ (a' := ?_) ?_ ?_
              rotate_left
              ·show Act.put _ (some 69) _ = _
               simp only [Act.put, List.setIfInBounds_toArray, List.set_cons_zero, List.set_cons_succ, i64_w, i32_w]
               rfl
              refine pQ (i := 19) (N := some 70) (bb 43 1048575) ?_
              refine pQ (i := 20) (N := some 71) (bb 43 2097151) ?_
              refine pQ (i := 21) (N := some 72) (bb 43 4194303) ?_
              refine one_ (i := 22) (N := some 73) (bb 43 8388607) rfl rfl (one_of HT_.out (by kernel_rfl)) (by decide) (fun K hK => ?_)
              refine goes_ Try.func35 (by kernel_rfl) rfl #[.slice Ao52 t627.length co52] (by rfl) rfl rfl aG ?_
              with_reducible refine (sets_Check.calls k _ _ t627 t641 _ ?side1 ?side2 A34.out).mono ?_
              (case side1 => exact sC (Kd.S_reads' HO630.out).2.2)
              (case side2 => exact (Kd.S_reads' HO630.out).2.1)
              rintro e w57 ⟨rfl, hb⟩
              refine ⟨_, rfl, ?_⟩
              have n0_ := Aside0.mk (Kd.S_below (by (with_reducible repeat (first | apply Kd.S_alloc | apply Kd.S_drewN | apply Kd.S_drew)); exact HO630.out) hb)
              have n1_ := Aside0.mk (Kd.S_below (by (with_reducible repeat (first | apply Kd.S_alloc | apply Kd.S_drewN | apply Kd.S_drew)); exact HO634.out) hb)
              have n2_ := Aside0.mk (Kd.S_below (by (with_reducible repeat (first | apply Kd.S_alloc | apply Kd.S_drewN | apply Kd.S_drew)); exact HO638.out) hb)
              have n3_ := Aside0.mk (blk_below (g := gb621) (o := .cells #[.string a2_0, .slice A2_1 l2_1.length c2_1] 53 (0, 0)) (by refine bk ?_; exact BK621.out) hb)
              have n4_ := Aside0.mk (below_step (bB1 GE621.out) hb)
              clear HO630
              clear HO634
              clear HO638
              clear BK621
              clear HB
              have HO630 := n0_
              have HO634 := n1_
              have HO638 := n2_
              have BK621 := n3_
              have HB := n4_
              clear n0_ n1_ n2_ n3_ n4_
              (try clear hb)
              (try clear hb2)
              (try clear hk)
              (try clear hi)
              refine hK.out _ _ ⟨(blk_cell BK621.out 0).trans rfl, (blk_cell BK621.out 1).trans rfl⟩ (fun hHeld => ?_)
              clear hK K
              refine norm_ (a' := ?_) ?_ ?_
              rotate_left
              ·show Act.put _ (some 73) _ = _
               simp only [Act.put, List.setIfInBounds_toArray, List.set_cons_zero, List.set_cons_succ, i64_w, i32_w]
               rfl
              refine pQ (i := 23) (N := some 74) (bb 43 16777215) ?_
              refine pQ (i := 24) (N := some 75) (bb 43 33554431) ?_
              refine pQ (i := 25) (N := some 76) (bb 43 67108863) ?_
              refine pQ (i := 26) (N := some 77) (bb 43 134217727) ?_
              refine pQ (i := 29) (N := some 80) (bb 43 671088639) ?_
              refine tQ2 (i := 27) (N := some 78) (bb 43 805306367) hHeld ?_
              refine tQ2 (i := 30) (N := some 81) (bb 43 1879048191) hHeld ?_
              refine one_ (i := 28) (N := some 79) (bb 43 2147483647) rfl rfl (one_of HT_.out (by kernel_rfl)) (by decide) (fun K hK => ?_)
              refine goes_ Try.func33 (by kernel_rfl) rfl #[.slice Ao52 t627.length co52, .agg #[.string a2_0, .slice A2_1 l2_1.length c2_1]] (by rfl) rfl rfl aG ?_
              with_reducible refine (sets_Has.calls _ _ t627 a2_0 _ _ l2_1 t642 _ ?side1 ?side2 ?side3 ?side4 A36.out).mono ?_
              (case side1 => exact sC (Kd.S_reads' HO630.out).2.2)
              (case side2 => exact (Kd.S_reads' HO630.out).2.1)
              (case side3 => exact sC (Kd.C_below HR2_1.out HB.out))
              (case side4 => exact HC2_1.out)
              rintro e w58 ⟨rfl, hb⟩
              refine ⟨_, rfl, ?_⟩
              have n0_ := Aside0.mk (Kd.S_below (by (with_reducible repeat (first | apply Kd.S_alloc | apply Kd.S_drewN | apply Kd.S_drew)); exact HO630.out) hb)
              have n1_ := Aside0.mk (Kd.S_below (by (with_reducible repeat (first | apply Kd.S_alloc | apply Kd.S_drewN | apply Kd.S_drew)); exact HO634.out) hb)
              have n2_ := Aside0.mk (Kd.S_below (by (with_reducible repeat (first | apply Kd.S_alloc | apply Kd.S_drewN | apply Kd.S_drew)); exact HO638.out) hb)
              have n3_ := Aside0.mk (blk_below (g := gb621) (o := .cells #[.string a2_0, .slice A2_1 l2_1.length c2_1] 53 (0, 0)) (by refine bk ?_; exact BK621.out) hb)
              have n4_ := Aside0.mk (below_step (bB1 GE621.out) hb)
              clear HO630
              clear HO634
              clear HO638
              clear BK621
              clear HB
              have HO630 := n0_
              have HO634 := n1_
              have HO638 := n2_
              have BK621 := n3_
              have HB := n4_
              clear n0_ n1_ n2_ n3_ n4_
              (try clear hb)
              (try clear hb2)
              (try clear hk)
              (try clear hi)
              refine hK.out _ _ ⟨(blk_cell BK621.out 0).trans rfl, (blk_cell BK621.out 1).trans rfl⟩ (fun hHeld => ?_)
              clear hK K
              refine norm_ (a' := ?_) ?_ ?_
              rotate_left
              ·show Act.put _ (some 79) _ = _
               simp only [Act.put, List.setIfInBounds_toArray, List.set_cons_zero, List.set_cons_succ, i64_w, i32_w]
               rfl
              refine one_ (i := 31) (N := some 82) (bb 43 4294967295) rfl rfl (one_of HT_.out (by kernel_rfl)) (by decide) (fun K hK => ?_)
              refine goes_ Try.func33 (by kernel_rfl) rfl #[.slice A0 l0.length c0, .agg #[.string a2_0, .slice A2_1 l2_1.length c2_1]] (by rfl) rfl rfl aG ?_
              with_reducible refine (sets_Has.calls _ _ l0 a2_0 _ _ l2_1 true _ ?side1 ?side2 ?side3 ?side4 A37.out).mono ?_
              (case side1 => exact sC (Kd.C_below HR0.out HB.out))
              (case side2 => exact HC0.out)
              (case side3 => exact sC (Kd.C_below HR2_1.out HB.out))
              (case side4 => exact HC2_1.out)
              rintro e w59 ⟨rfl, hb⟩
              refine ⟨_, rfl, ?_⟩
              have n0_ := Aside0.mk (Kd.S_below (by (with_reducible repeat (first | apply Kd.S_alloc | apply Kd.S_drewN | apply Kd.S_drew)); exact HO630.out) hb)
              have n1_ := Aside0.mk (Kd.S_below (by (with_reducible repeat (first | apply Kd.S_alloc | apply Kd.S_drewN | apply Kd.S_drew)); exact HO634.out) hb)
              have n2_ := Aside0.mk (Kd.S_below (by (with_reducible repeat (first | apply Kd.S_alloc | apply Kd.S_drewN | apply Kd.S_drew)); exact HO638.out) hb)
              have n3_ := Aside0.mk (blk_below (g := gb621) (o := .cells #[.string a2_0, .slice A2_1 l2_1.length c2_1] 53 (0, 0)) (by refine bk ?_; exact BK621.out) hb)
              have n4_ := Aside0.mk (below_step (bB1 GE621.out) hb)
              clear HO630
              clear HO634
              clear HO638
              clear BK621
              clear HB
              have HO630 := n0_
              have HO634 := n1_
              have HO638 := n2_
              have BK621 := n3_
              have HB := n4_
              clear n0_ n1_ n2_ n3_ n4_
              (try clear hb)
              (try clear hb2)
              (try clear hk)
              (try clear hi)
              refine hK.out _ _ ⟨(blk_cell BK621.out 0).trans rfl, (blk_cell BK621.out 1).trans rfl⟩ (fun hHeld => ?_)
              clear hK K
              refine norm_ (a' := ?_) ?_ ?_
              rotate_left
              ·show Act.put _ (some 82) _ = _
               simp only [Act.put, List.setIfInBounds_toArray, List.set_cons_zero, List.set_cons_succ, i64_w, i32_w]
               rfl
              refine pQ (i := 32) (N := some 83) (bb 43 8589934591) ?_
              refine pure_ (i := 33) (N := some 84) (v := undef) (a' := ?_) (bb 43 17179869183) rfl rfl (any_of HT_.out (by kernel_rfl)) (fun _ _ _ h => h) (Or.inr ⟨by rfl, rfl⟩) ?_ ?_
              rotate_left
              ·simp only [Act.put, List.setIfInBounds_toArray, List.set_cons_zero, List.set_cons_succ, i64_w, i32_w]
               rfl
              refine pure_ (i := 34) (N := some 85) (v := undef) (a' := ?_) (bb 43 34359738367) rfl rfl (any_of HT_.out (by kernel_rfl)) (fun _ _ _ h => h) (Or.inr ⟨by rfl, rfl⟩) ?_ ?_
              rotate_left
              ·simp only [Act.put, List.setIfInBounds_toArray, List.set_cons_zero, List.set_cons_succ, i64_w, i32_w]
               rfl
              refine pure_ (i := 35) (N := some 86) (v := undef) (a' := ?_) (bb 43 68719476735) rfl rfl (any_of HT_.out (by kernel_rfl)) (fun _ _ _ h => h) (Or.inr ⟨by rfl, rfl⟩) ?_ ?_
              rotate_left
              ·simp only [Act.put, List.setIfInBounds_toArray, List.set_cons_zero, List.set_cons_succ, i64_w, i32_w]
               rfl
              refine pQ (i := 36) (N := some 87) (bb 43 137438953471) ?_
              refine pQ (i := 37) (N := some 88) (bb 43 274877906943) ?_
              refine pQ (i := 38) (N := some 89) (bb 43 549755813887) ?_
              refine pQ (i := 39) (N := some 90) (bb 43 1099511627775) ?_
              refine one_ (i := 40) (N := some 91) (bb 43 2199023255551) rfl rfl (one_of HT_.out (by kernel_rfl)) (by decide) (fun K hK => ?_)
              refine goes_ Try.func31 (by kernel_rfl) rfl #[] (by rfl) rfl rfl aG ?_
              with_reducible refine (constablelaw04_wakes.calls  t644 _ A40.out).mono ?_
              rintro e w60 ⟨rfl, hb⟩
              refine ⟨_, rfl, ?_⟩
              have n0_ := Aside0.mk (Kd.S_below (by (with_reducible repeat (first | apply Kd.S_alloc | apply Kd.S_drewN | apply Kd.S_drew)); exact HO630.out) hb)
              have n1_ := Aside0.mk (Kd.S_below (by (with_reducible repeat (first | apply Kd.S_alloc | apply Kd.S_drewN | apply Kd.S_drew)); exact HO634.out) hb)
              have n2_ := Aside0.mk (Kd.S_below (by (with_reducible repeat (first | apply Kd.S_alloc | apply Kd.S_drewN | apply Kd.S_drew)); exact HO638.out) hb)
              have n3_ := Aside0.mk (blk_below (g := gb621) (o := .cells #[.string a2_0, .slice A2_1 l2_1.length c2_1] 53 (0, 0)) (by refine bk ?_; exact BK621.out) hb)
              have n4_ := Aside0.mk (below_step (bB1 GE621.out) hb)
              clear HO630
              clear HO634
              clear HO638
              clear BK621
              clear HB
              have HO630 := n0_
              have HO634 := n1_
              have HO638 := n2_
              have BK621 := n3_
              have HB := n4_
              clear n0_ n1_ n2_ n3_ n4_
              (try clear hb)
              (try clear hb2)
              (try clear hk)
              (try clear hi)
              refine hK.out _ _ ⟨(blk_cell BK621.out 0).trans rfl, (blk_cell BK621.out 1).trans rfl⟩ (fun hHeld => ?_)
              clear hK K
              refine norm_ (a' := ?_) ?_ ?_
              rotate_left
              ·show Act.put _ (some 91) _ = _
               simp only [Act.put, List.setIfInBounds_toArray, List.set_cons_zero, List.set_cons_succ, i64_w, i32_w]
               rfl
              refine pQ (i := 41) (N := some 92) (bb 43 4398046511103) ?_
              refine pQ (i := 42) (N := some 6) (bb 43 8796093022207) ?_
              refine done_ (done_of HT_.out (by kernel_rfl)) ?_
              try go_wp2
              go_ret
              exact ⟨eW, (bB1 GE621.out)⟩
             ·rw [if_neg c39] at H
              exact absurd H (by simp)
            ·replace c38 := Bool.eq_false_iff.mpr c38
             subst c38
             have H1 : ((sets_Has.f l1 a2_0 l2_1).bind fun t645 => (if (t642 == t645) = true then ((constablelaw04_wakes.f).bind fun t646 => (some t646)) else (none))) = some r := by rw [if_neg (show ¬ (false = true) by decide)] at H; exact H
             clear H
             have H := H1
             clear H1
             replace H := Option.bind_eq_some_iff.mp H
             obtain ⟨t645, A610, H⟩ := H
             replace H : (if (t642 == t645) = true then ((constablelaw04_wakes.f).bind fun t646 => (some t646)) else (none)) = some r := H
             have A61 := Aside0.mk A610
             clear A610
             by_cases c62 : (t642 == t645) = true
             ·rw [if_pos c62] at H
              have c62b0 : (t642 == t645) = true := c62
              (try (have c62b1 : decide (t642 = t645) = true := by simpa using c62))
              (try (have c62b2 : (t642 == t645) = true := by simpa using c62))
              clear c62
              replace H := Option.bind_eq_some_iff.mp H
              obtain ⟨t646, A630, H⟩ := H
              replace H : (some t646) = some r := H
              have A63 := Aside0.mk A630
              clear A630
              obtain rfl := Option.some.inj H
              go_enter Try.func10, Try.ntmps10
              try go_wp2_with (first | ((with_reducible refine gate_dst (N := 5) rfl ?_); refine bE (N := 5) (cs := #[.string a2_0, .slice A2_1 l2_1.length c2_1]) (t := 53) ?_; intro gb621 hg w64 hbox hb; have n0_ := Aside0.mk (below_step bB0 hb); have n1_ := Aside0.mk (hbox); have n2_ := Aside0.mk ((by rw [hg]; exact (below_size bB0) : w.heap.size ≤ gb621)); have n3_ := Aside0.mk ((by rw [hg]; exact (below_size bB0) : w.heap.size ≤ gb621)); clear HB; have HB := n0_; have BK621 := n1_; have GW621 := n2_; have GE621 := n3_; clear n0_ n1_ n2_ n3_; clear hb hbox hg) | ((with_reducible refine gate_callee (f := 29) rfl ?_); refine goesL_ (some 14) rfl rfl Try.func29 (by kernel_rfl) rfl #[.slice A0 l0.length c0] rfl aG ?_; (with_reducible refine (constablelaw03_Many.calls k _ _ l0 false _ ?side1 ?side2 A4.out).mono ?_); (case side1 => exact sC (Kd.C_below HR0.out HB.out)); (case side2 => exact HC0.out); rintro e w65 ⟨rfl, hb⟩; refine ⟨_, rfl, ?_⟩; have n0_ := Aside0.mk (blk_below (g := gb621) (o := .cells #[.string a2_0, .slice A2_1 l2_1.length c2_1] 53 (0, 0)) (by refine bk ?_; exact BK621.out) hb); have n1_ := Aside0.mk (below_step (bB1 GE621.out) hb); clear BK621; clear HB; have BK621 := n0_; have HB := n1_; clear n0_ n1_; (try clear hb); (try clear hb2); (try clear hk); (try clear hi)) | (go_at_call 29; (with_reducible refine (constablelaw03_Many.calls k _ _ l1 false _ ?side1 ?side2 A8.out).mono ?_); (case side1 => exact sC (Kd.C_below HR1.out HB.out)); (case side2 => exact HC1.out); rintro e w66 ⟨rfl, hb⟩; have n0_ := Aside0.mk (blk_below (g := gb621) (o := .cells #[.string a2_0, .slice A2_1 l2_1.length c2_1] 53 (0, 0)) (by refine bk ?_; exact BK621.out) hb); have n1_ := Aside0.mk (below_step (bB1 GE621.out) hb); clear BK621; clear HB; have BK621 := n0_; have HB := n1_; clear n0_ n1_; (try clear hb); (try clear hb2); (try clear hk); (try clear hi); have hcz67_0 : w66.cell? ⟨gb621, 0, none⟩ = some (.string a2_0) := (blk_cell BK621.out 0).trans rfl; have hcz67_1 : w66.cell? ⟨gb621, 1, none⟩ = some (.slice A2_1 l2_1.length c2_1) := (blk_cell BK621.out 1).trans rfl; have hfz67_0 := blk_frozen BK621.out 0; have hfz67_1 := blk_frozen BK621.out 1) | (go_at_call 36; (with_reducible refine (constablelaw03_Heavy.calls k a2_0 _ _ l2_1 false _ ?side1 ?side2 A13.out).mono ?_); (case side1 => exact sC (Kd.C_below HR2_1.out HB.out)); (case side2 => exact HC2_1.out); rintro e w68 ⟨rfl, hb⟩; have n0_ := Aside0.mk (blk_below (g := gb621) (o := .cells #[.string a2_0, .slice A2_1 l2_1.length c2_1] 53 (0, 0)) (by refine bk ?_; exact BK621.out) hb); have n1_ := Aside0.mk (below_step (bB1 GE621.out) hb); clear BK621; clear HB; have BK621 := n0_; have HB := n1_; clear n0_ n1_; (try clear hb); (try clear hb2); (try clear hk); (try clear hi)) | (go_at_call 37; (with_reducible refine (constableref01_Set.calls k _ _ l0 true _ ?side1 ?side2 A20.out).mono ?_); (case side1 => exact sC (Kd.C_below HR0.out HB.out)); (case side2 => exact HC0.out); rintro e w69 ⟨rfl, hb⟩; have n0_ := Aside0.mk (blk_below (g := gb621) (o := .cells #[.string a2_0, .slice A2_1 l2_1.length c2_1] 53 (0, 0)) (by refine bk ?_; exact BK621.out) hb); have n1_ := Aside0.mk (below_step (bB1 GE621.out) hb); clear BK621; clear HB; have BK621 := n0_; have HB := n1_; clear n0_ n1_; (try clear hb); (try clear hb2); (try clear hk); (try clear hi)) | (go_at_call 37; (with_reducible refine (constableref01_Set.calls k _ _ l1 true _ ?side1 ?side2 A22.out).mono ?_); (case side1 => exact sC (Kd.C_below HR1.out HB.out)); (case side2 => exact HC1.out); rintro e w70 ⟨rfl, hb⟩; have n0_ := Aside0.mk (blk_below (g := gb621) (o := .cells #[.string a2_0, .slice A2_1 l2_1.length c2_1] 53 (0, 0)) (by refine bk ?_; exact BK621.out) hb); have n1_ := Aside0.mk (below_step (bB1 GE621.out) hb); clear BK621; clear HB; have BK621 := n0_; have HB := n1_; clear n0_ n1_; (try clear hb); (try clear hb2); (try clear hk); (try clear hi)) | ((with_reducible refine gate_callee (f := 42) rfl ?_); refine goesL_ (some 36) rfl rfl Try.func42 (by kernel_rfl) rfl #[.slice A0 l0.length c0, .slice A1 l1.length c1] rfl aG ?_; (with_reducible refine (sets_Both.calls _ _ l0 _ _ l1 t627 t628 _ ?side1 ?side2 ?side3 ?side4 A24.out).mono ?_); (case side1 => exact sC (Kd.C_below HR0.out HB.out)); (case side2 => exact HC0.out); (case side3 => exact sC (Kd.C_below HR1.out HB.out)); (case side4 => exact HC1.out); rintro e w71 ⟨v629, rfl, ho0, hb⟩; refine ⟨_, rfl, ?_⟩; have n0_ := Aside0.mk (Kd.S_lower (Kd.S_newB ho0 (g := gb621) (o := .cells #[.string a2_0, .slice A2_1 l2_1.length c2_1] 53 (0, 0)) (by refine bk ?_; exact BK621.out)) (below_size (bB1 GE621.out))); have n1_ := Aside0.mk (blk_below (g := gb621) (o := .cells #[.string a2_0, .slice A2_1 l2_1.length c2_1] 53 (0, 0)) (by refine bk ?_; exact BK621.out) hb); have n2_ := Aside0.mk (below_step (bB1 GE621.out) hb); clear BK621; clear HB; have HO630 := n0_; have BK621 := n1_; have HB := n2_; clear n0_ n1_ n2_; (try clear hb); (try clear hb2); (try clear hk); (try clear hi); (try clear ho0)) | ((with_reducible refine gate_callee (f := 42) rfl ?_); refine goesL_ (some 42) rfl rfl Try.func42 (by kernel_rfl) rfl #[.slice A1 l1.length c1, .slice A0 l0.length c0] rfl aG ?_; (with_reducible refine (sets_Both.calls _ _ l1 _ _ l0 t631 t632 _ ?side1 ?side2 ?side3 ?side4 A25.out).mono ?_); (case side1 => exact sC (Kd.C_below HR1.out HB.out)); (case side2 => exact HC1.out); (case side3 => exact sC (Kd.C_below HR0.out HB.out)); (case side4 => exact HC0.out); rintro e w72 ⟨v633, rfl, ho0, hb⟩; refine ⟨_, rfl, ?_⟩; have n0_ := Aside0.mk (Kd.S_elder' (by (with_reducible repeat (first | apply Kd.S_alloc | apply Kd.S_drewN | apply Kd.S_drew)); exact HO630.out) (Kd.S_base ho0) hb); have n1_ := Aside0.mk (Kd.S_lower (Kd.S_newB (Kd.S_new' ho0 (Kd.S_lt (by (with_reducible repeat (first | apply Kd.S_alloc | apply Kd.S_drewN | apply Kd.S_drew)); exact HO630.out))) (g := gb621) (o := .cells #[.string a2_0, .slice A2_1 l2_1.length c2_1] 53 (0, 0)) (by refine bk ?_; exact BK621.out)) (below_size (bB1 GE621.out))); have n2_ := Aside0.mk (blk_below (g := gb621) (o := .cells #[.string a2_0, .slice A2_1 l2_1.length c2_1] 53 (0, 0)) (by refine bk ?_; exact BK621.out) hb); have n3_ := Aside0.mk (below_step (bB1 GE621.out) hb); clear HO630; clear BK621; clear HB; have HO630 := n0_; have HO634 := n1_; have BK621 := n2_; have HB := n3_; clear n0_ n1_ n2_ n3_; (try clear hb); (try clear hb2); (try clear hk); (try clear hi); (try clear ho0)) | ((with_reducible refine gate_callee (f := 42) rfl ?_); refine goesL_ (some 48) rfl rfl Try.func42 (by kernel_rfl) rfl #[.slice A0 l0.length c0, .slice A0 l0.length c0] rfl aG ?_; (with_reducible refine (sets_Both.calls _ _ l0 _ _ l0 t635 t636 _ ?side1 ?side2 ?side3 ?side4 A26.out).mono ?_); (case side1 => exact sC (Kd.C_below HR0.out HB.out)); (case side2 => exact HC0.out); (case side3 => exact sC (Kd.C_below HR0.out HB.out)); (case side4 => exact HC0.out); rintro e w73 ⟨v637, rfl, ho0, hb⟩; refine ⟨_, rfl, ?_⟩; have n0_ := Aside0.mk (Kd.S_elder' (by (with_reducible repeat (first | apply Kd.S_alloc | apply Kd.S_drewN | apply Kd.S_drew)); exact HO630.out) (Kd.S_base ho0) hb); have n1_ := Aside0.mk (Kd.S_elder' (by (with_reducible repeat (first | apply Kd.S_alloc | apply Kd.S_drewN | apply Kd.S_drew)); exact HO634.out) (Kd.S_base ho0) hb); have n2_ := Aside0.mk (Kd.S_lower (Kd.S_newB (Kd.S_new' (Kd.S_new' ho0 (Kd.S_lt (by (with_reducible repeat (first | apply Kd.S_alloc | apply Kd.S_drewN | apply Kd.S_drew)); exact HO630.out))) (Kd.S_lt (by (with_reducible repeat (first | apply Kd.S_alloc | apply Kd.S_drewN | apply Kd.S_drew)); exact HO634.out))) (g := gb621) (o := .cells #[.string a2_0, .slice A2_1 l2_1.length c2_1] 53 (0, 0)) (by refine bk ?_; exact BK621.out)) (below_size (bB1 GE621.out))); have n3_ := Aside0.mk (blk_below (g := gb621) (o := .cells #[.string a2_0, .slice A2_1 l2_1.length c2_1] 53 (0, 0)) (by refine bk ?_; exact BK621.out) hb); have n4_ := Aside0.mk (below_step (bB1 GE621.out) hb); clear HO630; clear HO634; clear BK621; clear HB; have HO630 := n0_; have HO634 := n1_; have HO638 := n2_; have BK621 := n3_; have HB := n4_; clear n0_ n1_ n2_ n3_ n4_; (try clear hb); (try clear hb2); (try clear hk); (try clear hi); (try clear ho0)))
              have n0_ := Aside0.mk (Kd.S_drew HO630.out)
              have n1_ := Aside0.mk (Kd.S_drew HO634.out)
              have n2_ := Aside0.mk (Kd.S_drew HO638.out)
              have n3_ := Aside0.mk (blk_drew BK621.out)
              have n4_ := Aside0.mk (below_drew1 HB.out)
              clear HO630
              clear HO634
              clear HO638
              clear BK621
              clear HB
              have HO630 := n0_
              have HO634 := n1_
              have HO638 := n2_
              have BK621 := n3_
              have HB := n4_
              clear n0_ n1_ n2_ n3_ n4_
              obtain ⟨Ao75, co75, eo75⟩ := Kd.S_slice HO630.out
              (first | subst eo75 | (injection eo75 with f1_ f2_ f3_; have f4_ := f1_.symm; have f5_ := f3_.symm; clear f1_ f2_ f3_; subst f4_; subst f5_))
              obtain ⟨Ao76, co76, eo76⟩ := Kd.S_slice HO634.out
              (first | subst eo76 | (injection eo76 with f1_ f2_ f3_; have f4_ := f1_.symm; have f5_ := f3_.symm; clear f1_ f2_ f3_; subst f4_; subst f5_))
              refine start_ (n := 43) (S := fun w' => w'.cell? ⟨gb621, 0, none⟩ = some (.string a2_0) ∧ w'.cell? ⟨gb621, 1, none⟩ = some (.slice A2_1 l2_1.length c2_1)) (ds := []) #[false, false, false, false, false, false, false, false, false, false, false, false, false, false, false, false, false, false, false, false, false, false, false, false, false, false, false, false, false, false, false, false, false, false, false, false, false, false, false, false, false, false, false] (by kernel_rfl) rfl rfl ⟨(blk_cell BK621.out 0).trans rfl, (blk_cell BK621.out 1).trans rfl⟩ (fun hHeld => ?_); refine with_tabW constablelaw04_SetsBoth.tab6 constablelaw04_SetsBoth.bits6 (fun HT_ HW_ => ?_)
              generalize w73.drew = w74 at HO630 HO634 HO638 BK621 HB hHeld ⊢
              refine pQ (i := 0) (N := some 51) (bb 43 1) ?_
              refine pQ (i := 1) (N := some 52) (bb 43 3) ?_
              refine pQ (i := 2) (N := some 53) (bb 43 7) ?_
              refine pQ (i := 3) (N := some 54) (bb 43 15) ?_
              refine pQ (i := 4) (N := some 55) (bb 43 31) ?_
              refine pQ (i := 5) (N := some 56) (bb 43 63) ?_
              refine pQ (i := 6) (N := some 57) (bb 43 127) ?_
              refine pQ (i := 7) (N := some 58) (bb 43 255) ?_
              refine pQ (i := 8) (N := some 59) (bb 43 511) ?_
              refine pQ (i := 9) (N := some 60) (bb 43 1023) ?_
              refine pQ (i := 10) (N := some 61) (bb 43 2047) ?_
              refine pQ (i := 11) (N := some 62) (bb 43 4095) ?_
              refine pQ (i := 12) (N := some 63) (bb 43 8191) ?_
              refine one_ (i := 13) (N := some 64) (bb 43 16383) rfl rfl (one_of HT_.out (by kernel_rfl)) (by decide) (fun K hK => ?_)
              refine goes_ Try.func34 (by kernel_rfl) rfl #[.slice Ao75 t627.length co75, .slice Ao76 t631.length co76] (by rfl) rfl rfl aG ?_
              with_reducible refine (constablekeep_Facts.calls k _ _ t627 _ _ t631 true _ ?side1 ?side2 ?side3 ?side4 A30.out).mono ?_
              (case side1 => exact sC (Kd.S_reads' HO630.out).2.2)
              (case side2 => exact (Kd.S_reads' HO630.out).2.1)
              (case side3 => exact sC (Kd.S_reads' HO634.out).2.2)
              (case side4 => exact (Kd.S_reads' HO634.out).2.1)
              rintro e w77 ⟨rfl, hb⟩
              refine ⟨_, rfl, ?_⟩
              have n0_ := Aside0.mk (Kd.S_below (by (with_reducible repeat (first | apply Kd.S_alloc | apply Kd.S_drewN | apply Kd.S_drew)); exact HO630.out) hb)
              have n1_ := Aside0.mk (Kd.S_below (by (with_reducible repeat (first | apply Kd.S_alloc | apply Kd.S_drewN | apply Kd.S_drew)); exact HO634.out) hb)
              have n2_ := Aside0.mk (Kd.S_below (by (with_reducible repeat (first | apply Kd.S_alloc | apply Kd.S_drewN | apply Kd.S_drew)); exact HO638.out) hb)
              have n3_ := Aside0.mk (blk_below (g := gb621) (o := .cells #[.string a2_0, .slice A2_1 l2_1.length c2_1] 53 (0, 0)) (by refine bk ?_; exact BK621.out) hb)
              have n4_ := Aside0.mk (below_step (bB1 GE621.out) hb)
              clear HO630
              clear HO634
              clear HO638
              clear BK621
              clear HB
              have HO630 := n0_
              have HO634 := n1_
              have HO638 := n2_
              have BK621 := n3_
              have HB := n4_
              clear n0_ n1_ n2_ n3_ n4_
              (try clear hb)
              (try clear hb2)
              (try clear hk)
              (try clear hi)
              obtain ⟨Ao78, co78, eo78⟩ := Kd.S_slice HO638.out
              (first | subst eo78 | (injection eo78 with f1_ f2_ f3_; have f4_ := f1_.symm; have f5_ := f3_.symm; clear f1_ f2_ f3_; subst f4_; subst f5_))
              refine hK.out _ _ ⟨(blk_cell BK621.out 0).trans rfl, (blk_cell BK621.out 1).trans rfl⟩ (fun hHeld => ?_)
              clear hK K
              refine norm_ (a' := ?_) ?_ ?_
              rotate_left
              ·show Act.put _ (some 64) _ = _
               simp only [Act.put, List.setIfInBounds_toArray, List.set_cons_zero, List.set_cons_succ, i64_w, i32_w]
               rfl
              refine pQ (i := 14) (N := some 65) (bb 43 32767) ?_
              refine pQ (i := 15) (N := some 66) (bb 43 65535) ?_
              refine pQ (i := 16) (N := some 67) (bb 43 131071) ?_
              refine pQ (i := 17) (N := some 68) (bb 43 262143) ?_
              refine one_ (i := 18) (N := some 69) (bb 43 524287) rfl rfl (one_of HT_.out (by kernel_rfl)) (by decide) (fun K hK => ?_)
              refine goes_ Try.func34 (by kernel_rfl) rfl #[.slice Ao78 t635.length co78, .slice A0 l0.length c0] (by rfl) rfl rfl aG ?_
              with_reducible refine (constablekeep_Facts.calls k _ _ t635 _ _ l0 true _ ?side1 ?side2 ?side3 ?side4 A32.out).mono ?_
              (case side1 => exact sC (Kd.S_reads' HO638.out).2.2)
              (case side2 => exact (Kd.S_reads' HO638.out).2.1)
              (case side3 => exact sC (Kd.C_below HR0.out HB.out))
              (case side4 => exact HC0.out)
              rintro e w79 ⟨rfl, hb⟩
              refine ⟨_, rfl, ?_⟩
              have n0_ := Aside0.mk (Kd.S_below (by (with_reducible repeat (first | apply Kd.S_alloc | apply Kd.S_drewN | apply Kd.S_drew)); exact HO630.out) hb)
              have n1_ := Aside0.mk (Kd.S_below (by (with_reducible repeat (first | apply Kd.S_alloc | apply Kd.S_drewN | apply Kd.S_drew)); exact HO634.out) hb)
              have n2_ := Aside0.mk (Kd.S_below (by (with_reducible repeat (first | apply Kd.S_alloc | apply Kd.S_drewN | apply Kd.S_drew)); exact HO638.out) hb)
              have n3_ := Aside0.mk (blk_below (g := gb621) (o := .cells #[.string a2_0, .slice A2_1 l2_1.length c2_1] 53 (0, 0)) (by refine bk ?_; exact BK621.out) hb)
              have n4_ := Aside0.mk (below_step (bB1 GE621.out) hb)
              clear HO630
              clear HO634
              clear HO638
              clear BK621
              clear HB
              have HO630 := n0_
              have HO634 := n1_
              have HO638 := n2_
              have BK621 := n3_
              have HB := n4_
              clear n0_ n1_ n2_ n3_ n4_
              (try clear hb)
              (try clear hb2)
              (try clear hk)
              (try clear hi)
              refine hK.out _ _ ⟨(blk_cell BK621.out 0).trans rfl, (blk_cell BK621.out 1).trans rfl⟩ (fun hHeld => ?_)
              clear hK K
              refine norm_ (a' := ?_) ?_ ?_
              rotate_left
              ·show Act.put _ (some 69) _ = _
               simp only [Act.put, List.setIfInBounds_toArray, List.set_cons_zero, List.set_cons_succ, i64_w, i32_w]
               rfl
              refine pQ (i := 19) (N := some 70) (bb 43 1048575) ?_
              refine pQ (i := 20) (N := some 71) (bb 43 2097151) ?_
              refine pQ (i := 21) (N := some 72) (bb 43 4194303) ?_
              refine one_ (i := 22) (N := some 73) (bb 43 8388607) rfl rfl (one_of HT_.out (by kernel_rfl)) (by decide) (fun K hK => ?_)
              refine goes_ Try.func35 (by kernel_rfl) rfl #[.slice Ao75 t627.length co75] (by rfl) rfl rfl aG ?_
              with_reducible refine (sets_Check.calls k _ _ t627 t641 _ ?side1 ?side2 A34.out).mono ?_
              (case side1 => exact sC (Kd.S_reads' HO630.out).2.2)
              (case side2 => exact (Kd.S_reads' HO630.out).2.1)
              rintro e w80 ⟨rfl, hb⟩
              refine ⟨_, rfl, ?_⟩
              have n0_ := Aside0.mk (Kd.S_below (by (with_reducible repeat (first | apply Kd.S_alloc | apply Kd.S_drewN | apply Kd.S_drew)); exact HO630.out) hb)
              have n1_ := Aside0.mk (Kd.S_below (by (with_reducible repeat (first | apply Kd.S_alloc | apply Kd.S_drewN | apply Kd.S_drew)); exact HO634.out) hb)
              have n2_ := Aside0.mk (Kd.S_below (by (with_reducible repeat (first | apply Kd.S_alloc | apply Kd.S_drewN | apply Kd.S_drew)); exact HO638.out) hb)
              have n3_ := Aside0.mk (blk_below (g := gb621) (o := .cells #[.string a2_0, .slice A2_1 l2_1.length c2_1] 53 (0, 0)) (by refine bk ?_; exact BK621.out) hb)
              have n4_ := Aside0.mk (below_step (bB1 GE621.out) hb)
              clear HO630
              clear HO634
              clear HO638
              clear BK621
              clear HB
              have HO630 := n0_
              have HO634 := n1_
              have HO638 := n2_
              have BK621 := n3_
              have HB := n4_
              clear n0_ n1_ n2_ n3_ n4_
              (try clear hb)
              (try clear hb2)
              (try clear hk)
              (try clear hi)
              refine hK.out _ _ ⟨(blk_cell BK621.out 0).trans rfl, (blk_cell BK621.out 1).trans rfl⟩ (fun hHeld => ?_)
              clear hK K
              refine norm_ (a' := ?_) ?_ ?_
              rotate_left
              ·show Act.put _ (some 73) _ = _
               simp only [Act.put, List.setIfInBounds_toArray, List.set_cons_zero, List.set_cons_succ, i64_w, i32_w]
               rfl
              refine pQ (i := 23) (N := some 74) (bb 43 16777215) ?_
              refine pQ (i := 24) (N := some 75) (bb 43 33554431) ?_
              refine pQ (i := 25) (N := some 76) (bb 43 67108863) ?_
              refine pQ (i := 26) (N := some 77) (bb 43 134217727) ?_
              refine pQ (i := 29) (N := some 80) (bb 43 671088639) ?_
              refine tQ2 (i := 27) (N := some 78) (bb 43 805306367) hHeld ?_
              refine tQ2 (i := 30) (N := some 81) (bb 43 1879048191) hHeld ?_
              refine one_ (i := 28) (N := some 79) (bb 43 2147483647) rfl rfl (one_of HT_.out (by kernel_rfl)) (by decide) (fun K hK => ?_)
              refine goes_ Try.func33 (by kernel_rfl) rfl #[.slice Ao75 t627.length co75, .agg #[.string a2_0, .slice A2_1 l2_1.length c2_1]] (by rfl) rfl rfl aG ?_
              with_reducible refine (sets_Has.calls _ _ t627 a2_0 _ _ l2_1 t642 _ ?side1 ?side2 ?side3 ?side4 A36.out).mono ?_
              (case side1 => exact sC (Kd.S_reads' HO630.out).2.2)
              (case side2 => exact (Kd.S_reads' HO630.out).2.1)
              (case side3 => exact sC (Kd.C_below HR2_1.out HB.out))
              (case side4 => exact HC2_1.out)
              rintro e w81 ⟨rfl, hb⟩
              refine ⟨_, rfl, ?_⟩
              have n0_ := Aside0.mk (Kd.S_below (by (with_reducible repeat (first | apply Kd.S_alloc | apply Kd.S_drewN | apply Kd.S_drew)); exact HO630.out) hb)
              have n1_ := Aside0.mk (Kd.S_below (by (with_reducible repeat (first | apply Kd.S_alloc | apply Kd.S_drewN | apply Kd.S_drew)); exact HO634.out) hb)
              have n2_ := Aside0.mk (Kd.S_below (by (with_reducible repeat (first | apply Kd.S_alloc | apply Kd.S_drewN | apply Kd.S_drew)); exact HO638.out) hb)
              have n3_ := Aside0.mk (blk_below (g := gb621) (o := .cells #[.string a2_0, .slice A2_1 l2_1.length c2_1] 53 (0, 0)) (by refine bk ?_; exact BK621.out) hb)
              have n4_ := Aside0.mk (below_step (bB1 GE621.out) hb)
              clear HO630
              clear HO634
              clear HO638
              clear BK621
              clear HB
              have HO630 := n0_
              have HO634 := n1_
              have HO638 := n2_
              have BK621 := n3_
              have HB := n4_
              clear n0_ n1_ n2_ n3_ n4_
              (try clear hb)
              (try clear hb2)
              (try clear hk)
              (try clear hi)
              refine hK.out _ _ ⟨(blk_cell BK621.out 0).trans rfl, (blk_cell BK621.out 1).trans rfl⟩ (fun hHeld => ?_)
              clear hK K
              refine norm_ (a' := ?_) ?_ ?_
              rotate_left
              ·show Act.put _ (some 79) _ = _
               simp only [Act.put, List.setIfInBounds_toArray, List.set_cons_zero, List.set_cons_succ, i64_w, i32_w]
               rfl
              refine one_ (i := 31) (N := some 82) (bb 43 4294967295) rfl rfl (one_of HT_.out (by kernel_rfl)) (by decide) (fun K hK => ?_)
              refine goes_ Try.func33 (by kernel_rfl) rfl #[.slice A0 l0.length c0, .agg #[.string a2_0, .slice A2_1 l2_1.length c2_1]] (by rfl) rfl rfl aG ?_
              with_reducible refine (sets_Has.calls _ _ l0 a2_0 _ _ l2_1 false _ ?side1 ?side2 ?side3 ?side4 A37.out).mono ?_
              (case side1 => exact sC (Kd.C_below HR0.out HB.out))
              (case side2 => exact HC0.out)
              (case side3 => exact sC (Kd.C_below HR2_1.out HB.out))
              (case side4 => exact HC2_1.out)
              rintro e w82 ⟨rfl, hb⟩
              refine ⟨_, rfl, ?_⟩
              have n0_ := Aside0.mk (Kd.S_below (by (with_reducible repeat (first | apply Kd.S_alloc | apply Kd.S_drewN | apply Kd.S_drew)); exact HO630.out) hb)
              have n1_ := Aside0.mk (Kd.S_below (by (with_reducible repeat (first | apply Kd.S_alloc | apply Kd.S_drewN | apply Kd.S_drew)); exact HO634.out) hb)
              have n2_ := Aside0.mk (Kd.S_below (by (with_reducible repeat (first | apply Kd.S_alloc | apply Kd.S_drewN | apply Kd.S_drew)); exact HO638.out) hb)
              have n3_ := Aside0.mk (blk_below (g := gb621) (o := .cells #[.string a2_0, .slice A2_1 l2_1.length c2_1] 53 (0, 0)) (by refine bk ?_; exact BK621.out) hb)
              have n4_ := Aside0.mk (below_step (bB1 GE621.out) hb)
              clear HO630
              clear HO634
              clear HO638
              clear BK621
              clear HB
              have HO630 := n0_
              have HO634 := n1_
              have HO638 := n2_
              have BK621 := n3_
              have HB := n4_
              clear n0_ n1_ n2_ n3_ n4_
              (try clear hb)
              (try clear hb2)
              (try clear hk)
              (try clear hi)
              refine hK.out _ _ ⟨(blk_cell BK621.out 0).trans rfl, (blk_cell BK621.out 1).trans rfl⟩ (fun hHeld => ?_)
              clear hK K
              refine norm_ (a' := ?_) ?_ ?_
              rotate_left
              ·show Act.put _ (some 82) _ = _
               simp only [Act.put, List.setIfInBounds_toArray, List.set_cons_zero, List.set_cons_succ, i64_w, i32_w]
               rfl
              refine pQ (i := 32) (N := some 83) (bb 43 8589934591) ?_
              refine pQ (i := 33) (N := some 84) (bb 43 17179869183) ?_
              refine tQ2 (i := 34) (N := some 85) (bb 43 34359738367) hHeld ?_
              refine one_ (i := 35) (N := some 86) (bb 43 68719476735) rfl rfl (one_of HT_.out (by kernel_rfl)) (by decide) (fun K hK => ?_)
              refine goes_ Try.func33 (by kernel_rfl) rfl #[.slice A1 l1.length c1, .agg #[.string a2_0, .slice A2_1 l2_1.length c2_1]] (by rfl) rfl rfl aG ?_
              with_reducible refine (sets_Has.calls _ _ l1 a2_0 _ _ l2_1 t645 _ ?side1 ?side2 ?side3 ?side4 A61.out).mono ?_
              (case side1 => exact sC (Kd.C_below HR1.out HB.out))
              (case side2 => exact HC1.out)
              (case side3 => exact sC (Kd.C_below HR2_1.out HB.out))
              (case side4 => exact HC2_1.out)
              rintro e w83 ⟨rfl, hb⟩
              refine ⟨_, rfl, ?_⟩
              have n0_ := Aside0.mk (Kd.S_below (by (with_reducible repeat (first | apply Kd.S_alloc | apply Kd.S_drewN | apply Kd.S_drew)); exact HO630.out) hb)
              have n1_ := Aside0.mk (Kd.S_below (by (with_reducible repeat (first | apply Kd.S_alloc | apply Kd.S_drewN | apply Kd.S_drew)); exact HO634.out) hb)
              have n2_ := Aside0.mk (Kd.S_below (by (with_reducible repeat (first | apply Kd.S_alloc | apply Kd.S_drewN | apply Kd.S_drew)); exact HO638.out) hb)
              have n3_ := Aside0.mk (blk_below (g := gb621) (o := .cells #[.string a2_0, .slice A2_1 l2_1.length c2_1] 53 (0, 0)) (by refine bk ?_; exact BK621.out) hb)
              have n4_ := Aside0.mk (below_step (bB1 GE621.out) hb)
              clear HO630
              clear HO634
              clear HO638
              clear BK621
              clear HB
              have HO630 := n0_
              have HO634 := n1_
              have HO638 := n2_
              have BK621 := n3_
              have HB := n4_
              clear n0_ n1_ n2_ n3_ n4_
              (try clear hb)
              (try clear hb2)
              (try clear hk)
              (try clear hi)
              refine hK.out _ _ ⟨(blk_cell BK621.out 0).trans rfl, (blk_cell BK621.out 1).trans rfl⟩ (fun hHeld => ?_)
              clear hK K
              refine norm_ (a' := ?_) ?_ ?_
              rotate_left
              ·show Act.put _ (some 86) _ = _
               simp only [Act.put, List.setIfInBounds_toArray, List.set_cons_zero, List.set_cons_succ, i64_w, i32_w]
               rfl
              refine pQ (i := 36) (N := some 87) (bb 43 137438953471) ?_
              refine pQ (i := 37) (N := some 88) (bb 43 274877906943) ?_
              refine pQ (i := 38) (N := some 89) (bb 43 549755813887) ?_
              refine pQ (i := 39) (N := some 90) (bb 43 1099511627775) ?_
              refine one_ (i := 40) (N := some 91) (bb 43 2199023255551) rfl rfl (one_of HT_.out (by kernel_rfl)) (by decide) (fun K hK => ?_)
              refine goes_ Try.func31 (by kernel_rfl) rfl #[] (by rfl) rfl rfl aG ?_
              with_reducible refine (constablelaw04_wakes.calls  t646 _ A63.out).mono ?_
              rintro e w84 ⟨rfl, hb⟩
              refine ⟨_, rfl, ?_⟩
              have n0_ := Aside0.mk (Kd.S_below (by (with_reducible repeat (first | apply Kd.S_alloc | apply Kd.S_drewN | apply Kd.S_drew)); exact HO630.out) hb)
              have n1_ := Aside0.mk (Kd.S_below (by (with_reducible repeat (first | apply Kd.S_alloc | apply Kd.S_drewN | apply Kd.S_drew)); exact HO634.out) hb)
              have n2_ := Aside0.mk (Kd.S_below (by (with_reducible repeat (first | apply Kd.S_alloc | apply Kd.S_drewN | apply Kd.S_drew)); exact HO638.out) hb)
              have n3_ := Aside0.mk (blk_below (g := gb621) (o := .cells #[.string a2_0, .slice A2_1 l2_1.length c2_1] 53 (0, 0)) (by refine bk ?_; exact BK621.out) hb)
              have n4_ := Aside0.mk (below_step (bB1 GE621.out) hb)
              clear HO630
              clear HO634
              clear HO638
              clear BK621
              clear HB
              have HO630 := n0_
              have HO634 := n1_
              have HO638 := n2_
              have BK621 := n3_
              have HB := n4_
              clear n0_ n1_ n2_ n3_ n4_
              (try clear hb)
              (try clear hb2)
              (try clear hk)
              (try clear hi)
              refine hK.out _ _ ⟨(blk_cell BK621.out 0).trans rfl, (blk_cell BK621.out 1).trans rfl⟩ (fun hHeld => ?_)
              clear hK K
              refine norm_ (a' := ?_) ?_ ?_
              rotate_left
              ·show Act.put _ (some 91) _ = _
               simp only [Act.put, List.setIfInBounds_toArray, List.set_cons_zero, List.set_cons_succ, i64_w, i32_w]
               rfl
              refine pQ (i := 41) (N := some 92) (bb 43 4398046511103) ?_
              refine pQ (i := 42) (N := some 6) (bb 43 8796093022207) ?_
              refine done_ (done_of HT_.out (by kernel_rfl)) ?_
              try go_wp2
              go_ret
              exact ⟨eW, (bB1 GE621.out)⟩
             ·rw [if_neg c62] at H
              exact absurd H (by simp)
           ·rw [if_neg c35] at H
            exact absurd H (by simp)
          ·replace c33 := Bool.eq_false_iff.mpr c33
           subst c33
           have H1 : (none) = some r := by rw [if_neg (show ¬ (false = true) by decide)] at H; exact H
           clear H
           have H := H1
           clear H1
           exact absurd H (by simp)
         ·replace c31 := Bool.eq_false_iff.mpr c31
          subst c31
          have H1 : (none) = some r := by rw [if_neg (show ¬ (false = true) by decide)] at H; exact H
          clear H
          have H := H1
          clear H1
          exact absurd H (by simp)
        ·rw [if_neg c29] at H
         exact absurd H (by simp)
       ·rw [if_neg c28] at H
        exact absurd H (by simp)
      ·rw [if_neg c27] at H
       exact absurd H (by simp)
     ·replace c23 := Bool.eq_false_iff.mpr c23
      subst c23
      have H1 : (some true) = some r := by rw [if_neg (show ¬ (false = true) by decide)] at H; exact H
      clear H
      have H := H1
      clear H1
      obtain rfl := Option.some.inj H
      go_enter Try.func10, Try.ntmps10
      go_wp2_with (first | ((with_reducible refine gate_dst (N := 5) rfl ?_); refine bE (N := 5) (cs := #[.string a2_0, .slice A2_1 l2_1.length c2_1]) (t := 53) ?_; intro gb621 hg w85 hbox hb; have n0_ := Aside0.mk (below_step bB0 hb); have n1_ := Aside0.mk (hbox); have n2_ := Aside0.mk ((by rw [hg]; exact (below_size bB0) : w.heap.size ≤ gb621)); have n3_ := Aside0.mk ((by rw [hg]; exact (below_size bB0) : w.heap.size ≤ gb621)); clear HB; have HB := n0_; have BK621 := n1_; have GW621 := n2_; have GE621 := n3_; clear n0_ n1_ n2_ n3_; clear hb hbox hg) | ((with_reducible refine gate_callee (f := 29) rfl ?_); refine goesL_ (some 14) rfl rfl Try.func29 (by kernel_rfl) rfl #[.slice A0 l0.length c0] rfl aG ?_; (with_reducible refine (constablelaw03_Many.calls k _ _ l0 false _ ?side1 ?side2 A4.out).mono ?_); (case side1 => exact sC (Kd.C_below HR0.out HB.out)); (case side2 => exact HC0.out); rintro e w86 ⟨rfl, hb⟩; refine ⟨_, rfl, ?_⟩; have n0_ := Aside0.mk (blk_below (g := gb621) (o := .cells #[.string a2_0, .slice A2_1 l2_1.length c2_1] 53 (0, 0)) (by refine bk ?_; exact BK621.out) hb); have n1_ := Aside0.mk (below_step (bB1 GE621.out) hb); clear BK621; clear HB; have BK621 := n0_; have HB := n1_; clear n0_ n1_; (try clear hb); (try clear hb2); (try clear hk); (try clear hi)) | (go_at_call 29; (with_reducible refine (constablelaw03_Many.calls k _ _ l1 false _ ?side1 ?side2 A8.out).mono ?_); (case side1 => exact sC (Kd.C_below HR1.out HB.out)); (case side2 => exact HC1.out); rintro e w87 ⟨rfl, hb⟩; have n0_ := Aside0.mk (blk_below (g := gb621) (o := .cells #[.string a2_0, .slice A2_1 l2_1.length c2_1] 53 (0, 0)) (by refine bk ?_; exact BK621.out) hb); have n1_ := Aside0.mk (below_step (bB1 GE621.out) hb); clear BK621; clear HB; have BK621 := n0_; have HB := n1_; clear n0_ n1_; (try clear hb); (try clear hb2); (try clear hk); (try clear hi); have hcz88_0 : w87.cell? ⟨gb621, 0, none⟩ = some (.string a2_0) := (blk_cell BK621.out 0).trans rfl; have hcz88_1 : w87.cell? ⟨gb621, 1, none⟩ = some (.slice A2_1 l2_1.length c2_1) := (blk_cell BK621.out 1).trans rfl; have hfz88_0 := blk_frozen BK621.out 0; have hfz88_1 := blk_frozen BK621.out 1) | (go_at_call 36; (with_reducible refine (constablelaw03_Heavy.calls k a2_0 _ _ l2_1 false _ ?side1 ?side2 A13.out).mono ?_); (case side1 => exact sC (Kd.C_below HR2_1.out HB.out)); (case side2 => exact HC2_1.out); rintro e w89 ⟨rfl, hb⟩; have n0_ := Aside0.mk (blk_below (g := gb621) (o := .cells #[.string a2_0, .slice A2_1 l2_1.length c2_1] 53 (0, 0)) (by refine bk ?_; exact BK621.out) hb); have n1_ := Aside0.mk (below_step (bB1 GE621.out) hb); clear BK621; clear HB; have BK621 := n0_; have HB := n1_; clear n0_ n1_; (try clear hb); (try clear hb2); (try clear hk); (try clear hi)) | (go_at_call 37; (with_reducible refine (constableref01_Set.calls k _ _ l0 true _ ?side1 ?side2 A20.out).mono ?_); (case side1 => exact sC (Kd.C_below HR0.out HB.out)); (case side2 => exact HC0.out); rintro e w90 ⟨rfl, hb⟩; have n0_ := Aside0.mk (blk_below (g := gb621) (o := .cells #[.string a2_0, .slice A2_1 l2_1.length c2_1] 53 (0, 0)) (by refine bk ?_; exact BK621.out) hb); have n1_ := Aside0.mk (below_step (bB1 GE621.out) hb); clear BK621; clear HB; have BK621 := n0_; have HB := n1_; clear n0_ n1_; (try clear hb); (try clear hb2); (try clear hk); (try clear hi)) | (go_at_call 37; (with_reducible refine (constableref01_Set.calls k _ _ l1 false _ ?side1 ?side2 A22.out).mono ?_); (case side1 => exact sC (Kd.C_below HR1.out HB.out)); (case side2 => exact HC1.out); rintro e w91 ⟨rfl, hb⟩; have n0_ := Aside0.mk (blk_below (g := gb621) (o := .cells #[.string a2_0, .slice A2_1 l2_1.length c2_1] 53 (0, 0)) (by refine bk ?_; exact BK621.out) hb); have n1_ := Aside0.mk (below_step (bB1 GE621.out) hb); clear BK621; clear HB; have BK621 := n0_; have HB := n1_; clear n0_ n1_; (try clear hb); (try clear hb2); (try clear hk); (try clear hi)))
      go_ret
      exact ⟨eW, (bB1 GE621.out)⟩
    ·replace c21 := Bool.eq_false_iff.mpr c21
     subst c21
     have H1 : (some true) = some r := by rw [if_neg (show ¬ (false = true) by decide)] at H; exact H
     clear H
     have H := H1
     clear H1
     obtain rfl := Option.some.inj H
     go_enter Try.func10, Try.ntmps10
     go_wp2_with (first | ((with_reducible refine gate_dst (N := 5) rfl ?_); refine bE (N := 5) (cs := #[.string a2_0, .slice A2_1 l2_1.length c2_1]) (t := 53) ?_; intro gb621 hg w92 hbox hb; have n0_ := Aside0.mk (below_step bB0 hb); have n1_ := Aside0.mk (hbox); have n2_ := Aside0.mk ((by rw [hg]; exact (below_size bB0) : w.heap.size ≤ gb621)); have n3_ := Aside0.mk ((by rw [hg]; exact (below_size bB0) : w.heap.size ≤ gb621)); clear HB; have HB := n0_; have BK621 := n1_; have GW621 := n2_; have GE621 := n3_; clear n0_ n1_ n2_ n3_; clear hb hbox hg) | ((with_reducible refine gate_callee (f := 29) rfl ?_); refine goesL_ (some 14) rfl rfl Try.func29 (by kernel_rfl) rfl #[.slice A0 l0.length c0] rfl aG ?_; (with_reducible refine (constablelaw03_Many.calls k _ _ l0 false _ ?side1 ?side2 A4.out).mono ?_); (case side1 => exact sC (Kd.C_below HR0.out HB.out)); (case side2 => exact HC0.out); rintro e w93 ⟨rfl, hb⟩; refine ⟨_, rfl, ?_⟩; have n0_ := Aside0.mk (blk_below (g := gb621) (o := .cells #[.string a2_0, .slice A2_1 l2_1.length c2_1] 53 (0, 0)) (by refine bk ?_; exact BK621.out) hb); have n1_ := Aside0.mk (below_step (bB1 GE621.out) hb); clear BK621; clear HB; have BK621 := n0_; have HB := n1_; clear n0_ n1_; (try clear hb); (try clear hb2); (try clear hk); (try clear hi)) | (go_at_call 29; (with_reducible refine (constablelaw03_Many.calls k _ _ l1 false _ ?side1 ?side2 A8.out).mono ?_); (case side1 => exact sC (Kd.C_below HR1.out HB.out)); (case side2 => exact HC1.out); rintro e w94 ⟨rfl, hb⟩; have n0_ := Aside0.mk (blk_below (g := gb621) (o := .cells #[.string a2_0, .slice A2_1 l2_1.length c2_1] 53 (0, 0)) (by refine bk ?_; exact BK621.out) hb); have n1_ := Aside0.mk (below_step (bB1 GE621.out) hb); clear BK621; clear HB; have BK621 := n0_; have HB := n1_; clear n0_ n1_; (try clear hb); (try clear hb2); (try clear hk); (try clear hi); have hcz95_0 : w94.cell? ⟨gb621, 0, none⟩ = some (.string a2_0) := (blk_cell BK621.out 0).trans rfl; have hcz95_1 : w94.cell? ⟨gb621, 1, none⟩ = some (.slice A2_1 l2_1.length c2_1) := (blk_cell BK621.out 1).trans rfl; have hfz95_0 := blk_frozen BK621.out 0; have hfz95_1 := blk_frozen BK621.out 1) | (go_at_call 36; (with_reducible refine (constablelaw03_Heavy.calls k a2_0 _ _ l2_1 false _ ?side1 ?side2 A13.out).mono ?_); (case side1 => exact sC (Kd.C_below HR2_1.out HB.out)); (case side2 => exact HC2_1.out); rintro e w96 ⟨rfl, hb⟩; have n0_ := Aside0.mk (blk_below (g := gb621) (o := .cells #[.string a2_0, .slice A2_1 l2_1.length c2_1] 53 (0, 0)) (by refine bk ?_; exact BK621.out) hb); have n1_ := Aside0.mk (below_step (bB1 GE621.out) hb); clear BK621; clear HB; have BK621 := n0_; have HB := n1_; clear n0_ n1_; (try clear hb); (try clear hb2); (try clear hk); (try clear hi)) | (go_at_call 37; (with_reducible refine (constableref01_Set.calls k _ _ l0 false _ ?side1 ?side2 A20.out).mono ?_); (case side1 => exact sC (Kd.C_below HR0.out HB.out)); (case side2 => exact HC0.out); rintro e w97 ⟨rfl, hb⟩; have n0_ := Aside0.mk (blk_below (g := gb621) (o := .cells #[.string a2_0, .slice A2_1 l2_1.length c2_1] 53 (0, 0)) (by refine bk ?_; exact BK621.out) hb); have n1_ := Aside0.mk (below_step (bB1 GE621.out) hb); clear BK621; clear HB; have BK621 := n0_; have HB := n1_; clear n0_ n1_; (try clear hb); (try clear hb2); (try clear hk); (try clear hi)))
     go_ret
     exact ⟨eW, (bB1 GE621.out)⟩

end Go.Proofs.Ytghommaokdhjmaa.P
/- What an argument's reading tells of its cells: whole numbers, texts, Values, Binds, and rows of them. -/
set_option linter.unusedVariables false
namespace Go.Proofs.Ytghommaokdhjmaa.Open
open Go.RowKit Go.Proofs.YtghommaokdhjmaaW.PrintWords Go.Proofs.Ytghommaokdhjmaa.P
variable {H : Type} {enc : TypeId × Value → H} {P : Program} {w : World} {base : Nat} {sp : Nat → Bool} {held : Bool}
theorem trod_int {t : TypeId} {k : IntKind} (ht : P.underlying t = some (.int k)) {fuel : Nat} {cs : List Value} {x : DataW H × List MemPlace} (h : DataW.trod enc P w base sp held fuel t cs = some x) : ∃ n, cs = [.int k n] ∧ (Lit.int k n).wf = true := by
  cases fuel with
  | zero => simp [DataW.trod] at h
  | succ n =>
    unfold DataW.trod at h
    rw [ht] at h
    split at h <;> simp_all
theorem trod_string {t : TypeId} (ht : P.underlying t = some .string) {fuel : Nat} {cs : List Value} {x : DataW H × List MemPlace} (h : DataW.trod enc P w base sp held fuel t cs = some x) : ∃ s, cs = [.string s] ∧ s.size ≤ maxLen := by
  cases fuel with
  | zero => simp [DataW.trod] at h
  | succ n =>
    unfold DataW.trod at h
    rw [ht] at h
    split at h <;> simp_all

/-- Readings of an element type tell a kind. -/
def Tells (H : Type) (enc : TypeId × Value → H) (P : Program) (base : Nat) (sp : Nat → Bool) (held : Bool) {α : Type} (d : Kd α) (e : TypeId) : Prop :=
  ∀ (w : World) (fuel : Nat) (cs : List Value) (x : DataW H × List MemPlace), DataW.trod enc P w base sp held fuel e cs = some x → ∃ p, d.K w p cs
theorem list_of {α : Type} {Q : Nat → α → Prop} : ∀ (n : Nat), (∀ i, i < n → ∃ p, Q i p) → ∃ l : List α, l.length = n ∧ ∀ j p, l[j]? = some p → Q j p
  | 0, _ => ⟨[], rfl, fun j p h => by simp at h⟩
  | n + 1, h => by
    obtain ⟨l, hl, hq⟩ := list_of n (fun i hi => h i (by omega))
    obtain ⟨p, hp⟩ := h n (by omega)
    refine ⟨l ++ [p], by simp [hl], fun j q hj => ?_⟩
    rcases Nat.lt_trichotomy j n with h1 | h1 | h1
    · rw [List.getElem?_append_left (by omega)] at hj; exact hq j q hj
    · subst h1
      rw [List.getElem?_append_right (by omega), hl, Nat.sub_self] at hj
      obtain rfl : p = q := by simpa using hj
      exact hp
    · rw [List.getElem?_eq_none (by simp; omega)] at hj; cases hj
theorem add_add' (a : Addr) (i j : Nat) : (a.add i).add j = a.add (i + j) := by
  unfold Addr.add
  by_cases hi : i = 0 <;> by_cases hj : j = 0 <;> simp [hi, hj, Nat.add_assoc]
theorem tells_row {α : Type} {d : Kd α} {t e : TypeId} (ht : P.underlying t = some (.slice e)) (hs : P.cellsOf e = d.sz) (hd : Tells H enc P base sp held d e) {fuel : Nat} {cs : List Value} {x : DataW H × List MemPlace}
    (h : DataW.trod enc P w base sp held fuel t cs = some x) : ∃ (A : Option Addr) (c : Nat) (l : List α), cs = [.slice A l.length c] ∧ l.length ≤ c ∧ Kd.C d w A l.length l := by
  rcases DataW.trod_slice ht h with ⟨rfl, _⟩ | ⟨a, len, cap, elems, rest, n, _, rfl, _, _, hl, hcm, hlen, hel, _⟩
  · exact ⟨none, 0, [], rfl, Nat.le_refl _, rfl, by simp, fun h => absurd h (Nat.lt_irrefl _)⟩
  · have hex : ∀ i, i < len → ∃ (p : α), ∃ c : List Value, c.length = d.sz ∧ d.K w p c ∧ ∀ j u, c[j]? = some u → w.cell? (a.add (i * d.sz + j)) = some u := by
      intro i hi
      have h1 := hel i hi
      rw [List.getElem?_eq_getElem (by omega), Option.bind_eq_some_iff] at h1
      obtain ⟨c, hc, htr⟩ := h1
      obtain ⟨p, hp⟩ := hd w _ _ _ htr
      obtain ⟨_, hcl, hcell⟩ := World.cells?_some hc
      refine ⟨p, c, by rw [hcl, hs], hp, fun j u hj => ?_⟩
      have hj' : j < P.cellsOf e := by rw [← hcl]; exact (List.getElem?_eq_some_iff.1 hj).1
      rw [← hs, ← add_add', hcell j hj', hj]
    obtain ⟨l, hll, hq⟩ := list_of len hex
    refine ⟨some a, cap, l, by rw [hll], by omega, rfl, by unfold maxLen at hcm; omega, fun _ => ⟨a, rfl, hq⟩⟩

set_option maxRecDepth 100000 in
theorem tells24 : Tells H enc Try.prog base sp held k24 24 := by
  intro w fuel cs x h
  obtain ⟨xs, n, _, rfl, hl, hlen, hf⟩ := DataW.trod_struct Try.underlying24 h
  have hc : Try.prog.cellsOf 24 = 3 := by kernel_rfl
  have h9 : Try.prog.cellsOf 9 = 1 := by kernel_rfl
  have h3 : Try.prog.cellsOf 3 = 1 := by kernel_rfl
  rw [hc] at hl
  obtain ⟨a, b, c, rfl⟩ : ∃ a b c, cs = [a, b, c] := by
    match cs, hl with
    | [a, b, c], _ => exact ⟨a, b, c, rfl⟩
  obtain ⟨y0, y1, y2, rfl⟩ : ∃ y0 y1 y2, xs = [y0, y1, y2] := by
    match xs, hlen with
    | [y0, y1, y2], _ => exact ⟨y0, y1, y2, rfl⟩
  have g0 : DataW.trod enc Try.prog w base sp held n 3 (List.take (Try.prog.cellsOf 3) (List.drop 0 [a, b, c])) = some y0 := hf 0 _ rfl
  have g1 : DataW.trod enc Try.prog w base sp held n 3 (List.take (Try.prog.cellsOf 3) (List.drop 1 [a, b, c])) = some y1 := hf 1 _ rfl
  have g2 : DataW.trod enc Try.prog w base sp held n 9 (List.take (Try.prog.cellsOf 9) (List.drop 2 [a, b, c])) = some y2 := hf 2 _ rfl
  rw [h3] at g0 g1
  rw [h9] at g2
  obtain ⟨n0, e0, _⟩ := trod_int Try.underlying3 g0
  obtain ⟨n1, e1, _⟩ := trod_int Try.underlying3 g1
  obtain ⟨s2, e2, _⟩ := trod_string Try.underlying9 g2
  obtain rfl : a = _ := by simpa using e0
  obtain rfl : b = _ := by simpa using e1
  obtain rfl : c = _ := by simpa using e2
  exact ⟨⟨n0, n1, s2⟩, k24_mk w _⟩
set_option maxRecDepth 100000 in
theorem tells39 : Tells H enc Try.prog base sp held k39 39 := by
  intro w fuel cs x h
  obtain ⟨xs, n, _, rfl, hl, hlen, hf⟩ := DataW.trod_struct Try.underlying39 h
  have hc : Try.prog.cellsOf 39 = 4 := by kernel_rfl
  have h9 : Try.prog.cellsOf 9 = 1 := by kernel_rfl
  have h3 : Try.prog.cellsOf 24 = 3 := by kernel_rfl
  rw [hc] at hl
  obtain ⟨a, b, c, e, rfl⟩ : ∃ a b c e, cs = [a, b, c, e] := by
    match cs, hl with
    | [a, b, c, e], _ => exact ⟨a, b, c, e, rfl⟩
  obtain ⟨y0, y1, rfl⟩ : ∃ y0 y1, xs = [y0, y1] := by
    match xs, hlen with
    | [y0, y1], _ => exact ⟨y0, y1, rfl⟩
  have g0 : DataW.trod enc Try.prog w base sp held n 9 (List.take (Try.prog.cellsOf 9) (List.drop 0 [a, b, c, e])) = some y0 := hf 0 _ rfl
  have g1 : DataW.trod enc Try.prog w base sp held n 24 (List.take (Try.prog.cellsOf 24) (List.drop 1 [a, b, c, e])) = some y1 := hf 1 _ rfl
  rw [h9] at g0
  rw [h3] at g1
  obtain ⟨s0, e0, _⟩ := trod_string Try.underlying9 g0
  obtain ⟨v, hv⟩ := tells24 w _ _ _ g1
  obtain rfl : a = _ := by simpa using e0
  have hv' := k24_open hv
  simp only [List.drop_succ_cons, List.drop_zero, List.take_succ_cons, List.take_zero, List.cons.injEq, and_true] at hv'
  obtain ⟨rfl, rfl, rfl⟩ := hv'
  exact ⟨⟨s0, v⟩, k39_mk w _⟩
end Go.Proofs.Ytghommaokdhjmaa.Open
/- What an argument's reading tells of its cells: Terms, Facts, Atoms; no condition. -/
set_option linter.unusedVariables false
namespace Go.Proofs.Ytghommaokdhjmaa.Open
open Go.RowKit Go.Proofs.YtghommaokdhjmaaW.PrintWords Go.Proofs.Ytghommaokdhjmaa.P
variable {H : Type} {enc : TypeId × Value → H} {P : Program} {w : World} {base : Nat} {sp : Nat → Bool} {held : Bool}
set_option maxRecDepth 100000 in
theorem tells77 : Tells H enc Try.prog base sp held k77 77 := by
  intro w fuel cs x h
  obtain ⟨xs, n, _, rfl, hl, hlen, hf⟩ := DataW.trod_struct Try.underlying77 h
  have hc : Try.prog.cellsOf 77 = 4 := by kernel_rfl
  have h9 : Try.prog.cellsOf 9 = 1 := by kernel_rfl
  have h3 : Try.prog.cellsOf 24 = 3 := by kernel_rfl
  rw [hc] at hl
  obtain ⟨a, b, c, e, rfl⟩ : ∃ a b c e, cs = [a, b, c, e] := by
    match cs, hl with
    | [a, b, c, e], _ => exact ⟨a, b, c, e, rfl⟩
  obtain ⟨y0, y1, rfl⟩ : ∃ y0 y1, xs = [y0, y1] := by
    match xs, hlen with
    | [y0, y1], _ => exact ⟨y0, y1, rfl⟩
  have g0 : DataW.trod enc Try.prog w base sp held n 9 (List.take (Try.prog.cellsOf 9) (List.drop 0 [a, b, c, e])) = some y0 := hf 0 _ rfl
  have g1 : DataW.trod enc Try.prog w base sp held n 24 (List.take (Try.prog.cellsOf 24) (List.drop 1 [a, b, c, e])) = some y1 := hf 1 _ rfl
  rw [h9] at g0
  rw [h3] at g1
  obtain ⟨s0, e0, _⟩ := trod_string Try.underlying9 g0
  obtain ⟨v, hv⟩ := tells24 w _ _ _ g1
  obtain rfl : a = _ := by simpa using e0
  have hv' := k24_open hv
  simp only [List.drop_succ_cons, List.drop_zero, List.take_succ_cons, List.take_zero, List.cons.injEq, and_true] at hv'
  obtain ⟨rfl, rfl, rfl⟩ := hv'
  exact ⟨⟨s0, v⟩, k77_mk w _⟩
set_option maxRecDepth 100000 in
theorem tells53 : Tells H enc Try.prog base sp held k53 53 := by
  intro w fuel cs x h
  obtain ⟨xs, n, _, rfl, hl, hlen, hf⟩ := DataW.trod_struct Try.underlying53 h
  have hc : Try.prog.cellsOf 53 = 2 := by kernel_rfl
  have h9 : Try.prog.cellsOf 9 = 1 := by kernel_rfl
  have h3 : Try.prog.cellsOf 51 = 1 := by kernel_rfl
  rw [hc] at hl
  obtain ⟨a, b, rfl⟩ : ∃ a b, cs = [a, b] := by
    match cs, hl with
    | [a, b], _ => exact ⟨a, b, rfl⟩
  obtain ⟨y0, y1, rfl⟩ : ∃ y0 y1, xs = [y0, y1] := by
    match xs, hlen with
    | [y0, y1], _ => exact ⟨y0, y1, rfl⟩
  have g0 : DataW.trod enc Try.prog w base sp held n 9 (List.take (Try.prog.cellsOf 9) (List.drop 0 [a, b])) = some y0 := hf 0 _ rfl
  have g1 : DataW.trod enc Try.prog w base sp held n 51 (List.take (Try.prog.cellsOf 51) (List.drop 1 [a, b])) = some y1 := hf 1 _ rfl
  rw [h9] at g0
  rw [h3] at g1
  obtain ⟨s0, e0, _⟩ := trod_string Try.underlying9 g0
  obtain ⟨A, c, l, hcs, hlc, hC⟩ := tells_row Try.underlying51 (by kernel_rfl) tells24 g1
  obtain rfl : a = _ := by simpa using e0
  obtain rfl : b = _ := by simpa using hcs
  exact ⟨⟨s0, l⟩, k53_mk w ⟨s0, l⟩ hlc hC⟩
set_option maxRecDepth 100000 in
theorem tells69 : Tells H enc Try.prog base sp held k69 69 := by
  intro w fuel cs x h
  obtain ⟨xs, n, _, rfl, hl, hlen, hf⟩ := DataW.trod_struct Try.underlying69 h
  have hc : Try.prog.cellsOf 69 = 2 := by kernel_rfl
  have h9 : Try.prog.cellsOf 9 = 1 := by kernel_rfl
  have h3 : Try.prog.cellsOf 67 = 1 := by kernel_rfl
  rw [hc] at hl
  obtain ⟨a, b, rfl⟩ : ∃ a b, cs = [a, b] := by
    match cs, hl with
    | [a, b], _ => exact ⟨a, b, rfl⟩
  obtain ⟨y0, y1, rfl⟩ : ∃ y0 y1, xs = [y0, y1] := by
    match xs, hlen with
    | [y0, y1], _ => exact ⟨y0, y1, rfl⟩
  have g0 : DataW.trod enc Try.prog w base sp held n 9 (List.take (Try.prog.cellsOf 9) (List.drop 0 [a, b])) = some y0 := hf 0 _ rfl
  have g1 : DataW.trod enc Try.prog w base sp held n 67 (List.take (Try.prog.cellsOf 67) (List.drop 1 [a, b])) = some y1 := hf 1 _ rfl
  rw [h9] at g0
  rw [h3] at g1
  obtain ⟨s0, e0, _⟩ := trod_string Try.underlying9 g0
  obtain ⟨A, c, l, hcs, hlc, hC⟩ := tells_row Try.underlying67 (by kernel_rfl) tells77 g1
  obtain rfl : a = _ := by simpa using e0
  obtain rfl : b = _ := by simpa using hcs
  exact ⟨⟨s0, l⟩, k69_mk w ⟨s0, l⟩ hlc hC⟩
end Go.Proofs.Ytghommaokdhjmaa.Open
/- SetsBoth's plain law: the printed function answers true from some number of rounds on; no condition. -/
set_option linter.unusedVariables false
set_option linter.unusedSimpArgs false
namespace Go.Proofs.Ytghommaokdhjmaa.Pure
open Go.RowKit Go.Lib Go.Proofs.YtghommaokdhjmaaW.PrintWords Go.Proofs.Ytghommaokdhjmaa.P Go.Proofs.Ytghommaokdhjmaa.Str Go.Proofs.Ytghommaokdhjmaa.CmpF Go.Proofs.Ytghommaokdhjmaa.Fct Go.Proofs.Ytghommaokdhjmaa.FactC Go.Proofs.Ytghommaokdhjmaa.SetsW Go.Proofs.Ytghommaokdhjmaa.PSets Go.Proofs.Ytghommaokdhjmaa.RefS
theorem both_eq {l m : List S53} (hl : fitL l = true) (hm : fitL m = true) (h : IsSet l) (h2 : IsSet m) : sets_Both.f l m = some (setO cf53 (l ++ m), 0) := by
  unfold sets_Both.f
  rw [if_pos ⟨hl, hm⟩]
  have : chk2 l m = 0 := by
    unfold chk2
    rw [if_pos ⟨(chkF_zero l).2 h, (chkF_zero m).2 h2⟩]
  rw [if_pos this]
theorem setsBoth (l m : List S53) (a2 : ByteArray) (l2 : List S24) : ∃ k, constablelaw04_SetsBoth.f k l m a2 l2 = some true := by
  refine Ev.rounds ?_
  unfold constablelaw04_SetsBoth.f
  rcases many_cases l with h | ⟨h, h60, hs⟩
  · exact Ev.bind h (by simp only [if_true]; exact Ev.now _)
  refine Ev.bind h ?_
  simp only [Bool.false_eq_true, if_false]
  have hl := small_fits h60 hs
  rcases many_cases m with h1 | ⟨h1, h61, hs1⟩
  · exact Ev.bind h1 (by simp only [if_true]; exact Ev.now _)
  refine Ev.bind h1 ?_
  simp only [Bool.false_eq_true, if_false]
  have hm := small_fits h61 hs1
  rcases heavy_cases a2 l2 with h2 | ⟨h2, hs2⟩
  · exact Ev.bind h2 (by simp only [if_true]; exact Ev.now _)
  refine Ev.bind h2 ?_
  simp only [Bool.false_eq_true, if_false]
  obtain ⟨z, hz⟩ : ∃ z : S53, z = ⟨a2, l2⟩ := ⟨_, rfl⟩
  rw [← hz] at hs2
  have fz := small_fit hs2
  obtain ⟨rfl, rfl⟩ : z.f0 = a2 ∧ z.f1 = l2 := by rw [hz]; exact ⟨rfl, rfl⟩
  clear hz
  refine Ev.bind (ev_rset l hl) ?_
  by_cases hset : chkF l = 0
  · rw [hset, show ((0 : Int) == 0) = true from rfl]
    simp only [if_true]
    have hi : IsSet l := (chkF_zero l).1 hset
    refine Ev.bind (ev_rset m hm) ?_
    by_cases hset2 : chkF m = 0
    · rw [hset2, show ((0 : Int) == 0) = true from rfl]
      simp only [if_true]
      have hi2 : IsSet m := (chkF_zero m).1 hset2
      have hf2 : fitL (l ++ m) = true := fitL_iff.2 ⟨fun x hx => by
        rcases List.mem_append.1 hx with h | h
        · exact (fitL_iff.1 hl).1 x h
        · exact (fitL_iff.1 hm).1 x h, by rw [List.length_append]; omega⟩
      have hw2 : (l ++ m).any wrongF = false := by rw [List.any_append, hi.1, hi2.1]; rfl
      have fa := set_fit hf2
      have sa := set_is hw2
      have ma : ∀ x, x ∈ setO cf53 (l ++ m) ↔ x ∈ l ∨ x ∈ m := fun x => by rw [setO_mem ord53, List.mem_append]
      have e1 : setO cf53 (m ++ l) = setO cf53 (l ++ m) := set_same fun x => by rw [List.mem_append, List.mem_append]; exact Or.comm
      have e2 : setO cf53 (l ++ l) = l := (set_same fun x => by rw [List.mem_append]; exact or_self_iff).trans (set_own hi)
      simp only [both_eq hl hm hi hi2, both_eq hm hl hi2 hi, both_eq hl hl hi hi, Option.bind_some, if_true, e1, e2]
      generalize setO cf53 (l ++ m) = a at fa sa ma
      refine Ev.bind (facts_same _ fa) ?_
      simp only [if_true]
      refine Ev.bind (facts_same _ hl) ?_
      simp only [if_true]
      refine Ev.bind (chk_set fa sa) ?_
      simp only [if_true]
      obtain ⟨b1, e3, m1⟩ := has_eq fa fz
      obtain ⟨b2, e4, m2⟩ := has_eq hl fz
      obtain ⟨b3, e5, m3⟩ := has_eq hm fz
      rw [e3, e4]
      simp only [Option.bind_some]
      cases b2 with
      | true =>
        obtain rfl := m1.2 ((ma z).2 (.inl (m2.1 rfl)))
        exact Ev.now _
      | false =>
        simp only [Bool.false_eq_true, if_false, e5, Option.bind_some]
        have h13 : b1 = b3 := by
          rw [Bool.eq_iff_iff, m1, m3, ma]
          exact ⟨fun h => h.resolve_left (fun h => by have := m2.2 h; cases this), .inr⟩
        subst h13
        simp only [beq_self_eq_true, if_true]
        exact Ev.now _
    · rw [(chkF_one m).resolve_left hset2, show ((1 : Int) == 0) = false from rfl]
      simp only [Bool.false_eq_true, if_false]
      exact Ev.now _
  · rw [(chkF_one l).resolve_left hset, show ((1 : Int) == 0) = false from rfl]
    simp only [Bool.false_eq_true, if_false]
    exact Ev.now _
end Go.Proofs.Ytghommaokdhjmaa.Pure
/- The row of SetsBoth: whatever the input, true; out of the printed walk and the plain law. -/
namespace Go.Proofs.Ytghommaokdhjmaa.setsBoth
open Go.ChangeShapes Go.WideShapes Go.ChangeAt Go.RowKit Go.Proofs.YtghommaokdhjmaaW.PrintWords Go.Proofs.Ytghommaokdhjmaa.P Go.Proofs.Ytghommaokdhjmaa.Open
open Go.ChangeMaps (open_string shut_string)
set_option linter.unusedVariables false
theorem own : ownKnob Try.prog.godebug = none := by kernel_rfl
theorem laidOut : laidOutB Try.prog = true := by kernel_rfl
set_option maxRecDepth 100000 in
theorem lifted (os : Os) (started : os.Started) (H : Type) (enc : TypeId × Value → H) :
    ReturnsInHanded {} Try.checked os 10 .any (Rows.setsBothSpec.pre6 enc Try.prog Try.f10 Rows.setsBothRow.domain false) (Rows.setsBothSpec.post enc Try.prog Try.f10 false true false false) := by
  refine returnsInHanded_of_change_sized (C := Try.checked) own started (by kernel_rfl) Try.func10
    (ChangeSpec.witness6 (enc := enc) (C := Try.checked) false ⟨#[], #[.slice none 0 0, .slice none 0 0, .agg #[.string ByteArray.empty, .slice none 0 0]], []⟩ 8 (by kernel_rfl) (by kernel_rfl) (by kernel_rfl) (by kernel_rfl)) ?_
  intro W base args ds gs before hval0 hW hcnd hsz0 _
  have hval : ∀ (j : Nat) t v, Try.f10.params[j]? = some t → args[j]? = some v → Value.okWide Try.prog W .any base t v := hval0
  have hW' := hW
  obtain ⟨p, q, hA0, hV, rfl, hfz, hnd⟩ := hW
  have hA : DataW.TrodAll enc Try.prog W 0 (fun _ => true) true Try.f10.params.toList args.toList ds p := hA0
  rw [Try.params10] at hA hval
  obtain ⟨v0, vs0, d0, ds0, p0, q0, hargs, rfl, rfl, h0, r0⟩ := trodAll_cons hA
  obtain ⟨v1, vs1, d1, ds1, p1, q1, rfl, rfl, rfl, h1, r1⟩ := trodAll_cons r0
  obtain ⟨v2, vs2, d2, ds2, p2, q2, rfl, rfl, rfl, h2, r2⟩ := trodAll_cons r1
  obtain ⟨rfl, rfl, rfl⟩ := trodAll_nil r2
  obtain rfl : args = #[v0, v1, v2] := by cases args; simp_all
  obtain ⟨rfl, rfl⟩ := trodVars_none hV
  obtain ⟨a0, len0, cap0, rfl⟩ := okWide_slice Try.underlying46 (hval 0 46 v0 rfl rfl)
  have k0 := h0
  have lt0 : ∀ x ∈ p0, x.block < W.heap.size := by obtain ⟨m, hm⟩ := k0; exact DataW.trod_lt m _ _ _ hm
  obtain ⟨l0, rfl, hc0, hr0⟩ : ∃ l : List S53, len0 = l.length ∧ l.length ≤ cap0 ∧ Kd.C k53 W a0 l.length l := by
    obtain ⟨fuel, hf⟩ := h0
    obtain ⟨A, c, l, hcs, hl, hC⟩ := tells_row Try.underlying46 (by kernel_rfl) tells53 hf
    simp [Value.cells] at hcs
    obtain ⟨rfl, rfl, rfl⟩ := hcs
    exact ⟨l, rfl, hl, hC⟩
  obtain ⟨a1, len1, cap1, rfl⟩ := okWide_slice Try.underlying46 (hval 1 46 v1 rfl rfl)
  have k1 := h1
  have lt1 : ∀ x ∈ p1, x.block < W.heap.size := by obtain ⟨m, hm⟩ := k1; exact DataW.trod_lt m _ _ _ hm
  obtain ⟨l1, rfl, hc1, hr1⟩ : ∃ l : List S53, len1 = l.length ∧ l.length ≤ cap1 ∧ Kd.C k53 W a1 l.length l := by
    obtain ⟨fuel, hf⟩ := h1
    obtain ⟨A, c, l, hcs, hl, hC⟩ := tells_row Try.underlying46 (by kernel_rfl) tells53 hf
    simp [Value.cells] at hcs
    obtain ⟨rfl, rfl, rfl⟩ := hcs
    exact ⟨l, rfl, hl, hC⟩
  obtain ⟨u2, rfl, _⟩ := okWide_struct Try.underlying53 (hval 2 53 v2 rfl rfl)
  have k2 := h2
  have lt2 : ∀ x ∈ p2, x.block < W.heap.size := by obtain ⟨m, hm⟩ := k2; exact DataW.trod_lt m _ _ _ hm
  obtain ⟨x2, a2, cap2, rfl, hc2, hr2⟩ : ∃ (x : S53) (a : Option Addr) (c : Nat), u2 = #[.string x.f0, .slice a x.f1.length c] ∧ x.f1.length ≤ c ∧ Kd.C k24 W a x.f1.length x.f1 := by
    obtain ⟨fuel, hf⟩ := h2
    obtain ⟨p, hp⟩ := tells53 W _ _ _ hf
    obtain ⟨a, c, e, hl, hC⟩ := k53_open hp
    exact ⟨p, a, c, Array.toList_inj.1 (by simpa [Value.cells] using e), hl, hC⟩
  clear hA0 hval0 hsz0
  obtain ⟨kf, hkf⟩ := Pure.setsBoth l0 l1 x2.f0 x2.f1
  refine (P.constablelaw04_SetsBoth.calls kf a0 cap0 l0 a1 cap1 l1 x2.f0 a2 cap2 x2.f1 true W hr0 hc0 hr1 hc1 hr2 hc2 hkf).mono fun e W' ⟨he, bel⟩ => ?_
  subst he
  exact ⟨_, rfl, _, _, _, [], _, [], hW', trodAll_mk1 (shut_bool Try.underlying4 _), (trodAll_cons_mk (Below.trod laidOut (by kernel_rfl) (of_decide_eq_true (by kernel_rfl)) k0 bel lt0) (trodAll_cons_mk (Below.trod laidOut (by kernel_rfl) (of_decide_eq_true (by kernel_rfl)) k1 bel lt1) (trodAll_cons_mk (Below.trod laidOut (by kernel_rfl) (of_decide_eq_true (by kernel_rfl)) k2 bel lt2) trodAll_mk0))), rfl, bel.frame _, fun h => by cases h⟩
theorem over : Rows.setsBothRow.holds Try.pinned (OpenSpec.ofChange Rows.setsBothSpec) :=
  OpenClaim.holds_of_wide 10 Try.f10 rfl rfl rfl rfl rfl rfl rfl ⟨rfl, rfl, rfl, rfl, rfl⟩ rfl rfl rfl rfl rfl (by kernel_rfl) Try.func10 (by kernel_rfl)
    (of_decide_eq_true (by kernel_rfl)) (by unfold Func.isWrapper; first | (rw [if_pos (by decide +kernel)]; kernel_rfl) | (rw [if_neg (by decide +kernel)]; exact ⟨rfl, rfl⟩))
    (fun os started H enc _ => lifted os started H enc)
theorem proved : Rows.SetsBothSaid := over
end Go.Proofs.Ytghommaokdhjmaa.setsBoth
namespace Go.Proofs.Ytghommaokdhjmaa
/-- The row, under a short name, for the claim. -/
theorem setsBoth_holds : Rows.SetsBothSaid := setsBoth.proved
#print axioms setsBoth_holds
end Go.Proofs.Ytghommaokdhjmaa
