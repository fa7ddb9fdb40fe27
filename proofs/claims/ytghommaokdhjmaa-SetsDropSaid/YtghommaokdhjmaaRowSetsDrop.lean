/- The row of SetsDrop, and what it rests on; no condition. -/
import Derived.Test.YtghommaokdhjmaaSPC2
import Derived.ChangeSame
import Derived.ChangeArms
import Derived.Test.YtghommaokdhjmaaRows
import Derived.WalkKit
import Derived.ProofKit
import Derived.OpenShut
import Derived.ShutString
import Derived.ChangeOld
import Derived.Below
import Derived.SizedLaws
namespace Go.Proofs.Ytghommaokdhjmaa.P
open Go.RowKit Go.Proofs.YtghommaokdhjmaaW.PrintWords Go.Proofs.YtghommaokdhjmaaW.PrintLast Go.Proofs.Ytghommaokdhjmaa.Gate
set_option linter.unusedVariables false
set_option linter.unusedSimpArgs false

/-! ### constablelaw04_SetsDrop: function 8 -/
def constablelaw04_SetsDrop.f (k : Nat) (l0 : List (S53)) (a1_0 : ByteArray) (l1_1 : List (S24)) (a2_0 : ByteArray) (l2_1 : List (S24)) : Option (Bool) := (constablelaw03_Many.f k l0).bind fun t483 => (if t483 = true then (some true) else ((constablelaw03_Heavy.f k a1_0 l1_1).bind fun t484 => (if t484 = true then (some true) else ((constablelaw03_Heavy.f k a2_0 l2_1).bind fun t485 => (if t485 = true then (some true) else ((constableref01_Set.f k l0).bind fun t486 => (if t486 = true then ((constableref01_Fact.f k a1_0 l1_1).bind fun t487 => (if t487 = true then ((sets_Put.f l0 a1_0 l1_1).bind fun bt488 => ((sets_Drop.f bt488.1 a1_0 l1_1).bind fun bt492 => ((sets_Drop.f l0 a1_0 l1_1).bind fun bt496 => (if bt488.2 = 0 then (if bt492.2 = 0 then (if bt496.2 = 0 then ((sets_Has.f bt488.1 a1_0 l1_1).bind fun t500 => (if t500 = true then ((sets_Has.f bt492.1 a1_0 l1_1).bind fun t501 => (if t501 = true then (none) else ((constablekeep_Facts.f k bt492.1 bt496.1).bind fun t502 => (if t502 = true then ((constablekeep_Fact.f k a1_0 l1_1 a2_0 l2_1).bind fun t503 => (if t503 = true then ((constablelaw04_wakes.f).bind fun t504 => (some t504)) else ((sets_Has.f bt488.1 a2_0 l2_1).bind fun t505 => ((sets_Has.f l0 a2_0 l2_1).bind fun t506 => (if (t505 == t506) = true then ((sets_Has.f bt492.1 a2_0 l2_1).bind fun t507 => ((sets_Has.f l0 a2_0 l2_1).bind fun t508 => (if (t507 == t508) = true then ((sets_Has.f l0 a1_0 l1_1).bind fun t509 => (if t509 = true then ((constablelaw04_wakes.f).bind fun t510 => (some t510)) else ((constablekeep_Facts.f k bt492.1 l0).bind fun t511 => (if t511 = true then ((constablelaw04_wakes.f).bind fun t512 => (some t512)) else (none))))) else (none)))) else (none)))))) else (none))))) else (none))) else (none)) else (none)) else (none))))) else (some true))) else (some true))))))))
def constablelaw04_SetsDrop.T10 : Bool × List (List Nat × List Nat) := (true, [([], []), ([], []), ([0, 1], [0, 1]), ([], []), ([], []), ([3, 4, 2], [3, 4]), ([2, 5], [2, 5]), ([6, 5], [6]), ([7], [7]), ([7], [7]), ([8, 9, 7, 7], [7, 8, 9]), ([7], [7]), ([7], [7]), ([11, 12, 10, 7], [7, 11, 12]), ([10, 13, 7], [7, 10, 13]), ([7, 14], [7, 14]), ([15, 13], [15]), ([16], [16]), ([16], [16]), ([17, 18, 16, 16], [16, 17, 18]), ([19, 19, 16], [16, 19]), ([20], [20]), ([20], [20]), ([21, 22, 20, 20], [20, 21, 22]), ([20, 23, 16], [16, 20, 23]), ([16, 24], [16, 24]), ([25, 23], [25]), ([26, 26], [26]), ([26, 27], [26, 27]), ([28, 27, 0, 1, 2, 3, 4, 5, 6, 7, 8, 9, 10, 11, 12, 13, 14, 15, 16, 17, 18, 19, 20, 21, 22, 23, 24, 25, 26, 27, 28], [28])])
def constablelaw04_SetsDrop.B10 : List Nat := [0, 0, 3, 0, 0, 31, 63, 127, 255, 255, 1023, 255, 255, 8191, 16383, 32767, 65535, 131071, 131071, 524287, 1048575, 2097151, 2097151, 8388607, 16777215, 33554431, 67108863, 134217727, 268435455, 536870911]
theorem constablelaw04_SetsDrop.tab10 : rtab .any (opsOf Try.f8 10) = constablelaw04_SetsDrop.T10 := by kernel_rfl
theorem constablelaw04_SetsDrop.bits10 : waitsOk constablelaw04_SetsDrop.T10.2 constablelaw04_SetsDrop.B10 = true := by kernel_rfl
set_option maxHeartbeats 8000000 in
set_option maxRecDepth 100000 in
theorem constablelaw04_SetsDrop.calls (k : Nat) (A0 : Option Addr) (c0 : Nat) (l0 : List (S53)) (a1_0 : ByteArray) (A1_1 : Option Addr) (c1_1 : Nat) (l1_1 : List (S24)) (a2_0 : ByteArray) (A2_1 : Option Addr) (c2_1 : Nat) (l2_1 : List (S24)) (r : Bool) (w : World) (hr0 : Kd.C k53 w A0 l0.length l0) (hc0 : l0.length ≤ c0) (hr1_1 : Kd.C k24 w A1_1 l1_1.length l1_1) (hc1_1 : l1_1.length ≤ c1_1) (hr2_1 : Kd.C k24 w A2_1 l2_1.length l2_1) (hc2_1 : l2_1.length ≤ c2_1) (h : constablelaw04_SetsDrop.f k l0 a1_0 l1_1 a2_0 l2_1 = some r) :
  Calls Try.prog 8 #[.slice A0 l0.length c0, .agg #[.string a1_0, .slice A1_1 l1_1.length c1_1], .agg #[.string a2_0, .slice A2_1 l2_1.length c2_1]] w fun e w' => e = .returned (.bool r) ∧ Below w.heap.size w w' := by
 have hu53 := Try.underlying53
 have HR0 := Aside0.mk hr0
 have HC0 := Aside0.mk hc0
 clear hr0 hc0
 have HR1_1 := Aside0.mk hr1_1
 have HC1_1 := Aside0.mk hc1_1
 clear hr1_1 hc1_1
 have HR2_1 := Aside0.mk hr2_1
 have HC2_1 := Aside0.mk hc2_1
 clear hr2_1 hc2_1
 have HB := Aside0.mk (Below.refl w.heap.size w)
 have H : ((constablelaw03_Many.f k l0).bind fun t483 => (if t483 = true then (some true) else ((constablelaw03_Heavy.f k a1_0 l1_1).bind fun t484 => (if t484 = true then (some true) else ((constablelaw03_Heavy.f k a2_0 l2_1).bind fun t485 => (if t485 = true then (some true) else ((constableref01_Set.f k l0).bind fun t486 => (if t486 = true then ((constableref01_Fact.f k a1_0 l1_1).bind fun t487 => (if t487 = true then ((sets_Put.f l0 a1_0 l1_1).bind fun bt488 => ((sets_Drop.f bt488.1 a1_0 l1_1).bind fun bt492 => ((sets_Drop.f l0 a1_0 l1_1).bind fun bt496 => (if bt488.2 = 0 then (if bt492.2 = 0 then (if bt496.2 = 0 then ((sets_Has.f bt488.1 a1_0 l1_1).bind fun t500 => (if t500 = true then ((sets_Has.f bt492.1 a1_0 l1_1).bind fun t501 => (if t501 = true then (none) else ((constablekeep_Facts.f k bt492.1 bt496.1).bind fun t502 => (if t502 = true then ((constablekeep_Fact.f k a1_0 l1_1 a2_0 l2_1).bind fun t503 => (if t503 = true then ((constablelaw04_wakes.f).bind fun t504 => (some t504)) else ((sets_Has.f bt488.1 a2_0 l2_1).bind fun t505 => ((sets_Has.f l0 a2_0 l2_1).bind fun t506 => (if (t505 == t506) = true then ((sets_Has.f bt492.1 a2_0 l2_1).bind fun t507 => ((sets_Has.f l0 a2_0 l2_1).bind fun t508 => (if (t507 == t508) = true then ((sets_Has.f l0 a1_0 l1_1).bind fun t509 => (if t509 = true then ((constablelaw04_wakes.f).bind fun t510 => (some t510)) else ((constablekeep_Facts.f k bt492.1 l0).bind fun t511 => (if t511 = true then ((constablelaw04_wakes.f).bind fun t512 => (some t512)) else (none))))) else (none)))) else (none)))))) else (none))))) else (none))) else (none)) else (none)) else (none))))) else (some true))) else (some true))))))))) = some r := h
 clear h
 replace H := Option.bind_eq_some_iff.mp H
 obtain ⟨t483, A40, H⟩ := H
 replace H : (if t483 = true then (some true) else ((constablelaw03_Heavy.f k a1_0 l1_1).bind fun t484 => (if t484 = true then (some true) else ((constablelaw03_Heavy.f k a2_0 l2_1).bind fun t485 => (if t485 = true then (some true) else ((constableref01_Set.f k l0).bind fun t486 => (if t486 = true then ((constableref01_Fact.f k a1_0 l1_1).bind fun t487 => (if t487 = true then ((sets_Put.f l0 a1_0 l1_1).bind fun bt488 => ((sets_Drop.f bt488.1 a1_0 l1_1).bind fun bt492 => ((sets_Drop.f l0 a1_0 l1_1).bind fun bt496 => (if bt488.2 = 0 then (if bt492.2 = 0 then (if bt496.2 = 0 then ((sets_Has.f bt488.1 a1_0 l1_1).bind fun t500 => (if t500 = true then ((sets_Has.f bt492.1 a1_0 l1_1).bind fun t501 => (if t501 = true then (none) else ((constablekeep_Facts.f k bt492.1 bt496.1).bind fun t502 => (if t502 = true then ((constablekeep_Fact.f k a1_0 l1_1 a2_0 l2_1).bind fun t503 => (if t503 = true then ((constablelaw04_wakes.f).bind fun t504 => (some t504)) else ((sets_Has.f bt488.1 a2_0 l2_1).bind fun t505 => ((sets_Has.f l0 a2_0 l2_1).bind fun t506 => (if (t505 == t506) = true then ((sets_Has.f bt492.1 a2_0 l2_1).bind fun t507 => ((sets_Has.f l0 a2_0 l2_1).bind fun t508 => (if (t507 == t508) = true then ((sets_Has.f l0 a1_0 l1_1).bind fun t509 => (if t509 = true then ((constablelaw04_wakes.f).bind fun t510 => (some t510)) else ((constablekeep_Facts.f k bt492.1 l0).bind fun t511 => (if t511 = true then ((constablelaw04_wakes.f).bind fun t512 => (some t512)) else (none))))) else (none)))) else (none)))))) else (none))))) else (none))) else (none)) else (none)) else (none))))) else (some true))) else (some true)))))))) = some r := H
 have A4 := Aside0.mk A40
 clear A40
 by_cases c5 : t483 = true
 ·subst c5
  have H1 : (some true) = some r := by rw [if_pos rfl] at H; exact H
  clear H
  have H := H1
  clear H1
  obtain rfl := Option.some.inj H
  go_enter Try.func8, Try.ntmps8
  go_wp2_with (first | ((with_reducible refine gate_dst (N := 4) rfl ?_); refine bE (N := 4) (cs := #[.string a1_0, .slice A1_1 l1_1.length c1_1]) (t := 53) ?_; intro gb481 hg w6 hbox hb; have n0_ := Aside0.mk (below_step bB0 hb); have n1_ := Aside0.mk (hbox); have n2_ := Aside0.mk ((by rw [hg]; exact (below_size bB0) : w.heap.size ≤ gb481)); have n3_ := Aside0.mk ((by rw [hg]; exact (below_size bB0) : w.heap.size ≤ gb481)); clear HB; have HB := n0_; have BK481 := n1_; have GW481 := n2_; have GE481 := n3_; clear n0_ n1_ n2_ n3_; clear hb hbox hg) | ((with_reducible refine gate_dst (N := 5) rfl ?_); refine bE (N := 5) (cs := #[.string a2_0, .slice A2_1 l2_1.length c2_1]) (t := 53) ?_; intro gb482 hg w7 hbox hb; have n0_ := Aside0.mk (blk_below (g := gb481) (o := .cells #[.string a1_0, .slice A1_1 l1_1.length c1_1] 53 (0, 0)) (by refine bk ?_; exact BK481.out) hb); have n1_ := Aside0.mk (below_step (bB1 GE481.out) hb); have n2_ := Aside0.mk (hbox); have n3_ := Aside0.mk ((by rw [hg]; exact (below_size (bB1 GE481.out)) : w.heap.size ≤ gb482)); have n4_ := Aside0.mk ((by rw [hg]; exact (below_size (bB1 GE481.out)) : w.heap.size ≤ gb482)); have n5_ := Aside0.mk ((by rw [hg]; exact Nat.ne_of_lt (blk_lt (g := gb481) (o := .cells #[.string a1_0, .slice A1_1 l1_1.length c1_1] 53 (0, 0)) (by refine bk ?_; exact BK481.out)) : gb481 ≠ gb482)); have n6_ := Aside0.mk ((by rw [hg]; exact Nat.ne_of_gt (blk_lt (g := gb481) (o := .cells #[.string a1_0, .slice A1_1 l1_1.length c1_1] 53 (0, 0)) (by refine bk ?_; exact BK481.out)) : gb482 ≠ gb481)); clear BK481; clear HB; have BK481 := n0_; have HB := n1_; have BK482 := n2_; have GW482 := n3_; have GE482 := n4_; have NB481_482 := n5_; have NB482_481 := n6_; clear n0_ n1_ n2_ n3_ n4_ n5_ n6_; clear hb hbox hg) | ((with_reducible refine gate_callee (f := 29) rfl ?_); refine goesL_ (some 14) rfl rfl Try.func29 (by kernel_rfl) rfl #[.slice A0 l0.length c0] rfl aG ?_; (with_reducible refine (constablelaw03_Many.calls k _ _ l0 true _ ?side1 ?side2 A4.out).mono ?_); (case side1 => exact sC (Kd.C_below HR0.out HB.out)); (case side2 => exact HC0.out); rintro e w8 ⟨rfl, hb⟩; refine ⟨_, rfl, ?_⟩; have n0_ := Aside0.mk (blk_below (g := gb481) (o := .cells #[.string a1_0, .slice A1_1 l1_1.length c1_1] 53 (0, 0)) (by refine bk ?_; exact BK481.out) hb); have n1_ := Aside0.mk (blk_below (g := gb482) (o := .cells #[.string a2_0, .slice A2_1 l2_1.length c2_1] 53 (0, 0)) (by refine bk ?_; exact BK482.out) hb); have n2_ := Aside0.mk (below_step (bB2 GE481.out GE482.out) hb); clear BK481; clear BK482; clear HB; have BK481 := n0_; have BK482 := n1_; have HB := n2_; clear n0_ n1_ n2_; (try clear hb); (try clear hb2); (try clear hk); (try clear hi)))
  go_ret
  exact ⟨eW, (bB2 GE481.out GE482.out)⟩
 ·replace c5 := Bool.eq_false_iff.mpr c5
  subst c5
  have H1 : ((constablelaw03_Heavy.f k a1_0 l1_1).bind fun t484 => (if t484 = true then (some true) else ((constablelaw03_Heavy.f k a2_0 l2_1).bind fun t485 => (if t485 = true then (some true) else ((constableref01_Set.f k l0).bind fun t486 => (if t486 = true then ((constableref01_Fact.f k a1_0 l1_1).bind fun t487 => (if t487 = true then ((sets_Put.f l0 a1_0 l1_1).bind fun bt488 => ((sets_Drop.f bt488.1 a1_0 l1_1).bind fun bt492 => ((sets_Drop.f l0 a1_0 l1_1).bind fun bt496 => (if bt488.2 = 0 then (if bt492.2 = 0 then (if bt496.2 = 0 then ((sets_Has.f bt488.1 a1_0 l1_1).bind fun t500 => (if t500 = true then ((sets_Has.f bt492.1 a1_0 l1_1).bind fun t501 => (if t501 = true then (none) else ((constablekeep_Facts.f k bt492.1 bt496.1).bind fun t502 => (if t502 = true then ((constablekeep_Fact.f k a1_0 l1_1 a2_0 l2_1).bind fun t503 => (if t503 = true then ((constablelaw04_wakes.f).bind fun t504 => (some t504)) else ((sets_Has.f bt488.1 a2_0 l2_1).bind fun t505 => ((sets_Has.f l0 a2_0 l2_1).bind fun t506 => (if (t505 == t506) = true then ((sets_Has.f bt492.1 a2_0 l2_1).bind fun t507 => ((sets_Has.f l0 a2_0 l2_1).bind fun t508 => (if (t507 == t508) = true then ((sets_Has.f l0 a1_0 l1_1).bind fun t509 => (if t509 = true then ((constablelaw04_wakes.f).bind fun t510 => (some t510)) else ((constablekeep_Facts.f k bt492.1 l0).bind fun t511 => (if t511 = true then ((constablelaw04_wakes.f).bind fun t512 => (some t512)) else (none))))) else (none)))) else (none)))))) else (none))))) else (none))) else (none)) else (none)) else (none))))) else (some true))) else (some true))))))) = some r := by rw [if_neg (show ¬ (false = true) by decide)] at H; exact H
  clear H
  have H := H1
  clear H1
  replace H := Option.bind_eq_some_iff.mp H
  obtain ⟨t484, A90, H⟩ := H
  replace H : (if t484 = true then (some true) else ((constablelaw03_Heavy.f k a2_0 l2_1).bind fun t485 => (if t485 = true then (some true) else ((constableref01_Set.f k l0).bind fun t486 => (if t486 = true then ((constableref01_Fact.f k a1_0 l1_1).bind fun t487 => (if t487 = true then ((sets_Put.f l0 a1_0 l1_1).bind fun bt488 => ((sets_Drop.f bt488.1 a1_0 l1_1).bind fun bt492 => ((sets_Drop.f l0 a1_0 l1_1).bind fun bt496 => (if bt488.2 = 0 then (if bt492.2 = 0 then (if bt496.2 = 0 then ((sets_Has.f bt488.1 a1_0 l1_1).bind fun t500 => (if t500 = true then ((sets_Has.f bt492.1 a1_0 l1_1).bind fun t501 => (if t501 = true then (none) else ((constablekeep_Facts.f k bt492.1 bt496.1).bind fun t502 => (if t502 = true then ((constablekeep_Fact.f k a1_0 l1_1 a2_0 l2_1).bind fun t503 => (if t503 = true then ((constablelaw04_wakes.f).bind fun t504 => (some t504)) else ((sets_Has.f bt488.1 a2_0 l2_1).bind fun t505 => ((sets_Has.f l0 a2_0 l2_1).bind fun t506 => (if (t505 == t506) = true then ((sets_Has.f bt492.1 a2_0 l2_1).bind fun t507 => ((sets_Has.f l0 a2_0 l2_1).bind fun t508 => (if (t507 == t508) = true then ((sets_Has.f l0 a1_0 l1_1).bind fun t509 => (if t509 = true then ((constablelaw04_wakes.f).bind fun t510 => (some t510)) else ((constablekeep_Facts.f k bt492.1 l0).bind fun t511 => (if t511 = true then ((constablelaw04_wakes.f).bind fun t512 => (some t512)) else (none))))) else (none)))) else (none)))))) else (none))))) else (none))) else (none)) else (none)) else (none))))) else (some true))) else (some true)))))) = some r := H
  have A9 := Aside0.mk A90
  clear A90
  by_cases c10 : t484 = true
  ·subst c10
   have H1 : (some true) = some r := by rw [if_pos rfl] at H; exact H
   clear H
   have H := H1
   clear H1
   obtain rfl := Option.some.inj H
   go_enter Try.func8, Try.ntmps8
   go_wp2_with (first | ((with_reducible refine gate_dst (N := 4) rfl ?_); refine bE (N := 4) (cs := #[.string a1_0, .slice A1_1 l1_1.length c1_1]) (t := 53) ?_; intro gb481 hg w11 hbox hb; have n0_ := Aside0.mk (below_step bB0 hb); have n1_ := Aside0.mk (hbox); have n2_ := Aside0.mk ((by rw [hg]; exact (below_size bB0) : w.heap.size ≤ gb481)); have n3_ := Aside0.mk ((by rw [hg]; exact (below_size bB0) : w.heap.size ≤ gb481)); clear HB; have HB := n0_; have BK481 := n1_; have GW481 := n2_; have GE481 := n3_; clear n0_ n1_ n2_ n3_; clear hb hbox hg) | ((with_reducible refine gate_dst (N := 5) rfl ?_); refine bE (N := 5) (cs := #[.string a2_0, .slice A2_1 l2_1.length c2_1]) (t := 53) ?_; intro gb482 hg w12 hbox hb; have n0_ := Aside0.mk (blk_below (g := gb481) (o := .cells #[.string a1_0, .slice A1_1 l1_1.length c1_1] 53 (0, 0)) (by refine bk ?_; exact BK481.out) hb); have n1_ := Aside0.mk (below_step (bB1 GE481.out) hb); have n2_ := Aside0.mk (hbox); have n3_ := Aside0.mk ((by rw [hg]; exact (below_size (bB1 GE481.out)) : w.heap.size ≤ gb482)); have n4_ := Aside0.mk ((by rw [hg]; exact (below_size (bB1 GE481.out)) : w.heap.size ≤ gb482)); have n5_ := Aside0.mk ((by rw [hg]; exact Nat.ne_of_lt (blk_lt (g := gb481) (o := .cells #[.string a1_0, .slice A1_1 l1_1.length c1_1] 53 (0, 0)) (by refine bk ?_; exact BK481.out)) : gb481 ≠ gb482)); have n6_ := Aside0.mk ((by rw [hg]; exact Nat.ne_of_gt (blk_lt (g := gb481) (o := .cells #[.string a1_0, .slice A1_1 l1_1.length c1_1] 53 (0, 0)) (by refine bk ?_; exact BK481.out)) : gb482 ≠ gb481)); clear BK481; clear HB; have BK481 := n0_; have HB := n1_; have BK482 := n2_; have GW482 := n3_; have GE482 := n4_; have NB481_482 := n5_; have NB482_481 := n6_; clear n0_ n1_ n2_ n3_ n4_ n5_ n6_; clear hb hbox hg) | ((with_reducible refine gate_callee (f := 29) rfl ?_); refine goesL_ (some 14) rfl rfl Try.func29 (by kernel_rfl) rfl #[.slice A0 l0.length c0] rfl aG ?_; (with_reducible refine (constablelaw03_Many.calls k _ _ l0 false _ ?side1 ?side2 A4.out).mono ?_); (case side1 => exact sC (Kd.C_below HR0.out HB.out)); (case side2 => exact HC0.out); rintro e w13 ⟨rfl, hb⟩; refine ⟨_, rfl, ?_⟩; have n0_ := Aside0.mk (blk_below (g := gb481) (o := .cells #[.string a1_0, .slice A1_1 l1_1.length c1_1] 53 (0, 0)) (by refine bk ?_; exact BK481.out) hb); have n1_ := Aside0.mk (blk_below (g := gb482) (o := .cells #[.string a2_0, .slice A2_1 l2_1.length c2_1] 53 (0, 0)) (by refine bk ?_; exact BK482.out) hb); have n2_ := Aside0.mk (below_step (bB2 GE481.out GE482.out) hb); clear BK481; clear BK482; clear HB; have BK481 := n0_; have BK482 := n1_; have HB := n2_; clear n0_ n1_ n2_; (try clear hb); (try clear hb2); (try clear hk); (try clear hi); have hnb14 := NB481_482.out; have hnc14 := NB482_481.out; have hcz15_0 : w13.cell? ⟨gb481, 0, none⟩ = some (.string a1_0) := (blk_cell BK481.out 0).trans rfl; have hcz15_1 : w13.cell? ⟨gb481, 1, none⟩ = some (.slice A1_1 l1_1.length c1_1) := (blk_cell BK481.out 1).trans rfl; have hfz15_0 := blk_frozen BK481.out 0; have hfz15_1 := blk_frozen BK481.out 1) | (go_at_call 36; (with_reducible refine (constablelaw03_Heavy.calls k a1_0 _ _ l1_1 true _ ?side1 ?side2 A9.out).mono ?_); (case side1 => exact sC (Kd.C_below HR1_1.out HB.out)); (case side2 => exact HC1_1.out); rintro e w16 ⟨rfl, hb⟩; have n0_ := Aside0.mk (blk_below (g := gb481) (o := .cells #[.string a1_0, .slice A1_1 l1_1.length c1_1] 53 (0, 0)) (by refine bk ?_; exact BK481.out) hb); have n1_ := Aside0.mk (blk_below (g := gb482) (o := .cells #[.string a2_0, .slice A2_1 l2_1.length c2_1] 53 (0, 0)) (by refine bk ?_; exact BK482.out) hb); have n2_ := Aside0.mk (below_step (bB2 GE481.out GE482.out) hb); clear BK481; clear BK482; clear HB; have BK481 := n0_; have BK482 := n1_; have HB := n2_; clear n0_ n1_ n2_; (try clear hb); (try clear hb2); (try clear hk); (try clear hi)))
   go_ret
   exact ⟨eW, (bB2 GE481.out GE482.out)⟩
  ·replace c10 := Bool.eq_false_iff.mpr c10
   subst c10
   have H1 : ((constablelaw03_Heavy.f k a2_0 l2_1).bind fun t485 => (if t485 = true then (some true) else ((constableref01_Set.f k l0).bind fun t486 => (if t486 = true then ((constableref01_Fact.f k a1_0 l1_1).bind fun t487 => (if t487 = true then ((sets_Put.f l0 a1_0 l1_1).bind fun bt488 => ((sets_Drop.f bt488.1 a1_0 l1_1).bind fun bt492 => ((sets_Drop.f l0 a1_0 l1_1).bind fun bt496 => (if bt488.2 = 0 then (if bt492.2 = 0 then (if bt496.2 = 0 then ((sets_Has.f bt488.1 a1_0 l1_1).bind fun t500 => (if t500 = true then ((sets_Has.f bt492.1 a1_0 l1_1).bind fun t501 => (if t501 = true then (none) else ((constablekeep_Facts.f k bt492.1 bt496.1).bind fun t502 => (if t502 = true then ((constablekeep_Fact.f k a1_0 l1_1 a2_0 l2_1).bind fun t503 => (if t503 = true then ((constablelaw04_wakes.f).bind fun t504 => (some t504)) else ((sets_Has.f bt488.1 a2_0 l2_1).bind fun t505 => ((sets_Has.f l0 a2_0 l2_1).bind fun t506 => (if (t505 == t506) = true then ((sets_Has.f bt492.1 a2_0 l2_1).bind fun t507 => ((sets_Has.f l0 a2_0 l2_1).bind fun t508 => (if (t507 == t508) = true then ((sets_Has.f l0 a1_0 l1_1).bind fun t509 => (if t509 = true then ((constablelaw04_wakes.f).bind fun t510 => (some t510)) else ((constablekeep_Facts.f k bt492.1 l0).bind fun t511 => (if t511 = true then ((constablelaw04_wakes.f).bind fun t512 => (some t512)) else (none))))) else (none)))) else (none)))))) else (none))))) else (none))) else (none)) else (none)) else (none))))) else (some true))) else (some true))))) = some r := by rw [if_neg (show ¬ (false = true) by decide)] at H; exact H
   clear H
   have H := H1
   clear H1
   replace H := Option.bind_eq_some_iff.mp H
   obtain ⟨t485, A170, H⟩ := H
   replace H : (if t485 = true then (some true) else ((constableref01_Set.f k l0).bind fun t486 => (if t486 = true then ((constableref01_Fact.f k a1_0 l1_1).bind fun t487 => (if t487 = true then ((sets_Put.f l0 a1_0 l1_1).bind fun bt488 => ((sets_Drop.f bt488.1 a1_0 l1_1).bind fun bt492 => ((sets_Drop.f l0 a1_0 l1_1).bind fun bt496 => (if bt488.2 = 0 then (if bt492.2 = 0 then (if bt496.2 = 0 then ((sets_Has.f bt488.1 a1_0 l1_1).bind fun t500 => (if t500 = true then ((sets_Has.f bt492.1 a1_0 l1_1).bind fun t501 => (if t501 = true then (none) else ((constablekeep_Facts.f k bt492.1 bt496.1).bind fun t502 => (if t502 = true then ((constablekeep_Fact.f k a1_0 l1_1 a2_0 l2_1).bind fun t503 => (if t503 = true then ((constablelaw04_wakes.f).bind fun t504 => (some t504)) else ((sets_Has.f bt488.1 a2_0 l2_1).bind fun t505 => ((sets_Has.f l0 a2_0 l2_1).bind fun t506 => (if (t505 == t506) = true then ((sets_Has.f bt492.1 a2_0 l2_1).bind fun t507 => ((sets_Has.f l0 a2_0 l2_1).bind fun t508 => (if (t507 == t508) = true then ((sets_Has.f l0 a1_0 l1_1).bind fun t509 => (if t509 = true then ((constablelaw04_wakes.f).bind fun t510 => (some t510)) else ((constablekeep_Facts.f k bt492.1 l0).bind fun t511 => (if t511 = true then ((constablelaw04_wakes.f).bind fun t512 => (some t512)) else (none))))) else (none)))) else (none)))))) else (none))))) else (none))) else (none)) else (none)) else (none))))) else (some true))) else (some true)))) = some r := H
   have A17 := Aside0.mk A170
   clear A170
   by_cases c18 : t485 = true
   ·subst c18
    have H1 : (some true) = some r := by rw [if_pos rfl] at H; exact H
    clear H
    have H := H1
    clear H1
    obtain rfl := Option.some.inj H
    go_enter Try.func8, Try.ntmps8
    go_wp2_with (first | ((with_reducible refine gate_dst (N := 4) rfl ?_); refine bE (N := 4) (cs := #[.string a1_0, .slice A1_1 l1_1.length c1_1]) (t := 53) ?_; intro gb481 hg w19 hbox hb; have n0_ := Aside0.mk (below_step bB0 hb); have n1_ := Aside0.mk (hbox); have n2_ := Aside0.mk ((by rw [hg]; exact (below_size bB0) : w.heap.size ≤ gb481)); have n3_ := Aside0.mk ((by rw [hg]; exact (below_size bB0) : w.heap.size ≤ gb481)); clear HB; have HB := n0_; have BK481 := n1_; have GW481 := n2_; have GE481 := n3_; clear n0_ n1_ n2_ n3_; clear hb hbox hg) | ((with_reducible refine gate_dst (N := 5) rfl ?_); refine bE (N := 5) (cs := #[.string a2_0, .slice A2_1 l2_1.length c2_1]) (t := 53) ?_; intro gb482 hg w20 hbox hb; have n0_ := Aside0.mk (blk_below (g := gb481) (o := .cells #[.string a1_0, .slice A1_1 l1_1.length c1_1] 53 (0, 0)) (by refine bk ?_; exact BK481.out) hb); have n1_ := Aside0.mk (below_step (bB1 GE481.out) hb); have n2_ := Aside0.mk (hbox); have n3_ := Aside0.mk ((by rw [hg]; exact (below_size (bB1 GE481.out)) : w.heap.size ≤ gb482)); have n4_ := Aside0.mk ((by rw [hg]; exact (below_size (bB1 GE481.out)) : w.heap.size ≤ gb482)); have n5_ := Aside0.mk ((by rw [hg]; exact Nat.ne_of_lt (blk_lt (g := gb481) (o := .cells #[.string a1_0, .slice A1_1 l1_1.length c1_1] 53 (0, 0)) (by refine bk ?_; exact BK481.out)) : gb481 ≠ gb482)); have n6_ := Aside0.mk ((by rw [hg]; exact Nat.ne_of_gt (blk_lt (g := gb481) (o := .cells #[.string a1_0, .slice A1_1 l1_1.length c1_1] 53 (0, 0)) (by refine bk ?_; exact BK481.out)) : gb482 ≠ gb481)); clear BK481; clear HB; have BK481 := n0_; have HB := n1_; have BK482 := n2_; have GW482 := n3_; have GE482 := n4_; have NB481_482 := n5_; have NB482_481 := n6_; clear n0_ n1_ n2_ n3_ n4_ n5_ n6_; clear hb hbox hg) | ((with_reducible refine gate_callee (f := 29) rfl ?_); refine goesL_ (some 14) rfl rfl Try.func29 (by kernel_rfl) rfl #[.slice A0 l0.length c0] rfl aG ?_; (with_reducible refine (constablelaw03_Many.calls k _ _ l0 false _ ?side1 ?side2 A4.out).mono ?_); (case side1 => exact sC (Kd.C_below HR0.out HB.out)); (case side2 => exact HC0.out); rintro e w21 ⟨rfl, hb⟩; refine ⟨_, rfl, ?_⟩; have n0_ := Aside0.mk (blk_below (g := gb481) (o := .cells #[.string a1_0, .slice A1_1 l1_1.length c1_1] 53 (0, 0)) (by refine bk ?_; exact BK481.out) hb); have n1_ := Aside0.mk (blk_below (g := gb482) (o := .cells #[.string a2_0, .slice A2_1 l2_1.length c2_1] 53 (0, 0)) (by refine bk ?_; exact BK482.out) hb); have n2_ := Aside0.mk (below_step (bB2 GE481.out GE482.out) hb); clear BK481; clear BK482; clear HB; have BK481 := n0_; have BK482 := n1_; have HB := n2_; clear n0_ n1_ n2_; (try clear hb); (try clear hb2); (try clear hk); (try clear hi); have hnb22 := NB481_482.out; have hnc22 := NB482_481.out; have hcz23_0 : w21.cell? ⟨gb481, 0, none⟩ = some (.string a1_0) := (blk_cell BK481.out 0).trans rfl; have hcz23_1 : w21.cell? ⟨gb481, 1, none⟩ = some (.slice A1_1 l1_1.length c1_1) := (blk_cell BK481.out 1).trans rfl; have hfz23_0 := blk_frozen BK481.out 0; have hfz23_1 := blk_frozen BK481.out 1) | (go_at_call 36; (with_reducible refine (constablelaw03_Heavy.calls k a1_0 _ _ l1_1 false _ ?side1 ?side2 A9.out).mono ?_); (case side1 => exact sC (Kd.C_below HR1_1.out HB.out)); (case side2 => exact HC1_1.out); rintro e w24 ⟨rfl, hb⟩; have n0_ := Aside0.mk (blk_below (g := gb481) (o := .cells #[.string a1_0, .slice A1_1 l1_1.length c1_1] 53 (0, 0)) (by refine bk ?_; exact BK481.out) hb); have n1_ := Aside0.mk (blk_below (g := gb482) (o := .cells #[.string a2_0, .slice A2_1 l2_1.length c2_1] 53 (0, 0)) (by refine bk ?_; exact BK482.out) hb); have n2_ := Aside0.mk (below_step (bB2 GE481.out GE482.out) hb); clear BK481; clear BK482; clear HB; have BK481 := n0_; have BK482 := n1_; have HB := n2_; clear n0_ n1_ n2_; (try clear hb); (try clear hb2); (try clear hk); (try clear hi); have hcz25_0 : w24.cell? ⟨gb482, 0, none⟩ = some (.string a2_0) := (blk_cell BK482.out 0).trans rfl; have hcz25_1 : w24.cell? ⟨gb482, 1, none⟩ = some (.slice A2_1 l2_1.length c2_1) := (blk_cell BK482.out 1).trans rfl; have hfz25_0 := blk_frozen BK482.out 0; have hfz25_1 := blk_frozen BK482.out 1) | (go_at_call 36; (with_reducible refine (constablelaw03_Heavy.calls k a2_0 _ _ l2_1 true _ ?side1 ?side2 A17.out).mono ?_); (case side1 => exact sC (Kd.C_below HR2_1.out HB.out)); (case side2 => exact HC2_1.out); rintro e w26 ⟨rfl, hb⟩; have n0_ := Aside0.mk (blk_below (g := gb481) (o := .cells #[.string a1_0, .slice A1_1 l1_1.length c1_1] 53 (0, 0)) (by refine bk ?_; exact BK481.out) hb); have n1_ := Aside0.mk (blk_below (g := gb482) (o := .cells #[.string a2_0, .slice A2_1 l2_1.length c2_1] 53 (0, 0)) (by refine bk ?_; exact BK482.out) hb); have n2_ := Aside0.mk (below_step (bB2 GE481.out GE482.out) hb); clear BK481; clear BK482; clear HB; have BK481 := n0_; have BK482 := n1_; have HB := n2_; clear n0_ n1_ n2_; (try clear hb); (try clear hb2); (try clear hk); (try clear hi)))
    go_ret
    exact ⟨eW, (bB2 GE481.out GE482.out)⟩
   ·replace c18 := Bool.eq_false_iff.mpr c18
    subst c18
    have H1 : ((constableref01_Set.f k l0).bind fun t486 => (if t486 = true then ((constableref01_Fact.f k a1_0 l1_1).bind fun t487 => (if t487 = true then ((sets_Put.f l0 a1_0 l1_1).bind fun bt488 => ((sets_Drop.f bt488.1 a1_0 l1_1).bind fun bt492 => ((sets_Drop.f l0 a1_0 l1_1).bind fun bt496 => (if bt488.2 = 0 then (if bt492.2 = 0 then (if bt496.2 = 0 then ((sets_Has.f bt488.1 a1_0 l1_1).bind fun t500 => (if t500 = true then ((sets_Has.f bt492.1 a1_0 l1_1).bind fun t501 => (if t501 = true then (none) else ((constablekeep_Facts.f k bt492.1 bt496.1).bind fun t502 => (if t502 = true then ((constablekeep_Fact.f k a1_0 l1_1 a2_0 l2_1).bind fun t503 => (if t503 = true then ((constablelaw04_wakes.f).bind fun t504 => (some t504)) else ((sets_Has.f bt488.1 a2_0 l2_1).bind fun t505 => ((sets_Has.f l0 a2_0 l2_1).bind fun t506 => (if (t505 == t506) = true then ((sets_Has.f bt492.1 a2_0 l2_1).bind fun t507 => ((sets_Has.f l0 a2_0 l2_1).bind fun t508 => (if (t507 == t508) = true then ((sets_Has.f l0 a1_0 l1_1).bind fun t509 => (if t509 = true then ((constablelaw04_wakes.f).bind fun t510 => (some t510)) else ((constablekeep_Facts.f k bt492.1 l0).bind fun t511 => (if t511 = true then ((constablelaw04_wakes.f).bind fun t512 => (some t512)) else (none))))) else (none)))) else (none)))))) else (none))))) else (none))) else (none)) else (none)) else (none))))) else (some true))) else (some true))) = some r := by rw [if_neg (show ¬ (false = true) by decide)] at H; exact H
    clear H
    have H := H1
    clear H1
    replace H := Option.bind_eq_some_iff.mp H
    obtain ⟨t486, A270, H⟩ := H
    replace H : (if t486 = true then ((constableref01_Fact.f k a1_0 l1_1).bind fun t487 => (if t487 = true then ((sets_Put.f l0 a1_0 l1_1).bind fun bt488 => ((sets_Drop.f bt488.1 a1_0 l1_1).bind fun bt492 => ((sets_Drop.f l0 a1_0 l1_1).bind fun bt496 => (if bt488.2 = 0 then (if bt492.2 = 0 then (if bt496.2 = 0 then ((sets_Has.f bt488.1 a1_0 l1_1).bind fun t500 => (if t500 = true then ((sets_Has.f bt492.1 a1_0 l1_1).bind fun t501 => (if t501 = true then (none) else ((constablekeep_Facts.f k bt492.1 bt496.1).bind fun t502 => (if t502 = true then ((constablekeep_Fact.f k a1_0 l1_1 a2_0 l2_1).bind fun t503 => (if t503 = true then ((constablelaw04_wakes.f).bind fun t504 => (some t504)) else ((sets_Has.f bt488.1 a2_0 l2_1).bind fun t505 => ((sets_Has.f l0 a2_0 l2_1).bind fun t506 => (if (t505 == t506) = true then ((sets_Has.f bt492.1 a2_0 l2_1).bind fun t507 => ((sets_Has.f l0 a2_0 l2_1).bind fun t508 => (if (t507 == t508) = true then ((sets_Has.f l0 a1_0 l1_1).bind fun t509 => (if t509 = true then ((constablelaw04_wakes.f).bind fun t510 => (some t510)) else ((constablekeep_Facts.f k bt492.1 l0).bind fun t511 => (if t511 = true then ((constablelaw04_wakes.f).bind fun t512 => (some t512)) else (none))))) else (none)))) else (none)))))) else (none))))) else (none))) else (none)) else (none)) else (none))))) else (some true))) else (some true)) = some r := H
    have A27 := Aside0.mk A270
    clear A270
    by_cases c28 : t486 = true
    ·subst c28
     have H1 : ((constableref01_Fact.f k a1_0 l1_1).bind fun t487 => (if t487 = true then ((sets_Put.f l0 a1_0 l1_1).bind fun bt488 => ((sets_Drop.f bt488.1 a1_0 l1_1).bind fun bt492 => ((sets_Drop.f l0 a1_0 l1_1).bind fun bt496 => (if bt488.2 = 0 then (if bt492.2 = 0 then (if bt496.2 = 0 then ((sets_Has.f bt488.1 a1_0 l1_1).bind fun t500 => (if t500 = true then ((sets_Has.f bt492.1 a1_0 l1_1).bind fun t501 => (if t501 = true then (none) else ((constablekeep_Facts.f k bt492.1 bt496.1).bind fun t502 => (if t502 = true then ((constablekeep_Fact.f k a1_0 l1_1 a2_0 l2_1).bind fun t503 => (if t503 = true then ((constablelaw04_wakes.f).bind fun t504 => (some t504)) else ((sets_Has.f bt488.1 a2_0 l2_1).bind fun t505 => ((sets_Has.f l0 a2_0 l2_1).bind fun t506 => (if (t505 == t506) = true then ((sets_Has.f bt492.1 a2_0 l2_1).bind fun t507 => ((sets_Has.f l0 a2_0 l2_1).bind fun t508 => (if (t507 == t508) = true then ((sets_Has.f l0 a1_0 l1_1).bind fun t509 => (if t509 = true then ((constablelaw04_wakes.f).bind fun t510 => (some t510)) else ((constablekeep_Facts.f k bt492.1 l0).bind fun t511 => (if t511 = true then ((constablelaw04_wakes.f).bind fun t512 => (some t512)) else (none))))) else (none)))) else (none)))))) else (none))))) else (none))) else (none)) else (none)) else (none))))) else (some true))) = some r := by rw [if_pos rfl] at H; exact H
     clear H
     have H := H1
     clear H1
     replace H := Option.bind_eq_some_iff.mp H
     obtain ⟨t487, A290, H⟩ := H
     replace H : (if t487 = true then ((sets_Put.f l0 a1_0 l1_1).bind fun bt488 => ((sets_Drop.f bt488.1 a1_0 l1_1).bind fun bt492 => ((sets_Drop.f l0 a1_0 l1_1).bind fun bt496 => (if bt488.2 = 0 then (if bt492.2 = 0 then (if bt496.2 = 0 then ((sets_Has.f bt488.1 a1_0 l1_1).bind fun t500 => (if t500 = true then ((sets_Has.f bt492.1 a1_0 l1_1).bind fun t501 => (if t501 = true then (none) else ((constablekeep_Facts.f k bt492.1 bt496.1).bind fun t502 => (if t502 = true then ((constablekeep_Fact.f k a1_0 l1_1 a2_0 l2_1).bind fun t503 => (if t503 = true then ((constablelaw04_wakes.f).bind fun t504 => (some t504)) else ((sets_Has.f bt488.1 a2_0 l2_1).bind fun t505 => ((sets_Has.f l0 a2_0 l2_1).bind fun t506 => (if (t505 == t506) = true then ((sets_Has.f bt492.1 a2_0 l2_1).bind fun t507 => ((sets_Has.f l0 a2_0 l2_1).bind fun t508 => (if (t507 == t508) = true then ((sets_Has.f l0 a1_0 l1_1).bind fun t509 => (if t509 = true then ((constablelaw04_wakes.f).bind fun t510 => (some t510)) else ((constablekeep_Facts.f k bt492.1 l0).bind fun t511 => (if t511 = true then ((constablelaw04_wakes.f).bind fun t512 => (some t512)) else (none))))) else (none)))) else (none)))))) else (none))))) else (none))) else (none)) else (none)) else (none))))) else (some true)) = some r := H
     have A29 := Aside0.mk A290
     clear A290
     by_cases c30 : t487 = true
     ·subst c30
      have H1 : ((sets_Put.f l0 a1_0 l1_1).bind fun bt488 => ((sets_Drop.f bt488.1 a1_0 l1_1).bind fun bt492 => ((sets_Drop.f l0 a1_0 l1_1).bind fun bt496 => (if bt488.2 = 0 then (if bt492.2 = 0 then (if bt496.2 = 0 then ((sets_Has.f bt488.1 a1_0 l1_1).bind fun t500 => (if t500 = true then ((sets_Has.f bt492.1 a1_0 l1_1).bind fun t501 => (if t501 = true then (none) else ((constablekeep_Facts.f k bt492.1 bt496.1).bind fun t502 => (if t502 = true then ((constablekeep_Fact.f k a1_0 l1_1 a2_0 l2_1).bind fun t503 => (if t503 = true then ((constablelaw04_wakes.f).bind fun t504 => (some t504)) else ((sets_Has.f bt488.1 a2_0 l2_1).bind fun t505 => ((sets_Has.f l0 a2_0 l2_1).bind fun t506 => (if (t505 == t506) = true then ((sets_Has.f bt492.1 a2_0 l2_1).bind fun t507 => ((sets_Has.f l0 a2_0 l2_1).bind fun t508 => (if (t507 == t508) = true then ((sets_Has.f l0 a1_0 l1_1).bind fun t509 => (if t509 = true then ((constablelaw04_wakes.f).bind fun t510 => (some t510)) else ((constablekeep_Facts.f k bt492.1 l0).bind fun t511 => (if t511 = true then ((constablelaw04_wakes.f).bind fun t512 => (some t512)) else (none))))) else (none)))) else (none)))))) else (none))))) else (none))) else (none)) else (none)) else (none))))) = some r := by rw [if_pos rfl] at H; exact H
      clear H
      have H := H1
      clear H1
      replace H := Option.bind_eq_some_iff.mp H
      obtain ⟨⟨t488, t491⟩, A310, H⟩ := H
      replace H : ((sets_Drop.f t488 a1_0 l1_1).bind fun bt492 => ((sets_Drop.f l0 a1_0 l1_1).bind fun bt496 => (if t491 = 0 then (if bt492.2 = 0 then (if bt496.2 = 0 then ((sets_Has.f t488 a1_0 l1_1).bind fun t500 => (if t500 = true then ((sets_Has.f bt492.1 a1_0 l1_1).bind fun t501 => (if t501 = true then (none) else ((constablekeep_Facts.f k bt492.1 bt496.1).bind fun t502 => (if t502 = true then ((constablekeep_Fact.f k a1_0 l1_1 a2_0 l2_1).bind fun t503 => (if t503 = true then ((constablelaw04_wakes.f).bind fun t504 => (some t504)) else ((sets_Has.f t488 a2_0 l2_1).bind fun t505 => ((sets_Has.f l0 a2_0 l2_1).bind fun t506 => (if (t505 == t506) = true then ((sets_Has.f bt492.1 a2_0 l2_1).bind fun t507 => ((sets_Has.f l0 a2_0 l2_1).bind fun t508 => (if (t507 == t508) = true then ((sets_Has.f l0 a1_0 l1_1).bind fun t509 => (if t509 = true then ((constablelaw04_wakes.f).bind fun t510 => (some t510)) else ((constablekeep_Facts.f k bt492.1 l0).bind fun t511 => (if t511 = true then ((constablelaw04_wakes.f).bind fun t512 => (some t512)) else (none))))) else (none)))) else (none)))))) else (none))))) else (none))) else (none)) else (none)) else (none)))) = some r := H
      have A31 := Aside0.mk A310
      clear A310
      replace H := Option.bind_eq_some_iff.mp H
      obtain ⟨⟨t492, t495⟩, A320, H⟩ := H
      replace H : ((sets_Drop.f l0 a1_0 l1_1).bind fun bt496 => (if t491 = 0 then (if t495 = 0 then (if bt496.2 = 0 then ((sets_Has.f t488 a1_0 l1_1).bind fun t500 => (if t500 = true then ((sets_Has.f t492 a1_0 l1_1).bind fun t501 => (if t501 = true then (none) else ((constablekeep_Facts.f k t492 bt496.1).bind fun t502 => (if t502 = true then ((constablekeep_Fact.f k a1_0 l1_1 a2_0 l2_1).bind fun t503 => (if t503 = true then ((constablelaw04_wakes.f).bind fun t504 => (some t504)) else ((sets_Has.f t488 a2_0 l2_1).bind fun t505 => ((sets_Has.f l0 a2_0 l2_1).bind fun t506 => (if (t505 == t506) = true then ((sets_Has.f t492 a2_0 l2_1).bind fun t507 => ((sets_Has.f l0 a2_0 l2_1).bind fun t508 => (if (t507 == t508) = true then ((sets_Has.f l0 a1_0 l1_1).bind fun t509 => (if t509 = true then ((constablelaw04_wakes.f).bind fun t510 => (some t510)) else ((constablekeep_Facts.f k t492 l0).bind fun t511 => (if t511 = true then ((constablelaw04_wakes.f).bind fun t512 => (some t512)) else (none))))) else (none)))) else (none)))))) else (none))))) else (none))) else (none)) else (none)) else (none))) = some r := H
      have A32 := Aside0.mk A320
      clear A320
      replace H := Option.bind_eq_some_iff.mp H
      obtain ⟨⟨t496, t499⟩, A330, H⟩ := H
      replace H : (if t491 = 0 then (if t495 = 0 then (if t499 = 0 then ((sets_Has.f t488 a1_0 l1_1).bind fun t500 => (if t500 = true then ((sets_Has.f t492 a1_0 l1_1).bind fun t501 => (if t501 = true then (none) else ((constablekeep_Facts.f k t492 t496).bind fun t502 => (if t502 = true then ((constablekeep_Fact.f k a1_0 l1_1 a2_0 l2_1).bind fun t503 => (if t503 = true then ((constablelaw04_wakes.f).bind fun t504 => (some t504)) else ((sets_Has.f t488 a2_0 l2_1).bind fun t505 => ((sets_Has.f l0 a2_0 l2_1).bind fun t506 => (if (t505 == t506) = true then ((sets_Has.f t492 a2_0 l2_1).bind fun t507 => ((sets_Has.f l0 a2_0 l2_1).bind fun t508 => (if (t507 == t508) = true then ((sets_Has.f l0 a1_0 l1_1).bind fun t509 => (if t509 = true then ((constablelaw04_wakes.f).bind fun t510 => (some t510)) else ((constablekeep_Facts.f k t492 l0).bind fun t511 => (if t511 = true then ((constablelaw04_wakes.f).bind fun t512 => (some t512)) else (none))))) else (none)))) else (none)))))) else (none))))) else (none))) else (none)) else (none)) else (none)) = some r := H
      have A33 := Aside0.mk A330
      clear A330
      by_cases c34 : t491 = 0
      ·rw [if_pos c34] at H
       have c34b0 : (t491 == 0) = true := beq_iff_eq.mpr c34
       have c34b1 : (t491 != 0) = false := bne_eq_false_iff_eq.mpr c34
       clear c34
       by_cases c35 : t495 = 0
       ·rw [if_pos c35] at H
        have c35b0 : (t495 == 0) = true := beq_iff_eq.mpr c35
        have c35b1 : (t495 != 0) = false := bne_eq_false_iff_eq.mpr c35
        clear c35
        by_cases c36 : t499 = 0
        ·rw [if_pos c36] at H
         have c36b0 : (t499 == 0) = true := beq_iff_eq.mpr c36
         have c36b1 : (t499 != 0) = false := bne_eq_false_iff_eq.mpr c36
         clear c36
         replace H := Option.bind_eq_some_iff.mp H
         obtain ⟨t500, A370, H⟩ := H
         replace H : (if t500 = true then ((sets_Has.f t492 a1_0 l1_1).bind fun t501 => (if t501 = true then (none) else ((constablekeep_Facts.f k t492 t496).bind fun t502 => (if t502 = true then ((constablekeep_Fact.f k a1_0 l1_1 a2_0 l2_1).bind fun t503 => (if t503 = true then ((constablelaw04_wakes.f).bind fun t504 => (some t504)) else ((sets_Has.f t488 a2_0 l2_1).bind fun t505 => ((sets_Has.f l0 a2_0 l2_1).bind fun t506 => (if (t505 == t506) = true then ((sets_Has.f t492 a2_0 l2_1).bind fun t507 => ((sets_Has.f l0 a2_0 l2_1).bind fun t508 => (if (t507 == t508) = true then ((sets_Has.f l0 a1_0 l1_1).bind fun t509 => (if t509 = true then ((constablelaw04_wakes.f).bind fun t510 => (some t510)) else ((constablekeep_Facts.f k t492 l0).bind fun t511 => (if t511 = true then ((constablelaw04_wakes.f).bind fun t512 => (some t512)) else (none))))) else (none)))) else (none)))))) else (none))))) else (none)) = some r := H
         have A37 := Aside0.mk A370
         clear A370
         by_cases c38 : t500 = true
         ·subst c38
          have H1 : ((sets_Has.f t492 a1_0 l1_1).bind fun t501 => (if t501 = true then (none) else ((constablekeep_Facts.f k t492 t496).bind fun t502 => (if t502 = true then ((constablekeep_Fact.f k a1_0 l1_1 a2_0 l2_1).bind fun t503 => (if t503 = true then ((constablelaw04_wakes.f).bind fun t504 => (some t504)) else ((sets_Has.f t488 a2_0 l2_1).bind fun t505 => ((sets_Has.f l0 a2_0 l2_1).bind fun t506 => (if (t505 == t506) = true then ((sets_Has.f t492 a2_0 l2_1).bind fun t507 => ((sets_Has.f l0 a2_0 l2_1).bind fun t508 => (if (t507 == t508) = true then ((sets_Has.f l0 a1_0 l1_1).bind fun t509 => (if t509 = true then ((constablelaw04_wakes.f).bind fun t510 => (some t510)) else ((constablekeep_Facts.f k t492 l0).bind fun t511 => (if t511 = true then ((constablelaw04_wakes.f).bind fun t512 => (some t512)) else (none))))) else (none)))) else (none)))))) else (none))))) = some r := by rw [if_pos rfl] at H; exact H
          clear H
          have H := H1
          clear H1
          replace H := Option.bind_eq_some_iff.mp H
          obtain ⟨t501, A390, H⟩ := H
          replace H : (if t501 = true then (none) else ((constablekeep_Facts.f k t492 t496).bind fun t502 => (if t502 = true then ((constablekeep_Fact.f k a1_0 l1_1 a2_0 l2_1).bind fun t503 => (if t503 = true then ((constablelaw04_wakes.f).bind fun t504 => (some t504)) else ((sets_Has.f t488 a2_0 l2_1).bind fun t505 => ((sets_Has.f l0 a2_0 l2_1).bind fun t506 => (if (t505 == t506) = true then ((sets_Has.f t492 a2_0 l2_1).bind fun t507 => ((sets_Has.f l0 a2_0 l2_1).bind fun t508 => (if (t507 == t508) = true then ((sets_Has.f l0 a1_0 l1_1).bind fun t509 => (if t509 = true then ((constablelaw04_wakes.f).bind fun t510 => (some t510)) else ((constablekeep_Facts.f k t492 l0).bind fun t511 => (if t511 = true then ((constablelaw04_wakes.f).bind fun t512 => (some t512)) else (none))))) else (none)))) else (none)))))) else (none)))) = some r := H
          have A39 := Aside0.mk A390
          clear A390
          by_cases c40 : t501 = true
          ·subst c40
           have H1 : (none) = some r := by rw [if_pos rfl] at H; exact H
           clear H
           have H := H1
           clear H1
           exact absurd H (by simp)
          ·replace c40 := Bool.eq_false_iff.mpr c40
           subst c40
           have H1 : ((constablekeep_Facts.f k t492 t496).bind fun t502 => (if t502 = true then ((constablekeep_Fact.f k a1_0 l1_1 a2_0 l2_1).bind fun t503 => (if t503 = true then ((constablelaw04_wakes.f).bind fun t504 => (some t504)) else ((sets_Has.f t488 a2_0 l2_1).bind fun t505 => ((sets_Has.f l0 a2_0 l2_1).bind fun t506 => (if (t505 == t506) = true then ((sets_Has.f t492 a2_0 l2_1).bind fun t507 => ((sets_Has.f l0 a2_0 l2_1).bind fun t508 => (if (t507 == t508) = true then ((sets_Has.f l0 a1_0 l1_1).bind fun t509 => (if t509 = true then ((constablelaw04_wakes.f).bind fun t510 => (some t510)) else ((constablekeep_Facts.f k t492 l0).bind fun t511 => (if t511 = true then ((constablelaw04_wakes.f).bind fun t512 => (some t512)) else (none))))) else (none)))) else (none)))))) else (none))) = some r := by rw [if_neg (show ¬ (false = true) by decide)] at H; exact H
           clear H
           have H := H1
           clear H1
           replace H := Option.bind_eq_some_iff.mp H
           obtain ⟨t502, A410, H⟩ := H
           replace H : (if t502 = true then ((constablekeep_Fact.f k a1_0 l1_1 a2_0 l2_1).bind fun t503 => (if t503 = true then ((constablelaw04_wakes.f).bind fun t504 => (some t504)) else ((sets_Has.f t488 a2_0 l2_1).bind fun t505 => ((sets_Has.f l0 a2_0 l2_1).bind fun t506 => (if (t505 == t506) = true then ((sets_Has.f t492 a2_0 l2_1).bind fun t507 => ((sets_Has.f l0 a2_0 l2_1).bind fun t508 => (if (t507 == t508) = true then ((sets_Has.f l0 a1_0 l1_1).bind fun t509 => (if t509 = true then ((constablelaw04_wakes.f).bind fun t510 => (some t510)) else ((constablekeep_Facts.f k t492 l0).bind fun t511 => (if t511 = true then ((constablelaw04_wakes.f).bind fun t512 => (some t512)) else (none))))) else (none)))) else (none)))))) else (none)) = some r := H
           have A41 := Aside0.mk A410
           clear A410
           by_cases c42 : t502 = true
           ·subst c42
            have H1 : ((constablekeep_Fact.f k a1_0 l1_1 a2_0 l2_1).bind fun t503 => (if t503 = true then ((constablelaw04_wakes.f).bind fun t504 => (some t504)) else ((sets_Has.f t488 a2_0 l2_1).bind fun t505 => ((sets_Has.f l0 a2_0 l2_1).bind fun t506 => (if (t505 == t506) = true then ((sets_Has.f t492 a2_0 l2_1).bind fun t507 => ((sets_Has.f l0 a2_0 l2_1).bind fun t508 => (if (t507 == t508) = true then ((sets_Has.f l0 a1_0 l1_1).bind fun t509 => (if t509 = true then ((constablelaw04_wakes.f).bind fun t510 => (some t510)) else ((constablekeep_Facts.f k t492 l0).bind fun t511 => (if t511 = true then ((constablelaw04_wakes.f).bind fun t512 => (some t512)) else (none))))) else (none)))) else (none)))))) = some r := by rw [if_pos rfl] at H; exact H
            clear H
            have H := H1
            clear H1
            replace H := Option.bind_eq_some_iff.mp H
            obtain ⟨t503, A430, H⟩ := H
            replace H : (if t503 = true then ((constablelaw04_wakes.f).bind fun t504 => (some t504)) else ((sets_Has.f t488 a2_0 l2_1).bind fun t505 => ((sets_Has.f l0 a2_0 l2_1).bind fun t506 => (if (t505 == t506) = true then ((sets_Has.f t492 a2_0 l2_1).bind fun t507 => ((sets_Has.f l0 a2_0 l2_1).bind fun t508 => (if (t507 == t508) = true then ((sets_Has.f l0 a1_0 l1_1).bind fun t509 => (if t509 = true then ((constablelaw04_wakes.f).bind fun t510 => (some t510)) else ((constablekeep_Facts.f k t492 l0).bind fun t511 => (if t511 = true then ((constablelaw04_wakes.f).bind fun t512 => (some t512)) else (none))))) else (none)))) else (none))))) = some r := H
            have A43 := Aside0.mk A430
            clear A430
            by_cases c44 : t503 = true
            ·subst c44
             have H1 : ((constablelaw04_wakes.f).bind fun t504 => (some t504)) = some r := by rw [if_pos rfl] at H; exact H
             clear H
             have H := H1
             clear H1
             replace H := Option.bind_eq_some_iff.mp H
             obtain ⟨t504, A450, H⟩ := H
             replace H : (some t504) = some r := H
             have A45 := Aside0.mk A450
             clear A450
             obtain rfl := Option.some.inj H
             go_enter Try.func8, Try.ntmps8
             go_wp2_with (first | ((with_reducible refine gate_dst (N := 4) rfl ?_); refine bE (N := 4) (cs := #[.string a1_0, .slice A1_1 l1_1.length c1_1]) (t := 53) ?_; intro gb481 hg w46 hbox hb; have n0_ := Aside0.mk (below_step bB0 hb); have n1_ := Aside0.mk (hbox); have n2_ := Aside0.mk ((by rw [hg]; exact (below_size bB0) : w.heap.size ≤ gb481)); have n3_ := Aside0.mk ((by rw [hg]; exact (below_size bB0) : w.heap.size ≤ gb481)); clear HB; have HB := n0_; have BK481 := n1_; have GW481 := n2_; have GE481 := n3_; clear n0_ n1_ n2_ n3_; clear hb hbox hg) | ((with_reducible refine gate_dst (N := 5) rfl ?_); refine bE (N := 5) (cs := #[.string a2_0, .slice A2_1 l2_1.length c2_1]) (t := 53) ?_; intro gb482 hg w47 hbox hb; have n0_ := Aside0.mk (blk_below (g := gb481) (o := .cells #[.string a1_0, .slice A1_1 l1_1.length c1_1] 53 (0, 0)) (by refine bk ?_; exact BK481.out) hb); have n1_ := Aside0.mk (below_step (bB1 GE481.out) hb); have n2_ := Aside0.mk (hbox); have n3_ := Aside0.mk ((by rw [hg]; exact (below_size (bB1 GE481.out)) : w.heap.size ≤ gb482)); have n4_ := Aside0.mk ((by rw [hg]; exact (below_size (bB1 GE481.out)) : w.heap.size ≤ gb482)); have n5_ := Aside0.mk ((by rw [hg]; exact Nat.ne_of_lt (blk_lt (g := gb481) (o := .cells #[.string a1_0, .slice A1_1 l1_1.length c1_1] 53 (0, 0)) (by refine bk ?_; exact BK481.out)) : gb481 ≠ gb482)); have n6_ := Aside0.mk ((by rw [hg]; exact Nat.ne_of_gt (blk_lt (g := gb481) (o := .cells #[.string a1_0, .slice A1_1 l1_1.length c1_1] 53 (0, 0)) (by refine bk ?_; exact BK481.out)) : gb482 ≠ gb481)); clear BK481; clear HB; have BK481 := n0_; have HB := n1_; have BK482 := n2_; have GW482 := n3_; have GE482 := n4_; have NB481_482 := n5_; have NB482_481 := n6_; clear n0_ n1_ n2_ n3_ n4_ n5_ n6_; clear hb hbox hg) | ((with_reducible refine gate_callee (f := 29) rfl ?_); refine goesL_ (some 14) rfl rfl Try.func29 (by kernel_rfl) rfl #[.slice A0 l0.length c0] rfl aG ?_; (with_reducible refine (constablelaw03_Many.calls k _ _ l0 false _ ?side1 ?side2 A4.out).mono ?_); (case side1 => exact sC (Kd.C_below HR0.out HB.out)); (case side2 => exact HC0.out); rintro e w48 ⟨rfl, hb⟩; refine ⟨_, rfl, ?_⟩; have n0_ := Aside0.mk (blk_below (g := gb481) (o := .cells #[.string a1_0, .slice A1_1 l1_1.length c1_1] 53 (0, 0)) (by refine bk ?_; exact BK481.out) hb); have n1_ := Aside0.mk (blk_below (g := gb482) (o := .cells #[.string a2_0, .slice A2_1 l2_1.length c2_1] 53 (0, 0)) (by refine bk ?_; exact BK482.out) hb); have n2_ := Aside0.mk (below_step (bB2 GE481.out GE482.out) hb); clear BK481; clear BK482; clear HB; have BK481 := n0_; have BK482 := n1_; have HB := n2_; clear n0_ n1_ n2_; (try clear hb); (try clear hb2); (try clear hk); (try clear hi); have hnb49 := NB481_482.out; have hnc49 := NB482_481.out; have hcz50_0 : w48.cell? ⟨gb481, 0, none⟩ = some (.string a1_0) := (blk_cell BK481.out 0).trans rfl; have hcz50_1 : w48.cell? ⟨gb481, 1, none⟩ = some (.slice A1_1 l1_1.length c1_1) := (blk_cell BK481.out 1).trans rfl; have hfz50_0 := blk_frozen BK481.out 0; have hfz50_1 := blk_frozen BK481.out 1) | (go_at_call 36; (with_reducible refine (constablelaw03_Heavy.calls k a1_0 _ _ l1_1 false _ ?side1 ?side2 A9.out).mono ?_); (case side1 => exact sC (Kd.C_below HR1_1.out HB.out)); (case side2 => exact HC1_1.out); rintro e w51 ⟨rfl, hb⟩; have n0_ := Aside0.mk (blk_below (g := gb481) (o := .cells #[.string a1_0, .slice A1_1 l1_1.length c1_1] 53 (0, 0)) (by refine bk ?_; exact BK481.out) hb); have n1_ := Aside0.mk (blk_below (g := gb482) (o := .cells #[.string a2_0, .slice A2_1 l2_1.length c2_1] 53 (0, 0)) (by refine bk ?_; exact BK482.out) hb); have n2_ := Aside0.mk (below_step (bB2 GE481.out GE482.out) hb); clear BK481; clear BK482; clear HB; have BK481 := n0_; have BK482 := n1_; have HB := n2_; clear n0_ n1_ n2_; (try clear hb); (try clear hb2); (try clear hk); (try clear hi); have hcz52_0 : w51.cell? ⟨gb482, 0, none⟩ = some (.string a2_0) := (blk_cell BK482.out 0).trans rfl; have hcz52_1 : w51.cell? ⟨gb482, 1, none⟩ = some (.slice A2_1 l2_1.length c2_1) := (blk_cell BK482.out 1).trans rfl; have hfz52_0 := blk_frozen BK482.out 0; have hfz52_1 := blk_frozen BK482.out 1) | (go_at_call 36; (with_reducible refine (constablelaw03_Heavy.calls k a2_0 _ _ l2_1 false _ ?side1 ?side2 A17.out).mono ?_); (case side1 => exact sC (Kd.C_below HR2_1.out HB.out)); (case side2 => exact HC2_1.out); rintro e w53 ⟨rfl, hb⟩; have n0_ := Aside0.mk (blk_below (g := gb481) (o := .cells #[.string a1_0, .slice A1_1 l1_1.length c1_1] 53 (0, 0)) (by refine bk ?_; exact BK481.out) hb); have n1_ := Aside0.mk (blk_below (g := gb482) (o := .cells #[.string a2_0, .slice A2_1 l2_1.length c2_1] 53 (0, 0)) (by refine bk ?_; exact BK482.out) hb); have n2_ := Aside0.mk (below_step (bB2 GE481.out GE482.out) hb); clear BK481; clear BK482; clear HB; have BK481 := n0_; have BK482 := n1_; have HB := n2_; clear n0_ n1_ n2_; (try clear hb); (try clear hb2); (try clear hk); (try clear hi)) | (go_at_call 37; (with_reducible refine (constableref01_Set.calls k _ _ l0 true _ ?side1 ?side2 A27.out).mono ?_); (case side1 => exact sC (Kd.C_below HR0.out HB.out)); (case side2 => exact HC0.out); rintro e w54 ⟨rfl, hb⟩; have n0_ := Aside0.mk (blk_below (g := gb481) (o := .cells #[.string a1_0, .slice A1_1 l1_1.length c1_1] 53 (0, 0)) (by refine bk ?_; exact BK481.out) hb); have n1_ := Aside0.mk (blk_below (g := gb482) (o := .cells #[.string a2_0, .slice A2_1 l2_1.length c2_1] 53 (0, 0)) (by refine bk ?_; exact BK482.out) hb); have n2_ := Aside0.mk (below_step (bB2 GE481.out GE482.out) hb); clear BK481; clear BK482; clear HB; have BK481 := n0_; have BK482 := n1_; have HB := n2_; clear n0_ n1_ n2_; (try clear hb); (try clear hb2); (try clear hk); (try clear hi); have hcz55_0 : w54.cell? ⟨gb481, 0, none⟩ = some (.string a1_0) := (blk_cell BK481.out 0).trans rfl; have hcz55_1 : w54.cell? ⟨gb481, 1, none⟩ = some (.slice A1_1 l1_1.length c1_1) := (blk_cell BK481.out 1).trans rfl; have hfz55_0 := blk_frozen BK481.out 0; have hfz55_1 := blk_frozen BK481.out 1) | (go_at_call 38; (with_reducible refine (constableref01_Fact.calls k a1_0 _ _ l1_1 true _ ?side1 ?side2 A29.out).mono ?_); (case side1 => exact sC (Kd.C_below HR1_1.out HB.out)); (case side2 => exact HC1_1.out); rintro e w56 ⟨rfl, hb⟩; have n0_ := Aside0.mk (blk_below (g := gb481) (o := .cells #[.string a1_0, .slice A1_1 l1_1.length c1_1] 53 (0, 0)) (by refine bk ?_; exact BK481.out) hb); have n1_ := Aside0.mk (blk_below (g := gb482) (o := .cells #[.string a2_0, .slice A2_1 l2_1.length c2_1] 53 (0, 0)) (by refine bk ?_; exact BK482.out) hb); have n2_ := Aside0.mk (below_step (bB2 GE481.out GE482.out) hb); clear BK481; clear BK482; clear HB; have BK481 := n0_; have BK482 := n1_; have HB := n2_; clear n0_ n1_ n2_; (try clear hb); (try clear hb2); (try clear hk); (try clear hi); have hcz57_0 : w56.cell? ⟨gb481, 0, none⟩ = some (.string a1_0) := (blk_cell BK481.out 0).trans rfl; have hcz57_1 : w56.cell? ⟨gb481, 1, none⟩ = some (.slice A1_1 l1_1.length c1_1) := (blk_cell BK481.out 1).trans rfl; have hfz57_0 := blk_frozen BK481.out 0; have hfz57_1 := blk_frozen BK481.out 1) | ((with_reducible refine gate_callee (f := 32) rfl ?_); refine goesL_ (some 36) rfl rfl Try.func32 (by kernel_rfl) rfl #[.slice A0 l0.length c0, .agg #[.string a1_0, .slice A1_1 l1_1.length c1_1]] rfl aG ?_; (with_reducible refine (sets_Put.calls _ _ l0 a1_0 _ _ l1_1 t488 t491 _ ?side1 ?side2 ?side3 ?side4 A31.out).mono ?_); (case side1 => exact sC (Kd.C_below HR0.out HB.out)); (case side2 => exact HC0.out); (case side3 => exact sC (Kd.C_below HR1_1.out HB.out)); (case side4 => exact HC1_1.out); rintro e w58 ⟨v489, rfl, ho0, hb⟩; refine ⟨_, rfl, ?_⟩; have n0_ := Aside0.mk (Kd.S_lower (Kd.S_newB (Kd.S_newB ho0 (g := gb481) (o := .cells #[.string a1_0, .slice A1_1 l1_1.length c1_1] 53 (0, 0)) (by refine bk ?_; exact BK481.out)) (g := gb482) (o := .cells #[.string a2_0, .slice A2_1 l2_1.length c2_1] 53 (0, 0)) (by refine bk ?_; exact BK482.out)) (below_size (bB2 GE481.out GE482.out))); have n1_ := Aside0.mk (blk_below (g := gb481) (o := .cells #[.string a1_0, .slice A1_1 l1_1.length c1_1] 53 (0, 0)) (by refine bk ?_; exact BK481.out) hb); have n2_ := Aside0.mk (blk_below (g := gb482) (o := .cells #[.string a2_0, .slice A2_1 l2_1.length c2_1] 53 (0, 0)) (by refine bk ?_; exact BK482.out) hb); have n3_ := Aside0.mk (below_step (bB2 GE481.out GE482.out) hb); clear BK481; clear BK482; clear HB; have HO490 := n0_; have BK481 := n1_; have BK482 := n2_; have HB := n3_; clear n0_ n1_ n2_ n3_; (try clear hb); (try clear hb2); (try clear hk); (try clear hi); (try clear ho0); have hcz59_0 : w58.cell? ⟨gb481, 0, none⟩ = some (.string a1_0) := (blk_cell BK481.out 0).trans rfl; have hcz59_1 : w58.cell? ⟨gb481, 1, none⟩ = some (.slice A1_1 l1_1.length c1_1) := (blk_cell BK481.out 1).trans rfl; have hfz59_0 := blk_frozen BK481.out 0; have hfz59_1 := blk_frozen BK481.out 1; obtain ⟨Ao60, co60, eo60⟩ := Kd.S_slice HO490.out; subst eo60) | ((with_reducible refine gate_callee (f := 39) rfl ?_); refine goesL_ (some 42) rfl rfl Try.func39 (by kernel_rfl) rfl #[.slice Ao60 t488.length co60, .agg #[.string a1_0, .slice A1_1 l1_1.length c1_1]] rfl aG ?_; (with_reducible refine (sets_Drop.calls _ _ t488 a1_0 _ _ l1_1 t492 t495 _ ?side1 ?side2 ?side3 ?side4 A32.out).mono ?_); (case side1 => exact sC (Kd.S_reads' HO490.out).2.2); (case side2 => exact (Kd.S_reads' HO490.out).2.1); (case side3 => exact sC (Kd.C_below HR1_1.out HB.out)); (case side4 => exact HC1_1.out); rintro e w61 ⟨v493, rfl, ho0, hb⟩; refine ⟨_, rfl, ?_⟩; have n0_ := Aside0.mk (Kd.S_elder' (by (with_reducible repeat (first | apply Kd.S_alloc | apply Kd.S_drewN | apply Kd.S_drew)); exact HO490.out) (Kd.S_base ho0) hb); have n1_ := Aside0.mk (Kd.S_lower (Kd.S_newB (Kd.S_newB (Kd.S_new' ho0 (Kd.S_lt (by (with_reducible repeat (first | apply Kd.S_alloc | apply Kd.S_drewN | apply Kd.S_drew)); exact HO490.out))) (g := gb481) (o := .cells #[.string a1_0, .slice A1_1 l1_1.length c1_1] 53 (0, 0)) (by refine bk ?_; exact BK481.out)) (g := gb482) (o := .cells #[.string a2_0, .slice A2_1 l2_1.length c2_1] 53 (0, 0)) (by refine bk ?_; exact BK482.out)) (below_size (bB2 GE481.out GE482.out))); have n2_ := Aside0.mk (blk_below (g := gb481) (o := .cells #[.string a1_0, .slice A1_1 l1_1.length c1_1] 53 (0, 0)) (by refine bk ?_; exact BK481.out) hb); have n3_ := Aside0.mk (blk_below (g := gb482) (o := .cells #[.string a2_0, .slice A2_1 l2_1.length c2_1] 53 (0, 0)) (by refine bk ?_; exact BK482.out) hb); have n4_ := Aside0.mk (below_step (bB2 GE481.out GE482.out) hb); clear HO490; clear BK481; clear BK482; clear HB; have HO490 := n0_; have HO494 := n1_; have BK481 := n2_; have BK482 := n3_; have HB := n4_; clear n0_ n1_ n2_ n3_ n4_; (try clear hb); (try clear hb2); (try clear hk); (try clear hi); (try clear ho0); have hcz62_0 : w61.cell? ⟨gb481, 0, none⟩ = some (.string a1_0) := (blk_cell BK481.out 0).trans rfl; have hcz62_1 : w61.cell? ⟨gb481, 1, none⟩ = some (.slice A1_1 l1_1.length c1_1) := (blk_cell BK481.out 1).trans rfl; have hfz62_0 := blk_frozen BK481.out 0; have hfz62_1 := blk_frozen BK481.out 1) | ((with_reducible refine gate_callee (f := 39) rfl ?_); refine goesL_ (some 48) rfl rfl Try.func39 (by kernel_rfl) rfl #[.slice A0 l0.length c0, .agg #[.string a1_0, .slice A1_1 l1_1.length c1_1]] rfl aG ?_; (with_reducible refine (sets_Drop.calls _ _ l0 a1_0 _ _ l1_1 t496 t499 _ ?side1 ?side2 ?side3 ?side4 A33.out).mono ?_); (case side1 => exact sC (Kd.C_below HR0.out HB.out)); (case side2 => exact HC0.out); (case side3 => exact sC (Kd.C_below HR1_1.out HB.out)); (case side4 => exact HC1_1.out); rintro e w63 ⟨v497, rfl, ho0, hb⟩; refine ⟨_, rfl, ?_⟩; have n0_ := Aside0.mk (Kd.S_elder' (by (with_reducible repeat (first | apply Kd.S_alloc | apply Kd.S_drewN | apply Kd.S_drew)); exact HO490.out) (Kd.S_base ho0) hb); have n1_ := Aside0.mk (Kd.S_elder' (by (with_reducible repeat (first | apply Kd.S_alloc | apply Kd.S_drewN | apply Kd.S_drew)); exact HO494.out) (Kd.S_base ho0) hb); have n2_ := Aside0.mk (Kd.S_lower (Kd.S_newB (Kd.S_newB (Kd.S_new' (Kd.S_new' ho0 (Kd.S_lt (by (with_reducible repeat (first | apply Kd.S_alloc | apply Kd.S_drewN | apply Kd.S_drew)); exact HO490.out))) (Kd.S_lt (by (with_reducible repeat (first | apply Kd.S_alloc | apply Kd.S_drewN | apply Kd.S_drew)); exact HO494.out))) (g := gb481) (o := .cells #[.string a1_0, .slice A1_1 l1_1.length c1_1] 53 (0, 0)) (by refine bk ?_; exact BK481.out)) (g := gb482) (o := .cells #[.string a2_0, .slice A2_1 l2_1.length c2_1] 53 (0, 0)) (by refine bk ?_; exact BK482.out)) (below_size (bB2 GE481.out GE482.out))); have n3_ := Aside0.mk (blk_below (g := gb481) (o := .cells #[.string a1_0, .slice A1_1 l1_1.length c1_1] 53 (0, 0)) (by refine bk ?_; exact BK481.out) hb); have n4_ := Aside0.mk (blk_below (g := gb482) (o := .cells #[.string a2_0, .slice A2_1 l2_1.length c2_1] 53 (0, 0)) (by refine bk ?_; exact BK482.out) hb); have n5_ := Aside0.mk (below_step (bB2 GE481.out GE482.out) hb); clear HO490; clear HO494; clear BK481; clear BK482; clear HB; have HO490 := n0_; have HO494 := n1_; have HO498 := n2_; have BK481 := n3_; have BK482 := n4_; have HB := n5_; clear n0_ n1_ n2_ n3_ n4_ n5_; (try clear hb); (try clear hb2); (try clear hk); (try clear hi); (try clear ho0); have hcz64_0 : w63.cell? ⟨gb481, 0, none⟩ = some (.string a1_0) := (blk_cell BK481.out 0).trans rfl; have hcz64_1 : w63.cell? ⟨gb481, 1, none⟩ = some (.slice A1_1 l1_1.length c1_1) := (blk_cell BK481.out 1).trans rfl; have hfz64_0 := blk_frozen BK481.out 0; have hfz64_1 := blk_frozen BK481.out 1) | (go_at_call 33; (with_reducible refine (sets_Has.calls _ _ t488 a1_0 _ _ l1_1 true _ ?side1 ?side2 ?side3 ?side4 A37.out).mono ?_); (case side1 => exact sC (Kd.S_reads' HO490.out).2.2); (case side2 => exact (Kd.S_reads' HO490.out).2.1); (case side3 => exact sC (Kd.C_below HR1_1.out HB.out)); (case side4 => exact HC1_1.out); rintro e w65 ⟨rfl, hb⟩; have n0_ := Aside0.mk (Kd.S_below (by (with_reducible repeat (first | apply Kd.S_alloc | apply Kd.S_drewN | apply Kd.S_drew)); exact HO490.out) hb); have n1_ := Aside0.mk (Kd.S_below (by (with_reducible repeat (first | apply Kd.S_alloc | apply Kd.S_drewN | apply Kd.S_drew)); exact HO494.out) hb); have n2_ := Aside0.mk (Kd.S_below (by (with_reducible repeat (first | apply Kd.S_alloc | apply Kd.S_drewN | apply Kd.S_drew)); exact HO498.out) hb); have n3_ := Aside0.mk (blk_below (g := gb481) (o := .cells #[.string a1_0, .slice A1_1 l1_1.length c1_1] 53 (0, 0)) (by refine bk ?_; exact BK481.out) hb); have n4_ := Aside0.mk (blk_below (g := gb482) (o := .cells #[.string a2_0, .slice A2_1 l2_1.length c2_1] 53 (0, 0)) (by refine bk ?_; exact BK482.out) hb); have n5_ := Aside0.mk (below_step (bB2 GE481.out GE482.out) hb); clear HO490; clear HO494; clear HO498; clear BK481; clear BK482; clear HB; have HO490 := n0_; have HO494 := n1_; have HO498 := n2_; have BK481 := n3_; have BK482 := n4_; have HB := n5_; clear n0_ n1_ n2_ n3_ n4_ n5_; (try clear hb); (try clear hb2); (try clear hk); (try clear hi); have hcz66_0 : w65.cell? ⟨gb481, 0, none⟩ = some (.string a1_0) := (blk_cell BK481.out 0).trans rfl; have hcz66_1 : w65.cell? ⟨gb481, 1, none⟩ = some (.slice A1_1 l1_1.length c1_1) := (blk_cell BK481.out 1).trans rfl; have hfz66_0 := blk_frozen BK481.out 0; have hfz66_1 := blk_frozen BK481.out 1; obtain ⟨Ao67, co67, eo67⟩ := Kd.S_slice HO494.out; subst eo67) | (go_at_call 33; (with_reducible refine (sets_Has.calls _ _ t492 a1_0 _ _ l1_1 false _ ?side1 ?side2 ?side3 ?side4 A39.out).mono ?_); (case side1 => exact sC (Kd.S_reads' HO494.out).2.2); (case side2 => exact (Kd.S_reads' HO494.out).2.1); (case side3 => exact sC (Kd.C_below HR1_1.out HB.out)); (case side4 => exact HC1_1.out); rintro e w68 ⟨rfl, hb⟩; have n0_ := Aside0.mk (Kd.S_below (by (with_reducible repeat (first | apply Kd.S_alloc | apply Kd.S_drewN | apply Kd.S_drew)); exact HO490.out) hb); have n1_ := Aside0.mk (Kd.S_below (by (with_reducible repeat (first | apply Kd.S_alloc | apply Kd.S_drewN | apply Kd.S_drew)); exact HO494.out) hb); have n2_ := Aside0.mk (Kd.S_below (by (with_reducible repeat (first | apply Kd.S_alloc | apply Kd.S_drewN | apply Kd.S_drew)); exact HO498.out) hb); have n3_ := Aside0.mk (blk_below (g := gb481) (o := .cells #[.string a1_0, .slice A1_1 l1_1.length c1_1] 53 (0, 0)) (by refine bk ?_; exact BK481.out) hb); have n4_ := Aside0.mk (blk_below (g := gb482) (o := .cells #[.string a2_0, .slice A2_1 l2_1.length c2_1] 53 (0, 0)) (by refine bk ?_; exact BK482.out) hb); have n5_ := Aside0.mk (below_step (bB2 GE481.out GE482.out) hb); clear HO490; clear HO494; clear HO498; clear BK481; clear BK482; clear HB; have HO490 := n0_; have HO494 := n1_; have HO498 := n2_; have BK481 := n3_; have BK482 := n4_; have HB := n5_; clear n0_ n1_ n2_ n3_ n4_ n5_; (try clear hb); (try clear hb2); (try clear hk); (try clear hi); obtain ⟨Ao69, co69, eo69⟩ := Kd.S_slice HO498.out; subst eo69) | (go_at_call 34; (with_reducible refine (constablekeep_Facts.calls k _ _ t492 _ _ t496 true _ ?side1 ?side2 ?side3 ?side4 A41.out).mono ?_); (case side1 => exact sC (Kd.S_reads' HO494.out).2.2); (case side2 => exact (Kd.S_reads' HO494.out).2.1); (case side3 => exact sC (Kd.S_reads' HO498.out).2.2); (case side4 => exact (Kd.S_reads' HO498.out).2.1); rintro e w70 ⟨rfl, hb⟩; have n0_ := Aside0.mk (Kd.S_below (by (with_reducible repeat (first | apply Kd.S_alloc | apply Kd.S_drewN | apply Kd.S_drew)); exact HO490.out) hb); have n1_ := Aside0.mk (Kd.S_below (by (with_reducible repeat (first | apply Kd.S_alloc | apply Kd.S_drewN | apply Kd.S_drew)); exact HO494.out) hb); have n2_ := Aside0.mk (Kd.S_below (by (with_reducible repeat (first | apply Kd.S_alloc | apply Kd.S_drewN | apply Kd.S_drew)); exact HO498.out) hb); have n3_ := Aside0.mk (blk_below (g := gb481) (o := .cells #[.string a1_0, .slice A1_1 l1_1.length c1_1] 53 (0, 0)) (by refine bk ?_; exact BK481.out) hb); have n4_ := Aside0.mk (blk_below (g := gb482) (o := .cells #[.string a2_0, .slice A2_1 l2_1.length c2_1] 53 (0, 0)) (by refine bk ?_; exact BK482.out) hb); have n5_ := Aside0.mk (below_step (bB2 GE481.out GE482.out) hb); clear HO490; clear HO494; clear HO498; clear BK481; clear BK482; clear HB; have HO490 := n0_; have HO494 := n1_; have HO498 := n2_; have BK481 := n3_; have BK482 := n4_; have HB := n5_; clear n0_ n1_ n2_ n3_ n4_ n5_; (try clear hb); (try clear hb2); (try clear hk); (try clear hi); have hcz71_0 : w70.cell? ⟨gb481, 0, none⟩ = some (.string a1_0) := (blk_cell BK481.out 0).trans rfl; have hcz71_1 : w70.cell? ⟨gb481, 1, none⟩ = some (.slice A1_1 l1_1.length c1_1) := (blk_cell BK481.out 1).trans rfl; have hfz71_0 := blk_frozen BK481.out 0; have hfz71_1 := blk_frozen BK481.out 1; have hcz72_0 : w70.cell? ⟨gb482, 0, none⟩ = some (.string a2_0) := (blk_cell BK482.out 0).trans rfl; have hcz72_1 : w70.cell? ⟨gb482, 1, none⟩ = some (.slice A2_1 l2_1.length c2_1) := (blk_cell BK482.out 1).trans rfl; have hfz72_0 := blk_frozen BK482.out 0; have hfz72_1 := blk_frozen BK482.out 1) | ((with_reducible refine gate_callee (f := 40) rfl ?_); refine goesL_ (some 80) rfl rfl Try.func40 (by kernel_rfl) rfl #[.agg #[.string a1_0, .slice A1_1 l1_1.length c1_1], .agg #[.string a2_0, .slice A2_1 l2_1.length c2_1]] rfl aG ?_; (with_reducible refine (constablekeep_Fact.calls k a1_0 _ _ l1_1 a2_0 _ _ l2_1 true _ ?side1 ?side2 ?side3 ?side4 A43.out).mono ?_); (case side1 => exact sC (Kd.C_below HR1_1.out HB.out)); (case side2 => exact HC1_1.out); (case side3 => exact sC (Kd.C_below HR2_1.out HB.out)); (case side4 => exact HC2_1.out); rintro e w73 ⟨rfl, hb⟩; refine ⟨_, rfl, ?_⟩; have n0_ := Aside0.mk (Kd.S_below (by (with_reducible repeat (first | apply Kd.S_alloc | apply Kd.S_drewN | apply Kd.S_drew)); exact HO490.out) hb); have n1_ := Aside0.mk (Kd.S_below (by (with_reducible repeat (first | apply Kd.S_alloc | apply Kd.S_drewN | apply Kd.S_drew)); exact HO494.out) hb); have n2_ := Aside0.mk (Kd.S_below (by (with_reducible repeat (first | apply Kd.S_alloc | apply Kd.S_drewN | apply Kd.S_drew)); exact HO498.out) hb); have n3_ := Aside0.mk (blk_below (g := gb481) (o := .cells #[.string a1_0, .slice A1_1 l1_1.length c1_1] 53 (0, 0)) (by refine bk ?_; exact BK481.out) hb); have n4_ := Aside0.mk (blk_below (g := gb482) (o := .cells #[.string a2_0, .slice A2_1 l2_1.length c2_1] 53 (0, 0)) (by refine bk ?_; exact BK482.out) hb); have n5_ := Aside0.mk (below_step (bB2 GE481.out GE482.out) hb); clear HO490; clear HO494; clear HO498; clear BK481; clear BK482; clear HB; have HO490 := n0_; have HO494 := n1_; have HO498 := n2_; have BK481 := n3_; have BK482 := n4_; have HB := n5_; clear n0_ n1_ n2_ n3_ n4_ n5_; (try clear hb); (try clear hb2); (try clear hk); (try clear hi)) | ((with_reducible refine gate_callee (f := 31) rfl ?_); refine goesL_ (some 81) rfl rfl Try.func31 (by kernel_rfl) rfl #[] rfl aG ?_; (with_reducible refine (constablelaw04_wakes.calls  t504 _ A45.out).mono ?_); rintro e w74 ⟨rfl, hb⟩; refine ⟨_, rfl, ?_⟩; have n0_ := Aside0.mk (Kd.S_below (by (with_reducible repeat (first | apply Kd.S_alloc | apply Kd.S_drewN | apply Kd.S_drew)); exact HO490.out) hb); have n1_ := Aside0.mk (Kd.S_below (by (with_reducible repeat (first | apply Kd.S_alloc | apply Kd.S_drewN | apply Kd.S_drew)); exact HO494.out) hb); have n2_ := Aside0.mk (Kd.S_below (by (with_reducible repeat (first | apply Kd.S_alloc | apply Kd.S_drewN | apply Kd.S_drew)); exact HO498.out) hb); have n3_ := Aside0.mk (blk_below (g := gb481) (o := .cells #[.string a1_0, .slice A1_1 l1_1.length c1_1] 53 (0, 0)) (by refine bk ?_; exact BK481.out) hb); have n4_ := Aside0.mk (blk_below (g := gb482) (o := .cells #[.string a2_0, .slice A2_1 l2_1.length c2_1] 53 (0, 0)) (by refine bk ?_; exact BK482.out) hb); have n5_ := Aside0.mk (below_step (bB2 GE481.out GE482.out) hb); clear HO490; clear HO494; clear HO498; clear BK481; clear BK482; clear HB; have HO490 := n0_; have HO494 := n1_; have HO498 := n2_; have BK481 := n3_; have BK482 := n4_; have HB := n5_; clear n0_ n1_ n2_ n3_ n4_ n5_; (try clear hb); (try clear hb2); (try clear hk); (try clear hi)))
             go_ret
             exact ⟨eW, (bB2 GE481.out GE482.out)⟩
            ·replace c44 := Bool.eq_false_iff.mpr c44
             subst c44
             have H1 : ((sets_Has.f t488 a2_0 l2_1).bind fun t505 => ((sets_Has.f l0 a2_0 l2_1).bind fun t506 => (if (t505 == t506) = true then ((sets_Has.f t492 a2_0 l2_1).bind fun t507 => ((sets_Has.f l0 a2_0 l2_1).bind fun t508 => (if (t507 == t508) = true then ((sets_Has.f l0 a1_0 l1_1).bind fun t509 => (if t509 = true then ((constablelaw04_wakes.f).bind fun t510 => (some t510)) else ((constablekeep_Facts.f k t492 l0).bind fun t511 => (if t511 = true then ((constablelaw04_wakes.f).bind fun t512 => (some t512)) else (none))))) else (none)))) else (none)))) = some r := by rw [if_neg (show ¬ (false = true) by decide)] at H; exact H
             clear H
             have H := H1
             clear H1
             replace H := Option.bind_eq_some_iff.mp H
             obtain ⟨t505, A750, H⟩ := H
             replace H : ((sets_Has.f l0 a2_0 l2_1).bind fun t506 => (if (t505 == t506) = true then ((sets_Has.f t492 a2_0 l2_1).bind fun t507 => ((sets_Has.f l0 a2_0 l2_1).bind fun t508 => (if (t507 == t508) = true then ((sets_Has.f l0 a1_0 l1_1).bind fun t509 => (if t509 = true then ((constablelaw04_wakes.f).bind fun t510 => (some t510)) else ((constablekeep_Facts.f k t492 l0).bind fun t511 => (if t511 = true then ((constablelaw04_wakes.f).bind fun t512 => (some t512)) else (none))))) else (none)))) else (none))) = some r := H
             have A75 := Aside0.mk A750
             clear A750
             replace H := Option.bind_eq_some_iff.mp H
             obtain ⟨t506, A760, H⟩ := H
             replace H : (if (t505 == t506) = true then ((sets_Has.f t492 a2_0 l2_1).bind fun t507 => ((sets_Has.f l0 a2_0 l2_1).bind fun t508 => (if (t507 == t508) = true then ((sets_Has.f l0 a1_0 l1_1).bind fun t509 => (if t509 = true then ((constablelaw04_wakes.f).bind fun t510 => (some t510)) else ((constablekeep_Facts.f k t492 l0).bind fun t511 => (if t511 = true then ((constablelaw04_wakes.f).bind fun t512 => (some t512)) else (none))))) else (none)))) else (none)) = some r := H
             have A76 := Aside0.mk A760
             clear A760
             by_cases c77 : (t505 == t506) = true
             ·rw [if_pos c77] at H
              have c77b0 : (t505 == t506) = true := c77
              (try (have c77b1 : decide (t505 = t506) = true := by simpa using c77))
              (try (have c77b2 : (t505 == t506) = true := by simpa using c77))
              clear c77
              replace H := Option.bind_eq_some_iff.mp H
              obtain ⟨t507, A780, H⟩ := H
              replace H : ((sets_Has.f l0 a2_0 l2_1).bind fun t508 => (if (t507 == t508) = true then ((sets_Has.f l0 a1_0 l1_1).bind fun t509 => (if t509 = true then ((constablelaw04_wakes.f).bind fun t510 => (some t510)) else ((constablekeep_Facts.f k t492 l0).bind fun t511 => (if t511 = true then ((constablelaw04_wakes.f).bind fun t512 => (some t512)) else (none))))) else (none))) = some r := H
              have A78 := Aside0.mk A780
              clear A780
              replace H := Option.bind_eq_some_iff.mp H
              obtain ⟨t508, A790, H⟩ := H
              replace H : (if (t507 == t508) = true then ((sets_Has.f l0 a1_0 l1_1).bind fun t509 => (if t509 = true then ((constablelaw04_wakes.f).bind fun t510 => (some t510)) else ((constablekeep_Facts.f k t492 l0).bind fun t511 => (if t511 = true then ((constablelaw04_wakes.f).bind fun t512 => (some t512)) else (none))))) else (none)) = some r := H
              have A79 := Aside0.mk A790
              clear A790
              by_cases c80 : (t507 == t508) = true
              ·rw [if_pos c80] at H
               have c80b0 : (t507 == t508) = true := c80
               (try (have c80b1 : decide (t507 = t508) = true := by simpa using c80))
               (try (have c80b2 : (t507 == t508) = true := by simpa using c80))
               clear c80
               replace H := Option.bind_eq_some_iff.mp H
               obtain ⟨t509, A810, H⟩ := H
               replace H : (if t509 = true then ((constablelaw04_wakes.f).bind fun t510 => (some t510)) else ((constablekeep_Facts.f k t492 l0).bind fun t511 => (if t511 = true then ((constablelaw04_wakes.f).bind fun t512 => (some t512)) else (none)))) = some r := H
               have A81 := Aside0.mk A810
               clear A810
               by_cases c82 : t509 = true
               ·subst c82
                have H1 : ((constablelaw04_wakes.f).bind fun t510 => (some t510)) = some r := by rw [if_pos rfl] at H; exact H
                clear H
                have H := H1
                clear H1
                replace H := Option.bind_eq_some_iff.mp H
                obtain ⟨t510, A830, H⟩ := H
                replace H : (some t510) = some r := H
                have A83 := Aside0.mk A830
                clear A830
                obtain rfl := Option.some.inj H
                go_enter Try.func8, Try.ntmps8
                try go_wp2_with (first | ((with_reducible refine gate_dst (N := 4) rfl ?_); refine bE (N := 4) (cs := #[.string a1_0, .slice A1_1 l1_1.length c1_1]) (t := 53) ?_; intro gb481 hg w84 hbox hb; have n0_ := Aside0.mk (below_step bB0 hb); have n1_ := Aside0.mk (hbox); have n2_ := Aside0.mk ((by rw [hg]; exact (below_size bB0) : w.heap.size ≤ gb481)); have n3_ := Aside0.mk ((by rw [hg]; exact (below_size bB0) : w.heap.size ≤ gb481)); clear HB; have HB := n0_; have BK481 := n1_; have GW481 := n2_; have GE481 := n3_; clear n0_ n1_ n2_ n3_; clear hb hbox hg) | ((with_reducible refine gate_dst (N := 5) rfl ?_); refine bE (N := 5) (cs := #[.string a2_0, .slice A2_1 l2_1.length c2_1]) (t := 53) ?_; intro gb482 hg w85 hbox hb; have n0_ := Aside0.mk (blk_below (g := gb481) (o := .cells #[.string a1_0, .slice A1_1 l1_1.length c1_1] 53 (0, 0)) (by refine bk ?_; exact BK481.out) hb); have n1_ := Aside0.mk (below_step (bB1 GE481.out) hb); have n2_ := Aside0.mk (hbox); have n3_ := Aside0.mk ((by rw [hg]; exact (below_size (bB1 GE481.out)) : w.heap.size ≤ gb482)); have n4_ := Aside0.mk ((by rw [hg]; exact (below_size (bB1 GE481.out)) : w.heap.size ≤ gb482)); have n5_ := Aside0.mk ((by rw [hg]; exact Nat.ne_of_lt (blk_lt (g := gb481) (o := .cells #[.string a1_0, .slice A1_1 l1_1.length c1_1] 53 (0, 0)) (by refine bk ?_; exact BK481.out)) : gb481 ≠ gb482)); have n6_ := Aside0.mk ((by rw [hg]; exact Nat.ne_of_gt (blk_lt (g := gb481) (o := .cells #[.string a1_0, .slice A1_1 l1_1.length c1_1] 53 (0, 0)) (by refine bk ?_; exact BK481.out)) : gb482 ≠ gb481)); clear BK481; clear HB; have BK481 := n0_; have HB := n1_; have BK482 := n2_; have GW482 := n3_; have GE482 := n4_; have NB481_482 := n5_; have NB482_481 := n6_; clear n0_ n1_ n2_ n3_ n4_ n5_ n6_; clear hb hbox hg) | ((with_reducible refine gate_callee (f := 29) rfl ?_); refine goesL_ (some 14) rfl rfl Try.func29 (by kernel_rfl) rfl #[.slice A0 l0.length c0] rfl aG ?_; (with_reducible refine (constablelaw03_Many.calls k _ _ l0 false _ ?side1 ?side2 A4.out).mono ?_); (case side1 => exact sC (Kd.C_below HR0.out HB.out)); (case side2 => exact HC0.out); rintro e w86 ⟨rfl, hb⟩; refine ⟨_, rfl, ?_⟩; have n0_ := Aside0.mk (blk_below (g := gb481) (o := .cells #[.string a1_0, .slice A1_1 l1_1.length c1_1] 53 (0, 0)) (by refine bk ?_; exact BK481.out) hb); have n1_ := Aside0.mk (blk_below (g := gb482) (o := .cells #[.string a2_0, .slice A2_1 l2_1.length c2_1] 53 (0, 0)) (by refine bk ?_; exact BK482.out) hb); have n2_ := Aside0.mk (below_step (bB2 GE481.out GE482.out) hb); clear BK481; clear BK482; clear HB; have BK481 := n0_; have BK482 := n1_; have HB := n2_; clear n0_ n1_ n2_; (try clear hb); (try clear hb2); (try clear hk); (try clear hi); have hnb87 := NB481_482.out; have hnc87 := NB482_481.out; have hcz88_0 : w86.cell? ⟨gb481, 0, none⟩ = some (.string a1_0) := (blk_cell BK481.out 0).trans rfl; have hcz88_1 : w86.cell? ⟨gb481, 1, none⟩ = some (.slice A1_1 l1_1.length c1_1) := (blk_cell BK481.out 1).trans rfl; have hfz88_0 := blk_frozen BK481.out 0; have hfz88_1 := blk_frozen BK481.out 1) | (go_at_call 36; (with_reducible refine (constablelaw03_Heavy.calls k a1_0 _ _ l1_1 false _ ?side1 ?side2 A9.out).mono ?_); (case side1 => exact sC (Kd.C_below HR1_1.out HB.out)); (case side2 => exact HC1_1.out); rintro e w89 ⟨rfl, hb⟩; have n0_ := Aside0.mk (blk_below (g := gb481) (o := .cells #[.string a1_0, .slice A1_1 l1_1.length c1_1] 53 (0, 0)) (by refine bk ?_; exact BK481.out) hb); have n1_ := Aside0.mk (blk_below (g := gb482) (o := .cells #[.string a2_0, .slice A2_1 l2_1.length c2_1] 53 (0, 0)) (by refine bk ?_; exact BK482.out) hb); have n2_ := Aside0.mk (below_step (bB2 GE481.out GE482.out) hb); clear BK481; clear BK482; clear HB; have BK481 := n0_; have BK482 := n1_; have HB := n2_; clear n0_ n1_ n2_; (try clear hb); (try clear hb2); (try clear hk); (try clear hi); have hcz90_0 : w89.cell? ⟨gb482, 0, none⟩ = some (.string a2_0) := (blk_cell BK482.out 0).trans rfl; have hcz90_1 : w89.cell? ⟨gb482, 1, none⟩ = some (.slice A2_1 l2_1.length c2_1) := (blk_cell BK482.out 1).trans rfl; have hfz90_0 := blk_frozen BK482.out 0; have hfz90_1 := blk_frozen BK482.out 1) | (go_at_call 36; (with_reducible refine (constablelaw03_Heavy.calls k a2_0 _ _ l2_1 false _ ?side1 ?side2 A17.out).mono ?_); (case side1 => exact sC (Kd.C_below HR2_1.out HB.out)); (case side2 => exact HC2_1.out); rintro e w91 ⟨rfl, hb⟩; have n0_ := Aside0.mk (blk_below (g := gb481) (o := .cells #[.string a1_0, .slice A1_1 l1_1.length c1_1] 53 (0, 0)) (by refine bk ?_; exact BK481.out) hb); have n1_ := Aside0.mk (blk_below (g := gb482) (o := .cells #[.string a2_0, .slice A2_1 l2_1.length c2_1] 53 (0, 0)) (by refine bk ?_; exact BK482.out) hb); have n2_ := Aside0.mk (below_step (bB2 GE481.out GE482.out) hb); clear BK481; clear BK482; clear HB; have BK481 := n0_; have BK482 := n1_; have HB := n2_; clear n0_ n1_ n2_; (try clear hb); (try clear hb2); (try clear hk); (try clear hi)) | (go_at_call 37; (with_reducible refine (constableref01_Set.calls k _ _ l0 true _ ?side1 ?side2 A27.out).mono ?_); (case side1 => exact sC (Kd.C_below HR0.out HB.out)); (case side2 => exact HC0.out); rintro e w92 ⟨rfl, hb⟩; have n0_ := Aside0.mk (blk_below (g := gb481) (o := .cells #[.string a1_0, .slice A1_1 l1_1.length c1_1] 53 (0, 0)) (by refine bk ?_; exact BK481.out) hb); have n1_ := Aside0.mk (blk_below (g := gb482) (o := .cells #[.string a2_0, .slice A2_1 l2_1.length c2_1] 53 (0, 0)) (by refine bk ?_; exact BK482.out) hb); have n2_ := Aside0.mk (below_step (bB2 GE481.out GE482.out) hb); clear BK481; clear BK482; clear HB; have BK481 := n0_; have BK482 := n1_; have HB := n2_; clear n0_ n1_ n2_; (try clear hb); (try clear hb2); (try clear hk); (try clear hi); have hcz93_0 : w92.cell? ⟨gb481, 0, none⟩ = some (.string a1_0) := (blk_cell BK481.out 0).trans rfl; have hcz93_1 : w92.cell? ⟨gb481, 1, none⟩ = some (.slice A1_1 l1_1.length c1_1) := (blk_cell BK481.out 1).trans rfl; have hfz93_0 := blk_frozen BK481.out 0; have hfz93_1 := blk_frozen BK481.out 1) | (go_at_call 38; (with_reducible refine (constableref01_Fact.calls k a1_0 _ _ l1_1 true _ ?side1 ?side2 A29.out).mono ?_); (case side1 => exact sC (Kd.C_below HR1_1.out HB.out)); (case side2 => exact HC1_1.out); rintro e w94 ⟨rfl, hb⟩; have n0_ := Aside0.mk (blk_below (g := gb481) (o := .cells #[.string a1_0, .slice A1_1 l1_1.length c1_1] 53 (0, 0)) (by refine bk ?_; exact BK481.out) hb); have n1_ := Aside0.mk (blk_below (g := gb482) (o := .cells #[.string a2_0, .slice A2_1 l2_1.length c2_1] 53 (0, 0)) (by refine bk ?_; exact BK482.out) hb); have n2_ := Aside0.mk (below_step (bB2 GE481.out GE482.out) hb); clear BK481; clear BK482; clear HB; have BK481 := n0_; have BK482 := n1_; have HB := n2_; clear n0_ n1_ n2_; (try clear hb); (try clear hb2); (try clear hk); (try clear hi); have hcz95_0 : w94.cell? ⟨gb481, 0, none⟩ = some (.string a1_0) := (blk_cell BK481.out 0).trans rfl; have hcz95_1 : w94.cell? ⟨gb481, 1, none⟩ = some (.slice A1_1 l1_1.length c1_1) := (blk_cell BK481.out 1).trans rfl; have hfz95_0 := blk_frozen BK481.out 0; have hfz95_1 := blk_frozen BK481.out 1) | ((with_reducible refine gate_callee (f := 32) rfl ?_); refine goesL_ (some 36) rfl rfl Try.func32 (by kernel_rfl) rfl #[.slice A0 l0.length c0, .agg #[.string a1_0, .slice A1_1 l1_1.length c1_1]] rfl aG ?_; (with_reducible refine (sets_Put.calls _ _ l0 a1_0 _ _ l1_1 t488 t491 _ ?side1 ?side2 ?side3 ?side4 A31.out).mono ?_); (case side1 => exact sC (Kd.C_below HR0.out HB.out)); (case side2 => exact HC0.out); (case side3 => exact sC (Kd.C_below HR1_1.out HB.out)); (case side4 => exact HC1_1.out); rintro e w96 ⟨v489, rfl, ho0, hb⟩; refine ⟨_, rfl, ?_⟩; have n0_ := Aside0.mk (Kd.S_lower (Kd.S_newB (Kd.S_newB ho0 (g := gb481) (o := .cells #[.string a1_0, .slice A1_1 l1_1.length c1_1] 53 (0, 0)) (by refine bk ?_; exact BK481.out)) (g := gb482) (o := .cells #[.string a2_0, .slice A2_1 l2_1.length c2_1] 53 (0, 0)) (by refine bk ?_; exact BK482.out)) (below_size (bB2 GE481.out GE482.out))); have n1_ := Aside0.mk (blk_below (g := gb481) (o := .cells #[.string a1_0, .slice A1_1 l1_1.length c1_1] 53 (0, 0)) (by refine bk ?_; exact BK481.out) hb); have n2_ := Aside0.mk (blk_below (g := gb482) (o := .cells #[.string a2_0, .slice A2_1 l2_1.length c2_1] 53 (0, 0)) (by refine bk ?_; exact BK482.out) hb); have n3_ := Aside0.mk (below_step (bB2 GE481.out GE482.out) hb); clear BK481; clear BK482; clear HB; have HO490 := n0_; have BK481 := n1_; have BK482 := n2_; have HB := n3_; clear n0_ n1_ n2_ n3_; (try clear hb); (try clear hb2); (try clear hk); (try clear hi); (try clear ho0); have hcz97_0 : w96.cell? ⟨gb481, 0, none⟩ = some (.string a1_0) := (blk_cell BK481.out 0).trans rfl; have hcz97_1 : w96.cell? ⟨gb481, 1, none⟩ = some (.slice A1_1 l1_1.length c1_1) := (blk_cell BK481.out 1).trans rfl; have hfz97_0 := blk_frozen BK481.out 0; have hfz97_1 := blk_frozen BK481.out 1; obtain ⟨Ao98, co98, eo98⟩ := Kd.S_slice HO490.out; subst eo98) | ((with_reducible refine gate_callee (f := 39) rfl ?_); refine goesL_ (some 42) rfl rfl Try.func39 (by kernel_rfl) rfl #[.slice Ao98 t488.length co98, .agg #[.string a1_0, .slice A1_1 l1_1.length c1_1]] rfl aG ?_; (with_reducible refine (sets_Drop.calls _ _ t488 a1_0 _ _ l1_1 t492 t495 _ ?side1 ?side2 ?side3 ?side4 A32.out).mono ?_); (case side1 => exact sC (Kd.S_reads' HO490.out).2.2); (case side2 => exact (Kd.S_reads' HO490.out).2.1); (case side3 => exact sC (Kd.C_below HR1_1.out HB.out)); (case side4 => exact HC1_1.out); rintro e w99 ⟨v493, rfl, ho0, hb⟩; refine ⟨_, rfl, ?_⟩; have n0_ := Aside0.mk (Kd.S_elder' (by (with_reducible repeat (first | apply Kd.S_alloc | apply Kd.S_drewN | apply Kd.S_drew)); exact HO490.out) (Kd.S_base ho0) hb); have n1_ := Aside0.mk (Kd.S_lower (Kd.S_newB (Kd.S_newB (Kd.S_new' ho0 (Kd.S_lt (by (with_reducible repeat (first | apply Kd.S_alloc | apply Kd.S_drewN | apply Kd.S_drew)); exact HO490.out))) (g := gb481) (o := .cells #[.string a1_0, .slice A1_1 l1_1.length c1_1] 53 (0, 0)) (by refine bk ?_; exact BK481.out)) (g := gb482) (o := .cells #[.string a2_0, .slice A2_1 l2_1.length c2_1] 53 (0, 0)) (by refine bk ?_; exact BK482.out)) (below_size (bB2 GE481.out GE482.out))); have n2_ := Aside0.mk (blk_below (g := gb481) (o := .cells #[.string a1_0, .slice A1_1 l1_1.length c1_1] 53 (0, 0)) (by refine bk ?_; exact BK481.out) hb); have n3_ := Aside0.mk (blk_below (g := gb482) (o := .cells #[.string a2_0, .slice A2_1 l2_1.length c2_1] 53 (0, 0)) (by refine bk ?_; exact BK482.out) hb); have n4_ := Aside0.mk (below_step (bB2 GE481.out GE482.out) hb); clear HO490; clear BK481; clear BK482; clear HB; have HO490 := n0_; have HO494 := n1_; have BK481 := n2_; have BK482 := n3_; have HB := n4_; clear n0_ n1_ n2_ n3_ n4_; (try clear hb); (try clear hb2); (try clear hk); (try clear hi); (try clear ho0); have hcz100_0 : w99.cell? ⟨gb481, 0, none⟩ = some (.string a1_0) := (blk_cell BK481.out 0).trans rfl; have hcz100_1 : w99.cell? ⟨gb481, 1, none⟩ = some (.slice A1_1 l1_1.length c1_1) := (blk_cell BK481.out 1).trans rfl; have hfz100_0 := blk_frozen BK481.out 0; have hfz100_1 := blk_frozen BK481.out 1) | ((with_reducible refine gate_callee (f := 39) rfl ?_); refine goesL_ (some 48) rfl rfl Try.func39 (by kernel_rfl) rfl #[.slice A0 l0.length c0, .agg #[.string a1_0, .slice A1_1 l1_1.length c1_1]] rfl aG ?_; (with_reducible refine (sets_Drop.calls _ _ l0 a1_0 _ _ l1_1 t496 t499 _ ?side1 ?side2 ?side3 ?side4 A33.out).mono ?_); (case side1 => exact sC (Kd.C_below HR0.out HB.out)); (case side2 => exact HC0.out); (case side3 => exact sC (Kd.C_below HR1_1.out HB.out)); (case side4 => exact HC1_1.out); rintro e w101 ⟨v497, rfl, ho0, hb⟩; refine ⟨_, rfl, ?_⟩; have n0_ := Aside0.mk (Kd.S_elder' (by (with_reducible repeat (first | apply Kd.S_alloc | apply Kd.S_drewN | apply Kd.S_drew)); exact HO490.out) (Kd.S_base ho0) hb); have n1_ := Aside0.mk (Kd.S_elder' (by (with_reducible repeat (first | apply Kd.S_alloc | apply Kd.S_drewN | apply Kd.S_drew)); exact HO494.out) (Kd.S_base ho0) hb); have n2_ := Aside0.mk (Kd.S_lower (Kd.S_newB (Kd.S_newB (Kd.S_new' (Kd.S_new' ho0 (Kd.S_lt (by (with_reducible repeat (first | apply Kd.S_alloc | apply Kd.S_drewN | apply Kd.S_drew)); exact HO490.out))) (Kd.S_lt (by (with_reducible repeat (first | apply Kd.S_alloc | apply Kd.S_drewN | apply Kd.S_drew)); exact HO494.out))) (g := gb481) (o := .cells #[.string a1_0, .slice A1_1 l1_1.length c1_1] 53 (0, 0)) (by refine bk ?_; exact BK481.out)) (g := gb482) (o := .cells #[.string a2_0, .slice A2_1 l2_1.length c2_1] 53 (0, 0)) (by refine bk ?_; exact BK482.out)) (below_size (bB2 GE481.out GE482.out))); have n3_ := Aside0.mk (blk_below (g := gb481) (o := .cells #[.string a1_0, .slice A1_1 l1_1.length c1_1] 53 (0, 0)) (by refine bk ?_; exact BK481.out) hb); have n4_ := Aside0.mk (blk_below (g := gb482) (o := .cells #[.string a2_0, .slice A2_1 l2_1.length c2_1] 53 (0, 0)) (by refine bk ?_; exact BK482.out) hb); have n5_ := Aside0.mk (below_step (bB2 GE481.out GE482.out) hb); clear HO490; clear HO494; clear BK481; clear BK482; clear HB; have HO490 := n0_; have HO494 := n1_; have HO498 := n2_; have BK481 := n3_; have BK482 := n4_; have HB := n5_; clear n0_ n1_ n2_ n3_ n4_ n5_; (try clear hb); (try clear hb2); (try clear hk); (try clear hi); (try clear ho0); have hcz102_0 : w101.cell? ⟨gb481, 0, none⟩ = some (.string a1_0) := (blk_cell BK481.out 0).trans rfl; have hcz102_1 : w101.cell? ⟨gb481, 1, none⟩ = some (.slice A1_1 l1_1.length c1_1) := (blk_cell BK481.out 1).trans rfl; have hfz102_0 := blk_frozen BK481.out 0; have hfz102_1 := blk_frozen BK481.out 1) | (go_at_call 33; (with_reducible refine (sets_Has.calls _ _ t488 a1_0 _ _ l1_1 true _ ?side1 ?side2 ?side3 ?side4 A37.out).mono ?_); (case side1 => exact sC (Kd.S_reads' HO490.out).2.2); (case side2 => exact (Kd.S_reads' HO490.out).2.1); (case side3 => exact sC (Kd.C_below HR1_1.out HB.out)); (case side4 => exact HC1_1.out); rintro e w103 ⟨rfl, hb⟩; have n0_ := Aside0.mk (Kd.S_below (by (with_reducible repeat (first | apply Kd.S_alloc | apply Kd.S_drewN | apply Kd.S_drew)); exact HO490.out) hb); have n1_ := Aside0.mk (Kd.S_below (by (with_reducible repeat (first | apply Kd.S_alloc | apply Kd.S_drewN | apply Kd.S_drew)); exact HO494.out) hb); have n2_ := Aside0.mk (Kd.S_below (by (with_reducible repeat (first | apply Kd.S_alloc | apply Kd.S_drewN | apply Kd.S_drew)); exact HO498.out) hb); have n3_ := Aside0.mk (blk_below (g := gb481) (o := .cells #[.string a1_0, .slice A1_1 l1_1.length c1_1] 53 (0, 0)) (by refine bk ?_; exact BK481.out) hb); have n4_ := Aside0.mk (blk_below (g := gb482) (o := .cells #[.string a2_0, .slice A2_1 l2_1.length c2_1] 53 (0, 0)) (by refine bk ?_; exact BK482.out) hb); have n5_ := Aside0.mk (below_step (bB2 GE481.out GE482.out) hb); clear HO490; clear HO494; clear HO498; clear BK481; clear BK482; clear HB; have HO490 := n0_; have HO494 := n1_; have HO498 := n2_; have BK481 := n3_; have BK482 := n4_; have HB := n5_; clear n0_ n1_ n2_ n3_ n4_ n5_; (try clear hb); (try clear hb2); (try clear hk); (try clear hi); have hcz104_0 : w103.cell? ⟨gb481, 0, none⟩ = some (.string a1_0) := (blk_cell BK481.out 0).trans rfl; have hcz104_1 : w103.cell? ⟨gb481, 1, none⟩ = some (.slice A1_1 l1_1.length c1_1) := (blk_cell BK481.out 1).trans rfl; have hfz104_0 := blk_frozen BK481.out 0; have hfz104_1 := blk_frozen BK481.out 1; obtain ⟨Ao105, co105, eo105⟩ := Kd.S_slice HO494.out; subst eo105) | (go_at_call 33; (with_reducible refine (sets_Has.calls _ _ t492 a1_0 _ _ l1_1 false _ ?side1 ?side2 ?side3 ?side4 A39.out).mono ?_); (case side1 => exact sC (Kd.S_reads' HO494.out).2.2); (case side2 => exact (Kd.S_reads' HO494.out).2.1); (case side3 => exact sC (Kd.C_below HR1_1.out HB.out)); (case side4 => exact HC1_1.out); rintro e w106 ⟨rfl, hb⟩; have n0_ := Aside0.mk (Kd.S_below (by (with_reducible repeat (first | apply Kd.S_alloc | apply Kd.S_drewN | apply Kd.S_drew)); exact HO490.out) hb); have n1_ := Aside0.mk (Kd.S_below (by (with_reducible repeat (first | apply Kd.S_alloc | apply Kd.S_drewN | apply Kd.S_drew)); exact HO494.out) hb); have n2_ := Aside0.mk (Kd.S_below (by (with_reducible repeat (first | apply Kd.S_alloc | apply Kd.S_drewN | apply Kd.S_drew)); exact HO498.out) hb); have n3_ := Aside0.mk (blk_below (g := gb481) (o := .cells #[.string a1_0, .slice A1_1 l1_1.length c1_1] 53 (0, 0)) (by refine bk ?_; exact BK481.out) hb); have n4_ := Aside0.mk (blk_below (g := gb482) (o := .cells #[.string a2_0, .slice A2_1 l2_1.length c2_1] 53 (0, 0)) (by refine bk ?_; exact BK482.out) hb); have n5_ := Aside0.mk (below_step (bB2 GE481.out GE482.out) hb); clear HO490; clear HO494; clear HO498; clear BK481; clear BK482; clear HB; have HO490 := n0_; have HO494 := n1_; have HO498 := n2_; have BK481 := n3_; have BK482 := n4_; have HB := n5_; clear n0_ n1_ n2_ n3_ n4_ n5_; (try clear hb); (try clear hb2); (try clear hk); (try clear hi); obtain ⟨Ao107, co107, eo107⟩ := Kd.S_slice HO498.out; subst eo107) | (go_at_call 34; (with_reducible refine (constablekeep_Facts.calls k _ _ t492 _ _ t496 true _ ?side1 ?side2 ?side3 ?side4 A41.out).mono ?_); (case side1 => exact sC (Kd.S_reads' HO494.out).2.2); (case side2 => exact (Kd.S_reads' HO494.out).2.1); (case side3 => exact sC (Kd.S_reads' HO498.out).2.2); (case side4 => exact (Kd.S_reads' HO498.out).2.1); rintro e w108 ⟨rfl, hb⟩; have n0_ := Aside0.mk (Kd.S_below (by (with_reducible repeat (first | apply Kd.S_alloc | apply Kd.S_drewN | apply Kd.S_drew)); exact HO490.out) hb); have n1_ := Aside0.mk (Kd.S_below (by (with_reducible repeat (first | apply Kd.S_alloc | apply Kd.S_drewN | apply Kd.S_drew)); exact HO494.out) hb); have n2_ := Aside0.mk (Kd.S_below (by (with_reducible repeat (first | apply Kd.S_alloc | apply Kd.S_drewN | apply Kd.S_drew)); exact HO498.out) hb); have n3_ := Aside0.mk (blk_below (g := gb481) (o := .cells #[.string a1_0, .slice A1_1 l1_1.length c1_1] 53 (0, 0)) (by refine bk ?_; exact BK481.out) hb); have n4_ := Aside0.mk (blk_below (g := gb482) (o := .cells #[.string a2_0, .slice A2_1 l2_1.length c2_1] 53 (0, 0)) (by refine bk ?_; exact BK482.out) hb); have n5_ := Aside0.mk (below_step (bB2 GE481.out GE482.out) hb); clear HO490; clear HO494; clear HO498; clear BK481; clear BK482; clear HB; have HO490 := n0_; have HO494 := n1_; have HO498 := n2_; have BK481 := n3_; have BK482 := n4_; have HB := n5_; clear n0_ n1_ n2_ n3_ n4_ n5_; (try clear hb); (try clear hb2); (try clear hk); (try clear hi); have hcz109_0 : w108.cell? ⟨gb481, 0, none⟩ = some (.string a1_0) := (blk_cell BK481.out 0).trans rfl; have hcz109_1 : w108.cell? ⟨gb481, 1, none⟩ = some (.slice A1_1 l1_1.length c1_1) := (blk_cell BK481.out 1).trans rfl; have hfz109_0 := blk_frozen BK481.out 0; have hfz109_1 := blk_frozen BK481.out 1; have hcz110_0 : w108.cell? ⟨gb482, 0, none⟩ = some (.string a2_0) := (blk_cell BK482.out 0).trans rfl; have hcz110_1 : w108.cell? ⟨gb482, 1, none⟩ = some (.slice A2_1 l2_1.length c2_1) := (blk_cell BK482.out 1).trans rfl; have hfz110_0 := blk_frozen BK482.out 0; have hfz110_1 := blk_frozen BK482.out 1) | ((with_reducible refine gate_callee (f := 40) rfl ?_); refine goesL_ (some 80) rfl rfl Try.func40 (by kernel_rfl) rfl #[.agg #[.string a1_0, .slice A1_1 l1_1.length c1_1], .agg #[.string a2_0, .slice A2_1 l2_1.length c2_1]] rfl aG ?_; (with_reducible refine (constablekeep_Fact.calls k a1_0 _ _ l1_1 a2_0 _ _ l2_1 false _ ?side1 ?side2 ?side3 ?side4 A43.out).mono ?_); (case side1 => exact sC (Kd.C_below HR1_1.out HB.out)); (case side2 => exact HC1_1.out); (case side3 => exact sC (Kd.C_below HR2_1.out HB.out)); (case side4 => exact HC2_1.out); rintro e w111 ⟨rfl, hb⟩; refine ⟨_, rfl, ?_⟩; have n0_ := Aside0.mk (Kd.S_below (by (with_reducible repeat (first | apply Kd.S_alloc | apply Kd.S_drewN | apply Kd.S_drew)); exact HO490.out) hb); have n1_ := Aside0.mk (Kd.S_below (by (with_reducible repeat (first | apply Kd.S_alloc | apply Kd.S_drewN | apply Kd.S_drew)); exact HO494.out) hb); have n2_ := Aside0.mk (Kd.S_below (by (with_reducible repeat (first | apply Kd.S_alloc | apply Kd.S_drewN | apply Kd.S_drew)); exact HO498.out) hb); have n3_ := Aside0.mk (blk_below (g := gb481) (o := .cells #[.string a1_0, .slice A1_1 l1_1.length c1_1] 53 (0, 0)) (by refine bk ?_; exact BK481.out) hb); have n4_ := Aside0.mk (blk_below (g := gb482) (o := .cells #[.string a2_0, .slice A2_1 l2_1.length c2_1] 53 (0, 0)) (by refine bk ?_; exact BK482.out) hb); have n5_ := Aside0.mk (below_step (bB2 GE481.out GE482.out) hb); clear HO490; clear HO494; clear HO498; clear BK481; clear BK482; clear HB; have HO490 := n0_; have HO494 := n1_; have HO498 := n2_; have BK481 := n3_; have BK482 := n4_; have HB := n5_; clear n0_ n1_ n2_ n3_ n4_ n5_; (try clear hb); (try clear hb2); (try clear hk); (try clear hi)))
                have n0_ := Aside0.mk (Kd.S_drew HO490.out)
                have n1_ := Aside0.mk (Kd.S_drew HO494.out)
                have n2_ := Aside0.mk (Kd.S_drew HO498.out)
                have n3_ := Aside0.mk (blk_drew BK481.out)
                have n4_ := Aside0.mk (blk_drew BK482.out)
                have n5_ := Aside0.mk (below_drew1 HB.out)
                clear HO490
                clear HO494
                clear HO498
                clear BK481
                clear BK482
                clear HB
                have HO490 := n0_
                have HO494 := n1_
                have HO498 := n2_
                have BK481 := n3_
                have BK482 := n4_
                have HB := n5_
                clear n0_ n1_ n2_ n3_ n4_ n5_
                refine start_ (n := 30) (S := fun w' => w'.cell? ⟨gb482, 0, none⟩ = some (.string a2_0) ∧ w'.cell? ⟨gb482, 1, none⟩ = some (.slice A2_1 l2_1.length c2_1) ∧ w'.cell? ⟨gb481, 0, none⟩ = some (.string a1_0) ∧ w'.cell? ⟨gb481, 1, none⟩ = some (.slice A1_1 l1_1.length c1_1)) (ds := []) #[false, false, false, false, false, false, false, false, false, false, false, false, false, false, false, false, false, false, false, false, false, false, false, false, false, false, false, false, false, false] (by kernel_rfl) rfl rfl ⟨(blk_cell BK482.out 0).trans rfl, (blk_cell BK482.out 1).trans rfl, (blk_cell BK481.out 0).trans rfl, (blk_cell BK481.out 1).trans rfl⟩ (fun hHeld => ?_); refine with_tabW constablelaw04_SetsDrop.tab10 constablelaw04_SetsDrop.bits10 (fun HT_ HW_ => ?_)
                generalize w111.drew = w112 at HO490 HO494 HO498 BK481 BK482 HB hHeld ⊢
                refine pQ (i := 0) (N := some 82) (bb 30 1) ?_
                refine pQ (i := 3) (N := some 85) (bb 30 9) ?_
                refine tQ4 (i := 1) (N := some 83) (bb 30 11) hHeld ?_
                refine tQ4 (i := 4) (N := some 86) (bb 30 27) hHeld ?_
                refine one_ (i := 2) (N := some 84) (bb 30 31) rfl rfl (one_of HT_.out (by kernel_rfl)) (by decide) (fun K hK => ?_)
                refine goes_ Try.func33 (by kernel_rfl) rfl #[.slice Ao98 t488.length co98, .agg #[.string a2_0, .slice A2_1 l2_1.length c2_1]] (by rfl) rfl rfl aG ?_
                with_reducible refine (sets_Has.calls _ _ t488 a2_0 _ _ l2_1 t505 _ ?side1 ?side2 ?side3 ?side4 A75.out).mono ?_
                (case side1 => exact sC (Kd.S_reads' HO490.out).2.2)
                (case side2 => exact (Kd.S_reads' HO490.out).2.1)
                (case side3 => exact sC (Kd.C_below HR2_1.out HB.out))
                (case side4 => exact HC2_1.out)
                rintro e w113 ⟨rfl, hb⟩
                refine ⟨_, rfl, ?_⟩
                have n0_ := Aside0.mk (Kd.S_below (by (with_reducible repeat (first | apply Kd.S_alloc | apply Kd.S_drewN | apply Kd.S_drew)); exact HO490.out) hb)
                have n1_ := Aside0.mk (Kd.S_below (by (with_reducible repeat (first | apply Kd.S_alloc | apply Kd.S_drewN | apply Kd.S_drew)); exact HO494.out) hb)
                have n2_ := Aside0.mk (Kd.S_below (by (with_reducible repeat (first | apply Kd.S_alloc | apply Kd.S_drewN | apply Kd.S_drew)); exact HO498.out) hb)
                have n3_ := Aside0.mk (blk_below (g := gb481) (o := .cells #[.string a1_0, .slice A1_1 l1_1.length c1_1] 53 (0, 0)) (by refine bk ?_; exact BK481.out) hb)
                have n4_ := Aside0.mk (blk_below (g := gb482) (o := .cells #[.string a2_0, .slice A2_1 l2_1.length c2_1] 53 (0, 0)) (by refine bk ?_; exact BK482.out) hb)
                have n5_ := Aside0.mk (below_step (bB2 GE481.out GE482.out) hb)
                clear HO490
                clear HO494
                clear HO498
                clear BK481
                clear BK482
                clear HB
                have HO490 := n0_
                have HO494 := n1_
                have HO498 := n2_
                have BK481 := n3_
                have BK482 := n4_
                have HB := n5_
                clear n0_ n1_ n2_ n3_ n4_ n5_
                (try clear hb)
                (try clear hb2)
                (try clear hk)
                (try clear hi)
                refine hK.out _ _ ⟨(blk_cell BK482.out 0).trans rfl, (blk_cell BK482.out 1).trans rfl, (blk_cell BK481.out 0).trans rfl, (blk_cell BK481.out 1).trans rfl⟩ (fun hHeld => ?_)
                clear hK K
                refine norm_ (a' := ?_) ?_ ?_
                rotate_left
                ·show Act.put _ (some 84) _ = _
                 simp only [Act.put, List.setIfInBounds_toArray, List.set_cons_zero, List.set_cons_succ, i64_w, i32_w]
                 rfl
                refine one_ (i := 5) (N := some 87) (bb 30 63) rfl rfl (one_of HT_.out (by kernel_rfl)) (by decide) (fun K hK => ?_)
                refine goes_ Try.func33 (by kernel_rfl) rfl #[.slice A0 l0.length c0, .agg #[.string a2_0, .slice A2_1 l2_1.length c2_1]] (by rfl) rfl rfl aG ?_
                with_reducible refine (sets_Has.calls _ _ l0 a2_0 _ _ l2_1 t506 _ ?side1 ?side2 ?side3 ?side4 A76.out).mono ?_
                (case side1 => exact sC (Kd.C_below HR0.out HB.out))
                (case side2 => exact HC0.out)
                (case side3 => exact sC (Kd.C_below HR2_1.out HB.out))
                (case side4 => exact HC2_1.out)
                rintro e w114 ⟨rfl, hb⟩
                refine ⟨_, rfl, ?_⟩
                have n0_ := Aside0.mk (Kd.S_below (by (with_reducible repeat (first | apply Kd.S_alloc | apply Kd.S_drewN | apply Kd.S_drew)); exact HO490.out) hb)
                have n1_ := Aside0.mk (Kd.S_below (by (with_reducible repeat (first | apply Kd.S_alloc | apply Kd.S_drewN | apply Kd.S_drew)); exact HO494.out) hb)
                have n2_ := Aside0.mk (Kd.S_below (by (with_reducible repeat (first | apply Kd.S_alloc | apply Kd.S_drewN | apply Kd.S_drew)); exact HO498.out) hb)
                have n3_ := Aside0.mk (blk_below (g := gb481) (o := .cells #[.string a1_0, .slice A1_1 l1_1.length c1_1] 53 (0, 0)) (by refine bk ?_; exact BK481.out) hb)
                have n4_ := Aside0.mk (blk_below (g := gb482) (o := .cells #[.string a2_0, .slice A2_1 l2_1.length c2_1] 53 (0, 0)) (by refine bk ?_; exact BK482.out) hb)
                have n5_ := Aside0.mk (below_step (bB2 GE481.out GE482.out) hb)
                clear HO490
                clear HO494
                clear HO498
                clear BK481
                clear BK482
                clear HB
                have HO490 := n0_
                have HO494 := n1_
                have HO498 := n2_
                have BK481 := n3_
                have BK482 := n4_
                have HB := n5_
                clear n0_ n1_ n2_ n3_ n4_ n5_
                (try clear hb)
                (try clear hb2)
                (try clear hk)
                (try clear hi)
                refine hK.out _ _ ⟨(blk_cell BK482.out 0).trans rfl, (blk_cell BK482.out 1).trans rfl, (blk_cell BK481.out 0).trans rfl, (blk_cell BK481.out 1).trans rfl⟩ (fun hHeld => ?_)
                clear hK K
                refine norm_ (a' := ?_) ?_ ?_
                rotate_left
                ·show Act.put _ (some 87) _ = _
                 simp only [Act.put, List.setIfInBounds_toArray, List.set_cons_zero, List.set_cons_succ, i64_w, i32_w]
                 rfl
                refine pQ (i := 6) (N := some 88) (bb 30 127) ?_
                refine pQ (i := 7) (N := some 89) (bb 30 255) ?_
                refine pQ (i := 8) (N := some 90) (bb 30 511) ?_
                refine pQ (i := 11) (N := some 93) (bb 30 2559) ?_
                refine tQ4 (i := 9) (N := some 91) (bb 30 3071) hHeld ?_
                refine tQ4 (i := 12) (N := some 94) (bb 30 7167) hHeld ?_
                refine one_ (i := 10) (N := some 92) (bb 30 8191) rfl rfl (one_of HT_.out (by kernel_rfl)) (by decide) (fun K hK => ?_)
                refine goes_ Try.func33 (by kernel_rfl) rfl #[.slice Ao105 t492.length co105, .agg #[.string a2_0, .slice A2_1 l2_1.length c2_1]] (by rfl) rfl rfl aG ?_
                with_reducible refine (sets_Has.calls _ _ t492 a2_0 _ _ l2_1 t507 _ ?side1 ?side2 ?side3 ?side4 A78.out).mono ?_
                (case side1 => exact sC (Kd.S_reads' HO494.out).2.2)
                (case side2 => exact (Kd.S_reads' HO494.out).2.1)
                (case side3 => exact sC (Kd.C_below HR2_1.out HB.out))
                (case side4 => exact HC2_1.out)
                rintro e w115 ⟨rfl, hb⟩
                refine ⟨_, rfl, ?_⟩
                have n0_ := Aside0.mk (Kd.S_below (by (with_reducible repeat (first | apply Kd.S_alloc | apply Kd.S_drewN | apply Kd.S_drew)); exact HO490.out) hb)
                have n1_ := Aside0.mk (Kd.S_below (by (with_reducible repeat (first | apply Kd.S_alloc | apply Kd.S_drewN | apply Kd.S_drew)); exact HO494.out) hb)
                have n2_ := Aside0.mk (Kd.S_below (by (with_reducible repeat (first | apply Kd.S_alloc | apply Kd.S_drewN | apply Kd.S_drew)); exact HO498.out) hb)
                have n3_ := Aside0.mk (blk_below (g := gb481) (o := .cells #[.string a1_0, .slice A1_1 l1_1.length c1_1] 53 (0, 0)) (by refine bk ?_; exact BK481.out) hb)
                have n4_ := Aside0.mk (blk_below (g := gb482) (o := .cells #[.string a2_0, .slice A2_1 l2_1.length c2_1] 53 (0, 0)) (by refine bk ?_; exact BK482.out) hb)
                have n5_ := Aside0.mk (below_step (bB2 GE481.out GE482.out) hb)
                clear HO490
                clear HO494
                clear HO498
                clear BK481
                clear BK482
                clear HB
                have HO490 := n0_
                have HO494 := n1_
                have HO498 := n2_
                have BK481 := n3_
                have BK482 := n4_
                have HB := n5_
                clear n0_ n1_ n2_ n3_ n4_ n5_
                (try clear hb)
                (try clear hb2)
                (try clear hk)
                (try clear hi)
                refine hK.out _ _ ⟨(blk_cell BK482.out 0).trans rfl, (blk_cell BK482.out 1).trans rfl, (blk_cell BK481.out 0).trans rfl, (blk_cell BK481.out 1).trans rfl⟩ (fun hHeld => ?_)
                clear hK K
                refine norm_ (a' := ?_) ?_ ?_
                rotate_left
                ·show Act.put _ (some 92) _ = _
                 simp only [Act.put, List.setIfInBounds_toArray, List.set_cons_zero, List.set_cons_succ, i64_w, i32_w]
                 rfl
                refine one_ (i := 13) (N := some 95) (bb 30 16383) rfl rfl (one_of HT_.out (by kernel_rfl)) (by decide) (fun K hK => ?_)
                refine goes_ Try.func33 (by kernel_rfl) rfl #[.slice A0 l0.length c0, .agg #[.string a2_0, .slice A2_1 l2_1.length c2_1]] (by rfl) rfl rfl aG ?_
                with_reducible refine (sets_Has.calls _ _ l0 a2_0 _ _ l2_1 t508 _ ?side1 ?side2 ?side3 ?side4 A79.out).mono ?_
                (case side1 => exact sC (Kd.C_below HR0.out HB.out))
                (case side2 => exact HC0.out)
                (case side3 => exact sC (Kd.C_below HR2_1.out HB.out))
                (case side4 => exact HC2_1.out)
                rintro e w116 ⟨rfl, hb⟩
                refine ⟨_, rfl, ?_⟩
                have n0_ := Aside0.mk (Kd.S_below (by (with_reducible repeat (first | apply Kd.S_alloc | apply Kd.S_drewN | apply Kd.S_drew)); exact HO490.out) hb)
                have n1_ := Aside0.mk (Kd.S_below (by (with_reducible repeat (first | apply Kd.S_alloc | apply Kd.S_drewN | apply Kd.S_drew)); exact HO494.out) hb)
                have n2_ := Aside0.mk (Kd.S_below (by (with_reducible repeat (first | apply Kd.S_alloc | apply Kd.S_drewN | apply Kd.S_drew)); exact HO498.out) hb)
                have n3_ := Aside0.mk (blk_below (g := gb481) (o := .cells #[.string a1_0, .slice A1_1 l1_1.length c1_1] 53 (0, 0)) (by refine bk ?_; exact BK481.out) hb)
                have n4_ := Aside0.mk (blk_below (g := gb482) (o := .cells #[.string a2_0, .slice A2_1 l2_1.length c2_1] 53 (0, 0)) (by refine bk ?_; exact BK482.out) hb)
                have n5_ := Aside0.mk (below_step (bB2 GE481.out GE482.out) hb)
                clear HO490
                clear HO494
                clear HO498
                clear BK481
                clear BK482
                clear HB
                have HO490 := n0_
                have HO494 := n1_
                have HO498 := n2_
                have BK481 := n3_
                have BK482 := n4_
                have HB := n5_
                clear n0_ n1_ n2_ n3_ n4_ n5_
                (try clear hb)
                (try clear hb2)
                (try clear hk)
                (try clear hi)
                refine hK.out _ _ ⟨(blk_cell BK482.out 0).trans rfl, (blk_cell BK482.out 1).trans rfl, (blk_cell BK481.out 0).trans rfl, (blk_cell BK481.out 1).trans rfl⟩ (fun hHeld => ?_)
                clear hK K
                refine norm_ (a' := ?_) ?_ ?_
                rotate_left
                ·show Act.put _ (some 95) _ = _
                 simp only [Act.put, List.setIfInBounds_toArray, List.set_cons_zero, List.set_cons_succ, i64_w, i32_w]
                 rfl
                refine pQ (i := 14) (N := some 96) (bb 30 32767) ?_
                refine pQ (i := 15) (N := some 97) (bb 30 65535) ?_
                refine pQ (i := 16) (N := some 98) (bb 30 131071) ?_
                refine pQ (i := 17) (N := some 99) (bb 30 262143) ?_
                refine tQ4 (i := 18) (N := some 100) (bb 30 524287) hHeld ?_
                refine one_ (i := 19) (N := some 101) (bb 30 1048575) rfl rfl (one_of HT_.out (by kernel_rfl)) (by decide) (fun K hK => ?_)
                refine goes_ Try.func33 (by kernel_rfl) rfl #[.slice A0 l0.length c0, .agg #[.string a1_0, .slice A1_1 l1_1.length c1_1]] (by rfl) rfl rfl aG ?_
                with_reducible refine (sets_Has.calls _ _ l0 a1_0 _ _ l1_1 true _ ?side1 ?side2 ?side3 ?side4 A81.out).mono ?_
                (case side1 => exact sC (Kd.C_below HR0.out HB.out))
                (case side2 => exact HC0.out)
                (case side3 => exact sC (Kd.C_below HR1_1.out HB.out))
                (case side4 => exact HC1_1.out)
                rintro e w117 ⟨rfl, hb⟩
                refine ⟨_, rfl, ?_⟩
                have n0_ := Aside0.mk (Kd.S_below (by (with_reducible repeat (first | apply Kd.S_alloc | apply Kd.S_drewN | apply Kd.S_drew)); exact HO490.out) hb)
                have n1_ := Aside0.mk (Kd.S_below (by (with_reducible repeat (first | apply Kd.S_alloc | apply Kd.S_drewN | apply Kd.S_drew)); exact HO494.out) hb)
                have n2_ := Aside0.mk (Kd.S_below (by (with_reducible repeat (first | apply Kd.S_alloc | apply Kd.S_drewN | apply Kd.S_drew)); exact HO498.out) hb)
                have n3_ := Aside0.mk (blk_below (g := gb481) (o := .cells #[.string a1_0, .slice A1_1 l1_1.length c1_1] 53 (0, 0)) (by refine bk ?_; exact BK481.out) hb)
                have n4_ := Aside0.mk (blk_below (g := gb482) (o := .cells #[.string a2_0, .slice A2_1 l2_1.length c2_1] 53 (0, 0)) (by refine bk ?_; exact BK482.out) hb)
                have n5_ := Aside0.mk (below_step (bB2 GE481.out GE482.out) hb)
                clear HO490
                clear HO494
                clear HO498
                clear BK481
                clear BK482
                clear HB
                have HO490 := n0_
                have HO494 := n1_
                have HO498 := n2_
                have BK481 := n3_
                have BK482 := n4_
                have HB := n5_
                clear n0_ n1_ n2_ n3_ n4_ n5_
                (try clear hb)
                (try clear hb2)
                (try clear hk)
                (try clear hi)
                refine hK.out _ _ ⟨(blk_cell BK482.out 0).trans rfl, (blk_cell BK482.out 1).trans rfl, (blk_cell BK481.out 0).trans rfl, (blk_cell BK481.out 1).trans rfl⟩ (fun hHeld => ?_)
                clear hK K
                refine norm_ (a' := ?_) ?_ ?_
                rotate_left
                ·show Act.put _ (some 101) _ = _
                 simp only [Act.put, List.setIfInBounds_toArray, List.set_cons_zero, List.set_cons_succ, i64_w, i32_w]
                 rfl
                refine pQ (i := 20) (N := some 102) (bb 30 2097151) ?_
                refine pure_ (i := 21) (N := some 103) (v := undef) (a' := ?_) (bb 30 4194303) rfl rfl (any_of HT_.out (by kernel_rfl)) (fun _ _ _ h => h) (Or.inr ⟨by rfl, rfl⟩) ?_ ?_
                rotate_left
                ·simp only [Act.put, List.setIfInBounds_toArray, List.set_cons_zero, List.set_cons_succ, i64_w, i32_w]
                 rfl
                refine pure_ (i := 22) (N := some 104) (v := undef) (a' := ?_) (bb 30 8388607) rfl rfl (any_of HT_.out (by kernel_rfl)) (fun _ _ _ h => h) (Or.inr ⟨by rfl, rfl⟩) ?_ ?_
                rotate_left
                ·simp only [Act.put, List.setIfInBounds_toArray, List.set_cons_zero, List.set_cons_succ, i64_w, i32_w]
                 rfl
                refine pure_ (i := 23) (N := some 105) (v := undef) (a' := ?_) (bb 30 16777215) rfl rfl (any_of HT_.out (by kernel_rfl)) (fun _ _ _ h => h) (Or.inr ⟨by rfl, rfl⟩) ?_ ?_
                rotate_left
                ·simp only [Act.put, List.setIfInBounds_toArray, List.set_cons_zero, List.set_cons_succ, i64_w, i32_w]
                 rfl
                refine pQ (i := 24) (N := some 106) (bb 30 33554431) ?_
                refine pQ (i := 25) (N := some 107) (bb 30 67108863) ?_
                refine pQ (i := 26) (N := some 108) (bb 30 134217727) ?_
                refine one_ (i := 27) (N := some 109) (bb 30 268435455) rfl rfl (one_of HT_.out (by kernel_rfl)) (by decide) (fun K hK => ?_)
                refine goes_ Try.func31 (by kernel_rfl) rfl #[] (by rfl) rfl rfl aG ?_
                with_reducible refine (constablelaw04_wakes.calls  t510 _ A83.out).mono ?_
                rintro e w118 ⟨rfl, hb⟩
                refine ⟨_, rfl, ?_⟩
                have n0_ := Aside0.mk (Kd.S_below (by (with_reducible repeat (first | apply Kd.S_alloc | apply Kd.S_drewN | apply Kd.S_drew)); exact HO490.out) hb)
                have n1_ := Aside0.mk (Kd.S_below (by (with_reducible repeat (first | apply Kd.S_alloc | apply Kd.S_drewN | apply Kd.S_drew)); exact HO494.out) hb)
                have n2_ := Aside0.mk (Kd.S_below (by (with_reducible repeat (first | apply Kd.S_alloc | apply Kd.S_drewN | apply Kd.S_drew)); exact HO498.out) hb)
                have n3_ := Aside0.mk (blk_below (g := gb481) (o := .cells #[.string a1_0, .slice A1_1 l1_1.length c1_1] 53 (0, 0)) (by refine bk ?_; exact BK481.out) hb)
                have n4_ := Aside0.mk (blk_below (g := gb482) (o := .cells #[.string a2_0, .slice A2_1 l2_1.length c2_1] 53 (0, 0)) (by refine bk ?_; exact BK482.out) hb)
                have n5_ := Aside0.mk (below_step (bB2 GE481.out GE482.out) hb)
                clear HO490
                clear HO494
                clear HO498
                clear BK481
                clear BK482
                clear HB
                have HO490 := n0_
                have HO494 := n1_
                have HO498 := n2_
                have BK481 := n3_
                have BK482 := n4_
                have HB := n5_
                clear n0_ n1_ n2_ n3_ n4_ n5_
                (try clear hb)
                (try clear hb2)
                (try clear hk)
                (try clear hi)
                refine hK.out _ _ ⟨(blk_cell BK482.out 0).trans rfl, (blk_cell BK482.out 1).trans rfl, (blk_cell BK481.out 0).trans rfl, (blk_cell BK481.out 1).trans rfl⟩ (fun hHeld => ?_)
                clear hK K
                refine norm_ (a' := ?_) ?_ ?_
                rotate_left
                ·show Act.put _ (some 109) _ = _
                 simp only [Act.put, List.setIfInBounds_toArray, List.set_cons_zero, List.set_cons_succ, i64_w, i32_w]
                 rfl
                refine pQ (i := 28) (N := some 110) (bb 30 536870911) ?_
                refine pQ (i := 29) (N := some 6) (bb 30 1073741823) ?_
                refine done_ (done_of HT_.out (by kernel_rfl)) ?_
                try go_wp2
                go_ret
                exact ⟨eW, (bB2 GE481.out GE482.out)⟩
               ·replace c82 := Bool.eq_false_iff.mpr c82
                subst c82
                have H1 : ((constablekeep_Facts.f k t492 l0).bind fun t511 => (if t511 = true then ((constablelaw04_wakes.f).bind fun t512 => (some t512)) else (none))) = some r := by rw [if_neg (show ¬ (false = true) by decide)] at H; exact H
                clear H
                have H := H1
                clear H1
                replace H := Option.bind_eq_some_iff.mp H
                obtain ⟨t511, A1190, H⟩ := H
                replace H : (if t511 = true then ((constablelaw04_wakes.f).bind fun t512 => (some t512)) else (none)) = some r := H
                have A119 := Aside0.mk A1190
                clear A1190
                by_cases c120 : t511 = true
                ·subst c120
                 have H1 : ((constablelaw04_wakes.f).bind fun t512 => (some t512)) = some r := by rw [if_pos rfl] at H; exact H
                 clear H
                 have H := H1
                 clear H1
                 replace H := Option.bind_eq_some_iff.mp H
                 obtain ⟨t512, A1210, H⟩ := H
                 replace H : (some t512) = some r := H
                 have A121 := Aside0.mk A1210
                 clear A1210
                 obtain rfl := Option.some.inj H
                 go_enter Try.func8, Try.ntmps8
                 try go_wp2_with (first | ((with_reducible refine gate_dst (N := 4) rfl ?_); refine bE (N := 4) (cs := #[.string a1_0, .slice A1_1 l1_1.length c1_1]) (t := 53) ?_; intro gb481 hg w122 hbox hb; have n0_ := Aside0.mk (below_step bB0 hb); have n1_ := Aside0.mk (hbox); have n2_ := Aside0.mk ((by rw [hg]; exact (below_size bB0) : w.heap.size ≤ gb481)); have n3_ := Aside0.mk ((by rw [hg]; exact (below_size bB0) : w.heap.size ≤ gb481)); clear HB; have HB := n0_; have BK481 := n1_; have GW481 := n2_; have GE481 := n3_; clear n0_ n1_ n2_ n3_; clear hb hbox hg) | ((with_reducible refine gate_dst (N := 5) rfl ?_); refine bE (N := 5) (cs := #[.string a2_0, .slice A2_1 l2_1.length c2_1]) (t := 53) ?_; intro gb482 hg w123 hbox hb; have n0_ := Aside0.mk (blk_below (g := gb481) (o := .cells #[.string a1_0, .slice A1_1 l1_1.length c1_1] 53 (0, 0)) (by refine bk ?_; exact BK481.out) hb); have n1_ := Aside0.mk (below_step (bB1 GE481.out) hb); have n2_ := Aside0.mk (hbox); have n3_ := Aside0.mk ((by rw [hg]; exact (below_size (bB1 GE481.out)) : w.heap.size ≤ gb482)); have n4_ := Aside0.mk ((by rw [hg]; exact (below_size (bB1 GE481.out)) : w.heap.size ≤ gb482)); have n5_ := Aside0.mk ((by rw [hg]; exact Nat.ne_of_lt (blk_lt (g := gb481) (o := .cells #[.string a1_0, .slice A1_1 l1_1.length c1_1] 53 (0, 0)) (by refine bk ?_; exact BK481.out)) : gb481 ≠ gb482)); have n6_ := Aside0.mk ((by rw [hg]; exact Nat.ne_of_gt (blk_lt (g := gb481) (o := .cells #[.string a1_0, .slice A1_1 l1_1.length c1_1] 53 (0, 0)) (by refine bk ?_; exact BK481.out)) : gb482 ≠ gb481)); clear BK481; clear HB; have BK481 := n0_; have HB := n1_; have BK482 := n2_; have GW482 := n3_; have GE482 := n4_; have NB481_482 := n5_; have NB482_481 := n6_; clear n0_ n1_ n2_ n3_ n4_ n5_ n6_; clear hb hbox hg) | ((with_reducible refine gate_callee (f := 29) rfl ?_); refine goesL_ (some 14) rfl rfl Try.func29 (by kernel_rfl) rfl #[.slice A0 l0.length c0] rfl aG ?_; (with_reducible refine (constablelaw03_Many.calls k _ _ l0 false _ ?side1 ?side2 A4.out).mono ?_); (case side1 => exact sC (Kd.C_below HR0.out HB.out)); (case side2 => exact HC0.out); rintro e w124 ⟨rfl, hb⟩; refine ⟨_, rfl, ?_⟩; have n0_ := Aside0.mk (blk_below (g := gb481) (o := .cells #[.string a1_0, .slice A1_1 l1_1.length c1_1] 53 (0, 0)) (by refine bk ?_; exact BK481.out) hb); have n1_ := Aside0.mk (blk_below (g := gb482) (o := .cells #[.string a2_0, .slice A2_1 l2_1.length c2_1] 53 (0, 0)) (by refine bk ?_; exact BK482.out) hb); have n2_ := Aside0.mk (below_step (bB2 GE481.out GE482.out) hb); clear BK481; clear BK482; clear HB; have BK481 := n0_; have BK482 := n1_; have HB := n2_; clear n0_ n1_ n2_; (try clear hb); (try clear hb2); (try clear hk); (try clear hi); have hnb125 := NB481_482.out; have hnc125 := NB482_481.out; have hcz126_0 : w124.cell? ⟨gb481, 0, none⟩ = some (.string a1_0) := (blk_cell BK481.out 0).trans rfl; have hcz126_1 : w124.cell? ⟨gb481, 1, none⟩ = some (.slice A1_1 l1_1.length c1_1) := (blk_cell BK481.out 1).trans rfl; have hfz126_0 := blk_frozen BK481.out 0; have hfz126_1 := blk_frozen BK481.out 1) | (go_at_call 36; (with_reducible refine (constablelaw03_Heavy.calls k a1_0 _ _ l1_1 false _ ?side1 ?side2 A9.out).mono ?_); (case side1 => exact sC (Kd.C_below HR1_1.out HB.out)); (case side2 => exact HC1_1.out); rintro e w127 ⟨rfl, hb⟩; have n0_ := Aside0.mk (blk_below (g := gb481) (o := .cells #[.string a1_0, .slice A1_1 l1_1.length c1_1] 53 (0, 0)) (by refine bk ?_; exact BK481.out) hb); have n1_ := Aside0.mk (blk_below (g := gb482) (o := .cells #[.string a2_0, .slice A2_1 l2_1.length c2_1] 53 (0, 0)) (by refine bk ?_; exact BK482.out) hb); have n2_ := Aside0.mk (below_step (bB2 GE481.out GE482.out) hb); clear BK481; clear BK482; clear HB; have BK481 := n0_; have BK482 := n1_; have HB := n2_; clear n0_ n1_ n2_; (try clear hb); (try clear hb2); (try clear hk); (try clear hi); have hcz128_0 : w127.cell? ⟨gb482, 0, none⟩ = some (.string a2_0) := (blk_cell BK482.out 0).trans rfl; have hcz128_1 : w127.cell? ⟨gb482, 1, none⟩ = some (.slice A2_1 l2_1.length c2_1) := (blk_cell BK482.out 1).trans rfl; have hfz128_0 := blk_frozen BK482.out 0; have hfz128_1 := blk_frozen BK482.out 1) | (go_at_call 36; (with_reducible refine (constablelaw03_Heavy.calls k a2_0 _ _ l2_1 false _ ?side1 ?side2 A17.out).mono ?_); (case side1 => exact sC (Kd.C_below HR2_1.out HB.out)); (case side2 => exact HC2_1.out); rintro e w129 ⟨rfl, hb⟩; have n0_ := Aside0.mk (blk_below (g := gb481) (o := .cells #[.string a1_0, .slice A1_1 l1_1.length c1_1] 53 (0, 0)) (by refine bk ?_; exact BK481.out) hb); have n1_ := Aside0.mk (blk_below (g := gb482) (o := .cells #[.string a2_0, .slice A2_1 l2_1.length c2_1] 53 (0, 0)) (by refine bk ?_; exact BK482.out) hb); have n2_ := Aside0.mk (below_step (bB2 GE481.out GE482.out) hb); clear BK481; clear BK482; clear HB; have BK481 := n0_; have BK482 := n1_; have HB := n2_; clear n0_ n1_ n2_; (try clear hb); (try clear hb2); (try clear hk); (try clear hi)) | (go_at_call 37; (with_reducible refine (constableref01_Set.calls k _ _ l0 true _ ?side1 ?side2 A27.out).mono ?_); (case side1 => exact sC (Kd.C_below HR0.out HB.out)); (case side2 => exact HC0.out); rintro e w130 ⟨rfl, hb⟩; have n0_ := Aside0.mk (blk_below (g := gb481) (o := .cells #[.string a1_0, .slice A1_1 l1_1.length c1_1] 53 (0, 0)) (by refine bk ?_; exact BK481.out) hb); have n1_ := Aside0.mk (blk_below (g := gb482) (o := .cells #[.string a2_0, .slice A2_1 l2_1.length c2_1] 53 (0, 0)) (by refine bk ?_; exact BK482.out) hb); have n2_ := Aside0.mk (below_step (bB2 GE481.out GE482.out) hb); clear BK481; clear BK482; clear HB; have BK481 := n0_; have BK482 := n1_; have HB := n2_; clear n0_ n1_ n2_; (try clear hb); (try clear hb2); (try clear hk); (try clear hi); have hcz131_0 : w130.cell? ⟨gb481, 0, none⟩ = some (.string a1_0) := (blk_cell BK481.out 0).trans rfl; have hcz131_1 : w130.cell? ⟨gb481, 1, none⟩ = some (.slice A1_1 l1_1.length c1_1) := (blk_cell BK481.out 1).trans rfl; have hfz131_0 := blk_frozen BK481.out 0; have hfz131_1 := blk_frozen BK481.out 1) | (go_at_call 38; (with_reducible refine (constableref01_Fact.calls k a1_0 _ _ l1_1 true _ ?side1 ?side2 A29.out).mono ?_); (case side1 => exact sC (Kd.C_below HR1_1.out HB.out)); (case side2 => exact HC1_1.out); rintro e w132 ⟨rfl, hb⟩; have n0_ := Aside0.mk (blk_below (g := gb481) (o := .cells #[.string a1_0, .slice A1_1 l1_1.length c1_1] 53 (0, 0)) (by refine bk ?_; exact BK481.out) hb); have n1_ := Aside0.mk (blk_below (g := gb482) (o := .cells #[.string a2_0, .slice A2_1 l2_1.length c2_1] 53 (0, 0)) (by refine bk ?_; exact BK482.out) hb); have n2_ := Aside0.mk (below_step (bB2 GE481.out GE482.out) hb); clear BK481; clear BK482; clear HB; have BK481 := n0_; have BK482 := n1_; have HB := n2_; clear n0_ n1_ n2_; (try clear hb); (try clear hb2); (try clear hk); (try clear hi); have hcz133_0 : w132.cell? ⟨gb481, 0, none⟩ = some (.string a1_0) := (blk_cell BK481.out 0).trans rfl; have hcz133_1 : w132.cell? ⟨gb481, 1, none⟩ = some (.slice A1_1 l1_1.length c1_1) := (blk_cell BK481.out 1).trans rfl; have hfz133_0 := blk_frozen BK481.out 0; have hfz133_1 := blk_frozen BK481.out 1) | ((with_reducible refine gate_callee (f := 32) rfl ?_); refine goesL_ (some 36) rfl rfl Try.func32 (by kernel_rfl) rfl #[.slice A0 l0.length c0, .agg #[.string a1_0, .slice A1_1 l1_1.length c1_1]] rfl aG ?_; (with_reducible refine (sets_Put.calls _ _ l0 a1_0 _ _ l1_1 t488 t491 _ ?side1 ?side2 ?side3 ?side4 A31.out).mono ?_); (case side1 => exact sC (Kd.C_below HR0.out HB.out)); (case side2 => exact HC0.out); (case side3 => exact sC (Kd.C_below HR1_1.out HB.out)); (case side4 => exact HC1_1.out); rintro e w134 ⟨v489, rfl, ho0, hb⟩; refine ⟨_, rfl, ?_⟩; have n0_ := Aside0.mk (Kd.S_lower (Kd.S_newB (Kd.S_newB ho0 (g := gb481) (o := .cells #[.string a1_0, .slice A1_1 l1_1.length c1_1] 53 (0, 0)) (by refine bk ?_; exact BK481.out)) (g := gb482) (o := .cells #[.string a2_0, .slice A2_1 l2_1.length c2_1] 53 (0, 0)) (by refine bk ?_; exact BK482.out)) (below_size (bB2 GE481.out GE482.out))); have n1_ := Aside0.mk (blk_below (g := gb481) (o := .cells #[.string a1_0, .slice A1_1 l1_1.length c1_1] 53 (0, 0)) (by refine bk ?_; exact BK481.out) hb); have n2_ := Aside0.mk (blk_below (g := gb482) (o := .cells #[.string a2_0, .slice A2_1 l2_1.length c2_1] 53 (0, 0)) (by refine bk ?_; exact BK482.out) hb); have n3_ := Aside0.mk (below_step (bB2 GE481.out GE482.out) hb); clear BK481; clear BK482; clear HB; have HO490 := n0_; have BK481 := n1_; have BK482 := n2_; have HB := n3_; clear n0_ n1_ n2_ n3_; (try clear hb); (try clear hb2); (try clear hk); (try clear hi); (try clear ho0); have hcz135_0 : w134.cell? ⟨gb481, 0, none⟩ = some (.string a1_0) := (blk_cell BK481.out 0).trans rfl; have hcz135_1 : w134.cell? ⟨gb481, 1, none⟩ = some (.slice A1_1 l1_1.length c1_1) := (blk_cell BK481.out 1).trans rfl; have hfz135_0 := blk_frozen BK481.out 0; have hfz135_1 := blk_frozen BK481.out 1; obtain ⟨Ao136, co136, eo136⟩ := Kd.S_slice HO490.out; subst eo136) | ((with_reducible refine gate_callee (f := 39) rfl ?_); refine goesL_ (some 42) rfl rfl Try.func39 (by kernel_rfl) rfl #[.slice Ao136 t488.length co136, .agg #[.string a1_0, .slice A1_1 l1_1.length c1_1]] rfl aG ?_; (with_reducible refine (sets_Drop.calls _ _ t488 a1_0 _ _ l1_1 t492 t495 _ ?side1 ?side2 ?side3 ?side4 A32.out).mono ?_); (case side1 => exact sC (Kd.S_reads' HO490.out).2.2); (case side2 => exact (Kd.S_reads' HO490.out).2.1); (case side3 => exact sC (Kd.C_below HR1_1.out HB.out)); (case side4 => exact HC1_1.out); rintro e w137 ⟨v493, rfl, ho0, hb⟩; refine ⟨_, rfl, ?_⟩; have n0_ := Aside0.mk (Kd.S_elder' (by (with_reducible repeat (first | apply Kd.S_alloc | apply Kd.S_drewN | apply Kd.S_drew)); exact HO490.out) (Kd.S_base ho0) hb); have n1_ := Aside0.mk (Kd.S_lower (Kd.S_newB (Kd.S_newB (Kd.S_new' ho0 (Kd.S_lt (by (with_reducible repeat (first | apply Kd.S_alloc | apply Kd.S_drewN | apply Kd.S_drew)); exact HO490.out))) (g := gb481) (o := .cells #[.string a1_0, .slice A1_1 l1_1.length c1_1] 53 (0, 0)) (by refine bk ?_; exact BK481.out)) (g := gb482) (o := .cells #[.string a2_0, .slice A2_1 l2_1.length c2_1] 53 (0, 0)) (by refine bk ?_; exact BK482.out)) (below_size (bB2 GE481.out GE482.out))); have n2_ := Aside0.mk (blk_below (g := gb481) (o := .cells #[.string a1_0, .slice A1_1 l1_1.length c1_1] 53 (0, 0)) (by refine bk ?_; exact BK481.out) hb); have n3_ := Aside0.mk (blk_below (g := gb482) (o := .cells #[.string a2_0, .slice A2_1 l2_1.length c2_1] 53 (0, 0)) (by refine bk ?_; exact BK482.out) hb); have n4_ := Aside0.mk (below_step (bB2 GE481.out GE482.out) hb); clear HO490; clear BK481; clear BK482; clear HB; have HO490 := n0_; have HO494 := n1_; have BK481 := n2_; have BK482 := n3_; have HB := n4_; clear n0_ n1_ n2_ n3_ n4_; (try clear hb); (try clear hb2); (try clear hk); (try clear hi); (try clear ho0); have hcz138_0 : w137.cell? ⟨gb481, 0, none⟩ = some (.string a1_0) := (blk_cell BK481.out 0).trans rfl; have hcz138_1 : w137.cell? ⟨gb481, 1, none⟩ = some (.slice A1_1 l1_1.length c1_1) := (blk_cell BK481.out 1).trans rfl; have hfz138_0 := blk_frozen BK481.out 0; have hfz138_1 := blk_frozen BK481.out 1) | ((with_reducible refine gate_callee (f := 39) rfl ?_); refine goesL_ (some 48) rfl rfl Try.func39 (by kernel_rfl) rfl #[.slice A0 l0.length c0, .agg #[.string a1_0, .slice A1_1 l1_1.length c1_1]] rfl aG ?_; (with_reducible refine (sets_Drop.calls _ _ l0 a1_0 _ _ l1_1 t496 t499 _ ?side1 ?side2 ?side3 ?side4 A33.out).mono ?_); (case side1 => exact sC (Kd.C_below HR0.out HB.out)); (case side2 => exact HC0.out); (case side3 => exact sC (Kd.C_below HR1_1.out HB.out)); (case side4 => exact HC1_1.out); rintro e w139 ⟨v497, rfl, ho0, hb⟩; refine ⟨_, rfl, ?_⟩; have n0_ := Aside0.mk (Kd.S_elder' (by (with_reducible repeat (first | apply Kd.S_alloc | apply Kd.S_drewN | apply Kd.S_drew)); exact HO490.out) (Kd.S_base ho0) hb); have n1_ := Aside0.mk (Kd.S_elder' (by (with_reducible repeat (first | apply Kd.S_alloc | apply Kd.S_drewN | apply Kd.S_drew)); exact HO494.out) (Kd.S_base ho0) hb); have n2_ := Aside0.mk (Kd.S_lower (Kd.S_newB (Kd.S_newB (Kd.S_new' (Kd.S_new' ho0 (Kd.S_lt (by (with_reducible repeat (first | apply Kd.S_alloc | apply Kd.S_drewN | apply Kd.S_drew)); exact HO490.out))) (Kd.S_lt (by (with_reducible repeat (first | apply Kd.S_alloc | apply Kd.S_drewN | apply Kd.S_drew)); exact HO494.out))) (g := gb481) (o := .cells #[.string a1_0, .slice A1_1 l1_1.length c1_1] 53 (0, 0)) (by refine bk ?_; exact BK481.out)) (g := gb482) (o := .cells #[.string a2_0, .slice A2_1 l2_1.length c2_1] 53 (0, 0)) (by refine bk ?_; exact BK482.out)) (below_size (bB2 GE481.out GE482.out))); have n3_ := Aside0.mk (blk_below (g := gb481) (o := .cells #[.string a1_0, .slice A1_1 l1_1.length c1_1] 53 (0, 0)) (by refine bk ?_; exact BK481.out) hb); have n4_ := Aside0.mk (blk_below (g := gb482) (o := .cells #[.string a2_0, .slice A2_1 l2_1.length c2_1] 53 (0, 0)) (by refine bk ?_; exact BK482.out) hb); have n5_ := Aside0.mk (below_step (bB2 GE481.out GE482.out) hb); clear HO490; clear HO494; clear BK481; clear BK482; clear HB; have HO490 := n0_; have HO494 := n1_; have HO498 := n2_; have BK481 := n3_; have BK482 := n4_; have HB := n5_; clear n0_ n1_ n2_ n3_ n4_ n5_; (try clear hb); (try clear hb2); (try clear hk); (try clear hi); (try clear ho0); have hcz140_0 : w139.cell? ⟨gb481, 0, none⟩ = some (.string a1_0) := (blk_cell BK481.out 0).trans rfl; have hcz140_1 : w139.cell? ⟨gb481, 1, none⟩ = some (.slice A1_1 l1_1.length c1_1) := (blk_cell BK481.out 1).trans rfl; have hfz140_0 := blk_frozen BK481.out 0; have hfz140_1 := blk_frozen BK481.out 1) | (go_at_call 33; (with_reducible refine (sets_Has.calls _ _ t488 a1_0 _ _ l1_1 true _ ?side1 ?side2 ?side3 ?side4 A37.out).mono ?_); (case side1 => exact sC (Kd.S_reads' HO490.out).2.2); (case side2 => exact (Kd.S_reads' HO490.out).2.1); (case side3 => exact sC (Kd.C_below HR1_1.out HB.out)); (case side4 => exact HC1_1.out); rintro e w141 ⟨rfl, hb⟩; have n0_ := Aside0.mk (Kd.S_below (by (with_reducible repeat (first | apply Kd.S_alloc | apply Kd.S_drewN | apply Kd.S_drew)); exact HO490.out) hb); have n1_ := Aside0.mk (Kd.S_below (by (with_reducible repeat (first | apply Kd.S_alloc | apply Kd.S_drewN | apply Kd.S_drew)); exact HO494.out) hb); have n2_ := Aside0.mk (Kd.S_below (by (with_reducible repeat (first | apply Kd.S_alloc | apply Kd.S_drewN | apply Kd.S_drew)); exact HO498.out) hb); have n3_ := Aside0.mk (blk_below (g := gb481) (o := .cells #[.string a1_0, .slice A1_1 l1_1.length c1_1] 53 (0, 0)) (by refine bk ?_; exact BK481.out) hb); have n4_ := Aside0.mk (blk_below (g := gb482) (o := .cells #[.string a2_0, .slice A2_1 l2_1.length c2_1] 53 (0, 0)) (by refine bk ?_; exact BK482.out) hb); have n5_ := Aside0.mk (below_step (bB2 GE481.out GE482.out) hb); clear HO490; clear HO494; clear HO498; clear BK481; clear BK482; clear HB; have HO490 := n0_; have HO494 := n1_; have HO498 := n2_; have BK481 := n3_; have BK482 := n4_; have HB := n5_; clear n0_ n1_ n2_ n3_ n4_ n5_; (try clear hb); (try clear hb2); (try clear hk); (try clear hi); have hcz142_0 : w141.cell? ⟨gb481, 0, none⟩ = some (.string a1_0) := (blk_cell BK481.out 0).trans rfl; have hcz142_1 : w141.cell? ⟨gb481, 1, none⟩ = some (.slice A1_1 l1_1.length c1_1) := (blk_cell BK481.out 1).trans rfl; have hfz142_0 := blk_frozen BK481.out 0; have hfz142_1 := blk_frozen BK481.out 1; obtain ⟨Ao143, co143, eo143⟩ := Kd.S_slice HO494.out; subst eo143) | (go_at_call 33; (with_reducible refine (sets_Has.calls _ _ t492 a1_0 _ _ l1_1 false _ ?side1 ?side2 ?side3 ?side4 A39.out).mono ?_); (case side1 => exact sC (Kd.S_reads' HO494.out).2.2); (case side2 => exact (Kd.S_reads' HO494.out).2.1); (case side3 => exact sC (Kd.C_below HR1_1.out HB.out)); (case side4 => exact HC1_1.out); rintro e w144 ⟨rfl, hb⟩; have n0_ := Aside0.mk (Kd.S_below (by (with_reducible repeat (first | apply Kd.S_alloc | apply Kd.S_drewN | apply Kd.S_drew)); exact HO490.out) hb); have n1_ := Aside0.mk (Kd.S_below (by (with_reducible repeat (first | apply Kd.S_alloc | apply Kd.S_drewN | apply Kd.S_drew)); exact HO494.out) hb); have n2_ := Aside0.mk (Kd.S_below (by (with_reducible repeat (first | apply Kd.S_alloc | apply Kd.S_drewN | apply Kd.S_drew)); exact HO498.out) hb); have n3_ := Aside0.mk (blk_below (g := gb481) (o := .cells #[.string a1_0, .slice A1_1 l1_1.length c1_1] 53 (0, 0)) (by refine bk ?_; exact BK481.out) hb); have n4_ := Aside0.mk (blk_below (g := gb482) (o := .cells #[.string a2_0, .slice A2_1 l2_1.length c2_1] 53 (0, 0)) (by refine bk ?_; exact BK482.out) hb); have n5_ := Aside0.mk (below_step (bB2 GE481.out GE482.out) hb); clear HO490; clear HO494; clear HO498; clear BK481; clear BK482; clear HB; have HO490 := n0_; have HO494 := n1_; have HO498 := n2_; have BK481 := n3_; have BK482 := n4_; have HB := n5_; clear n0_ n1_ n2_ n3_ n4_ n5_; (try clear hb); (try clear hb2); (try clear hk); (try clear hi); obtain ⟨Ao145, co145, eo145⟩ := Kd.S_slice HO498.out; subst eo145) | (go_at_call 34; (with_reducible refine (constablekeep_Facts.calls k _ _ t492 _ _ t496 true _ ?side1 ?side2 ?side3 ?side4 A41.out).mono ?_); (case side1 => exact sC (Kd.S_reads' HO494.out).2.2); (case side2 => exact (Kd.S_reads' HO494.out).2.1); (case side3 => exact sC (Kd.S_reads' HO498.out).2.2); (case side4 => exact (Kd.S_reads' HO498.out).2.1); rintro e w146 ⟨rfl, hb⟩; have n0_ := Aside0.mk (Kd.S_below (by (with_reducible repeat (first | apply Kd.S_alloc | apply Kd.S_drewN | apply Kd.S_drew)); exact HO490.out) hb); have n1_ := Aside0.mk (Kd.S_below (by (with_reducible repeat (first | apply Kd.S_alloc | apply Kd.S_drewN | apply Kd.S_drew)); exact HO494.out) hb); have n2_ := Aside0.mk (Kd.S_below (by (with_reducible repeat (first | apply Kd.S_alloc | apply Kd.S_drewN | apply Kd.S_drew)); exact HO498.out) hb); have n3_ := Aside0.mk (blk_below (g := gb481) (o := .cells #[.string a1_0, .slice A1_1 l1_1.length c1_1] 53 (0, 0)) (by refine bk ?_; exact BK481.out) hb); have n4_ := Aside0.mk (blk_below (g := gb482) (o := .cells #[.string a2_0, .slice A2_1 l2_1.length c2_1] 53 (0, 0)) (by refine bk ?_; exact BK482.out) hb); have n5_ := Aside0.mk (below_step (bB2 GE481.out GE482.out) hb); clear HO490; clear HO494; clear HO498; clear BK481; clear BK482; clear HB; have HO490 := n0_; have HO494 := n1_; have HO498 := n2_; have BK481 := n3_; have BK482 := n4_; have HB := n5_; clear n0_ n1_ n2_ n3_ n4_ n5_; (try clear hb); (try clear hb2); (try clear hk); (try clear hi); have hcz147_0 : w146.cell? ⟨gb481, 0, none⟩ = some (.string a1_0) := (blk_cell BK481.out 0).trans rfl; have hcz147_1 : w146.cell? ⟨gb481, 1, none⟩ = some (.slice A1_1 l1_1.length c1_1) := (blk_cell BK481.out 1).trans rfl; have hfz147_0 := blk_frozen BK481.out 0; have hfz147_1 := blk_frozen BK481.out 1; have hcz148_0 : w146.cell? ⟨gb482, 0, none⟩ = some (.string a2_0) := (blk_cell BK482.out 0).trans rfl; have hcz148_1 : w146.cell? ⟨gb482, 1, none⟩ = some (.slice A2_1 l2_1.length c2_1) := (blk_cell BK482.out 1).trans rfl; have hfz148_0 := blk_frozen BK482.out 0; have hfz148_1 := blk_frozen BK482.out 1) | ((with_reducible refine gate_callee (f := 40) rfl ?_); refine goesL_ (some 80) rfl rfl Try.func40 (by kernel_rfl) rfl #[.agg #[.string a1_0, .slice A1_1 l1_1.length c1_1], .agg #[.string a2_0, .slice A2_1 l2_1.length c2_1]] rfl aG ?_; (with_reducible refine (constablekeep_Fact.calls k a1_0 _ _ l1_1 a2_0 _ _ l2_1 false _ ?side1 ?side2 ?side3 ?side4 A43.out).mono ?_); (case side1 => exact sC (Kd.C_below HR1_1.out HB.out)); (case side2 => exact HC1_1.out); (case side3 => exact sC (Kd.C_below HR2_1.out HB.out)); (case side4 => exact HC2_1.out); rintro e w149 ⟨rfl, hb⟩; refine ⟨_, rfl, ?_⟩; have n0_ := Aside0.mk (Kd.S_below (by (with_reducible repeat (first | apply Kd.S_alloc | apply Kd.S_drewN | apply Kd.S_drew)); exact HO490.out) hb); have n1_ := Aside0.mk (Kd.S_below (by (with_reducible repeat (first | apply Kd.S_alloc | apply Kd.S_drewN | apply Kd.S_drew)); exact HO494.out) hb); have n2_ := Aside0.mk (Kd.S_below (by (with_reducible repeat (first | apply Kd.S_alloc | apply Kd.S_drewN | apply Kd.S_drew)); exact HO498.out) hb); have n3_ := Aside0.mk (blk_below (g := gb481) (o := .cells #[.string a1_0, .slice A1_1 l1_1.length c1_1] 53 (0, 0)) (by refine bk ?_; exact BK481.out) hb); have n4_ := Aside0.mk (blk_below (g := gb482) (o := .cells #[.string a2_0, .slice A2_1 l2_1.length c2_1] 53 (0, 0)) (by refine bk ?_; exact BK482.out) hb); have n5_ := Aside0.mk (below_step (bB2 GE481.out GE482.out) hb); clear HO490; clear HO494; clear HO498; clear BK481; clear BK482; clear HB; have HO490 := n0_; have HO494 := n1_; have HO498 := n2_; have BK481 := n3_; have BK482 := n4_; have HB := n5_; clear n0_ n1_ n2_ n3_ n4_ n5_; (try clear hb); (try clear hb2); (try clear hk); (try clear hi)))
                 have n0_ := Aside0.mk (Kd.S_drew HO490.out)
                 have n1_ := Aside0.mk (Kd.S_drew HO494.out)
                 have n2_ := Aside0.mk (Kd.S_drew HO498.out)
                 have n3_ := Aside0.mk (blk_drew BK481.out)
                 have n4_ := Aside0.mk (blk_drew BK482.out)
                 have n5_ := Aside0.mk (below_drew1 HB.out)
                 clear HO490
                 clear HO494
                 clear HO498
                 clear BK481
                 clear BK482
                 clear HB
                 have HO490 := n0_
                 have HO494 := n1_
                 have HO498 := n2_
                 have BK481 := n3_
                 have BK482 := n4_
                 have HB := n5_
                 clear n0_ n1_ n2_ n3_ n4_ n5_
                 refine start_ (n := 30) (S := fun w' => w'.cell? ⟨gb482, 0, none⟩ = some (.string a2_0) ∧ w'.cell? ⟨gb482, 1, none⟩ = some (.slice A2_1 l2_1.length c2_1) ∧ w'.cell? ⟨gb481, 0, none⟩ = some (.string a1_0) ∧ w'.cell? ⟨gb481, 1, none⟩ = some (.slice A1_1 l1_1.length c1_1)) (ds := []) #[false, false, false, false, false, false, false, false, false, false, false, false, false, false, false, false, false, false, false, false, false, false, false, false, false, false, false, false, false, false] (by kernel_rfl) rfl rfl ⟨(blk_cell BK482.out 0).trans rfl, (blk_cell BK482.out 1).trans rfl, (blk_cell BK481.out 0).trans rfl, (blk_cell BK481.out 1).trans rfl⟩ (fun hHeld => ?_); refine with_tabW constablelaw04_SetsDrop.tab10 constablelaw04_SetsDrop.bits10 (fun HT_ HW_ => ?_)
                 generalize w149.drew = w150 at HO490 HO494 HO498 BK481 BK482 HB hHeld ⊢
                 refine pQ (i := 0) (N := some 82) (bb 30 1) ?_
                 refine pQ (i := 3) (N := some 85) (bb 30 9) ?_
                 refine tQ4 (i := 1) (N := some 83) (bb 30 11) hHeld ?_
                 refine tQ4 (i := 4) (N := some 86) (bb 30 27) hHeld ?_
                 refine one_ (i := 2) (N := some 84) (bb 30 31) rfl rfl (one_of HT_.out (by kernel_rfl)) (by decide) (fun K hK => ?_)
                 refine goes_ Try.func33 (by kernel_rfl) rfl #[.slice Ao136 t488.length co136, .agg #[.string a2_0, .slice A2_1 l2_1.length c2_1]] (by rfl) rfl rfl aG ?_
                 with_reducible refine (sets_Has.calls _ _ t488 a2_0 _ _ l2_1 t505 _ ?side1 ?side2 ?side3 ?side4 A75.out).mono ?_
                 (case side1 => exact sC (Kd.S_reads' HO490.out).2.2)
                 (case side2 => exact (Kd.S_reads' HO490.out).2.1)
                 (case side3 => exact sC (Kd.C_below HR2_1.out HB.out))
                 (case side4 => exact HC2_1.out)
                 rintro e w151 ⟨rfl, hb⟩
                 refine ⟨_, rfl, ?_⟩
                 have n0_ := Aside0.mk (Kd.S_below (by (with_reducible repeat (first | apply Kd.S_alloc | apply Kd.S_drewN | apply Kd.S_drew)); exact HO490.out) hb)
                 have n1_ := Aside0.mk (Kd.S_below (by (with_reducible repeat (first | apply Kd.S_alloc | apply Kd.S_drewN | apply Kd.S_drew)); exact HO494.out) hb)
                 have n2_ := Aside0.mk (Kd.S_below (by (with_reducible repeat (first | apply Kd.S_alloc | apply Kd.S_drewN | apply Kd.S_drew)); exact HO498.out) hb)
                 have n3_ := Aside0.mk (blk_below (g := gb481) (o := .cells #[.string a1_0, .slice A1_1 l1_1.length c1_1] 53 (0, 0)) (by refine bk ?_; exact BK481.out) hb)
                 have n4_ := Aside0.mk (blk_below (g := gb482) (o := .cells #[.string a2_0, .slice A2_1 l2_1.length c2_1] 53 (0, 0)) (by refine bk ?_; exact BK482.out) hb)
                 have n5_ := Aside0.mk (below_step (bB2 GE481.out GE482.out) hb)
                 clear HO490
                 clear HO494
                 clear HO498
                 clear BK481
                 clear BK482
                 clear HB
                 have HO490 := n0_
                 have HO494 := n1_
                 have HO498 := n2_
                 have BK481 := n3_
                 have BK482 := n4_
                 have HB := n5_
                 clear n0_ n1_ n2_ n3_ n4_ n5_
                 (try clear hb)
                 (try clear hb2)
                 (try clear hk)
                 (try clear hi)
                 refine hK.out _ _ ⟨(blk_cell BK482.out 0).trans rfl, (blk_cell BK482.out 1).trans rfl, (blk_cell BK481.out 0).trans rfl, (blk_cell BK481.out 1).trans rfl⟩ (fun hHeld => ?_)
                 clear hK K
                 refine norm_ (a' := ?_) ?_ ?_
                 rotate_left
                 ·show Act.put _ (some 84) _ = _
                  simp only [Act.put, List.setIfInBounds_toArray, List.set_cons_zero, List.set_cons_succ, i64_w, i32_w]
                  rfl
                 refine one_ (i := 5) (N := some 87) (bb 30 63) rfl rfl (one_of HT_.out (by kernel_rfl)) (by decide) (fun K hK => ?_)
                 refine goes_ Try.func33 (by kernel_rfl) rfl #[.slice A0 l0.length c0, .agg #[.string a2_0, .slice A2_1 l2_1.length c2_1]] (by rfl) rfl rfl aG ?_
                 with_reducible refine (sets_Has.calls _ _ l0 a2_0 _ _ l2_1 t506 _ ?side1 ?side2 ?side3 ?side4 A76.out).mono ?_
                 (case side1 => exact sC (Kd.C_below HR0.out HB.out))
                 (case side2 => exact HC0.out)
                 (case side3 => exact sC (Kd.C_below HR2_1.out HB.out))
                 (case side4 => exact HC2_1.out)
                 rintro e w152 ⟨rfl, hb⟩
                 refine ⟨_, rfl, ?_⟩
                 have n0_ := Aside0.mk (Kd.S_below (by (with_reducible repeat (first | apply Kd.S_alloc | apply Kd.S_drewN | apply Kd.S_drew)); exact HO490.out) hb)
                 have n1_ := Aside0.mk (Kd.S_below (by (with_reducible repeat (first | apply Kd.S_alloc | apply Kd.S_drewN | apply Kd.S_drew)); exact HO494.out) hb)
                 have n2_ := Aside0.mk (Kd.S_below (by (with_reducible repeat (first | apply Kd.S_alloc | apply Kd.S_drewN | apply Kd.S_drew)); exact HO498.out) hb)
                 have n3_ := Aside0.mk (blk_below (g := gb481) (o := .cells #[.string a1_0, .slice A1_1 l1_1.length c1_1] 53 (0, 0)) (by refine bk ?_; exact BK481.out) hb)
                 have n4_ := Aside0.mk (blk_below (g := gb482) (o := .cells #[.string a2_0, .slice A2_1 l2_1.length c2_1] 53 (0, 0)) (by refine bk ?_; exact BK482.out) hb)
                 have n5_ := Aside0.mk (below_step (bB2 GE481.out GE482.out) hb)
                 clear HO490
                 clear HO494
                 clear HO498
                 clear BK481
                 clear BK482
                 clear HB
                 have HO490 := n0_
                 have HO494 := n1_
                 have HO498 := n2_
                 have BK481 := n3_
                 have BK482 := n4_
                 have HB := n5_
                 clear n0_ n1_ n2_ n3_ n4_ n5_
                 (try clear hb)
                 (try clear hb2)
                 (try clear hk)
                 (try clear hi)
                 refine hK.out _ _ ⟨(blk_cell BK482.out 0).trans rfl, (blk_cell BK482.out 1).trans rfl, (blk_cell BK481.out 0).trans rfl, (blk_cell BK481.out 1).trans rfl⟩ (fun hHeld => ?_)
                 clear hK K
                 refine norm_ (a' := ?_) ?_ ?_
                 rotate_left
                 ·show Act.put _ (some 87) _ = _
                  simp only [Act.put, List.setIfInBounds_toArray, List.set_cons_zero, List.set_cons_succ, i64_w, i32_w]
                  rfl
                 refine pQ (i := 6) (N := some 88) (bb 30 127) ?_
                 refine pQ (i := 7) (N := some 89) (bb 30 255) ?_
                 refine pQ (i := 8) (N := some 90) (bb 30 511) ?_
                 refine pQ (i := 11) (N := some 93) (bb 30 2559) ?_
                 refine tQ4 (i := 9) (N := some 91) (bb 30 3071) hHeld ?_
                 refine tQ4 (i := 12) (N := some 94) (bb 30 7167) hHeld ?_
                 refine one_ (i := 10) (N := some 92) (bb 30 8191) rfl rfl (one_of HT_.out (by kernel_rfl)) (by decide) (fun K hK => ?_)
                 refine goes_ Try.func33 (by kernel_rfl) rfl #[.slice Ao143 t492.length co143, .agg #[.string a2_0, .slice A2_1 l2_1.length c2_1]] (by rfl) rfl rfl aG ?_
                 with_reducible refine (sets_Has.calls _ _ t492 a2_0 _ _ l2_1 t507 _ ?side1 ?side2 ?side3 ?side4 A78.out).mono ?_
                 (case side1 => exact sC (Kd.S_reads' HO494.out).2.2)
                 (case side2 => exact (Kd.S_reads' HO494.out).2.1)
                 (case side3 => exact sC (Kd.C_below HR2_1.out HB.out))
                 (case side4 => exact HC2_1.out)
                 rintro e w153 ⟨rfl, hb⟩
                 refine ⟨_, rfl, ?_⟩
                 have n0_ := Aside0.mk (Kd.S_below (by (with_reducible repeat (first | apply Kd.S_alloc | apply Kd.S_drewN | apply Kd.S_drew)); exact HO490.out) hb)
                 have n1_ := Aside0.mk (Kd.S_below (by (with_reducible repeat (first | apply Kd.S_alloc | apply Kd.S_drewN | apply Kd.S_drew)); exact HO494.out) hb)
                 have n2_ := Aside0.mk (Kd.S_below (by (with_reducible repeat (first | apply Kd.S_alloc | apply Kd.S_drewN | apply Kd.S_drew)); exact HO498.out) hb)
                 have n3_ := Aside0.mk (blk_below (g := gb481) (o := .cells #[.string a1_0, .slice A1_1 l1_1.length c1_1] 53 (0, 0)) (by refine bk ?_; exact BK481.out) hb)
                 have n4_ := Aside0.mk (blk_below (g := gb482) (o := .cells #[.string a2_0, .slice A2_1 l2_1.length c2_1] 53 (0, 0)) (by refine bk ?_; exact BK482.out) hb)
                 have n5_ := Aside0.mk (below_step (bB2 GE481.out GE482.out) hb)
                 clear HO490
                 clear HO494
                 clear HO498
                 clear BK481
                 clear BK482
                 clear HB
                 have HO490 := n0_
                 have HO494 := n1_
                 have HO498 := n2_
                 have BK481 := n3_
                 have BK482 := n4_
                 have HB := n5_
                 clear n0_ n1_ n2_ n3_ n4_ n5_
                 (try clear hb)
                 (try clear hb2)
                 (try clear hk)
                 (try clear hi)
                 refine hK.out _ _ ⟨(blk_cell BK482.out 0).trans rfl, (blk_cell BK482.out 1).trans rfl, (blk_cell BK481.out 0).trans rfl, (blk_cell BK481.out 1).trans rfl⟩ (fun hHeld => ?_)
                 clear hK K
                 refine norm_ (a' := ?_) ?_ ?_
                 rotate_left
                 ·show Act.put _ (some 92) _ = _
                  simp only [Act.put, List.setIfInBounds_toArray, List.set_cons_zero, List.set_cons_succ, i64_w, i32_w]
                  rfl
                 refine one_ (i := 13) (N := some 95) (bb 30 16383) rfl rfl (one_of HT_.out (by kernel_rfl)) (by decide) (fun K hK => ?_)
                 refine goes_ Try.func33 (by kernel_rfl) rfl #[.slice A0 l0.length c0, .agg #[.string a2_0, .slice A2_1 l2_1.length c2_1]] (by rfl) rfl rfl aG ?_
                 with_reducible refine (sets_Has.calls _ _ l0 a2_0 _ _ l2_1 t508 _ ?side1 ?side2 ?side3 ?side4 A79.out).mono ?_
                 (case side1 => exact sC (Kd.C_below HR0.out HB.out))
                 (case side2 => exact HC0.out)
                 (case side3 => exact sC (Kd.C_below HR2_1.out HB.out))
                 (case side4 => exact HC2_1.out)
                 rintro e w154 ⟨rfl, hb⟩
                 refine ⟨_, rfl, ?_⟩
                 have n0_ := Aside0.mk (Kd.S_below (by (with_reducible repeat (first | apply Kd.S_alloc | apply Kd.S_drewN | apply Kd.S_drew)); exact HO490.out) hb)
                 have n1_ := Aside0.mk (Kd.S_below (by (with_reducible repeat (first | apply Kd.S_alloc | apply Kd.S_drewN | apply Kd.S_drew)); exact HO494.out) hb)
                 have n2_ := Aside0.mk (Kd.S_below (by (with_reducible repeat (first | apply Kd.S_alloc | apply Kd.S_drewN | apply Kd.S_drew)); exact HO498.out) hb)
                 have n3_ := Aside0.mk (blk_below (g := gb481) (o := .cells #[.string a1_0, .slice A1_1 l1_1.length c1_1] 53 (0, 0)) (by refine bk ?_; exact BK481.out) hb)
                 have n4_ := Aside0.mk (blk_below (g := gb482) (o := .cells #[.string a2_0, .slice A2_1 l2_1.length c2_1] 53 (0, 0)) (by refine bk ?_; exact BK482.out) hb)
                 have n5_ := Aside0.mk (below_step (bB2 GE481.out GE482.out) hb)
                 clear HO490
                 clear HO494
                 clear HO498
                 clear BK481
                 clear BK482
                 clear HB
                 have HO490 := n0_
                 have HO494 := n1_
                 have HO498 := n2_
                 have BK481 := n3_
                 have BK482 := n4_
                 have HB := n5_
                 clear n0_ n1_ n2_ n3_ n4_ n5_
                 (try clear hb)
                 (try clear hb2)
                 (try clear hk)
                 (try clear hi)
                 refine hK.out _ _ ⟨(blk_cell BK482.out 0).trans rfl, (blk_cell BK482.out 1).trans rfl, (blk_cell BK481.out 0).trans rfl, (blk_cell BK481.out 1).trans rfl⟩ (fun hHeld => ?_)
                 clear hK K
                 refine norm_ (a' := ?_) ?_ ?_
                 rotate_left
                 ·show Act.put _ (some 95) _ = _
                  simp only [Act.put, List.setIfInBounds_toArray, List.set_cons_zero, List.set_cons_succ, i64_w, i32_w]
                  rfl
                 refine pQ (i := 14) (N := some 96) (bb 30 32767) ?_
                 refine pQ (i := 15) (N := some 97) (bb 30 65535) ?_
                 refine pQ (i := 16) (N := some 98) (bb 30 131071) ?_
                 refine pQ (i := 17) (N := some 99) (bb 30 262143) ?_
                 refine tQ4 (i := 18) (N := some 100) (bb 30 524287) hHeld ?_
                 refine one_ (i := 19) (N := some 101) (bb 30 1048575) rfl rfl (one_of HT_.out (by kernel_rfl)) (by decide) (fun K hK => ?_)
                 refine goes_ Try.func33 (by kernel_rfl) rfl #[.slice A0 l0.length c0, .agg #[.string a1_0, .slice A1_1 l1_1.length c1_1]] (by rfl) rfl rfl aG ?_
                 with_reducible refine (sets_Has.calls _ _ l0 a1_0 _ _ l1_1 false _ ?side1 ?side2 ?side3 ?side4 A81.out).mono ?_
                 (case side1 => exact sC (Kd.C_below HR0.out HB.out))
                 (case side2 => exact HC0.out)
                 (case side3 => exact sC (Kd.C_below HR1_1.out HB.out))
                 (case side4 => exact HC1_1.out)
                 rintro e w155 ⟨rfl, hb⟩
                 refine ⟨_, rfl, ?_⟩
                 have n0_ := Aside0.mk (Kd.S_below (by (with_reducible repeat (first | apply Kd.S_alloc | apply Kd.S_drewN | apply Kd.S_drew)); exact HO490.out) hb)
                 have n1_ := Aside0.mk (Kd.S_below (by (with_reducible repeat (first | apply Kd.S_alloc | apply Kd.S_drewN | apply Kd.S_drew)); exact HO494.out) hb)
                 have n2_ := Aside0.mk (Kd.S_below (by (with_reducible repeat (first | apply Kd.S_alloc | apply Kd.S_drewN | apply Kd.S_drew)); exact HO498.out) hb)
                 have n3_ := Aside0.mk (blk_below (g := gb481) (o := .cells #[.string a1_0, .slice A1_1 l1_1.length c1_1] 53 (0, 0)) (by refine bk ?_; exact BK481.out) hb)
                 have n4_ := Aside0.mk (blk_below (g := gb482) (o := .cells #[.string a2_0, .slice A2_1 l2_1.length c2_1] 53 (0, 0)) (by refine bk ?_; exact BK482.out) hb)
                 have n5_ := Aside0.mk (below_step (bB2 GE481.out GE482.out) hb)
                 clear HO490
                 clear HO494
                 clear HO498
                 clear BK481
                 clear BK482
                 clear HB
                 have HO490 := n0_
                 have HO494 := n1_
                 have HO498 := n2_
                 have BK481 := n3_
                 have BK482 := n4_
                 have HB := n5_
                 clear n0_ n1_ n2_ n3_ n4_ n5_
                 (try clear hb)
                 (try clear hb2)
                 (try clear hk)
                 (try clear hi)
                 refine hK.out _ _ ⟨(blk_cell BK482.out 0).trans rfl, (blk_cell BK482.out 1).trans rfl, (blk_cell BK481.out 0).trans rfl, (blk_cell BK481.out 1).trans rfl⟩ (fun hHeld => ?_)
                 clear hK K
                 refine norm_ (a' := ?_) ?_ ?_
                 rotate_left
                 ·show Act.put _ (some 101) _ = _
                  simp only [Act.put, List.setIfInBounds_toArray, List.set_cons_zero, List.set_cons_succ, i64_w, i32_w]
                  rfl
                 refine pQ (i := 20) (N := some 102) (bb 30 2097151) ?_
                 refine pQ (i := 21) (N := some 103) (bb 30 4194303) ?_
                 refine pQ (i := 22) (N := some 104) (bb 30 8388607) ?_
                 refine one_ (i := 23) (N := some 105) (bb 30 16777215) rfl rfl (one_of HT_.out (by kernel_rfl)) (by decide) (fun K hK => ?_)
                 refine goes_ Try.func34 (by kernel_rfl) rfl #[.slice Ao143 t492.length co143, .slice A0 l0.length c0] (by rfl) rfl rfl aG ?_
                 with_reducible refine (constablekeep_Facts.calls k _ _ t492 _ _ l0 true _ ?side1 ?side2 ?side3 ?side4 A119.out).mono ?_
                 (case side1 => exact sC (Kd.S_reads' HO494.out).2.2)
                 (case side2 => exact (Kd.S_reads' HO494.out).2.1)
                 (case side3 => exact sC (Kd.C_below HR0.out HB.out))
                 (case side4 => exact HC0.out)
                 rintro e w156 ⟨rfl, hb⟩
                 refine ⟨_, rfl, ?_⟩
                 have n0_ := Aside0.mk (Kd.S_below (by (with_reducible repeat (first | apply Kd.S_alloc | apply Kd.S_drewN | apply Kd.S_drew)); exact HO490.out) hb)
                 have n1_ := Aside0.mk (Kd.S_below (by (with_reducible repeat (first | apply Kd.S_alloc | apply Kd.S_drewN | apply Kd.S_drew)); exact HO494.out) hb)
                 have n2_ := Aside0.mk (Kd.S_below (by (with_reducible repeat (first | apply Kd.S_alloc | apply Kd.S_drewN | apply Kd.S_drew)); exact HO498.out) hb)
                 have n3_ := Aside0.mk (blk_below (g := gb481) (o := .cells #[.string a1_0, .slice A1_1 l1_1.length c1_1] 53 (0, 0)) (by refine bk ?_; exact BK481.out) hb)
                 have n4_ := Aside0.mk (blk_below (g := gb482) (o := .cells #[.string a2_0, .slice A2_1 l2_1.length c2_1] 53 (0, 0)) (by refine bk ?_; exact BK482.out) hb)
                 have n5_ := Aside0.mk (below_step (bB2 GE481.out GE482.out) hb)
                 clear HO490
                 clear HO494
                 clear HO498
                 clear BK481
                 clear BK482
                 clear HB
                 have HO490 := n0_
                 have HO494 := n1_
                 have HO498 := n2_
                 have BK481 := n3_
                 have BK482 := n4_
                 have HB := n5_
                 clear n0_ n1_ n2_ n3_ n4_ n5_
                 (try clear hb)
                 (try clear hb2)
                 (try clear hk)
                 (try clear hi)
                 refine hK.out _ _ ⟨(blk_cell BK482.out 0).trans rfl, (blk_cell BK482.out 1).trans rfl, (blk_cell BK481.out 0).trans rfl, (blk_cell BK481.out 1).trans rfl⟩ (fun hHeld => ?_)
                 clear hK K
                 refine norm_ (a' := ?_) ?_ ?_
                 rotate_left
                 ·show Act.put _ (some 105) _ = _
                  simp only [Act.put, List.setIfInBounds_toArray, List.set_cons_zero, List.set_cons_succ, i64_w, i32_w]
                  rfl
                 refine pQ (i := 24) (N := some 106) (bb 30 33554431) ?_
                 refine pQ (i := 25) (N := some 107) (bb 30 67108863) ?_
                 refine pQ (i := 26) (N := some 108) (bb 30 134217727) ?_
                 refine one_ (i := 27) (N := some 109) (bb 30 268435455) rfl rfl (one_of HT_.out (by kernel_rfl)) (by decide) (fun K hK => ?_)
                 refine goes_ Try.func31 (by kernel_rfl) rfl #[] (by rfl) rfl rfl aG ?_
                 with_reducible refine (constablelaw04_wakes.calls  t512 _ A121.out).mono ?_
                 rintro e w157 ⟨rfl, hb⟩
                 refine ⟨_, rfl, ?_⟩
                 have n0_ := Aside0.mk (Kd.S_below (by (with_reducible repeat (first | apply Kd.S_alloc | apply Kd.S_drewN | apply Kd.S_drew)); exact HO490.out) hb)
                 have n1_ := Aside0.mk (Kd.S_below (by (with_reducible repeat (first | apply Kd.S_alloc | apply Kd.S_drewN | apply Kd.S_drew)); exact HO494.out) hb)
                 have n2_ := Aside0.mk (Kd.S_below (by (with_reducible repeat (first | apply Kd.S_alloc | apply Kd.S_drewN | apply Kd.S_drew)); exact HO498.out) hb)
                 have n3_ := Aside0.mk (blk_below (g := gb481) (o := .cells #[.string a1_0, .slice A1_1 l1_1.length c1_1] 53 (0, 0)) (by refine bk ?_; exact BK481.out) hb)
                 have n4_ := Aside0.mk (blk_below (g := gb482) (o := .cells #[.string a2_0, .slice A2_1 l2_1.length c2_1] 53 (0, 0)) (by refine bk ?_; exact BK482.out) hb)
                 have n5_ := Aside0.mk (below_step (bB2 GE481.out GE482.out) hb)
                 clear HO490
                 clear HO494
                 clear HO498
                 clear BK481
                 clear BK482
                 clear HB
                 have HO490 := n0_
                 have HO494 := n1_
                 have HO498 := n2_
                 have BK481 := n3_
                 have BK482 := n4_
                 have HB := n5_
                 clear n0_ n1_ n2_ n3_ n4_ n5_
                 (try clear hb)
                 (try clear hb2)
                 (try clear hk)
                 (try clear hi)
                 refine hK.out _ _ ⟨(blk_cell BK482.out 0).trans rfl, (blk_cell BK482.out 1).trans rfl, (blk_cell BK481.out 0).trans rfl, (blk_cell BK481.out 1).trans rfl⟩ (fun hHeld => ?_)
                 clear hK K
                 refine norm_ (a' := ?_) ?_ ?_
                 rotate_left
                 ·show Act.put _ (some 109) _ = _
                  simp only [Act.put, List.setIfInBounds_toArray, List.set_cons_zero, List.set_cons_succ, i64_w, i32_w]
                  rfl
                 refine pQ (i := 28) (N := some 110) (bb 30 536870911) ?_
                 refine pQ (i := 29) (N := some 6) (bb 30 1073741823) ?_
                 refine done_ (done_of HT_.out (by kernel_rfl)) ?_
                 try go_wp2
                 go_ret
                 exact ⟨eW, (bB2 GE481.out GE482.out)⟩
                ·replace c120 := Bool.eq_false_iff.mpr c120
                 subst c120
                 have H1 : (none) = some r := by rw [if_neg (show ¬ (false = true) by decide)] at H; exact H
                 clear H
                 have H := H1
                 clear H1
                 exact absurd H (by simp)
              ·rw [if_neg c80] at H
               exact absurd H (by simp)
             ·rw [if_neg c77] at H
              exact absurd H (by simp)
           ·replace c42 := Bool.eq_false_iff.mpr c42
            subst c42
            have H1 : (none) = some r := by rw [if_neg (show ¬ (false = true) by decide)] at H; exact H
            clear H
            have H := H1
            clear H1
            exact absurd H (by simp)
         ·replace c38 := Bool.eq_false_iff.mpr c38
          subst c38
          have H1 : (none) = some r := by rw [if_neg (show ¬ (false = true) by decide)] at H; exact H
          clear H
          have H := H1
          clear H1
          exact absurd H (by simp)
        ·rw [if_neg c36] at H
         exact absurd H (by simp)
       ·rw [if_neg c35] at H
        exact absurd H (by simp)
      ·rw [if_neg c34] at H
       exact absurd H (by simp)
     ·replace c30 := Bool.eq_false_iff.mpr c30
      subst c30
      have H1 : (some true) = some r := by rw [if_neg (show ¬ (false = true) by decide)] at H; exact H
      clear H
      have H := H1
      clear H1
      obtain rfl := Option.some.inj H
      go_enter Try.func8, Try.ntmps8
      go_wp2_with (first | ((with_reducible refine gate_dst (N := 4) rfl ?_); refine bE (N := 4) (cs := #[.string a1_0, .slice A1_1 l1_1.length c1_1]) (t := 53) ?_; intro gb481 hg w158 hbox hb; have n0_ := Aside0.mk (below_step bB0 hb); have n1_ := Aside0.mk (hbox); have n2_ := Aside0.mk ((by rw [hg]; exact (below_size bB0) : w.heap.size ≤ gb481)); have n3_ := Aside0.mk ((by rw [hg]; exact (below_size bB0) : w.heap.size ≤ gb481)); clear HB; have HB := n0_; have BK481 := n1_; have GW481 := n2_; have GE481 := n3_; clear n0_ n1_ n2_ n3_; clear hb hbox hg) | ((with_reducible refine gate_dst (N := 5) rfl ?_); refine bE (N := 5) (cs := #[.string a2_0, .slice A2_1 l2_1.length c2_1]) (t := 53) ?_; intro gb482 hg w159 hbox hb; have n0_ := Aside0.mk (blk_below (g := gb481) (o := .cells #[.string a1_0, .slice A1_1 l1_1.length c1_1] 53 (0, 0)) (by refine bk ?_; exact BK481.out) hb); have n1_ := Aside0.mk (below_step (bB1 GE481.out) hb); have n2_ := Aside0.mk (hbox); have n3_ := Aside0.mk ((by rw [hg]; exact (below_size (bB1 GE481.out)) : w.heap.size ≤ gb482)); have n4_ := Aside0.mk ((by rw [hg]; exact (below_size (bB1 GE481.out)) : w.heap.size ≤ gb482)); have n5_ := Aside0.mk ((by rw [hg]; exact Nat.ne_of_lt (blk_lt (g := gb481) (o := .cells #[.string a1_0, .slice A1_1 l1_1.length c1_1] 53 (0, 0)) (by refine bk ?_; exact BK481.out)) : gb481 ≠ gb482)); have n6_ := Aside0.mk ((by rw [hg]; exact Nat.ne_of_gt (blk_lt (g := gb481) (o := .cells #[.string a1_0, .slice A1_1 l1_1.length c1_1] 53 (0, 0)) (by refine bk ?_; exact BK481.out)) : gb482 ≠ gb481)); clear BK481; clear HB; have BK481 := n0_; have HB := n1_; have BK482 := n2_; have GW482 := n3_; have GE482 := n4_; have NB481_482 := n5_; have NB482_481 := n6_; clear n0_ n1_ n2_ n3_ n4_ n5_ n6_; clear hb hbox hg) | ((with_reducible refine gate_callee (f := 29) rfl ?_); refine goesL_ (some 14) rfl rfl Try.func29 (by kernel_rfl) rfl #[.slice A0 l0.length c0] rfl aG ?_; (with_reducible refine (constablelaw03_Many.calls k _ _ l0 false _ ?side1 ?side2 A4.out).mono ?_); (case side1 => exact sC (Kd.C_below HR0.out HB.out)); (case side2 => exact HC0.out); rintro e w160 ⟨rfl, hb⟩; refine ⟨_, rfl, ?_⟩; have n0_ := Aside0.mk (blk_below (g := gb481) (o := .cells #[.string a1_0, .slice A1_1 l1_1.length c1_1] 53 (0, 0)) (by refine bk ?_; exact BK481.out) hb); have n1_ := Aside0.mk (blk_below (g := gb482) (o := .cells #[.string a2_0, .slice A2_1 l2_1.length c2_1] 53 (0, 0)) (by refine bk ?_; exact BK482.out) hb); have n2_ := Aside0.mk (below_step (bB2 GE481.out GE482.out) hb); clear BK481; clear BK482; clear HB; have BK481 := n0_; have BK482 := n1_; have HB := n2_; clear n0_ n1_ n2_; (try clear hb); (try clear hb2); (try clear hk); (try clear hi); have hnb161 := NB481_482.out; have hnc161 := NB482_481.out; have hcz162_0 : w160.cell? ⟨gb481, 0, none⟩ = some (.string a1_0) := (blk_cell BK481.out 0).trans rfl; have hcz162_1 : w160.cell? ⟨gb481, 1, none⟩ = some (.slice A1_1 l1_1.length c1_1) := (blk_cell BK481.out 1).trans rfl; have hfz162_0 := blk_frozen BK481.out 0; have hfz162_1 := blk_frozen BK481.out 1) | (go_at_call 36; (with_reducible refine (constablelaw03_Heavy.calls k a1_0 _ _ l1_1 false _ ?side1 ?side2 A9.out).mono ?_); (case side1 => exact sC (Kd.C_below HR1_1.out HB.out)); (case side2 => exact HC1_1.out); rintro e w163 ⟨rfl, hb⟩; have n0_ := Aside0.mk (blk_below (g := gb481) (o := .cells #[.string a1_0, .slice A1_1 l1_1.length c1_1] 53 (0, 0)) (by refine bk ?_; exact BK481.out) hb); have n1_ := Aside0.mk (blk_below (g := gb482) (o := .cells #[.string a2_0, .slice A2_1 l2_1.length c2_1] 53 (0, 0)) (by refine bk ?_; exact BK482.out) hb); have n2_ := Aside0.mk (below_step (bB2 GE481.out GE482.out) hb); clear BK481; clear BK482; clear HB; have BK481 := n0_; have BK482 := n1_; have HB := n2_; clear n0_ n1_ n2_; (try clear hb); (try clear hb2); (try clear hk); (try clear hi); have hcz164_0 : w163.cell? ⟨gb482, 0, none⟩ = some (.string a2_0) := (blk_cell BK482.out 0).trans rfl; have hcz164_1 : w163.cell? ⟨gb482, 1, none⟩ = some (.slice A2_1 l2_1.length c2_1) := (blk_cell BK482.out 1).trans rfl; have hfz164_0 := blk_frozen BK482.out 0; have hfz164_1 := blk_frozen BK482.out 1) | (go_at_call 36; (with_reducible refine (constablelaw03_Heavy.calls k a2_0 _ _ l2_1 false _ ?side1 ?side2 A17.out).mono ?_); (case side1 => exact sC (Kd.C_below HR2_1.out HB.out)); (case side2 => exact HC2_1.out); rintro e w165 ⟨rfl, hb⟩; have n0_ := Aside0.mk (blk_below (g := gb481) (o := .cells #[.string a1_0, .slice A1_1 l1_1.length c1_1] 53 (0, 0)) (by refine bk ?_; exact BK481.out) hb); have n1_ := Aside0.mk (blk_below (g := gb482) (o := .cells #[.string a2_0, .slice A2_1 l2_1.length c2_1] 53 (0, 0)) (by refine bk ?_; exact BK482.out) hb); have n2_ := Aside0.mk (below_step (bB2 GE481.out GE482.out) hb); clear BK481; clear BK482; clear HB; have BK481 := n0_; have BK482 := n1_; have HB := n2_; clear n0_ n1_ n2_; (try clear hb); (try clear hb2); (try clear hk); (try clear hi)) | (go_at_call 37; (with_reducible refine (constableref01_Set.calls k _ _ l0 true _ ?side1 ?side2 A27.out).mono ?_); (case side1 => exact sC (Kd.C_below HR0.out HB.out)); (case side2 => exact HC0.out); rintro e w166 ⟨rfl, hb⟩; have n0_ := Aside0.mk (blk_below (g := gb481) (o := .cells #[.string a1_0, .slice A1_1 l1_1.length c1_1] 53 (0, 0)) (by refine bk ?_; exact BK481.out) hb); have n1_ := Aside0.mk (blk_below (g := gb482) (o := .cells #[.string a2_0, .slice A2_1 l2_1.length c2_1] 53 (0, 0)) (by refine bk ?_; exact BK482.out) hb); have n2_ := Aside0.mk (below_step (bB2 GE481.out GE482.out) hb); clear BK481; clear BK482; clear HB; have BK481 := n0_; have BK482 := n1_; have HB := n2_; clear n0_ n1_ n2_; (try clear hb); (try clear hb2); (try clear hk); (try clear hi); have hcz167_0 : w166.cell? ⟨gb481, 0, none⟩ = some (.string a1_0) := (blk_cell BK481.out 0).trans rfl; have hcz167_1 : w166.cell? ⟨gb481, 1, none⟩ = some (.slice A1_1 l1_1.length c1_1) := (blk_cell BK481.out 1).trans rfl; have hfz167_0 := blk_frozen BK481.out 0; have hfz167_1 := blk_frozen BK481.out 1) | (go_at_call 38; (with_reducible refine (constableref01_Fact.calls k a1_0 _ _ l1_1 false _ ?side1 ?side2 A29.out).mono ?_); (case side1 => exact sC (Kd.C_below HR1_1.out HB.out)); (case side2 => exact HC1_1.out); rintro e w168 ⟨rfl, hb⟩; have n0_ := Aside0.mk (blk_below (g := gb481) (o := .cells #[.string a1_0, .slice A1_1 l1_1.length c1_1] 53 (0, 0)) (by refine bk ?_; exact BK481.out) hb); have n1_ := Aside0.mk (blk_below (g := gb482) (o := .cells #[.string a2_0, .slice A2_1 l2_1.length c2_1] 53 (0, 0)) (by refine bk ?_; exact BK482.out) hb); have n2_ := Aside0.mk (below_step (bB2 GE481.out GE482.out) hb); clear BK481; clear BK482; clear HB; have BK481 := n0_; have BK482 := n1_; have HB := n2_; clear n0_ n1_ n2_; (try clear hb); (try clear hb2); (try clear hk); (try clear hi)))
      go_ret
      exact ⟨eW, (bB2 GE481.out GE482.out)⟩
    ·replace c28 := Bool.eq_false_iff.mpr c28
     subst c28
     have H1 : (some true) = some r := by rw [if_neg (show ¬ (false = true) by decide)] at H; exact H
     clear H
     have H := H1
     clear H1
     obtain rfl := Option.some.inj H
     go_enter Try.func8, Try.ntmps8
     go_wp2_with (first | ((with_reducible refine gate_dst (N := 4) rfl ?_); refine bE (N := 4) (cs := #[.string a1_0, .slice A1_1 l1_1.length c1_1]) (t := 53) ?_; intro gb481 hg w169 hbox hb; have n0_ := Aside0.mk (below_step bB0 hb); have n1_ := Aside0.mk (hbox); have n2_ := Aside0.mk ((by rw [hg]; exact (below_size bB0) : w.heap.size ≤ gb481)); have n3_ := Aside0.mk ((by rw [hg]; exact (below_size bB0) : w.heap.size ≤ gb481)); clear HB; have HB := n0_; have BK481 := n1_; have GW481 := n2_; have GE481 := n3_; clear n0_ n1_ n2_ n3_; clear hb hbox hg) | ((with_reducible refine gate_dst (N := 5) rfl ?_); refine bE (N := 5) (cs := #[.string a2_0, .slice A2_1 l2_1.length c2_1]) (t := 53) ?_; intro gb482 hg w170 hbox hb; have n0_ := Aside0.mk (blk_below (g := gb481) (o := .cells #[.string a1_0, .slice A1_1 l1_1.length c1_1] 53 (0, 0)) (by refine bk ?_; exact BK481.out) hb); have n1_ := Aside0.mk (below_step (bB1 GE481.out) hb); have n2_ := Aside0.mk (hbox); have n3_ := Aside0.mk ((by rw [hg]; exact (below_size (bB1 GE481.out)) : w.heap.size ≤ gb482)); have n4_ := Aside0.mk ((by rw [hg]; exact (below_size (bB1 GE481.out)) : w.heap.size ≤ gb482)); have n5_ := Aside0.mk ((by rw [hg]; exact Nat.ne_of_lt (blk_lt (g := gb481) (o := .cells #[.string a1_0, .slice A1_1 l1_1.length c1_1] 53 (0, 0)) (by refine bk ?_; exact BK481.out)) : gb481 ≠ gb482)); have n6_ := Aside0.mk ((by rw [hg]; exact Nat.ne_of_gt (blk_lt (g := gb481) (o := .cells #[.string a1_0, .slice A1_1 l1_1.length c1_1] 53 (0, 0)) (by refine bk ?_; exact BK481.out)) : gb482 ≠ gb481)); clear BK481; clear HB; have BK481 := n0_; have HB := n1_; have BK482 := n2_; have GW482 := n3_; have GE482 := n4_; have NB481_482 := n5_; have NB482_481 := n6_; clear n0_ n1_ n2_ n3_ n4_ n5_ n6_; clear hb hbox hg) | ((with_reducible refine gate_callee (f := 29) rfl ?_); refine goesL_ (some 14) rfl rfl Try.func29 (by kernel_rfl) rfl #[.slice A0 l0.length c0] rfl aG ?_; (with_reducible refine (constablelaw03_Many.calls k _ _ l0 false _ ?side1 ?side2 A4.out).mono ?_); (case side1 => exact sC (Kd.C_below HR0.out HB.out)); (case side2 => exact HC0.out); rintro e w171 ⟨rfl, hb⟩; refine ⟨_, rfl, ?_⟩; have n0_ := Aside0.mk (blk_below (g := gb481) (o := .cells #[.string a1_0, .slice A1_1 l1_1.length c1_1] 53 (0, 0)) (by refine bk ?_; exact BK481.out) hb); have n1_ := Aside0.mk (blk_below (g := gb482) (o := .cells #[.string a2_0, .slice A2_1 l2_1.length c2_1] 53 (0, 0)) (by refine bk ?_; exact BK482.out) hb); have n2_ := Aside0.mk (below_step (bB2 GE481.out GE482.out) hb); clear BK481; clear BK482; clear HB; have BK481 := n0_; have BK482 := n1_; have HB := n2_; clear n0_ n1_ n2_; (try clear hb); (try clear hb2); (try clear hk); (try clear hi); have hnb172 := NB481_482.out; have hnc172 := NB482_481.out; have hcz173_0 : w171.cell? ⟨gb481, 0, none⟩ = some (.string a1_0) := (blk_cell BK481.out 0).trans rfl; have hcz173_1 : w171.cell? ⟨gb481, 1, none⟩ = some (.slice A1_1 l1_1.length c1_1) := (blk_cell BK481.out 1).trans rfl; have hfz173_0 := blk_frozen BK481.out 0; have hfz173_1 := blk_frozen BK481.out 1) | (go_at_call 36; (with_reducible refine (constablelaw03_Heavy.calls k a1_0 _ _ l1_1 false _ ?side1 ?side2 A9.out).mono ?_); (case side1 => exact sC (Kd.C_below HR1_1.out HB.out)); (case side2 => exact HC1_1.out); rintro e w174 ⟨rfl, hb⟩; have n0_ := Aside0.mk (blk_below (g := gb481) (o := .cells #[.string a1_0, .slice A1_1 l1_1.length c1_1] 53 (0, 0)) (by refine bk ?_; exact BK481.out) hb); have n1_ := Aside0.mk (blk_below (g := gb482) (o := .cells #[.string a2_0, .slice A2_1 l2_1.length c2_1] 53 (0, 0)) (by refine bk ?_; exact BK482.out) hb); have n2_ := Aside0.mk (below_step (bB2 GE481.out GE482.out) hb); clear BK481; clear BK482; clear HB; have BK481 := n0_; have BK482 := n1_; have HB := n2_; clear n0_ n1_ n2_; (try clear hb); (try clear hb2); (try clear hk); (try clear hi); have hcz175_0 : w174.cell? ⟨gb482, 0, none⟩ = some (.string a2_0) := (blk_cell BK482.out 0).trans rfl; have hcz175_1 : w174.cell? ⟨gb482, 1, none⟩ = some (.slice A2_1 l2_1.length c2_1) := (blk_cell BK482.out 1).trans rfl; have hfz175_0 := blk_frozen BK482.out 0; have hfz175_1 := blk_frozen BK482.out 1) | (go_at_call 36; (with_reducible refine (constablelaw03_Heavy.calls k a2_0 _ _ l2_1 false _ ?side1 ?side2 A17.out).mono ?_); (case side1 => exact sC (Kd.C_below HR2_1.out HB.out)); (case side2 => exact HC2_1.out); rintro e w176 ⟨rfl, hb⟩; have n0_ := Aside0.mk (blk_below (g := gb481) (o := .cells #[.string a1_0, .slice A1_1 l1_1.length c1_1] 53 (0, 0)) (by refine bk ?_; exact BK481.out) hb); have n1_ := Aside0.mk (blk_below (g := gb482) (o := .cells #[.string a2_0, .slice A2_1 l2_1.length c2_1] 53 (0, 0)) (by refine bk ?_; exact BK482.out) hb); have n2_ := Aside0.mk (below_step (bB2 GE481.out GE482.out) hb); clear BK481; clear BK482; clear HB; have BK481 := n0_; have BK482 := n1_; have HB := n2_; clear n0_ n1_ n2_; (try clear hb); (try clear hb2); (try clear hk); (try clear hi)) | (go_at_call 37; (with_reducible refine (constableref01_Set.calls k _ _ l0 false _ ?side1 ?side2 A27.out).mono ?_); (case side1 => exact sC (Kd.C_below HR0.out HB.out)); (case side2 => exact HC0.out); rintro e w177 ⟨rfl, hb⟩; have n0_ := Aside0.mk (blk_below (g := gb481) (o := .cells #[.string a1_0, .slice A1_1 l1_1.length c1_1] 53 (0, 0)) (by refine bk ?_; exact BK481.out) hb); have n1_ := Aside0.mk (blk_below (g := gb482) (o := .cells #[.string a2_0, .slice A2_1 l2_1.length c2_1] 53 (0, 0)) (by refine bk ?_; exact BK482.out) hb); have n2_ := Aside0.mk (below_step (bB2 GE481.out GE482.out) hb); clear BK481; clear BK482; clear HB; have BK481 := n0_; have BK482 := n1_; have HB := n2_; clear n0_ n1_ n2_; (try clear hb); (try clear hb2); (try clear hk); (try clear hi)))
     go_ret
     exact ⟨eW, (bB2 GE481.out GE482.out)⟩

end Go.Proofs.Ytghommaokdhjmaa.P
/- What an argument's reading tells of its cells: whole numbers, texts, Values, Binds, and rows of them. -/
set_option linter.unusedVariables false
namespace Go.Proofs.Ytghommaokdhjmaa.Open
open Go.RowKit Go.Proofs.YtghommaokdhjmaaW.PrintWords Go.Proofs.Ytghommaokdhjmaa.P
variable {H : Type} {enc : TypeId × Value → H} {P : Program} {w : World} {base : Nat} {sp : Nat → Bool} {held : Bool}
theorem trod_int {t : TypeId} {k : IntKind} (ht : P.underlying t = some (.int k)) {fuel : Nat} {cs : List Value} {x : DataW H × List MemPlace} (h : DataW.trod enc P w base sp held fuel t cs = some x) : ∃ n, cs = [.int k n] ∧ (Lit.int k n).wf = true := by
  cases fuel with
  | zero => simp [DataW.trod] at h
  | succ n =>
    unfold DataW.trod at h
    rw [ht] at h
    split at h <;> simp_all
theorem trod_string {t : TypeId} (ht : P.underlying t = some .string) {fuel : Nat} {cs : List Value} {x : DataW H × List MemPlace} (h : DataW.trod enc P w base sp held fuel t cs = some x) : ∃ s, cs = [.string s] ∧ s.size ≤ maxLen := by
  cases fuel with
  | zero => simp [DataW.trod] at h
  | succ n =>
    unfold DataW.trod at h
    rw [ht] at h
    split at h <;> simp_all

/-- Readings of an element type tell a kind. -/
def Tells (H : Type) (enc : TypeId × Value → H) (P : Program) (base : Nat) (sp : Nat → Bool) (held : Bool) {α : Type} (d : Kd α) (e : TypeId) : Prop :=
  ∀ (w : World) (fuel : Nat) (cs : List Value) (x : DataW H × List MemPlace), DataW.trod enc P w base sp held fuel e cs = some x → ∃ p, d.K w p cs
theorem list_of {α : Type} {Q : Nat → α → Prop} : ∀ (n : Nat), (∀ i, i < n → ∃ p, Q i p) → ∃ l : List α, l.length = n ∧ ∀ j p, l[j]? = some p → Q j p
  | 0, _ => ⟨[], rfl, fun j p h => by simp at h⟩
  | n + 1, h => by
    obtain ⟨l, hl, hq⟩ := list_of n (fun i hi => h i (by omega))
    obtain ⟨p, hp⟩ := h n (by omega)
    refine ⟨l ++ [p], by simp [hl], fun j q hj => ?_⟩
    rcases Nat.lt_trichotomy j n with h1 | h1 | h1
    · rw [List.getElem?_append_left (by omega)] at hj; exact hq j q hj
    · subst h1
      rw [List.getElem?_append_right (by omega), hl, Nat.sub_self] at hj
      obtain rfl : p = q := by simpa using hj
      exact hp
    · rw [List.getElem?_eq_none (by simp; omega)] at hj; cases hj
theorem add_add' (a : Addr) (i j : Nat) : (a.add i).add j = a.add (i + j) := by
  unfold Addr.add
  by_cases hi : i = 0 <;> by_cases hj : j = 0 <;> simp [hi, hj, Nat.add_assoc]
theorem tells_row {α : Type} {d : Kd α} {t e : TypeId} (ht : P.underlying t = some (.slice e)) (hs : P.cellsOf e = d.sz) (hd : Tells H enc P base sp held d e) {fuel : Nat} {cs : List Value} {x : DataW H × List MemPlace}
    (h : DataW.trod enc P w base sp held fuel t cs = some x) : ∃ (A : Option Addr) (c : Nat) (l : List α), cs = [.slice A l.length c] ∧ l.length ≤ c ∧ Kd.C d w A l.length l := by
  rcases DataW.trod_slice ht h with ⟨rfl, _⟩ | ⟨a, len, cap, elems, rest, n, _, rfl, _, _, hl, hcm, hlen, hel, _⟩
  · exact ⟨none, 0, [], rfl, Nat.le_refl _, rfl, by simp, fun h => absurd h (Nat.lt_irrefl _)⟩
  · have hex : ∀ i, i < len → ∃ (p : α), ∃ c : List Value, c.length = d.sz ∧ d.K w p c ∧ ∀ j u, c[j]? = some u → w.cell? (a.add (i * d.sz + j)) = some u := by
      intro i hi
      have h1 := hel i hi
      rw [List.getElem?_eq_getElem (by omega), Option.bind_eq_some_iff] at h1
      obtain ⟨c, hc, htr⟩ := h1
      obtain ⟨p, hp⟩ := hd w _ _ _ htr
      obtain ⟨_, hcl, hcell⟩ := World.cells?_some hc
      refine ⟨p, c, by rw [hcl, hs], hp, fun j u hj => ?_⟩
      have hj' : j < P.cellsOf e := by rw [← hcl]; exact (List.getElem?_eq_some_iff.1 hj).1
      rw [← hs, ← add_add', hcell j hj', hj]
    obtain ⟨l, hll, hq⟩ := list_of len hex
    refine ⟨some a, cap, l, by rw [hll], by omega, rfl, by unfold maxLen at hcm; omega, fun _ => ⟨a, rfl, hq⟩⟩

set_option maxRecDepth 100000 in
theorem tells24 : Tells H enc Try.prog base sp held k24 24 := by
  intro w fuel cs x h
  obtain ⟨xs, n, _, rfl, hl, hlen, hf⟩ := DataW.trod_struct Try.underlying24 h
  have hc : Try.prog.cellsOf 24 = 3 := by kernel_rfl
  have h9 : Try.prog.cellsOf 9 = 1 := by kernel_rfl
  have h3 : Try.prog.cellsOf 3 = 1 := by kernel_rfl
  rw [hc] at hl
  obtain ⟨a, b, c, rfl⟩ : ∃ a b c, cs = [a, b, c] := by
    match cs, hl with
    | [a, b, c], _ => exact ⟨a, b, c, rfl⟩
  obtain ⟨y0, y1, y2, rfl⟩ : ∃ y0 y1 y2, xs = [y0, y1, y2] := by
    match xs, hlen with
    | [y0, y1, y2], _ => exact ⟨y0, y1, y2, rfl⟩
  have g0 : DataW.trod enc Try.prog w base sp held n 3 (List.take (Try.prog.cellsOf 3) (List.drop 0 [a, b, c])) = some y0 := hf 0 _ rfl
  have g1 : DataW.trod enc Try.prog w base sp held n 3 (List.take (Try.prog.cellsOf 3) (List.drop 1 [a, b, c])) = some y1 := hf 1 _ rfl
  have g2 : DataW.trod enc Try.prog w base sp held n 9 (List.take (Try.prog.cellsOf 9) (List.drop 2 [a, b, c])) = some y2 := hf 2 _ rfl
  rw [h3] at g0 g1
  rw [h9] at g2
  obtain ⟨n0, e0, _⟩ := trod_int Try.underlying3 g0
  obtain ⟨n1, e1, _⟩ := trod_int Try.underlying3 g1
  obtain ⟨s2, e2, _⟩ := trod_string Try.underlying9 g2
  obtain rfl : a = _ := by simpa using e0
  obtain rfl : b = _ := by simpa using e1
  obtain rfl : c = _ := by simpa using e2
  exact ⟨⟨n0, n1, s2⟩, k24_mk w _⟩
set_option maxRecDepth 100000 in
theorem tells39 : Tells H enc Try.prog base sp held k39 39 := by
  intro w fuel cs x h
  obtain ⟨xs, n, _, rfl, hl, hlen, hf⟩ := DataW.trod_struct Try.underlying39 h
  have hc : Try.prog.cellsOf 39 = 4 := by kernel_rfl
  have h9 : Try.prog.cellsOf 9 = 1 := by kernel_rfl
  have h3 : Try.prog.cellsOf 24 = 3 := by kernel_rfl
  rw [hc] at hl
  obtain ⟨a, b, c, e, rfl⟩ : ∃ a b c e, cs = [a, b, c, e] := by
    match cs, hl with
    | [a, b, c, e], _ => exact ⟨a, b, c, e, rfl⟩
  obtain ⟨y0, y1, rfl⟩ : ∃ y0 y1, xs = [y0, y1] := by
    match xs, hlen with
    | [y0, y1], _ => exact ⟨y0, y1, rfl⟩
  have g0 : DataW.trod enc Try.prog w base sp held n 9 (List.take (Try.prog.cellsOf 9) (List.drop 0 [a, b, c, e])) = some y0 := hf 0 _ rfl
  have g1 : DataW.trod enc Try.prog w base sp held n 24 (List.take (Try.prog.cellsOf 24) (List.drop 1 [a, b, c, e])) = some y1 := hf 1 _ rfl
  rw [h9] at g0
  rw [h3] at g1
  obtain ⟨s0, e0, _⟩ := trod_string Try.underlying9 g0
  obtain ⟨v, hv⟩ := tells24 w _ _ _ g1
  obtain rfl : a = _ := by simpa using e0
  have hv' := k24_open hv
  simp only [List.drop_succ_cons, List.drop_zero, List.take_succ_cons, List.take_zero, List.cons.injEq, and_true] at hv'
  obtain ⟨rfl, rfl, rfl⟩ := hv'
  exact ⟨⟨s0, v⟩, k39_mk w _⟩
end Go.Proofs.Ytghommaokdhjmaa.Open
/- What an argument's reading tells of its cells: Terms, Facts, Atoms; no condition. -/
set_option linter.unusedVariables false
namespace Go.Proofs.Ytghommaokdhjmaa.Open
open Go.RowKit Go.Proofs.YtghommaokdhjmaaW.PrintWords Go.Proofs.Ytghommaokdhjmaa.P
variable {H : Type} {enc : TypeId × Value → H} {P : Program} {w : World} {base : Nat} {sp : Nat → Bool} {held : Bool}
set_option maxRecDepth 100000 in
theorem tells77 : Tells H enc Try.prog base sp held k77 77 := by
  intro w fuel cs x h
  obtain ⟨xs, n, _, rfl, hl, hlen, hf⟩ := DataW.trod_struct Try.underlying77 h
  have hc : Try.prog.cellsOf 77 = 4 := by kernel_rfl
  have h9 : Try.prog.cellsOf 9 = 1 := by kernel_rfl
  have h3 : Try.prog.cellsOf 24 = 3 := by kernel_rfl
  rw [hc] at hl
  obtain ⟨a, b, c, e, rfl⟩ : ∃ a b c e, cs = [a, b, c, e] := by
    match cs, hl with
    | [a, b, c, e], _ => exact ⟨a, b, c, e, rfl⟩
  obtain ⟨y0, y1, rfl⟩ : ∃ y0 y1, xs = [y0, y1] := by
    match xs, hlen with
    | [y0, y1], _ => exact ⟨y0, y1, rfl⟩
  have g0 : DataW.trod enc Try.prog w base sp held n 9 (List.take (Try.prog.cellsOf 9) (List.drop 0 [a, b, c, e])) = some y0 := hf 0 _ rfl
  have g1 : DataW.trod enc Try.prog w base sp held n 24 (List.take (Try.prog.cellsOf 24) (List.drop 1 [a, b, c, e])) = some y1 := hf 1 _ rfl
  rw [h9] at g0
  rw [h3] at g1
  obtain ⟨s0, e0, _⟩ := trod_string Try.underlying9 g0
  obtain ⟨v, hv⟩ := tells24 w _ _ _ g1
  obtain rfl : a = _ := by simpa using e0
  have hv' := k24_open hv
  simp only [List.drop_succ_cons, List.drop_zero, List.take_succ_cons, List.take_zero, List.cons.injEq, and_true] at hv'
  obtain ⟨rfl, rfl, rfl⟩ := hv'
  exact ⟨⟨s0, v⟩, k77_mk w _⟩
set_option maxRecDepth 100000 in
theorem tells53 : Tells H enc Try.prog base sp held k53 53 := by
  intro w fuel cs x h
  obtain ⟨xs, n, _, rfl, hl, hlen, hf⟩ := DataW.trod_struct Try.underlying53 h
  have hc : Try.prog.cellsOf 53 = 2 := by kernel_rfl
  have h9 : Try.prog.cellsOf 9 = 1 := by kernel_rfl
  have h3 : Try.prog.cellsOf 51 = 1 := by kernel_rfl
  rw [hc] at hl
  obtain ⟨a, b, rfl⟩ : ∃ a b, cs = [a, b] := by
    match cs, hl with
    | [a, b], _ => exact ⟨a, b, rfl⟩
  obtain ⟨y0, y1, rfl⟩ : ∃ y0 y1, xs = [y0, y1] := by
    match xs, hlen with
    | [y0, y1], _ => exact ⟨y0, y1, rfl⟩
  have g0 : DataW.trod enc Try.prog w base sp held n 9 (List.take (Try.prog.cellsOf 9) (List.drop 0 [a, b])) = some y0 := hf 0 _ rfl
  have g1 : DataW.trod enc Try.prog w base sp held n 51 (List.take (Try.prog.cellsOf 51) (List.drop 1 [a, b])) = some y1 := hf 1 _ rfl
  rw [h9] at g0
  rw [h3] at g1
  obtain ⟨s0, e0, _⟩ := trod_string Try.underlying9 g0
  obtain ⟨A, c, l, hcs, hlc, hC⟩ := tells_row Try.underlying51 (by kernel_rfl) tells24 g1
  obtain rfl : a = _ := by simpa using e0
  obtain rfl : b = _ := by simpa using hcs
  exact ⟨⟨s0, l⟩, k53_mk w ⟨s0, l⟩ hlc hC⟩
set_option maxRecDepth 100000 in
theorem tells69 : Tells H enc Try.prog base sp held k69 69 := by
  intro w fuel cs x h
  obtain ⟨xs, n, _, rfl, hl, hlen, hf⟩ := DataW.trod_struct Try.underlying69 h
  have hc : Try.prog.cellsOf 69 = 2 := by kernel_rfl
  have h9 : Try.prog.cellsOf 9 = 1 := by kernel_rfl
  have h3 : Try.prog.cellsOf 67 = 1 := by kernel_rfl
  rw [hc] at hl
  obtain ⟨a, b, rfl⟩ : ∃ a b, cs = [a, b] := by
    match cs, hl with
    | [a, b], _ => exact ⟨a, b, rfl⟩
  obtain ⟨y0, y1, rfl⟩ : ∃ y0 y1, xs = [y0, y1] := by
    match xs, hlen with
    | [y0, y1], _ => exact ⟨y0, y1, rfl⟩
  have g0 : DataW.trod enc Try.prog w base sp held n 9 (List.take (Try.prog.cellsOf 9) (List.drop 0 [a, b])) = some y0 := hf 0 _ rfl
  have g1 : DataW.trod enc Try.prog w base sp held n 67 (List.take (Try.prog.cellsOf 67) (List.drop 1 [a, b])) = some y1 := hf 1 _ rfl
  rw [h9] at g0
  rw [h3] at g1
  obtain ⟨s0, e0, _⟩ := trod_string Try.underlying9 g0
  obtain ⟨A, c, l, hcs, hlc, hC⟩ := tells_row Try.underlying67 (by kernel_rfl) tells77 g1
  obtain rfl : a = _ := by simpa using e0
  obtain rfl : b = _ := by simpa using hcs
  exact ⟨⟨s0, l⟩, k69_mk w ⟨s0, l⟩ hlc hC⟩
end Go.Proofs.Ytghommaokdhjmaa.Open
/- SetsDrop's plain law: the printed function answers true from some number of rounds on; no condition. -/
set_option linter.unusedVariables false
set_option linter.unusedSimpArgs false
namespace Go.Proofs.Ytghommaokdhjmaa.Pure
open Go.RowKit Go.Lib Go.Proofs.YtghommaokdhjmaaW.PrintWords Go.Proofs.Ytghommaokdhjmaa.P Go.Proofs.Ytghommaokdhjmaa.Str Go.Proofs.Ytghommaokdhjmaa.CmpF Go.Proofs.Ytghommaokdhjmaa.Fct Go.Proofs.Ytghommaokdhjmaa.FactC Go.Proofs.Ytghommaokdhjmaa.SetsW Go.Proofs.Ytghommaokdhjmaa.PSets Go.Proofs.Ytghommaokdhjmaa.RefS
/-- A set without one. -/
def off (l : List S53) (y : S53) : List S53 := l.filter fun x => !(cf53 x y == 0)
theorem off_mem {l : List S53} {x y : S53} : x ∈ off l y ↔ x ∈ l ∧ x ≠ y := by
  unfold off
  rw [List.mem_filter]
  constructor
  · rintro ⟨h1, h2⟩
    refine ⟨h1, fun e => ?_⟩
    subst e
    rw [ord53.self] at h2
    exact absurd h2 (by decide)
  · rintro ⟨h1, h2⟩
    refine ⟨h1, ?_⟩
    have : ¬ cf53 x y = 0 := fun e => h2 (ord53.zero x y e)
    simp [this]
theorem off_set {l : List S53} {y : S53} (h : IsSet l) : IsSet (off l y) := ⟨List.any_eq_false.2 fun x hx => List.any_eq_false.1 h.1 x (off_mem.1 hx).1, h.2.filter _⟩
theorem off_fit {l : List S53} {y : S53} (h : fitL l = true) : fitL (off l y) = true := fitL_iff.2 ⟨fun x hx => (fitL_iff.1 h).1 x (off_mem.1 hx).1, Nat.le_trans (List.length_filter_le _ _) (fitL_iff.1 h).2⟩
theorem off_same {l m : List S53} {y : S53} (hl : IsSet l) (hm : IsSet m) (h : ∀ x, x ≠ y → (x ∈ l ↔ x ∈ m)) : off l y = off m y :=
  strict_one ord53 _ _ (off_set hl).2 (off_set hm).2 fun x => by
    rw [off_mem, off_mem]
    constructor
    · rintro ⟨h1, h2⟩; exact ⟨(h x h2).1 h1, h2⟩
    · rintro ⟨h1, h2⟩; exact ⟨(h x h2).2 h1, h2⟩
theorem off_none {l : List S53} {y : S53} (hl : IsSet l) (h : y ∉ l) : off l y = l :=
  strict_one ord53 _ _ (off_set hl).2 hl.2 fun x => by
    rw [off_mem]
    exact ⟨fun h => h.1, fun h1 => ⟨h1, fun e => h (e ▸ h1)⟩⟩
theorem drop_eq {l : List S53} {y : S53} (hl : fitL l = true) (hy : fitX y = true) (h : IsSet l) (hw : wrongF y = false) : sets_Drop.f l y.f0 y.f1 = some (off l y, 0) := by
  unfold sets_Drop.f
  rw [if_pos ⟨hl, hy⟩]
  have : chk2 l [y] = 0 := by
    unfold chk2
    rw [if_pos ⟨(chkF_zero l).2 h, (chkF_zero [y]).2 ⟨by simp [hw], List.pairwise_singleton _ _⟩⟩]
  show some (if chk2 l [y] = 0 then ((setO cf53 l).filter fun x => !(cf53 x y == 0), (0 : Int)) else ([], 1)) = _
  rw [if_pos this, set_own h]
  rfl
theorem setsDrop (l : List S53) (a1 : ByteArray) (l1 : List S24) (a2 : ByteArray) (l2 : List S24) : ∃ k, constablelaw04_SetsDrop.f k l a1 l1 a2 l2 = some true := by
  refine Ev.rounds ?_
  unfold constablelaw04_SetsDrop.f
  rcases many_cases l with h | ⟨h, h60, hs⟩
  · exact Ev.bind h (by simp only [if_true]; exact Ev.now _)
  refine Ev.bind h ?_
  simp only [Bool.false_eq_true, if_false]
  have hl := small_fits h60 hs
  rcases heavy_cases a1 l1 with h1 | ⟨h1, hs1⟩
  · exact Ev.bind h1 (by simp only [if_true]; exact Ev.now _)
  refine Ev.bind h1 ?_
  simp only [Bool.false_eq_true, if_false]
  rcases heavy_cases a2 l2 with h2 | ⟨h2, hs2⟩
  · exact Ev.bind h2 (by simp only [if_true]; exact Ev.now _)
  refine Ev.bind h2 ?_
  simp only [Bool.false_eq_true, if_false]
  obtain ⟨y, hy⟩ : ∃ y : S53, y = ⟨a1, l1⟩ := ⟨_, rfl⟩
  obtain ⟨z, hz⟩ : ∃ z : S53, z = ⟨a2, l2⟩ := ⟨_, rfl⟩
  rw [← hy] at hs1
  rw [← hz] at hs2
  have fy := small_fit hs1
  have fz := small_fit hs2
  obtain ⟨rfl, rfl⟩ : y.f0 = a1 ∧ y.f1 = l1 := by rw [hy]; exact ⟨rfl, rfl⟩
  obtain ⟨rfl, rfl⟩ : z.f0 = a2 ∧ z.f1 = l2 := by rw [hz]; exact ⟨rfl, rfl⟩
  clear hy hz
  refine Ev.bind (ev_rset l hl) ?_
  by_cases hset : chkF l = 0
  · rw [hset, show ((0 : Int) == 0) = true from rfl]
    simp only [if_true]
    have hi : IsSet l := (chkF_zero l).1 hset
    refine Ev.bind (ev_rfact53 y fy) ?_
    cases hw : wrongF y with
    | true => simp only [Bool.not_true, Bool.false_eq_true, if_false]; exact Ev.now _
    | false =>
      simp only [Bool.not_false, if_true]
      have hf2 : fitL (l ++ [y]) = true := fitL_iff.2 ⟨fun x hx => by
        rcases List.mem_append.1 hx with h | h
        · exact (fitL_iff.1 hl).1 x h
        · rw [List.mem_singleton.1 h]; exact fy, by rw [List.length_append]; simp; omega⟩
      have hw2 : (l ++ [y]).any wrongF = false := by rw [List.any_append, hi.1]; simp [hw]
      have fa := set_fit hf2
      have sa := set_is hw2
      have ma : ∀ x, x ∈ setO cf53 (l ++ [y]) ↔ x ∈ l ∨ x = y := fun x => by rw [setO_mem ord53, List.mem_append, List.mem_singleton]
      simp only [put_eq hl fy hi hw, drop_eq hl fy hi hw, Option.bind_some, if_true]
      generalize setO cf53 (l ++ [y]) = a at fa sa ma
      have hbc : off a y = off l y := off_same sa hi fun x hx => by
        rw [ma]
        exact ⟨fun h => h.resolve_right hx, .inl⟩
      simp only [drop_eq fa fy sa hw, Option.bind_some, if_true, hbc]
      have fb := off_fit (y := y) hl
      rw [has_true fa ((ma y).2 (.inr rfl))]
      simp only [Option.bind_some, if_true]
      obtain ⟨b1, e1, m1⟩ := has_eq fb fy
      have hb1 : b1 = false := by
        cases b1
        · rfl
        · exact absurd rfl (off_mem.1 (m1.1 rfl)).2
      subst hb1
      rw [e1]
      simp only [Option.bind_some, Bool.false_eq_true, if_false]
      refine Ev.bind (facts_same _ fb) ?_
      simp only [if_true]
      obtain ⟨b2, e2, m2⟩ := fact_ev y z (fitX_iff.1 fy).2.2
      refine Ev.bind e2 ?_
      cases b2 with
      | true => exact Ev.now _
      | false =>
        have hyz : z ≠ y := fun e => by have := m2.2 e.symm; cases this
        simp only [Bool.false_eq_true, if_false]
        obtain ⟨b3, e3, m3⟩ := has_eq fa fz
        obtain ⟨b4, e4, m4⟩ := has_eq hl fz
        obtain ⟨b5, e5, m5⟩ := has_eq fb fz
        have h34 : b3 = b4 := by
          rw [Bool.eq_iff_iff, m3, m4, ma]
          exact ⟨fun h => h.resolve_right hyz, .inl⟩
        have h54 : b5 = b4 := by
          rw [Bool.eq_iff_iff, m5, m4, off_mem]
          exact ⟨fun h => h.1, fun h => ⟨h, hyz⟩⟩
        subst h34
        subst h54
        rw [e3, e4, e5]
        simp only [Option.bind_some, beq_self_eq_true, if_true]
        obtain ⟨b6, e6, m6⟩ := has_eq hl fy
        rw [e6]
        simp only [Option.bind_some]
        cases b6 with
        | true => exact Ev.now _
        | false =>
          simp only [Bool.false_eq_true, if_false]
          have hno : y ∉ l := fun h => by have := m6.2 h; cases this
          rw [off_none hi hno]
          refine Ev.bind (facts_same _ hl) ?_
          simp only [if_true]
          exact Ev.now _
  · rw [(chkF_one l).resolve_left hset, show ((1 : Int) == 0) = false from rfl]
    simp only [Bool.false_eq_true, if_false]
    exact Ev.now _
end Go.Proofs.Ytghommaokdhjmaa.Pure
/- The row of SetsDrop: whatever the input, true; out of the printed walk and the plain law. -/
namespace Go.Proofs.Ytghommaokdhjmaa.setsDrop
open Go.ChangeShapes Go.WideShapes Go.ChangeAt Go.RowKit Go.Proofs.YtghommaokdhjmaaW.PrintWords Go.Proofs.Ytghommaokdhjmaa.P Go.Proofs.Ytghommaokdhjmaa.Open
open Go.ChangeMaps (open_string shut_string)
set_option linter.unusedVariables false
theorem own : ownKnob Try.prog.godebug = none := by kernel_rfl
theorem laidOut : laidOutB Try.prog = true := by kernel_rfl
set_option maxRecDepth 100000 in
theorem lifted (os : Os) (started : os.Started) (H : Type) (enc : TypeId × Value → H) :
    ReturnsInHanded {} Try.checked os 8 .any (Rows.setsDropSpec.pre6 enc Try.prog Try.f8 Rows.setsDropRow.domain false) (Rows.setsDropSpec.post enc Try.prog Try.f8 false true false false) := by
  refine returnsInHanded_of_change_sized (C := Try.checked) own started (by kernel_rfl) Try.func8
    (ChangeSpec.witness6 (enc := enc) (C := Try.checked) false ⟨#[], #[.slice none 0 0, .agg #[.string ByteArray.empty, .slice none 0 0], .agg #[.string ByteArray.empty, .slice none 0 0]], []⟩ 8 (by kernel_rfl) (by kernel_rfl) (by kernel_rfl) (by kernel_rfl)) ?_
  intro W base args ds gs before hval0 hW hcnd hsz0 _
  have hval : ∀ (j : Nat) t v, Try.f8.params[j]? = some t → args[j]? = some v → Value.okWide Try.prog W .any base t v := hval0
  have hW' := hW
  obtain ⟨p, q, hA0, hV, rfl, hfz, hnd⟩ := hW
  have hA : DataW.TrodAll enc Try.prog W 0 (fun _ => true) true Try.f8.params.toList args.toList ds p := hA0
  rw [Try.params8] at hA hval
  obtain ⟨v0, vs0, d0, ds0, p0, q0, hargs, rfl, rfl, h0, r0⟩ := trodAll_cons hA
  obtain ⟨v1, vs1, d1, ds1, p1, q1, rfl, rfl, rfl, h1, r1⟩ := trodAll_cons r0
  obtain ⟨v2, vs2, d2, ds2, p2, q2, rfl, rfl, rfl, h2, r2⟩ := trodAll_cons r1
  obtain ⟨rfl, rfl, rfl⟩ := trodAll_nil r2
  obtain rfl : args = #[v0, v1, v2] := by cases args; simp_all
  obtain ⟨rfl, rfl⟩ := trodVars_none hV
  obtain ⟨a0, len0, cap0, rfl⟩ := okWide_slice Try.underlying46 (hval 0 46 v0 rfl rfl)
  have k0 := h0
  have lt0 : ∀ x ∈ p0, x.block < W.heap.size := by obtain ⟨m, hm⟩ := k0; exact DataW.trod_lt m _ _ _ hm
  obtain ⟨l0, rfl, hc0, hr0⟩ : ∃ l : List S53, len0 = l.length ∧ l.length ≤ cap0 ∧ Kd.C k53 W a0 l.length l := by
    obtain ⟨fuel, hf⟩ := h0
    obtain ⟨A, c, l, hcs, hl, hC⟩ := tells_row Try.underlying46 (by kernel_rfl) tells53 hf
    simp [Value.cells] at hcs
    obtain ⟨rfl, rfl, rfl⟩ := hcs
    exact ⟨l, rfl, hl, hC⟩
  obtain ⟨u1, rfl, _⟩ := okWide_struct Try.underlying53 (hval 1 53 v1 rfl rfl)
  have k1 := h1
  have lt1 : ∀ x ∈ p1, x.block < W.heap.size := by obtain ⟨m, hm⟩ := k1; exact DataW.trod_lt m _ _ _ hm
  obtain ⟨x1, a1, cap1, rfl, hc1, hr1⟩ : ∃ (x : S53) (a : Option Addr) (c : Nat), u1 = #[.string x.f0, .slice a x.f1.length c] ∧ x.f1.length ≤ c ∧ Kd.C k24 W a x.f1.length x.f1 := by
    obtain ⟨fuel, hf⟩ := h1
    obtain ⟨p, hp⟩ := tells53 W _ _ _ hf
    obtain ⟨a, c, e, hl, hC⟩ := k53_open hp
    exact ⟨p, a, c, Array.toList_inj.1 (by simpa [Value.cells] using e), hl, hC⟩
  obtain ⟨u2, rfl, _⟩ := okWide_struct Try.underlying53 (hval 2 53 v2 rfl rfl)
  have k2 := h2
  have lt2 : ∀ x ∈ p2, x.block < W.heap.size := by obtain ⟨m, hm⟩ := k2; exact DataW.trod_lt m _ _ _ hm
  obtain ⟨x2, a2, cap2, rfl, hc2, hr2⟩ : ∃ (x : S53) (a : Option Addr) (c : Nat), u2 = #[.string x.f0, .slice a x.f1.length c] ∧ x.f1.length ≤ c ∧ Kd.C k24 W a x.f1.length x.f1 := by
    obtain ⟨fuel, hf⟩ := h2
    obtain ⟨p, hp⟩ := tells53 W _ _ _ hf
    obtain ⟨a, c, e, hl, hC⟩ := k53_open hp
    exact ⟨p, a, c, Array.toList_inj.1 (by simpa [Value.cells] using e), hl, hC⟩
  clear hA0 hval0 hsz0
  obtain ⟨kf, hkf⟩ := Pure.setsDrop l0 x1.f0 x1.f1 x2.f0 x2.f1
  refine (P.constablelaw04_SetsDrop.calls kf a0 cap0 l0 x1.f0 a1 cap1 x1.f1 x2.f0 a2 cap2 x2.f1 true W hr0 hc0 hr1 hc1 hr2 hc2 hkf).mono fun e W' ⟨he, bel⟩ => ?_
  subst he
  exact ⟨_, rfl, _, _, _, [], _, [], hW', trodAll_mk1 (shut_bool Try.underlying4 _), (trodAll_cons_mk (Below.trod laidOut (by kernel_rfl) (of_decide_eq_true (by kernel_rfl)) k0 bel lt0) (trodAll_cons_mk (Below.trod laidOut (by kernel_rfl) (of_decide_eq_true (by kernel_rfl)) k1 bel lt1) (trodAll_cons_mk (Below.trod laidOut (by kernel_rfl) (of_decide_eq_true (by kernel_rfl)) k2 bel lt2) trodAll_mk0))), rfl, bel.frame _, fun h => by cases h⟩
theorem over : Rows.setsDropRow.holds Try.pinned (OpenSpec.ofChange Rows.setsDropSpec) :=
  OpenClaim.holds_of_wide 8 Try.f8 rfl rfl rfl rfl rfl rfl rfl ⟨rfl, rfl, rfl, rfl, rfl⟩ rfl rfl rfl rfl rfl (by kernel_rfl) Try.func8 (by kernel_rfl)
    (of_decide_eq_true (by kernel_rfl)) (by unfold Func.isWrapper; first | (rw [if_pos (by decide +kernel)]; kernel_rfl) | (rw [if_neg (by decide +kernel)]; exact ⟨rfl, rfl⟩))
    (fun os started H enc _ => lifted os started H enc)
theorem proved : Rows.SetsDropSaid := over
end Go.Proofs.Ytghommaokdhjmaa.setsDrop
namespace Go.Proofs.Ytghommaokdhjmaa
/-- The row, under a short name, for the claim. -/
theorem setsDrop_holds : Rows.SetsDropSaid := setsDrop.proved
#print axioms setsDrop_holds
end Go.Proofs.Ytghommaokdhjmaa
