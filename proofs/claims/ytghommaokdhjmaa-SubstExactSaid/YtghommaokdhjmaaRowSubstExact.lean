/- The row of SubstExact, and what it rests on; no condition. -/
import Derived.Test.YtghommaokdhjmaaSFC2
import Derived.Test.YtghommaokdhjmaaRows
import Derived.WalkKit
import Derived.ProofKit
import Derived.OpenShut
import Derived.ShutString
import Derived.ChangeOld
import Derived.Below
import Derived.SizedLaws
namespace Go.Proofs.Ytghommaokdhjmaa.P
open Go.RowKit Go.Proofs.YtghommaokdhjmaaW.PrintWords Go.Proofs.YtghommaokdhjmaaW.PrintLast Go.Proofs.YtghommaokdhjmaaW.PrintMore Go.Proofs.Ytghommaokdhjmaa.Gate
set_option linter.unusedVariables false
set_option linter.unusedSimpArgs false

/-! ### constablekeep_TwinBinds: function 16 -/
def constablekeep_TwinBinds.f (l0 : List (S39)) : Option ((List (S39))) := if ([] : List (S39)).length + l0.length < 2932031007402 then (some (([] : List (S39)) ++ l0)) else (none)
set_option maxHeartbeats 8000000 in
set_option maxRecDepth 100000 in
theorem constablekeep_TwinBinds.calls (A0 : Option Addr) (c0 : Nat) (l0 : List (S39)) (r : List (S39)) (w : World) (hr0 : Kd.C k39 w A0 l0.length l0) (hc0 : l0.length ≤ c0) (h : constablekeep_TwinBinds.f l0 = some r) :
  Calls Try.prog 16 #[.slice A0 l0.length c0] w fun e w' => ∃ v0_ : Value, e = .returned (v0_) ∧ Kd.R k39 39 w' w.heap.size (fun _ => True) v0_ r ∧ Below w.heap.size w w' := by
 have HR0 := Aside0.mk hr0
 have HC0 := Aside0.mk hc0
 clear hr0 hc0
 have HB := Aside0.mk (Below.refl w.heap.size w)
 have H : (if ([] : List (S39)).length + l0.length < 2932031007402 then (some (([] : List (S39)) ++ l0)) else (none)) = some r := h
 clear h
 by_cases c2 : ([] : List (S39)).length + l0.length < 2932031007402
 ·rw [if_pos c2] at H
  have LMc2 := Aside0.mk c2
  clear c2
  obtain ⟨y103, hy103⟩ : ∃ y_ : List (S39), y_ = (([] : List (S39)) ++ l0) := ⟨_, rfl⟩
  replace H : (some y103) = some r := by first | (rw [hy103]; with_reducible exact H) | (have H2_ := (Option.bind_some _ _).symm.trans H; rw [hy103]; with_reducible exact H2_) | (have H2_ := (Option.bind_some _ _).symm.trans H; with_reducible exact H2_) | with_reducible exact H | (rw [hy103]; exact H) | exact H
  have Ny103 := Aside0.mk hy103
  clear hy103
  obtain rfl := Option.some.inj H
  go_enter Try.func16, Try.ntmps16
  go_wp2_with (first | ((with_reducible refine gate_builtin (b := .append) (xs := #[.tmp 4, .tmp 5]) rfl ?_); at_builtin; refine Kd.R_append_rows k39 (w0 := w) w.heap.size rfl (.tmp 4) (.tmp 5) 22 39 (.agg #[(.string ⟨#[]⟩), (.int .i64 0), (.int .i64 0), (.string ⟨#[]⟩)]) 48 rfl Try.underlying22 info39 rfl (by decide) (by omega) (.slice none 0 0) ([] : List (S39)) l0 _ _ _ (fun _ => True) (fun _ => False) rfl rfl ?aO ?aR (fun _ _ h => h) (fun _ h => h.elim) ?aF ?aB ?aS ?aL ?_; (case aR => exact sC HR0.out); (case aB => exact bB0); (case aF => exact (fun _ _ => trivial)); (case aO => exact ((Kd.R_nil _ _ _ _ (fun _ => True)))); (case aS => exact (below_size bB0)); (case aL => have := LMc2.out; omega); intro v104 w3 ho hb hg hat; rw [← Ny103.out] at ho; have n0_ := Aside0.mk (hb); have n1_ := Aside0.mk (ho); clear HB; have HB := n0_; have HO105 := n1_; clear n0_ n1_; clear ho hb hg hat))
  go_ret
  exact ⟨_, eW, by (with_reducible repeat (first | apply Kd.R_alloc | apply Kd.R_drewN | apply Kd.R_drew)); exact HO105.out, bB0⟩
 ·rw [if_neg c2] at H
  exact absurd H (by simp)

end Go.Proofs.Ytghommaokdhjmaa.P
namespace Go.Proofs.Ytghommaokdhjmaa.P
open Go.RowKit Go.Proofs.YtghommaokdhjmaaW.PrintWords Go.Proofs.YtghommaokdhjmaaW.PrintLast Go.Proofs.YtghommaokdhjmaaW.PrintMore Go.Proofs.Ytghommaokdhjmaa.Gate
set_option linter.unusedVariables false
set_option linter.unusedSimpArgs false

attribute [local go_sem high] eqA24
/-! ### constablelaw05_SubstExact: function 3 -/
mutual
def constablelaw05_SubstExact.j0 : Nat → List (S39) → List (S39) → ByteArray → Bool → Int → Int → ByteArray → Option (Bool)
 | 0, _, _, _, _, _, _, _ => none
 | k + 1, x0, x1, x2, x38, x226000, x226001, x226002 => if x38 = true then (some true) else ((constablekeep_TwinBinds.f x0).bind fun t228 => ((subst_Get.f k t228 x2).bind fun bt231 => ((constableref01_Get.f k x0 x2).bind fun bt236 => ((subst_Put.f k t228 x2 x226000 x226001 x226002).bind fun bt241 => ((subst_Both.f t228 x1).bind fun bt245 => ((subst_Var.f k x2).bind fun t249 => ((constableref01_Word.f k x2 true).bind fun t250 => (if (t249 != t250) = true then (constablelaw05_SubstExact.j1 k x0 x1 x2 t228 bt241.1 bt241.2 bt245.1 bt245.2 true x226000 x226001 x226002) else (if (!(bt231.1 == bt236.1) || (!(bt231.2.1 == bt236.2.1) || (!(bt231.2.2.1.toList == bt236.2.2.1.toList)))) = true then (constablelaw05_SubstExact.j1 k x0 x1 x2 t228 bt241.1 bt241.2 bt245.1 bt245.2 true x226000 x226001 x226002) else (if (bt231.2.2.2 != bt236.2.2.2) = true then (constablelaw05_SubstExact.j1 k x0 x1 x2 t228 bt241.1 bt241.2 bt245.1 bt245.2 true x226000 x226001 x226002) else ((constablekeep_Binds.f k t228 x0).bind fun t251 => (constablelaw05_SubstExact.j1 k x0 x1 x2 t228 bt241.1 bt241.2 bt245.1 bt245.2 (!t251) x226000 x226001 x226002))))))))))))
def constablelaw05_SubstExact.j1 : Nat → List (S39) → List (S39) → ByteArray → List (S39) → List (S39) → Bool → List (S39) → Bool → Bool → Int → Int → ByteArray → Option (Bool)
 | 0, _, _, _, _, _, _, _, _, _, _, _, _ => none
 | k + 1, x0, x1, x2, x9, x14, x15, x16, x17, x86, x226000, x226001, x226002 => if x86 = true then (none) else ((constableref01_Binds.f k x0).bind fun t252 => ((subst_Check.f k x9).bind fun t253 => (if ((t253 == 0) != t252) = true then (constablelaw05_SubstExact.j2 k x0 x1 x2 x14 x15 x16 x17 t252 true x226000 x226001 x226002) else (if t252 = true then (constablelaw05_SubstExact.j2 k x0 x1 x2 x14 x15 x16 x17 t252 false x226000 x226001 x226002) else ((subst_Check.f k x9).bind fun t254 => (constablelaw05_SubstExact.j2 k x0 x1 x2 x14 x15 x16 x17 t252 (t254 != 1) x226000 x226001 x226002))))))
def constablelaw05_SubstExact.j2 : Nat → List (S39) → List (S39) → ByteArray → List (S39) → Bool → List (S39) → Bool → Bool → Bool → Int → Int → ByteArray → Option (Bool)
 | 0, _, _, _, _, _, _, _, _, _, _, _, _ => none
 | k + 1, x0, x1, x2, x14, x15, x16, x17, x18, x102, x226000, x226001, x226002 => if x102 = true then (none) else (if x18 = true then ((constableref01_Word.f k x2 true).bind fun t255 => (if t255 = true then ((constableref01_Value.f k x226000 x226001 x226002).bind fun t256 => (constablelaw05_SubstExact.j3 k x0 x1 x2 x14 x15 x16 x17 x18 ([] : List (S39)) t256 x226000 x226001 x226002)) else (constablelaw05_SubstExact.j3 k x0 x1 x2 x14 x15 x16 x17 x18 ([] : List (S39)) false x226000 x226001 x226002))) else (constablelaw05_SubstExact.j3 k x0 x1 x2 x14 x15 x16 x17 x18 ([] : List (S39)) false x226000 x226001 x226002))
def constablelaw05_SubstExact.j3 : Nat → List (S39) → List (S39) → ByteArray → List (S39) → Bool → List (S39) → Bool → Bool → List (S39) → Bool → Int → Int → ByteArray → Option (Bool)
 | 0, _, _, _, _, _, _, _, _, _, _, _, _, _ => none
 | k + 1, x0, x1, x2, x14, x15, x16, x17, x18, x19, x20, x226000, x226001, x226002 => if x20 = true then ((constableref01_Bind.f k x0 x2 x226000 x226001 x226002).bind fun bt257 => (constablelaw05_SubstExact.j4 k x0 x1 x14 x15 x16 x17 x18 bt257.1 bt257.2)) else (constablelaw05_SubstExact.j4 k x0 x1 x14 x15 x16 x17 x18 x19 x20)
def constablelaw05_SubstExact.j4 : Nat → List (S39) → List (S39) → List (S39) → Bool → List (S39) → Bool → Bool → List (S39) → Bool → Option (Bool)
 | 0, _, _, _, _, _, _, _, _, _ => none
 | k + 1, x0, x1, x14, x15, x16, x17, x18, x19, x20 => if (x15 != x20) = true then (constablelaw05_SubstExact.j5 k x0 x1 x16 x17 x18 true) else (if x20 = true then ((constablekeep_Binds.f k x14 x19).bind fun t261 => (constablelaw05_SubstExact.j5 k x0 x1 x16 x17 x18 (!t261))) else (if (x14.length : Int) > 0 then (constablelaw05_SubstExact.j5 k x0 x1 x16 x17 x18 true) else (constablelaw05_SubstExact.j5 k x0 x1 x16 x17 x18 false)))
def constablelaw05_SubstExact.j5 : Nat → List (S39) → List (S39) → List (S39) → Bool → Bool → Bool → Option (Bool)
 | 0, _, _, _, _, _, _ => none
 | k + 1, x0, x1, x16, x17, x18, x140 => if x140 = true then (none) else (if x18 = true then ((constableref01_Binds.f k x1).bind fun t262 => (constablelaw05_SubstExact.j6 k x1 x16 x17 x0 t262)) else (constablelaw05_SubstExact.j6 k x1 x16 x17 x0 false))
def constablelaw05_SubstExact.j6 : Nat → List (S39) → List (S39) → Bool → List (S39) → Bool → Option (Bool)
 | 0, _, _, _, _, _ => none
 | k + 1, x1, x16, x17, x19, x20 => constablelaw05_SubstExact.l0 k x1 x16 x17 x19 x20 0
def constablelaw05_SubstExact.l0 : Nat → List (S39) → List (S39) → Bool → List (S39) → Bool → Int → Option (Bool)
 | 0, _, _, _, _, _, _ => none
 | k + 1, x1, x16, x17, x19, x20, x21 => if x21 < (x1.length : Int) then (if x20 = true then (if 0 ≤ x21 then ((constableref01_Bind.f k x19 ((rd_T39 x1 x21).f0) ((rd_T39 x1 x21).f1.f0) ((rd_T39 x1 x21).f1.f1) ((rd_T39 x1 x21).f1.f2)).bind fun bt265 => (constablelaw05_SubstExact.l0 k x1 x16 x17 bt265.1 bt265.2 (wrap64 (x21 + 1)))) else (none)) else (if (x17 == x20) = true then (if (x16.length : Int) = 0 then ((constablelaw05_wakes.f k).bind fun t269 => (some t269)) else (none)) else (none))) else (if (x17 == x20) = true then (if x20 = true then ((constablekeep_Binds.f k x16 x19).bind fun t270 => (if t270 = true then ((constablelaw05_wakes.f k).bind fun t271 => (some t271)) else (none))) else (if (x16.length : Int) = 0 then ((constablelaw05_wakes.f k).bind fun t272 => (some t272)) else (none))) else (none))
end
def constablelaw05_SubstExact.f (k : Nat) (l0 : List (S39)) (l1 : List (S39)) (a2 : ByteArray) (a3_0 : Int) (a3_1 : Int) (a3_2 : ByteArray) : Option (Bool) := (constablelaw05_Heavy.f k l0).bind fun t226 => (if t226 = true then (constablelaw05_SubstExact.j0 k l0 l1 a2 true a3_0 a3_1 a3_2) else ((constablelaw05_Heavy.f k l1).bind fun t227 => (if t227 = true then (constablelaw05_SubstExact.j0 k l0 l1 a2 true a3_0 a3_1 a3_2) else (if (a2.size : Int) > 200 then (constablelaw05_SubstExact.j0 k l0 l1 a2 true a3_0 a3_1 a3_2) else (constablelaw05_SubstExact.j0 k l0 l1 a2 (decide ((a3_2.size : Int) > 200)) a3_0 a3_1 a3_2)))))
def constablelaw05_SubstExact.T23 : Bool × List (List Nat × List Nat) := (true, [([], []), ([], []), ([], []), ([1, 2], [1, 2]), ([3], [3]), ([4], [4]), ([], []), ([], []), ([6, 7], [6, 7]), ([8], [8]), ([9], [9]), ([0, 5, 10], [0, 5, 10]), ([11], [11]), ([12], [12]), ([12], [12]), ([13, 11, 0, 1, 2, 3, 4, 5, 6, 7, 8, 9, 10, 11, 12, 13], [0, 13]), ([14, 15, 0, 1, 2, 3, 4, 5, 6, 7, 8, 9, 10, 11, 12, 13, 14, 15], [14])])
def constablelaw05_SubstExact.B23 : List Nat := [0, 0, 0, 6, 14, 30, 0, 0, 192, 448, 960, 2047, 4095, 8191, 8191, 16383, 65535]
theorem constablelaw05_SubstExact.tab23 : rtab .any (opsOf Try.f3 23) = constablelaw05_SubstExact.T23 := by kernel_rfl
theorem constablelaw05_SubstExact.bits23 : waitsOk constablelaw05_SubstExact.T23.2 constablelaw05_SubstExact.B23 = true := by kernel_rfl
set_option maxHeartbeats 8000000 in
set_option maxRecDepth 100000 in
theorem constablelaw05_SubstExact.calls (k : Nat) (P0_ : Nat → Prop) (A0 : Option Addr) (c0 : Nat) (l0 : List (S39)) (A1 : Option Addr) (c1 : Nat) (l1 : List (S39)) (a2 : ByteArray) (a3_0 : Int) (a3_1 : Int) (a3_2 : ByteArray) (r : Bool) (w : World) (hs0 : Kd.V k39 39 w w.heap.size (fun k_ => P0_ k_) (.slice A0 l0.length c0) l0) (hr1 : Kd.C k39 w A1 l1.length l1) (hc1 : l1.length ≤ c1) (h : constablelaw05_SubstExact.f k l0 l1 a2 a3_0 a3_1 a3_2 = some r) :
  Calls Try.prog 3 #[.slice A0 l0.length c0, .slice A1 l1.length c1, .string a2, .agg #[.int .i64 a3_0, .int .i64 a3_1, .string a3_2]] w fun e w' => e = .returned (.bool r) ∧ Below w.heap.size w w' := by
 have hu24 := Try.underlying24
 have HO0 := Aside0.mk (show Kd.V k39 39 w w.heap.size (fun k_ => (P0_ k_ ∨ w.heap.size ≤ k_)) (.slice A0 l0.length c0) l0 from Kd.V_mono hs0 (fun k_ hk => .inl hk))
 have HR1 := Aside0.mk hr1
 have HC1 := Aside0.mk hc1
 clear hr1 hc1
 have HB := Aside0.mk (Below.refl w.heap.size w)
 have H : ((constablelaw05_Heavy.f k l0).bind fun t226 => (if t226 = true then (constablelaw05_SubstExact.j0 k l0 l1 a2 true a3_0 a3_1 a3_2) else ((constablelaw05_Heavy.f k l1).bind fun t227 => (if t227 = true then (constablelaw05_SubstExact.j0 k l0 l1 a2 true a3_0 a3_1 a3_2) else (if (a2.size : Int) > 200 then (constablelaw05_SubstExact.j0 k l0 l1 a2 true a3_0 a3_1 a3_2) else (constablelaw05_SubstExact.j0 k l0 l1 a2 (decide ((a3_2.size : Int) > 200)) a3_0 a3_1 a3_2)))))) = some r := h
 clear h
 have HC5 := Aside0.mk H
 clear H
 go_enter Try.func3, Try.ntmps3
 go_upto_region 1 with (first | ((with_reducible refine gate_dst (N := 7) rfl ?_); (try (refine gate_guard (by rfl) ?_; dsimp only)); refine bE (N := 7) (cs := #[.int .i64 a3_0, .int .i64 a3_1, .string a3_2]) (t := 24) ?_; intro gb225 hg w6 hbox hb; have n0_ := Aside0.mk (Kd.V_below (Kd.V_elderB (by (with_reducible repeat (first | apply Kd.V_alloc | apply Kd.V_drewN | apply Kd.V_drew)); exact HO0.out) gb225 (Nat.le_of_eq hg.symm)) hb); have n1_ := Aside0.mk (below_step bB0 hb); have n2_ := Aside0.mk (hbox); have n3_ := Aside0.mk ((by rw [hg]; exact (below_size bB0) : w.heap.size ≤ gb225)); have n4_ := Aside0.mk ((by rw [hg]; exact (below_size bB0) : w.heap.size ≤ gb225)); clear HO0; clear HB; have HO0 := n0_; have HB := n1_; have BK225 := n2_; have GW225 := n3_; have GE225 := n4_; clear n0_ n1_ n2_ n3_ n4_; clear hb hbox hg))
 (try simp only [Act.put, List.setIfInBounds_toArray, List.set_cons_zero, List.set_cons_succ])
 go_cut [38] (fun v38 wc => ∃ (kq : Nat) (x38_4 : Bool), v38 = .bool x38_4 ∧ Aside0 (constablelaw05_SubstExact.j0 kq l0 l1 a2 x38_4 a3_0 a3_1 a3_2 = some r) ∧ Aside0 (kq ≤ k) ∧ Aside0 (Kd.V k39 39 wc w.heap.size (fun k_ => (P0_ k_ ∨ w.heap.size ≤ k_) ∧ k_ ≠ gb225) (.slice A0 l0.length c0) l0) ∧ Aside0 (wc.heap[gb225]? = some (.cells #[.int .i64 a3_0, .int .i64 a3_1, .string a3_2] 24 (0, 0))) ∧ Aside0 (Below w.heap.size w wc))
 case first =>
  have H := HC5.out
  clear HC5
  replace H := Option.bind_eq_some_iff.mp H
  obtain ⟨t226, A70, H⟩ := H
  replace H : (if t226 = true then (constablelaw05_SubstExact.j0 k l0 l1 a2 true a3_0 a3_1 a3_2) else ((constablelaw05_Heavy.f k l1).bind fun t227 => (if t227 = true then (constablelaw05_SubstExact.j0 k l0 l1 a2 true a3_0 a3_1 a3_2) else (if (a2.size : Int) > 200 then (constablelaw05_SubstExact.j0 k l0 l1 a2 true a3_0 a3_1 a3_2) else (constablelaw05_SubstExact.j0 k l0 l1 a2 (decide ((a3_2.size : Int) > 200)) a3_0 a3_1 a3_2))))) = some r := H
  have A7 := Aside0.mk A70
  clear A70
  by_cases c8 : t226 = true
  ·subst c8
   have H1 : (constablelaw05_SubstExact.j0 k l0 l1 a2 true a3_0 a3_1 a3_2) = some r := by rw [if_pos rfl] at H; exact H
   clear H
   have H := H1
   clear H1
   have H' := Aside0.mk H
   clear H
   go_wp2_with (first | ((with_reducible refine gate_callee (f := 15) rfl ?_); refine goesL_ (some 23) rfl rfl Try.func15 (by kernel_rfl) rfl #[.slice A0 l0.length c0] rfl aG ?_; (with_reducible refine (constablelaw05_Heavy.calls k _ _ l0 true _ ?side1 ?side2 A7.out).mono ?_); (case side1 => exact sC (Kd.V_reads' HO0.out).2.2); (case side2 => exact (Kd.V_reads' HO0.out).2.1); rintro e w' ⟨rfl, ⟨nd, rfl⟩⟩; refine ⟨_, rfl, ?_⟩))
   go_meet
   case rel => exact ⟨_, (true), (by first | rfl | (simp; done) | (simp [*]; done)), H', ⟨by first | exact Nat.le_refl _ | omega⟩, ⟨by (with_reducible repeat (first | apply Kd.V_alloc | apply Kd.V_drewN | apply Kd.V_drew)); exact HO0.out⟩, ⟨by refine bk ?_; exact BK225.out⟩, ⟨(bB1 GE225.out)⟩⟩
  ·replace c8 := Bool.eq_false_iff.mpr c8
   subst c8
   have H1 : ((constablelaw05_Heavy.f k l1).bind fun t227 => (if t227 = true then (constablelaw05_SubstExact.j0 k l0 l1 a2 true a3_0 a3_1 a3_2) else (if (a2.size : Int) > 200 then (constablelaw05_SubstExact.j0 k l0 l1 a2 true a3_0 a3_1 a3_2) else (constablelaw05_SubstExact.j0 k l0 l1 a2 (decide ((a3_2.size : Int) > 200)) a3_0 a3_1 a3_2)))) = some r := by rw [if_neg (show ¬ (false = true) by decide)] at H; exact H
   clear H
   have H := H1
   clear H1
   replace H := Option.bind_eq_some_iff.mp H
   obtain ⟨t227, A90, H⟩ := H
   replace H : (if t227 = true then (constablelaw05_SubstExact.j0 k l0 l1 a2 true a3_0 a3_1 a3_2) else (if (a2.size : Int) > 200 then (constablelaw05_SubstExact.j0 k l0 l1 a2 true a3_0 a3_1 a3_2) else (constablelaw05_SubstExact.j0 k l0 l1 a2 (decide ((a3_2.size : Int) > 200)) a3_0 a3_1 a3_2))) = some r := H
   have A9 := Aside0.mk A90
   clear A90
   by_cases c10 : t227 = true
   ·subst c10
    have H1 : (constablelaw05_SubstExact.j0 k l0 l1 a2 true a3_0 a3_1 a3_2) = some r := by rw [if_pos rfl] at H; exact H
    clear H
    have H := H1
    clear H1
    have H' := Aside0.mk H
    clear H
    go_wp2_with (first | ((with_reducible refine gate_callee (f := 15) rfl ?_); refine goesL_ (some 23) rfl rfl Try.func15 (by kernel_rfl) rfl #[.slice A0 l0.length c0] rfl aG ?_; (with_reducible refine (constablelaw05_Heavy.calls k _ _ l0 false _ ?side1 ?side2 A7.out).mono ?_); (case side1 => exact sC (Kd.V_reads' HO0.out).2.2); (case side2 => exact (Kd.V_reads' HO0.out).2.1); rintro e w' ⟨rfl, ⟨nd, rfl⟩⟩; refine ⟨_, rfl, ?_⟩) | (go_at_call 15; (with_reducible refine (constablelaw05_Heavy.calls k _ _ l1 true _ ?side1 ?side2 A9.out).mono ?_); (case side1 => exact sC (Kd.C_below HR1.out (bB1 GE225.out))); (case side2 => exact HC1.out); rintro e w' ⟨rfl, ⟨nd, rfl⟩⟩))
    go_meet
    case rel => exact ⟨_, (true), (by first | rfl | (simp; done) | (simp [*]; done)), H', ⟨by first | exact Nat.le_refl _ | omega⟩, ⟨by (with_reducible repeat (first | apply Kd.V_alloc | apply Kd.V_drewN | apply Kd.V_drew)); exact HO0.out⟩, ⟨by refine bk ?_; exact BK225.out⟩, ⟨(bB1 GE225.out)⟩⟩
   ·replace c10 := Bool.eq_false_iff.mpr c10
    subst c10
    have H1 : (if (a2.size : Int) > 200 then (constablelaw05_SubstExact.j0 k l0 l1 a2 true a3_0 a3_1 a3_2) else (constablelaw05_SubstExact.j0 k l0 l1 a2 (decide ((a3_2.size : Int) > 200)) a3_0 a3_1 a3_2)) = some r := by rw [if_neg (show ¬ (false = true) by decide)] at H; exact H
    clear H
    have H := H1
    clear H1
    by_cases c11 : (a2.size : Int) > 200
    ·rw [if_pos c11] at H
     have c11b0 : decide (200 < (a2.size : Int)) = true := decide_eq_true c11
     have c11b1 : decide (200 < a2.size) = true := decide_eq_true (by omega)
     clear c11
     (first | rw [c11b0] | (simp only [i64_w, i32_w]; rw [c11b0]) | skip)
     have H' := Aside0.mk H
     clear H
     go_wp2_with (first | ((with_reducible refine gate_callee (f := 15) rfl ?_); refine goesL_ (some 23) rfl rfl Try.func15 (by kernel_rfl) rfl #[.slice A0 l0.length c0] rfl aG ?_; (with_reducible refine (constablelaw05_Heavy.calls k _ _ l0 false _ ?side1 ?side2 A7.out).mono ?_); (case side1 => exact sC (Kd.V_reads' HO0.out).2.2); (case side2 => exact (Kd.V_reads' HO0.out).2.1); rintro e w' ⟨rfl, ⟨nd, rfl⟩⟩; refine ⟨_, rfl, ?_⟩) | (go_at_call 15; (with_reducible refine (constablelaw05_Heavy.calls k _ _ l1 false _ ?side1 ?side2 A9.out).mono ?_); (case side1 => exact sC (Kd.C_below HR1.out (bB1 GE225.out))); (case side2 => exact HC1.out); rintro e w' ⟨rfl, ⟨nd, rfl⟩⟩))
     go_meet
     case rel => exact ⟨_, (true), (by first | rfl | (simp; done) | (simp [*]; done)), H', ⟨by first | exact Nat.le_refl _ | omega⟩, ⟨by (with_reducible repeat (first | apply Kd.V_alloc | apply Kd.V_drewN | apply Kd.V_drew)); exact HO0.out⟩, ⟨by refine bk ?_; exact BK225.out⟩, ⟨(bB1 GE225.out)⟩⟩
    ·rw [if_neg c11] at H
     have c11b0 : decide (200 < (a2.size : Int)) = false := decide_eq_false c11
     have c11b1 : decide (200 < a2.size) = false := decide_eq_false (by omega)
     clear c11
     (first | rw [c11b0] | (simp only [i64_w, i32_w]; rw [c11b0]) | skip)
     have H' := Aside0.mk H
     clear H
     go_wp2_with (first | ((with_reducible refine gate_callee (f := 15) rfl ?_); refine goesL_ (some 23) rfl rfl Try.func15 (by kernel_rfl) rfl #[.slice A0 l0.length c0] rfl aG ?_; (with_reducible refine (constablelaw05_Heavy.calls k _ _ l0 false _ ?side1 ?side2 A7.out).mono ?_); (case side1 => exact sC (Kd.V_reads' HO0.out).2.2); (case side2 => exact (Kd.V_reads' HO0.out).2.1); rintro e w' ⟨rfl, ⟨nd, rfl⟩⟩; refine ⟨_, rfl, ?_⟩) | (go_at_call 15; (with_reducible refine (constablelaw05_Heavy.calls k _ _ l1 false _ ?side1 ?side2 A9.out).mono ?_); (case side1 => exact sC (Kd.C_below HR1.out (bB1 GE225.out))); (case side2 => exact HC1.out); rintro e w' ⟨rfl, ⟨nd, rfl⟩⟩; have hcz12_0 : w6.cell? ⟨gb225, 0, none⟩ = some (.int .i64 a3_0) := (blk_cell BK225.out 0).trans rfl; have hcz12_1 : w6.cell? ⟨gb225, 1, none⟩ = some (.int .i64 a3_1) := (blk_cell BK225.out 1).trans rfl; have hcz12_2 : w6.cell? ⟨gb225, 2, none⟩ = some (.string a3_2) := (blk_cell BK225.out 2).trans rfl; have hfz12_0 := blk_frozen BK225.out 0; have hfz12_1 := blk_frozen BK225.out 1; have hfz12_2 := blk_frozen BK225.out 2))
     go_meet
     case rel => exact ⟨_, (decide ((a3_2.size : Int) > 200)), (by first | rfl | (simp; done) | (simp [*]; done)), H', ⟨by first | exact Nat.le_refl _ | omega⟩, ⟨by (with_reducible repeat (first | apply Kd.V_alloc | apply Kd.V_drewN | apply Kd.V_drew)); exact HO0.out⟩, ⟨by refine bk ?_; exact BK225.out⟩, ⟨(bB1 GE225.out)⟩⟩
 case rest => as_aux_lemma =>
  clear HC5
  (try clear c1); (try clear p2); (try clear c3); (try clear c8); (try clear c10); (try clear c11); (try clear c11b0); (try clear c11b1); (try clear hcz12_0); (try clear hcz12_1); (try clear hcz12_2); (try clear hfz12_0); (try clear hfz12_1); (try clear hfz12_2)
  obtain ⟨kq, x38_4, rfl, HA, HJ4, HO_0, BK225, HB⟩ := hcut
  cases kq with
  | zero => exact absurd HA.out (by simp [constablelaw05_SubstExact.j0])
  | succ kj4 =>
   have H := HA.out
   clear HA
   simp only [constablelaw05_SubstExact.j0] at H
   by_cases c13 : x38_4 = true
   ·subst c13
    have H1 : (some true) = some r := by rw [if_pos rfl] at H; exact H
    clear H
    have H := H1
    clear H1
    obtain rfl := Option.some.inj H
    go_wp2
    go_ret
    exact ⟨eW, (bB1 GE225.out)⟩
   ·replace c13 := Bool.eq_false_iff.mpr c13
    subst c13
    have H1 : ((constablekeep_TwinBinds.f l0).bind fun t228 => ((subst_Get.f kj4 t228 a2).bind fun bt231 => ((constableref01_Get.f kj4 l0 a2).bind fun bt236 => ((subst_Put.f kj4 t228 a2 a3_0 a3_1 a3_2).bind fun bt241 => ((subst_Both.f t228 l1).bind fun bt245 => ((subst_Var.f kj4 a2).bind fun t249 => ((constableref01_Word.f kj4 a2 true).bind fun t250 => (if (t249 != t250) = true then (constablelaw05_SubstExact.j1 kj4 l0 l1 a2 t228 bt241.1 bt241.2 bt245.1 bt245.2 true a3_0 a3_1 a3_2) else (if (!(bt231.1 == bt236.1) || (!(bt231.2.1 == bt236.2.1) || (!(bt231.2.2.1.toList == bt236.2.2.1.toList)))) = true then (constablelaw05_SubstExact.j1 kj4 l0 l1 a2 t228 bt241.1 bt241.2 bt245.1 bt245.2 true a3_0 a3_1 a3_2) else (if (bt231.2.2.2 != bt236.2.2.2) = true then (constablelaw05_SubstExact.j1 kj4 l0 l1 a2 t228 bt241.1 bt241.2 bt245.1 bt245.2 true a3_0 a3_1 a3_2) else ((constablekeep_Binds.f kj4 t228 l0).bind fun t251 => (constablelaw05_SubstExact.j1 kj4 l0 l1 a2 t228 bt241.1 bt241.2 bt245.1 bt245.2 (!t251) a3_0 a3_1 a3_2)))))))))))) = some r := by rw [if_neg (show ¬ (false = true) by decide)] at H; exact H
    clear H
    have H := H1
    clear H1
    replace H := Option.bind_eq_some_iff.mp H
    obtain ⟨t228, A140, H⟩ := H
    replace H : ((subst_Get.f kj4 t228 a2).bind fun bt231 => ((constableref01_Get.f kj4 l0 a2).bind fun bt236 => ((subst_Put.f kj4 t228 a2 a3_0 a3_1 a3_2).bind fun bt241 => ((subst_Both.f t228 l1).bind fun bt245 => ((subst_Var.f kj4 a2).bind fun t249 => ((constableref01_Word.f kj4 a2 true).bind fun t250 => (if (t249 != t250) = true then (constablelaw05_SubstExact.j1 kj4 l0 l1 a2 t228 bt241.1 bt241.2 bt245.1 bt245.2 true a3_0 a3_1 a3_2) else (if (!(bt231.1 == bt236.1) || (!(bt231.2.1 == bt236.2.1) || (!(bt231.2.2.1.toList == bt236.2.2.1.toList)))) = true then (constablelaw05_SubstExact.j1 kj4 l0 l1 a2 t228 bt241.1 bt241.2 bt245.1 bt245.2 true a3_0 a3_1 a3_2) else (if (bt231.2.2.2 != bt236.2.2.2) = true then (constablelaw05_SubstExact.j1 kj4 l0 l1 a2 t228 bt241.1 bt241.2 bt245.1 bt245.2 true a3_0 a3_1 a3_2) else ((constablekeep_Binds.f kj4 t228 l0).bind fun t251 => (constablelaw05_SubstExact.j1 kj4 l0 l1 a2 t228 bt241.1 bt241.2 bt245.1 bt245.2 (!t251) a3_0 a3_1 a3_2))))))))))) = some r := H
    have A14 := Aside0.mk A140
    clear A140
    replace H := Option.bind_eq_some_iff.mp H
    obtain ⟨⟨t231, t232, t233, t234⟩, A150, H⟩ := H
    replace H : ((constableref01_Get.f kj4 l0 a2).bind fun bt236 => ((subst_Put.f kj4 t228 a2 a3_0 a3_1 a3_2).bind fun bt241 => ((subst_Both.f t228 l1).bind fun bt245 => ((subst_Var.f kj4 a2).bind fun t249 => ((constableref01_Word.f kj4 a2 true).bind fun t250 => (if (t249 != t250) = true then (constablelaw05_SubstExact.j1 kj4 l0 l1 a2 t228 bt241.1 bt241.2 bt245.1 bt245.2 true a3_0 a3_1 a3_2) else (if (!(t231 == bt236.1) || (!(t232 == bt236.2.1) || (!(t233.toList == bt236.2.2.1.toList)))) = true then (constablelaw05_SubstExact.j1 kj4 l0 l1 a2 t228 bt241.1 bt241.2 bt245.1 bt245.2 true a3_0 a3_1 a3_2) else (if (t234 != bt236.2.2.2) = true then (constablelaw05_SubstExact.j1 kj4 l0 l1 a2 t228 bt241.1 bt241.2 bt245.1 bt245.2 true a3_0 a3_1 a3_2) else ((constablekeep_Binds.f kj4 t228 l0).bind fun t251 => (constablelaw05_SubstExact.j1 kj4 l0 l1 a2 t228 bt241.1 bt241.2 bt245.1 bt245.2 (!t251) a3_0 a3_1 a3_2)))))))))) = some r := H
    have A15 := Aside0.mk A150
    clear A150
    replace H := Option.bind_eq_some_iff.mp H
    obtain ⟨⟨t236, t237, t238, t239⟩, A160, H⟩ := H
    replace H : ((subst_Put.f kj4 t228 a2 a3_0 a3_1 a3_2).bind fun bt241 => ((subst_Both.f t228 l1).bind fun bt245 => ((subst_Var.f kj4 a2).bind fun t249 => ((constableref01_Word.f kj4 a2 true).bind fun t250 => (if (t249 != t250) = true then (constablelaw05_SubstExact.j1 kj4 l0 l1 a2 t228 bt241.1 bt241.2 bt245.1 bt245.2 true a3_0 a3_1 a3_2) else (if (!(t231 == t236) || (!(t232 == t237) || (!(t233.toList == t238.toList)))) = true then (constablelaw05_SubstExact.j1 kj4 l0 l1 a2 t228 bt241.1 bt241.2 bt245.1 bt245.2 true a3_0 a3_1 a3_2) else (if (t234 != t239) = true then (constablelaw05_SubstExact.j1 kj4 l0 l1 a2 t228 bt241.1 bt241.2 bt245.1 bt245.2 true a3_0 a3_1 a3_2) else ((constablekeep_Binds.f kj4 t228 l0).bind fun t251 => (constablelaw05_SubstExact.j1 kj4 l0 l1 a2 t228 bt241.1 bt241.2 bt245.1 bt245.2 (!t251) a3_0 a3_1 a3_2))))))))) = some r := H
    have A16 := Aside0.mk A160
    clear A160
    replace H := Option.bind_eq_some_iff.mp H
    obtain ⟨⟨t241, t244⟩, A170, H⟩ := H
    replace H : ((subst_Both.f t228 l1).bind fun bt245 => ((subst_Var.f kj4 a2).bind fun t249 => ((constableref01_Word.f kj4 a2 true).bind fun t250 => (if (t249 != t250) = true then (constablelaw05_SubstExact.j1 kj4 l0 l1 a2 t228 t241 t244 bt245.1 bt245.2 true a3_0 a3_1 a3_2) else (if (!(t231 == t236) || (!(t232 == t237) || (!(t233.toList == t238.toList)))) = true then (constablelaw05_SubstExact.j1 kj4 l0 l1 a2 t228 t241 t244 bt245.1 bt245.2 true a3_0 a3_1 a3_2) else (if (t234 != t239) = true then (constablelaw05_SubstExact.j1 kj4 l0 l1 a2 t228 t241 t244 bt245.1 bt245.2 true a3_0 a3_1 a3_2) else ((constablekeep_Binds.f kj4 t228 l0).bind fun t251 => (constablelaw05_SubstExact.j1 kj4 l0 l1 a2 t228 t241 t244 bt245.1 bt245.2 (!t251) a3_0 a3_1 a3_2)))))))) = some r := H
    have A17 := Aside0.mk A170
    clear A170
    replace H := Option.bind_eq_some_iff.mp H
    obtain ⟨⟨t245, t246⟩, A180, H⟩ := H
    replace H : ((subst_Var.f kj4 a2).bind fun t249 => ((constableref01_Word.f kj4 a2 true).bind fun t250 => (if (t249 != t250) = true then (constablelaw05_SubstExact.j1 kj4 l0 l1 a2 t228 t241 t244 t245 t246 true a3_0 a3_1 a3_2) else (if (!(t231 == t236) || (!(t232 == t237) || (!(t233.toList == t238.toList)))) = true then (constablelaw05_SubstExact.j1 kj4 l0 l1 a2 t228 t241 t244 t245 t246 true a3_0 a3_1 a3_2) else (if (t234 != t239) = true then (constablelaw05_SubstExact.j1 kj4 l0 l1 a2 t228 t241 t244 t245 t246 true a3_0 a3_1 a3_2) else ((constablekeep_Binds.f kj4 t228 l0).bind fun t251 => (constablelaw05_SubstExact.j1 kj4 l0 l1 a2 t228 t241 t244 t245 t246 (!t251) a3_0 a3_1 a3_2))))))) = some r := H
    have A18 := Aside0.mk A180
    clear A180
    have HC19 := Aside0.mk H
    clear H
    go_upto_region 8 with (first | ((with_reducible refine gate_callee (f := 16) rfl ?_); refine goesL_ (some 40) rfl rfl Try.func16 (by kernel_rfl) rfl #[.slice A0 l0.length c0] rfl aG ?_; (with_reducible refine (constablekeep_TwinBinds.calls _ _ l0 t228 _ ?side1 ?side2 A14.out).mono ?_); (case side1 => exact sC (Kd.V_reads' HO_0.out).2.2); (case side2 => exact (Kd.V_reads' HO_0.out).2.1); rintro e w20 ⟨v229, rfl, ho0, hb⟩; refine ⟨_, rfl, ?_⟩; have n0_ := Aside0.mk (Kd.V_elder' (by (with_reducible repeat (first | apply Kd.V_alloc | apply Kd.V_drewN | apply Kd.V_drew)); exact HO_0.out) (Kd.R_base ho0) hb); have n1_ := Aside0.mk (Kd.R_lower (Kd.R_newM (M := fun k_ => (w.heap.size ≤ k_)) ho0 (below_size (bB1 GE225.out)) (fun k_ h_ => h_)) (below_size (bB1 GE225.out))); have n2_ := Aside0.mk (blk_below (g := gb225) (o := .cells #[.int .i64 a3_0, .int .i64 a3_1, .string a3_2] 24 (0, 0)) (by refine bk ?_; exact BK225.out) hb); have n3_ := Aside0.mk (below_step (bB1 GE225.out) hb); clear HO_0; clear BK225; clear HB; have HO_0 := n0_; have HO230 := n1_; have BK225 := n2_; have HB := n3_; clear n0_ n1_ n2_ n3_; (try clear hb); (try clear hb2); (try clear hk); (try clear hi); (try clear ho0); obtain ⟨Ao21, co21, eo21⟩ := Kd.R_slice HO230.out; subst eo21) | ((with_reducible refine gate_callee (f := 17) rfl ?_); refine goesL_ (some 44) rfl rfl Try.func17 (by kernel_rfl) rfl #[.slice Ao21 t228.length co21, .string a2] rfl aG ?_; (with_reducible refine (subst_Get.calls kj4 _ _ t228 a2 t231 t232 t233 t234 _ ?side1 ?side2 A15.out).mono ?_); (case side1 => exact sC (Kd.R_reads' HO230.out).2.2); (case side2 => exact (Kd.R_reads' HO230.out).2.1); rintro e w22 ⟨rfl, hb⟩; refine ⟨_, rfl, ?_⟩; have n0_ := Aside0.mk (Kd.V_below (by (with_reducible repeat (first | apply Kd.V_alloc | apply Kd.V_drewN | apply Kd.V_drew)); exact HO_0.out) hb); have n1_ := Aside0.mk (Kd.R_below (sR HO230.out) hb); have n2_ := Aside0.mk (blk_below (g := gb225) (o := .cells #[.int .i64 a3_0, .int .i64 a3_1, .string a3_2] 24 (0, 0)) (by refine bk ?_; exact BK225.out) hb); have n3_ := Aside0.mk (below_step (bB1 GE225.out) hb); clear HO_0; clear HO230; clear BK225; clear HB; have HO_0 := n0_; have HO230 := n1_; have BK225 := n2_; have HB := n3_; clear n0_ n1_ n2_ n3_; (try clear hb); (try clear hb2); (try clear hk); (try clear hi)) | ((with_reducible refine gate_dst (N := 10) rfl ?_); (try (refine gate_guard (by rfl) ?_; dsimp only)); refine bE (N := 10) (cs := #[.int .i64 0, .int .i64 0, .string (⟨#[]⟩ : ByteArray)]) (t := 24) ?_; intro gb235 hg w23 hbox hb; have n0_ := Aside0.mk (Kd.V_below (Kd.V_elderB (by (with_reducible repeat (first | apply Kd.V_alloc | apply Kd.V_drewN | apply Kd.V_drew)); exact HO_0.out) gb235 (Nat.le_of_eq hg.symm)) hb); have n1_ := Aside0.mk (Kd.R_below (sR HO230.out) hb); have n2_ := Aside0.mk (blk_below (g := gb225) (o := .cells #[.int .i64 a3_0, .int .i64 a3_1, .string a3_2] 24 (0, 0)) (by refine bk ?_; exact BK225.out) hb); have n3_ := Aside0.mk (below_step (bB1 GE225.out) hb); have n4_ := Aside0.mk (hbox); have n5_ := Aside0.mk ((by rw [hg]; exact (below_size (bB1 GE225.out)) : w.heap.size ≤ gb235)); have n6_ := Aside0.mk ((by rw [hg]; exact (below_size (bB1 GE225.out)) : w.heap.size ≤ gb235)); have n7_ := Aside0.mk ((by rw [hg]; exact Nat.ne_of_lt (blk_lt (g := gb225) (o := .cells #[.int .i64 a3_0, .int .i64 a3_1, .string a3_2] 24 (0, 0)) (by refine bk ?_; exact BK225.out)) : gb225 ≠ gb235)); have n8_ := Aside0.mk ((by rw [hg]; exact Nat.ne_of_gt (blk_lt (g := gb225) (o := .cells #[.int .i64 a3_0, .int .i64 a3_1, .string a3_2] 24 (0, 0)) (by refine bk ?_; exact BK225.out)) : gb235 ≠ gb225)); clear HO_0; clear HO230; clear BK225; clear HB; have HO_0 := n0_; have HO230 := n1_; have BK225 := n2_; have HB := n3_; have BK235 := n4_; have GW235 := n5_; have GE235 := n6_; have NB225_235 := n7_; have NB235_225 := n8_; clear n0_ n1_ n2_ n3_ n4_ n5_ n6_ n7_ n8_; clear hb hbox hg; have hnb24 := NB235_225.out; have hnc24 := NB225_235.out; have hcz25_0 : w23.cell? ⟨gb235, 0, none⟩ = some (.int .i64 0) := (blk_cell BK235.out 0).trans rfl; have hcz25_1 : w23.cell? ⟨gb235, 1, none⟩ = some (.int .i64 0) := (blk_cell BK235.out 1).trans rfl; have hcz25_2 : w23.cell? ⟨gb235, 2, none⟩ = some (.string (⟨#[]⟩ : ByteArray)) := (blk_cell BK235.out 2).trans rfl; have hfz25_0 := blk_frozen BK235.out 0; have hfz25_1 := blk_frozen BK235.out 1; have hfz25_2 := blk_frozen BK235.out 2) | ((with_reducible refine gate_callee (f := 18) rfl ?_); refine goesL_ (some 50) rfl rfl Try.func18 (by kernel_rfl) rfl #[.slice A0 l0.length c0, .string a2] rfl aG ?_; (with_reducible refine (constableref01_Get.calls kj4 _ _ l0 a2 t236 t237 t238 t239 _ ?side1 ?side2 A16.out).mono ?_); (case side1 => refine (Kd.V_reads' (e := 39) (base := w.heap.size) (ok := fun k_ => ((((P0_ k_ ∨ w.heap.size ≤ k_) ∧ k_ ≠ gb225) ∧ some k_ ≠ (.slice Ao21 t228.length co21 : Value).ownBlock) ∧ k_ ≠ gb235)) (n := l0.length) (c := c0) ?_).2.2; exact (by (with_reducible repeat (first | apply Kd.V_alloc | apply Kd.V_drewN | apply Kd.V_drew)); exact (Kd.V_mono (Kd.V_far (p := ⟨gb235, 2, none⟩) (Kd.V_far (p := ⟨gb235, 1, none⟩) (Kd.V_far (p := ⟨gb235, 0, none⟩) (Kd.V_mono HO_0.out (fun k_ hk => (⟨hk, hk.2⟩ : _ ∧ k_ ≠ gb235))) (fun _ hk => hk.2) (.int .i64 t231)) (fun _ hk => hk.2) (.int .i64 t232)) (fun _ hk => hk.2) (.string t233)) (fun _ h_ => by first | exact h_.1 | simpa using h_.1)))); (case side2 => exact (Kd.V_reads' HO_0.out).2.1); rintro e w26 ⟨rfl, hb⟩; refine ⟨_, rfl, ?_⟩; have n0_ := Aside0.mk (Kd.V_below (by (with_reducible repeat (first | apply Kd.V_alloc | apply Kd.V_drewN | apply Kd.V_drew)); exact (Kd.V_mono (Kd.V_far (p := ⟨gb235, 2, none⟩) (Kd.V_far (p := ⟨gb235, 1, none⟩) (Kd.V_far (p := ⟨gb235, 0, none⟩) (Kd.V_mono HO_0.out (fun k_ hk => (⟨hk, hk.2⟩ : _ ∧ k_ ≠ gb235))) (fun _ hk => hk.2) (.int .i64 t231)) (fun _ hk => hk.2) (.int .i64 t232)) (fun _ hk => hk.2) (.string t233)) (fun _ h_ => by first | exact h_.1 | simpa using h_.1))) hb); have n1_ := Aside0.mk (Kd.R_below (sR ((Kd.R_mono (Kd.R_far (p := ⟨gb235, 2, none⟩) (Kd.R_far (p := ⟨gb235, 1, none⟩) (Kd.R_far (p := ⟨gb235, 0, none⟩) (Kd.R_types HO230.out BK235.out (by decide)) (fun _ hk => hk.2) (.int .i64 t231)) (fun _ hk => hk.2) (.int .i64 t232)) (fun _ hk => hk.2) (.string t233)) (fun _ h_ => by first | exact h_.1 | simpa using h_.1)))) hb); have n2_ := Aside0.mk (blk_below (g := gb225) (o := .cells #[.int .i64 a3_0, .int .i64 a3_1, .string a3_2] 24 (0, 0)) (by refine bk ?_; refine blk_far ?_ NB225_235.out _; refine bk ?_; refine blk_far ?_ NB225_235.out _; refine bk ?_; refine blk_far ?_ NB225_235.out _; refine bk ?_; exact BK225.out) hb); have n3_ := Aside0.mk (blk_below (g := gb235) (o := .cells #[.int .i64 t231, .int .i64 t232, .string t233] 24 (0, 0)) (by refine bk ?_; refine blk_put (cs := #[.int .i64 t231, .int .i64 t232, .string (⟨#[]⟩ : ByteArray)]) ?_ 2 _ rfl; refine bk ?_; refine blk_put (cs := #[.int .i64 t231, .int .i64 0, .string (⟨#[]⟩ : ByteArray)]) ?_ 1 _ rfl; refine bk ?_; refine blk_put (cs := #[.int .i64 0, .int .i64 0, .string (⟨#[]⟩ : ByteArray)]) ?_ 0 _ rfl; refine bk ?_; exact BK235.out) hb); have n4_ := Aside0.mk (below_step (bB2 GE225.out GE235.out) hb); clear HO_0; clear HO230; clear BK225; clear BK235; clear HB; have HO_0 := n0_; have HO230 := n1_; have BK225 := n2_; have BK235 := n3_; have HB := n4_; clear n0_ n1_ n2_ n3_ n4_; (try clear hb); (try clear hb2); (try clear hk); (try clear hi)) | ((with_reducible refine gate_dst (N := 12) rfl ?_); (try (refine gate_guard (by rfl) ?_; dsimp only)); refine bE (N := 12) (cs := #[.int .i64 0, .int .i64 0, .string (⟨#[]⟩ : ByteArray)]) (t := 24) ?_; intro gb240 hg w27 hbox hb; have n0_ := Aside0.mk (Kd.V_below (Kd.V_elderB (by (with_reducible repeat (first | apply Kd.V_alloc | apply Kd.V_drewN | apply Kd.V_drew)); exact HO_0.out) gb240 (Nat.le_of_eq hg.symm)) hb); have n1_ := Aside0.mk (Kd.R_below (sR HO230.out) hb); have n2_ := Aside0.mk (blk_below (g := gb225) (o := .cells #[.int .i64 a3_0, .int .i64 a3_1, .string a3_2] 24 (0, 0)) (by refine bk ?_; exact BK225.out) hb); have n3_ := Aside0.mk (blk_below (g := gb235) (o := .cells #[.int .i64 t231, .int .i64 t232, .string t233] 24 (0, 0)) (by refine bk ?_; exact BK235.out) hb); have n4_ := Aside0.mk (below_step (bB2 GE225.out GE235.out) hb); have n5_ := Aside0.mk (hbox); have n6_ := Aside0.mk ((by rw [hg]; exact (below_size (bB2 GE225.out GE235.out)) : w.heap.size ≤ gb240)); have n7_ := Aside0.mk ((by rw [hg]; exact (below_size (bB2 GE225.out GE235.out)) : w.heap.size ≤ gb240)); have n8_ := Aside0.mk ((by rw [hg]; exact Nat.ne_of_lt (blk_lt (g := gb225) (o := .cells #[.int .i64 a3_0, .int .i64 a3_1, .string a3_2] 24 (0, 0)) (by refine bk ?_; exact BK225.out)) : gb225 ≠ gb240)); have n9_ := Aside0.mk ((by rw [hg]; exact Nat.ne_of_gt (blk_lt (g := gb225) (o := .cells #[.int .i64 a3_0, .int .i64 a3_1, .string a3_2] 24 (0, 0)) (by refine bk ?_; exact BK225.out)) : gb240 ≠ gb225)); have n10_ := Aside0.mk ((by rw [hg]; exact Nat.ne_of_lt (blk_lt (g := gb235) (o := .cells #[.int .i64 t231, .int .i64 t232, .string t233] 24 (0, 0)) (by refine bk ?_; exact BK235.out)) : gb235 ≠ gb240)); have n11_ := Aside0.mk ((by rw [hg]; exact Nat.ne_of_gt (blk_lt (g := gb235) (o := .cells #[.int .i64 t231, .int .i64 t232, .string t233] 24 (0, 0)) (by refine bk ?_; exact BK235.out)) : gb240 ≠ gb235)); clear HO_0; clear HO230; clear BK225; clear BK235; clear HB; have HO_0 := n0_; have HO230 := n1_; have BK225 := n2_; have BK235 := n3_; have HB := n4_; have BK240 := n5_; have GW240 := n6_; have GE240 := n7_; have NB225_240 := n8_; have NB240_225 := n9_; have NB235_240 := n10_; have NB240_235 := n11_; clear n0_ n1_ n2_ n3_ n4_ n5_ n6_ n7_ n8_ n9_ n10_ n11_; clear hb hbox hg; have hnb28 := NB240_225.out; have hnc28 := NB225_240.out; have hnb29 := NB240_235.out; have hnc29 := NB235_240.out; have hcz30_0 : w27.cell? ⟨gb240, 0, none⟩ = some (.int .i64 0) := (blk_cell BK240.out 0).trans rfl; have hcz30_1 : w27.cell? ⟨gb240, 1, none⟩ = some (.int .i64 0) := (blk_cell BK240.out 1).trans rfl; have hcz30_2 : w27.cell? ⟨gb240, 2, none⟩ = some (.string (⟨#[]⟩ : ByteArray)) := (blk_cell BK240.out 2).trans rfl; have hfz30_0 := blk_frozen BK240.out 0; have hfz30_1 := blk_frozen BK240.out 1; have hfz30_2 := blk_frozen BK240.out 2; have hcz31_0 : w27.cell? ⟨gb225, 0, none⟩ = some (.int .i64 a3_0) := (blk_cell BK225.out 0).trans rfl; have hcz31_1 : w27.cell? ⟨gb225, 1, none⟩ = some (.int .i64 a3_1) := (blk_cell BK225.out 1).trans rfl; have hcz31_2 : w27.cell? ⟨gb225, 2, none⟩ = some (.string a3_2) := (blk_cell BK225.out 2).trans rfl; have hfz31_0 := blk_frozen BK225.out 0; have hfz31_1 := blk_frozen BK225.out 1; have hfz31_2 := blk_frozen BK225.out 2) | ((with_reducible refine gate_callee (f := 19) rfl ?_); refine goesL_ (some 57) rfl rfl Try.func19 (by kernel_rfl) rfl #[.slice Ao21 t228.length co21, .string a2, .agg #[.int .i64 a3_0, .int .i64 a3_1, .string a3_2]] rfl aG ?_; (with_reducible refine (subst_Put.calls kj4 _ _ t228 a2 a3_0 a3_1 a3_2 t241 t244 _ ?side1 ?side2 A17.out).mono ?_); (case side1 => refine (Kd.R_reads' (e := 39) (base := w.heap.size) (ok := fun k_ => ((w.heap.size ≤ k_) ∧ True)) (n := t228.length) (c := co21) ?_).2.2; exact (sR ((Kd.R_mono (Kd.R_far (p := ⟨gb240, 2, none⟩) (Kd.R_far (p := ⟨gb240, 1, none⟩) (Kd.R_far (p := ⟨gb240, 0, none⟩) (Kd.R_types HO230.out BK240.out (by decide)) (fun _ hk => hk.2) (.int .i64 t236)) (fun _ hk => hk.2) (.int .i64 t237)) (fun _ hk => hk.2) (.string t238)) (fun _ h_ => by first | exact h_.1 | simpa using h_.1))))); (case side2 => exact (Kd.R_reads' HO230.out).2.1); rintro e w32 ⟨v242, rfl, ho0, hb⟩; refine ⟨_, rfl, ?_⟩; have n0_ := Aside0.mk (Kd.V_elder' (by (with_reducible repeat (first | apply Kd.V_alloc | apply Kd.V_drewN | apply Kd.V_drew)); exact (Kd.V_mono (Kd.V_far (p := ⟨gb240, 2, none⟩) (Kd.V_far (p := ⟨gb240, 1, none⟩) (Kd.V_far (p := ⟨gb240, 0, none⟩) (Kd.V_mono HO_0.out (fun k_ hk => (⟨hk, hk.2⟩ : _ ∧ k_ ≠ gb240))) (fun _ hk => hk.2) (.int .i64 t236)) (fun _ hk => hk.2) (.int .i64 t237)) (fun _ hk => hk.2) (.string t238)) (fun _ h_ => by first | exact h_.1 | simpa using h_.1))) (Kd.R_base ho0) hb); have n1_ := Aside0.mk (Kd.R_elder' (sR ((Kd.R_mono (Kd.R_far (p := ⟨gb240, 2, none⟩) (Kd.R_far (p := ⟨gb240, 1, none⟩) (Kd.R_far (p := ⟨gb240, 0, none⟩) (Kd.R_types HO230.out BK240.out (by decide)) (fun _ hk => hk.2) (.int .i64 t236)) (fun _ hk => hk.2) (.int .i64 t237)) (fun _ hk => hk.2) (.string t238)) (fun _ h_ => by first | exact h_.1 | simpa using h_.1)))) (Kd.R_base ho0) hb); have n2_ := Aside0.mk (Kd.R_lower (Kd.R_new' (Kd.R_newM (M := fun k_ => (w.heap.size ≤ k_)) ho0 (below_size (bB3 GE225.out GE235.out GE240.out)) (fun k_ h_ => h_)) (Kd.R_lt (sR ((Kd.R_mono (Kd.R_far (p := ⟨gb240, 2, none⟩) (Kd.R_far (p := ⟨gb240, 1, none⟩) (Kd.R_far (p := ⟨gb240, 0, none⟩) (Kd.R_types HO230.out BK240.out (by decide)) (fun _ hk => hk.2) (.int .i64 t236)) (fun _ hk => hk.2) (.int .i64 t237)) (fun _ hk => hk.2) (.string t238)) (fun _ h_ => by first | exact h_.1 | simpa using h_.1)))))) (below_size (bB3 GE225.out GE235.out GE240.out))); have n3_ := Aside0.mk (blk_below (g := gb225) (o := .cells #[.int .i64 a3_0, .int .i64 a3_1, .string a3_2] 24 (0, 0)) (by refine bk ?_; refine blk_far ?_ NB225_240.out _; refine bk ?_; refine blk_far ?_ NB225_240.out _; refine bk ?_; refine blk_far ?_ NB225_240.out _; refine bk ?_; exact BK225.out) hb); have n4_ := Aside0.mk (blk_below (g := gb235) (o := .cells #[.int .i64 t231, .int .i64 t232, .string t233] 24 (0, 0)) (by refine bk ?_; refine blk_far ?_ NB235_240.out _; refine bk ?_; refine blk_far ?_ NB235_240.out _; refine bk ?_; refine blk_far ?_ NB235_240.out _; refine bk ?_; exact BK235.out) hb); have n5_ := Aside0.mk (blk_below (g := gb240) (o := .cells #[.int .i64 t236, .int .i64 t237, .string t238] 24 (0, 0)) (by refine bk ?_; refine blk_put (cs := #[.int .i64 t236, .int .i64 t237, .string (⟨#[]⟩ : ByteArray)]) ?_ 2 _ rfl; refine bk ?_; refine blk_put (cs := #[.int .i64 t236, .int .i64 0, .string (⟨#[]⟩ : ByteArray)]) ?_ 1 _ rfl; refine bk ?_; refine blk_put (cs := #[.int .i64 0, .int .i64 0, .string (⟨#[]⟩ : ByteArray)]) ?_ 0 _ rfl; refine bk ?_; exact BK240.out) hb); have n6_ := Aside0.mk (below_step (bB3 GE225.out GE235.out GE240.out) hb); clear HO_0; clear HO230; clear BK225; clear BK235; clear BK240; clear HB; have HO_0 := n0_; have HO230 := n1_; have HO243 := n2_; have BK225 := n3_; have BK235 := n4_; have BK240 := n5_; have HB := n6_; clear n0_ n1_ n2_ n3_ n4_ n5_ n6_; (try clear hb); (try clear hb2); (try clear hk); (try clear hi); (try clear ho0)) | ((with_reducible refine gate_callee (f := 20) rfl ?_); refine goesL_ (some 63) rfl rfl Try.func20 (by kernel_rfl) rfl #[.slice Ao21 t228.length co21, .slice A1 l1.length c1] rfl aG ?_; (with_reducible refine (subst_Both.calls _ _ t228 _ _ l1 t245 t246 _ ?side1 ?side2 ?side3 ?side4 A18.out).mono ?_); (case side1 => exact sC (Kd.R_reads' HO230.out).2.2); (case side2 => exact (Kd.R_reads' HO230.out).2.1); (case side3 => exact sC (Kd.C_below HR1.out HB.out)); (case side4 => exact HC1.out); rintro e w33 ⟨v247, rfl, ho0, hb⟩; refine ⟨_, rfl, ?_⟩; have n0_ := Aside0.mk (Kd.V_elder' (by (with_reducible repeat (first | apply Kd.V_alloc | apply Kd.V_drewN | apply Kd.V_drew)); exact HO_0.out) (Kd.R_base ho0) hb); have n1_ := Aside0.mk (Kd.R_elder' (sR HO230.out) (Kd.R_base ho0) hb); have n2_ := Aside0.mk (Kd.R_elder' (sR HO243.out) (Kd.R_base ho0) hb); have n3_ := Aside0.mk (Kd.R_lower (Kd.R_new' (Kd.R_new' (Kd.R_newM (M := fun k_ => (w.heap.size ≤ k_)) ho0 (below_size (bB3 GE225.out GE235.out GE240.out)) (fun k_ h_ => h_)) (Kd.R_lt (sR HO230.out))) (Kd.R_lt (sR HO243.out))) (below_size (bB3 GE225.out GE235.out GE240.out))); have n4_ := Aside0.mk (blk_below (g := gb225) (o := .cells #[.int .i64 a3_0, .int .i64 a3_1, .string a3_2] 24 (0, 0)) (by refine bk ?_; exact BK225.out) hb); have n5_ := Aside0.mk (blk_below (g := gb235) (o := .cells #[.int .i64 t231, .int .i64 t232, .string t233] 24 (0, 0)) (by refine bk ?_; exact BK235.out) hb); have n6_ := Aside0.mk (blk_below (g := gb240) (o := .cells #[.int .i64 t236, .int .i64 t237, .string t238] 24 (0, 0)) (by refine bk ?_; exact BK240.out) hb); have n7_ := Aside0.mk (below_step (bB3 GE225.out GE235.out GE240.out) hb); clear HO_0; clear HO230; clear HO243; clear BK225; clear BK235; clear BK240; clear HB; have HO_0 := n0_; have HO230 := n1_; have HO243 := n2_; have HO248 := n3_; have BK225 := n4_; have BK235 := n5_; have BK240 := n6_; have HB := n7_; clear n0_ n1_ n2_ n3_ n4_ n5_ n6_ n7_; (try clear hb); (try clear hb2); (try clear hk); (try clear hi); (try clear ho0)))
    (try simp only [Act.put, List.setIfInBounds_toArray, List.set_cons_zero, List.set_cons_succ])
    go_cut [86] (fun v86 wc => ∃ (kq : Nat) (x86_18 : Bool), v86 = .bool x86_18 ∧ Aside0 (constablelaw05_SubstExact.j1 kq l0 l1 a2 t228 t241 t244 t245 t246 x86_18 a3_0 a3_1 a3_2 = some r) ∧ Aside0 (kq ≤ kj4) ∧ Aside0 (Kd.V k39 39 wc w.heap.size (fun k_ => (P0_ k_ ∨ w.heap.size ≤ k_) ∧ some k_ ≠ ((.slice Ao21 t228.length co21) : Value).ownBlock ∧ some k_ ≠ (v242 : Value).ownBlock ∧ some k_ ≠ (v247 : Value).ownBlock ∧ k_ ≠ gb225 ∧ k_ ≠ gb235 ∧ k_ ≠ gb240) (.slice A0 l0.length c0) l0) ∧ Aside0 (Kd.R k39 39 wc w.heap.size (fun k_ => (w.heap.size ≤ k_) ∧ some k_ ≠ (v242 : Value).ownBlock ∧ some k_ ≠ (v247 : Value).ownBlock) (.slice Ao21 t228.length co21) t228) ∧ Aside0 (Kd.R k39 39 wc w.heap.size (fun k_ => (w.heap.size ≤ k_) ∧ some k_ ≠ ((.slice Ao21 t228.length co21) : Value).ownBlock ∧ some k_ ≠ (v247 : Value).ownBlock) v242 t241) ∧ Aside0 (Kd.R k39 39 wc w.heap.size (fun k_ => (w.heap.size ≤ k_) ∧ some k_ ≠ ((.slice Ao21 t228.length co21) : Value).ownBlock ∧ some k_ ≠ (v242 : Value).ownBlock) v247 t245) ∧ Aside0 (wc.heap[gb225]? = some (.cells #[.int .i64 a3_0, .int .i64 a3_1, .string a3_2] 24 (0, 0))) ∧ Aside0 (wc.heap[gb235]? = some (.cells #[.int .i64 t231, .int .i64 t232, .string t233] 24 (0, 0))) ∧ Aside0 (wc.heap[gb240]? = some (.cells #[.int .i64 t236, .int .i64 t237, .string t238] 24 (0, 0))) ∧ Aside0 (Below w.heap.size w wc))
    case first =>
     have H := HC19.out
     clear HC19
     replace H := Option.bind_eq_some_iff.mp H
     obtain ⟨t249, A340, H⟩ := H
     replace H : ((constableref01_Word.f kj4 a2 true).bind fun t250 => (if (t249 != t250) = true then (constablelaw05_SubstExact.j1 kj4 l0 l1 a2 t228 t241 t244 t245 t246 true a3_0 a3_1 a3_2) else (if (!(t231 == t236) || (!(t232 == t237) || (!(t233.toList == t238.toList)))) = true then (constablelaw05_SubstExact.j1 kj4 l0 l1 a2 t228 t241 t244 t245 t246 true a3_0 a3_1 a3_2) else (if (t234 != t239) = true then (constablelaw05_SubstExact.j1 kj4 l0 l1 a2 t228 t241 t244 t245 t246 true a3_0 a3_1 a3_2) else ((constablekeep_Binds.f kj4 t228 l0).bind fun t251 => (constablelaw05_SubstExact.j1 kj4 l0 l1 a2 t228 t241 t244 t245 t246 (!t251) a3_0 a3_1 a3_2)))))) = some r := H
     have A34 := Aside0.mk A340
     clear A340
     replace H := Option.bind_eq_some_iff.mp H
     obtain ⟨t250, A350, H⟩ := H
     replace H : (if (t249 != t250) = true then (constablelaw05_SubstExact.j1 kj4 l0 l1 a2 t228 t241 t244 t245 t246 true a3_0 a3_1 a3_2) else (if (!(t231 == t236) || (!(t232 == t237) || (!(t233.toList == t238.toList)))) = true then (constablelaw05_SubstExact.j1 kj4 l0 l1 a2 t228 t241 t244 t245 t246 true a3_0 a3_1 a3_2) else (if (t234 != t239) = true then (constablelaw05_SubstExact.j1 kj4 l0 l1 a2 t228 t241 t244 t245 t246 true a3_0 a3_1 a3_2) else ((constablekeep_Binds.f kj4 t228 l0).bind fun t251 => (constablelaw05_SubstExact.j1 kj4 l0 l1 a2 t228 t241 t244 t245 t246 (!t251) a3_0 a3_1 a3_2))))) = some r := H
     have A35 := Aside0.mk A350
     clear A350
     by_cases c36 : (t249 != t250) = true
     ·rw [if_pos c36] at H
      have c36b0 : (t249 != t250) = true := c36
      (try (have c36b1 : decide (t249 = t250) = false := by simpa using c36))
      (try (have c36b2 : (t249 == t250) = false := by simpa using c36))
      (try (have c36b3 : ¬ (t249 = t250) := by simpa using c36))
      clear c36
      (first | rw [c36b0] | (simp only [i64_w, i32_w]; rw [c36b0]) | skip)
      have H' := Aside0.mk H
      clear H
      go_wp2_with (first | ((with_reducible refine gate_callee (f := 21) rfl ?_); refine goesL_ (some 67) rfl rfl Try.func21 (by kernel_rfl) rfl #[.string a2] rfl aG ?_; (with_reducible refine (subst_Var.calls kj4 a2 t249 _ A34.out).mono ?_); rintro e w' ⟨rfl, ⟨nd, rfl⟩⟩; refine ⟨_, rfl, ?_⟩) | ((with_reducible refine gate_callee (f := 22) rfl ?_); refine goesL_ (some 69) rfl rfl Try.func22 (by kernel_rfl) rfl #[.string a2, .bool true] rfl aG ?_; (with_reducible refine (constableref01_Word.calls kj4 a2 true t250 _ A35.out).mono ?_); rintro e w' ⟨rfl, ⟨nd, rfl⟩⟩; refine ⟨_, rfl, ?_⟩))
      go_meet
      case rel => exact ⟨_, (true), (by first | rfl | (simp; done) | (simp [*]; done)), H', ⟨by have := HJ4.out; first | exact Nat.le_refl _ | omega⟩, ⟨by (with_reducible repeat (first | apply Kd.V_alloc | apply Kd.V_drewN | apply Kd.V_drew)); exact Kd.V_mono HO_0.out (fun _ hk => ⟨hk.1.1.1.1.1.1, ⟨hk.1.1.1.1.2, ⟨hk.1.2, ⟨hk.2, ⟨hk.1.1.1.1.1.2, ⟨hk.1.1.1.2, hk.1.1.2⟩⟩⟩⟩⟩⟩)⟩, ⟨by (with_reducible repeat (first | apply Kd.R_alloc | apply Kd.R_drewN | apply Kd.R_drew)); exact Kd.R_mono HO230.out (fun _ hk => ⟨hk.1.1.1, ⟨hk.1.2, hk.2⟩⟩)⟩, ⟨by (with_reducible repeat (first | apply Kd.R_alloc | apply Kd.R_drewN | apply Kd.R_drew)); exact Kd.R_mono HO243.out (fun _ hk => ⟨hk.1.1.1, ⟨hk.1.2, hk.2⟩⟩)⟩, ⟨by (with_reducible repeat (first | apply Kd.R_alloc | apply Kd.R_drewN | apply Kd.R_drew)); exact Kd.R_mono HO248.out (fun _ hk => ⟨hk.1.1.1, ⟨hk.1.2, hk.2⟩⟩)⟩, ⟨by refine bk ?_; exact BK225.out⟩, ⟨by refine bk ?_; exact BK235.out⟩, ⟨by refine bk ?_; exact BK240.out⟩, ⟨(bB3 GE225.out GE235.out GE240.out)⟩⟩
     ·rw [if_neg c36] at H
      have c36b0 : (t249 != t250) = false := by simpa using c36
      (try (have c36b1 : decide (t249 = t250) = true := by simpa using c36))
      (try (have c36b2 : (t249 == t250) = true := by simpa using c36))
      clear c36
      (first | rw [c36b0] | (simp only [i64_w, i32_w]; rw [c36b0]) | skip)
      obtain ⟨qc37, hqc37⟩ : ∃ b_ : Bool, (!(t231 == t236) || (!(t232 == t237) || (!(t233.toList == t238.toList)))) = b_ := ⟨_, rfl⟩
      by_cases c37 : (!(t231 == t236) || (!(t232 == t237) || (!(t233.toList == t238.toList)))) = true
      ·rw [if_pos c37] at H
       have c37b0 : qc37 = true := hqc37.symm.trans c37
       clear c37
       have H' := Aside0.mk H
       clear H
       go_wp2_with (first | ((with_reducible refine gate_callee (f := 21) rfl ?_); refine goesL_ (some 67) rfl rfl Try.func21 (by kernel_rfl) rfl #[.string a2] rfl aG ?_; (with_reducible refine (subst_Var.calls kj4 a2 t249 _ A34.out).mono ?_); rintro e w' ⟨rfl, ⟨nd, rfl⟩⟩; refine ⟨_, rfl, ?_⟩) | ((with_reducible refine gate_callee (f := 22) rfl ?_); refine goesL_ (some 69) rfl rfl Try.func22 (by kernel_rfl) rfl #[.string a2, .bool true] rfl aG ?_; (with_reducible refine (constableref01_Word.calls kj4 a2 true t250 _ A35.out).mono ?_); rintro e w' ⟨rfl, ⟨nd, rfl⟩⟩; refine ⟨_, rfl, ?_⟩; have hnb38 := NB235_225.out; have hnc38 := NB225_235.out; have hnb39 := NB235_240.out; have hnc39 := NB240_235.out; have hcz40_0 : w33.cell? ⟨gb235, 0, none⟩ = some (.int .i64 t231) := (blk_cell BK235.out 0).trans rfl; have hcz40_1 : w33.cell? ⟨gb235, 1, none⟩ = some (.int .i64 t232) := (blk_cell BK235.out 1).trans rfl; have hcz40_2 : w33.cell? ⟨gb235, 2, none⟩ = some (.string t233) := (blk_cell BK235.out 2).trans rfl; have hfz40_0 := blk_frozen BK235.out 0; have hfz40_1 := blk_frozen BK235.out 1; have hfz40_2 := blk_frozen BK235.out 2; have hnb41 := NB240_225.out; have hnc41 := NB225_240.out; have hcz42_0 : w33.cell? ⟨gb240, 0, none⟩ = some (.int .i64 t236) := (blk_cell BK240.out 0).trans rfl; have hcz42_1 : w33.cell? ⟨gb240, 1, none⟩ = some (.int .i64 t237) := (blk_cell BK240.out 1).trans rfl; have hcz42_2 : w33.cell? ⟨gb240, 2, none⟩ = some (.string t238) := (blk_cell BK240.out 2).trans rfl; have hfz42_0 := blk_frozen BK240.out 0; have hfz42_1 := blk_frozen BK240.out 1; have hfz42_2 := blk_frozen BK240.out 2))
       go_meet
       case rel => exact ⟨_, (true), (by first | rfl | (simp; done) | (simp [*]; done)), H', ⟨by have := HJ4.out; first | exact Nat.le_refl _ | omega⟩, ⟨by (with_reducible repeat (first | apply Kd.V_alloc | apply Kd.V_drewN | apply Kd.V_drew)); exact Kd.V_mono HO_0.out (fun _ hk => ⟨hk.1.1.1.1.1.1, ⟨hk.1.1.1.1.2, ⟨hk.1.2, ⟨hk.2, ⟨hk.1.1.1.1.1.2, ⟨hk.1.1.1.2, hk.1.1.2⟩⟩⟩⟩⟩⟩)⟩, ⟨by (with_reducible repeat (first | apply Kd.R_alloc | apply Kd.R_drewN | apply Kd.R_drew)); exact Kd.R_mono HO230.out (fun _ hk => ⟨hk.1.1.1, ⟨hk.1.2, hk.2⟩⟩)⟩, ⟨by (with_reducible repeat (first | apply Kd.R_alloc | apply Kd.R_drewN | apply Kd.R_drew)); exact Kd.R_mono HO243.out (fun _ hk => ⟨hk.1.1.1, ⟨hk.1.2, hk.2⟩⟩)⟩, ⟨by (with_reducible repeat (first | apply Kd.R_alloc | apply Kd.R_drewN | apply Kd.R_drew)); exact Kd.R_mono HO248.out (fun _ hk => ⟨hk.1.1.1, ⟨hk.1.2, hk.2⟩⟩)⟩, ⟨by refine bk ?_; exact BK225.out⟩, ⟨by refine bk ?_; exact BK235.out⟩, ⟨by refine bk ?_; exact BK240.out⟩, ⟨(bB3 GE225.out GE235.out GE240.out)⟩⟩
      ·rw [if_neg c37] at H
       have c37b0 : qc37 = false := hqc37.symm.trans (Bool.eq_false_iff.mpr c37)
       clear c37
       by_cases c43 : (t234 != t239) = true
       ·rw [if_pos c43] at H
        have c43b0 : (t234 != t239) = true := c43
        (try (have c43b1 : decide (t234 = t239) = false := by simpa using c43))
        (try (have c43b2 : (t234 == t239) = false := by simpa using c43))
        (try (have c43b3 : ¬ (t234 = t239) := by simpa using c43))
        clear c43
        have H' := Aside0.mk H
        clear H
        go_wp2_with (first | ((with_reducible refine gate_callee (f := 21) rfl ?_); refine goesL_ (some 67) rfl rfl Try.func21 (by kernel_rfl) rfl #[.string a2] rfl aG ?_; (with_reducible refine (subst_Var.calls kj4 a2 t249 _ A34.out).mono ?_); rintro e w' ⟨rfl, ⟨nd, rfl⟩⟩; refine ⟨_, rfl, ?_⟩) | ((with_reducible refine gate_callee (f := 22) rfl ?_); refine goesL_ (some 69) rfl rfl Try.func22 (by kernel_rfl) rfl #[.string a2, .bool true] rfl aG ?_; (with_reducible refine (constableref01_Word.calls kj4 a2 true t250 _ A35.out).mono ?_); rintro e w' ⟨rfl, ⟨nd, rfl⟩⟩; refine ⟨_, rfl, ?_⟩; have hnb44 := NB235_225.out; have hnc44 := NB225_235.out; have hnb45 := NB235_240.out; have hnc45 := NB240_235.out; have hcz46_0 : w33.cell? ⟨gb235, 0, none⟩ = some (.int .i64 t231) := (blk_cell BK235.out 0).trans rfl; have hcz46_1 : w33.cell? ⟨gb235, 1, none⟩ = some (.int .i64 t232) := (blk_cell BK235.out 1).trans rfl; have hcz46_2 : w33.cell? ⟨gb235, 2, none⟩ = some (.string t233) := (blk_cell BK235.out 2).trans rfl; have hfz46_0 := blk_frozen BK235.out 0; have hfz46_1 := blk_frozen BK235.out 1; have hfz46_2 := blk_frozen BK235.out 2; have hnb47 := NB240_225.out; have hnc47 := NB225_240.out; have hcz48_0 : w33.cell? ⟨gb240, 0, none⟩ = some (.int .i64 t236) := (blk_cell BK240.out 0).trans rfl; have hcz48_1 : w33.cell? ⟨gb240, 1, none⟩ = some (.int .i64 t237) := (blk_cell BK240.out 1).trans rfl; have hcz48_2 : w33.cell? ⟨gb240, 2, none⟩ = some (.string t238) := (blk_cell BK240.out 2).trans rfl; have hfz48_0 := blk_frozen BK240.out 0; have hfz48_1 := blk_frozen BK240.out 1; have hfz48_2 := blk_frozen BK240.out 2))
        go_meet
        case rel => exact ⟨_, (true), (by first | rfl | (simp; done) | (simp [*]; done)), H', ⟨by have := HJ4.out; first | exact Nat.le_refl _ | omega⟩, ⟨by (with_reducible repeat (first | apply Kd.V_alloc | apply Kd.V_drewN | apply Kd.V_drew)); exact Kd.V_mono HO_0.out (fun _ hk => ⟨hk.1.1.1.1.1.1, ⟨hk.1.1.1.1.2, ⟨hk.1.2, ⟨hk.2, ⟨hk.1.1.1.1.1.2, ⟨hk.1.1.1.2, hk.1.1.2⟩⟩⟩⟩⟩⟩)⟩, ⟨by (with_reducible repeat (first | apply Kd.R_alloc | apply Kd.R_drewN | apply Kd.R_drew)); exact Kd.R_mono HO230.out (fun _ hk => ⟨hk.1.1.1, ⟨hk.1.2, hk.2⟩⟩)⟩, ⟨by (with_reducible repeat (first | apply Kd.R_alloc | apply Kd.R_drewN | apply Kd.R_drew)); exact Kd.R_mono HO243.out (fun _ hk => ⟨hk.1.1.1, ⟨hk.1.2, hk.2⟩⟩)⟩, ⟨by (with_reducible repeat (first | apply Kd.R_alloc | apply Kd.R_drewN | apply Kd.R_drew)); exact Kd.R_mono HO248.out (fun _ hk => ⟨hk.1.1.1, ⟨hk.1.2, hk.2⟩⟩)⟩, ⟨by refine bk ?_; exact BK225.out⟩, ⟨by refine bk ?_; exact BK235.out⟩, ⟨by refine bk ?_; exact BK240.out⟩, ⟨(bB3 GE225.out GE235.out GE240.out)⟩⟩
       ·rw [if_neg c43] at H
        have c43b0 : (t234 != t239) = false := by simpa using c43
        (try (have c43b1 : decide (t234 = t239) = true := by simpa using c43))
        (try (have c43b2 : (t234 == t239) = true := by simpa using c43))
        clear c43
        replace H := Option.bind_eq_some_iff.mp H
        obtain ⟨t251, A490, H⟩ := H
        replace H : (constablelaw05_SubstExact.j1 kj4 l0 l1 a2 t228 t241 t244 t245 t246 (!t251) a3_0 a3_1 a3_2) = some r := H
        have A49 := Aside0.mk A490
        clear A490
        have H' := Aside0.mk H
        clear H
        go_wp2_with (first | ((with_reducible refine gate_callee (f := 21) rfl ?_); refine goesL_ (some 67) rfl rfl Try.func21 (by kernel_rfl) rfl #[.string a2] rfl aG ?_; (with_reducible refine (subst_Var.calls kj4 a2 t249 _ A34.out).mono ?_); rintro e w' ⟨rfl, ⟨nd, rfl⟩⟩; refine ⟨_, rfl, ?_⟩) | ((with_reducible refine gate_callee (f := 22) rfl ?_); refine goesL_ (some 69) rfl rfl Try.func22 (by kernel_rfl) rfl #[.string a2, .bool true] rfl aG ?_; (with_reducible refine (constableref01_Word.calls kj4 a2 true t250 _ A35.out).mono ?_); rintro e w' ⟨rfl, ⟨nd, rfl⟩⟩; refine ⟨_, rfl, ?_⟩; have hnb50 := NB235_225.out; have hnc50 := NB225_235.out; have hnb51 := NB235_240.out; have hnc51 := NB240_235.out; have hcz52_0 : w33.cell? ⟨gb235, 0, none⟩ = some (.int .i64 t231) := (blk_cell BK235.out 0).trans rfl; have hcz52_1 : w33.cell? ⟨gb235, 1, none⟩ = some (.int .i64 t232) := (blk_cell BK235.out 1).trans rfl; have hcz52_2 : w33.cell? ⟨gb235, 2, none⟩ = some (.string t233) := (blk_cell BK235.out 2).trans rfl; have hfz52_0 := blk_frozen BK235.out 0; have hfz52_1 := blk_frozen BK235.out 1; have hfz52_2 := blk_frozen BK235.out 2; have hnb53 := NB240_225.out; have hnc53 := NB225_240.out; have hcz54_0 : w33.cell? ⟨gb240, 0, none⟩ = some (.int .i64 t236) := (blk_cell BK240.out 0).trans rfl; have hcz54_1 : w33.cell? ⟨gb240, 1, none⟩ = some (.int .i64 t237) := (blk_cell BK240.out 1).trans rfl; have hcz54_2 : w33.cell? ⟨gb240, 2, none⟩ = some (.string t238) := (blk_cell BK240.out 2).trans rfl; have hfz54_0 := blk_frozen BK240.out 0; have hfz54_1 := blk_frozen BK240.out 1; have hfz54_2 := blk_frozen BK240.out 2) | (go_at_call 23; (with_reducible refine (constablekeep_Binds.calls kj4 _ _ t228 _ _ l0 t251 _ ?side1 ?side2 ?side3 ?side4 A49.out).mono ?_); (case side1 => exact sC (Kd.R_reads' HO230.out).2.2); (case side2 => exact (Kd.R_reads' HO230.out).2.1); (case side3 => exact sC (Kd.V_reads' HO_0.out).2.2); (case side4 => exact (Kd.V_reads' HO_0.out).2.1); rintro e w' ⟨rfl, ⟨nd, rfl⟩⟩))
        go_meet
        case rel => exact ⟨_, (!t251), (by first | rfl | (simp; done) | (simp [*]; done)), H', ⟨by have := HJ4.out; first | exact Nat.le_refl _ | omega⟩, ⟨by (with_reducible repeat (first | apply Kd.V_alloc | apply Kd.V_drewN | apply Kd.V_drew)); exact Kd.V_mono HO_0.out (fun _ hk => ⟨hk.1.1.1.1.1.1, ⟨hk.1.1.1.1.2, ⟨hk.1.2, ⟨hk.2, ⟨hk.1.1.1.1.1.2, ⟨hk.1.1.1.2, hk.1.1.2⟩⟩⟩⟩⟩⟩)⟩, ⟨by (with_reducible repeat (first | apply Kd.R_alloc | apply Kd.R_drewN | apply Kd.R_drew)); exact Kd.R_mono HO230.out (fun _ hk => ⟨hk.1.1.1, ⟨hk.1.2, hk.2⟩⟩)⟩, ⟨by (with_reducible repeat (first | apply Kd.R_alloc | apply Kd.R_drewN | apply Kd.R_drew)); exact Kd.R_mono HO243.out (fun _ hk => ⟨hk.1.1.1, ⟨hk.1.2, hk.2⟩⟩)⟩, ⟨by (with_reducible repeat (first | apply Kd.R_alloc | apply Kd.R_drewN | apply Kd.R_drew)); exact Kd.R_mono HO248.out (fun _ hk => ⟨hk.1.1.1, ⟨hk.1.2, hk.2⟩⟩)⟩, ⟨by refine bk ?_; exact BK225.out⟩, ⟨by refine bk ?_; exact BK235.out⟩, ⟨by refine bk ?_; exact BK240.out⟩, ⟨(bB3 GE225.out GE235.out GE240.out)⟩⟩
    case rest => as_aux_lemma =>
     clear HC19
     (try clear c1); (try clear c2); (try clear p2); (try clear c3); (try clear c4); (try clear c5); (try clear c8); (try clear c10); (try clear c11); (try clear c11b0); (try clear c11b1); (try clear c13); (try clear c15); (try clear c16); (try clear c17); (try clear c18); (try clear c19); (try clear c20); (try clear c21); (try clear c22); (try clear c24); (try clear c28); (try clear c29); (try clear c36); (try clear c36b0); (try clear c36b1); (try clear c36b2); (try clear c37); (try clear c37b0); (try clear c38); (try clear c39); (try clear c41); (try clear c43); (try clear c43b0); (try clear c43b1); (try clear c43b2); (try clear c44); (try clear c45); (try clear c47); (try clear c50); (try clear c51); (try clear c53); (try clear hcz12_0); (try clear hcz12_1); (try clear hcz12_2); (try clear hcz25_0); (try clear hcz25_1); (try clear hcz25_2); (try clear hcz30_0); (try clear hcz30_1); (try clear hcz30_2); (try clear hcz31_0); (try clear hcz31_1); (try clear hcz31_2); (try clear hcz40_0); (try clear hcz40_1); (try clear hcz40_2); (try clear hcz42_0); (try clear hcz42_1); (try clear hcz42_2); (try clear hcz46_0); (try clear hcz46_1); (try clear hcz46_2); (try clear hcz48_0); (try clear hcz48_1); (try clear hcz48_2); (try clear hcz52_0); (try clear hcz52_1); (try clear hcz52_2); (try clear hcz54_0); (try clear hcz54_1); (try clear hcz54_2); (try clear hfz12_0); (try clear hfz12_1); (try clear hfz12_2); (try clear hfz25_0); (try clear hfz25_1); (try clear hfz25_2); (try clear hfz30_0); (try clear hfz30_1); (try clear hfz30_2); (try clear hfz31_0); (try clear hfz31_1); (try clear hfz31_2); (try clear hfz40_0); (try clear hfz40_1); (try clear hfz40_2); (try clear hfz42_0); (try clear hfz42_1); (try clear hfz42_2); (try clear hfz46_0); (try clear hfz46_1); (try clear hfz46_2); (try clear hfz48_0); (try clear hfz48_1); (try clear hfz48_2); (try clear hfz52_0); (try clear hfz52_1); (try clear hfz52_2); (try clear hfz54_0); (try clear hfz54_1); (try clear hfz54_2); (try clear p2)
     obtain ⟨kq, x86_18, rfl, HA, HJ18, HO_0, HO_9, HO_14, HO_16, BK225, BK235, BK240, HB⟩ := hcut
     cases kq with
     | zero => exact absurd HA.out (by simp [constablelaw05_SubstExact.j1])
     | succ kj18 =>
      have H := HA.out
      clear HA
      simp only [constablelaw05_SubstExact.j1] at H
      by_cases c55 : x86_18 = true
      ·subst c55
       have H1 : (none) = some r := by rw [if_pos rfl] at H; exact H
       clear H
       have H := H1
       clear H1
       exact absurd H (by simp)
      ·replace c55 := Bool.eq_false_iff.mpr c55
       subst c55
       have H1 : ((constableref01_Binds.f kj18 l0).bind fun t252 => ((subst_Check.f kj18 t228).bind fun t253 => (if ((t253 == 0) != t252) = true then (constablelaw05_SubstExact.j2 kj18 l0 l1 a2 t241 t244 t245 t246 t252 true a3_0 a3_1 a3_2) else (if t252 = true then (constablelaw05_SubstExact.j2 kj18 l0 l1 a2 t241 t244 t245 t246 t252 false a3_0 a3_1 a3_2) else ((subst_Check.f kj18 t228).bind fun t254 => (constablelaw05_SubstExact.j2 kj18 l0 l1 a2 t241 t244 t245 t246 t252 (t254 != 1) a3_0 a3_1 a3_2)))))) = some r := by rw [if_neg (show ¬ (false = true) by decide)] at H; exact H
       clear H
       have H := H1
       clear H1
       replace H := Option.bind_eq_some_iff.mp H
       obtain ⟨t252, A560, H⟩ := H
       replace H : ((subst_Check.f kj18 t228).bind fun t253 => (if ((t253 == 0) != t252) = true then (constablelaw05_SubstExact.j2 kj18 l0 l1 a2 t241 t244 t245 t246 t252 true a3_0 a3_1 a3_2) else (if t252 = true then (constablelaw05_SubstExact.j2 kj18 l0 l1 a2 t241 t244 t245 t246 t252 false a3_0 a3_1 a3_2) else ((subst_Check.f kj18 t228).bind fun t254 => (constablelaw05_SubstExact.j2 kj18 l0 l1 a2 t241 t244 t245 t246 t252 (t254 != 1) a3_0 a3_1 a3_2))))) = some r := H
       have A56 := Aside0.mk A560
       clear A560
       have HC57 := Aside0.mk H
       clear H
       go_upto_region 11 with (first | ((with_reducible refine gate_callee (f := 24) rfl ?_); refine goesL_ (some 88) rfl rfl Try.func24 (by kernel_rfl) rfl #[.slice A0 l0.length c0] rfl aG ?_; (with_reducible refine (constableref01_Binds.calls kj18 _ _ l0 t252 _ ?side1 ?side2 A56.out).mono ?_); (case side1 => exact sC (Kd.V_reads' HO_0.out).2.2); (case side2 => exact (Kd.V_reads' HO_0.out).2.1); rintro e w58 ⟨rfl, hb⟩; refine ⟨_, rfl, ?_⟩; have n0_ := Aside0.mk (Kd.V_below (by (with_reducible repeat (first | apply Kd.V_alloc | apply Kd.V_drewN | apply Kd.V_drew)); exact HO_0.out) hb); have n1_ := Aside0.mk (Kd.R_below (sR HO_9.out) hb); have n2_ := Aside0.mk (Kd.R_below (sR HO_14.out) hb); have n3_ := Aside0.mk (Kd.R_below (sR HO_16.out) hb); have n4_ := Aside0.mk (blk_below (g := gb225) (o := .cells #[.int .i64 a3_0, .int .i64 a3_1, .string a3_2] 24 (0, 0)) (by refine bk ?_; exact BK225.out) hb); have n5_ := Aside0.mk (blk_below (g := gb235) (o := .cells #[.int .i64 t231, .int .i64 t232, .string t233] 24 (0, 0)) (by refine bk ?_; exact BK235.out) hb); have n6_ := Aside0.mk (blk_below (g := gb240) (o := .cells #[.int .i64 t236, .int .i64 t237, .string t238] 24 (0, 0)) (by refine bk ?_; exact BK240.out) hb); have n7_ := Aside0.mk (below_step (bB3 GE225.out GE235.out GE240.out) hb); clear HO_0; clear HO_9; clear HO_14; clear HO_16; clear BK225; clear BK235; clear BK240; clear HB; have HO_0 := n0_; have HO_9 := n1_; have HO_14 := n2_; have HO_16 := n3_; have BK225 := n4_; have BK235 := n5_; have BK240 := n6_; have HB := n7_; clear n0_ n1_ n2_ n3_ n4_ n5_ n6_ n7_; (try clear hb); (try clear hb2); (try clear hk); (try clear hi)))
       (try simp only [Act.put, List.setIfInBounds_toArray, List.set_cons_zero, List.set_cons_succ])
       go_cut [102] (fun v102 wc => ∃ (kq : Nat) (x102_56 : Bool), v102 = .bool x102_56 ∧ Aside0 (constablelaw05_SubstExact.j2 kq l0 l1 a2 t241 t244 t245 t246 t252 x102_56 a3_0 a3_1 a3_2 = some r) ∧ Aside0 (kq ≤ kj18) ∧ Aside0 (Kd.V k39 39 wc w.heap.size (fun k_ => (P0_ k_ ∨ w.heap.size ≤ k_) ∧ some k_ ≠ (v242 : Value).ownBlock ∧ some k_ ≠ (v247 : Value).ownBlock ∧ k_ ≠ gb225 ∧ k_ ≠ gb235 ∧ k_ ≠ gb240) (.slice A0 l0.length c0) l0) ∧ Aside0 (Kd.R k39 39 wc w.heap.size (fun k_ => (w.heap.size ≤ k_) ∧ some k_ ≠ (v247 : Value).ownBlock) v242 t241) ∧ Aside0 (Kd.R k39 39 wc w.heap.size (fun k_ => (w.heap.size ≤ k_) ∧ some k_ ≠ (v242 : Value).ownBlock) v247 t245) ∧ Aside0 (wc.heap[gb225]? = some (.cells #[.int .i64 a3_0, .int .i64 a3_1, .string a3_2] 24 (0, 0))) ∧ Aside0 (wc.heap[gb235]? = some (.cells #[.int .i64 t231, .int .i64 t232, .string t233] 24 (0, 0))) ∧ Aside0 (wc.heap[gb240]? = some (.cells #[.int .i64 t236, .int .i64 t237, .string t238] 24 (0, 0))) ∧ Aside0 (Below w.heap.size w wc))
       case first =>
        have H := HC57.out
        clear HC57
        replace H := Option.bind_eq_some_iff.mp H
        obtain ⟨t253, A590, H⟩ := H
        replace H : (if ((t253 == 0) != t252) = true then (constablelaw05_SubstExact.j2 kj18 l0 l1 a2 t241 t244 t245 t246 t252 true a3_0 a3_1 a3_2) else (if t252 = true then (constablelaw05_SubstExact.j2 kj18 l0 l1 a2 t241 t244 t245 t246 t252 false a3_0 a3_1 a3_2) else ((subst_Check.f kj18 t228).bind fun t254 => (constablelaw05_SubstExact.j2 kj18 l0 l1 a2 t241 t244 t245 t246 t252 (t254 != 1) a3_0 a3_1 a3_2)))) = some r := H
        have A59 := Aside0.mk A590
        clear A590
        by_cases c60 : ((t253 == 0) != t252) = true
        ·rw [if_pos c60] at H
         have c60b0 : ((t253 == 0) != t252) = true := c60
         (try (have c60b1 : decide ((t253 == 0) = t252) = false := by simpa using c60))
         (try (have c60b2 : ((t253 == 0) == t252) = false := by simpa using c60))
         (try (have c60b3 : ¬ ((t253 == 0) = t252) := by simpa using c60))
         clear c60
         (first | rw [c60b0] | (simp only [i64_w, i32_w]; rw [c60b0]) | skip)
         have H' := Aside0.mk H
         clear H
         go_wp2_with (first | ((with_reducible refine gate_callee (f := 25) rfl ?_); refine goesL_ (some 90) rfl rfl Try.func25 (by kernel_rfl) rfl #[.slice Ao21 t228.length co21] rfl aG ?_; (with_reducible refine (subst_Check.calls kj18 _ _ t228 t253 _ ?side1 ?side2 A59.out).mono ?_); (case side1 => exact sC (Kd.R_reads' HO_9.out).2.2); (case side2 => exact (Kd.R_reads' HO_9.out).2.1); rintro e w61 ⟨rfl, hb⟩; refine ⟨_, rfl, ?_⟩; have n0_ := Aside0.mk (Kd.V_below (by (with_reducible repeat (first | apply Kd.V_alloc | apply Kd.V_drewN | apply Kd.V_drew)); exact HO_0.out) hb); have n1_ := Aside0.mk (Kd.R_below (sR HO_9.out) hb); have n2_ := Aside0.mk (Kd.R_below (sR HO_14.out) hb); have n3_ := Aside0.mk (Kd.R_below (sR HO_16.out) hb); have n4_ := Aside0.mk (blk_below (g := gb225) (o := .cells #[.int .i64 a3_0, .int .i64 a3_1, .string a3_2] 24 (0, 0)) (by refine bk ?_; exact BK225.out) hb); have n5_ := Aside0.mk (blk_below (g := gb235) (o := .cells #[.int .i64 t231, .int .i64 t232, .string t233] 24 (0, 0)) (by refine bk ?_; exact BK235.out) hb); have n6_ := Aside0.mk (blk_below (g := gb240) (o := .cells #[.int .i64 t236, .int .i64 t237, .string t238] 24 (0, 0)) (by refine bk ?_; exact BK240.out) hb); have n7_ := Aside0.mk (below_step (bB3 GE225.out GE235.out GE240.out) hb); clear HO_0; clear HO_9; clear HO_14; clear HO_16; clear BK225; clear BK235; clear BK240; clear HB; have HO_0 := n0_; have HO_9 := n1_; have HO_14 := n2_; have HO_16 := n3_; have BK225 := n4_; have BK235 := n5_; have BK240 := n6_; have HB := n7_; clear n0_ n1_ n2_ n3_ n4_ n5_ n6_ n7_; (try clear hb); (try clear hb2); (try clear hk); (try clear hi)))
         go_meet
         case rel => exact ⟨_, (true), (by first | rfl | (simp; done) | (simp [*]; done)), H', ⟨by have := HJ4.out; have := HJ18.out; first | exact Nat.le_refl _ | omega⟩, ⟨by (with_reducible repeat (first | apply Kd.V_alloc | apply Kd.V_drewN | apply Kd.V_drew)); exact Kd.V_mono HO_0.out (fun _ hk => ⟨hk.1, ⟨hk.2.2.1, ⟨hk.2.2.2.1, ⟨hk.2.2.2.2.1, ⟨hk.2.2.2.2.2.1, hk.2.2.2.2.2.2⟩⟩⟩⟩⟩)⟩, ⟨by (with_reducible repeat (first | apply Kd.R_alloc | apply Kd.R_drewN | apply Kd.R_drew)); exact Kd.R_mono HO_14.out (fun _ hk => ⟨hk.1, hk.2.2⟩)⟩, ⟨by (with_reducible repeat (first | apply Kd.R_alloc | apply Kd.R_drewN | apply Kd.R_drew)); exact Kd.R_mono HO_16.out (fun _ hk => ⟨hk.1, hk.2.2⟩)⟩, ⟨by refine bk ?_; exact BK225.out⟩, ⟨by refine bk ?_; exact BK235.out⟩, ⟨by refine bk ?_; exact BK240.out⟩, ⟨(bB3 GE225.out GE235.out GE240.out)⟩⟩
        ·rw [if_neg c60] at H
         have c60b0 : ((t253 == 0) != t252) = false := by simpa using c60
         (try (have c60b1 : decide ((t253 == 0) = t252) = true := by simpa using c60))
         (try (have c60b2 : ((t253 == 0) == t252) = true := by simpa using c60))
         clear c60
         (first | rw [c60b0] | (simp only [i64_w, i32_w]; rw [c60b0]) | skip)
         by_cases c62 : t252 = true
         ·subst c62
          have H1 : (constablelaw05_SubstExact.j2 kj18 l0 l1 a2 t241 t244 t245 t246 true false a3_0 a3_1 a3_2) = some r := by rw [if_pos rfl] at H; exact H
          clear H
          have H := H1
          clear H1
          have H' := Aside0.mk H
          clear H
          go_wp2_with (first | ((with_reducible refine gate_callee (f := 25) rfl ?_); refine goesL_ (some 90) rfl rfl Try.func25 (by kernel_rfl) rfl #[.slice Ao21 t228.length co21] rfl aG ?_; (with_reducible refine (subst_Check.calls kj18 _ _ t228 t253 _ ?side1 ?side2 A59.out).mono ?_); (case side1 => exact sC (Kd.R_reads' HO_9.out).2.2); (case side2 => exact (Kd.R_reads' HO_9.out).2.1); rintro e w63 ⟨rfl, hb⟩; refine ⟨_, rfl, ?_⟩; have n0_ := Aside0.mk (Kd.V_below (by (with_reducible repeat (first | apply Kd.V_alloc | apply Kd.V_drewN | apply Kd.V_drew)); exact HO_0.out) hb); have n1_ := Aside0.mk (Kd.R_below (sR HO_9.out) hb); have n2_ := Aside0.mk (Kd.R_below (sR HO_14.out) hb); have n3_ := Aside0.mk (Kd.R_below (sR HO_16.out) hb); have n4_ := Aside0.mk (blk_below (g := gb225) (o := .cells #[.int .i64 a3_0, .int .i64 a3_1, .string a3_2] 24 (0, 0)) (by refine bk ?_; exact BK225.out) hb); have n5_ := Aside0.mk (blk_below (g := gb235) (o := .cells #[.int .i64 t231, .int .i64 t232, .string t233] 24 (0, 0)) (by refine bk ?_; exact BK235.out) hb); have n6_ := Aside0.mk (blk_below (g := gb240) (o := .cells #[.int .i64 t236, .int .i64 t237, .string t238] 24 (0, 0)) (by refine bk ?_; exact BK240.out) hb); have n7_ := Aside0.mk (below_step (bB3 GE225.out GE235.out GE240.out) hb); clear HO_0; clear HO_9; clear HO_14; clear HO_16; clear BK225; clear BK235; clear BK240; clear HB; have HO_0 := n0_; have HO_9 := n1_; have HO_14 := n2_; have HO_16 := n3_; have BK225 := n4_; have BK235 := n5_; have BK240 := n6_; have HB := n7_; clear n0_ n1_ n2_ n3_ n4_ n5_ n6_ n7_; (try clear hb); (try clear hb2); (try clear hk); (try clear hi)))
          go_meet
          case rel => exact ⟨_, (false), (by first | rfl | (simp; done) | (simp [*]; done)), H', ⟨by have := HJ4.out; have := HJ18.out; first | exact Nat.le_refl _ | omega⟩, ⟨by (with_reducible repeat (first | apply Kd.V_alloc | apply Kd.V_drewN | apply Kd.V_drew)); exact Kd.V_mono HO_0.out (fun _ hk => ⟨hk.1, ⟨hk.2.2.1, ⟨hk.2.2.2.1, ⟨hk.2.2.2.2.1, ⟨hk.2.2.2.2.2.1, hk.2.2.2.2.2.2⟩⟩⟩⟩⟩)⟩, ⟨by (with_reducible repeat (first | apply Kd.R_alloc | apply Kd.R_drewN | apply Kd.R_drew)); exact Kd.R_mono HO_14.out (fun _ hk => ⟨hk.1, hk.2.2⟩)⟩, ⟨by (with_reducible repeat (first | apply Kd.R_alloc | apply Kd.R_drewN | apply Kd.R_drew)); exact Kd.R_mono HO_16.out (fun _ hk => ⟨hk.1, hk.2.2⟩)⟩, ⟨by refine bk ?_; exact BK225.out⟩, ⟨by refine bk ?_; exact BK235.out⟩, ⟨by refine bk ?_; exact BK240.out⟩, ⟨(bB3 GE225.out GE235.out GE240.out)⟩⟩
         ·replace c62 := Bool.eq_false_iff.mpr c62
          subst c62
          have H1 : ((subst_Check.f kj18 t228).bind fun t254 => (constablelaw05_SubstExact.j2 kj18 l0 l1 a2 t241 t244 t245 t246 false (t254 != 1) a3_0 a3_1 a3_2)) = some r := by rw [if_neg (show ¬ (false = true) by decide)] at H; exact H
          clear H
          have H := H1
          clear H1
          replace H := Option.bind_eq_some_iff.mp H
          obtain ⟨t254, A640, H⟩ := H
          replace H : (constablelaw05_SubstExact.j2 kj18 l0 l1 a2 t241 t244 t245 t246 false (t254 != 1) a3_0 a3_1 a3_2) = some r := H
          have A64 := Aside0.mk A640
          clear A640
          have H' := Aside0.mk H
          clear H
          go_wp2_with (first | ((with_reducible refine gate_callee (f := 25) rfl ?_); refine goesL_ (some 90) rfl rfl Try.func25 (by kernel_rfl) rfl #[.slice Ao21 t228.length co21] rfl aG ?_; (with_reducible refine (subst_Check.calls kj18 _ _ t228 t253 _ ?side1 ?side2 A59.out).mono ?_); (case side1 => exact sC (Kd.R_reads' HO_9.out).2.2); (case side2 => exact (Kd.R_reads' HO_9.out).2.1); rintro e w65 ⟨rfl, hb⟩; refine ⟨_, rfl, ?_⟩; have n0_ := Aside0.mk (Kd.V_below (by (with_reducible repeat (first | apply Kd.V_alloc | apply Kd.V_drewN | apply Kd.V_drew)); exact HO_0.out) hb); have n1_ := Aside0.mk (Kd.R_below (sR HO_9.out) hb); have n2_ := Aside0.mk (Kd.R_below (sR HO_14.out) hb); have n3_ := Aside0.mk (Kd.R_below (sR HO_16.out) hb); have n4_ := Aside0.mk (blk_below (g := gb225) (o := .cells #[.int .i64 a3_0, .int .i64 a3_1, .string a3_2] 24 (0, 0)) (by refine bk ?_; exact BK225.out) hb); have n5_ := Aside0.mk (blk_below (g := gb235) (o := .cells #[.int .i64 t231, .int .i64 t232, .string t233] 24 (0, 0)) (by refine bk ?_; exact BK235.out) hb); have n6_ := Aside0.mk (blk_below (g := gb240) (o := .cells #[.int .i64 t236, .int .i64 t237, .string t238] 24 (0, 0)) (by refine bk ?_; exact BK240.out) hb); have n7_ := Aside0.mk (below_step (bB3 GE225.out GE235.out GE240.out) hb); clear HO_0; clear HO_9; clear HO_14; clear HO_16; clear BK225; clear BK235; clear BK240; clear HB; have HO_0 := n0_; have HO_9 := n1_; have HO_14 := n2_; have HO_16 := n3_; have BK225 := n4_; have BK235 := n5_; have BK240 := n6_; have HB := n7_; clear n0_ n1_ n2_ n3_ n4_ n5_ n6_ n7_; (try clear hb); (try clear hb2); (try clear hk); (try clear hi)) | (go_at_call 25; (with_reducible refine (subst_Check.calls kj18 _ _ t228 t254 _ ?side1 ?side2 A64.out).mono ?_); (case side1 => exact sC (Kd.R_reads' HO_9.out).2.2); (case side2 => exact (Kd.R_reads' HO_9.out).2.1); rintro e w66 ⟨rfl, hb⟩; have n0_ := Aside0.mk (Kd.V_below (by (with_reducible repeat (first | apply Kd.V_alloc | apply Kd.V_drewN | apply Kd.V_drew)); exact HO_0.out) hb); have n1_ := Aside0.mk (Kd.R_below (sR HO_9.out) hb); have n2_ := Aside0.mk (Kd.R_below (sR HO_14.out) hb); have n3_ := Aside0.mk (Kd.R_below (sR HO_16.out) hb); have n4_ := Aside0.mk (blk_below (g := gb225) (o := .cells #[.int .i64 a3_0, .int .i64 a3_1, .string a3_2] 24 (0, 0)) (by refine bk ?_; exact BK225.out) hb); have n5_ := Aside0.mk (blk_below (g := gb235) (o := .cells #[.int .i64 t231, .int .i64 t232, .string t233] 24 (0, 0)) (by refine bk ?_; exact BK235.out) hb); have n6_ := Aside0.mk (blk_below (g := gb240) (o := .cells #[.int .i64 t236, .int .i64 t237, .string t238] 24 (0, 0)) (by refine bk ?_; exact BK240.out) hb); have n7_ := Aside0.mk (below_step (bB3 GE225.out GE235.out GE240.out) hb); clear HO_0; clear HO_9; clear HO_14; clear HO_16; clear BK225; clear BK235; clear BK240; clear HB; have HO_0 := n0_; have HO_9 := n1_; have HO_14 := n2_; have HO_16 := n3_; have BK225 := n4_; have BK235 := n5_; have BK240 := n6_; have HB := n7_; clear n0_ n1_ n2_ n3_ n4_ n5_ n6_ n7_; (try clear hb); (try clear hb2); (try clear hk); (try clear hi)))
          go_meet
          case rel => exact ⟨_, ((t254 != 1)), (by first | rfl | (simp; done) | (simp [*]; done)), H', ⟨by have := HJ4.out; have := HJ18.out; first | exact Nat.le_refl _ | omega⟩, ⟨by (with_reducible repeat (first | apply Kd.V_alloc | apply Kd.V_drewN | apply Kd.V_drew)); exact Kd.V_mono HO_0.out (fun _ hk => ⟨hk.1, ⟨hk.2.2.1, ⟨hk.2.2.2.1, ⟨hk.2.2.2.2.1, ⟨hk.2.2.2.2.2.1, hk.2.2.2.2.2.2⟩⟩⟩⟩⟩)⟩, ⟨by (with_reducible repeat (first | apply Kd.R_alloc | apply Kd.R_drewN | apply Kd.R_drew)); exact Kd.R_mono HO_14.out (fun _ hk => ⟨hk.1, hk.2.2⟩)⟩, ⟨by (with_reducible repeat (first | apply Kd.R_alloc | apply Kd.R_drewN | apply Kd.R_drew)); exact Kd.R_mono HO_16.out (fun _ hk => ⟨hk.1, hk.2.2⟩)⟩, ⟨by refine bk ?_; exact BK225.out⟩, ⟨by refine bk ?_; exact BK235.out⟩, ⟨by refine bk ?_; exact BK240.out⟩, ⟨(bB3 GE225.out GE235.out GE240.out)⟩⟩
       case rest => as_aux_lemma =>
        clear HC57
        (try clear c1); (try clear c2); (try clear p2); (try clear c3); (try clear c4); (try clear c5); (try clear c6); (try clear c8); (try clear c10); (try clear c11); (try clear c11b0); (try clear c11b1); (try clear c13); (try clear c15); (try clear c16); (try clear c17); (try clear c18); (try clear c19); (try clear c20); (try clear c21); (try clear c22); (try clear c24); (try clear c25); (try clear c28); (try clear c29); (try clear c36); (try clear c36b0); (try clear c36b1); (try clear c36b2); (try clear c37); (try clear c37b0); (try clear c38); (try clear c39); (try clear c41); (try clear c43); (try clear c43b0); (try clear c43b1); (try clear c43b2); (try clear c44); (try clear c45); (try clear c47); (try clear c50); (try clear c51); (try clear c53); (try clear c55); (try clear c60); (try clear c60b0); (try clear c60b1); (try clear c60b2); (try clear c62); (try clear hcz12_0); (try clear hcz12_1); (try clear hcz12_2); (try clear hcz25_0); (try clear hcz25_1); (try clear hcz25_2); (try clear hcz30_0); (try clear hcz30_1); (try clear hcz30_2); (try clear hcz31_0); (try clear hcz31_1); (try clear hcz31_2); (try clear hcz40_0); (try clear hcz40_1); (try clear hcz40_2); (try clear hcz42_0); (try clear hcz42_1); (try clear hcz42_2); (try clear hcz46_0); (try clear hcz46_1); (try clear hcz46_2); (try clear hcz48_0); (try clear hcz48_1); (try clear hcz48_2); (try clear hcz52_0); (try clear hcz52_1); (try clear hcz52_2); (try clear hcz54_0); (try clear hcz54_1); (try clear hcz54_2); (try clear hfz12_0); (try clear hfz12_1); (try clear hfz12_2); (try clear hfz25_0); (try clear hfz25_1); (try clear hfz25_2); (try clear hfz30_0); (try clear hfz30_1); (try clear hfz30_2); (try clear hfz31_0); (try clear hfz31_1); (try clear hfz31_2); (try clear hfz40_0); (try clear hfz40_1); (try clear hfz40_2); (try clear hfz42_0); (try clear hfz42_1); (try clear hfz42_2); (try clear hfz46_0); (try clear hfz46_1); (try clear hfz46_2); (try clear hfz48_0); (try clear hfz48_1); (try clear hfz48_2); (try clear hfz52_0); (try clear hfz52_1); (try clear hfz52_2); (try clear hfz54_0); (try clear hfz54_1); (try clear hfz54_2); (try clear p2)
        obtain ⟨kq, x102_56, rfl, HA, HJ56, HO_0, HO_14, HO_16, BK225, BK235, BK240, HB⟩ := hcut
        cases kq with
        | zero => exact absurd HA.out (by simp [constablelaw05_SubstExact.j2])
        | succ kj56 =>
         have H := HA.out
         clear HA
         simp only [constablelaw05_SubstExact.j2] at H
         by_cases c67 : x102_56 = true
         ·subst c67
          have H1 : (none) = some r := by rw [if_pos rfl] at H; exact H
          clear H
          have H := H1
          clear H1
          exact absurd H (by simp)
         ·replace c67 := Bool.eq_false_iff.mpr c67
          subst c67
          have H1 : (if t252 = true then ((constableref01_Word.f kj56 a2 true).bind fun t255 => (if t255 = true then ((constableref01_Value.f kj56 a3_0 a3_1 a3_2).bind fun t256 => (constablelaw05_SubstExact.j3 kj56 l0 l1 a2 t241 t244 t245 t246 t252 ([] : List (S39)) t256 a3_0 a3_1 a3_2)) else (constablelaw05_SubstExact.j3 kj56 l0 l1 a2 t241 t244 t245 t246 t252 ([] : List (S39)) false a3_0 a3_1 a3_2))) else (constablelaw05_SubstExact.j3 kj56 l0 l1 a2 t241 t244 t245 t246 t252 ([] : List (S39)) false a3_0 a3_1 a3_2)) = some r := by rw [if_neg (show ¬ (false = true) by decide)] at H; exact H
          clear H
          have H := H1
          clear H1
          have HC68 := Aside0.mk H
          clear H
          go_upto_region 14 with (fail)
          go_cut [20] (fun v20 wc => ∃ (kq : Nat) (x20_67 : Bool), v20 = .bool x20_67 ∧ Aside0 (constablelaw05_SubstExact.j3 kq l0 l1 a2 t241 t244 t245 t246 t252 ([] : List (S39)) x20_67 a3_0 a3_1 a3_2 = some r) ∧ Aside0 (kq ≤ kj56) ∧ Aside0 (Kd.V k39 39 wc w.heap.size (fun k_ => (P0_ k_ ∨ w.heap.size ≤ k_) ∧ some k_ ≠ (v242 : Value).ownBlock ∧ some k_ ≠ (v247 : Value).ownBlock ∧ some k_ ≠ ((.slice none 0 0) : Value).ownBlock ∧ k_ ≠ gb225 ∧ k_ ≠ gb235 ∧ k_ ≠ gb240) (.slice A0 l0.length c0) l0) ∧ Aside0 (Kd.R k39 39 wc w.heap.size (fun k_ => (w.heap.size ≤ k_) ∧ some k_ ≠ (v247 : Value).ownBlock ∧ some k_ ≠ ((.slice none 0 0) : Value).ownBlock) v242 t241) ∧ Aside0 (Kd.R k39 39 wc w.heap.size (fun k_ => (w.heap.size ≤ k_) ∧ some k_ ≠ (v242 : Value).ownBlock ∧ some k_ ≠ ((.slice none 0 0) : Value).ownBlock) v247 t245) ∧ Aside0 (Kd.R k39 39 wc w.heap.size (fun k_ => (w.heap.size ≤ k_) ∧ some k_ ≠ (v242 : Value).ownBlock ∧ some k_ ≠ (v247 : Value).ownBlock) (.slice none 0 0) ([] : List (S39))) ∧ Aside0 (wc.heap[gb225]? = some (.cells #[.int .i64 a3_0, .int .i64 a3_1, .string a3_2] 24 (0, 0))) ∧ Aside0 (wc.heap[gb235]? = some (.cells #[.int .i64 t231, .int .i64 t232, .string t233] 24 (0, 0))) ∧ Aside0 (wc.heap[gb240]? = some (.cells #[.int .i64 t236, .int .i64 t237, .string t238] 24 (0, 0))) ∧ Aside0 (Below w.heap.size w wc))
          case first =>
           have H := HC68.out
           clear HC68
           by_cases c69 : t252 = true
           ·subst c69
            have H1 : ((constableref01_Word.f kj56 a2 true).bind fun t255 => (if t255 = true then ((constableref01_Value.f kj56 a3_0 a3_1 a3_2).bind fun t256 => (constablelaw05_SubstExact.j3 kj56 l0 l1 a2 t241 t244 t245 t246 true ([] : List (S39)) t256 a3_0 a3_1 a3_2)) else (constablelaw05_SubstExact.j3 kj56 l0 l1 a2 t241 t244 t245 t246 true ([] : List (S39)) false a3_0 a3_1 a3_2))) = some r := by rw [if_pos rfl] at H; exact H
            clear H
            have H := H1
            clear H1
            replace H := Option.bind_eq_some_iff.mp H
            obtain ⟨t255, A700, H⟩ := H
            replace H : (if t255 = true then ((constableref01_Value.f kj56 a3_0 a3_1 a3_2).bind fun t256 => (constablelaw05_SubstExact.j3 kj56 l0 l1 a2 t241 t244 t245 t246 true ([] : List (S39)) t256 a3_0 a3_1 a3_2)) else (constablelaw05_SubstExact.j3 kj56 l0 l1 a2 t241 t244 t245 t246 true ([] : List (S39)) false a3_0 a3_1 a3_2)) = some r := H
            have A70 := Aside0.mk A700
            clear A700
            by_cases c71 : t255 = true
            ·subst c71
             have H1 : ((constableref01_Value.f kj56 a3_0 a3_1 a3_2).bind fun t256 => (constablelaw05_SubstExact.j3 kj56 l0 l1 a2 t241 t244 t245 t246 true ([] : List (S39)) t256 a3_0 a3_1 a3_2)) = some r := by rw [if_pos rfl] at H; exact H
             clear H
             have H := H1
             clear H1
             replace H := Option.bind_eq_some_iff.mp H
             obtain ⟨t256, A720, H⟩ := H
             replace H : (constablelaw05_SubstExact.j3 kj56 l0 l1 a2 t241 t244 t245 t246 true ([] : List (S39)) t256 a3_0 a3_1 a3_2) = some r := H
             have A72 := Aside0.mk A720
             clear A720
             have H' := Aside0.mk H
             clear H
             go_wp2_with (first | (go_at_call 22; (with_reducible refine (constableref01_Word.calls kj56 a2 true true _ A70.out).mono ?_); rintro e w' ⟨rfl, ⟨nd, rfl⟩⟩; have hnb73 := NB225_235.out; have hnc73 := NB235_225.out; have hnb74 := NB225_240.out; have hnc74 := NB240_225.out; have hcz75_0 : wc.cell? ⟨gb225, 0, none⟩ = some (.int .i64 a3_0) := (blk_cell BK225.out 0).trans rfl; have hcz75_1 : wc.cell? ⟨gb225, 1, none⟩ = some (.int .i64 a3_1) := (blk_cell BK225.out 1).trans rfl; have hcz75_2 : wc.cell? ⟨gb225, 2, none⟩ = some (.string a3_2) := (blk_cell BK225.out 2).trans rfl; have hfz75_0 := blk_frozen BK225.out 0; have hfz75_1 := blk_frozen BK225.out 1; have hfz75_2 := blk_frozen BK225.out 2) | (go_at_call 26; (with_reducible refine (constableref01_Value.calls kj56 a3_0 a3_1 a3_2 t256 _ A72.out).mono ?_); rintro e w76 ⟨rfl, hb⟩; have n0_ := Aside0.mk (Kd.V_below (by (with_reducible repeat (first | apply Kd.V_alloc | apply Kd.V_drewN | apply Kd.V_drew)); exact HO_0.out) hb); have n1_ := Aside0.mk (Kd.R_below (sR HO_14.out) hb); have n2_ := Aside0.mk (Kd.R_below (sR HO_16.out) hb); have n3_ := Aside0.mk (blk_below (g := gb225) (o := .cells #[.int .i64 a3_0, .int .i64 a3_1, .string a3_2] 24 (0, 0)) (by refine bk ?_; exact BK225.out) hb); have n4_ := Aside0.mk (blk_below (g := gb235) (o := .cells #[.int .i64 t231, .int .i64 t232, .string t233] 24 (0, 0)) (by refine bk ?_; exact BK235.out) hb); have n5_ := Aside0.mk (blk_below (g := gb240) (o := .cells #[.int .i64 t236, .int .i64 t237, .string t238] 24 (0, 0)) (by refine bk ?_; exact BK240.out) hb); have n6_ := Aside0.mk (below_step (bB3 GE225.out GE235.out GE240.out) hb); clear HO_0; clear HO_14; clear HO_16; clear BK225; clear BK235; clear BK240; clear HB; have HO_0 := n0_; have HO_14 := n1_; have HO_16 := n2_; have BK225 := n3_; have BK235 := n4_; have BK240 := n5_; have HB := n6_; clear n0_ n1_ n2_ n3_ n4_ n5_ n6_; (try clear hb); (try clear hb2); (try clear hk); (try clear hi)))
             go_meet
             case rel => exact ⟨_, (t256), (by first | rfl | (simp; done) | (simp [*]; done)), H', ⟨by have := HJ4.out; have := HJ18.out; have := HJ56.out; first | exact Nat.le_refl _ | omega⟩, ⟨by (with_reducible repeat (first | apply Kd.V_alloc | apply Kd.V_drewN | apply Kd.V_drew)); exact Kd.V_mono HO_0.out (fun _ hk => ⟨hk.1, ⟨hk.2.1, ⟨hk.2.2.1, ⟨(by simp [Value.ownBlock]), ⟨hk.2.2.2.1, ⟨hk.2.2.2.2.1, hk.2.2.2.2.2⟩⟩⟩⟩⟩⟩)⟩, ⟨by (with_reducible repeat (first | apply Kd.R_alloc | apply Kd.R_drewN | apply Kd.R_drew)); exact Kd.R_mono HO_14.out (fun _ hk => ⟨hk.1, ⟨hk.2, (by simp [Value.ownBlock])⟩⟩)⟩, ⟨by (with_reducible repeat (first | apply Kd.R_alloc | apply Kd.R_drewN | apply Kd.R_drew)); exact Kd.R_mono HO_16.out (fun _ hk => ⟨hk.1, ⟨hk.2, (by simp [Value.ownBlock])⟩⟩)⟩, ⟨by first | exact Kd.R_nil _ _ _ _ _ | exact Kd.N_nil _ _ _ _ _ | exact Kd.V_nil _ _ _ _ _ | exact Kd.Q_nil _ _ _ _ _ | exact Kd.S_nil _ _ _ _ _⟩, ⟨by refine bk ?_; exact BK225.out⟩, ⟨by refine bk ?_; exact BK235.out⟩, ⟨by refine bk ?_; exact BK240.out⟩, ⟨(bB3 GE225.out GE235.out GE240.out)⟩⟩
            ·replace c71 := Bool.eq_false_iff.mpr c71
             subst c71
             have H1 : (constablelaw05_SubstExact.j3 kj56 l0 l1 a2 t241 t244 t245 t246 true ([] : List (S39)) false a3_0 a3_1 a3_2) = some r := by rw [if_neg (show ¬ (false = true) by decide)] at H; exact H
             clear H
             have H := H1
             clear H1
             have H' := Aside0.mk H
             clear H
             go_wp2_with (first | (go_at_call 22; (with_reducible refine (constableref01_Word.calls kj56 a2 true false _ A70.out).mono ?_); rintro e w' ⟨rfl, ⟨nd, rfl⟩⟩))
             go_meet
             case rel => exact ⟨_, (false), (by first | rfl | (simp; done) | (simp [*]; done)), H', ⟨by have := HJ4.out; have := HJ18.out; have := HJ56.out; first | exact Nat.le_refl _ | omega⟩, ⟨by (with_reducible repeat (first | apply Kd.V_alloc | apply Kd.V_drewN | apply Kd.V_drew)); exact Kd.V_mono HO_0.out (fun _ hk => ⟨hk.1, ⟨hk.2.1, ⟨hk.2.2.1, ⟨(by simp [Value.ownBlock]), ⟨hk.2.2.2.1, ⟨hk.2.2.2.2.1, hk.2.2.2.2.2⟩⟩⟩⟩⟩⟩)⟩, ⟨by (with_reducible repeat (first | apply Kd.R_alloc | apply Kd.R_drewN | apply Kd.R_drew)); exact Kd.R_mono HO_14.out (fun _ hk => ⟨hk.1, ⟨hk.2, (by simp [Value.ownBlock])⟩⟩)⟩, ⟨by (with_reducible repeat (first | apply Kd.R_alloc | apply Kd.R_drewN | apply Kd.R_drew)); exact Kd.R_mono HO_16.out (fun _ hk => ⟨hk.1, ⟨hk.2, (by simp [Value.ownBlock])⟩⟩)⟩, ⟨by first | exact Kd.R_nil _ _ _ _ _ | exact Kd.N_nil _ _ _ _ _ | exact Kd.V_nil _ _ _ _ _ | exact Kd.Q_nil _ _ _ _ _ | exact Kd.S_nil _ _ _ _ _⟩, ⟨by refine bk ?_; exact BK225.out⟩, ⟨by refine bk ?_; exact BK235.out⟩, ⟨by refine bk ?_; exact BK240.out⟩, ⟨(bB3 GE225.out GE235.out GE240.out)⟩⟩
           ·replace c69 := Bool.eq_false_iff.mpr c69
            subst c69
            have H1 : (constablelaw05_SubstExact.j3 kj56 l0 l1 a2 t241 t244 t245 t246 false ([] : List (S39)) false a3_0 a3_1 a3_2) = some r := by rw [if_neg (show ¬ (false = true) by decide)] at H; exact H
            clear H
            have H := H1
            clear H1
            have H' := Aside0.mk H
            clear H
            go_wp2
            go_meet
            case rel => exact ⟨_, (false), (by first | rfl | (simp; done) | (simp [*]; done)), H', ⟨by have := HJ4.out; have := HJ18.out; have := HJ56.out; first | exact Nat.le_refl _ | omega⟩, ⟨by (with_reducible repeat (first | apply Kd.V_alloc | apply Kd.V_drewN | apply Kd.V_drew)); exact Kd.V_mono HO_0.out (fun _ hk => ⟨hk.1, ⟨hk.2.1, ⟨hk.2.2.1, ⟨(by simp [Value.ownBlock]), ⟨hk.2.2.2.1, ⟨hk.2.2.2.2.1, hk.2.2.2.2.2⟩⟩⟩⟩⟩⟩)⟩, ⟨by (with_reducible repeat (first | apply Kd.R_alloc | apply Kd.R_drewN | apply Kd.R_drew)); exact Kd.R_mono HO_14.out (fun _ hk => ⟨hk.1, ⟨hk.2, (by simp [Value.ownBlock])⟩⟩)⟩, ⟨by (with_reducible repeat (first | apply Kd.R_alloc | apply Kd.R_drewN | apply Kd.R_drew)); exact Kd.R_mono HO_16.out (fun _ hk => ⟨hk.1, ⟨hk.2, (by simp [Value.ownBlock])⟩⟩)⟩, ⟨by first | exact Kd.R_nil _ _ _ _ _ | exact Kd.N_nil _ _ _ _ _ | exact Kd.V_nil _ _ _ _ _ | exact Kd.Q_nil _ _ _ _ _ | exact Kd.S_nil _ _ _ _ _⟩, ⟨by refine bk ?_; exact BK225.out⟩, ⟨by refine bk ?_; exact BK235.out⟩, ⟨by refine bk ?_; exact BK240.out⟩, ⟨(bB3 GE225.out GE235.out GE240.out)⟩⟩
          case rest => as_aux_lemma =>
           clear HC68
           (try clear c1); (try clear c2); (try clear p2); (try clear c3); (try clear c4); (try clear c5); (try clear c6); (try clear c7); (try clear c8); (try clear c10); (try clear c11); (try clear c11b0); (try clear c11b1); (try clear c13); (try clear c15); (try clear c16); (try clear c17); (try clear c18); (try clear c19); (try clear c20); (try clear c21); (try clear c22); (try clear c24); (try clear c25); (try clear c28); (try clear c29); (try clear c36); (try clear c36b0); (try clear c36b1); (try clear c36b2); (try clear c37); (try clear c37b0); (try clear c38); (try clear c39); (try clear c41); (try clear c43); (try clear c43b0); (try clear c43b1); (try clear c43b2); (try clear c44); (try clear c45); (try clear c47); (try clear c50); (try clear c51); (try clear c53); (try clear c55); (try clear c60); (try clear c60b0); (try clear c60b1); (try clear c60b2); (try clear c62); (try clear c67); (try clear c69); (try clear c71); (try clear c73); (try clear c74); (try clear hcz12_0); (try clear hcz12_1); (try clear hcz12_2); (try clear hcz25_0); (try clear hcz25_1); (try clear hcz25_2); (try clear hcz30_0); (try clear hcz30_1); (try clear hcz30_2); (try clear hcz31_0); (try clear hcz31_1); (try clear hcz31_2); (try clear hcz40_0); (try clear hcz40_1); (try clear hcz40_2); (try clear hcz42_0); (try clear hcz42_1); (try clear hcz42_2); (try clear hcz46_0); (try clear hcz46_1); (try clear hcz46_2); (try clear hcz48_0); (try clear hcz48_1); (try clear hcz48_2); (try clear hcz52_0); (try clear hcz52_1); (try clear hcz52_2); (try clear hcz54_0); (try clear hcz54_1); (try clear hcz54_2); (try clear hcz75_0); (try clear hcz75_1); (try clear hcz75_2); (try clear hfz12_0); (try clear hfz12_1); (try clear hfz12_2); (try clear hfz25_0); (try clear hfz25_1); (try clear hfz25_2); (try clear hfz30_0); (try clear hfz30_1); (try clear hfz30_2); (try clear hfz31_0); (try clear hfz31_1); (try clear hfz31_2); (try clear hfz40_0); (try clear hfz40_1); (try clear hfz40_2); (try clear hfz42_0); (try clear hfz42_1); (try clear hfz42_2); (try clear hfz46_0); (try clear hfz46_1); (try clear hfz46_2); (try clear hfz48_0); (try clear hfz48_1); (try clear hfz48_2); (try clear hfz52_0); (try clear hfz52_1); (try clear hfz52_2); (try clear hfz54_0); (try clear hfz54_1); (try clear hfz54_2); (try clear hfz75_0); (try clear hfz75_1); (try clear hfz75_2); (try clear p2)
           obtain ⟨kq, x20_67, rfl, HA, HJ67, HO_0, HO_14, HO_16, HO_19, BK225, BK235, BK240, HB⟩ := hcut
           cases kq with
           | zero => exact absurd HA.out (by simp [constablelaw05_SubstExact.j3])
           | succ kj67 =>
            have H := HA.out
            clear HA
            simp only [constablelaw05_SubstExact.j3] at H
            have HC77 := Aside0.mk H
            clear H
            go_upto_if 112 with (fail)
            go_cut [19, 20] (fun v19 v20 wc => ∃ (kq : Nat) (x19_76 : List (S39)) (x20_76 : Bool), v20 = .bool x20_76 ∧ Aside0 (constablelaw05_SubstExact.j4 kq l0 l1 t241 t244 t245 t246 t252 x19_76 x20_76 = some r) ∧ Aside0 (kq ≤ kj67) ∧ Aside0 (Kd.V k39 39 wc w.heap.size (fun k_ => (P0_ k_ ∨ w.heap.size ≤ k_) ∧ some k_ ≠ (v242 : Value).ownBlock ∧ some k_ ≠ (v247 : Value).ownBlock ∧ k_ ≠ gb225 ∧ k_ ≠ gb235 ∧ k_ ≠ gb240) (.slice A0 l0.length c0) l0) ∧ Aside0 (Kd.R k39 39 wc w.heap.size (fun k_ => (w.heap.size ≤ k_) ∧ some k_ ≠ (v247 : Value).ownBlock) v242 t241) ∧ Aside0 (Kd.R k39 39 wc w.heap.size (fun k_ => (w.heap.size ≤ k_) ∧ some k_ ≠ (v242 : Value).ownBlock) v247 t245) ∧ Aside0 (Kd.V k39 39 wc w.heap.size (fun k_ => (P0_ k_ ∨ w.heap.size ≤ k_) ∧ some k_ ≠ (v242 : Value).ownBlock ∧ some k_ ≠ (v247 : Value).ownBlock ∧ k_ ≠ gb225 ∧ k_ ≠ gb235 ∧ k_ ≠ gb240) v19 x19_76) ∧ Aside0 (wc.heap[gb225]? = some (.cells #[.int .i64 a3_0, .int .i64 a3_1, .string a3_2] 24 (0, 0))) ∧ Aside0 (wc.heap[gb235]? = some (.cells #[.int .i64 t231, .int .i64 t232, .string t233] 24 (0, 0))) ∧ Aside0 (wc.heap[gb240]? = some (.cells #[.int .i64 t236, .int .i64 t237, .string t238] 24 (0, 0))) ∧ Aside0 (Below w.heap.size w wc))
            case first =>
             have H := HC77.out
             clear HC77
             by_cases c78 : x20_67 = true
             ·subst c78
              have H1 : ((constableref01_Bind.f kj67 l0 a2 a3_0 a3_1 a3_2).bind fun bt257 => (constablelaw05_SubstExact.j4 kj67 l0 l1 t241 t244 t245 t246 t252 bt257.1 bt257.2)) = some r := by rw [if_pos rfl] at H; exact H
              clear H
              have H := H1
              clear H1
              replace H := Option.bind_eq_some_iff.mp H
              obtain ⟨⟨t257, t260⟩, A790, H⟩ := H
              replace H : (constablelaw05_SubstExact.j4 kj67 l0 l1 t241 t244 t245 t246 t252 t257 t260) = some r := H
              have A79 := Aside0.mk A790
              clear A790
              have H' := Aside0.mk H
              clear H
              have hnb80 := NB225_235.out
              have hnc80 := NB235_225.out
              have hnb81 := NB225_240.out
              have hnc81 := NB240_225.out
              have hcz82_0 : wc.cell? ⟨gb225, 0, none⟩ = some (.int .i64 a3_0) := (blk_cell BK225.out 0).trans rfl
              have hcz82_1 : wc.cell? ⟨gb225, 1, none⟩ = some (.int .i64 a3_1) := (blk_cell BK225.out 1).trans rfl
              have hcz82_2 : wc.cell? ⟨gb225, 2, none⟩ = some (.string a3_2) := (blk_cell BK225.out 2).trans rfl
              have hfz82_0 := blk_frozen BK225.out 0
              have hfz82_1 := blk_frozen BK225.out 1
              have hfz82_2 := blk_frozen BK225.out 2
              go_wp2_with (first | ((with_reducible refine gate_callee (f := 27) rfl ?_); refine goesL_ (some 117) rfl rfl Try.func27 (by kernel_rfl) rfl #[.slice A0 l0.length c0, .string a2, .agg #[.int .i64 a3_0, .int .i64 a3_1, .string a3_2]] rfl aG ?_; (with_reducible refine (constableref01_Bind.calls kj67 (fun k_ => ((P0_ k_ ∨ w.heap.size ≤ k_) ∧ (some k_ ≠ (v242 : Value).ownBlock ∧ (some k_ ≠ (v247 : Value).ownBlock ∧ (some k_ ≠ (.slice none 0 0 : Value).ownBlock ∧ (k_ ≠ gb225 ∧ (k_ ≠ gb235 ∧ k_ ≠ gb240))))))) _ _ l0 a2 a3_0 a3_1 a3_2 t257 t260 _ ?side1 A79.out).mono ?_); (case side1 => exact HO_0.out); rintro e w83 ⟨v258, rfl, ho0, hb⟩; refine ⟨_, rfl, ?_⟩; have n0_ := Aside0.mk (Kd.V_below (by (with_reducible repeat (first | apply Kd.V_alloc | apply Kd.V_drewN | apply Kd.V_drew)); exact HO_0.out) hb); have n1_ := Aside0.mk (Kd.R_below (sR HO_14.out) hb); have n2_ := Aside0.mk (Kd.R_below (sR HO_16.out) hb); have n3_ := Aside0.mk (Kd.R_below (sR HO_19.out) hb); have n4_ := Aside0.mk (Kd.V_lower (Kd.V_mono (ok' := fun k_ => (P0_ k_ ∨ w.heap.size ≤ k_) ∧ some k_ ≠ (v242 : Value).ownBlock ∧ some k_ ≠ (v247 : Value).ownBlock ∧ some k_ ≠ (.slice none 0 0 : Value).ownBlock ∧ k_ ≠ gb225 ∧ k_ ≠ gb235 ∧ k_ ≠ gb240) ho0 (fun k_ hk_ => ⟨Or.elim hk_ (fun hs_ => hs_.1) (fun hn_ => (.inr (Nat.le_trans (below_size (bB3 GE225.out GE235.out GE240.out)) hn_))), Or.elim hk_ (fun hs_ => hs_.2.1) (fun hn_ => (Kd.fresh' (Kd.R_lt (sR HO_14.out)) k_ hn_)), Or.elim hk_ (fun hs_ => hs_.2.2.1) (fun hn_ => (Kd.fresh' (Kd.R_lt (sR HO_16.out)) k_ hn_)), Or.elim hk_ (fun hs_ => hs_.2.2.2.1) (fun hn_ => (Kd.fresh' (Kd.R_lt (sR HO_19.out)) k_ hn_)), Or.elim hk_ (fun hs_ => hs_.2.2.2.2.1) (fun hn_ => (Kd.freshB (g := gb225) (o := .cells #[.int .i64 a3_0, .int .i64 a3_1, .string a3_2] 24 (0, 0)) (by refine bk ?_; exact BK225.out) k_ hn_)), Or.elim hk_ (fun hs_ => hs_.2.2.2.2.2.1) (fun hn_ => (Kd.freshB (g := gb235) (o := .cells #[.int .i64 t231, .int .i64 t232, .string t233] 24 (0, 0)) (by refine bk ?_; exact BK235.out) k_ hn_)), Or.elim hk_ (fun hs_ => hs_.2.2.2.2.2.2) (fun hn_ => (Kd.freshB (g := gb240) (o := .cells #[.int .i64 t236, .int .i64 t237, .string t238] 24 (0, 0)) (by refine bk ?_; exact BK240.out) k_ hn_))⟩)) (below_size (bB3 GE225.out GE235.out GE240.out))); have n5_ := Aside0.mk (blk_below (g := gb225) (o := .cells #[.int .i64 a3_0, .int .i64 a3_1, .string a3_2] 24 (0, 0)) (by refine bk ?_; exact BK225.out) hb); have n6_ := Aside0.mk (blk_below (g := gb235) (o := .cells #[.int .i64 t231, .int .i64 t232, .string t233] 24 (0, 0)) (by refine bk ?_; exact BK235.out) hb); have n7_ := Aside0.mk (blk_below (g := gb240) (o := .cells #[.int .i64 t236, .int .i64 t237, .string t238] 24 (0, 0)) (by refine bk ?_; exact BK240.out) hb); have n8_ := Aside0.mk (below_step (bB3 GE225.out GE235.out GE240.out) hb); clear HO_0; clear HO_14; clear HO_16; clear HO_19; clear BK225; clear BK235; clear BK240; clear HB; have HO_0 := n0_; have HO_14 := n1_; have HO_16 := n2_; have HO_19 := n3_; have HO259 := n4_; have BK225 := n5_; have BK235 := n6_; have BK240 := n7_; have HB := n8_; clear n0_ n1_ n2_ n3_ n4_ n5_ n6_ n7_ n8_; (try clear hb); (try clear hb2); (try clear hk); (try clear hi); (try clear ho0)))
              go_meet
              case rel => exact ⟨_, (t257), (t260), (by first | rfl | (simp; done) | (simp [*]; done)), H', ⟨by have := HJ4.out; have := HJ18.out; have := HJ56.out; have := HJ67.out; first | exact Nat.le_refl _ | omega⟩, ⟨by (with_reducible repeat (first | apply Kd.V_alloc | apply Kd.V_drewN | apply Kd.V_drew)); exact Kd.V_mono HO_0.out (fun _ hk => ⟨hk.1, ⟨hk.2.1, ⟨hk.2.2.1, ⟨hk.2.2.2.2.1, ⟨hk.2.2.2.2.2.1, hk.2.2.2.2.2.2⟩⟩⟩⟩⟩)⟩, ⟨by (with_reducible repeat (first | apply Kd.R_alloc | apply Kd.R_drewN | apply Kd.R_drew)); exact Kd.R_mono HO_14.out (fun _ hk => ⟨hk.1, hk.2.1⟩)⟩, ⟨by (with_reducible repeat (first | apply Kd.R_alloc | apply Kd.R_drewN | apply Kd.R_drew)); exact Kd.R_mono HO_16.out (fun _ hk => ⟨hk.1, hk.2.1⟩)⟩, ⟨by (with_reducible repeat (first | apply Kd.V_alloc | apply Kd.V_drewN | apply Kd.V_drew)); exact Kd.V_mono HO259.out (fun _ hk => ⟨hk.1, ⟨hk.2.1, ⟨hk.2.2.1, ⟨hk.2.2.2.2.1, ⟨hk.2.2.2.2.2.1, hk.2.2.2.2.2.2⟩⟩⟩⟩⟩)⟩, ⟨by refine bk ?_; exact BK225.out⟩, ⟨by refine bk ?_; exact BK235.out⟩, ⟨by refine bk ?_; exact BK240.out⟩, ⟨(bB3 GE225.out GE235.out GE240.out)⟩⟩
             ·replace c78 := Bool.eq_false_iff.mpr c78
              subst c78
              have H1 : (constablelaw05_SubstExact.j4 kj67 l0 l1 t241 t244 t245 t246 t252 ([] : List (S39)) false) = some r := by rw [if_neg (show ¬ (false = true) by decide)] at H; exact H
              clear H
              have H := H1
              clear H1
              have H' := Aside0.mk H
              clear H
              go_wp2
              go_meet
              case rel => exact ⟨_, (([] : List (S39))), (false), (by first | rfl | (simp; done) | (simp [*]; done)), H', ⟨by have := HJ4.out; have := HJ18.out; have := HJ56.out; have := HJ67.out; first | exact Nat.le_refl _ | omega⟩, ⟨by (with_reducible repeat (first | apply Kd.V_alloc | apply Kd.V_drewN | apply Kd.V_drew)); exact Kd.V_mono HO_0.out (fun _ hk => ⟨hk.1, ⟨hk.2.1, ⟨hk.2.2.1, ⟨hk.2.2.2.2.1, ⟨hk.2.2.2.2.2.1, hk.2.2.2.2.2.2⟩⟩⟩⟩⟩)⟩, ⟨by (with_reducible repeat (first | apply Kd.R_alloc | apply Kd.R_drewN | apply Kd.R_drew)); exact Kd.R_mono HO_14.out (fun _ hk => ⟨hk.1, hk.2.1⟩)⟩, ⟨by (with_reducible repeat (first | apply Kd.R_alloc | apply Kd.R_drewN | apply Kd.R_drew)); exact Kd.R_mono HO_16.out (fun _ hk => ⟨hk.1, hk.2.1⟩)⟩, ⟨Kd.V_nil _ _ _ _ _⟩, ⟨by refine bk ?_; exact BK225.out⟩, ⟨by refine bk ?_; exact BK235.out⟩, ⟨by refine bk ?_; exact BK240.out⟩, ⟨(bB3 GE225.out GE235.out GE240.out)⟩⟩
            case rest => as_aux_lemma =>
             clear HC77
             (try clear c1); (try clear c2); (try clear p2); (try clear c3); (try clear c4); (try clear c5); (try clear c6); (try clear c7); (try clear c8); (try clear c10); (try clear c11); (try clear c11b0); (try clear c11b1); (try clear c13); (try clear c15); (try clear c16); (try clear c17); (try clear c18); (try clear c19); (try clear c20); (try clear c21); (try clear c22); (try clear c24); (try clear c25); (try clear c27); (try clear c28); (try clear c29); (try clear c36); (try clear c36b0); (try clear c36b1); (try clear c36b2); (try clear c37); (try clear c37b0); (try clear c38); (try clear c39); (try clear c41); (try clear c43); (try clear c43b0); (try clear c43b1); (try clear c43b2); (try clear c44); (try clear c45); (try clear c47); (try clear c50); (try clear c51); (try clear c53); (try clear c55); (try clear c60); (try clear c60b0); (try clear c60b1); (try clear c60b2); (try clear c62); (try clear c67); (try clear c69); (try clear c71); (try clear c73); (try clear c74); (try clear c78); (try clear c80); (try clear c81); (try clear hcz12_0); (try clear hcz12_1); (try clear hcz12_2); (try clear hcz25_0); (try clear hcz25_1); (try clear hcz25_2); (try clear hcz30_0); (try clear hcz30_1); (try clear hcz30_2); (try clear hcz31_0); (try clear hcz31_1); (try clear hcz31_2); (try clear hcz40_0); (try clear hcz40_1); (try clear hcz40_2); (try clear hcz42_0); (try clear hcz42_1); (try clear hcz42_2); (try clear hcz46_0); (try clear hcz46_1); (try clear hcz46_2); (try clear hcz48_0); (try clear hcz48_1); (try clear hcz48_2); (try clear hcz52_0); (try clear hcz52_1); (try clear hcz52_2); (try clear hcz54_0); (try clear hcz54_1); (try clear hcz54_2); (try clear hcz75_0); (try clear hcz75_1); (try clear hcz75_2); (try clear hcz82_0); (try clear hcz82_1); (try clear hcz82_2); (try clear hfz12_0); (try clear hfz12_1); (try clear hfz12_2); (try clear hfz25_0); (try clear hfz25_1); (try clear hfz25_2); (try clear hfz30_0); (try clear hfz30_1); (try clear hfz30_2); (try clear hfz31_0); (try clear hfz31_1); (try clear hfz31_2); (try clear hfz40_0); (try clear hfz40_1); (try clear hfz40_2); (try clear hfz42_0); (try clear hfz42_1); (try clear hfz42_2); (try clear hfz46_0); (try clear hfz46_1); (try clear hfz46_2); (try clear hfz48_0); (try clear hfz48_1); (try clear hfz48_2); (try clear hfz52_0); (try clear hfz52_1); (try clear hfz52_2); (try clear hfz54_0); (try clear hfz54_1); (try clear hfz54_2); (try clear hfz75_0); (try clear hfz75_1); (try clear hfz75_2); (try clear hfz82_0); (try clear hfz82_1); (try clear hfz82_2); (try clear p2)
             obtain ⟨kq, x19_76, x20_76, rfl, HA, HJ76, HO_0, HO_14, HO_16, HO_19, BK225, BK235, BK240, HB⟩ := hcut
             cases kq with
             | zero => exact absurd HA.out (by simp [constablelaw05_SubstExact.j4])
             | succ kj76 =>
              have H := HA.out
              clear HA
              simp only [constablelaw05_SubstExact.j4] at H
              have HC84 := Aside0.mk H
              clear H
              go_upto_region 17 with (fail)
              go_cut [140] (fun v140 wc => ∃ (kq : Nat) (x140_83 : Bool), v140 = .bool x140_83 ∧ Aside0 (constablelaw05_SubstExact.j5 kq l0 l1 t245 t246 t252 x140_83 = some r) ∧ Aside0 (kq ≤ kj76) ∧ Aside0 (Kd.V k39 39 wc w.heap.size (fun k_ => (P0_ k_ ∨ w.heap.size ≤ k_) ∧ some k_ ≠ (v247 : Value).ownBlock ∧ k_ ≠ gb225 ∧ k_ ≠ gb235 ∧ k_ ≠ gb240) (.slice A0 l0.length c0) l0) ∧ Aside0 (Kd.R k39 39 wc w.heap.size (fun k_ => (w.heap.size ≤ k_)) v247 t245) ∧ Aside0 (wc.heap[gb225]? = some (.cells #[.int .i64 a3_0, .int .i64 a3_1, .string a3_2] 24 (0, 0))) ∧ Aside0 (wc.heap[gb235]? = some (.cells #[.int .i64 t231, .int .i64 t232, .string t233] 24 (0, 0))) ∧ Aside0 (wc.heap[gb240]? = some (.cells #[.int .i64 t236, .int .i64 t237, .string t238] 24 (0, 0))) ∧ Aside0 (Below w.heap.size w wc))
              case first =>
               have H := HC84.out
               clear HC84
               by_cases c85 : (t244 != x20_76) = true
               ·rw [if_pos c85] at H
                have c85b0 : (t244 != x20_76) = true := c85
                (try (have c85b1 : decide (t244 = x20_76) = false := by simpa using c85))
                (try (have c85b2 : (t244 == x20_76) = false := by simpa using c85))
                (try (have c85b3 : ¬ (t244 = x20_76) := by simpa using c85))
                clear c85
                (first | rw [c85b0] | (simp only [i64_w, i32_w]; rw [c85b0]) | skip)
                have H' := Aside0.mk H
                clear H
                go_wp2
                go_meet
                case rel => exact ⟨_, (true), (by first | rfl | (simp; done) | (simp [*]; done)), H', ⟨by have := HJ4.out; have := HJ18.out; have := HJ56.out; have := HJ67.out; have := HJ76.out; first | exact Nat.le_refl _ | omega⟩, ⟨by (with_reducible repeat (first | apply Kd.V_alloc | apply Kd.V_drewN | apply Kd.V_drew)); exact Kd.V_mono HO_0.out (fun _ hk => ⟨hk.1, ⟨hk.2.2.1, ⟨hk.2.2.2.1, ⟨hk.2.2.2.2.1, hk.2.2.2.2.2⟩⟩⟩⟩)⟩, ⟨by (with_reducible repeat (first | apply Kd.R_alloc | apply Kd.R_drewN | apply Kd.R_drew)); exact Kd.R_mono HO_16.out (fun _ hk => hk.1)⟩, ⟨by refine bk ?_; exact BK225.out⟩, ⟨by refine bk ?_; exact BK235.out⟩, ⟨by refine bk ?_; exact BK240.out⟩, ⟨(bB3 GE225.out GE235.out GE240.out)⟩⟩
               ·rw [if_neg c85] at H
                have c85b0 : (t244 != x20_76) = false := by simpa using c85
                (try (have c85b1 : decide (t244 = x20_76) = true := by simpa using c85))
                (try (have c85b2 : (t244 == x20_76) = true := by simpa using c85))
                clear c85
                (first | rw [c85b0] | (simp only [i64_w, i32_w]; rw [c85b0]) | skip)
                by_cases c86 : x20_76 = true
                ·subst c86
                 have H1 : ((constablekeep_Binds.f kj76 t241 x19_76).bind fun t261 => (constablelaw05_SubstExact.j5 kj76 l0 l1 t245 t246 t252 (!t261))) = some r := by rw [if_pos rfl] at H; exact H
                 clear H
                 have H := H1
                 clear H1
                 replace H := Option.bind_eq_some_iff.mp H
                 obtain ⟨t261, A870, H⟩ := H
                 replace H : (constablelaw05_SubstExact.j5 kj76 l0 l1 t245 t246 t252 (!t261)) = some r := H
                 have A87 := Aside0.mk A870
                 clear A870
                 have H' := Aside0.mk H
                 clear H
                 obtain ⟨Ao88, co88, eo88⟩ := Kd.R_slice HO_14.out
                 subst eo88
                 obtain ⟨Ao89, co89, eo89⟩ := Kd.V_slice HO_19.out
                 subst eo89
                 go_wp2_with (first | (go_at_call 23; (with_reducible refine (constablekeep_Binds.calls kj76 _ _ t241 _ _ x19_76 t261 _ ?side1 ?side2 ?side3 ?side4 A87.out).mono ?_); (case side1 => exact sC (Kd.R_reads' HO_14.out).2.2); (case side2 => exact (Kd.R_reads' HO_14.out).2.1); (case side3 => exact sC (Kd.V_reads' HO_19.out).2.2); (case side4 => exact (Kd.V_reads' HO_19.out).2.1); rintro e w' ⟨rfl, ⟨nd, rfl⟩⟩))
                 go_meet
                 case rel => exact ⟨_, (!t261), (by first | rfl | (simp; done) | (simp [*]; done)), H', ⟨by have := HJ4.out; have := HJ18.out; have := HJ56.out; have := HJ67.out; have := HJ76.out; first | exact Nat.le_refl _ | omega⟩, ⟨by (with_reducible repeat (first | apply Kd.V_alloc | apply Kd.V_drewN | apply Kd.V_drew)); exact Kd.V_mono HO_0.out (fun _ hk => ⟨hk.1, ⟨hk.2.2.1, ⟨hk.2.2.2.1, ⟨hk.2.2.2.2.1, hk.2.2.2.2.2⟩⟩⟩⟩)⟩, ⟨by (with_reducible repeat (first | apply Kd.R_alloc | apply Kd.R_drewN | apply Kd.R_drew)); exact Kd.R_mono HO_16.out (fun _ hk => hk.1)⟩, ⟨by refine bk ?_; exact BK225.out⟩, ⟨by refine bk ?_; exact BK235.out⟩, ⟨by refine bk ?_; exact BK240.out⟩, ⟨(bB3 GE225.out GE235.out GE240.out)⟩⟩
                ·replace c86 := Bool.eq_false_iff.mpr c86
                 subst c86
                 have H1 : (if (t241.length : Int) > 0 then (constablelaw05_SubstExact.j5 kj76 l0 l1 t245 t246 t252 true) else (constablelaw05_SubstExact.j5 kj76 l0 l1 t245 t246 t252 false)) = some r := by rw [if_neg (show ¬ (false = true) by decide)] at H; exact H
                 clear H
                 have H := H1
                 clear H1
                 by_cases c90 : (t241.length : Int) > 0
                 ·rw [if_pos c90] at H
                  have c90b0 : decide (0 < (t241.length : Int)) = true := decide_eq_true c90
                  have c90b1 : decide (0 < t241.length) = true := decide_eq_true (by omega)
                  clear c90
                  have H' := Aside0.mk H
                  clear H
                  obtain ⟨Ao91, co91, eo91⟩ := Kd.R_slice HO_14.out
                  subst eo91
                  go_wp2
                  go_meet
                  case rel => exact ⟨_, (true), (by first | rfl | (simp; done) | (simp [*]; done)), H', ⟨by have := HJ4.out; have := HJ18.out; have := HJ56.out; have := HJ67.out; have := HJ76.out; first | exact Nat.le_refl _ | omega⟩, ⟨by (with_reducible repeat (first | apply Kd.V_alloc | apply Kd.V_drewN | apply Kd.V_drew)); exact Kd.V_mono HO_0.out (fun _ hk => ⟨hk.1, ⟨hk.2.2.1, ⟨hk.2.2.2.1, ⟨hk.2.2.2.2.1, hk.2.2.2.2.2⟩⟩⟩⟩)⟩, ⟨by (with_reducible repeat (first | apply Kd.R_alloc | apply Kd.R_drewN | apply Kd.R_drew)); exact Kd.R_mono HO_16.out (fun _ hk => hk.1)⟩, ⟨by refine bk ?_; exact BK225.out⟩, ⟨by refine bk ?_; exact BK235.out⟩, ⟨by refine bk ?_; exact BK240.out⟩, ⟨(bB3 GE225.out GE235.out GE240.out)⟩⟩
                 ·rw [if_neg c90] at H
                  have c90b0 : decide (0 < (t241.length : Int)) = false := decide_eq_false c90
                  have c90b1 : decide (0 < t241.length) = false := decide_eq_false (by omega)
                  clear c90
                  have H' := Aside0.mk H
                  clear H
                  obtain ⟨Ao92, co92, eo92⟩ := Kd.R_slice HO_14.out
                  subst eo92
                  go_wp2
                  go_meet
                  case rel => exact ⟨_, (false), (by first | rfl | (simp; done) | (simp [*]; done)), H', ⟨by have := HJ4.out; have := HJ18.out; have := HJ56.out; have := HJ67.out; have := HJ76.out; first | exact Nat.le_refl _ | omega⟩, ⟨by (with_reducible repeat (first | apply Kd.V_alloc | apply Kd.V_drewN | apply Kd.V_drew)); exact Kd.V_mono HO_0.out (fun _ hk => ⟨hk.1, ⟨hk.2.2.1, ⟨hk.2.2.2.1, ⟨hk.2.2.2.2.1, hk.2.2.2.2.2⟩⟩⟩⟩)⟩, ⟨by (with_reducible repeat (first | apply Kd.R_alloc | apply Kd.R_drewN | apply Kd.R_drew)); exact Kd.R_mono HO_16.out (fun _ hk => hk.1)⟩, ⟨by refine bk ?_; exact BK225.out⟩, ⟨by refine bk ?_; exact BK235.out⟩, ⟨by refine bk ?_; exact BK240.out⟩, ⟨(bB3 GE225.out GE235.out GE240.out)⟩⟩
              case rest => as_aux_lemma =>
               clear HC84
               (try clear c1); (try clear c2); (try clear p2); (try clear c3); (try clear c4); (try clear c5); (try clear c6); (try clear c7); (try clear c8); (try clear c9); (try clear c10); (try clear c11); (try clear c11b0); (try clear c11b1); (try clear c13); (try clear c15); (try clear c16); (try clear c17); (try clear c18); (try clear c19); (try clear c20); (try clear c21); (try clear c22); (try clear c24); (try clear c25); (try clear c27); (try clear c28); (try clear c29); (try clear c36); (try clear c36b0); (try clear c36b1); (try clear c36b2); (try clear c37); (try clear c37b0); (try clear c38); (try clear c39); (try clear c41); (try clear c43); (try clear c43b0); (try clear c43b1); (try clear c43b2); (try clear c44); (try clear c45); (try clear c47); (try clear c50); (try clear c51); (try clear c53); (try clear c55); (try clear c60); (try clear c60b0); (try clear c60b1); (try clear c60b2); (try clear c62); (try clear c67); (try clear c69); (try clear c71); (try clear c73); (try clear c74); (try clear c78); (try clear c80); (try clear c81); (try clear c85); (try clear c85b0); (try clear c85b1); (try clear c85b2); (try clear c86); (try clear c90); (try clear c90b0); (try clear c90b1); (try clear hcz12_0); (try clear hcz12_1); (try clear hcz12_2); (try clear hcz25_0); (try clear hcz25_1); (try clear hcz25_2); (try clear hcz30_0); (try clear hcz30_1); (try clear hcz30_2); (try clear hcz31_0); (try clear hcz31_1); (try clear hcz31_2); (try clear hcz40_0); (try clear hcz40_1); (try clear hcz40_2); (try clear hcz42_0); (try clear hcz42_1); (try clear hcz42_2); (try clear hcz46_0); (try clear hcz46_1); (try clear hcz46_2); (try clear hcz48_0); (try clear hcz48_1); (try clear hcz48_2); (try clear hcz52_0); (try clear hcz52_1); (try clear hcz52_2); (try clear hcz54_0); (try clear hcz54_1); (try clear hcz54_2); (try clear hcz75_0); (try clear hcz75_1); (try clear hcz75_2); (try clear hcz82_0); (try clear hcz82_1); (try clear hcz82_2); (try clear hfz12_0); (try clear hfz12_1); (try clear hfz12_2); (try clear hfz25_0); (try clear hfz25_1); (try clear hfz25_2); (try clear hfz30_0); (try clear hfz30_1); (try clear hfz30_2); (try clear hfz31_0); (try clear hfz31_1); (try clear hfz31_2); (try clear hfz40_0); (try clear hfz40_1); (try clear hfz40_2); (try clear hfz42_0); (try clear hfz42_1); (try clear hfz42_2); (try clear hfz46_0); (try clear hfz46_1); (try clear hfz46_2); (try clear hfz48_0); (try clear hfz48_1); (try clear hfz48_2); (try clear hfz52_0); (try clear hfz52_1); (try clear hfz52_2); (try clear hfz54_0); (try clear hfz54_1); (try clear hfz54_2); (try clear hfz75_0); (try clear hfz75_1); (try clear hfz75_2); (try clear hfz82_0); (try clear hfz82_1); (try clear hfz82_2); (try clear p2)
               obtain ⟨kq, x140_83, rfl, HA, HJ83, HO_0, HO_16, BK225, BK235, BK240, HB⟩ := hcut
               cases kq with
               | zero => exact absurd HA.out (by simp [constablelaw05_SubstExact.j5])
               | succ kj83 =>
                have H := HA.out
                clear HA
                simp only [constablelaw05_SubstExact.j5] at H
                by_cases c93 : x140_83 = true
                ·subst c93
                 have H1 : (none) = some r := by rw [if_pos rfl] at H; exact H
                 clear H
                 have H := H1
                 clear H1
                 exact absurd H (by simp)
                ·replace c93 := Bool.eq_false_iff.mpr c93
                 subst c93
                 have H1 : (if t252 = true then ((constableref01_Binds.f kj83 l1).bind fun t262 => (constablelaw05_SubstExact.j6 kj83 l1 t245 t246 l0 t262)) else (constablelaw05_SubstExact.j6 kj83 l1 t245 t246 l0 false)) = some r := by rw [if_neg (show ¬ (false = true) by decide)] at H; exact H
                 clear H
                 have H := H1
                 clear H1
                 have HC94 := Aside0.mk H
                 clear H
                 go_upto_region 19 with (fail)
                 go_cut [19, 20] (fun v19 v20 wc => ∃ (kq : Nat) (x19_93 : List (S39)) (x20_93 : Bool), v20 = .bool x20_93 ∧ Aside0 (constablelaw05_SubstExact.j6 kq l1 t245 t246 x19_93 x20_93 = some r) ∧ Aside0 (kq ≤ kj83) ∧ Aside0 (Kd.R k39 39 wc w.heap.size (fun k_ => (w.heap.size ≤ k_)) v247 t245) ∧ Aside0 (Kd.V k39 39 wc w.heap.size (fun k_ => (P0_ k_ ∨ w.heap.size ≤ k_) ∧ some k_ ≠ (v247 : Value).ownBlock ∧ k_ ≠ gb225 ∧ k_ ≠ gb235 ∧ k_ ≠ gb240) v19 x19_93) ∧ Aside0 (wc.heap[gb225]? = some (.cells #[.int .i64 a3_0, .int .i64 a3_1, .string a3_2] 24 (0, 0))) ∧ Aside0 (wc.heap[gb235]? = some (.cells #[.int .i64 t231, .int .i64 t232, .string t233] 24 (0, 0))) ∧ Aside0 (wc.heap[gb240]? = some (.cells #[.int .i64 t236, .int .i64 t237, .string t238] 24 (0, 0))) ∧ Aside0 (Below w.heap.size w wc))
                 case first =>
                  have H := HC94.out
                  clear HC94
                  by_cases c95 : t252 = true
                  ·subst c95
                   have H1 : ((constableref01_Binds.f kj83 l1).bind fun t262 => (constablelaw05_SubstExact.j6 kj83 l1 t245 t246 l0 t262)) = some r := by rw [if_pos rfl] at H; exact H
                   clear H
                   have H := H1
                   clear H1
                   replace H := Option.bind_eq_some_iff.mp H
                   obtain ⟨t262, A960, H⟩ := H
                   replace H : (constablelaw05_SubstExact.j6 kj83 l1 t245 t246 l0 t262) = some r := H
                   have A96 := Aside0.mk A960
                   clear A960
                   have H' := Aside0.mk H
                   clear H
                   go_wp2_with (first | (go_at_call 24; (with_reducible refine (constableref01_Binds.calls kj83 _ _ l1 t262 _ ?side1 ?side2 A96.out).mono ?_); (case side1 => exact sC (Kd.C_below HR1.out HB.out)); (case side2 => exact HC1.out); rintro e w97 ⟨rfl, hb⟩; have n0_ := Aside0.mk (Kd.V_below (by (with_reducible repeat (first | apply Kd.V_alloc | apply Kd.V_drewN | apply Kd.V_drew)); exact HO_0.out) hb); have n1_ := Aside0.mk (Kd.R_below (sR HO_16.out) hb); have n2_ := Aside0.mk (blk_below (g := gb225) (o := .cells #[.int .i64 a3_0, .int .i64 a3_1, .string a3_2] 24 (0, 0)) (by refine bk ?_; exact BK225.out) hb); have n3_ := Aside0.mk (blk_below (g := gb235) (o := .cells #[.int .i64 t231, .int .i64 t232, .string t233] 24 (0, 0)) (by refine bk ?_; exact BK235.out) hb); have n4_ := Aside0.mk (blk_below (g := gb240) (o := .cells #[.int .i64 t236, .int .i64 t237, .string t238] 24 (0, 0)) (by refine bk ?_; exact BK240.out) hb); have n5_ := Aside0.mk (below_step (bB3 GE225.out GE235.out GE240.out) hb); clear HO_0; clear HO_16; clear BK225; clear BK235; clear BK240; clear HB; have HO_0 := n0_; have HO_16 := n1_; have BK225 := n2_; have BK235 := n3_; have BK240 := n4_; have HB := n5_; clear n0_ n1_ n2_ n3_ n4_ n5_; (try clear hb); (try clear hb2); (try clear hk); (try clear hi)))
                   go_meet
                   case rel => exact ⟨_, (l0), (t262), (by first | rfl | (simp; done) | (simp [*]; done)), H', ⟨by have := HJ4.out; have := HJ18.out; have := HJ56.out; have := HJ67.out; have := HJ76.out; have := HJ83.out; first | exact Nat.le_refl _ | omega⟩, ⟨by (with_reducible repeat (first | apply Kd.R_alloc | apply Kd.R_drewN | apply Kd.R_drew)); exact HO_16.out⟩, ⟨by (with_reducible repeat (first | apply Kd.V_alloc | apply Kd.V_drewN | apply Kd.V_drew)); exact HO_0.out⟩, ⟨by refine bk ?_; exact BK225.out⟩, ⟨by refine bk ?_; exact BK235.out⟩, ⟨by refine bk ?_; exact BK240.out⟩, ⟨(bB3 GE225.out GE235.out GE240.out)⟩⟩
                  ·replace c95 := Bool.eq_false_iff.mpr c95
                   subst c95
                   have H1 : (constablelaw05_SubstExact.j6 kj83 l1 t245 t246 l0 false) = some r := by rw [if_neg (show ¬ (false = true) by decide)] at H; exact H
                   clear H
                   have H := H1
                   clear H1
                   have H' := Aside0.mk H
                   clear H
                   go_wp2
                   go_meet
                   case rel => exact ⟨_, (l0), (false), (by first | rfl | (simp; done) | (simp [*]; done)), H', ⟨by have := HJ4.out; have := HJ18.out; have := HJ56.out; have := HJ67.out; have := HJ76.out; have := HJ83.out; first | exact Nat.le_refl _ | omega⟩, ⟨by (with_reducible repeat (first | apply Kd.R_alloc | apply Kd.R_drewN | apply Kd.R_drew)); exact HO_16.out⟩, ⟨by (with_reducible repeat (first | apply Kd.V_alloc | apply Kd.V_drewN | apply Kd.V_drew)); exact HO_0.out⟩, ⟨by refine bk ?_; exact BK225.out⟩, ⟨by refine bk ?_; exact BK235.out⟩, ⟨by refine bk ?_; exact BK240.out⟩, ⟨(bB3 GE225.out GE235.out GE240.out)⟩⟩
                 case rest => as_aux_lemma =>
                  clear HC94
                  (try clear c1); (try clear c2); (try clear p2); (try clear c3); (try clear c4); (try clear c5); (try clear c6); (try clear c7); (try clear c8); (try clear c9); (try clear c10); (try clear c11); (try clear c11b0); (try clear c11b1); (try clear c13); (try clear c15); (try clear c16); (try clear c17); (try clear c18); (try clear c19); (try clear c20); (try clear c21); (try clear c22); (try clear c24); (try clear c25); (try clear c27); (try clear c28); (try clear c29); (try clear c36); (try clear c36b0); (try clear c36b1); (try clear c36b2); (try clear c37); (try clear c37b0); (try clear c38); (try clear c39); (try clear c41); (try clear c43); (try clear c43b0); (try clear c43b1); (try clear c43b2); (try clear c44); (try clear c45); (try clear c47); (try clear c50); (try clear c51); (try clear c53); (try clear c55); (try clear c60); (try clear c60b0); (try clear c60b1); (try clear c60b2); (try clear c62); (try clear c67); (try clear c69); (try clear c71); (try clear c73); (try clear c74); (try clear c78); (try clear c80); (try clear c81); (try clear c85); (try clear c85b0); (try clear c85b1); (try clear c85b2); (try clear c86); (try clear c90); (try clear c90b0); (try clear c90b1); (try clear c93); (try clear c95); (try clear hcz12_0); (try clear hcz12_1); (try clear hcz12_2); (try clear hcz25_0); (try clear hcz25_1); (try clear hcz25_2); (try clear hcz30_0); (try clear hcz30_1); (try clear hcz30_2); (try clear hcz31_0); (try clear hcz31_1); (try clear hcz31_2); (try clear hcz40_0); (try clear hcz40_1); (try clear hcz40_2); (try clear hcz42_0); (try clear hcz42_1); (try clear hcz42_2); (try clear hcz46_0); (try clear hcz46_1); (try clear hcz46_2); (try clear hcz48_0); (try clear hcz48_1); (try clear hcz48_2); (try clear hcz52_0); (try clear hcz52_1); (try clear hcz52_2); (try clear hcz54_0); (try clear hcz54_1); (try clear hcz54_2); (try clear hcz75_0); (try clear hcz75_1); (try clear hcz75_2); (try clear hcz82_0); (try clear hcz82_1); (try clear hcz82_2); (try clear hfz12_0); (try clear hfz12_1); (try clear hfz12_2); (try clear hfz25_0); (try clear hfz25_1); (try clear hfz25_2); (try clear hfz30_0); (try clear hfz30_1); (try clear hfz30_2); (try clear hfz31_0); (try clear hfz31_1); (try clear hfz31_2); (try clear hfz40_0); (try clear hfz40_1); (try clear hfz40_2); (try clear hfz42_0); (try clear hfz42_1); (try clear hfz42_2); (try clear hfz46_0); (try clear hfz46_1); (try clear hfz46_2); (try clear hfz48_0); (try clear hfz48_1); (try clear hfz48_2); (try clear hfz52_0); (try clear hfz52_1); (try clear hfz52_2); (try clear hfz54_0); (try clear hfz54_1); (try clear hfz54_2); (try clear hfz75_0); (try clear hfz75_1); (try clear hfz75_2); (try clear hfz82_0); (try clear hfz82_1); (try clear hfz82_2); (try clear p2)
                  obtain ⟨kq, x19_93, x20_93, rfl, HA, HJ93, HO_16, HO_19, BK225, BK235, BK240, HB⟩ := hcut
                  cases kq with
                  | zero => exact absurd HA.out (by simp [constablelaw05_SubstExact.j6])
                  | succ kj93 =>
                   have H := HA.out
                   clear HA
                   simp only [constablelaw05_SubstExact.j6] at H
                   have H' := Aside0.mk H
                   clear H
                   go_wp2
                   go_loopg [19, 20, 21] kj93 (fun kq v19 v20 v21 w' => ∃ (x19_8 : List (S39)) (x20_8 : Bool) (x21_8 : Int), v20 = .bool x20_8 ∧ v21 = .int .i64 x21_8 ∧ Aside0 (constablelaw05_SubstExact.l0 kq l1 t245 t246 x19_8 x20_8 x21_8 = some r) ∧ Aside0 (kq ≤ kj93) ∧ Aside0 (Kd.R k39 39 w' w.heap.size (fun k_ => (w.heap.size ≤ k_)) v247 t245) ∧ Aside0 (Kd.V k39 39 w' w.heap.size (fun k_ => (P0_ k_ ∨ w.heap.size ≤ k_) ∧ some k_ ≠ (v247 : Value).ownBlock ∧ k_ ≠ gb225 ∧ k_ ≠ gb235 ∧ k_ ≠ gb240) v19 x19_8) ∧ Aside0 (w'.heap[gb225]? = some (.cells #[.int .i64 a3_0, .int .i64 a3_1, .string a3_2] 24 (0, 0))) ∧ Aside0 (w'.heap[gb235]? = some (.cells #[.int .i64 t231, .int .i64 t232, .string t233] 24 (0, 0))) ∧ Aside0 (w'.heap[gb240]? = some (.cells #[.int .i64 t236, .int .i64 t237, .string t238] 24 (0, 0))) ∧ Aside0 (Below w.heap.size w w'))
                   case atStart => exact ⟨(x19_93), (x20_93), (0), (by first | rfl | (simp; done) | (simp [*]; done)), (by first | rfl | (simp; done) | (simp [*]; done)), H', ⟨Nat.le_refl _⟩, ⟨by (with_reducible repeat (first | apply Kd.R_alloc | apply Kd.R_drewN | apply Kd.R_drew)); exact HO_16.out⟩, ⟨by (with_reducible repeat (first | apply Kd.V_alloc | apply Kd.V_drewN | apply Kd.V_drew)); exact HO_19.out⟩, ⟨by refine bk ?_; exact BK225.out⟩, ⟨by refine bk ?_; exact BK235.out⟩, ⟨by refine bk ?_; exact BK240.out⟩, ⟨(bB3 GE225.out GE235.out GE240.out)⟩⟩
                   case round =>
                    clear H'
                    (try clear c1); (try clear c2); (try clear p2); (try clear c3); (try clear c4); (try clear c5); (try clear c6); (try clear c7); (try clear c8); (try clear c9); (try clear c10); (try clear c11); (try clear c11b0); (try clear c11b1); (try clear c13); (try clear c15); (try clear c16); (try clear c17); (try clear c18); (try clear c19); (try clear c20); (try clear c21); (try clear c22); (try clear c24); (try clear c25); (try clear c27); (try clear c28); (try clear c29); (try clear c36); (try clear c36b0); (try clear c36b1); (try clear c36b2); (try clear c37); (try clear c37b0); (try clear c38); (try clear c39); (try clear c41); (try clear c43); (try clear c43b0); (try clear c43b1); (try clear c43b2); (try clear c44); (try clear c45); (try clear c47); (try clear c50); (try clear c51); (try clear c53); (try clear c55); (try clear c60); (try clear c60b0); (try clear c60b1); (try clear c60b2); (try clear c62); (try clear c67); (try clear c69); (try clear c71); (try clear c73); (try clear c74); (try clear c78); (try clear c80); (try clear c81); (try clear c85); (try clear c85b0); (try clear c85b1); (try clear c85b2); (try clear c86); (try clear c90); (try clear c90b0); (try clear c90b1); (try clear c93); (try clear c95); (try clear hcz12_0); (try clear hcz12_1); (try clear hcz12_2); (try clear hcz25_0); (try clear hcz25_1); (try clear hcz25_2); (try clear hcz30_0); (try clear hcz30_1); (try clear hcz30_2); (try clear hcz31_0); (try clear hcz31_1); (try clear hcz31_2); (try clear hcz40_0); (try clear hcz40_1); (try clear hcz40_2); (try clear hcz42_0); (try clear hcz42_1); (try clear hcz42_2); (try clear hcz46_0); (try clear hcz46_1); (try clear hcz46_2); (try clear hcz48_0); (try clear hcz48_1); (try clear hcz48_2); (try clear hcz52_0); (try clear hcz52_1); (try clear hcz52_2); (try clear hcz54_0); (try clear hcz54_1); (try clear hcz54_2); (try clear hcz75_0); (try clear hcz75_1); (try clear hcz75_2); (try clear hcz82_0); (try clear hcz82_1); (try clear hcz82_2); (try clear hfz12_0); (try clear hfz12_1); (try clear hfz12_2); (try clear hfz25_0); (try clear hfz25_1); (try clear hfz25_2); (try clear hfz30_0); (try clear hfz30_1); (try clear hfz30_2); (try clear hfz31_0); (try clear hfz31_1); (try clear hfz31_2); (try clear hfz40_0); (try clear hfz40_1); (try clear hfz40_2); (try clear hfz42_0); (try clear hfz42_1); (try clear hfz42_2); (try clear hfz46_0); (try clear hfz46_1); (try clear hfz46_2); (try clear hfz48_0); (try clear hfz48_1); (try clear hfz48_2); (try clear hfz52_0); (try clear hfz52_1); (try clear hfz52_2); (try clear hfz54_0); (try clear hfz54_1); (try clear hfz54_2); (try clear hfz75_0); (try clear hfz75_1); (try clear hfz75_2); (try clear hfz82_0); (try clear hfz82_1); (try clear hfz82_2); (try clear p2)
                    obtain ⟨x19_8, x20_8, x21_8, rfl, rfl, HA, HK8, HO_16, HO_19, BK225, BK235, BK240, HB⟩ := hrel
                    cases gk with
                    | zero => exact absurd HA.out (by simp [constablelaw05_SubstExact.l0])
                    | succ k8 =>
                     have H := HA.out
                     clear HA
                     simp only [constablelaw05_SubstExact.l0] at H
                     by_cases c98 : x21_8 < (l1.length : Int)
                     ·rw [if_pos c98] at H
                      have c98b0 : decide (x21_8 < (l1.length : Int)) = true := decide_eq_true c98
                      clear c98
                      by_cases c99 : x20_8 = true
                      ·subst c99
                       have H1 : (if 0 ≤ x21_8 then ((constableref01_Bind.f k8 x19_8 ((rd_T39 l1 x21_8).f0) ((rd_T39 l1 x21_8).f1.f0) ((rd_T39 l1 x21_8).f1.f1) ((rd_T39 l1 x21_8).f1.f2)).bind fun bt265 => (constablelaw05_SubstExact.l0 k8 l1 t245 t246 bt265.1 bt265.2 (wrap64 (x21_8 + 1)))) else (none)) = some r := by rw [if_pos rfl] at H; exact H
                       clear H
                       have H := H1
                       clear H1
                       by_cases c100 : 0 ≤ x21_8
                       ·rw [if_pos c100] at H
                        have c100b0 : decide (0 ≤ x21_8) = true := decide_eq_true c100
                        clear c100
                        replace H := Option.bind_eq_some_iff.mp H
                        obtain ⟨⟨t265, t268⟩, A1010, H⟩ := H
                        replace H : (constablelaw05_SubstExact.l0 k8 l1 t245 t246 t265 t268 (wrap64 (x21_8 + 1))) = some r := H
                        have A101 := Aside0.mk A1010
                        clear A1010
                        have H' := Aside0.mk H
                        clear H
                        try go_wp2
                        have n0_ := Aside0.mk (Kd.R_drew HO_16.out)
                        have n1_ := Aside0.mk (Kd.V_drew HO_19.out)
                        have n2_ := Aside0.mk (blk_drew BK225.out)
                        have n3_ := Aside0.mk (blk_drew BK235.out)
                        have n4_ := Aside0.mk (blk_drew BK240.out)
                        have n5_ := Aside0.mk (below_drew1 HB.out)
                        clear HO_16
                        clear HO_19
                        clear BK225
                        clear BK235
                        clear BK240
                        clear HB
                        have HO_16 := n0_
                        have HO_19 := n1_
                        have BK225 := n2_
                        have BK235 := n3_
                        have BK240 := n4_
                        have HB := n5_
                        clear n0_ n1_ n2_ n3_ n4_ n5_
                        have p263 : 0 ≤ (x21_8 : Int) := of_decide_eq_true (by first | (with_reducible assumption) | assumption)
                        have q263 : x21_8 < (l1.length : Int) := of_decide_eq_true (by first | (with_reducible assumption) | assumption)
                        obtain ⟨ad263, e263, hx263_0, hx263_1, hx263_2, hx263_3⟩ := at_T39 HR1.out x21_8 p263 q263
                        have hw263_3 := hx263_3
                        have hw263_2 := hx263_2
                        have hw263_1 := hx263_1
                        have hw263_0 := hx263_0
                        cases e263
                        replace hx263_0 := (HB.out.cell (World.block_lt_of_cell? w _ hx263_0)).trans hx263_0
                        replace hx263_1 := (HB.out.cell (World.block_lt_of_cell? w _ hx263_1)).trans hx263_1
                        replace hx263_2 := (HB.out.cell (World.block_lt_of_cell? w _ hx263_2)).trans hx263_2
                        replace hx263_3 := (HB.out.cell (World.block_lt_of_cell? w _ hx263_3)).trans hx263_3
                        replace p263 := eq_true p263
                        replace q263 := eq_true q263
                        have p264 : 0 ≤ (x21_8 : Int) := of_decide_eq_true (by first | (with_reducible assumption) | assumption)
                        have q264 : x21_8 < (l1.length : Int) := of_decide_eq_true (by first | (with_reducible assumption) | assumption)
                        obtain ⟨ad264, e264, hx264_0, hx264_1, hx264_2, hx264_3⟩ := at_T39 HR1.out x21_8 p264 q264
                        have hw264_3 := hx264_3
                        have hw264_2 := hx264_2
                        have hw264_1 := hx264_1
                        have hw264_0 := hx264_0
                        obtain rfl : ad263 = ad264 := (by injection e264)
                        replace hx264_0 := (HB.out.cell (World.block_lt_of_cell? w _ hx264_0)).trans hx264_0
                        replace hx264_1 := (HB.out.cell (World.block_lt_of_cell? w _ hx264_1)).trans hx264_1
                        replace hx264_2 := (HB.out.cell (World.block_lt_of_cell? w _ hx264_2)).trans hx264_2
                        replace hx264_3 := (HB.out.cell (World.block_lt_of_cell? w _ hx264_3)).trans hx264_3
                        replace p264 := eq_true p264
                        replace q264 := eq_true q264
                        obtain ⟨Ao103, co103, eo103⟩ := Kd.V_slice HO_19.out
                        (first | subst eo103 | (injection eo103 with f1_ f2_ f3_; have f4_ := f1_.symm; have f5_ := f3_.symm; clear f1_ f2_ f3_; subst f4_; subst f5_))
                        refine start_ (n := 17) (S := fun w' => w'.cell? (ad263.add ((x21_8).toNat * 4)) = some (.string ((rd_T39 l1 x21_8).f0)) ∧ w'.cell? ⟨(ad263.add ((x21_8).toNat * 4)).block, (ad263.add ((x21_8).toNat * 4)).off + 1, none⟩ = some (.int .i64 ((rd_T39 l1 x21_8).f1.f0)) ∧ w'.cell? ⟨(ad263.add ((x21_8).toNat * 4)).block, (ad263.add ((x21_8).toNat * 4)).off + 2, none⟩ = some (.int .i64 ((rd_T39 l1 x21_8).f1.f1)) ∧ w'.cell? ⟨(ad263.add ((x21_8).toNat * 4)).block, (ad263.add ((x21_8).toNat * 4)).off + 3, none⟩ = some (.string ((rd_T39 l1 x21_8).f1.f2)) ∧ w'.cell? (ad263.add ((x21_8).toNat * 4)) = some (.string ((rd_T39 l1 x21_8).f0)) ∧ w'.cell? ⟨(ad263.add ((x21_8).toNat * 4)).block, (ad263.add ((x21_8).toNat * 4)).off + 1, none⟩ = some (.int .i64 ((rd_T39 l1 x21_8).f1.f0)) ∧ w'.cell? ⟨(ad263.add ((x21_8).toNat * 4)).block, (ad263.add ((x21_8).toNat * 4)).off + 2, none⟩ = some (.int .i64 ((rd_T39 l1 x21_8).f1.f1)) ∧ w'.cell? ⟨(ad263.add ((x21_8).toNat * 4)).block, (ad263.add ((x21_8).toNat * 4)).off + 3, none⟩ = some (.string ((rd_T39 l1 x21_8).f1.f2))) (ds := []) #[false, false, false, false, false, false, false, false, false, false, false, false, false, false, false, false, false] (by kernel_rfl) rfl rfl ⟨((HB.out.cell (World.block_lt_of_cell? w _ hw263_0)).trans hw263_0), ((HB.out.cell (World.block_lt_of_cell? w _ hw263_1)).trans hw263_1), ((HB.out.cell (World.block_lt_of_cell? w _ hw263_2)).trans hw263_2), ((HB.out.cell (World.block_lt_of_cell? w _ hw263_3)).trans hw263_3), ((HB.out.cell (World.block_lt_of_cell? w _ hw264_0)).trans hw264_0), ((HB.out.cell (World.block_lt_of_cell? w _ hw264_1)).trans hw264_1), ((HB.out.cell (World.block_lt_of_cell? w _ hw264_2)).trans hw264_2), ((HB.out.cell (World.block_lt_of_cell? w _ hw264_3)).trans hw264_3)⟩ (fun hHeld => ?_); refine with_tabW constablelaw05_SubstExact.tab23 constablelaw05_SubstExact.bits23 (fun HT_ HW_ => ?_)
                        generalize wr.drew = w102 at HO_16 HO_19 BK225 BK235 BK240 HB hx263_0 hx263_1 hx263_2 hx263_3 hx264_0 hx264_1 hx264_2 hx264_3 hHeld ⊢
                        refine pQ (i := 0) (N := some 157) (bb 17 1) ?_
                        refine pQ (i := 1) (N := some 158) (bb 17 3) ?_
                        refine pQ (i := 2) (N := some 159) (bb 17 7) ?_
                        refine pQ (i := 3) (N := some 160) (bb 17 15) ?_
                        refine pQ (i := 4) (N := some 161) (bb 17 31) ?_
                        refine pQ (i := 6) (N := some 163) (bb 17 95) ?_
                        refine pQ (i := 7) (N := some 164) (bb 17 223) ?_
                        refine pQ (i := 8) (N := some 165) (bb 17 479) ?_
                        refine pQ (i := 9) (N := some 166) (bb 17 991) ?_
                        refine tQ8 (i := 5) (N := some 162) (bb 17 1023) hHeld ?_
                        refine tQ8 (i := 10) (N := some 167) (bb 17 2047) hHeld ?_
                        refine one_ (i := 11) (N := some 168) (bb 17 4095) rfl rfl (one_of HT_.out (by kernel_rfl)) (by decide) (fun K hK => ?_)
                        refine goes_ Try.func27 (by kernel_rfl) rfl #[.slice Ao103 x19_8.length co103, .string ((rd_T39 l1 x21_8).f0), .agg #[.int .i64 ((rd_T39 l1 x21_8).f1.f0), .int .i64 ((rd_T39 l1 x21_8).f1.f1), .string ((rd_T39 l1 x21_8).f1.f2)]] (by rfl) rfl rfl aG ?_
                        with_reducible refine (constableref01_Bind.calls k8 (fun k_ => ((P0_ k_ ∨ w.heap.size ≤ k_) ∧ (some k_ ≠ (v247 : Value).ownBlock ∧ (k_ ≠ gb225 ∧ (k_ ≠ gb235 ∧ k_ ≠ gb240))))) _ _ x19_8 ((rd_T39 l1 x21_8).f0) ((rd_T39 l1 x21_8).f1.f0) ((rd_T39 l1 x21_8).f1.f1) ((rd_T39 l1 x21_8).f1.f2) t265 t268 _ ?side1 A101.out).mono ?_
                        (case side1 => exact HO_19.out)
                        rintro e w104 ⟨v266, rfl, ho0, hb⟩
                        refine ⟨_, rfl, ?_⟩
                        have n0_ := Aside0.mk (Kd.R_below (sR HO_16.out) hb)
                        have n1_ := Aside0.mk (Kd.V_below (by (with_reducible repeat (first | apply Kd.V_alloc | apply Kd.V_drewN | apply Kd.V_drew)); exact HO_19.out) hb)
                        have n2_ := Aside0.mk (Kd.V_lower (Kd.V_mono (ok' := fun k_ => (P0_ k_ ∨ w.heap.size ≤ k_) ∧ some k_ ≠ (v247 : Value).ownBlock ∧ k_ ≠ gb225 ∧ k_ ≠ gb235 ∧ k_ ≠ gb240) ho0 (fun k_ hk_ => ⟨Or.elim hk_ (fun hs_ => hs_.1) (fun hn_ => (.inr (Nat.le_trans (below_size (bB3 GE225.out GE235.out GE240.out)) hn_))), Or.elim hk_ (fun hs_ => hs_.2.1) (fun hn_ => (Kd.fresh' (Kd.R_lt (sR HO_16.out)) k_ hn_)), Or.elim hk_ (fun hs_ => hs_.2.2.1) (fun hn_ => (Kd.freshB (g := gb225) (o := .cells #[.int .i64 a3_0, .int .i64 a3_1, .string a3_2] 24 (0, 0)) (by refine bk ?_; exact BK225.out) k_ hn_)), Or.elim hk_ (fun hs_ => hs_.2.2.2.1) (fun hn_ => (Kd.freshB (g := gb235) (o := .cells #[.int .i64 t231, .int .i64 t232, .string t233] 24 (0, 0)) (by refine bk ?_; exact BK235.out) k_ hn_)), Or.elim hk_ (fun hs_ => hs_.2.2.2.2) (fun hn_ => (Kd.freshB (g := gb240) (o := .cells #[.int .i64 t236, .int .i64 t237, .string t238] 24 (0, 0)) (by refine bk ?_; exact BK240.out) k_ hn_))⟩)) (below_size (bB3 GE225.out GE235.out GE240.out)))
                        have n3_ := Aside0.mk (blk_below (g := gb225) (o := .cells #[.int .i64 a3_0, .int .i64 a3_1, .string a3_2] 24 (0, 0)) (by refine bk ?_; exact BK225.out) hb)
                        have n4_ := Aside0.mk (blk_below (g := gb235) (o := .cells #[.int .i64 t231, .int .i64 t232, .string t233] 24 (0, 0)) (by refine bk ?_; exact BK235.out) hb)
                        have n5_ := Aside0.mk (blk_below (g := gb240) (o := .cells #[.int .i64 t236, .int .i64 t237, .string t238] 24 (0, 0)) (by refine bk ?_; exact BK240.out) hb)
                        have n6_ := Aside0.mk (below_step (bB3 GE225.out GE235.out GE240.out) hb)
                        clear HO_16
                        clear HO_19
                        clear BK225
                        clear BK235
                        clear BK240
                        clear HB
                        have HO_16 := n0_
                        have HO_19 := n1_
                        have HO267 := n2_
                        have BK225 := n3_
                        have BK235 := n4_
                        have BK240 := n5_
                        have HB := n6_
                        clear n0_ n1_ n2_ n3_ n4_ n5_ n6_
                        (try clear hb)
                        (try clear hb2)
                        (try clear hk)
                        (try clear hi)
                        (try clear ho0)
                        refine hK.out _ _ ⟨((HB.out.cell (World.block_lt_of_cell? w _ hw263_0)).trans hw263_0), ((HB.out.cell (World.block_lt_of_cell? w _ hw263_1)).trans hw263_1), ((HB.out.cell (World.block_lt_of_cell? w _ hw263_2)).trans hw263_2), ((HB.out.cell (World.block_lt_of_cell? w _ hw263_3)).trans hw263_3), ((HB.out.cell (World.block_lt_of_cell? w _ hw264_0)).trans hw264_0), ((HB.out.cell (World.block_lt_of_cell? w _ hw264_1)).trans hw264_1), ((HB.out.cell (World.block_lt_of_cell? w _ hw264_2)).trans hw264_2), ((HB.out.cell (World.block_lt_of_cell? w _ hw264_3)).trans hw264_3)⟩ (fun hHeld => ?_)
                        clear hK K
                        refine norm_ (a' := ?_) ?_ ?_
                        rotate_left
                        ·show Act.put _ (some 168) _ = _
                         simp only [Act.put, List.setIfInBounds_toArray, List.set_cons_zero, List.set_cons_succ, i64_w, i32_w]
                         rfl
                        refine pQ (i := 12) (N := some 156) (bb 17 8191) ?_
                        refine pQ (i := 13) (N := some 169) (bb 17 16383) ?_
                        refine pQ (i := 14) (N := some 170) (bb 17 32767) ?_
                        refine pQ (i := 15) (N := some 19) (bb 17 65535) ?_
                        refine pQ (i := 16) (N := some 20) (bb 17 131071) ?_
                        refine done_ (done_of HT_.out (by kernel_rfl)) ?_
                        try go_wp2
                        go_roundg k8
                        case measure => have := HJ4.out; have := HJ18.out; have := HJ56.out; have := HJ67.out; have := HJ76.out; have := HJ83.out; have := HJ93.out; have := HK8.out; omega
                        case rel => exact ⟨(t265), (t268), (wrap64 (x21_8 + 1)), (by first | rfl | (simp; done) | (simp [*]; done)), (by first | rfl | (simp; done) | (simp [*]; done)), H', ⟨by have := HJ4.out; have := HJ18.out; have := HJ56.out; have := HJ67.out; have := HJ76.out; have := HJ83.out; have := HJ93.out; have := HK8.out; omega⟩, ⟨by (with_reducible repeat (first | apply Kd.R_alloc | apply Kd.R_drewN | apply Kd.R_drew)); exact HO_16.out⟩, ⟨by (with_reducible repeat (first | apply Kd.V_alloc | apply Kd.V_drewN | apply Kd.V_drew)); exact HO267.out⟩, ⟨by refine bk ?_; exact BK225.out⟩, ⟨by refine bk ?_; exact BK235.out⟩, ⟨by refine bk ?_; exact BK240.out⟩, ⟨(bB3 GE225.out GE235.out GE240.out)⟩⟩
                       ·rw [if_neg c100] at H
                        exact absurd H (by simp)
                      ·replace c99 := Bool.eq_false_iff.mpr c99
                       subst c99
                       have H1 : (if (t246 == false) = true then (if (t245.length : Int) = 0 then ((constablelaw05_wakes.f k8).bind fun t269 => (some t269)) else (none)) else (none)) = some r := by rw [if_neg (show ¬ (false = true) by decide)] at H; exact H
                       clear H
                       have H := H1
                       clear H1
                       by_cases c105 : (t246 == false) = true
                       ·rw [if_pos c105] at H
                        have c105b0 : (t246 == false) = true := c105
                        (try (have c105b1 : decide (t246 = false) = true := by simpa using c105))
                        (try (have c105b2 : (t246 == false) = true := by simpa using c105))
                        clear c105
                        by_cases c106 : (t245.length : Int) = 0
                        ·rw [if_pos c106] at H
                         have c106b0 : ((t245.length : Int) == 0) = true := beq_iff_eq.mpr c106
                         have c106b1 : ((t245.length : Int) != 0) = false := bne_eq_false_iff_eq.mpr c106
                         clear c106
                         replace H := Option.bind_eq_some_iff.mp H
                         obtain ⟨t269, A1070, H⟩ := H
                         replace H : (some t269) = some r := H
                         have A107 := Aside0.mk A1070
                         clear A1070
                         obtain rfl := Option.some.inj H
                         obtain ⟨Ao108, co108, eo108⟩ := Kd.R_slice HO_16.out
                         subst eo108
                         go_wp2_with (first | (go_at_call 28; (with_reducible refine (constablelaw05_wakes.calls k8  t269 _ A107.out).mono ?_); rintro e w109 ⟨rfl, hb⟩; have n0_ := Aside0.mk (Kd.R_below (sR HO_16.out) hb); have n1_ := Aside0.mk (Kd.V_below (by (with_reducible repeat (first | apply Kd.V_alloc | apply Kd.V_drewN | apply Kd.V_drew)); exact HO_19.out) hb); have n2_ := Aside0.mk (blk_below (g := gb225) (o := .cells #[.int .i64 a3_0, .int .i64 a3_1, .string a3_2] 24 (0, 0)) (by refine bk ?_; exact BK225.out) hb); have n3_ := Aside0.mk (blk_below (g := gb235) (o := .cells #[.int .i64 t231, .int .i64 t232, .string t233] 24 (0, 0)) (by refine bk ?_; exact BK235.out) hb); have n4_ := Aside0.mk (blk_below (g := gb240) (o := .cells #[.int .i64 t236, .int .i64 t237, .string t238] 24 (0, 0)) (by refine bk ?_; exact BK240.out) hb); have n5_ := Aside0.mk (below_step (bB3 GE225.out GE235.out GE240.out) hb); clear HO_16; clear HO_19; clear BK225; clear BK235; clear BK240; clear HB; have HO_16 := n0_; have HO_19 := n1_; have BK225 := n2_; have BK235 := n3_; have BK240 := n4_; have HB := n5_; clear n0_ n1_ n2_ n3_ n4_ n5_; (try clear hb); (try clear hb2); (try clear hk); (try clear hi)))
                         go_ret
                         exact ⟨eW, (bB3 GE225.out GE235.out GE240.out)⟩
                        ·rw [if_neg c106] at H
                         exact absurd H (by simp)
                       ·rw [if_neg c105] at H
                        exact absurd H (by simp)
                     ·rw [if_neg c98] at H
                      have c98b0 : decide (x21_8 < (l1.length : Int)) = false := decide_eq_false c98
                      clear c98
                      by_cases c110 : (t246 == x20_8) = true
                      ·rw [if_pos c110] at H
                       have c110b0 : (t246 == x20_8) = true := c110
                       (try (have c110b1 : decide (t246 = x20_8) = true := by simpa using c110))
                       (try (have c110b2 : (t246 == x20_8) = true := by simpa using c110))
                       clear c110
                       by_cases c111 : x20_8 = true
                       ·subst c111
                        have H1 : ((constablekeep_Binds.f k8 t245 x19_8).bind fun t270 => (if t270 = true then ((constablelaw05_wakes.f k8).bind fun t271 => (some t271)) else (none))) = some r := by rw [if_pos rfl] at H; exact H
                        clear H
                        have H := H1
                        clear H1
                        replace H := Option.bind_eq_some_iff.mp H
                        obtain ⟨t270, A1120, H⟩ := H
                        replace H : (if t270 = true then ((constablelaw05_wakes.f k8).bind fun t271 => (some t271)) else (none)) = some r := H
                        have A112 := Aside0.mk A1120
                        clear A1120
                        by_cases c113 : t270 = true
                        ·subst c113
                         have H1 : ((constablelaw05_wakes.f k8).bind fun t271 => (some t271)) = some r := by rw [if_pos rfl] at H; exact H
                         clear H
                         have H := H1
                         clear H1
                         replace H := Option.bind_eq_some_iff.mp H
                         obtain ⟨t271, A1140, H⟩ := H
                         replace H : (some t271) = some r := H
                         have A114 := Aside0.mk A1140
                         clear A1140
                         obtain rfl := Option.some.inj H
                         obtain ⟨Ao115, co115, eo115⟩ := Kd.R_slice HO_16.out
                         subst eo115
                         obtain ⟨Ao116, co116, eo116⟩ := Kd.V_slice HO_19.out
                         subst eo116
                         go_wp2_with (first | (go_at_call 23; (with_reducible refine (constablekeep_Binds.calls k8 _ _ t245 _ _ x19_8 true _ ?side1 ?side2 ?side3 ?side4 A112.out).mono ?_); (case side1 => exact sC (Kd.R_reads' HO_16.out).2.2); (case side2 => exact (Kd.R_reads' HO_16.out).2.1); (case side3 => exact sC (Kd.V_reads' HO_19.out).2.2); (case side4 => exact (Kd.V_reads' HO_19.out).2.1); rintro e w' ⟨rfl, ⟨nd, rfl⟩⟩) | (go_at_call 28; (with_reducible refine (constablelaw05_wakes.calls k8  t271 _ A114.out).mono ?_); rintro e w117 ⟨rfl, hb⟩; have n0_ := Aside0.mk (Kd.R_below (sR HO_16.out) hb); have n1_ := Aside0.mk (Kd.V_below (by (with_reducible repeat (first | apply Kd.V_alloc | apply Kd.V_drewN | apply Kd.V_drew)); exact HO_19.out) hb); have n2_ := Aside0.mk (blk_below (g := gb225) (o := .cells #[.int .i64 a3_0, .int .i64 a3_1, .string a3_2] 24 (0, 0)) (by refine bk ?_; exact BK225.out) hb); have n3_ := Aside0.mk (blk_below (g := gb235) (o := .cells #[.int .i64 t231, .int .i64 t232, .string t233] 24 (0, 0)) (by refine bk ?_; exact BK235.out) hb); have n4_ := Aside0.mk (blk_below (g := gb240) (o := .cells #[.int .i64 t236, .int .i64 t237, .string t238] 24 (0, 0)) (by refine bk ?_; exact BK240.out) hb); have n5_ := Aside0.mk (below_step (bB3 GE225.out GE235.out GE240.out) hb); clear HO_16; clear HO_19; clear BK225; clear BK235; clear BK240; clear HB; have HO_16 := n0_; have HO_19 := n1_; have BK225 := n2_; have BK235 := n3_; have BK240 := n4_; have HB := n5_; clear n0_ n1_ n2_ n3_ n4_ n5_; (try clear hb); (try clear hb2); (try clear hk); (try clear hi)))
                         go_ret
                         exact ⟨eW, (bB3 GE225.out GE235.out GE240.out)⟩
                        ·replace c113 := Bool.eq_false_iff.mpr c113
                         subst c113
                         have H1 : (none) = some r := by rw [if_neg (show ¬ (false = true) by decide)] at H; exact H
                         clear H
                         have H := H1
                         clear H1
                         exact absurd H (by simp)
                       ·replace c111 := Bool.eq_false_iff.mpr c111
                        subst c111
                        have H1 : (if (t245.length : Int) = 0 then ((constablelaw05_wakes.f k8).bind fun t272 => (some t272)) else (none)) = some r := by rw [if_neg (show ¬ (false = true) by decide)] at H; exact H
                        clear H
                        have H := H1
                        clear H1
                        by_cases c118 : (t245.length : Int) = 0
                        ·rw [if_pos c118] at H
                         have c118b0 : ((t245.length : Int) == 0) = true := beq_iff_eq.mpr c118
                         have c118b1 : ((t245.length : Int) != 0) = false := bne_eq_false_iff_eq.mpr c118
                         clear c118
                         replace H := Option.bind_eq_some_iff.mp H
                         obtain ⟨t272, A1190, H⟩ := H
                         replace H : (some t272) = some r := H
                         have A119 := Aside0.mk A1190
                         clear A1190
                         obtain rfl := Option.some.inj H
                         obtain ⟨Ao120, co120, eo120⟩ := Kd.R_slice HO_16.out
                         subst eo120
                         go_wp2_with (first | (go_at_call 28; (with_reducible refine (constablelaw05_wakes.calls k8  t272 _ A119.out).mono ?_); rintro e w121 ⟨rfl, hb⟩; have n0_ := Aside0.mk (Kd.R_below (sR HO_16.out) hb); have n1_ := Aside0.mk (Kd.V_below (by (with_reducible repeat (first | apply Kd.V_alloc | apply Kd.V_drewN | apply Kd.V_drew)); exact HO_19.out) hb); have n2_ := Aside0.mk (blk_below (g := gb225) (o := .cells #[.int .i64 a3_0, .int .i64 a3_1, .string a3_2] 24 (0, 0)) (by refine bk ?_; exact BK225.out) hb); have n3_ := Aside0.mk (blk_below (g := gb235) (o := .cells #[.int .i64 t231, .int .i64 t232, .string t233] 24 (0, 0)) (by refine bk ?_; exact BK235.out) hb); have n4_ := Aside0.mk (blk_below (g := gb240) (o := .cells #[.int .i64 t236, .int .i64 t237, .string t238] 24 (0, 0)) (by refine bk ?_; exact BK240.out) hb); have n5_ := Aside0.mk (below_step (bB3 GE225.out GE235.out GE240.out) hb); clear HO_16; clear HO_19; clear BK225; clear BK235; clear BK240; clear HB; have HO_16 := n0_; have HO_19 := n1_; have BK225 := n2_; have BK235 := n3_; have BK240 := n4_; have HB := n5_; clear n0_ n1_ n2_ n3_ n4_ n5_; (try clear hb); (try clear hb2); (try clear hk); (try clear hi)))
                         go_ret
                         exact ⟨eW, (bB3 GE225.out GE235.out GE240.out)⟩
                        ·rw [if_neg c118] at H
                         exact absurd H (by simp)
                      ·rw [if_neg c110] at H
                       exact absurd H (by simp)

end Go.Proofs.Ytghommaokdhjmaa.P
/- SubstExact's plain law: the printed function answers true from some number of rounds on; no condition. -/
set_option linter.unusedVariables false
set_option linter.unusedSimpArgs false
namespace Go.Proofs.Ytghommaokdhjmaa.Pure
open Go.RowKit Go.Proofs.YtghommaokdhjmaaW.PrintWords Go.Proofs.Ytghommaokdhjmaa.P Go.Proofs.Ytghommaokdhjmaa.PSpec Go.Proofs.Ytghommaokdhjmaa.BothB Go.Proofs.Ytghommaokdhjmaa.SpecB
theorem exact_false {b : List S39} (w : List S39) (i : Nat) : Ev (fun k => constablelaw05_SubstExact.l0 k b [] false w false (i : Int)) true := by
  by_cases h : (i : Int) < (b.length : Int)
  · refine Ev.step (fun k => by rw [constablelaw05_SubstExact.l0, if_pos h]) ?_
    simp only [ff, Bool.false_eq_true, if_false, beq_self_eq_true, if_true, List.length_nil, Int.natCast_zero]
    exact Ev.bind ev_wakes (Ev.now _)
  · refine Ev.step (fun k => by rw [constablelaw05_SubstExact.l0, if_neg h]) ?_
    simp only [ff, Bool.false_eq_true, if_false, beq_self_eq_true, if_true, List.length_nil, Int.natCast_zero]
    exact Ev.bind ev_wakes (Ev.now _)
theorem exact_true {a b : List S39} (ha : chkP a = 0) (hb : chkP b = 0) (fb : fitB b = true) : ∀ (m i : Nat), i + m = b.length → ∀ w, chkP w = 0 → (∀ x, x ∈ w ↔ x ∈ a ∨ x ∈ b.take i) →
    Ev (fun k => constablelaw05_SubstExact.l0 k b (bothP a b).1 (bothP a b).2 w true (i : Int)) true := by
  have hbl := right_len hb
  intro m
  induction m with
  | zero =>
    intro i h w hw hx
    have hj : Join a b w := ⟨ha, hb, hw, fun x => by rw [hx, List.take_of_length_le (by omega)]⟩
    have hwl := right_len hw
    rw [both_join hj]
    refine Ev.step (fun k => by rw [constablelaw05_SubstExact.l0, if_neg (by omega)]) ?_
    simp only [beq_self_eq_true, if_true]
    refine Ev.bind (ev_binds (by omega) w) ?_
    simp only [decide_true, if_true]
    exact Ev.bind ev_wakes (Ev.now _)
  | succ m ih =>
    intro i h w hw hx
    have hi : i < b.length := by omega
    have hwl := right_len hw
    have hfi := fit_mem.1 fb b[i] (List.getElem_mem hi)
    refine Ev.step (fun k => by rw [constablelaw05_SubstExact.l0, if_pos (by omega), if_pos rfl, if_pos (by omega), w64 (show b.length ≤ 1000000 by omega) hi, rd_get hi]) ?_
    refine Ev.bind (ev_bind (show w.length ≤ 1000000 by omega) b[i] hfi.1) ?_
    rcases bindP_cases hw (right_at hb (List.getElem_mem hi)) with ⟨q, e, hq⟩ | ⟨e, hq⟩
    · rw [e]
      exact ih (i + 1) (by omega) q hq.2.2.1 fun x => by
        rw [hq.2.2.2, hx, List.take_succ_eq_append_getElem hi, List.mem_append, List.mem_singleton, or_assoc]
    · have hno : ∀ m, ¬ Join a b m := fun m hm => by
        refine hq (m.filter fun x => decide (x ∈ w ∨ x = b[i])) ⟨hw, right_at hb (List.getElem_mem hi), right_filter hm.2.2.1 _, fun x => ?_⟩
        rw [List.mem_filter, decide_eq_true_eq]
        constructor
        · exact fun h => h.2
        · intro h
          refine ⟨(hm.2.2.2 x).2 ?_, h⟩
          rcases h with h | rfl
          · exact ((hx x).1 h).imp id List.mem_of_mem_take
          · exact .inr (List.getElem_mem hi)
      rw [e]
      rcases both_cases a b with ⟨m, _, hm⟩ | ⟨h, _⟩
      · exact absurd hm (hno m)
      · rw [h]; exact exact_false _ (i + 1)
theorem chk_two (l : List S39) (h : ¬ chkP l = 0) : chkP l = 1 := by
  unfold chkP at *
  split at h
  · rename_i h2; rw [if_pos h2]
  · rename_i h2
    rw [if_neg h2]
    split at h
    · exact absurd rfl h
    · rename_i h3; rw [if_neg h3]
theorem substExact (l0 l1 : List S39) (n : ByteArray) (a0 a1 : Int) (a2 : ByteArray) : ∃ k, constablelaw05_SubstExact.f k l0 l1 n a0 a1 a2 = some true := by
  refine Ev.rounds (g := fun k => constablelaw05_SubstExact.f k l0 l1 n a0 a1 a2) ?_
  have jt : Ev (fun k => constablelaw05_SubstExact.j0 k l0 l1 n true a0 a1 a2) true := Ev.step (fun k => by rw [constablelaw05_SubstExact.j0, if_pos rfl]) (Ev.now _)
  unfold constablelaw05_SubstExact.f
  refine Ev.bind (ev_heavy l0) ?_
  cases h0 : heavyP l0
  rotate_left
  · simp only [if_true]; exact jt
  simp only [ff, Bool.false_eq_true, if_false]
  refine Ev.bind (ev_heavy l1) ?_
  cases h1 : heavyP l1
  rotate_left
  · simp only [if_true]; exact jt
  simp only [ff, Bool.false_eq_true, if_false]
  by_cases g1 : (n.size : Int) > 200
  · simp only [if_pos g1]; exact jt
  simp only [if_neg g1]
  by_cases g2 : (a2.size : Int) > 200
  · simp only [decide_eq_true g2]; exact jt
  simp only [decide_eq_false g2]
  have f0 := heavy_fit h0
  have f1 := heavy_fit h1
  have hl0 := (heavy_no h0).1
  have hl1 := (heavy_no h1).1
  have ht : constablekeep_TwinBinds.f l0 = some l0 := by
    unfold constablekeep_TwinBinds.f
    rw [if_pos (by simp; omega), List.nil_append]
  -- the last part: two lists together
  have last : Ev (fun k => constablelaw05_SubstExact.j5 k l0 l1 (bothP l0 l1).1 (bothP l0 l1).2 (chkP l0 == 0) false) true := by
    refine Ev.step (fun k => by rw [constablelaw05_SubstExact.j5, if_neg (by decide)]) ?_
    by_cases c0 : chkP l0 = 0
    · simp only [c0, beq_self_eq_true, if_true]
      refine Ev.bind (ev_rbinds f1) ?_
      refine Ev.step (fun k => by rw [constablelaw05_SubstExact.j6]) ?_
      by_cases c1 : chkP l1 = 0
      · simp only [c1, beq_self_eq_true]
        exact exact_true c0 c1 f1 l1.length 0 (by omega) l0 c0 (fun x => by simp)
      · simp only [beq_eq_false_iff_ne.2 c1]
        rcases both_cases l0 l1 with ⟨m, _, hm⟩ | ⟨h, _⟩
        · exact absurd hm.2.1 c1
        · rw [h]; exact exact_false l0 0
    · simp only [beq_eq_false_iff_ne.2 c0, ff, Bool.false_eq_true, if_false]
      refine Ev.step (fun k => by rw [constablelaw05_SubstExact.j6]) ?_
      rcases both_cases l0 l1 with ⟨m, _, hm⟩ | ⟨h, _⟩
      · exact absurd hm.1 c0
      · rw [h]; exact exact_false l0 0
  -- the part ahead: one more
  have mid : Ev (fun k => constablelaw05_SubstExact.j2 k l0 l1 n (putP l0 ⟨n, ⟨a0, a1, a2⟩⟩).1 (putP l0 ⟨n, ⟨a0, a1, a2⟩⟩).2 (bothP l0 l1).1 (bothP l0 l1).2 (chkP l0 == 0) false a0 a1 a2) true := by
    refine Ev.step (fun k => by rw [constablelaw05_SubstExact.j2, if_neg (by decide)]) ?_
    have no : (∀ m, ¬ With l0 ⟨n, ⟨a0, a1, a2⟩⟩ m) → ∀ w, Ev (fun k => constablelaw05_SubstExact.j4 k l0 l1 (putP l0 ⟨n, ⟨a0, a1, a2⟩⟩).1 (putP l0 ⟨n, ⟨a0, a1, a2⟩⟩).2 (bothP l0 l1).1 (bothP l0 l1).2 (chkP l0 == 0) w false) true := fun hn w => by
      rcases put_cases l0 ⟨n, ⟨a0, a1, a2⟩⟩ with ⟨m, _, hm⟩ | ⟨h, _⟩
      · exact absurd hm (hn m)
      · rw [h]
        refine Ev.step (fun k => by rw [constablelaw05_SubstExact.j4, if_neg (by decide), if_neg (by decide)]) ?_
        simp only [List.length_nil, Int.natCast_zero, if_neg (show ¬ ((0 : Int) > 0) by decide)]
        exact last
    have no3 : (∀ m, ¬ With l0 ⟨n, ⟨a0, a1, a2⟩⟩ m) → Ev (fun k => constablelaw05_SubstExact.j3 k l0 l1 n (putP l0 ⟨n, ⟨a0, a1, a2⟩⟩).1 (putP l0 ⟨n, ⟨a0, a1, a2⟩⟩).2 (bothP l0 l1).1 (bothP l0 l1).2 (chkP l0 == 0) [] false a0 a1 a2) true := fun hn => by
      refine Ev.step (fun k => by rw [constablelaw05_SubstExact.j3, if_neg (by decide)]) ?_
      exact no hn []
    by_cases c0 : chkP l0 = 0
    · have e0 : (chkP l0 == 0) = true := by rw [c0]; rfl
      rw [e0] at no3 no last
      simp only [e0, if_true]
      have hw := ev_word n (by omega) true
      rw [word_var] at hw
      refine Ev.bind hw ?_
      cases hv : varP n
      · simp only [ff, Bool.false_eq_true, if_false]
        refine no3 fun m hm => ?_
        have := hm.2.1
        unfold rightP at this
        rw [hv, Bool.false_and] at this
        cases this
      · simp only [if_true]
        refine Ev.bind (ev_value a0 a1 a2 (by omega)) ?_
        cases hv2 : (valP a0 a1 a2 == 0)
        · refine no3 fun m hm => ?_
          have := hm.2.1
          unfold rightP at this
          rw [hv2, Bool.and_false] at this
          cases this
        · have hr : rightP ⟨n, ⟨a0, a1, a2⟩⟩ = true := by unfold rightP; rw [hv, hv2]; rfl
          refine Ev.step (fun k => by rw [constablelaw05_SubstExact.j3, if_pos rfl]) ?_
          refine Ev.bind (ev_bind (show l0.length ≤ 1000000 by omega) ⟨n, ⟨a0, a1, a2⟩⟩ (show n.size ≤ 1000000 by omega)) ?_
          rcases bindP_cases c0 hr with ⟨q, e, hq⟩ | ⟨e, hq⟩
          · rw [e]
            rw [put_with hq] at no ⊢
            dsimp only
            have hql := right_len hq.2.2.1
            refine Ev.step (fun k => by rw [constablelaw05_SubstExact.j4, if_neg (by decide), if_pos rfl]) ?_
            refine Ev.bind (ev_binds (by omega) q) ?_
            simp only [decide_true, Bool.not_true]
            exact last
          · rw [e]; exact no hq _
    · have e0 : (chkP l0 == 0) = false := beq_eq_false_iff_ne.2 c0
      rw [e0] at no3
      simp only [e0, ff, Bool.false_eq_true, if_false]
      exact no3 fun m hm => c0 hm.1
  refine Ev.step (fun k => by rw [constablelaw05_SubstExact.j0, if_neg (by decide), ht, Option.bind_some]) ?_
  refine Ev.bind (ev_get (by omega) n) ?_
  refine Ev.bind (ev_rget (by omega) n) ?_
  refine Ev.bind (ev_put f0 n a0 a1 a2 (by omega) (by omega)) ?_
  simp only [both_eq f0 f1, Option.bind_some]
  refine Ev.bind (⟨30, fun k hk => varP_eq n k hk⟩ : Ev (fun k => subst_Var.f k n) (varP n)) ?_
  have hw := ev_word n (by omega) true
  rw [word_var] at hw
  refine Ev.bind hw ?_
  simp only [bne_self_eq_false, beq_self_eq_true, Bool.not_true, Bool.or_self, Bool.false_eq_true, if_false]
  refine Ev.bind (ev_binds (by omega) l0) ?_
  simp only [decide_true, Bool.not_true]
  refine Ev.step (fun k => by rw [constablelaw05_SubstExact.j1, if_neg (by decide)]) ?_
  refine Ev.bind (ev_rbinds f0) ?_
  refine Ev.bind (ev_check f0) ?_
  simp only [bne_self_eq_false, Bool.false_eq_true, if_false]
  by_cases c0 : chkP l0 = 0
  · simp only [if_pos (show (chkP l0 == 0) = true by rw [c0]; rfl)]
    exact mid
  · simp only [if_neg (show ¬ (chkP l0 == 0) = true by simpa using c0)]
    refine Ev.bind (ev_check f0) ?_
    rw [show (chkP l0 != 1) = false by rw [chk_two l0 c0]; rfl]
    exact mid
end Go.Proofs.Ytghommaokdhjmaa.Pure
/- The row of SubstExact: whatever the input, true; out of the printed walk and the plain law. -/
namespace Go.Proofs.Ytghommaokdhjmaa.substExact
open Go.ChangeShapes Go.WideShapes Go.ChangeAt Go.RowKit Go.Proofs.YtghommaokdhjmaaW.PrintWords Go.Proofs.Ytghommaokdhjmaa.P Go.Proofs.Ytghommaokdhjmaa.Open
open Go.ChangeMaps (open_string shut_string)
set_option linter.unusedVariables false
theorem own : ownKnob Try.prog.godebug = none := by kernel_rfl
theorem laidOut : laidOutB Try.prog = true := by kernel_rfl
set_option maxRecDepth 100000 in
theorem lifted (os : Os) (started : os.Started) (H : Type) (enc : TypeId × Value → H) :
    ReturnsInHanded {} Try.checked os 3 .any (Rows.substExactSpec.pre6 enc Try.prog Try.f3 Rows.substExactRow.domain false) (Rows.substExactSpec.post enc Try.prog Try.f3 false true false false) := by
  refine returnsInHanded_of_change_sized (C := Try.checked) own started (by kernel_rfl) Try.func3
    (ChangeSpec.witness6 (enc := enc) (C := Try.checked) false ⟨#[], #[.slice none 0 0, .slice none 0 0, .string ByteArray.empty, .agg #[.int .i64 0, .int .i64 0, .string ByteArray.empty]], []⟩ 8 (by kernel_rfl) (by kernel_rfl) (by kernel_rfl) (by kernel_rfl)) ?_
  intro W base args ds gs before hval0 hW hcnd hsz0 _
  have hval : ∀ (j : Nat) t v, Try.f3.params[j]? = some t → args[j]? = some v → Value.okWide Try.prog W .any base t v := hval0
  have hW' := hW
  obtain ⟨p, q, hA0, hV, rfl, hfz, hnd⟩ := hW
  have hA : DataW.TrodAll enc Try.prog W 0 (fun _ => true) true Try.f3.params.toList args.toList ds p := hA0
  rw [Try.params3] at hA hval
  obtain ⟨v0, vs0, d0, ds0, p0, q0, hargs, rfl, rfl, h0, r0⟩ := trodAll_cons hA
  obtain ⟨v1, vs1, d1, ds1, p1, q1, rfl, rfl, rfl, h1, r1⟩ := trodAll_cons r0
  obtain ⟨v2, vs2, d2, ds2, p2, q2, rfl, rfl, rfl, h2, r2⟩ := trodAll_cons r1
  obtain ⟨v3, vs3, d3, ds3, p3, q3, rfl, rfl, rfl, h3, r3⟩ := trodAll_cons r2
  obtain ⟨rfl, rfl, rfl⟩ := trodAll_nil r3
  obtain rfl : args = #[v0, v1, v2, v3] := by cases args; simp_all
  obtain ⟨rfl, rfl⟩ := trodVars_none hV
  obtain ⟨a0, len0, cap0, rfl⟩ := okWide_slice Try.underlying22 (hval 0 22 v0 rfl rfl)
  have k0 := h0
  have lt0 : ∀ x ∈ p0, x.block < W.heap.size := by obtain ⟨m, hm⟩ := k0; exact DataW.trod_lt m _ _ _ hm
  obtain ⟨l0, rfl, hc0, hr0⟩ : ∃ l : List S39, len0 = l.length ∧ l.length ≤ cap0 ∧ Kd.C k39 W a0 l.length l := by
    obtain ⟨fuel, hf⟩ := h0
    obtain ⟨A, c, l, hcs, hl, hC⟩ := tells_row Try.underlying22 (by kernel_rfl) tells39 hf
    simp [Value.cells] at hcs
    obtain ⟨rfl, rfl, rfl⟩ := hcs
    exact ⟨l, rfl, hl, hC⟩
  obtain ⟨a1, len1, cap1, rfl⟩ := okWide_slice Try.underlying22 (hval 1 22 v1 rfl rfl)
  have k1 := h1
  have lt1 : ∀ x ∈ p1, x.block < W.heap.size := by obtain ⟨m, hm⟩ := k1; exact DataW.trod_lt m _ _ _ hm
  obtain ⟨l1, rfl, hc1, hr1⟩ : ∃ l : List S39, len1 = l.length ∧ l.length ≤ cap1 ∧ Kd.C k39 W a1 l.length l := by
    obtain ⟨fuel, hf⟩ := h1
    obtain ⟨A, c, l, hcs, hl, hC⟩ := tells_row Try.underlying22 (by kernel_rfl) tells39 hf
    simp [Value.cells] at hcs
    obtain ⟨rfl, rfl, rfl⟩ := hcs
    exact ⟨l, rfl, hl, hC⟩
  obtain ⟨a2, rfl, rfl, rfl, y2⟩ := open_string Try.underlying9 (hval 2 9 v2 rfl rfl) h2
  obtain ⟨u3, rfl, _⟩ := okWide_struct Try.underlying24 (hval 3 24 v3 rfl rfl)
  have k3 := h3
  have lt3 : ∀ x ∈ p3, x.block < W.heap.size := by obtain ⟨m, hm⟩ := k3; exact DataW.trod_lt m _ _ _ hm
  obtain ⟨x3, rfl⟩ : ∃ x : S24, u3 = #[.int .i64 x.f0, .int .i64 x.f1, .string x.f2] := by
    obtain ⟨fuel, hf⟩ := h3
    obtain ⟨p, hp⟩ := tells24 W _ _ _ hf
    exact ⟨p, Array.toList_inj.1 (by simpa [Value.cells] using k24_open hp)⟩
  clear hA0 hval0 hsz0
  obtain ⟨kf, hkf⟩ := Pure.substExact l0 l1 a2 x3.f0 x3.f1 x3.f2
  refine (P.constablelaw05_SubstExact.calls kf (fun k => k < W.heap.size) a0 cap0 l0 a1 cap1 l1 a2 x3.f0 x3.f1 x3.f2 true W (Kd.V_mk hc0 (Kd.C_F k39_heap hr0)) hr1 hc1 hkf).mono fun e W' ⟨he, bel⟩ => ?_
  subst he
  exact ⟨_, rfl, _, _, _, [], _, [], hW', trodAll_mk1 (shut_bool Try.underlying4 _), (trodAll_cons_mk (Below.trod laidOut (by kernel_rfl) (of_decide_eq_true (by kernel_rfl)) k0 bel lt0) (trodAll_cons_mk (Below.trod laidOut (by kernel_rfl) (of_decide_eq_true (by kernel_rfl)) k1 bel lt1) (trodAll_cons_mk (shut_string Try.underlying9 y2) (trodAll_cons_mk (Below.trod laidOut (by kernel_rfl) (of_decide_eq_true (by kernel_rfl)) k3 bel lt3) trodAll_mk0)))), rfl, bel.frame _, fun h => by cases h⟩
theorem over : Rows.substExactRow.holds Try.pinned (OpenSpec.ofChange Rows.substExactSpec) :=
  OpenClaim.holds_of_wide 3 Try.f3 rfl rfl rfl rfl rfl rfl rfl ⟨rfl, rfl, rfl, rfl, rfl⟩ rfl rfl rfl rfl rfl (by kernel_rfl) Try.func3 (by kernel_rfl)
    (of_decide_eq_true (by kernel_rfl)) (by unfold Func.isWrapper; first | (rw [if_pos (by decide +kernel)]; kernel_rfl) | (rw [if_neg (by decide +kernel)]; exact ⟨rfl, rfl⟩))
    (fun os started H enc _ => lifted os started H enc)
theorem proved : Rows.SubstExactSaid := over
end Go.Proofs.Ytghommaokdhjmaa.substExact
namespace Go.Proofs.Ytghommaokdhjmaa
/-- The row, under a short name, for the claim. -/
theorem substExact_holds : Rows.SubstExactSaid := substExact.proved
#print axioms substExact_holds
end Go.Proofs.Ytghommaokdhjmaa
