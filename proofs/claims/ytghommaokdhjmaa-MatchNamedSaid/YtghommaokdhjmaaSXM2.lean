/- A part of the proof: walks of the code and plain laws, printed and by hand; no condition. -/
import Derived.Test.YtghommaokdhjmaaSXM1
namespace Go.Proofs.Ytghommaokdhjmaa.P
open Go.RowKit Go.Proofs.YtghommaokdhjmaaW.PrintWords Go.Proofs.YtghommaokdhjmaaW.PrintLast Go.Proofs.Ytghommaokdhjmaa.Gate
set_option linter.unusedVariables false
set_option linter.unusedSimpArgs false

/-! ### constablelaw06_wakes: function 51 -/
def constablelaw06_wakes.f (k : Nat)  : Option (Bool) := (some (([(⟨(⟨#[88]⟩ : ByteArray), (⟨0, 0, (⟨#[]⟩ : ByteArray)⟩ : S24)⟩ : S77), (⟨(⟨#[88]⟩ : ByteArray), (⟨0, 0, (⟨#[]⟩ : ByteArray)⟩ : S24)⟩ : S77)] : List (S77)) : List (S77))).bind fun y755 => ((match_One.f (⟨#[112]⟩ : ByteArray) y755 (⟨#[112]⟩ : ByteArray) (([(⟨1, 1, (⟨#[]⟩ : ByteArray)⟩ : S24), (⟨1, 1, (⟨#[]⟩ : ByteArray)⟩ : S24)] : List (S24))) ([] : List (S39))).bind fun bt764 => ((match_One.f (⟨#[112]⟩ : ByteArray) y755 (⟨#[112]⟩ : ByteArray) (([(⟨1, 1, (⟨#[]⟩ : ByteArray)⟩ : S24), (⟨1, 2, (⟨#[]⟩ : ByteArray)⟩ : S24)] : List (S24))) ([] : List (S39))).bind fun bt771 => ((match_Ground.f k (⟨#[112]⟩ : ByteArray) y755 bt764.1).bind fun bt775 => ((match_Ground.f k (⟨#[112]⟩ : ByteArray) y755 ([] : List (S39))).bind fun bt781 => (if bt764.2 = true then (if bt771.2 = true then (none) else (if (bt764.1.length : Int) = 1 then (if bt775.2.2 = 0 then (if (bt775.2.1.length : Int) = 2 then (if 1 < (bt775.2.1.length : Int) then (if ((rd_T24 bt775.2.1 1).f0) = 1 then (if ((rd_T24 bt775.2.1 1).f1) = 1 then (if (((rd_T24 bt775.2.1 1).f2).toList) = ([] : List UInt8) then (if bt781.2.2 = 5 then ((match_Vars.f k (⟨#[112]⟩ : ByteArray) y755).bind fun t788 => (if (t788.length : Int) = 1 then ((match_Check.f (⟨#[]⟩ : ByteArray) ([] : List (S77))).bind fun t791 => (some (t791 == 1))) else (none))) else (none)) else (none)) else (none)) else (none)) else (none)) else (none)) else (none)) else (none))) else (none))))))
theorem constablelaw06_wakes.mono : ∀ k, LeO (constablelaw06_wakes.f k ) (constablelaw06_wakes.f (k + 1) ) := by
 intro  k
 unfold constablelaw06_wakes.f
 repeat' first
   | (with_reducible exact match_Ground.mono _ _ _ _)
   | (with_reducible exact match_Vars.mono _ _ _)
   | (with_reducible exact LeO.refl _)
   | (with_reducible exact LeO.none _)
   | (with_reducible refine LeO.ite ?_ ?_)
   | (with_reducible refine LeO.bind ?_ (fun _ => ?_))
def constablelaw06_wakes.T7 : Bool × List (List Nat × List Nat) := (true, [([], []), ([0], [0]), ([1], [1]), ([2, 1], [1, 2]), ([1, 3], [1, 3]), ([4, 1], [4]), ([5], [5]), ([6, 5], [5, 6]), ([7, 5], [5, 7]), ([5, 8], [5, 8]), ([9, 5], [9]), ([10], [10]), ([11, 10], [10, 11]), ([10, 12], [10, 12]), ([13, 10], [13]), ([14], [14]), ([15, 14], [14, 15]), ([16, 14], [14, 16]), ([17, 14], [14, 17]), ([14, 18], [14, 18]), ([19, 14], [19]), ([20], [20]), ([21, 20], [20, 21]), ([22, 20], [20, 22]), ([23, 20], [20, 23]), ([20], [20]), ([24, 25, 20], [20, 24, 25]), ([20, 26], [20, 26]), ([27, 20], [27]), ([28], [28]), ([29, 28], [28, 29]), ([28, 30], [28, 30]), ([31, 28], [31]), ([32], [32]), ([33, 32, 32], [32, 33]), ([34, 32], [32, 34]), ([35, 32], [32, 35]), ([32, 36], [32, 36]), ([37, 34], [37]), ([38], [38]), ([39, 38, 38], [38, 39]), ([40, 38], [38, 40]), ([38, 41], [38, 41]), ([42, 40, 0, 1, 2, 3, 4, 5, 6, 7, 8, 9, 10, 11, 12, 13, 14, 15, 16, 17, 18, 19, 20, 21, 22, 23, 24, 25, 26, 27, 28, 29, 30, 31, 32, 33, 34, 35, 36, 37, 38, 39, 40, 41, 42], [42])])
def constablelaw06_wakes.B7 : List Nat := [0, 1, 3, 7, 15, 31, 63, 127, 255, 511, 1023, 2047, 4095, 8191, 16383, 32767, 65535, 131071, 262143, 524287, 1048575, 2097151, 4194303, 8388607, 16777215, 2097151, 67108863, 134217727, 268435455, 536870911, 1073741823, 2147483647, 4294967295, 8589934591, 17179869183, 34359738367, 68719476735, 137438953471, 274877906943, 549755813887, 1099511627775, 2199023255551, 4398046511103, 8796093022207]
theorem constablelaw06_wakes.tab7 : rtab .any (opsOf Try.f51 7) = constablelaw06_wakes.T7 := by kernel_rfl
theorem constablelaw06_wakes.bits7 : waitsOk constablelaw06_wakes.T7.2 constablelaw06_wakes.B7 = true := by kernel_rfl
set_option maxHeartbeats 8000000 in
set_option maxRecDepth 100000 in
theorem constablelaw06_wakes.calls (k : Nat)  (r : Bool) (w : World) (h : constablelaw06_wakes.f k  = some r) :
  Calls Try.prog 51 #[] w fun e w' => e = .returned (.bool r) ∧ Below w.heap.size w w' := by
 have hu77 := Try.underlying77
 have hu69 := Try.underlying69
 have hu24 := Try.underlying24
 have hu53 := Try.underlying53
 have HB := Aside0.mk (Below.refl w.heap.size w)
 have H : ((some (([(⟨(⟨#[88]⟩ : ByteArray), (⟨0, 0, (⟨#[]⟩ : ByteArray)⟩ : S24)⟩ : S77), (⟨(⟨#[88]⟩ : ByteArray), (⟨0, 0, (⟨#[]⟩ : ByteArray)⟩ : S24)⟩ : S77)] : List (S77)) : List (S77))).bind fun y755 => ((match_One.f (⟨#[112]⟩ : ByteArray) y755 (⟨#[112]⟩ : ByteArray) (([(⟨1, 1, (⟨#[]⟩ : ByteArray)⟩ : S24), (⟨1, 1, (⟨#[]⟩ : ByteArray)⟩ : S24)] : List (S24))) ([] : List (S39))).bind fun bt764 => ((match_One.f (⟨#[112]⟩ : ByteArray) y755 (⟨#[112]⟩ : ByteArray) (([(⟨1, 1, (⟨#[]⟩ : ByteArray)⟩ : S24), (⟨1, 2, (⟨#[]⟩ : ByteArray)⟩ : S24)] : List (S24))) ([] : List (S39))).bind fun bt771 => ((match_Ground.f k (⟨#[112]⟩ : ByteArray) y755 bt764.1).bind fun bt775 => ((match_Ground.f k (⟨#[112]⟩ : ByteArray) y755 ([] : List (S39))).bind fun bt781 => (if bt764.2 = true then (if bt771.2 = true then (none) else (if (bt764.1.length : Int) = 1 then (if bt775.2.2 = 0 then (if (bt775.2.1.length : Int) = 2 then (if 1 < (bt775.2.1.length : Int) then (if ((rd_T24 bt775.2.1 1).f0) = 1 then (if ((rd_T24 bt775.2.1 1).f1) = 1 then (if (((rd_T24 bt775.2.1 1).f2).toList) = ([] : List UInt8) then (if bt781.2.2 = 5 then ((match_Vars.f k (⟨#[112]⟩ : ByteArray) y755).bind fun t788 => (if (t788.length : Int) = 1 then ((match_Check.f (⟨#[]⟩ : ByteArray) ([] : List (S77))).bind fun t791 => (some (t791 == 1))) else (none))) else (none)) else (none)) else (none)) else (none)) else (none)) else (none)) else (none)) else (none))) else (none))))))) = some r := h
 clear h
 obtain ⟨y755, hy755⟩ : ∃ y_ : List (S77), y_ = (([(⟨(⟨#[88]⟩ : ByteArray), (⟨0, 0, (⟨#[]⟩ : ByteArray)⟩ : S24)⟩ : S77), (⟨(⟨#[88]⟩ : ByteArray), (⟨0, 0, (⟨#[]⟩ : ByteArray)⟩ : S24)⟩ : S77)] : List (S77))) := ⟨_, rfl⟩
 replace H : ((match_One.f (⟨#[112]⟩ : ByteArray) y755 (⟨#[112]⟩ : ByteArray) (([(⟨1, 1, (⟨#[]⟩ : ByteArray)⟩ : S24), (⟨1, 1, (⟨#[]⟩ : ByteArray)⟩ : S24)] : List (S24))) ([] : List (S39))).bind fun bt764 => ((match_One.f (⟨#[112]⟩ : ByteArray) y755 (⟨#[112]⟩ : ByteArray) (([(⟨1, 1, (⟨#[]⟩ : ByteArray)⟩ : S24), (⟨1, 2, (⟨#[]⟩ : ByteArray)⟩ : S24)] : List (S24))) ([] : List (S39))).bind fun bt771 => ((match_Ground.f k (⟨#[112]⟩ : ByteArray) y755 bt764.1).bind fun bt775 => ((match_Ground.f k (⟨#[112]⟩ : ByteArray) y755 ([] : List (S39))).bind fun bt781 => (if bt764.2 = true then (if bt771.2 = true then (none) else (if (bt764.1.length : Int) = 1 then (if bt775.2.2 = 0 then (if (bt775.2.1.length : Int) = 2 then (if 1 < (bt775.2.1.length : Int) then (if ((rd_T24 bt775.2.1 1).f0) = 1 then (if ((rd_T24 bt775.2.1 1).f1) = 1 then (if (((rd_T24 bt775.2.1 1).f2).toList) = ([] : List UInt8) then (if bt781.2.2 = 5 then ((match_Vars.f k (⟨#[112]⟩ : ByteArray) y755).bind fun t788 => (if (t788.length : Int) = 1 then ((match_Check.f (⟨#[]⟩ : ByteArray) ([] : List (S77))).bind fun t791 => (some (t791 == 1))) else (none))) else (none)) else (none)) else (none)) else (none)) else (none)) else (none)) else (none)) else (none))) else (none)))))) = some r := by first | (rw [hy755]; with_reducible exact H) | (have H2_ := (Option.bind_some _ _).symm.trans H; rw [hy755]; with_reducible exact H2_) | (have H2_ := (Option.bind_some _ _).symm.trans H; with_reducible exact H2_) | with_reducible exact H | (rw [hy755]; exact H) | exact H
 have Ny755 := Aside0.mk hy755
 clear hy755
 obtain ⟨y761, hy761⟩ : ∃ y_ : List (S24), y_ = (([(⟨1, 1, (⟨#[]⟩ : ByteArray)⟩ : S24), (⟨1, 1, (⟨#[]⟩ : ByteArray)⟩ : S24)] : List (S24))) := ⟨_, rfl⟩
 replace H : ((match_One.f (⟨#[112]⟩ : ByteArray) y755 (⟨#[112]⟩ : ByteArray) y761 ([] : List (S39))).bind fun bt764 => ((match_One.f (⟨#[112]⟩ : ByteArray) y755 (⟨#[112]⟩ : ByteArray) (([(⟨1, 1, (⟨#[]⟩ : ByteArray)⟩ : S24), (⟨1, 2, (⟨#[]⟩ : ByteArray)⟩ : S24)] : List (S24))) ([] : List (S39))).bind fun bt771 => ((match_Ground.f k (⟨#[112]⟩ : ByteArray) y755 bt764.1).bind fun bt775 => ((match_Ground.f k (⟨#[112]⟩ : ByteArray) y755 ([] : List (S39))).bind fun bt781 => (if bt764.2 = true then (if bt771.2 = true then (none) else (if (bt764.1.length : Int) = 1 then (if bt775.2.2 = 0 then (if (bt775.2.1.length : Int) = 2 then (if 1 < (bt775.2.1.length : Int) then (if ((rd_T24 bt775.2.1 1).f0) = 1 then (if ((rd_T24 bt775.2.1 1).f1) = 1 then (if (((rd_T24 bt775.2.1 1).f2).toList) = ([] : List UInt8) then (if bt781.2.2 = 5 then ((match_Vars.f k (⟨#[112]⟩ : ByteArray) y755).bind fun t788 => (if (t788.length : Int) = 1 then ((match_Check.f (⟨#[]⟩ : ByteArray) ([] : List (S77))).bind fun t791 => (some (t791 == 1))) else (none))) else (none)) else (none)) else (none)) else (none)) else (none)) else (none)) else (none)) else (none))) else (none)))))) = some r := by first | (rw [hy761]; with_reducible exact H) | (have H2_ := (Option.bind_some _ _).symm.trans H; rw [hy761]; with_reducible exact H2_) | (have H2_ := (Option.bind_some _ _).symm.trans H; with_reducible exact H2_) | with_reducible exact H | (rw [hy761]; exact H) | exact H
 have Ny761 := Aside0.mk hy761
 clear hy761
 replace H := Option.bind_eq_some_iff.mp H
 obtain ⟨⟨t764, t767⟩, A10, H⟩ := H
 replace H : ((match_One.f (⟨#[112]⟩ : ByteArray) y755 (⟨#[112]⟩ : ByteArray) (([(⟨1, 1, (⟨#[]⟩ : ByteArray)⟩ : S24), (⟨1, 2, (⟨#[]⟩ : ByteArray)⟩ : S24)] : List (S24))) ([] : List (S39))).bind fun bt771 => ((match_Ground.f k (⟨#[112]⟩ : ByteArray) y755 t764).bind fun bt775 => ((match_Ground.f k (⟨#[112]⟩ : ByteArray) y755 ([] : List (S39))).bind fun bt781 => (if t767 = true then (if bt771.2 = true then (none) else (if (t764.length : Int) = 1 then (if bt775.2.2 = 0 then (if (bt775.2.1.length : Int) = 2 then (if 1 < (bt775.2.1.length : Int) then (if ((rd_T24 bt775.2.1 1).f0) = 1 then (if ((rd_T24 bt775.2.1 1).f1) = 1 then (if (((rd_T24 bt775.2.1 1).f2).toList) = ([] : List UInt8) then (if bt781.2.2 = 5 then ((match_Vars.f k (⟨#[112]⟩ : ByteArray) y755).bind fun t788 => (if (t788.length : Int) = 1 then ((match_Check.f (⟨#[]⟩ : ByteArray) ([] : List (S77))).bind fun t791 => (some (t791 == 1))) else (none))) else (none)) else (none)) else (none)) else (none)) else (none)) else (none)) else (none)) else (none))) else (none))))) = some r := H
 have A1 := Aside0.mk A10
 clear A10
 obtain ⟨y768, hy768⟩ : ∃ y_ : List (S24), y_ = (([(⟨1, 1, (⟨#[]⟩ : ByteArray)⟩ : S24), (⟨1, 2, (⟨#[]⟩ : ByteArray)⟩ : S24)] : List (S24))) := ⟨_, rfl⟩
 replace H : ((match_One.f (⟨#[112]⟩ : ByteArray) y755 (⟨#[112]⟩ : ByteArray) y768 ([] : List (S39))).bind fun bt771 => ((match_Ground.f k (⟨#[112]⟩ : ByteArray) y755 t764).bind fun bt775 => ((match_Ground.f k (⟨#[112]⟩ : ByteArray) y755 ([] : List (S39))).bind fun bt781 => (if t767 = true then (if bt771.2 = true then (none) else (if (t764.length : Int) = 1 then (if bt775.2.2 = 0 then (if (bt775.2.1.length : Int) = 2 then (if 1 < (bt775.2.1.length : Int) then (if ((rd_T24 bt775.2.1 1).f0) = 1 then (if ((rd_T24 bt775.2.1 1).f1) = 1 then (if (((rd_T24 bt775.2.1 1).f2).toList) = ([] : List UInt8) then (if bt781.2.2 = 5 then ((match_Vars.f k (⟨#[112]⟩ : ByteArray) y755).bind fun t788 => (if (t788.length : Int) = 1 then ((match_Check.f (⟨#[]⟩ : ByteArray) ([] : List (S77))).bind fun t791 => (some (t791 == 1))) else (none))) else (none)) else (none)) else (none)) else (none)) else (none)) else (none)) else (none)) else (none))) else (none))))) = some r := by first | (rw [hy768]; with_reducible exact H) | (have H2_ := (Option.bind_some _ _).symm.trans H; rw [hy768]; with_reducible exact H2_) | (have H2_ := (Option.bind_some _ _).symm.trans H; with_reducible exact H2_) | with_reducible exact H | (rw [hy768]; exact H) | exact H
 have Ny768 := Aside0.mk hy768
 clear hy768
 replace H := Option.bind_eq_some_iff.mp H
 obtain ⟨⟨t771, t774⟩, A20, H⟩ := H
 replace H : ((match_Ground.f k (⟨#[112]⟩ : ByteArray) y755 t764).bind fun bt775 => ((match_Ground.f k (⟨#[112]⟩ : ByteArray) y755 ([] : List (S39))).bind fun bt781 => (if t767 = true then (if t774 = true then (none) else (if (t764.length : Int) = 1 then (if bt775.2.2 = 0 then (if (bt775.2.1.length : Int) = 2 then (if 1 < (bt775.2.1.length : Int) then (if ((rd_T24 bt775.2.1 1).f0) = 1 then (if ((rd_T24 bt775.2.1 1).f1) = 1 then (if (((rd_T24 bt775.2.1 1).f2).toList) = ([] : List UInt8) then (if bt781.2.2 = 5 then ((match_Vars.f k (⟨#[112]⟩ : ByteArray) y755).bind fun t788 => (if (t788.length : Int) = 1 then ((match_Check.f (⟨#[]⟩ : ByteArray) ([] : List (S77))).bind fun t791 => (some (t791 == 1))) else (none))) else (none)) else (none)) else (none)) else (none)) else (none)) else (none)) else (none)) else (none))) else (none)))) = some r := H
 have A2 := Aside0.mk A20
 clear A20
 replace H := Option.bind_eq_some_iff.mp H
 obtain ⟨⟨t775, t776, t779⟩, A30, H⟩ := H
 replace H : ((match_Ground.f k (⟨#[112]⟩ : ByteArray) y755 ([] : List (S39))).bind fun bt781 => (if t767 = true then (if t774 = true then (none) else (if (t764.length : Int) = 1 then (if t779 = 0 then (if (t776.length : Int) = 2 then (if 1 < (t776.length : Int) then (if ((rd_T24 t776 1).f0) = 1 then (if ((rd_T24 t776 1).f1) = 1 then (if (((rd_T24 t776 1).f2).toList) = ([] : List UInt8) then (if bt781.2.2 = 5 then ((match_Vars.f k (⟨#[112]⟩ : ByteArray) y755).bind fun t788 => (if (t788.length : Int) = 1 then ((match_Check.f (⟨#[]⟩ : ByteArray) ([] : List (S77))).bind fun t791 => (some (t791 == 1))) else (none))) else (none)) else (none)) else (none)) else (none)) else (none)) else (none)) else (none)) else (none))) else (none))) = some r := H
 have A3 := Aside0.mk A30
 clear A30
 replace H := Option.bind_eq_some_iff.mp H
 obtain ⟨⟨t781, t782, t785⟩, A40, H⟩ := H
 replace H : (if t767 = true then (if t774 = true then (none) else (if (t764.length : Int) = 1 then (if t779 = 0 then (if (t776.length : Int) = 2 then (if 1 < (t776.length : Int) then (if ((rd_T24 t776 1).f0) = 1 then (if ((rd_T24 t776 1).f1) = 1 then (if (((rd_T24 t776 1).f2).toList) = ([] : List UInt8) then (if t785 = 5 then ((match_Vars.f k (⟨#[112]⟩ : ByteArray) y755).bind fun t788 => (if (t788.length : Int) = 1 then ((match_Check.f (⟨#[]⟩ : ByteArray) ([] : List (S77))).bind fun t791 => (some (t791 == 1))) else (none))) else (none)) else (none)) else (none)) else (none)) else (none)) else (none)) else (none)) else (none))) else (none)) = some r := H
 have A4 := Aside0.mk A40
 clear A40
 by_cases c5 : t767 = true
 ·subst c5
  have H1 : (if t774 = true then (none) else (if (t764.length : Int) = 1 then (if t779 = 0 then (if (t776.length : Int) = 2 then (if 1 < (t776.length : Int) then (if ((rd_T24 t776 1).f0) = 1 then (if ((rd_T24 t776 1).f1) = 1 then (if (((rd_T24 t776 1).f2).toList) = ([] : List UInt8) then (if t785 = 5 then ((match_Vars.f k (⟨#[112]⟩ : ByteArray) y755).bind fun t788 => (if (t788.length : Int) = 1 then ((match_Check.f (⟨#[]⟩ : ByteArray) ([] : List (S77))).bind fun t791 => (some (t791 == 1))) else (none))) else (none)) else (none)) else (none)) else (none)) else (none)) else (none)) else (none)) else (none))) = some r := by rw [if_pos rfl] at H; exact H
  clear H
  have H := H1
  clear H1
  by_cases c6 : t774 = true
  ·subst c6
   have H1 : (none) = some r := by rw [if_pos rfl] at H; exact H
   clear H
   have H := H1
   clear H1
   exact absurd H (by simp)
  ·replace c6 := Bool.eq_false_iff.mpr c6
   subst c6
   have H1 : (if (t764.length : Int) = 1 then (if t779 = 0 then (if (t776.length : Int) = 2 then (if 1 < (t776.length : Int) then (if ((rd_T24 t776 1).f0) = 1 then (if ((rd_T24 t776 1).f1) = 1 then (if (((rd_T24 t776 1).f2).toList) = ([] : List UInt8) then (if t785 = 5 then ((match_Vars.f k (⟨#[112]⟩ : ByteArray) y755).bind fun t788 => (if (t788.length : Int) = 1 then ((match_Check.f (⟨#[]⟩ : ByteArray) ([] : List (S77))).bind fun t791 => (some (t791 == 1))) else (none))) else (none)) else (none)) else (none)) else (none)) else (none)) else (none)) else (none)) else (none)) = some r := by rw [if_neg (show ¬ (false = true) by decide)] at H; exact H
   clear H
   have H := H1
   clear H1
   by_cases c7 : (t764.length : Int) = 1
   ·rw [if_pos c7] at H
    have c7b0 : ((t764.length : Int) == 1) = true := beq_iff_eq.mpr c7
    have c7b1 : ((t764.length : Int) != 1) = false := bne_eq_false_iff_eq.mpr c7
    clear c7
    by_cases c8 : t779 = 0
    ·rw [if_pos c8] at H
     have c8b0 : (t779 == 0) = true := beq_iff_eq.mpr c8
     have c8b1 : (t779 != 0) = false := bne_eq_false_iff_eq.mpr c8
     clear c8
     by_cases c9 : (t776.length : Int) = 2
     ·rw [if_pos c9] at H
      have c9b0 : ((t776.length : Int) == 2) = true := beq_iff_eq.mpr c9
      have c9b1 : ((t776.length : Int) != 2) = false := bne_eq_false_iff_eq.mpr c9
      clear c9
      by_cases c10 : 1 < (t776.length : Int)
      ·rw [if_pos c10] at H
       have c10b0 : decide (1 < (t776.length : Int)) = true := decide_eq_true c10
       have c10b1 : decide (1 < t776.length) = true := decide_eq_true (by omega)
       clear c10
       by_cases c11 : ((rd_T24 t776 1).f0) = 1
       ·rw [if_pos c11] at H
        have c11b0 : (((rd_T24 t776 1).f0) == 1) = true := beq_iff_eq.mpr c11
        have c11b1 : (((rd_T24 t776 1).f0) != 1) = false := bne_eq_false_iff_eq.mpr c11
        clear c11
        by_cases c12 : ((rd_T24 t776 1).f1) = 1
        ·rw [if_pos c12] at H
         have c12b0 : (((rd_T24 t776 1).f1) == 1) = true := beq_iff_eq.mpr c12
         have c12b1 : (((rd_T24 t776 1).f1) != 1) = false := bne_eq_false_iff_eq.mpr c12
         clear c12
         by_cases c13 : (((rd_T24 t776 1).f2).toList) = ([] : List UInt8)
         ·rw [if_pos c13] at H
          have c13b0 : ((((rd_T24 t776 1).f2).toList) == ([] : List UInt8)) = true := beq_iff_eq.mpr c13
          have c13b1 : ((((rd_T24 t776 1).f2).toList) != ([] : List UInt8)) = false := bne_eq_false_iff_eq.mpr c13
          clear c13
          by_cases c14 : t785 = 5
          ·rw [if_pos c14] at H
           have c14b0 : (t785 == 5) = true := beq_iff_eq.mpr c14
           have c14b1 : (t785 != 5) = false := bne_eq_false_iff_eq.mpr c14
           clear c14
           replace H := Option.bind_eq_some_iff.mp H
           obtain ⟨t788, A150, H⟩ := H
           replace H : (if (t788.length : Int) = 1 then ((match_Check.f (⟨#[]⟩ : ByteArray) ([] : List (S77))).bind fun t791 => (some (t791 == 1))) else (none)) = some r := H
           have A15 := Aside0.mk A150
           clear A150
           by_cases c16 : (t788.length : Int) = 1
           ·rw [if_pos c16] at H
            have c16b0 : ((t788.length : Int) == 1) = true := beq_iff_eq.mpr c16
            have c16b1 : ((t788.length : Int) != 1) = false := bne_eq_false_iff_eq.mpr c16
            clear c16
            replace H := Option.bind_eq_some_iff.mp H
            obtain ⟨t791, A170, H⟩ := H
            replace H : (some (t791 == 1)) = some r := H
            have A17 := Aside0.mk A170
            clear A170
            obtain rfl := Option.some.inj H
            go_enter Try.func51, Try.ntmps51
            try go_wp2_with (first | ((with_reducible refine gate_dst (N := 14) rfl ?_); (try (refine gate_guard (by rfl) ?_; dsimp only)); refine Kd.R_lit k77 _ 77 ?hg (N := 14) ?hd (xs := ([(⟨(⟨#[88]⟩ : ByteArray), (⟨0, 0, (⟨#[]⟩ : ByteArray)⟩ : S24)⟩ : S77), (⟨(⟨#[88]⟩ : ByteArray), (⟨0, 0, (⟨#[]⟩ : ByteArray)⟩ : S24)⟩ : S77)] : List (S77))) (inner := [.string (⟨#[88]⟩ : ByteArray), .int .i64 0, .int .i64 0, .string (⟨#[]⟩ : ByteArray), .string (⟨#[88]⟩ : ByteArray), .int .i64 0, .int .i64 0, .string (⟨#[]⟩ : ByteArray)]) (ok := fun _ => True) (okp := fun _ => True) ?hr ?hp (fun _ hk => hk) trivial (Below.refl _ _) (Nat.le_refl _) (by simp) ?_; (case hd => rfl); (case hg => rfl); (case hr => first | (go_simp; done) | (go_simp; rfl)); (case hp => exact (Reps.c4 (show Kd.M k77 _ _ _ (⟨(⟨#[88]⟩ : ByteArray), (⟨0, 0, (⟨#[]⟩ : ByteArray)⟩ : S24)⟩ : S77) [.string (⟨#[88]⟩ : ByteArray), .int .i64 0, .int .i64 0, .string (⟨#[]⟩ : ByteArray)] from (k77_mkM _ _ _ (⟨(⟨#[88]⟩ : ByteArray), (⟨0, 0, (⟨#[]⟩ : ByteArray)⟩ : S24)⟩ : S77) )) (Reps.c4 (show Kd.M k77 _ _ _ (⟨(⟨#[88]⟩ : ByteArray), (⟨0, 0, (⟨#[]⟩ : ByteArray)⟩ : S24)⟩ : S77) [.string (⟨#[88]⟩ : ByteArray), .int .i64 0, .int .i64 0, .string (⟨#[]⟩ : ByteArray)] from (k77_mkM _ _ _ (⟨(⟨#[88]⟩ : ByteArray), (⟨0, 0, (⟨#[]⟩ : ByteArray)⟩ : S24)⟩ : S77) )) (Reps.none _ _)))); intro v756 w18 ho19 hb hg_ hnew_; clear hg_ hnew_; (first | rw [← Ny755.out] at ho19 | (simp only [Int.reduceToNat] at ho19; rw [← Ny755.out] at ho19)); have n0_ := Aside0.mk (Kd.R_lower ho19 (below_size bB0)); have n1_ := Aside0.mk (below_step bB0 hb); clear HB; have HO757 := n0_; have HB := n1_; clear n0_ n1_; clear hb ho19; obtain ⟨Ao20, co20, eo20⟩ := Kd.R_slice HO757.out; subst eo20) | ((with_reducible refine gate_dst (N := 1) rfl ?_); (try (refine gate_guard (by rfl) ?_; dsimp only)); refine bE (N := 1) (cs := #[.string (⟨#[]⟩ : ByteArray), .slice none 0 0]) (t := 69) ?_; intro gb758 hg w21 hbox hb; have n0_ := Aside0.mk (Kd.R_below (sR HO757.out) hb); have n1_ := Aside0.mk (below_step bB0 hb); have n2_ := Aside0.mk (hbox); have n3_ := Aside0.mk ((by rw [hg]; exact (below_size bB0) : w.heap.size ≤ gb758)); have n4_ := Aside0.mk ((by rw [hg]; exact (below_size bB0) : w.heap.size ≤ gb758)); clear HO757; clear HB; have HO757 := n0_; have HB := n1_; have BK758 := n2_; have GW758 := n3_; have GE758 := n4_; clear n0_ n1_ n2_ n3_ n4_; clear hb hbox hg; have hcz22_0 : w21.cell? ⟨gb758, 0, none⟩ = some (.string (⟨#[]⟩ : ByteArray)) := (blk_cell BK758.out 0).trans rfl; have hcz22_1 : w21.cell? ⟨gb758, 1, none⟩ = some (.slice none 0 0) := (blk_cell BK758.out 1).trans rfl; have hfz22_0 := blk_frozen BK758.out 0; have hfz22_1 := blk_frozen BK758.out 1) | ((with_reducible refine gate_dst (N := 2) rfl ?_); (try (refine gate_guard (by rfl) ?_; dsimp only)); refine bE (N := 2) (cs := #[.int .i64 0, .int .i64 0, .string (⟨#[]⟩ : ByteArray)]) (t := 24) ?_; intro gb759 hg w23 hbox hb; have n0_ := Aside0.mk (Kd.R_below (sR ((Kd.R_mono (Kd.R_far (p := ⟨gb758, 1, none⟩) (Kd.R_far (p := ⟨gb758, 0, none⟩) (Kd.R_types HO757.out BK758.out (by decide)) (fun _ hk => hk.2) (.string (⟨#[112]⟩ : ByteArray))) (fun _ hk => hk.2) (.slice Ao20 y755.length co20)) (fun _ h_ => h_.1)))) hb); have n1_ := Aside0.mk (blk_below (g := gb758) (o := .cells #[.string (⟨#[112]⟩ : ByteArray), .slice Ao20 y755.length co20] 69 (0, 0)) (by refine bk ?_; refine blk_put (cs := #[.string (⟨#[112]⟩ : ByteArray), .slice none 0 0]) ?_ 1 _ rfl; refine bk ?_; refine blk_put (cs := #[.string (⟨#[]⟩ : ByteArray), .slice none 0 0]) ?_ 0 _ rfl; refine bk ?_; exact BK758.out) hb); have n2_ := Aside0.mk (below_step (bB1 GE758.out) hb); have n3_ := Aside0.mk (hbox); have n4_ := Aside0.mk ((by rw [hg]; exact (below_size (bB1 GE758.out)) : w.heap.size ≤ gb759)); have n5_ := Aside0.mk ((by rw [hg]; exact (below_size (bB1 GE758.out)) : w.heap.size ≤ gb759)); have n6_ := Aside0.mk ((by rw [hg]; exact Nat.ne_of_lt (blk_lt (g := gb758) (o := .cells #[.string (⟨#[112]⟩ : ByteArray), .slice Ao20 y755.length co20] 69 (0, 0)) (by refine bk ?_; refine blk_put (cs := #[.string (⟨#[112]⟩ : ByteArray), .slice none 0 0]) ?_ 1 _ rfl; refine bk ?_; refine blk_put (cs := #[.string (⟨#[]⟩ : ByteArray), .slice none 0 0]) ?_ 0 _ rfl; refine bk ?_; exact BK758.out)) : gb758 ≠ gb759)); have n7_ := Aside0.mk ((by rw [hg]; exact Nat.ne_of_gt (blk_lt (g := gb758) (o := .cells #[.string (⟨#[112]⟩ : ByteArray), .slice Ao20 y755.length co20] 69 (0, 0)) (by refine bk ?_; refine blk_put (cs := #[.string (⟨#[112]⟩ : ByteArray), .slice none 0 0]) ?_ 1 _ rfl; refine bk ?_; refine blk_put (cs := #[.string (⟨#[]⟩ : ByteArray), .slice none 0 0]) ?_ 0 _ rfl; refine bk ?_; exact BK758.out)) : gb759 ≠ gb758)); clear HO757; clear BK758; clear HB; have HO757 := n0_; have BK758 := n1_; have HB := n2_; have BK759 := n3_; have GW759 := n4_; have GE759 := n5_; have NB758_759 := n6_; have NB759_758 := n7_; clear n0_ n1_ n2_ n3_ n4_ n5_ n6_ n7_; clear hb hbox hg) | ((with_reducible refine gate_dst (N := 3) rfl ?_); (try (refine gate_guard (by rfl) ?_; dsimp only)); refine bE (N := 3) (cs := #[.int .i64 0, .int .i64 0, .string (⟨#[]⟩ : ByteArray)]) (t := 24) ?_; intro gb760 hg w24 hbox hb; have n0_ := Aside0.mk (Kd.R_below (sR HO757.out) hb); have n1_ := Aside0.mk (blk_below (g := gb758) (o := .cells #[.string (⟨#[112]⟩ : ByteArray), .slice Ao20 y755.length co20] 69 (0, 0)) (by refine bk ?_; exact BK758.out) hb); have n2_ := Aside0.mk (blk_below (g := gb759) (o := .cells #[.int .i64 0, .int .i64 0, .string (⟨#[]⟩ : ByteArray)] 24 (0, 0)) (by refine bk ?_; exact BK759.out) hb); have n3_ := Aside0.mk (below_step (bB2 GE758.out GE759.out) hb); have n4_ := Aside0.mk (hbox); have n5_ := Aside0.mk ((by rw [hg]; exact (below_size (bB2 GE758.out GE759.out)) : w.heap.size ≤ gb760)); have n6_ := Aside0.mk ((by rw [hg]; exact (below_size (bB2 GE758.out GE759.out)) : w.heap.size ≤ gb760)); have n7_ := Aside0.mk ((by rw [hg]; exact Nat.ne_of_lt (blk_lt (g := gb758) (o := .cells #[.string (⟨#[112]⟩ : ByteArray), .slice Ao20 y755.length co20] 69 (0, 0)) (by refine bk ?_; exact BK758.out)) : gb758 ≠ gb760)); have n8_ := Aside0.mk ((by rw [hg]; exact Nat.ne_of_gt (blk_lt (g := gb758) (o := .cells #[.string (⟨#[112]⟩ : ByteArray), .slice Ao20 y755.length co20] 69 (0, 0)) (by refine bk ?_; exact BK758.out)) : gb760 ≠ gb758)); have n9_ := Aside0.mk ((by rw [hg]; exact Nat.ne_of_lt (blk_lt (g := gb759) (o := .cells #[.int .i64 0, .int .i64 0, .string (⟨#[]⟩ : ByteArray)] 24 (0, 0)) (by refine bk ?_; exact BK759.out)) : gb759 ≠ gb760)); have n10_ := Aside0.mk ((by rw [hg]; exact Nat.ne_of_gt (blk_lt (g := gb759) (o := .cells #[.int .i64 0, .int .i64 0, .string (⟨#[]⟩ : ByteArray)] 24 (0, 0)) (by refine bk ?_; exact BK759.out)) : gb760 ≠ gb759)); clear HO757; clear BK758; clear BK759; clear HB; have HO757 := n0_; have BK758 := n1_; have BK759 := n2_; have HB := n3_; have BK760 := n4_; have GW760 := n5_; have GE760 := n6_; have NB758_760 := n7_; have NB760_758 := n8_; have NB759_760 := n9_; have NB760_759 := n10_; clear n0_ n1_ n2_ n3_ n4_ n5_ n6_ n7_ n8_ n9_ n10_; clear hb hbox hg; have hnb25 := NB759_758.out; have hnc25 := NB758_759.out; have hnb26 := NB759_760.out; have hnc26 := NB760_759.out; have hcz27_0 : w24.cell? ⟨gb759, 0, none⟩ = some (.int .i64 0) := (blk_cell BK759.out 0).trans rfl; have hcz27_1 : w24.cell? ⟨gb759, 1, none⟩ = some (.int .i64 0) := (blk_cell BK759.out 1).trans rfl; have hcz27_2 : w24.cell? ⟨gb759, 2, none⟩ = some (.string (⟨#[]⟩ : ByteArray)) := (blk_cell BK759.out 2).trans rfl; have hfz27_0 := blk_frozen BK759.out 0; have hfz27_1 := blk_frozen BK759.out 1; have hfz27_2 := blk_frozen BK759.out 2; have hnb28 := NB760_758.out; have hnc28 := NB758_760.out; have hcz29_0 : w24.cell? ⟨gb760, 0, none⟩ = some (.int .i64 0) := (blk_cell BK760.out 0).trans rfl; have hcz29_1 : w24.cell? ⟨gb760, 1, none⟩ = some (.int .i64 0) := (blk_cell BK760.out 1).trans rfl; have hcz29_2 : w24.cell? ⟨gb760, 2, none⟩ = some (.string (⟨#[]⟩ : ByteArray)) := (blk_cell BK760.out 2).trans rfl; have hfz29_0 := blk_frozen BK760.out 0; have hfz29_1 := blk_frozen BK760.out 1; have hfz29_2 := blk_frozen BK760.out 2; have hcz30_0 : w24.cell? ⟨gb758, 0, none⟩ = some (.string (⟨#[112]⟩ : ByteArray)) := (blk_cell BK758.out 0).trans rfl; have hcz30_1 : w24.cell? ⟨gb758, 1, none⟩ = some (.slice Ao20 y755.length co20) := (blk_cell BK758.out 1).trans rfl; have hfz30_0 := blk_frozen BK758.out 0; have hfz30_1 := blk_frozen BK758.out 1) | ((with_reducible refine gate_dst (N := 22) rfl ?_); (try (refine gate_guard (by rfl) ?_; dsimp only)); refine Kd.R_lit k24 _ 24 ?hg (N := 22) ?hd (xs := ([(⟨1, 1, (⟨#[]⟩ : ByteArray)⟩ : S24), (⟨1, 1, (⟨#[]⟩ : ByteArray)⟩ : S24)] : List (S24))) (inner := [.int .i64 1, .int .i64 1, .string (⟨#[]⟩ : ByteArray), .int .i64 1, .int .i64 1, .string (⟨#[]⟩ : ByteArray)]) (ok := fun _ => True) (okp := fun _ => True) ?hr ?hp (fun _ hk => hk) trivial (Below.refl _ _) (Nat.le_refl _) (by simp) ?_; (case hd => rfl); (case hg => rfl); (case hr => first | (go_simp; done) | (go_simp; rfl)); (case hp => exact (Reps.c3 (show Kd.M k24 _ _ _ (⟨1, 1, (⟨#[]⟩ : ByteArray)⟩ : S24) [.int .i64 1, .int .i64 1, .string (⟨#[]⟩ : ByteArray)] from (k24_mkM _ _ _ (⟨1, 1, (⟨#[]⟩ : ByteArray)⟩ : S24) )) (Reps.c3 (show Kd.M k24 _ _ _ (⟨1, 1, (⟨#[]⟩ : ByteArray)⟩ : S24) [.int .i64 1, .int .i64 1, .string (⟨#[]⟩ : ByteArray)] from (k24_mkM _ _ _ (⟨1, 1, (⟨#[]⟩ : ByteArray)⟩ : S24) )) (Reps.none _ _)))); intro v762 w31 ho32 hb hg_ hnew_; clear hg_ hnew_; (first | rw [← Ny761.out] at ho32 | (simp only [Int.reduceToNat] at ho32; rw [← Ny761.out] at ho32)); have n0_ := Aside0.mk (Kd.R_below (sR ((Kd.R_mono (Kd.R_mono (Kd.R_far (p := ⟨gb760, 2, none⟩) (Kd.R_far (p := ⟨gb760, 1, none⟩) (Kd.R_far (p := ⟨gb760, 0, none⟩) (Kd.R_far (p := ⟨gb759, 2, none⟩) (Kd.R_far (p := ⟨gb759, 1, none⟩) (Kd.R_far (p := ⟨gb759, 0, none⟩) (Kd.R_types (Kd.R_types HO757.out BK759.out (by decide)) BK760.out (by decide)) (fun _ hk => hk.1.2) (.int .i64 1)) (fun _ hk => hk.1.2) (.int .i64 1)) (fun _ hk => hk.1.2) (.string (⟨#[]⟩ : ByteArray))) (fun _ hk => hk.2) (.int .i64 1)) (fun _ hk => hk.2) (.int .i64 2)) (fun _ hk => hk.2) (.string (⟨#[]⟩ : ByteArray))) (fun _ h_ => h_.1)) (fun _ h_ => h_.1)))) hb); have n1_ := Aside0.mk (Kd.R_lower (Kd.R_newB (Kd.R_newB ho32 (g := gb759) (o := .cells #[.int .i64 1, .int .i64 1, .string (⟨#[]⟩ : ByteArray)] 24 (0, 0)) (by refine bk ?_; refine blk_far ?_ NB759_760.out _; refine bk ?_; refine blk_far ?_ NB759_760.out _; refine bk ?_; refine blk_far ?_ NB759_760.out _; refine bk ?_; refine blk_put (cs := #[.int .i64 1, .int .i64 1, .string (⟨#[]⟩ : ByteArray)]) ?_ 2 _ rfl; refine bk ?_; refine blk_put (cs := #[.int .i64 1, .int .i64 0, .string (⟨#[]⟩ : ByteArray)]) ?_ 1 _ rfl; refine bk ?_; refine blk_put (cs := #[.int .i64 0, .int .i64 0, .string (⟨#[]⟩ : ByteArray)]) ?_ 0 _ rfl; refine bk ?_; exact BK759.out)) (g := gb760) (o := .cells #[.int .i64 1, .int .i64 2, .string (⟨#[]⟩ : ByteArray)] 24 (0, 0)) (by refine bk ?_; refine blk_put (cs := #[.int .i64 1, .int .i64 2, .string (⟨#[]⟩ : ByteArray)]) ?_ 2 _ rfl; refine bk ?_; refine blk_put (cs := #[.int .i64 1, .int .i64 0, .string (⟨#[]⟩ : ByteArray)]) ?_ 1 _ rfl; refine bk ?_; refine blk_put (cs := #[.int .i64 0, .int .i64 0, .string (⟨#[]⟩ : ByteArray)]) ?_ 0 _ rfl; refine bk ?_; refine blk_far ?_ NB760_759.out _; refine bk ?_; refine blk_far ?_ NB760_759.out _; refine bk ?_; refine blk_far ?_ NB760_759.out _; refine bk ?_; exact BK760.out)) (below_size (bB3 GE758.out GE759.out GE760.out))); have n2_ := Aside0.mk (blk_below (g := gb758) (o := .cells #[.string (⟨#[112]⟩ : ByteArray), .slice Ao20 y755.length co20] 69 (0, 0)) (by refine bk ?_; refine blk_far ?_ NB758_760.out _; refine bk ?_; refine blk_far ?_ NB758_760.out _; refine bk ?_; refine blk_far ?_ NB758_760.out _; refine bk ?_; refine blk_far ?_ NB758_759.out _; refine bk ?_; refine blk_far ?_ NB758_759.out _; refine bk ?_; refine blk_far ?_ NB758_759.out _; refine bk ?_; exact BK758.out) hb); have n3_ := Aside0.mk (blk_below (g := gb759) (o := .cells #[.int .i64 1, .int .i64 1, .string (⟨#[]⟩ : ByteArray)] 24 (0, 0)) (by refine bk ?_; refine blk_far ?_ NB759_760.out _; refine bk ?_; refine blk_far ?_ NB759_760.out _; refine bk ?_; refine blk_far ?_ NB759_760.out _; refine bk ?_; refine blk_put (cs := #[.int .i64 1, .int .i64 1, .string (⟨#[]⟩ : ByteArray)]) ?_ 2 _ rfl; refine bk ?_; refine blk_put (cs := #[.int .i64 1, .int .i64 0, .string (⟨#[]⟩ : ByteArray)]) ?_ 1 _ rfl; refine bk ?_; refine blk_put (cs := #[.int .i64 0, .int .i64 0, .string (⟨#[]⟩ : ByteArray)]) ?_ 0 _ rfl; refine bk ?_; exact BK759.out) hb); have n4_ := Aside0.mk (blk_below (g := gb760) (o := .cells #[.int .i64 1, .int .i64 2, .string (⟨#[]⟩ : ByteArray)] 24 (0, 0)) (by refine bk ?_; refine blk_put (cs := #[.int .i64 1, .int .i64 2, .string (⟨#[]⟩ : ByteArray)]) ?_ 2 _ rfl; refine bk ?_; refine blk_put (cs := #[.int .i64 1, .int .i64 0, .string (⟨#[]⟩ : ByteArray)]) ?_ 1 _ rfl; refine bk ?_; refine blk_put (cs := #[.int .i64 0, .int .i64 0, .string (⟨#[]⟩ : ByteArray)]) ?_ 0 _ rfl; refine bk ?_; refine blk_far ?_ NB760_759.out _; refine bk ?_; refine blk_far ?_ NB760_759.out _; refine bk ?_; refine blk_far ?_ NB760_759.out _; refine bk ?_; exact BK760.out) hb); have n5_ := Aside0.mk (below_step (bB3 GE758.out GE759.out GE760.out) hb); clear HO757; clear BK758; clear BK759; clear BK760; clear HB; have HO757 := n0_; have HO763 := n1_; have BK758 := n2_; have BK759 := n3_; have BK760 := n4_; have HB := n5_; clear n0_ n1_ n2_ n3_ n4_ n5_; clear hb ho32; obtain ⟨Ao33, co33, eo33⟩ := Kd.R_slice HO763.out; subst eo33) | ((with_reducible refine gate_callee (f := 50) rfl ?_); refine goesL_ (some 24) rfl rfl Try.func50 (by kernel_rfl) rfl #[.agg #[.string (⟨#[112]⟩ : ByteArray), .slice Ao20 y755.length co20], .agg #[.string (⟨#[112]⟩ : ByteArray), .slice Ao33 y761.length co33], .slice none 0 0] rfl aG ?_; (refine (match_One.calls (⟨#[112]⟩ : ByteArray) _ _ y755 (⟨#[112]⟩ : ByteArray) _ _ y761 _ _ ([] : List (S39)) t764 true _ ?side1 ?side2 ?side3 ?side4 ?side5 ?side6 A1.out).mono ?_); (case side1 => exact sC (Kd.R_reads' HO757.out).2.2); (case side2 => exact (Kd.R_reads' HO757.out).2.1); (case side3 => exact sC (Kd.R_reads' HO763.out).2.2); (case side4 => exact (Kd.R_reads' HO763.out).2.1); (case side5 => exact Kd.C_nil _ _); (case side6 => exact Nat.le_refl _); rintro e w34 ⟨v765, rfl, ho0, hb⟩; refine ⟨_, rfl, ?_⟩; have n0_ := Aside0.mk (Kd.R_below (sR HO757.out) hb); have n1_ := Aside0.mk (Kd.R_below (sR HO763.out) hb); have n2_ := Aside0.mk (Kd.R_lower ho0 (below_size (bB3 GE758.out GE759.out GE760.out))); have n3_ := Aside0.mk (blk_below (g := gb758) (o := .cells #[.string (⟨#[112]⟩ : ByteArray), .slice Ao20 y755.length co20] 69 (0, 0)) (by refine bk ?_; exact BK758.out) hb); have n4_ := Aside0.mk (blk_below (g := gb759) (o := .cells #[.int .i64 1, .int .i64 1, .string (⟨#[]⟩ : ByteArray)] 24 (0, 0)) (by refine bk ?_; exact BK759.out) hb); have n5_ := Aside0.mk (blk_below (g := gb760) (o := .cells #[.int .i64 1, .int .i64 2, .string (⟨#[]⟩ : ByteArray)] 24 (0, 0)) (by refine bk ?_; exact BK760.out) hb); have n6_ := Aside0.mk (below_step (bB3 GE758.out GE759.out GE760.out) hb); clear HO757; clear HO763; clear BK758; clear BK759; clear BK760; clear HB; have HO757 := n0_; have HO763 := n1_; have HO766 := n2_; have BK758 := n3_; have BK759 := n4_; have BK760 := n5_; have HB := n6_; clear n0_ n1_ n2_ n3_ n4_ n5_ n6_; (try clear hb); (try clear hb2); (try clear hk); (try clear hi); (try clear ho0); have hcz35_0 : w34.cell? ⟨gb758, 0, none⟩ = some (.string (⟨#[112]⟩ : ByteArray)) := (blk_cell BK758.out 0).trans rfl; have hcz35_1 : w34.cell? ⟨gb758, 1, none⟩ = some (.slice Ao20 y755.length co20) := (blk_cell BK758.out 1).trans rfl; have hfz35_0 := blk_frozen BK758.out 0; have hfz35_1 := blk_frozen BK758.out 1; have hcz36_0 : w34.cell? ⟨gb759, 0, none⟩ = some (.int .i64 1) := (blk_cell BK759.out 0).trans rfl; have hcz36_1 : w34.cell? ⟨gb759, 1, none⟩ = some (.int .i64 1) := (blk_cell BK759.out 1).trans rfl; have hcz36_2 : w34.cell? ⟨gb759, 2, none⟩ = some (.string (⟨#[]⟩ : ByteArray)) := (blk_cell BK759.out 2).trans rfl; have hfz36_0 := blk_frozen BK759.out 0; have hfz36_1 := blk_frozen BK759.out 1; have hfz36_2 := blk_frozen BK759.out 2; have hcz37_0 : w34.cell? ⟨gb760, 0, none⟩ = some (.int .i64 1) := (blk_cell BK760.out 0).trans rfl; have hcz37_1 : w34.cell? ⟨gb760, 1, none⟩ = some (.int .i64 2) := (blk_cell BK760.out 1).trans rfl; have hcz37_2 : w34.cell? ⟨gb760, 2, none⟩ = some (.string (⟨#[]⟩ : ByteArray)) := (blk_cell BK760.out 2).trans rfl; have hfz37_0 := blk_frozen BK760.out 0; have hfz37_1 := blk_frozen BK760.out 1; have hfz37_2 := blk_frozen BK760.out 2) | ((with_reducible refine gate_dst (N := 31) rfl ?_); (try (refine gate_guard (by rfl) ?_; dsimp only)); refine Kd.R_lit k24 _ 24 ?hg (N := 31) ?hd (xs := ([(⟨1, 1, (⟨#[]⟩ : ByteArray)⟩ : S24), (⟨1, 2, (⟨#[]⟩ : ByteArray)⟩ : S24)] : List (S24))) (inner := [.int .i64 1, .int .i64 1, .string (⟨#[]⟩ : ByteArray), .int .i64 1, .int .i64 2, .string (⟨#[]⟩ : ByteArray)]) (ok := fun _ => True) (okp := fun _ => True) ?hr ?hp (fun _ hk => hk) trivial (Below.refl _ _) (Nat.le_refl _) (by simp) ?_; (case hd => rfl); (case hg => rfl); (case hr => first | (go_simp; done) | (go_simp; rfl)); (case hp => exact (Reps.c3 (show Kd.M k24 _ _ _ (⟨1, 1, (⟨#[]⟩ : ByteArray)⟩ : S24) [.int .i64 1, .int .i64 1, .string (⟨#[]⟩ : ByteArray)] from (k24_mkM _ _ _ (⟨1, 1, (⟨#[]⟩ : ByteArray)⟩ : S24) )) (Reps.c3 (show Kd.M k24 _ _ _ (⟨1, 2, (⟨#[]⟩ : ByteArray)⟩ : S24) [.int .i64 1, .int .i64 2, .string (⟨#[]⟩ : ByteArray)] from (k24_mkM _ _ _ (⟨1, 2, (⟨#[]⟩ : ByteArray)⟩ : S24) )) (Reps.none _ _)))); intro v769 w38 ho39 hb hg_ hnew_; clear hg_ hnew_; (first | rw [← Ny768.out] at ho39 | (simp only [Int.reduceToNat] at ho39; rw [← Ny768.out] at ho39)); have n0_ := Aside0.mk (Kd.R_below (sR HO757.out) hb); have n1_ := Aside0.mk (Kd.R_elder' (sR HO763.out) (Kd.R_base ho39) hb); have n2_ := Aside0.mk (Kd.R_below (sR HO766.out) hb); have n3_ := Aside0.mk (Kd.R_lower (Kd.R_newB (Kd.R_newB (Kd.R_new' ho39 (Kd.R_lt (sR HO763.out))) (g := gb759) (o := .cells #[.int .i64 1, .int .i64 1, .string (⟨#[]⟩ : ByteArray)] 24 (0, 0)) (by refine bk ?_; exact BK759.out)) (g := gb760) (o := .cells #[.int .i64 1, .int .i64 2, .string (⟨#[]⟩ : ByteArray)] 24 (0, 0)) (by refine bk ?_; exact BK760.out)) (below_size (bB3 GE758.out GE759.out GE760.out))); have n4_ := Aside0.mk (blk_below (g := gb758) (o := .cells #[.string (⟨#[112]⟩ : ByteArray), .slice Ao20 y755.length co20] 69 (0, 0)) (by refine bk ?_; exact BK758.out) hb); have n5_ := Aside0.mk (blk_below (g := gb759) (o := .cells #[.int .i64 1, .int .i64 1, .string (⟨#[]⟩ : ByteArray)] 24 (0, 0)) (by refine bk ?_; exact BK759.out) hb); have n6_ := Aside0.mk (blk_below (g := gb760) (o := .cells #[.int .i64 1, .int .i64 2, .string (⟨#[]⟩ : ByteArray)] 24 (0, 0)) (by refine bk ?_; exact BK760.out) hb); have n7_ := Aside0.mk (below_step (bB3 GE758.out GE759.out GE760.out) hb); clear HO757; clear HO763; clear HO766; clear BK758; clear BK759; clear BK760; clear HB; have HO757 := n0_; have HO763 := n1_; have HO766 := n2_; have HO770 := n3_; have BK758 := n4_; have BK759 := n5_; have BK760 := n6_; have HB := n7_; clear n0_ n1_ n2_ n3_ n4_ n5_ n6_ n7_; clear hb ho39; obtain ⟨Ao40, co40, eo40⟩ := Kd.R_slice HO770.out; subst eo40) | ((with_reducible refine gate_callee (f := 50) rfl ?_); refine goesL_ (some 33) rfl rfl Try.func50 (by kernel_rfl) rfl #[.agg #[.string (⟨#[112]⟩ : ByteArray), .slice Ao20 y755.length co20], .agg #[.string (⟨#[112]⟩ : ByteArray), .slice Ao40 y768.length co40], .slice none 0 0] rfl aG ?_; (refine (match_One.calls (⟨#[112]⟩ : ByteArray) _ _ y755 (⟨#[112]⟩ : ByteArray) _ _ y768 _ _ ([] : List (S39)) t771 false _ ?side1 ?side2 ?side3 ?side4 ?side5 ?side6 A2.out).mono ?_); (case side1 => exact sC (Kd.R_reads' HO757.out).2.2); (case side2 => exact (Kd.R_reads' HO757.out).2.1); (case side3 => exact sC (Kd.R_reads' HO770.out).2.2); (case side4 => exact (Kd.R_reads' HO770.out).2.1); (case side5 => exact Kd.C_nil _ _); (case side6 => exact Nat.le_refl _); rintro e w41 ⟨v772, rfl, ho0, hb⟩; refine ⟨_, rfl, ?_⟩; have n0_ := Aside0.mk (Kd.R_below (sR HO757.out) hb); have n1_ := Aside0.mk (Kd.R_below (sR HO763.out) hb); have n2_ := Aside0.mk (Kd.R_elder' (sR HO766.out) (Kd.R_base ho0) hb); have n3_ := Aside0.mk (Kd.R_below (sR HO770.out) hb); have n4_ := Aside0.mk (Kd.R_lower (Kd.R_new' ho0 (Kd.R_lt (sR HO766.out))) (below_size (bB3 GE758.out GE759.out GE760.out))); have n5_ := Aside0.mk (blk_below (g := gb758) (o := .cells #[.string (⟨#[112]⟩ : ByteArray), .slice Ao20 y755.length co20] 69 (0, 0)) (by refine bk ?_; exact BK758.out) hb); have n6_ := Aside0.mk (blk_below (g := gb759) (o := .cells #[.int .i64 1, .int .i64 1, .string (⟨#[]⟩ : ByteArray)] 24 (0, 0)) (by refine bk ?_; exact BK759.out) hb); have n7_ := Aside0.mk (blk_below (g := gb760) (o := .cells #[.int .i64 1, .int .i64 2, .string (⟨#[]⟩ : ByteArray)] 24 (0, 0)) (by refine bk ?_; exact BK760.out) hb); have n8_ := Aside0.mk (below_step (bB3 GE758.out GE759.out GE760.out) hb); clear HO757; clear HO763; clear HO766; clear HO770; clear BK758; clear BK759; clear BK760; clear HB; have HO757 := n0_; have HO763 := n1_; have HO766 := n2_; have HO770 := n3_; have HO773 := n4_; have BK758 := n5_; have BK759 := n6_; have BK760 := n7_; have HB := n8_; clear n0_ n1_ n2_ n3_ n4_ n5_ n6_ n7_ n8_; (try clear hb); (try clear hb2); (try clear hk); (try clear hi); (try clear ho0); have hcz42_0 : w41.cell? ⟨gb758, 0, none⟩ = some (.string (⟨#[112]⟩ : ByteArray)) := (blk_cell BK758.out 0).trans rfl; have hcz42_1 : w41.cell? ⟨gb758, 1, none⟩ = some (.slice Ao20 y755.length co20) := (blk_cell BK758.out 1).trans rfl; have hfz42_0 := blk_frozen BK758.out 0; have hfz42_1 := blk_frozen BK758.out 1; obtain ⟨Ao43, co43, eo43⟩ := Kd.R_slice HO766.out; subst eo43) | ((with_reducible refine gate_callee (f := 52) rfl ?_); refine goesL_ (some 39) rfl rfl Try.func52 (by kernel_rfl) rfl #[.agg #[.string (⟨#[112]⟩ : ByteArray), .slice Ao20 y755.length co20], .slice Ao43 t764.length co43] rfl aG ?_; (with_reducible refine (match_Ground.calls k (⟨#[112]⟩ : ByteArray) _ _ y755 _ _ t764 t775 t776 t779 _ ?side1 ?side2 ?side3 ?side4 A3.out).mono ?_); (case side1 => exact sC (Kd.R_reads' HO757.out).2.2); (case side2 => exact (Kd.R_reads' HO757.out).2.1); (case side3 => exact sC (Kd.R_reads' HO766.out).2.2); (case side4 => exact (Kd.R_reads' HO766.out).2.1); rintro e w44 ⟨v777, rfl, ho0, hb⟩; refine ⟨_, rfl, ?_⟩; have n0_ := Aside0.mk (Kd.R_below (sR HO757.out) hb); have n1_ := Aside0.mk (Kd.R_elder' (sR HO763.out) (Kd.R_base ho0) hb); have n2_ := Aside0.mk (Kd.R_below (sR HO766.out) hb); have n3_ := Aside0.mk (Kd.R_elder' (sR HO770.out) (Kd.R_base ho0) hb); have n4_ := Aside0.mk (Kd.R_below (sR HO773.out) hb); have n5_ := Aside0.mk (Kd.R_lower (Kd.R_newB (Kd.R_newB (Kd.R_new' (Kd.R_new' ho0 (Kd.R_lt (sR HO763.out))) (Kd.R_lt (sR HO770.out))) (g := gb759) (o := .cells #[.int .i64 1, .int .i64 1, .string (⟨#[]⟩ : ByteArray)] 24 (0, 0)) (by refine bk ?_; exact BK759.out)) (g := gb760) (o := .cells #[.int .i64 1, .int .i64 2, .string (⟨#[]⟩ : ByteArray)] 24 (0, 0)) (by refine bk ?_; exact BK760.out)) (below_size (bB3 GE758.out GE759.out GE760.out))); have n6_ := Aside0.mk (blk_below (g := gb758) (o := .cells #[.string (⟨#[112]⟩ : ByteArray), .slice Ao20 y755.length co20] 69 (0, 0)) (by refine bk ?_; exact BK758.out) hb); have n7_ := Aside0.mk (blk_below (g := gb759) (o := .cells #[.int .i64 1, .int .i64 1, .string (⟨#[]⟩ : ByteArray)] 24 (0, 0)) (by refine bk ?_; exact BK759.out) hb); have n8_ := Aside0.mk (blk_below (g := gb760) (o := .cells #[.int .i64 1, .int .i64 2, .string (⟨#[]⟩ : ByteArray)] 24 (0, 0)) (by refine bk ?_; exact BK760.out) hb); have n9_ := Aside0.mk (below_step (bB3 GE758.out GE759.out GE760.out) hb); clear HO757; clear HO763; clear HO766; clear HO770; clear HO773; clear BK758; clear BK759; clear BK760; clear HB; have HO757 := n0_; have HO763 := n1_; have HO766 := n2_; have HO770 := n3_; have HO773 := n4_; have HO778 := n5_; have BK758 := n6_; have BK759 := n7_; have BK760 := n8_; have HB := n9_; clear n0_ n1_ n2_ n3_ n4_ n5_ n6_ n7_ n8_ n9_; (try clear hb); (try clear hb2); (try clear hk); (try clear hi); (try clear ho0)) | ((with_reducible refine gate_dst (N := 8) rfl ?_); (try (refine gate_guard (by rfl) ?_; dsimp only)); refine bE (N := 8) (cs := #[.string (⟨#[]⟩ : ByteArray), .slice none 0 0]) (t := 53) ?_; intro gb780 hg w45 hbox hb; have n0_ := Aside0.mk (Kd.R_below (sR HO757.out) hb); have n1_ := Aside0.mk (Kd.R_below (sR HO763.out) hb); have n2_ := Aside0.mk (Kd.R_below (sR HO766.out) hb); have n3_ := Aside0.mk (Kd.R_below (sR HO770.out) hb); have n4_ := Aside0.mk (Kd.R_below (sR HO773.out) hb); have n5_ := Aside0.mk (Kd.R_below (sR HO778.out) hb); have n6_ := Aside0.mk (blk_below (g := gb758) (o := .cells #[.string (⟨#[112]⟩ : ByteArray), .slice Ao20 y755.length co20] 69 (0, 0)) (by refine bk ?_; exact BK758.out) hb); have n7_ := Aside0.mk (blk_below (g := gb759) (o := .cells #[.int .i64 1, .int .i64 1, .string (⟨#[]⟩ : ByteArray)] 24 (0, 0)) (by refine bk ?_; exact BK759.out) hb); have n8_ := Aside0.mk (blk_below (g := gb760) (o := .cells #[.int .i64 1, .int .i64 2, .string (⟨#[]⟩ : ByteArray)] 24 (0, 0)) (by refine bk ?_; exact BK760.out) hb); have n9_ := Aside0.mk (below_step (bB3 GE758.out GE759.out GE760.out) hb); have n10_ := Aside0.mk (hbox); have n11_ := Aside0.mk ((by rw [hg]; exact (below_size (bB3 GE758.out GE759.out GE760.out)) : w.heap.size ≤ gb780)); have n12_ := Aside0.mk ((by rw [hg]; exact (below_size (bB3 GE758.out GE759.out GE760.out)) : w.heap.size ≤ gb780)); have n13_ := Aside0.mk ((by rw [hg]; exact Nat.ne_of_lt (blk_lt (g := gb758) (o := .cells #[.string (⟨#[112]⟩ : ByteArray), .slice Ao20 y755.length co20] 69 (0, 0)) (by refine bk ?_; exact BK758.out)) : gb758 ≠ gb780)); have n14_ := Aside0.mk ((by rw [hg]; exact Nat.ne_of_gt (blk_lt (g := gb758) (o := .cells #[.string (⟨#[112]⟩ : ByteArray), .slice Ao20 y755.length co20] 69 (0, 0)) (by refine bk ?_; exact BK758.out)) : gb780 ≠ gb758)); have n15_ := Aside0.mk ((by rw [hg]; exact Nat.ne_of_lt (blk_lt (g := gb759) (o := .cells #[.int .i64 1, .int .i64 1, .string (⟨#[]⟩ : ByteArray)] 24 (0, 0)) (by refine bk ?_; exact BK759.out)) : gb759 ≠ gb780)); have n16_ := Aside0.mk ((by rw [hg]; exact Nat.ne_of_gt (blk_lt (g := gb759) (o := .cells #[.int .i64 1, .int .i64 1, .string (⟨#[]⟩ : ByteArray)] 24 (0, 0)) (by refine bk ?_; exact BK759.out)) : gb780 ≠ gb759)); have n17_ := Aside0.mk ((by rw [hg]; exact Nat.ne_of_lt (blk_lt (g := gb760) (o := .cells #[.int .i64 1, .int .i64 2, .string (⟨#[]⟩ : ByteArray)] 24 (0, 0)) (by refine bk ?_; exact BK760.out)) : gb760 ≠ gb780)); have n18_ := Aside0.mk ((by rw [hg]; exact Nat.ne_of_gt (blk_lt (g := gb760) (o := .cells #[.int .i64 1, .int .i64 2, .string (⟨#[]⟩ : ByteArray)] 24 (0, 0)) (by refine bk ?_; exact BK760.out)) : gb780 ≠ gb760)); clear HO757; clear HO763; clear HO766; clear HO770; clear HO773; clear HO778; clear BK758; clear BK759; clear BK760; clear HB; have HO757 := n0_; have HO763 := n1_; have HO766 := n2_; have HO770 := n3_; have HO773 := n4_; have HO778 := n5_; have BK758 := n6_; have BK759 := n7_; have BK760 := n8_; have HB := n9_; have BK780 := n10_; have GW780 := n11_; have GE780 := n12_; have NB758_780 := n13_; have NB780_758 := n14_; have NB759_780 := n15_; have NB780_759 := n16_; have NB760_780 := n17_; have NB780_760 := n18_; clear n0_ n1_ n2_ n3_ n4_ n5_ n6_ n7_ n8_ n9_ n10_ n11_ n12_ n13_ n14_ n15_ n16_ n17_ n18_; clear hb hbox hg; have hnb46 := NB780_758.out; have hnc46 := NB758_780.out; have hnb47 := NB780_759.out; have hnc47 := NB759_780.out; have hnb48 := NB780_760.out; have hnc48 := NB760_780.out; have hcz49_0 : w45.cell? ⟨gb780, 0, none⟩ = some (.string (⟨#[]⟩ : ByteArray)) := (blk_cell BK780.out 0).trans rfl; have hcz49_1 : w45.cell? ⟨gb780, 1, none⟩ = some (.slice none 0 0) := (blk_cell BK780.out 1).trans rfl; have hfz49_0 := blk_frozen BK780.out 0; have hfz49_1 := blk_frozen BK780.out 1; obtain ⟨Ao50, co50, eo50⟩ := Kd.R_slice HO778.out; subst eo50; have hcz51_0 : w45.cell? ⟨gb758, 0, none⟩ = some (.string (⟨#[112]⟩ : ByteArray)) := (blk_cell BK758.out 0).trans rfl; have hcz51_1 : w45.cell? ⟨gb758, 1, none⟩ = some (.slice Ao20 y755.length co20) := (blk_cell BK758.out 1).trans rfl; have hfz51_0 := blk_frozen BK758.out 0; have hfz51_1 := blk_frozen BK758.out 1) | ((with_reducible refine gate_callee (f := 52) rfl ?_); refine goesL_ (some 44) rfl rfl Try.func52 (by kernel_rfl) rfl #[.agg #[.string (⟨#[112]⟩ : ByteArray), .slice Ao20 y755.length co20], .slice none 0 0] rfl aG ?_; (refine (match_Ground.calls k (⟨#[112]⟩ : ByteArray) _ _ y755 _ _ ([] : List (S39)) t781 t782 t785 _ ?side1 ?side2 ?side3 ?side4 A4.out).mono ?_); (case side1 => refine (Kd.R_reads' (e := 77) (base := w.heap.size) (ok := fun k_ => True) (n := y755.length) (c := co20) ?_).2.2; exact (sR ((Kd.R_mono (Kd.R_far (p := ⟨gb780, 1, none⟩) (Kd.R_far (p := ⟨gb780, 0, none⟩) (Kd.R_types HO757.out BK780.out (by decide)) (fun _ hk => hk.2) (.string t775)) (fun _ hk => hk.2) (.slice Ao50 t776.length co50)) (fun _ h_ => h_.1))))); (case side2 => exact (Kd.R_reads' HO757.out).2.1); (case side3 => exact Kd.C_nil _ _); (case side4 => exact Nat.le_refl _); rintro e w52 ⟨v783, rfl, ho0, hb⟩; refine ⟨_, rfl, ?_⟩; have n0_ := Aside0.mk (Kd.R_below (sR ((Kd.R_mono (Kd.R_far (p := ⟨gb780, 1, none⟩) (Kd.R_far (p := ⟨gb780, 0, none⟩) (Kd.R_types HO757.out BK780.out (by decide)) (fun _ hk => hk.2) (.string t775)) (fun _ hk => hk.2) (.slice Ao50 t776.length co50)) (fun _ h_ => h_.1)))) hb); have n1_ := Aside0.mk (Kd.R_elder' (sR ((Kd.R_mono (Kd.R_far (p := ⟨gb780, 1, none⟩) (Kd.R_far (p := ⟨gb780, 0, none⟩) (Kd.R_types HO763.out BK780.out (by decide)) (fun _ hk => hk.2) (.string t775)) (fun _ hk => hk.2) (.slice Ao50 t776.length co50)) (fun _ h_ => h_.1)))) (Kd.R_base ho0) hb); have n2_ := Aside0.mk (Kd.R_below (sR ((Kd.R_mono (Kd.R_far (p := ⟨gb780, 1, none⟩) (Kd.R_far (p := ⟨gb780, 0, none⟩) (Kd.R_types HO766.out BK780.out (by decide)) (fun _ hk => hk.2) (.string t775)) (fun _ hk => hk.2) (.slice Ao50 t776.length co50)) (fun _ h_ => h_.1)))) hb); have n3_ := Aside0.mk (Kd.R_elder' (sR ((Kd.R_mono (Kd.R_far (p := ⟨gb780, 1, none⟩) (Kd.R_far (p := ⟨gb780, 0, none⟩) (Kd.R_types HO770.out BK780.out (by decide)) (fun _ hk => hk.2) (.string t775)) (fun _ hk => hk.2) (.slice Ao50 t776.length co50)) (fun _ h_ => h_.1)))) (Kd.R_base ho0) hb); have n4_ := Aside0.mk (Kd.R_below (sR ((Kd.R_mono (Kd.R_far (p := ⟨gb780, 1, none⟩) (Kd.R_far (p := ⟨gb780, 0, none⟩) (Kd.R_types HO773.out BK780.out (by decide)) (fun _ hk => hk.2) (.string t775)) (fun _ hk => hk.2) (.slice Ao50 t776.length co50)) (fun _ h_ => h_.1)))) hb); have n5_ := Aside0.mk (Kd.R_elder' (sR ((Kd.R_mono (Kd.R_far (p := ⟨gb780, 1, none⟩) (Kd.R_far (p := ⟨gb780, 0, none⟩) (Kd.R_types HO778.out BK780.out (by decide)) (fun _ hk => hk.2) (.string t775)) (fun _ hk => hk.2) (.slice Ao50 t776.length co50)) (fun _ h_ => h_.1)))) (Kd.R_base ho0) hb); have n6_ := Aside0.mk (Kd.R_lower (Kd.R_newB (Kd.R_newB (Kd.R_new' (Kd.R_new' (Kd.R_new' ho0 (Kd.R_lt (sR ((Kd.R_mono (Kd.R_far (p := ⟨gb780, 1, none⟩) (Kd.R_far (p := ⟨gb780, 0, none⟩) (Kd.R_types HO763.out BK780.out (by decide)) (fun _ hk => hk.2) (.string t775)) (fun _ hk => hk.2) (.slice Ao50 t776.length co50)) (fun _ h_ => h_.1)))))) (Kd.R_lt (sR ((Kd.R_mono (Kd.R_far (p := ⟨gb780, 1, none⟩) (Kd.R_far (p := ⟨gb780, 0, none⟩) (Kd.R_types HO770.out BK780.out (by decide)) (fun _ hk => hk.2) (.string t775)) (fun _ hk => hk.2) (.slice Ao50 t776.length co50)) (fun _ h_ => h_.1)))))) (Kd.R_lt (sR ((Kd.R_mono (Kd.R_far (p := ⟨gb780, 1, none⟩) (Kd.R_far (p := ⟨gb780, 0, none⟩) (Kd.R_types HO778.out BK780.out (by decide)) (fun _ hk => hk.2) (.string t775)) (fun _ hk => hk.2) (.slice Ao50 t776.length co50)) (fun _ h_ => h_.1)))))) (g := gb759) (o := .cells #[.int .i64 1, .int .i64 1, .string (⟨#[]⟩ : ByteArray)] 24 (0, 0)) (by refine bk ?_; refine blk_far ?_ NB759_780.out _; refine bk ?_; refine blk_far ?_ NB759_780.out _; refine bk ?_; exact BK759.out)) (g := gb760) (o := .cells #[.int .i64 1, .int .i64 2, .string (⟨#[]⟩ : ByteArray)] 24 (0, 0)) (by refine bk ?_; refine blk_far ?_ NB760_780.out _; refine bk ?_; refine blk_far ?_ NB760_780.out _; refine bk ?_; exact BK760.out)) (below_size (bB4 GE758.out GE759.out GE760.out GE780.out))); have n7_ := Aside0.mk (blk_below (g := gb758) (o := .cells #[.string (⟨#[112]⟩ : ByteArray), .slice Ao20 y755.length co20] 69 (0, 0)) (by refine bk ?_; refine blk_far ?_ NB758_780.out _; refine bk ?_; refine blk_far ?_ NB758_780.out _; refine bk ?_; exact BK758.out) hb); have n8_ := Aside0.mk (blk_below (g := gb759) (o := .cells #[.int .i64 1, .int .i64 1, .string (⟨#[]⟩ : ByteArray)] 24 (0, 0)) (by refine bk ?_; refine blk_far ?_ NB759_780.out _; refine bk ?_; refine blk_far ?_ NB759_780.out _; refine bk ?_; exact BK759.out) hb); have n9_ := Aside0.mk (blk_below (g := gb760) (o := .cells #[.int .i64 1, .int .i64 2, .string (⟨#[]⟩ : ByteArray)] 24 (0, 0)) (by refine bk ?_; refine blk_far ?_ NB760_780.out _; refine bk ?_; refine blk_far ?_ NB760_780.out _; refine bk ?_; exact BK760.out) hb); have n10_ := Aside0.mk (blk_below (g := gb780) (o := .cells #[.string t775, .slice Ao50 t776.length co50] 53 (0, 0)) (by refine bk ?_; refine blk_put (cs := #[.string t775, .slice none 0 0]) ?_ 1 _ rfl; refine bk ?_; refine blk_put (cs := #[.string (⟨#[]⟩ : ByteArray), .slice none 0 0]) ?_ 0 _ rfl; refine bk ?_; exact BK780.out) hb); have n11_ := Aside0.mk (below_step (bB4 GE758.out GE759.out GE760.out GE780.out) hb); clear HO757; clear HO763; clear HO766; clear HO770; clear HO773; clear HO778; clear BK758; clear BK759; clear BK760; clear BK780; clear HB; have HO757 := n0_; have HO763 := n1_; have HO766 := n2_; have HO770 := n3_; have HO773 := n4_; have HO778 := n5_; have HO784 := n6_; have BK758 := n7_; have BK759 := n8_; have BK760 := n9_; have BK780 := n10_; have HB := n11_; clear n0_ n1_ n2_ n3_ n4_ n5_ n6_ n7_ n8_ n9_ n10_ n11_; (try clear hb); (try clear hb2); (try clear hk); (try clear hi); (try clear ho0)) | ((with_reducible refine gate_dst (N := 10) rfl ?_); (try (refine gate_guard (by rfl) ?_; dsimp only)); refine bE (N := 10) (cs := #[.string (⟨#[]⟩ : ByteArray), .slice none 0 0]) (t := 53) ?_; intro gb786 hg w53 hbox hb; have n0_ := Aside0.mk (Kd.R_below (sR HO757.out) hb); have n1_ := Aside0.mk (Kd.R_below (sR HO763.out) hb); have n2_ := Aside0.mk (Kd.R_below (sR HO766.out) hb); have n3_ := Aside0.mk (Kd.R_below (sR HO770.out) hb); have n4_ := Aside0.mk (Kd.R_below (sR HO773.out) hb); have n5_ := Aside0.mk (Kd.R_below (sR HO778.out) hb); have n6_ := Aside0.mk (Kd.R_below (sR HO784.out) hb); have n7_ := Aside0.mk (blk_below (g := gb758) (o := .cells #[.string (⟨#[112]⟩ : ByteArray), .slice Ao20 y755.length co20] 69 (0, 0)) (by refine bk ?_; exact BK758.out) hb); have n8_ := Aside0.mk (blk_below (g := gb759) (o := .cells #[.int .i64 1, .int .i64 1, .string (⟨#[]⟩ : ByteArray)] 24 (0, 0)) (by refine bk ?_; exact BK759.out) hb); have n9_ := Aside0.mk (blk_below (g := gb760) (o := .cells #[.int .i64 1, .int .i64 2, .string (⟨#[]⟩ : ByteArray)] 24 (0, 0)) (by refine bk ?_; exact BK760.out) hb); have n10_ := Aside0.mk (blk_below (g := gb780) (o := .cells #[.string t775, .slice Ao50 t776.length co50] 53 (0, 0)) (by refine bk ?_; exact BK780.out) hb); have n11_ := Aside0.mk (below_step (bB4 GE758.out GE759.out GE760.out GE780.out) hb); have n12_ := Aside0.mk (hbox); have n13_ := Aside0.mk ((by rw [hg]; exact (below_size (bB4 GE758.out GE759.out GE760.out GE780.out)) : w.heap.size ≤ gb786)); have n14_ := Aside0.mk ((by rw [hg]; exact (below_size (bB4 GE758.out GE759.out GE760.out GE780.out)) : w.heap.size ≤ gb786)); have n15_ := Aside0.mk ((by rw [hg]; exact Nat.ne_of_lt (blk_lt (g := gb758) (o := .cells #[.string (⟨#[112]⟩ : ByteArray), .slice Ao20 y755.length co20] 69 (0, 0)) (by refine bk ?_; exact BK758.out)) : gb758 ≠ gb786)); have n16_ := Aside0.mk ((by rw [hg]; exact Nat.ne_of_gt (blk_lt (g := gb758) (o := .cells #[.string (⟨#[112]⟩ : ByteArray), .slice Ao20 y755.length co20] 69 (0, 0)) (by refine bk ?_; exact BK758.out)) : gb786 ≠ gb758)); have n17_ := Aside0.mk ((by rw [hg]; exact Nat.ne_of_lt (blk_lt (g := gb759) (o := .cells #[.int .i64 1, .int .i64 1, .string (⟨#[]⟩ : ByteArray)] 24 (0, 0)) (by refine bk ?_; exact BK759.out)) : gb759 ≠ gb786)); have n18_ := Aside0.mk ((by rw [hg]; exact Nat.ne_of_gt (blk_lt (g := gb759) (o := .cells #[.int .i64 1, .int .i64 1, .string (⟨#[]⟩ : ByteArray)] 24 (0, 0)) (by refine bk ?_; exact BK759.out)) : gb786 ≠ gb759)); have n19_ := Aside0.mk ((by rw [hg]; exact Nat.ne_of_lt (blk_lt (g := gb760) (o := .cells #[.int .i64 1, .int .i64 2, .string (⟨#[]⟩ : ByteArray)] 24 (0, 0)) (by refine bk ?_; exact BK760.out)) : gb760 ≠ gb786)); have n20_ := Aside0.mk ((by rw [hg]; exact Nat.ne_of_gt (blk_lt (g := gb760) (o := .cells #[.int .i64 1, .int .i64 2, .string (⟨#[]⟩ : ByteArray)] 24 (0, 0)) (by refine bk ?_; exact BK760.out)) : gb786 ≠ gb760)); have n21_ := Aside0.mk ((by rw [hg]; exact Nat.ne_of_lt (blk_lt (g := gb780) (o := .cells #[.string t775, .slice Ao50 t776.length co50] 53 (0, 0)) (by refine bk ?_; exact BK780.out)) : gb780 ≠ gb786)); have n22_ := Aside0.mk ((by rw [hg]; exact Nat.ne_of_gt (blk_lt (g := gb780) (o := .cells #[.string t775, .slice Ao50 t776.length co50] 53 (0, 0)) (by refine bk ?_; exact BK780.out)) : gb786 ≠ gb780)); clear HO757; clear HO763; clear HO766; clear HO770; clear HO773; clear HO778; clear HO784; clear BK758; clear BK759; clear BK760; clear BK780; clear HB; have HO757 := n0_; have HO763 := n1_; have HO766 := n2_; have HO770 := n3_; have HO773 := n4_; have HO778 := n5_; have HO784 := n6_; have BK758 := n7_; have BK759 := n8_; have BK760 := n9_; have BK780 := n10_; have HB := n11_; have BK786 := n12_; have GW786 := n13_; have GE786 := n14_; have NB758_786 := n15_; have NB786_758 := n16_; have NB759_786 := n17_; have NB786_759 := n18_; have NB760_786 := n19_; have NB786_760 := n20_; have NB780_786 := n21_; have NB786_780 := n22_; clear n0_ n1_ n2_ n3_ n4_ n5_ n6_ n7_ n8_ n9_ n10_ n11_ n12_ n13_ n14_ n15_ n16_ n17_ n18_ n19_ n20_ n21_ n22_; clear hb hbox hg; have hnb54 := NB786_758.out; have hnc54 := NB758_786.out; have hnb55 := NB786_759.out; have hnc55 := NB759_786.out; have hnb56 := NB786_760.out; have hnc56 := NB760_786.out; have hnb57 := NB786_780.out; have hnc57 := NB780_786.out; have hcz58_0 : w53.cell? ⟨gb786, 0, none⟩ = some (.string (⟨#[]⟩ : ByteArray)) := (blk_cell BK786.out 0).trans rfl; have hcz58_1 : w53.cell? ⟨gb786, 1, none⟩ = some (.slice none 0 0) := (blk_cell BK786.out 1).trans rfl; have hfz58_0 := blk_frozen BK786.out 0; have hfz58_1 := blk_frozen BK786.out 1; obtain ⟨Ao59, co59, eo59⟩ := Kd.R_slice HO784.out; subst eo59))
            have n0_ : Aside0 (Kd.R k77 77 ((w53.setCell ⟨gb786, 0, none⟩ (.string t781)).setCell ⟨gb786, 1, none⟩ (.slice Ao59 t782.length co59)) w.heap.size (fun _ => True) (.slice Ao20 y755.length co20) y755) := ⟨by (with_reducible repeat (first | apply Kd.R_alloc | apply Kd.R_drewN | apply Kd.R_drew)); exact Kd.R_mono (Kd.R_far (p := ⟨gb786, 1, none⟩) (Kd.R_far (p := ⟨gb786, 0, none⟩) (Kd.R_types HO757.out BK786.out (by decide)) (fun _ hk => hk.2) (.string t781)) (fun _ hk => hk.2) (.slice Ao59 t782.length co59)) (fun _ hk => trivial)⟩
            have n1_ : Aside0 (Kd.R k24 24 ((w53.setCell ⟨gb786, 0, none⟩ (.string t781)).setCell ⟨gb786, 1, none⟩ (.slice Ao59 t782.length co59)) w.heap.size (fun k_ => some k_ ≠ (.slice Ao40 y768.length co40 : Value).ownBlock ∧ some k_ ≠ (.slice Ao50 t776.length co50 : Value).ownBlock ∧ some k_ ≠ (.slice Ao59 t782.length co59 : Value).ownBlock ∧ k_ ≠ gb759 ∧ k_ ≠ gb760) (.slice Ao33 y761.length co33) y761) := ⟨by (with_reducible repeat (first | apply Kd.R_alloc | apply Kd.R_drewN | apply Kd.R_drew)); exact Kd.R_mono (Kd.R_far (p := ⟨gb786, 1, none⟩) (Kd.R_far (p := ⟨gb786, 0, none⟩) (Kd.R_types HO763.out BK786.out (by decide)) (fun _ hk => hk.2) (.string t781)) (fun _ hk => hk.2) (.slice Ao59 t782.length co59)) (fun _ hk => ⟨hk.1.1.1.2, ⟨hk.1.1.2, ⟨hk.1.2, ⟨hk.1.1.1.1.1.2, hk.1.1.1.1.2⟩⟩⟩⟩)⟩
            have n2_ : Aside0 (Kd.R k39 39 ((w53.setCell ⟨gb786, 0, none⟩ (.string t781)).setCell ⟨gb786, 1, none⟩ (.slice Ao59 t782.length co59)) w.heap.size (fun k_ => some k_ ≠ (v772 : Value).ownBlock) (.slice Ao43 t764.length co43) t764) := ⟨by (with_reducible repeat (first | apply Kd.R_alloc | apply Kd.R_drewN | apply Kd.R_drew)); exact Kd.R_mono (Kd.R_far (p := ⟨gb786, 1, none⟩) (Kd.R_far (p := ⟨gb786, 0, none⟩) (Kd.R_types HO766.out BK786.out (by decide)) (fun _ hk => hk.2) (.string t781)) (fun _ hk => hk.2) (.slice Ao59 t782.length co59)) (fun _ hk => hk.1.2)⟩
            have n3_ : Aside0 (Kd.R k24 24 ((w53.setCell ⟨gb786, 0, none⟩ (.string t781)).setCell ⟨gb786, 1, none⟩ (.slice Ao59 t782.length co59)) w.heap.size (fun k_ => some k_ ≠ (.slice Ao33 y761.length co33 : Value).ownBlock ∧ some k_ ≠ (.slice Ao50 t776.length co50 : Value).ownBlock ∧ some k_ ≠ (.slice Ao59 t782.length co59 : Value).ownBlock ∧ k_ ≠ gb759 ∧ k_ ≠ gb760) (.slice Ao40 y768.length co40) y768) := ⟨by (with_reducible repeat (first | apply Kd.R_alloc | apply Kd.R_drewN | apply Kd.R_drew)); exact Kd.R_mono (Kd.R_far (p := ⟨gb786, 1, none⟩) (Kd.R_far (p := ⟨gb786, 0, none⟩) (Kd.R_types HO770.out BK786.out (by decide)) (fun _ hk => hk.2) (.string t781)) (fun _ hk => hk.2) (.slice Ao59 t782.length co59)) (fun _ hk => ⟨hk.1.1.1.1.1.2, ⟨hk.1.1.2, ⟨hk.1.2, ⟨hk.1.1.1.1.2, hk.1.1.1.2⟩⟩⟩⟩)⟩
            have n4_ : Aside0 (Kd.R k39 39 ((w53.setCell ⟨gb786, 0, none⟩ (.string t781)).setCell ⟨gb786, 1, none⟩ (.slice Ao59 t782.length co59)) w.heap.size (fun k_ => some k_ ≠ (.slice Ao43 t764.length co43 : Value).ownBlock) v772 t771) := ⟨by (with_reducible repeat (first | apply Kd.R_alloc | apply Kd.R_drewN | apply Kd.R_drew)); exact Kd.R_mono (Kd.R_far (p := ⟨gb786, 1, none⟩) (Kd.R_far (p := ⟨gb786, 0, none⟩) (Kd.R_types HO773.out BK786.out (by decide)) (fun _ hk => hk.2) (.string t781)) (fun _ hk => hk.2) (.slice Ao59 t782.length co59)) (fun _ hk => hk.1.2)⟩
            have n5_ : Aside0 (Kd.R k24 24 ((w53.setCell ⟨gb786, 0, none⟩ (.string t781)).setCell ⟨gb786, 1, none⟩ (.slice Ao59 t782.length co59)) w.heap.size (fun k_ => some k_ ≠ (.slice Ao33 y761.length co33 : Value).ownBlock ∧ some k_ ≠ (.slice Ao40 y768.length co40 : Value).ownBlock ∧ some k_ ≠ (.slice Ao59 t782.length co59 : Value).ownBlock ∧ k_ ≠ gb759 ∧ k_ ≠ gb760) (.slice Ao50 t776.length co50) t776) := ⟨by (with_reducible repeat (first | apply Kd.R_alloc | apply Kd.R_drewN | apply Kd.R_drew)); exact Kd.R_mono (Kd.R_far (p := ⟨gb786, 1, none⟩) (Kd.R_far (p := ⟨gb786, 0, none⟩) (Kd.R_types HO778.out BK786.out (by decide)) (fun _ hk => hk.2) (.string t781)) (fun _ hk => hk.2) (.slice Ao59 t782.length co59)) (fun _ hk => ⟨hk.1.1.1.1.1.2, ⟨hk.1.1.1.1.2, ⟨hk.1.2, ⟨hk.1.1.1.2, hk.1.1.2⟩⟩⟩⟩)⟩
            have n6_ : Aside0 (Kd.R k24 24 ((w53.setCell ⟨gb786, 0, none⟩ (.string t781)).setCell ⟨gb786, 1, none⟩ (.slice Ao59 t782.length co59)) w.heap.size (fun k_ => some k_ ≠ (.slice Ao33 y761.length co33 : Value).ownBlock ∧ some k_ ≠ (.slice Ao40 y768.length co40 : Value).ownBlock ∧ some k_ ≠ (.slice Ao50 t776.length co50 : Value).ownBlock ∧ k_ ≠ gb759 ∧ k_ ≠ gb760) (.slice Ao59 t782.length co59) t782) := ⟨by (with_reducible repeat (first | apply Kd.R_alloc | apply Kd.R_drewN | apply Kd.R_drew)); exact Kd.R_mono (Kd.R_far (p := ⟨gb786, 1, none⟩) (Kd.R_far (p := ⟨gb786, 0, none⟩) (Kd.R_types HO784.out BK786.out (by decide)) (fun _ hk => hk.2) (.string t781)) (fun _ hk => hk.2) (.slice Ao59 t782.length co59)) (fun _ hk => ⟨hk.1.1.1.1.1.2, ⟨hk.1.1.1.1.2, ⟨hk.1.1.1.2, ⟨hk.1.1.2, hk.1.2⟩⟩⟩⟩)⟩
            have n7_ : Aside0 (((w53.setCell ⟨gb786, 0, none⟩ (.string t781)).setCell ⟨gb786, 1, none⟩ (.slice Ao59 t782.length co59)).heap[gb758]? = some (.cells #[.string (⟨#[112]⟩ : ByteArray), .slice Ao20 y755.length co20] 69 (0, 0))) := ⟨by refine bk ?_; refine blk_far ?_ NB758_786.out _; refine bk ?_; refine blk_far ?_ NB758_786.out _; refine bk ?_; exact BK758.out⟩
            have n8_ : Aside0 (((w53.setCell ⟨gb786, 0, none⟩ (.string t781)).setCell ⟨gb786, 1, none⟩ (.slice Ao59 t782.length co59)).heap[gb759]? = some (.cells #[.int .i64 1, .int .i64 1, .string (⟨#[]⟩ : ByteArray)] 24 (0, 0))) := ⟨by refine bk ?_; refine blk_far ?_ NB759_786.out _; refine bk ?_; refine blk_far ?_ NB759_786.out _; refine bk ?_; exact BK759.out⟩
            have n9_ : Aside0 (((w53.setCell ⟨gb786, 0, none⟩ (.string t781)).setCell ⟨gb786, 1, none⟩ (.slice Ao59 t782.length co59)).heap[gb760]? = some (.cells #[.int .i64 1, .int .i64 2, .string (⟨#[]⟩ : ByteArray)] 24 (0, 0))) := ⟨by refine bk ?_; refine blk_far ?_ NB760_786.out _; refine bk ?_; refine blk_far ?_ NB760_786.out _; refine bk ?_; exact BK760.out⟩
            have n10_ : Aside0 (((w53.setCell ⟨gb786, 0, none⟩ (.string t781)).setCell ⟨gb786, 1, none⟩ (.slice Ao59 t782.length co59)).heap[gb780]? = some (.cells #[.string t775, .slice Ao50 t776.length co50] 53 (0, 0))) := ⟨by refine bk ?_; refine blk_far ?_ NB780_786.out _; refine bk ?_; refine blk_far ?_ NB780_786.out _; refine bk ?_; exact BK780.out⟩
            have n11_ : Aside0 (((w53.setCell ⟨gb786, 0, none⟩ (.string t781)).setCell ⟨gb786, 1, none⟩ (.slice Ao59 t782.length co59)).heap[gb786]? = some (.cells #[.string t781, .slice Ao59 t782.length co59] 53 (0, 0))) := ⟨by refine bk ?_; refine blk_put (cs := #[.string t781, .slice none 0 0]) ?_ 1 _ rfl; refine bk ?_; refine blk_put (cs := #[.string (⟨#[]⟩ : ByteArray), .slice none 0 0]) ?_ 0 _ rfl; refine bk ?_; exact BK786.out⟩
            have n12_ : Aside0 (Below w.heap.size w ((w53.setCell ⟨gb786, 0, none⟩ (.string t781)).setCell ⟨gb786, 1, none⟩ (.slice Ao59 t782.length co59))) := ⟨(bB5 GE758.out GE759.out GE760.out GE780.out GE786.out)⟩
            (try clear HO757)
            (try clear HO763)
            (try clear HO766)
            (try clear HO770)
            (try clear HO773)
            (try clear HO778)
            (try clear HO784)
            (try clear BK758)
            (try clear BK759)
            (try clear BK760)
            (try clear BK780)
            (try clear BK786)
            (try clear HB)
            generalize ((w53.setCell ⟨gb786, 0, none⟩ (.string t781)).setCell ⟨gb786, 1, none⟩ (.slice Ao59 t782.length co59)) = w60 at n0_ n1_ n2_ n3_ n4_ n5_ n6_ n7_ n8_ n9_ n10_ n11_ n12_ ⊢
            have HO757 := n0_
            have HO763 := n1_
            have HO766 := n2_
            have HO770 := n3_
            have HO773 := n4_
            have HO778 := n5_
            have HO784 := n6_
            have BK758 := n7_
            have BK759 := n8_
            have BK760 := n9_
            have BK780 := n10_
            have BK786 := n11_
            have HB := n12_
            clear n0_ n1_ n2_ n3_ n4_ n5_ n6_ n7_ n8_ n9_ n10_ n11_ n12_
            have n0_ := Aside0.mk (Kd.R_drew HO757.out)
            have n1_ := Aside0.mk (Kd.R_drew HO763.out)
            have n2_ := Aside0.mk (Kd.R_drew HO766.out)
            have n3_ := Aside0.mk (Kd.R_drew HO770.out)
            have n4_ := Aside0.mk (Kd.R_drew HO773.out)
            have n5_ := Aside0.mk (Kd.R_drew HO778.out)
            have n6_ := Aside0.mk (Kd.R_drew HO784.out)
            have n7_ := Aside0.mk (blk_drew BK758.out)
            have n8_ := Aside0.mk (blk_drew BK759.out)
            have n9_ := Aside0.mk (blk_drew BK760.out)
            have n10_ := Aside0.mk (blk_drew BK780.out)
            have n11_ := Aside0.mk (blk_drew BK786.out)
            have n12_ := Aside0.mk (below_drew1 HB.out)
            clear HO757
            clear HO763
            clear HO766
            clear HO770
            clear HO773
            clear HO778
            clear HO784
            clear BK758
            clear BK759
            clear BK760
            clear BK780
            clear BK786
            clear HB
            have HO757 := n0_
            have HO763 := n1_
            have HO766 := n2_
            have HO770 := n3_
            have HO773 := n4_
            have HO778 := n5_
            have HO784 := n6_
            have BK758 := n7_
            have BK759 := n8_
            have BK760 := n9_
            have BK780 := n10_
            have BK786 := n11_
            have HB := n12_
            clear n0_ n1_ n2_ n3_ n4_ n5_ n6_ n7_ n8_ n9_ n10_ n11_ n12_
            have p787 : 0 ≤ (1 : Int) := (by omega)
            have q787 : 1 < (t776.length : Int) := of_decide_eq_true (by first | (with_reducible assumption) | assumption)
            obtain ⟨ad787, e787, hx787_0, hx787_1, hx787_2⟩ := at_T24 (Kd.R_reads' HO778.out).2.2 1 p787 q787
            cases e787
            (try simp only [show (1 : Int).toNat = 1 from rfl, Nat.reduceMul, Nat.reduceEqDiff, Go.Addr.add, ↓reduceIte] at hx787_0)
            (try simp only [show (1 : Int).toNat = 1 from rfl, Nat.reduceMul, Nat.reduceEqDiff, Go.Addr.add, ↓reduceIte] at hx787_1)
            (try simp only [show (1 : Int).toNat = 1 from rfl, Nat.reduceMul, Nat.reduceEqDiff, Go.Addr.add, ↓reduceIte] at hx787_2)
            have qi787 : (1 < t776.length) = True := eq_true (by omega)
            (try rw [show ((1 : Int)).toNat = 1 from rfl] at hx787_0)
            (try rw [show 1 * 3 = 3 from rfl] at hx787_0)
            (try rw [show ((1 : Int)).toNat = 1 from rfl] at hx787_1)
            (try rw [show 1 * 3 = 3 from rfl] at hx787_1)
            (try rw [show ((1 : Int)).toNat = 1 from rfl] at hx787_2)
            (try rw [show 1 * 3 = 3 from rfl] at hx787_2)
            replace p787 := eq_true p787
            replace q787 := eq_true q787
            refine start_ (n := 44) (S := fun w' => w'.cell? ⟨gb780, 0, none⟩ = some (.string t775) ∧ w'.cell? ⟨gb780, 1, none⟩ = some (.slice (some ad787) t776.length co50) ∧ w'.cell? ⟨gb759, 0, none⟩ = some (.int .i64 1) ∧ w'.cell? ⟨gb759, 1, none⟩ = some (.int .i64 1) ∧ w'.cell? ⟨gb759, 2, none⟩ = some (.string (⟨#[]⟩ : ByteArray)) ∧ w'.cell? ⟨gb758, 0, none⟩ = some (.string (⟨#[112]⟩ : ByteArray)) ∧ w'.cell? ⟨gb758, 1, none⟩ = some (.slice Ao20 y755.length co20) ∧ w'.cell? ⟨ad787.block, ad787.off + 3, none⟩ = some (.int .i64 ((rd_T24 t776 1).f0)) ∧ w'.cell? ⟨ad787.block, ad787.off + 3 + 1, none⟩ = some (.int .i64 ((rd_T24 t776 1).f1)) ∧ w'.cell? ⟨ad787.block, ad787.off + 3 + 2, none⟩ = some (.string ((rd_T24 t776 1).f2))) (ds := []) #[false, false, false, false, false, false, false, false, false, false, false, false, false, false, false, false, false, false, false, false, false, false, false, false, false, false, false, false, false, false, false, false, false, false, false, false, false, false, false, false, false, false, false, false] (by kernel_rfl) rfl rfl ⟨(blk_cell BK780.out 0).trans rfl, (blk_cell BK780.out 1).trans rfl, (blk_cell BK759.out 0).trans rfl, (blk_cell BK759.out 1).trans rfl, (blk_cell BK759.out 2).trans rfl, (blk_cell BK758.out 0).trans rfl, (blk_cell BK758.out 1).trans rfl, hx787_0, hx787_1, hx787_2⟩ (fun hHeld => ?_); refine with_tabW constablelaw06_wakes.tab7 constablelaw06_wakes.bits7 (fun HT_ HW_ => ?_)
            generalize w60.drew = w61 at HO757 HO763 HO766 HO770 HO773 HO778 HO784 BK758 BK759 BK760 BK780 BK786 HB hx787_0 hx787_1 hx787_2 hHeld ⊢
            refine pQ (i := 0) (N := some 47) #[true, false, false, false, false, false, false, false, false, false, false, false, false, false, false, false, false, false, false, false, false, false, false, false, false, false, false, false, false, false, false, false, false, false, false, false, false, false, false, false, false, false, false, false] ?_
            refine pQ (i := 1) (N := some 48) #[true, true, false, false, false, false, false, false, false, false, false, false, false, false, false, false, false, false, false, false, false, false, false, false, false, false, false, false, false, false, false, false, false, false, false, false, false, false, false, false, false, false, false, false] ?_
            refine pQ (i := 2) (N := some 49) #[true, true, true, false, false, false, false, false, false, false, false, false, false, false, false, false, false, false, false, false, false, false, false, false, false, false, false, false, false, false, false, false, false, false, false, false, false, false, false, false, false, false, false, false] ?_
            refine pQ (i := 3) (N := some 50) #[true, true, true, true, false, false, false, false, false, false, false, false, false, false, false, false, false, false, false, false, false, false, false, false, false, false, false, false, false, false, false, false, false, false, false, false, false, false, false, false, false, false, false, false] ?_
            refine pQ (i := 4) (N := some 51) #[true, true, true, true, true, false, false, false, false, false, false, false, false, false, false, false, false, false, false, false, false, false, false, false, false, false, false, false, false, false, false, false, false, false, false, false, false, false, false, false, false, false, false, false] ?_
            refine pQ (i := 5) (N := some 52) #[true, true, true, true, true, true, false, false, false, false, false, false, false, false, false, false, false, false, false, false, false, false, false, false, false, false, false, false, false, false, false, false, false, false, false, false, false, false, false, false, false, false, false, false] ?_
            refine pQ (i := 6) (N := some 53) #[true, true, true, true, true, true, true, false, false, false, false, false, false, false, false, false, false, false, false, false, false, false, false, false, false, false, false, false, false, false, false, false, false, false, false, false, false, false, false, false, false, false, false, false] ?_
            refine pQ (i := 7) (N := some 54) #[true, true, true, true, true, true, true, true, false, false, false, false, false, false, false, false, false, false, false, false, false, false, false, false, false, false, false, false, false, false, false, false, false, false, false, false, false, false, false, false, false, false, false, false] ?_
            refine pQ (i := 8) (N := some 55) #[true, true, true, true, true, true, true, true, true, false, false, false, false, false, false, false, false, false, false, false, false, false, false, false, false, false, false, false, false, false, false, false, false, false, false, false, false, false, false, false, false, false, false, false] ?_
            refine pQ (i := 9) (N := some 56) #[true, true, true, true, true, true, true, true, true, true, false, false, false, false, false, false, false, false, false, false, false, false, false, false, false, false, false, false, false, false, false, false, false, false, false, false, false, false, false, false, false, false, false, false] ?_
            refine pQ (i := 10) (N := some 57) #[true, true, true, true, true, true, true, true, true, true, true, false, false, false, false, false, false, false, false, false, false, false, false, false, false, false, false, false, false, false, false, false, false, false, false, false, false, false, false, false, false, false, false, false] ?_
            refine pQ (i := 11) (N := some 58) #[true, true, true, true, true, true, true, true, true, true, true, true, false, false, false, false, false, false, false, false, false, false, false, false, false, false, false, false, false, false, false, false, false, false, false, false, false, false, false, false, false, false, false, false] ?_
            refine pQ (i := 12) (N := some 59) #[true, true, true, true, true, true, true, true, true, true, true, true, true, false, false, false, false, false, false, false, false, false, false, false, false, false, false, false, false, false, false, false, false, false, false, false, false, false, false, false, false, false, false, false] ?_
            refine pQ (i := 13) (N := some 60) #[true, true, true, true, true, true, true, true, true, true, true, true, true, true, false, false, false, false, false, false, false, false, false, false, false, false, false, false, false, false, false, false, false, false, false, false, false, false, false, false, false, false, false, false] ?_
            refine pQ (i := 14) (N := some 61) #[true, true, true, true, true, true, true, true, true, true, true, true, true, true, true, false, false, false, false, false, false, false, false, false, false, false, false, false, false, false, false, false, false, false, false, false, false, false, false, false, false, false, false, false] ?_
            refine pQ (i := 15) (N := some 62) #[true, true, true, true, true, true, true, true, true, true, true, true, true, true, true, true, false, false, false, false, false, false, false, false, false, false, false, false, false, false, false, false, false, false, false, false, false, false, false, false, false, false, false, false] ?_
            refine tQ10 (i := 16) (N := some 63) #[true, true, true, true, true, true, true, true, true, true, true, true, true, true, true, true, true, false, false, false, false, false, false, false, false, false, false, false, false, false, false, false, false, false, false, false, false, false, false, false, false, false, false, false] hHeld ?_
            refine pQ (i := 17) (N := some 64) #[true, true, true, true, true, true, true, true, true, true, true, true, true, true, true, true, true, true, false, false, false, false, false, false, false, false, false, false, false, false, false, false, false, false, false, false, false, false, false, false, false, false, false, false] ?_
            refine pQ (i := 18) (N := some 65) #[true, true, true, true, true, true, true, true, true, true, true, true, true, true, true, true, true, true, true, false, false, false, false, false, false, false, false, false, false, false, false, false, false, false, false, false, false, false, false, false, false, false, false, false] ?_
            refine pQ (i := 19) (N := some 66) #[true, true, true, true, true, true, true, true, true, true, true, true, true, true, true, true, true, true, true, true, false, false, false, false, false, false, false, false, false, false, false, false, false, false, false, false, false, false, false, false, false, false, false, false] ?_
            refine pQ (i := 20) (N := some 67) #[true, true, true, true, true, true, true, true, true, true, true, true, true, true, true, true, true, true, true, true, true, false, false, false, false, false, false, false, false, false, false, false, false, false, false, false, false, false, false, false, false, false, false, false] ?_
            refine pQ (i := 21) (N := some 68) #[true, true, true, true, true, true, true, true, true, true, true, true, true, true, true, true, true, true, true, true, true, true, false, false, false, false, false, false, false, false, false, false, false, false, false, false, false, false, false, false, false, false, false, false] ?_
            refine tQ10 (i := 22) (N := some 69) #[true, true, true, true, true, true, true, true, true, true, true, true, true, true, true, true, true, true, true, true, true, true, true, false, false, false, false, false, false, false, false, false, false, false, false, false, false, false, false, false, false, false, false, false] hHeld ?_
            refine pQ (i := 23) (N := some 70) #[true, true, true, true, true, true, true, true, true, true, true, true, true, true, true, true, true, true, true, true, true, true, true, true, false, false, false, false, false, false, false, false, false, false, false, false, false, false, false, false, false, false, false, false] ?_
            refine tQ10 (i := 24) (N := some 71) #[true, true, true, true, true, true, true, true, true, true, true, true, true, true, true, true, true, true, true, true, true, true, true, true, true, false, false, false, false, false, false, false, false, false, false, false, false, false, false, false, false, false, false, false] hHeld ?_
            refine tQ10 (i := 25) (N := some 72) #[true, true, true, true, true, true, true, true, true, true, true, true, true, true, true, true, true, true, true, true, true, true, true, true, true, true, false, false, false, false, false, false, false, false, false, false, false, false, false, false, false, false, false, false] hHeld ?_
            refine pQ (i := 26) (N := some 73) #[true, true, true, true, true, true, true, true, true, true, true, true, true, true, true, true, true, true, true, true, true, true, true, true, true, true, true, false, false, false, false, false, false, false, false, false, false, false, false, false, false, false, false, false] ?_
            refine pQ (i := 27) (N := some 74) #[true, true, true, true, true, true, true, true, true, true, true, true, true, true, true, true, true, true, true, true, true, true, true, true, true, true, true, true, false, false, false, false, false, false, false, false, false, false, false, false, false, false, false, false] ?_
            refine pQ (i := 28) (N := some 75) #[true, true, true, true, true, true, true, true, true, true, true, true, true, true, true, true, true, true, true, true, true, true, true, true, true, true, true, true, true, false, false, false, false, false, false, false, false, false, false, false, false, false, false, false] ?_
            refine pQ (i := 29) (N := some 76) #[true, true, true, true, true, true, true, true, true, true, true, true, true, true, true, true, true, true, true, true, true, true, true, true, true, true, true, true, true, true, false, false, false, false, false, false, false, false, false, false, false, false, false, false] ?_
            refine pQ (i := 30) (N := some 77) #[true, true, true, true, true, true, true, true, true, true, true, true, true, true, true, true, true, true, true, true, true, true, true, true, true, true, true, true, true, true, true, false, false, false, false, false, false, false, false, false, false, false, false, false] ?_
            refine pQ (i := 31) (N := some 78) #[true, true, true, true, true, true, true, true, true, true, true, true, true, true, true, true, true, true, true, true, true, true, true, true, true, true, true, true, true, true, true, true, false, false, false, false, false, false, false, false, false, false, false, false] ?_
            refine pQ (i := 32) (N := some 79) #[true, true, true, true, true, true, true, true, true, true, true, true, true, true, true, true, true, true, true, true, true, true, true, true, true, true, true, true, true, true, true, true, true, false, false, false, false, false, false, false, false, false, false, false] ?_
            refine tQ10 (i := 33) (N := some 80) #[true, true, true, true, true, true, true, true, true, true, true, true, true, true, true, true, true, true, true, true, true, true, true, true, true, true, true, true, true, true, true, true, true, true, false, false, false, false, false, false, false, false, false, false] hHeld ?_
            refine one_ (i := 34) (N := some 81) #[true, true, true, true, true, true, true, true, true, true, true, true, true, true, true, true, true, true, true, true, true, true, true, true, true, true, true, true, true, true, true, true, true, true, true, false, false, false, false, false, false, false, false, false] rfl rfl (one_of HT_.out (by kernel_rfl)) (by decide) (fun K hK => ?_)
            refine goes_ Try.func53 (by kernel_rfl) rfl #[.agg #[.string (⟨#[112]⟩ : ByteArray), .slice Ao20 y755.length co20]] (by rfl) rfl rfl aG ?_
            with_reducible refine (match_Vars.calls k (⟨#[112]⟩ : ByteArray) _ _ y755 t788 _ ?side1 ?side2 A15.out).mono ?_
            (case side1 => exact sC (Kd.R_reads' HO757.out).2.2)
            (case side2 => exact (Kd.R_reads' HO757.out).2.1)
            rintro e w62 ⟨v789, rfl, ho0, hb⟩
            have HS7_ := (hb.cell (World.block_lt_of_cell? _ _ (hHeld.2.2.2.2.2.2.2.1))).trans (hHeld.2.2.2.2.2.2.2.1)
            have HS8_ := (hb.cell (World.block_lt_of_cell? _ _ (hHeld.2.2.2.2.2.2.2.2.1))).trans (hHeld.2.2.2.2.2.2.2.2.1)
            have HS9_ := (hb.cell (World.block_lt_of_cell? _ _ (hHeld.2.2.2.2.2.2.2.2.2))).trans (hHeld.2.2.2.2.2.2.2.2.2)
            refine ⟨_, rfl, ?_⟩
            have n0_ := Aside0.mk (Kd.R_below (sR HO757.out) hb)
            have n1_ := Aside0.mk (Kd.R_below (sR HO763.out) hb)
            have n2_ := Aside0.mk (Kd.R_below (sR HO766.out) hb)
            have n3_ := Aside0.mk (Kd.R_below (sR HO770.out) hb)
            have n4_ := Aside0.mk (Kd.R_below (sR HO773.out) hb)
            have n5_ := Aside0.mk (Kd.R_below (sR HO778.out) hb)
            have n6_ := Aside0.mk (Kd.R_below (sR HO784.out) hb)
            have n7_ := Aside0.mk (Kd.R_lower ho0 (below_size (bB5 GE758.out GE759.out GE760.out GE780.out GE786.out)))
            have n8_ := Aside0.mk (blk_below (g := gb758) (o := .cells #[.string (⟨#[112]⟩ : ByteArray), .slice Ao20 y755.length co20] 69 (0, 0)) (by refine bk ?_; exact BK758.out) hb)
            have n9_ := Aside0.mk (blk_below (g := gb759) (o := .cells #[.int .i64 1, .int .i64 1, .string (⟨#[]⟩ : ByteArray)] 24 (0, 0)) (by refine bk ?_; exact BK759.out) hb)
            have n10_ := Aside0.mk (blk_below (g := gb760) (o := .cells #[.int .i64 1, .int .i64 2, .string (⟨#[]⟩ : ByteArray)] 24 (0, 0)) (by refine bk ?_; exact BK760.out) hb)
            have n11_ := Aside0.mk (blk_below (g := gb780) (o := .cells #[.string t775, .slice (some ad787) t776.length co50] 53 (0, 0)) (by refine bk ?_; exact BK780.out) hb)
            have n12_ := Aside0.mk (blk_below (g := gb786) (o := .cells #[.string t781, .slice Ao59 t782.length co59] 53 (0, 0)) (by refine bk ?_; exact BK786.out) hb)
            have n13_ := Aside0.mk (below_step (bB5 GE758.out GE759.out GE760.out GE780.out GE786.out) hb)
            clear HO757
            clear HO763
            clear HO766
            clear HO770
            clear HO773
            clear HO778
            clear HO784
            clear BK758
            clear BK759
            clear BK760
            clear BK780
            clear BK786
            clear HB
            have HO757 := n0_
            have HO763 := n1_
            have HO766 := n2_
            have HO770 := n3_
            have HO773 := n4_
            have HO778 := n5_
            have HO784 := n6_
            have HO790 := n7_
            have BK758 := n8_
            have BK759 := n9_
            have BK760 := n10_
            have BK780 := n11_
            have BK786 := n12_
            have HB := n13_
            clear n0_ n1_ n2_ n3_ n4_ n5_ n6_ n7_ n8_ n9_ n10_ n11_ n12_ n13_
            (try clear hb)
            (try clear hb2)
            (try clear hk)
            (try clear hi)
            (try clear ho0)
            obtain ⟨Ao63, co63, eo63⟩ := Kd.R_slice HO790.out
            (first | subst eo63 | (injection eo63 with f1_ f2_ f3_; have f4_ := f1_.symm; have f5_ := f3_.symm; clear f1_ f2_ f3_; subst f4_; subst f5_))
            refine hK.out _ _ ⟨(blk_cell BK780.out 0).trans rfl, (blk_cell BK780.out 1).trans rfl, (blk_cell BK759.out 0).trans rfl, (blk_cell BK759.out 1).trans rfl, (blk_cell BK759.out 2).trans rfl, (blk_cell BK758.out 0).trans rfl, (blk_cell BK758.out 1).trans rfl, HS7_, HS8_, HS9_⟩ (fun hHeld => ?_)
            clear hK K
            refine norm_ (a' := ?_) ?_ ?_
            rotate_left
            ·show Act.put _ (some 81) _ = _
             simp only [Act.put, List.setIfInBounds_toArray, List.set_cons_zero, List.set_cons_succ, i64_w, i32_w]
             rfl
            refine pQ (i := 35) (N := some 82) #[true, true, true, true, true, true, true, true, true, true, true, true, true, true, true, true, true, true, true, true, true, true, true, true, true, true, true, true, true, true, true, true, true, true, true, true, false, false, false, false, false, false, false, false] ?_
            refine pQ (i := 36) (N := some 83) #[true, true, true, true, true, true, true, true, true, true, true, true, true, true, true, true, true, true, true, true, true, true, true, true, true, true, true, true, true, true, true, true, true, true, true, true, true, false, false, false, false, false, false, false] ?_
            refine pQ (i := 37) (N := some 84) #[true, true, true, true, true, true, true, true, true, true, true, true, true, true, true, true, true, true, true, true, true, true, true, true, true, true, true, true, true, true, true, true, true, true, true, true, true, true, false, false, false, false, false, false] ?_
            refine pQ (i := 38) (N := some 85) #[true, true, true, true, true, true, true, true, true, true, true, true, true, true, true, true, true, true, true, true, true, true, true, true, true, true, true, true, true, true, true, true, true, true, true, true, true, true, true, false, false, false, false, false] ?_
            refine pQ (i := 39) (N := some 86) #[true, true, true, true, true, true, true, true, true, true, true, true, true, true, true, true, true, true, true, true, true, true, true, true, true, true, true, true, true, true, true, true, true, true, true, true, true, true, true, true, false, false, false, false] ?_
            refine one_ (i := 40) (N := some 87) #[true, true, true, true, true, true, true, true, true, true, true, true, true, true, true, true, true, true, true, true, true, true, true, true, true, true, true, true, true, true, true, true, true, true, true, true, true, true, true, true, true, false, false, false] rfl rfl (one_of HT_.out (by kernel_rfl)) (by decide) (fun K hK => ?_)
            refine goes_ Try.func82 (by kernel_rfl) rfl #[.agg #[.string (⟨#[]⟩ : ByteArray), .slice none 0 0]] (by rfl) rfl rfl aG ?_
            refine (match_Check.calls (⟨#[]⟩ : ByteArray) _ _ ([] : List (S77)) t791 _ ?side1 ?side2 A17.out).mono ?_
            (case side1 => exact Kd.C_nil _ _)
            (case side2 => exact Nat.le_refl _)
            rintro e w64 ⟨rfl, hb⟩
            have HS7_ := (hb.cell (World.block_lt_of_cell? _ _ (hHeld.2.2.2.2.2.2.2.1))).trans (hHeld.2.2.2.2.2.2.2.1)
            have HS8_ := (hb.cell (World.block_lt_of_cell? _ _ (hHeld.2.2.2.2.2.2.2.2.1))).trans (hHeld.2.2.2.2.2.2.2.2.1)
            have HS9_ := (hb.cell (World.block_lt_of_cell? _ _ (hHeld.2.2.2.2.2.2.2.2.2))).trans (hHeld.2.2.2.2.2.2.2.2.2)
            refine ⟨_, rfl, ?_⟩
            have n0_ := Aside0.mk (Kd.R_below (sR HO757.out) hb)
            have n1_ := Aside0.mk (Kd.R_below (sR HO763.out) hb)
            have n2_ := Aside0.mk (Kd.R_below (sR HO766.out) hb)
            have n3_ := Aside0.mk (Kd.R_below (sR HO770.out) hb)
            have n4_ := Aside0.mk (Kd.R_below (sR HO773.out) hb)
            have n5_ := Aside0.mk (Kd.R_below (sR HO778.out) hb)
            have n6_ := Aside0.mk (Kd.R_below (sR HO784.out) hb)
            have n7_ := Aside0.mk (Kd.R_below (sR HO790.out) hb)
            have n8_ := Aside0.mk (blk_below (g := gb758) (o := .cells #[.string (⟨#[112]⟩ : ByteArray), .slice Ao20 y755.length co20] 69 (0, 0)) (by refine bk ?_; exact BK758.out) hb)
            have n9_ := Aside0.mk (blk_below (g := gb759) (o := .cells #[.int .i64 1, .int .i64 1, .string (⟨#[]⟩ : ByteArray)] 24 (0, 0)) (by refine bk ?_; exact BK759.out) hb)
            have n10_ := Aside0.mk (blk_below (g := gb760) (o := .cells #[.int .i64 1, .int .i64 2, .string (⟨#[]⟩ : ByteArray)] 24 (0, 0)) (by refine bk ?_; exact BK760.out) hb)
            have n11_ := Aside0.mk (blk_below (g := gb780) (o := .cells #[.string t775, .slice (some ad787) t776.length co50] 53 (0, 0)) (by refine bk ?_; exact BK780.out) hb)
            have n12_ := Aside0.mk (blk_below (g := gb786) (o := .cells #[.string t781, .slice Ao59 t782.length co59] 53 (0, 0)) (by refine bk ?_; exact BK786.out) hb)
            have n13_ := Aside0.mk (below_step (bB5 GE758.out GE759.out GE760.out GE780.out GE786.out) hb)
            clear HO757
            clear HO763
            clear HO766
            clear HO770
            clear HO773
            clear HO778
            clear HO784
            clear HO790
            clear BK758
            clear BK759
            clear BK760
            clear BK780
            clear BK786
            clear HB
            have HO757 := n0_
            have HO763 := n1_
            have HO766 := n2_
            have HO770 := n3_
            have HO773 := n4_
            have HO778 := n5_
            have HO784 := n6_
            have HO790 := n7_
            have BK758 := n8_
            have BK759 := n9_
            have BK760 := n10_
            have BK780 := n11_
            have BK786 := n12_
            have HB := n13_
            clear n0_ n1_ n2_ n3_ n4_ n5_ n6_ n7_ n8_ n9_ n10_ n11_ n12_ n13_
            (try clear hb)
            (try clear hb2)
            (try clear hk)
            (try clear hi)
            refine hK.out _ _ ⟨(blk_cell BK780.out 0).trans rfl, (blk_cell BK780.out 1).trans rfl, (blk_cell BK759.out 0).trans rfl, (blk_cell BK759.out 1).trans rfl, (blk_cell BK759.out 2).trans rfl, (blk_cell BK758.out 0).trans rfl, (blk_cell BK758.out 1).trans rfl, HS7_, HS8_, HS9_⟩ (fun hHeld => ?_)
            clear hK K
            refine norm_ (a' := ?_) ?_ ?_
            rotate_left
            ·show Act.put _ (some 87) _ = _
             simp only [Act.put, List.setIfInBounds_toArray, List.set_cons_zero, List.set_cons_succ, i64_w, i32_w]
             rfl
            refine pQ (i := 41) (N := some 88) #[true, true, true, true, true, true, true, true, true, true, true, true, true, true, true, true, true, true, true, true, true, true, true, true, true, true, true, true, true, true, true, true, true, true, true, true, true, true, true, true, true, true, false, false] ?_
            refine pQ (i := 42) (N := some 89) #[true, true, true, true, true, true, true, true, true, true, true, true, true, true, true, true, true, true, true, true, true, true, true, true, true, true, true, true, true, true, true, true, true, true, true, true, true, true, true, true, true, true, true, false] ?_
            refine pQ (i := 43) (N := some 0) #[true, true, true, true, true, true, true, true, true, true, true, true, true, true, true, true, true, true, true, true, true, true, true, true, true, true, true, true, true, true, true, true, true, true, true, true, true, true, true, true, true, true, true, true] ?_
            refine done_ (done_of HT_.out (by kernel_rfl)) ?_
            try go_wp2
            go_ret
            exact ⟨eW, (bB5 GE758.out GE759.out GE760.out GE780.out GE786.out)⟩
           ·rw [if_neg c16] at H
            exact absurd H (by simp)
          ·rw [if_neg c14] at H
           exact absurd H (by simp)
         ·rw [if_neg c13] at H
          exact absurd H (by simp)
        ·rw [if_neg c12] at H
         exact absurd H (by simp)
       ·rw [if_neg c11] at H
        exact absurd H (by simp)
      ·rw [if_neg c10] at H
       exact absurd H (by simp)
     ·rw [if_neg c9] at H
      exact absurd H (by simp)
    ·rw [if_neg c8] at H
     exact absurd H (by simp)
   ·rw [if_neg c7] at H
    exact absurd H (by simp)
 ·replace c5 := Bool.eq_false_iff.mpr c5
  subst c5
  have H1 : (none) = some r := by rw [if_neg (show ¬ (false = true) by decide)] at H; exact H
  clear H
  have H := H1
  clear H1
  exact absurd H (by simp)

end Go.Proofs.Ytghommaokdhjmaa.P
namespace Go.Proofs.Ytghommaokdhjmaa.P
open Go.RowKit Go.Proofs.YtghommaokdhjmaaW.PrintWords Go.Proofs.YtghommaokdhjmaaW.PrintLast Go.Proofs.Ytghommaokdhjmaa.Gate
set_option linter.unusedVariables false
set_option linter.unusedSimpArgs false

/-! ### constablelaw06_Heavy: function 49 -/
mutual
def constablelaw06_Heavy.j0 : Nat → Bool → ByteArray → List (S77) → Option (Bool)
 | 0, _, _, _ => none
 | k + 1, x13, x728000, x728001 => if x13 = true then (some true) else (constablelaw06_Heavy.l0 k 0 x728000 x728001)
def constablelaw06_Heavy.l0 : Nat → Int → ByteArray → List (S77) → Option (Bool)
 | 0, _, _, _ => none
 | k + 1, x3, x728000, x728001 => if x3 < (x728001.length : Int) then (if 0 ≤ x3 then (if (((rd_T77 x728001 x3).f0).size : Int) > 200 then (some true) else (if (((rd_T77 x728001 x3).f1.f2).size : Int) > 200 then (some true) else (constablelaw06_Heavy.l0 k (wrap64 (x3 + 1)) x728000 x728001))) else (none)) else (some false)
end
def constablelaw06_Heavy.f (k : Nat) (a0_0 : ByteArray) (l0_1 : List (S77)) : Option (Bool) := if (a0_0.size : Int) > 200 then (constablelaw06_Heavy.j0 k true a0_0 l0_1) else (constablelaw06_Heavy.j0 k (decide ((l0_1.length : Int) > 20)) a0_0 l0_1)
theorem constablelaw06_Heavy.mono_l : ∀ k, (∀ y0 y1 y2, LeO (constablelaw06_Heavy.j0 k y0 y1 y2) (constablelaw06_Heavy.j0 (k + 1) y0 y1 y2)) ∧ (∀ y0 y1 y2, LeO (constablelaw06_Heavy.l0 k y0 y1 y2) (constablelaw06_Heavy.l0 (k + 1) y0 y1 y2))
 | 0 => ⟨fun _ _ _ r h => by simp [constablelaw06_Heavy.j0] at h, fun _ _ _ r h => by simp [constablelaw06_Heavy.l0] at h⟩
 | k + 1 => by
  obtain ⟨ih0, ih1⟩ := constablelaw06_Heavy.mono_l k
  refine ⟨?_, ?_⟩
  ·intro y0 y1 y2
   unfold constablelaw06_Heavy.j0
   repeat' first
   | (with_reducible exact ih0 _ _ _)
   | (with_reducible exact ih1 _ _ _)
   | (with_reducible exact LeO.refl _)
   | (with_reducible exact LeO.none _)
   | (with_reducible refine LeO.ite ?_ ?_)
   | (with_reducible refine LeO.bind ?_ (fun _ => ?_))
  ·intro y0 y1 y2
   unfold constablelaw06_Heavy.l0
   repeat' first
   | (with_reducible exact ih0 _ _ _)
   | (with_reducible exact ih1 _ _ _)
   | (with_reducible exact LeO.refl _)
   | (with_reducible exact LeO.none _)
   | (with_reducible refine LeO.ite ?_ ?_)
   | (with_reducible refine LeO.bind ?_ (fun _ => ?_))
theorem constablelaw06_Heavy.mono : ∀ a0 a1 k, LeO (constablelaw06_Heavy.f k a0 a1) (constablelaw06_Heavy.f (k + 1) a0 a1) := by
 intro a0 a1 k
 obtain ⟨ih0, ih1⟩ := constablelaw06_Heavy.mono_l k
 unfold constablelaw06_Heavy.f
 repeat' first
   | (with_reducible exact ih0 _ _ _)
   | (with_reducible exact ih1 _ _ _)
   | (with_reducible exact LeO.refl _)
   | (with_reducible exact LeO.none _)
   | (with_reducible refine LeO.ite ?_ ?_)
   | (with_reducible refine LeO.bind ?_ (fun _ => ?_))
set_option maxHeartbeats 8000000 in
set_option maxRecDepth 100000 in
theorem constablelaw06_Heavy.calls (k : Nat) (a0_0 : ByteArray) (A0_1 : Option Addr) (c0_1 : Nat) (l0_1 : List (S77)) (r : Bool) (w : World) (hr0_1 : Kd.C k77 w A0_1 l0_1.length l0_1) (hc0_1 : l0_1.length ≤ c0_1) (h : constablelaw06_Heavy.f k a0_0 l0_1 = some r) :
  Calls Try.prog 49 #[.agg #[.string a0_0, .slice A0_1 l0_1.length c0_1]] w fun e w' => e = .returned (.bool r) ∧ Below w.heap.size w w' := by
 have hu69 := Try.underlying69
 have HR0_1 := Aside0.mk hr0_1
 have HC0_1 := Aside0.mk hc0_1
 clear hr0_1 hc0_1
 have HB := Aside0.mk (Below.refl w.heap.size w)
 have H : (if (a0_0.size : Int) > 200 then (constablelaw06_Heavy.j0 k true a0_0 l0_1) else (constablelaw06_Heavy.j0 k (decide ((l0_1.length : Int) > 20)) a0_0 l0_1)) = some r := h
 clear h
 have HC2 := Aside0.mk H
 clear H
 go_enter Try.func49, Try.ntmps49
 go_upto_region 1 with (first | ((with_reducible refine gate_dst (N := 1) rfl ?_); (try (refine gate_guard (by rfl) ?_; dsimp only)); refine bE (N := 1) (cs := #[.string a0_0, .slice A0_1 l0_1.length c0_1]) (t := 69) ?_; intro gb727 hg w3 hbox hb; have n0_ := Aside0.mk (below_step bB0 hb); have n1_ := Aside0.mk (hbox); have n2_ := Aside0.mk ((by rw [hg]; exact (below_size bB0) : w.heap.size ≤ gb727)); have n3_ := Aside0.mk ((by rw [hg]; exact (below_size bB0) : w.heap.size ≤ gb727)); clear HB; have HB := n0_; have BK727 := n1_; have GW727 := n2_; have GE727 := n3_; clear n0_ n1_ n2_ n3_; clear hb hbox hg))
 (try simp only [Act.put, List.setIfInBounds_toArray, List.set_cons_zero, List.set_cons_succ])
 go_cut [13] (fun v13 wc => ∃ (kq : Nat) (x13_1 : Bool), v13 = .bool x13_1 ∧ Aside0 (constablelaw06_Heavy.j0 kq x13_1 a0_0 l0_1 = some r) ∧ Aside0 (kq ≤ k) ∧ Aside0 (wc.heap[gb727]? = some (.cells #[.string a0_0, (.slice A0_1 l0_1.length c0_1)] 69 (0, 0))) ∧ Aside0 (Below w.heap.size w wc))
 case first =>
  have H := HC2.out
  clear HC2
  by_cases c4 : (a0_0.size : Int) > 200
  ·rw [if_pos c4] at H
   have c4b0 : decide (200 < (a0_0.size : Int)) = true := decide_eq_true c4
   have c4b1 : decide (200 < a0_0.size) = true := decide_eq_true (by omega)
   clear c4
   (first | rw [c4b0] | (simp only [i64_w, i32_w]; rw [c4b0]) | skip)
   have H' := Aside0.mk H
   clear H
   have hcz5_0 : w3.cell? ⟨gb727, 0, none⟩ = some (.string a0_0) := (blk_cell BK727.out 0).trans rfl
   have hcz5_1 : w3.cell? ⟨gb727, 1, none⟩ = some (.slice A0_1 l0_1.length c0_1) := (blk_cell BK727.out 1).trans rfl
   have hfz5_0 := blk_frozen BK727.out 0
   have hfz5_1 := blk_frozen BK727.out 1
   go_wp2
   go_meet
   case rel => exact ⟨_, (true), (by first | rfl | (simp; done) | (simp [*]; done)), H', ⟨by first | omega | exact Nat.le_refl _⟩, ⟨by refine bk ?_; exact BK727.out⟩, ⟨(bB1 GE727.out)⟩⟩
  ·rw [if_neg c4] at H
   have c4b0 : decide (200 < (a0_0.size : Int)) = false := decide_eq_false c4
   have c4b1 : decide (200 < a0_0.size) = false := decide_eq_false (by omega)
   clear c4
   (first | rw [c4b0] | (simp only [i64_w, i32_w]; rw [c4b0]) | skip)
   have H' := Aside0.mk H
   clear H
   have hcz6_0 : w3.cell? ⟨gb727, 0, none⟩ = some (.string a0_0) := (blk_cell BK727.out 0).trans rfl
   have hcz6_1 : w3.cell? ⟨gb727, 1, none⟩ = some (.slice A0_1 l0_1.length c0_1) := (blk_cell BK727.out 1).trans rfl
   have hfz6_0 := blk_frozen BK727.out 0
   have hfz6_1 := blk_frozen BK727.out 1
   go_wp2
   go_meet
   case rel => exact ⟨_, (decide ((l0_1.length : Int) > 20)), (by first | rfl | (simp; done) | (simp [*]; done)), H', ⟨by first | omega | exact Nat.le_refl _⟩, ⟨by refine bk ?_; exact BK727.out⟩, ⟨(bB1 GE727.out)⟩⟩
 case rest =>
  clear HC2
  (try clear p2); (try clear c4); (try clear c4b0); (try clear c4b1); (try clear hcz5_0); (try clear hcz5_1); (try clear hcz6_0); (try clear hcz6_1); (try clear hfz5_0); (try clear hfz5_1); (try clear hfz6_0); (try clear hfz6_1)
  obtain ⟨kq, x13_1, rfl, HA, HJ1, BK727, HB⟩ := hcut
  cases kq with
  | zero => exact absurd HA.out (by simp [constablelaw06_Heavy.j0])
  | succ kj1 =>
   have H := HA.out
   clear HA
   simp only [constablelaw06_Heavy.j0] at H
   by_cases c7 : x13_1 = true
   ·subst c7
    have H1 : (some true) = some r := by rw [if_pos rfl] at H; exact H
    clear H
    have H := H1
    clear H1
    obtain rfl := Option.some.inj H
    go_wp2
    go_ret
    exact ⟨eW, (bB1 GE727.out)⟩
   ·replace c7 := Bool.eq_false_iff.mpr c7
    subst c7
    have H1 : (constablelaw06_Heavy.l0 kj1 0 a0_0 l0_1) = some r := by rw [if_neg (show ¬ (false = true) by decide)] at H; exact H
    clear H
    have H := H1
    clear H1
    have H' := Aside0.mk H
    clear H
    go_wp2
    go_loopg [3] kj1 (fun kq v3 w' => ∃ (x3_2 : Int), v3 = .int .i64 x3_2 ∧ Aside0 (constablelaw06_Heavy.l0 kq x3_2 a0_0 l0_1 = some r) ∧ Aside0 (kq ≤ kj1) ∧ Aside0 (w'.heap[gb727]? = some (.cells #[.string a0_0, (.slice A0_1 l0_1.length c0_1)] 69 (0, 0))) ∧ Aside0 (Below w.heap.size w w'))
    case atStart => exact ⟨(0), (by first | rfl | (simp; done) | (simp [*]; done)), H', ⟨Nat.le_refl _⟩, ⟨by refine bk ?_; exact BK727.out⟩, ⟨(bB1 GE727.out)⟩⟩
    case round =>
     clear H'
     (try clear p2); (try clear c4); (try clear c4b0); (try clear c4b1); (try clear c7); (try clear hcz5_0); (try clear hcz5_1); (try clear hcz6_0); (try clear hcz6_1); (try clear hfz5_0); (try clear hfz5_1); (try clear hfz6_0); (try clear hfz6_1); (try clear p2)
     obtain ⟨x3_2, rfl, HA, HK2, BK727, HB⟩ := hrel
     cases gk with
     | zero => exact absurd HA.out (by simp [constablelaw06_Heavy.l0])
     | succ k2 =>
      have H := HA.out
      clear HA
      simp only [constablelaw06_Heavy.l0] at H
      by_cases c8 : x3_2 < (l0_1.length : Int)
      ·rw [if_pos c8] at H
       have c8b0 : decide (x3_2 < (l0_1.length : Int)) = true := decide_eq_true c8
       clear c8
       by_cases c9 : 0 ≤ x3_2
       ·rw [if_pos c9] at H
        have c9b0 : decide (0 ≤ x3_2) = true := decide_eq_true c9
        clear c9
        by_cases c10 : (((rd_T77 l0_1 x3_2).f0).size : Int) > 200
        ·rw [if_pos c10] at H
         have c10b0 : decide (200 < (((rd_T77 l0_1 x3_2).f0).size : Int)) = true := decide_eq_true c10
         have c10b1 : decide (200 < ((rd_T77 l0_1 x3_2).f0).size) = true := decide_eq_true (by omega)
         clear c10
         obtain rfl := Option.some.inj H
         have hcz11_0 : wr.cell? ⟨gb727, 0, none⟩ = some (.string a0_0) := (blk_cell BK727.out 0).trans rfl
         have hcz11_1 : wr.cell? ⟨gb727, 1, none⟩ = some (.slice A0_1 l0_1.length c0_1) := (blk_cell BK727.out 1).trans rfl
         have hfz11_0 := blk_frozen BK727.out 0
         have hfz11_1 := blk_frozen BK727.out 1
         have p728 : 0 ≤ (x3_2 : Int) := of_decide_eq_true (by first | (with_reducible assumption) | assumption)
         have q728 : x3_2 < (l0_1.length : Int) := of_decide_eq_true (by first | (with_reducible assumption) | assumption)
         obtain ⟨ad728, e728, hx728_0, hx728_1, hx728_2, hx728_3⟩ := at_T77 HR0_1.out x3_2 p728 q728
         cases e728
         replace hx728_0 := (HB.out.cell (World.block_lt_of_cell? w _ hx728_0)).trans hx728_0
         replace hx728_1 := (HB.out.cell (World.block_lt_of_cell? w _ hx728_1)).trans hx728_1
         replace hx728_2 := (HB.out.cell (World.block_lt_of_cell? w _ hx728_2)).trans hx728_2
         replace hx728_3 := (HB.out.cell (World.block_lt_of_cell? w _ hx728_3)).trans hx728_3
         replace p728 := eq_true p728
         replace q728 := eq_true q728
         go_wp2
         go_ret
         exact ⟨eW, (bB1 GE727.out)⟩
        ·rw [if_neg c10] at H
         have c10b0 : decide (200 < (((rd_T77 l0_1 x3_2).f0).size : Int)) = false := decide_eq_false c10
         have c10b1 : decide (200 < ((rd_T77 l0_1 x3_2).f0).size) = false := decide_eq_false (by omega)
         clear c10
         by_cases c12 : (((rd_T77 l0_1 x3_2).f1.f2).size : Int) > 200
         ·rw [if_pos c12] at H
          have c12b0 : decide (200 < (((rd_T77 l0_1 x3_2).f1.f2).size : Int)) = true := decide_eq_true c12
          have c12b1 : decide (200 < ((rd_T77 l0_1 x3_2).f1.f2).size) = true := decide_eq_true (by omega)
          clear c12
          obtain rfl := Option.some.inj H
          have hcz13_0 : wr.cell? ⟨gb727, 0, none⟩ = some (.string a0_0) := (blk_cell BK727.out 0).trans rfl
          have hcz13_1 : wr.cell? ⟨gb727, 1, none⟩ = some (.slice A0_1 l0_1.length c0_1) := (blk_cell BK727.out 1).trans rfl
          have hfz13_0 := blk_frozen BK727.out 0
          have hfz13_1 := blk_frozen BK727.out 1
          have p728 : 0 ≤ (x3_2 : Int) := of_decide_eq_true (by first | (with_reducible assumption) | assumption)
          have q728 : x3_2 < (l0_1.length : Int) := of_decide_eq_true (by first | (with_reducible assumption) | assumption)
          obtain ⟨ad728, e728, hx728_0, hx728_1, hx728_2, hx728_3⟩ := at_T77 HR0_1.out x3_2 p728 q728
          cases e728
          replace hx728_0 := (HB.out.cell (World.block_lt_of_cell? w _ hx728_0)).trans hx728_0
          replace hx728_1 := (HB.out.cell (World.block_lt_of_cell? w _ hx728_1)).trans hx728_1
          replace hx728_2 := (HB.out.cell (World.block_lt_of_cell? w _ hx728_2)).trans hx728_2
          replace hx728_3 := (HB.out.cell (World.block_lt_of_cell? w _ hx728_3)).trans hx728_3
          replace p728 := eq_true p728
          replace q728 := eq_true q728
          have p729 : 0 ≤ (x3_2 : Int) := of_decide_eq_true (by first | (with_reducible assumption) | assumption)
          have q729 : x3_2 < (l0_1.length : Int) := of_decide_eq_true (by first | (with_reducible assumption) | assumption)
          obtain ⟨ad729, e729, hx729_0, hx729_1, hx729_2, hx729_3⟩ := at_T77 HR0_1.out x3_2 p729 q729
          obtain rfl : ad728 = ad729 := (by injection e729)
          replace hx729_0 := (HB.out.cell (World.block_lt_of_cell? w _ hx729_0)).trans hx729_0
          replace hx729_1 := (HB.out.cell (World.block_lt_of_cell? w _ hx729_1)).trans hx729_1
          replace hx729_2 := (HB.out.cell (World.block_lt_of_cell? w _ hx729_2)).trans hx729_2
          replace hx729_3 := (HB.out.cell (World.block_lt_of_cell? w _ hx729_3)).trans hx729_3
          replace p729 := eq_true p729
          replace q729 := eq_true q729
          go_wp2
          go_ret
          exact ⟨eW, (bB1 GE727.out)⟩
         ·rw [if_neg c12] at H
          have c12b0 : decide (200 < (((rd_T77 l0_1 x3_2).f1.f2).size : Int)) = false := decide_eq_false c12
          have c12b1 : decide (200 < ((rd_T77 l0_1 x3_2).f1.f2).size) = false := decide_eq_false (by omega)
          clear c12
          have H' := Aside0.mk H
          clear H
          have hcz14_0 : wr.cell? ⟨gb727, 0, none⟩ = some (.string a0_0) := (blk_cell BK727.out 0).trans rfl
          have hcz14_1 : wr.cell? ⟨gb727, 1, none⟩ = some (.slice A0_1 l0_1.length c0_1) := (blk_cell BK727.out 1).trans rfl
          have hfz14_0 := blk_frozen BK727.out 0
          have hfz14_1 := blk_frozen BK727.out 1
          have p728 : 0 ≤ (x3_2 : Int) := of_decide_eq_true (by first | (with_reducible assumption) | assumption)
          have q728 : x3_2 < (l0_1.length : Int) := of_decide_eq_true (by first | (with_reducible assumption) | assumption)
          obtain ⟨ad728, e728, hx728_0, hx728_1, hx728_2, hx728_3⟩ := at_T77 HR0_1.out x3_2 p728 q728
          cases e728
          replace hx728_0 := (HB.out.cell (World.block_lt_of_cell? w _ hx728_0)).trans hx728_0
          replace hx728_1 := (HB.out.cell (World.block_lt_of_cell? w _ hx728_1)).trans hx728_1
          replace hx728_2 := (HB.out.cell (World.block_lt_of_cell? w _ hx728_2)).trans hx728_2
          replace hx728_3 := (HB.out.cell (World.block_lt_of_cell? w _ hx728_3)).trans hx728_3
          replace p728 := eq_true p728
          replace q728 := eq_true q728
          have p729 : 0 ≤ (x3_2 : Int) := of_decide_eq_true (by first | (with_reducible assumption) | assumption)
          have q729 : x3_2 < (l0_1.length : Int) := of_decide_eq_true (by first | (with_reducible assumption) | assumption)
          obtain ⟨ad729, e729, hx729_0, hx729_1, hx729_2, hx729_3⟩ := at_T77 HR0_1.out x3_2 p729 q729
          obtain rfl : ad728 = ad729 := (by injection e729)
          replace hx729_0 := (HB.out.cell (World.block_lt_of_cell? w _ hx729_0)).trans hx729_0
          replace hx729_1 := (HB.out.cell (World.block_lt_of_cell? w _ hx729_1)).trans hx729_1
          replace hx729_2 := (HB.out.cell (World.block_lt_of_cell? w _ hx729_2)).trans hx729_2
          replace hx729_3 := (HB.out.cell (World.block_lt_of_cell? w _ hx729_3)).trans hx729_3
          replace p729 := eq_true p729
          replace q729 := eq_true q729
          go_wp2
          go_roundg k2
          case measure => have := HJ1.out; have := HK2.out; omega
          case rel => exact ⟨(wrap64 (x3_2 + 1)), (by first | rfl | (simp; done) | (simp [*]; done)), H', ⟨by have := HJ1.out; have := HK2.out; omega⟩, ⟨by refine bk ?_; exact BK727.out⟩, ⟨(bB1 GE727.out)⟩⟩
       ·rw [if_neg c9] at H
        exact absurd H (by simp)
      ·rw [if_neg c8] at H
       have c8b0 : decide (x3_2 < (l0_1.length : Int)) = false := decide_eq_false c8
       clear c8
       obtain rfl := Option.some.inj H
       have hcz15_0 : wr.cell? ⟨gb727, 0, none⟩ = some (.string a0_0) := (blk_cell BK727.out 0).trans rfl
       have hcz15_1 : wr.cell? ⟨gb727, 1, none⟩ = some (.slice A0_1 l0_1.length c0_1) := (blk_cell BK727.out 1).trans rfl
       have hfz15_0 := blk_frozen BK727.out 0
       have hfz15_1 := blk_frozen BK727.out 1
       go_wp2
       go_ret
       exact ⟨eW, (bB1 GE727.out)⟩

end Go.Proofs.Ytghommaokdhjmaa.P
namespace Go.Proofs.Ytghommaokdhjmaa.P
open Go.RowKit Go.Proofs.YtghommaokdhjmaaW.PrintWords Go.Proofs.YtghommaokdhjmaaW.PrintLast Go.Proofs.Ytghommaokdhjmaa.Gate
set_option linter.unusedVariables false
set_option linter.unusedSimpArgs false

/-! ### constablelaw03_Heavy: function 36 -/
mutual
def constablelaw03_Heavy.j0 : Nat → Bool → ByteArray → List (S24) → Option (Bool)
 | 0, _, _, _ => none
 | k + 1, x13, x366000, x366001 => if x13 = true then (some true) else (constablelaw03_Heavy.l0 k 0 x366000 x366001)
def constablelaw03_Heavy.l0 : Nat → Int → ByteArray → List (S24) → Option (Bool)
 | 0, _, _, _ => none
 | k + 1, x3, x366000, x366001 => if x3 < (x366001.length : Int) then (if 0 ≤ x3 then (if (((rd_T24 x366001 x3).f2).size : Int) > 200 then (some true) else (constablelaw03_Heavy.l0 k (wrap64 (x3 + 1)) x366000 x366001)) else (none)) else (some false)
end
def constablelaw03_Heavy.f (k : Nat) (a0_0 : ByteArray) (l0_1 : List (S24)) : Option (Bool) := if (a0_0.size : Int) > 200 then (constablelaw03_Heavy.j0 k true a0_0 l0_1) else (constablelaw03_Heavy.j0 k (decide ((l0_1.length : Int) > 20)) a0_0 l0_1)
theorem constablelaw03_Heavy.mono_l : ∀ k, (∀ y0 y1 y2, LeO (constablelaw03_Heavy.j0 k y0 y1 y2) (constablelaw03_Heavy.j0 (k + 1) y0 y1 y2)) ∧ (∀ y0 y1 y2, LeO (constablelaw03_Heavy.l0 k y0 y1 y2) (constablelaw03_Heavy.l0 (k + 1) y0 y1 y2))
 | 0 => ⟨fun _ _ _ r h => by simp [constablelaw03_Heavy.j0] at h, fun _ _ _ r h => by simp [constablelaw03_Heavy.l0] at h⟩
 | k + 1 => by
  obtain ⟨ih0, ih1⟩ := constablelaw03_Heavy.mono_l k
  refine ⟨?_, ?_⟩
  ·intro y0 y1 y2
   unfold constablelaw03_Heavy.j0
   repeat' first
   | (with_reducible exact ih0 _ _ _)
   | (with_reducible exact ih1 _ _ _)
   | (with_reducible exact LeO.refl _)
   | (with_reducible exact LeO.none _)
   | (with_reducible refine LeO.ite ?_ ?_)
   | (with_reducible refine LeO.bind ?_ (fun _ => ?_))
  ·intro y0 y1 y2
   unfold constablelaw03_Heavy.l0
   repeat' first
   | (with_reducible exact ih0 _ _ _)
   | (with_reducible exact ih1 _ _ _)
   | (with_reducible exact LeO.refl _)
   | (with_reducible exact LeO.none _)
   | (with_reducible refine LeO.ite ?_ ?_)
   | (with_reducible refine LeO.bind ?_ (fun _ => ?_))
theorem constablelaw03_Heavy.mono : ∀ a0 a1 k, LeO (constablelaw03_Heavy.f k a0 a1) (constablelaw03_Heavy.f (k + 1) a0 a1) := by
 intro a0 a1 k
 obtain ⟨ih0, ih1⟩ := constablelaw03_Heavy.mono_l k
 unfold constablelaw03_Heavy.f
 repeat' first
   | (with_reducible exact ih0 _ _ _)
   | (with_reducible exact ih1 _ _ _)
   | (with_reducible exact LeO.refl _)
   | (with_reducible exact LeO.none _)
   | (with_reducible refine LeO.ite ?_ ?_)
   | (with_reducible refine LeO.bind ?_ (fun _ => ?_))
set_option maxHeartbeats 8000000 in
set_option maxRecDepth 100000 in
theorem constablelaw03_Heavy.calls (k : Nat) (a0_0 : ByteArray) (A0_1 : Option Addr) (c0_1 : Nat) (l0_1 : List (S24)) (r : Bool) (w : World) (hr0_1 : Kd.C k24 w A0_1 l0_1.length l0_1) (hc0_1 : l0_1.length ≤ c0_1) (h : constablelaw03_Heavy.f k a0_0 l0_1 = some r) :
  Calls Try.prog 36 #[.agg #[.string a0_0, .slice A0_1 l0_1.length c0_1]] w fun e w' => e = .returned (.bool r) ∧ Below w.heap.size w w' := by
 have hu53 := Try.underlying53
 have HR0_1 := Aside0.mk hr0_1
 have HC0_1 := Aside0.mk hc0_1
 clear hr0_1 hc0_1
 have HB := Aside0.mk (Below.refl w.heap.size w)
 have H : (if (a0_0.size : Int) > 200 then (constablelaw03_Heavy.j0 k true a0_0 l0_1) else (constablelaw03_Heavy.j0 k (decide ((l0_1.length : Int) > 20)) a0_0 l0_1)) = some r := h
 clear h
 have HC2 := Aside0.mk H
 clear H
 go_enter Try.func36, Try.ntmps36
 go_upto_region 1 with (first | ((with_reducible refine gate_dst (N := 1) rfl ?_); (try (refine gate_guard (by rfl) ?_; dsimp only)); refine bE (N := 1) (cs := #[.string a0_0, .slice A0_1 l0_1.length c0_1]) (t := 53) ?_; intro gb365 hg w3 hbox hb; have n0_ := Aside0.mk (below_step bB0 hb); have n1_ := Aside0.mk (hbox); have n2_ := Aside0.mk ((by rw [hg]; exact (below_size bB0) : w.heap.size ≤ gb365)); have n3_ := Aside0.mk ((by rw [hg]; exact (below_size bB0) : w.heap.size ≤ gb365)); clear HB; have HB := n0_; have BK365 := n1_; have GW365 := n2_; have GE365 := n3_; clear n0_ n1_ n2_ n3_; clear hb hbox hg))
 (try simp only [Act.put, List.setIfInBounds_toArray, List.set_cons_zero, List.set_cons_succ])
 go_cut [13] (fun v13 wc => ∃ (kq : Nat) (x13_1 : Bool), v13 = .bool x13_1 ∧ Aside0 (constablelaw03_Heavy.j0 kq x13_1 a0_0 l0_1 = some r) ∧ Aside0 (kq ≤ k) ∧ Aside0 (wc.heap[gb365]? = some (.cells #[.string a0_0, (.slice A0_1 l0_1.length c0_1)] 53 (0, 0))) ∧ Aside0 (Below w.heap.size w wc))
 case first =>
  have H := HC2.out
  clear HC2
  by_cases c4 : (a0_0.size : Int) > 200
  ·rw [if_pos c4] at H
   have c4b0 : decide (200 < (a0_0.size : Int)) = true := decide_eq_true c4
   have c4b1 : decide (200 < a0_0.size) = true := decide_eq_true (by omega)
   clear c4
   (first | rw [c4b0] | (simp only [i64_w, i32_w]; rw [c4b0]) | skip)
   have H' := Aside0.mk H
   clear H
   have hcz5_0 : w3.cell? ⟨gb365, 0, none⟩ = some (.string a0_0) := (blk_cell BK365.out 0).trans rfl
   have hcz5_1 : w3.cell? ⟨gb365, 1, none⟩ = some (.slice A0_1 l0_1.length c0_1) := (blk_cell BK365.out 1).trans rfl
   have hfz5_0 := blk_frozen BK365.out 0
   have hfz5_1 := blk_frozen BK365.out 1
   go_wp2
   go_meet
   case rel => exact ⟨_, (true), (by first | rfl | (simp; done) | (simp [*]; done)), H', ⟨by first | omega | exact Nat.le_refl _⟩, ⟨by refine bk ?_; exact BK365.out⟩, ⟨(bB1 GE365.out)⟩⟩
  ·rw [if_neg c4] at H
   have c4b0 : decide (200 < (a0_0.size : Int)) = false := decide_eq_false c4
   have c4b1 : decide (200 < a0_0.size) = false := decide_eq_false (by omega)
   clear c4
   (first | rw [c4b0] | (simp only [i64_w, i32_w]; rw [c4b0]) | skip)
   have H' := Aside0.mk H
   clear H
   have hcz6_0 : w3.cell? ⟨gb365, 0, none⟩ = some (.string a0_0) := (blk_cell BK365.out 0).trans rfl
   have hcz6_1 : w3.cell? ⟨gb365, 1, none⟩ = some (.slice A0_1 l0_1.length c0_1) := (blk_cell BK365.out 1).trans rfl
   have hfz6_0 := blk_frozen BK365.out 0
   have hfz6_1 := blk_frozen BK365.out 1
   go_wp2
   go_meet
   case rel => exact ⟨_, (decide ((l0_1.length : Int) > 20)), (by first | rfl | (simp; done) | (simp [*]; done)), H', ⟨by first | omega | exact Nat.le_refl _⟩, ⟨by refine bk ?_; exact BK365.out⟩, ⟨(bB1 GE365.out)⟩⟩
 case rest =>
  clear HC2
  (try clear p2); (try clear c3); (try clear c4); (try clear c4b0); (try clear c4b1); (try clear hcz5_0); (try clear hcz5_1); (try clear hcz6_0); (try clear hcz6_1); (try clear hfz5_0); (try clear hfz5_1); (try clear hfz6_0); (try clear hfz6_1)
  obtain ⟨kq, x13_1, rfl, HA, HJ1, BK365, HB⟩ := hcut
  cases kq with
  | zero => exact absurd HA.out (by simp [constablelaw03_Heavy.j0])
  | succ kj1 =>
   have H := HA.out
   clear HA
   simp only [constablelaw03_Heavy.j0] at H
   by_cases c7 : x13_1 = true
   ·subst c7
    have H1 : (some true) = some r := by rw [if_pos rfl] at H; exact H
    clear H
    have H := H1
    clear H1
    obtain rfl := Option.some.inj H
    go_wp2
    go_ret
    exact ⟨eW, (bB1 GE365.out)⟩
   ·replace c7 := Bool.eq_false_iff.mpr c7
    subst c7
    have H1 : (constablelaw03_Heavy.l0 kj1 0 a0_0 l0_1) = some r := by rw [if_neg (show ¬ (false = true) by decide)] at H; exact H
    clear H
    have H := H1
    clear H1
    have H' := Aside0.mk H
    clear H
    go_wp2
    go_loopg [3] kj1 (fun kq v3 w' => ∃ (x3_2 : Int), v3 = .int .i64 x3_2 ∧ Aside0 (constablelaw03_Heavy.l0 kq x3_2 a0_0 l0_1 = some r) ∧ Aside0 (kq ≤ kj1) ∧ Aside0 (w'.heap[gb365]? = some (.cells #[.string a0_0, (.slice A0_1 l0_1.length c0_1)] 53 (0, 0))) ∧ Aside0 (Below w.heap.size w w'))
    case atStart => exact ⟨(0), (by first | rfl | (simp; done) | (simp [*]; done)), H', ⟨Nat.le_refl _⟩, ⟨by refine bk ?_; exact BK365.out⟩, ⟨(bB1 GE365.out)⟩⟩
    case round =>
     clear H'
     (try clear p2); (try clear c3); (try clear c4); (try clear c4b0); (try clear c4b1); (try clear c7); (try clear hcz5_0); (try clear hcz5_1); (try clear hcz6_0); (try clear hcz6_1); (try clear hfz5_0); (try clear hfz5_1); (try clear hfz6_0); (try clear hfz6_1); (try clear p2)
     obtain ⟨x3_2, rfl, HA, HK2, BK365, HB⟩ := hrel
     cases gk with
     | zero => exact absurd HA.out (by simp [constablelaw03_Heavy.l0])
     | succ k2 =>
      have H := HA.out
      clear HA
      simp only [constablelaw03_Heavy.l0] at H
      by_cases c8 : x3_2 < (l0_1.length : Int)
      ·rw [if_pos c8] at H
       have c8b0 : decide (x3_2 < (l0_1.length : Int)) = true := decide_eq_true c8
       clear c8
       by_cases c9 : 0 ≤ x3_2
       ·rw [if_pos c9] at H
        have c9b0 : decide (0 ≤ x3_2) = true := decide_eq_true c9
        clear c9
        by_cases c10 : (((rd_T24 l0_1 x3_2).f2).size : Int) > 200
        ·rw [if_pos c10] at H
         have c10b0 : decide (200 < (((rd_T24 l0_1 x3_2).f2).size : Int)) = true := decide_eq_true c10
         have c10b1 : decide (200 < ((rd_T24 l0_1 x3_2).f2).size) = true := decide_eq_true (by omega)
         clear c10
         obtain rfl := Option.some.inj H
         have hcz11_0 : wr.cell? ⟨gb365, 0, none⟩ = some (.string a0_0) := (blk_cell BK365.out 0).trans rfl
         have hcz11_1 : wr.cell? ⟨gb365, 1, none⟩ = some (.slice A0_1 l0_1.length c0_1) := (blk_cell BK365.out 1).trans rfl
         have hfz11_0 := blk_frozen BK365.out 0
         have hfz11_1 := blk_frozen BK365.out 1
         have p366 : 0 ≤ (x3_2 : Int) := of_decide_eq_true (by first | (with_reducible assumption) | assumption)
         have q366 : x3_2 < (l0_1.length : Int) := of_decide_eq_true (by first | (with_reducible assumption) | assumption)
         obtain ⟨ad366, e366, hx366_0, hx366_1, hx366_2⟩ := at_T24 HR0_1.out x3_2 p366 q366
         cases e366
         replace hx366_0 := (HB.out.cell (World.block_lt_of_cell? w _ hx366_0)).trans hx366_0
         replace hx366_1 := (HB.out.cell (World.block_lt_of_cell? w _ hx366_1)).trans hx366_1
         replace hx366_2 := (HB.out.cell (World.block_lt_of_cell? w _ hx366_2)).trans hx366_2
         replace p366 := eq_true p366
         replace q366 := eq_true q366
         go_wp2
         go_ret
         exact ⟨eW, (bB1 GE365.out)⟩
        ·rw [if_neg c10] at H
         have c10b0 : decide (200 < (((rd_T24 l0_1 x3_2).f2).size : Int)) = false := decide_eq_false c10
         have c10b1 : decide (200 < ((rd_T24 l0_1 x3_2).f2).size) = false := decide_eq_false (by omega)
         clear c10
         have H' := Aside0.mk H
         clear H
         have hcz12_0 : wr.cell? ⟨gb365, 0, none⟩ = some (.string a0_0) := (blk_cell BK365.out 0).trans rfl
         have hcz12_1 : wr.cell? ⟨gb365, 1, none⟩ = some (.slice A0_1 l0_1.length c0_1) := (blk_cell BK365.out 1).trans rfl
         have hfz12_0 := blk_frozen BK365.out 0
         have hfz12_1 := blk_frozen BK365.out 1
         have p366 : 0 ≤ (x3_2 : Int) := of_decide_eq_true (by first | (with_reducible assumption) | assumption)
         have q366 : x3_2 < (l0_1.length : Int) := of_decide_eq_true (by first | (with_reducible assumption) | assumption)
         obtain ⟨ad366, e366, hx366_0, hx366_1, hx366_2⟩ := at_T24 HR0_1.out x3_2 p366 q366
         cases e366
         replace hx366_0 := (HB.out.cell (World.block_lt_of_cell? w _ hx366_0)).trans hx366_0
         replace hx366_1 := (HB.out.cell (World.block_lt_of_cell? w _ hx366_1)).trans hx366_1
         replace hx366_2 := (HB.out.cell (World.block_lt_of_cell? w _ hx366_2)).trans hx366_2
         replace p366 := eq_true p366
         replace q366 := eq_true q366
         go_wp2
         go_roundg k2
         case measure => have := HJ1.out; have := HK2.out; omega
         case rel => exact ⟨(wrap64 (x3_2 + 1)), (by first | rfl | (simp; done) | (simp [*]; done)), H', ⟨by have := HJ1.out; have := HK2.out; omega⟩, ⟨by refine bk ?_; exact BK365.out⟩, ⟨(bB1 GE365.out)⟩⟩
       ·rw [if_neg c9] at H
        exact absurd H (by simp)
      ·rw [if_neg c8] at H
       have c8b0 : decide (x3_2 < (l0_1.length : Int)) = false := decide_eq_false c8
       clear c8
       obtain rfl := Option.some.inj H
       have hcz13_0 : wr.cell? ⟨gb365, 0, none⟩ = some (.string a0_0) := (blk_cell BK365.out 0).trans rfl
       have hcz13_1 : wr.cell? ⟨gb365, 1, none⟩ = some (.slice A0_1 l0_1.length c0_1) := (blk_cell BK365.out 1).trans rfl
       have hfz13_0 := blk_frozen BK365.out 0
       have hfz13_1 := blk_frozen BK365.out 1
       go_wp2
       go_ret
       exact ⟨eW, (bB1 GE365.out)⟩

end Go.Proofs.Ytghommaokdhjmaa.P
namespace Go.Proofs.Ytghommaokdhjmaa.P
open Go.RowKit Go.Proofs.YtghommaokdhjmaaW.PrintWords Go.Proofs.YtghommaokdhjmaaW.PrintLast Go.Proofs.Ytghommaokdhjmaa.Gate
set_option linter.unusedVariables false
set_option linter.unusedSimpArgs false

attribute [local go_sem high] eqA24
/-! ### constablekeep_Fact: function 40 -/
mutual
def constablekeep_Fact.j0 : Nat → Bool → ByteArray → List (S24) → ByteArray → List (S24) → Option (Bool)
 | 0, _, _, _, _, _ => none
 | k + 1, x19, x442000, x442001, x443000, x443001 => if x19 = true then (some false) else (constablekeep_Fact.l0 k 0 x442000 x442001 x443000 x443001)
def constablekeep_Fact.l0 : Nat → Int → ByteArray → List (S24) → ByteArray → List (S24) → Option (Bool)
 | 0, _, _, _, _, _ => none
 | k + 1, x5, x442000, x442001, x443000, x443001 => if x5 < (x442001.length : Int) then (if 0 ≤ x5 then (if x5 < (x443001.length : Int) then (if (!(((rd_T24 x442001 x5).f0) == ((rd_T24 x443001 x5).f0)) || (!(((rd_T24 x442001 x5).f1) == ((rd_T24 x443001 x5).f1)) || (!((((rd_T24 x442001 x5).f2).toList) == (((rd_T24 x443001 x5).f2).toList))))) = true then (some false) else (constablekeep_Fact.l0 k (wrap64 (x5 + 1)) x442000 x442001 x443000 x443001)) else (none)) else (none)) else (some true)
end
def constablekeep_Fact.f (k : Nat) (a0_0 : ByteArray) (l0_1 : List (S24)) (a1_0 : ByteArray) (l1_1 : List (S24)) : Option (Bool) := if a0_0.toList = a1_0.toList then (constablekeep_Fact.j0 k ((l0_1.length : Int) != (l1_1.length : Int)) a0_0 l0_1 a1_0 l1_1) else (constablekeep_Fact.j0 k true a0_0 l0_1 a1_0 l1_1)
theorem constablekeep_Fact.mono_l : ∀ k, (∀ y0 y1 y2 y3 y4, LeO (constablekeep_Fact.j0 k y0 y1 y2 y3 y4) (constablekeep_Fact.j0 (k + 1) y0 y1 y2 y3 y4)) ∧ (∀ y0 y1 y2 y3 y4, LeO (constablekeep_Fact.l0 k y0 y1 y2 y3 y4) (constablekeep_Fact.l0 (k + 1) y0 y1 y2 y3 y4))
 | 0 => ⟨fun _ _ _ _ _ r h => by simp [constablekeep_Fact.j0] at h, fun _ _ _ _ _ r h => by simp [constablekeep_Fact.l0] at h⟩
 | k + 1 => by
  obtain ⟨ih0, ih1⟩ := constablekeep_Fact.mono_l k
  refine ⟨?_, ?_⟩
  ·intro y0 y1 y2 y3 y4
   unfold constablekeep_Fact.j0
   repeat' first
   | (with_reducible exact ih0 _ _ _ _ _)
   | (with_reducible exact ih1 _ _ _ _ _)
   | (with_reducible exact LeO.refl _)
   | (with_reducible exact LeO.none _)
   | (with_reducible refine LeO.ite ?_ ?_)
   | (with_reducible refine LeO.bind ?_ (fun _ => ?_))
  ·intro y0 y1 y2 y3 y4
   unfold constablekeep_Fact.l0
   repeat' first
   | (with_reducible exact ih0 _ _ _ _ _)
   | (with_reducible exact ih1 _ _ _ _ _)
   | (with_reducible exact LeO.refl _)
   | (with_reducible exact LeO.none _)
   | (with_reducible refine LeO.ite ?_ ?_)
   | (with_reducible refine LeO.bind ?_ (fun _ => ?_))
theorem constablekeep_Fact.mono : ∀ a0 a1 a2 a3 k, LeO (constablekeep_Fact.f k a0 a1 a2 a3) (constablekeep_Fact.f (k + 1) a0 a1 a2 a3) := by
 intro a0 a1 a2 a3 k
 obtain ⟨ih0, ih1⟩ := constablekeep_Fact.mono_l k
 unfold constablekeep_Fact.f
 repeat' first
   | (with_reducible exact ih0 _ _ _ _ _)
   | (with_reducible exact ih1 _ _ _ _ _)
   | (with_reducible exact LeO.refl _)
   | (with_reducible exact LeO.none _)
   | (with_reducible refine LeO.ite ?_ ?_)
   | (with_reducible refine LeO.bind ?_ (fun _ => ?_))
set_option maxHeartbeats 8000000 in
set_option maxRecDepth 100000 in
theorem constablekeep_Fact.calls (k : Nat) (a0_0 : ByteArray) (A0_1 : Option Addr) (c0_1 : Nat) (l0_1 : List (S24)) (a1_0 : ByteArray) (A1_1 : Option Addr) (c1_1 : Nat) (l1_1 : List (S24)) (r : Bool) (w : World) (hr0_1 : Kd.C k24 w A0_1 l0_1.length l0_1) (hc0_1 : l0_1.length ≤ c0_1) (hr1_1 : Kd.C k24 w A1_1 l1_1.length l1_1) (hc1_1 : l1_1.length ≤ c1_1) (h : constablekeep_Fact.f k a0_0 l0_1 a1_0 l1_1 = some r) :
  Calls Try.prog 40 #[.agg #[.string a0_0, .slice A0_1 l0_1.length c0_1], .agg #[.string a1_0, .slice A1_1 l1_1.length c1_1]] w fun e w' => e = .returned (.bool r) ∧ Below w.heap.size w w' := by
 have hu53 := Try.underlying53
 have hu24 := Try.underlying24
 have HR0_1 := Aside0.mk hr0_1
 have HC0_1 := Aside0.mk hc0_1
 clear hr0_1 hc0_1
 have HR1_1 := Aside0.mk hr1_1
 have HC1_1 := Aside0.mk hc1_1
 clear hr1_1 hc1_1
 have HB := Aside0.mk (Below.refl w.heap.size w)
 have H : (if a0_0.toList = a1_0.toList then (constablekeep_Fact.j0 k ((l0_1.length : Int) != (l1_1.length : Int)) a0_0 l0_1 a1_0 l1_1) else (constablekeep_Fact.j0 k true a0_0 l0_1 a1_0 l1_1)) = some r := h
 clear h
 have HC3 := Aside0.mk H
 clear H
 go_enter Try.func40, Try.ntmps40
 go_upto_region 1 with (first | ((with_reducible refine gate_dst (N := 2) rfl ?_); (try (refine gate_guard (by rfl) ?_; dsimp only)); refine bE (N := 2) (cs := #[.string a0_0, .slice A0_1 l0_1.length c0_1]) (t := 53) ?_; intro gb441 hg w4 hbox hb; have n0_ := Aside0.mk (below_step bB0 hb); have n1_ := Aside0.mk (hbox); have n2_ := Aside0.mk ((by rw [hg]; exact (below_size bB0) : w.heap.size ≤ gb441)); have n3_ := Aside0.mk ((by rw [hg]; exact (below_size bB0) : w.heap.size ≤ gb441)); clear HB; have HB := n0_; have BK441 := n1_; have GW441 := n2_; have GE441 := n3_; clear n0_ n1_ n2_ n3_; clear hb hbox hg) | ((with_reducible refine gate_dst (N := 3) rfl ?_); (try (refine gate_guard (by rfl) ?_; dsimp only)); refine bE (N := 3) (cs := #[.string a1_0, .slice A1_1 l1_1.length c1_1]) (t := 53) ?_; intro gb442 hg w5 hbox hb; have n0_ := Aside0.mk (blk_below (g := gb441) (o := .cells #[.string a0_0, .slice A0_1 l0_1.length c0_1] 53 (0, 0)) (by refine bk ?_; exact BK441.out) hb); have n1_ := Aside0.mk (below_step (bB1 GE441.out) hb); have n2_ := Aside0.mk (hbox); have n3_ := Aside0.mk ((by rw [hg]; exact (below_size (bB1 GE441.out)) : w.heap.size ≤ gb442)); have n4_ := Aside0.mk ((by rw [hg]; exact (below_size (bB1 GE441.out)) : w.heap.size ≤ gb442)); have n5_ := Aside0.mk ((by rw [hg]; exact Nat.ne_of_lt (blk_lt (g := gb441) (o := .cells #[.string a0_0, .slice A0_1 l0_1.length c0_1] 53 (0, 0)) (by refine bk ?_; exact BK441.out)) : gb441 ≠ gb442)); have n6_ := Aside0.mk ((by rw [hg]; exact Nat.ne_of_gt (blk_lt (g := gb441) (o := .cells #[.string a0_0, .slice A0_1 l0_1.length c0_1] 53 (0, 0)) (by refine bk ?_; exact BK441.out)) : gb442 ≠ gb441)); clear BK441; clear HB; have BK441 := n0_; have HB := n1_; have BK442 := n2_; have GW442 := n3_; have GE442 := n4_; have NB441_442 := n5_; have NB442_441 := n6_; clear n0_ n1_ n2_ n3_ n4_ n5_ n6_; clear hb hbox hg))
 repeat (go_quiet (first | ((with_reducible refine gate_dst (N := 2) rfl ?_); (try (refine gate_guard (by rfl) ?_; dsimp only)); refine bE (N := 2) (cs := #[.string a0_0, .slice A0_1 l0_1.length c0_1]) (t := 53) ?_; intro gb441 hg w4 hbox hb; have n0_ := Aside0.mk (below_step bB0 hb); have n1_ := Aside0.mk (hbox); have n2_ := Aside0.mk ((by rw [hg]; exact (below_size bB0) : w.heap.size ≤ gb441)); have n3_ := Aside0.mk ((by rw [hg]; exact (below_size bB0) : w.heap.size ≤ gb441)); clear HB; have HB := n0_; have BK441 := n1_; have GW441 := n2_; have GE441 := n3_; clear n0_ n1_ n2_ n3_; clear hb hbox hg) | ((with_reducible refine gate_dst (N := 3) rfl ?_); (try (refine gate_guard (by rfl) ?_; dsimp only)); refine bE (N := 3) (cs := #[.string a1_0, .slice A1_1 l1_1.length c1_1]) (t := 53) ?_; intro gb442 hg w5 hbox hb; have n0_ := Aside0.mk (blk_below (g := gb441) (o := .cells #[.string a0_0, .slice A0_1 l0_1.length c0_1] 53 (0, 0)) (by refine bk ?_; exact BK441.out) hb); have n1_ := Aside0.mk (below_step (bB1 GE441.out) hb); have n2_ := Aside0.mk (hbox); have n3_ := Aside0.mk ((by rw [hg]; exact (below_size (bB1 GE441.out)) : w.heap.size ≤ gb442)); have n4_ := Aside0.mk ((by rw [hg]; exact (below_size (bB1 GE441.out)) : w.heap.size ≤ gb442)); have n5_ := Aside0.mk ((by rw [hg]; exact Nat.ne_of_lt (blk_lt (g := gb441) (o := .cells #[.string a0_0, .slice A0_1 l0_1.length c0_1] 53 (0, 0)) (by refine bk ?_; exact BK441.out)) : gb441 ≠ gb442)); have n6_ := Aside0.mk ((by rw [hg]; exact Nat.ne_of_gt (blk_lt (g := gb441) (o := .cells #[.string a0_0, .slice A0_1 l0_1.length c0_1] 53 (0, 0)) (by refine bk ?_; exact BK441.out)) : gb442 ≠ gb441)); clear BK441; clear HB; have BK441 := n0_; have HB := n1_; have BK442 := n2_; have GW442 := n3_; have GE442 := n4_; have NB441_442 := n5_; have NB442_441 := n6_; clear n0_ n1_ n2_ n3_ n4_ n5_ n6_; clear hb hbox hg)); go_upto_region 1 with (first | ((with_reducible refine gate_dst (N := 2) rfl ?_); (try (refine gate_guard (by rfl) ?_; dsimp only)); refine bE (N := 2) (cs := #[.string a0_0, .slice A0_1 l0_1.length c0_1]) (t := 53) ?_; intro gb441 hg w4 hbox hb; have n0_ := Aside0.mk (below_step bB0 hb); have n1_ := Aside0.mk (hbox); have n2_ := Aside0.mk ((by rw [hg]; exact (below_size bB0) : w.heap.size ≤ gb441)); have n3_ := Aside0.mk ((by rw [hg]; exact (below_size bB0) : w.heap.size ≤ gb441)); clear HB; have HB := n0_; have BK441 := n1_; have GW441 := n2_; have GE441 := n3_; clear n0_ n1_ n2_ n3_; clear hb hbox hg) | ((with_reducible refine gate_dst (N := 3) rfl ?_); (try (refine gate_guard (by rfl) ?_; dsimp only)); refine bE (N := 3) (cs := #[.string a1_0, .slice A1_1 l1_1.length c1_1]) (t := 53) ?_; intro gb442 hg w5 hbox hb; have n0_ := Aside0.mk (blk_below (g := gb441) (o := .cells #[.string a0_0, .slice A0_1 l0_1.length c0_1] 53 (0, 0)) (by refine bk ?_; exact BK441.out) hb); have n1_ := Aside0.mk (below_step (bB1 GE441.out) hb); have n2_ := Aside0.mk (hbox); have n3_ := Aside0.mk ((by rw [hg]; exact (below_size (bB1 GE441.out)) : w.heap.size ≤ gb442)); have n4_ := Aside0.mk ((by rw [hg]; exact (below_size (bB1 GE441.out)) : w.heap.size ≤ gb442)); have n5_ := Aside0.mk ((by rw [hg]; exact Nat.ne_of_lt (blk_lt (g := gb441) (o := .cells #[.string a0_0, .slice A0_1 l0_1.length c0_1] 53 (0, 0)) (by refine bk ?_; exact BK441.out)) : gb441 ≠ gb442)); have n6_ := Aside0.mk ((by rw [hg]; exact Nat.ne_of_gt (blk_lt (g := gb441) (o := .cells #[.string a0_0, .slice A0_1 l0_1.length c0_1] 53 (0, 0)) (by refine bk ?_; exact BK441.out)) : gb442 ≠ gb441)); clear BK441; clear HB; have BK441 := n0_; have HB := n1_; have BK442 := n2_; have GW442 := n3_; have GE442 := n4_; have NB441_442 := n5_; have NB442_441 := n6_; clear n0_ n1_ n2_ n3_ n4_ n5_ n6_; clear hb hbox hg)))
 (try simp only [Act.put, List.setIfInBounds_toArray, List.set_cons_zero, List.set_cons_succ])
 go_cut [19] (fun v19 wc => ∃ (kq : Nat) (x19_2 : Bool), v19 = .bool x19_2 ∧ Aside0 (constablekeep_Fact.j0 kq x19_2 a0_0 l0_1 a1_0 l1_1 = some r) ∧ Aside0 (kq ≤ k) ∧ Aside0 (wc.heap[gb441]? = some (.cells #[.string a0_0, (.slice A0_1 l0_1.length c0_1)] 53 (0, 0))) ∧ Aside0 (wc.heap[gb442]? = some (.cells #[.string a1_0, (.slice A1_1 l1_1.length c1_1)] 53 (0, 0))) ∧ Aside0 (Below w.heap.size w wc))
 case first =>
  have H := HC3.out
  clear HC3
  by_cases c6 : a0_0.toList = a1_0.toList
  ·rw [if_pos c6] at H
   have c6b0 : (a0_0.toList == a1_0.toList) = true := beq_iff_eq.mpr c6
   have c6b1 : (a0_0.toList != a1_0.toList) = false := bne_eq_false_iff_eq.mpr c6
   clear c6
   (first | rw [c6b0] | (simp only [i64_w, i32_w]; rw [c6b0]) | skip)
   have H' := Aside0.mk H
   clear H
   have hnb7 := NB441_442.out
   have hnc7 := NB442_441.out
   have hcz8_0 : w5.cell? ⟨gb441, 0, none⟩ = some (.string a0_0) := (blk_cell BK441.out 0).trans rfl
   have hcz8_1 : w5.cell? ⟨gb441, 1, none⟩ = some (.slice A0_1 l0_1.length c0_1) := (blk_cell BK441.out 1).trans rfl
   have hfz8_0 := blk_frozen BK441.out 0
   have hfz8_1 := blk_frozen BK441.out 1
   have hcz9_0 : w5.cell? ⟨gb442, 0, none⟩ = some (.string a1_0) := (blk_cell BK442.out 0).trans rfl
   have hcz9_1 : w5.cell? ⟨gb442, 1, none⟩ = some (.slice A1_1 l1_1.length c1_1) := (blk_cell BK442.out 1).trans rfl
   have hfz9_0 := blk_frozen BK442.out 0
   have hfz9_1 := blk_frozen BK442.out 1
   go_wp2
   repeat (go_quiet (fail); try go_wp2)
   go_meet
   case rel => exact ⟨_, (((l0_1.length : Int) != (l1_1.length : Int))), (by first | rfl | (simp; done) | (simp [*]; done)), H', ⟨by first | omega | exact Nat.le_refl _⟩, ⟨by refine bk ?_; exact BK441.out⟩, ⟨by refine bk ?_; exact BK442.out⟩, ⟨(bB2 GE441.out GE442.out)⟩⟩
  ·rw [if_neg c6] at H
   have c6b0 : (a0_0.toList == a1_0.toList) = false := beq_eq_false_iff_ne.mpr c6
   have c6b1 : (a0_0.toList != a1_0.toList) = true := bne_iff_ne.mpr c6
   (first | rw [c6b0] | (simp only [i64_w, i32_w]; rw [c6b0]) | skip)
   have H' := Aside0.mk H
   clear H
   have hnb10 := NB441_442.out
   have hnc10 := NB442_441.out
   have hcz11_0 : w5.cell? ⟨gb441, 0, none⟩ = some (.string a0_0) := (blk_cell BK441.out 0).trans rfl
   have hcz11_1 : w5.cell? ⟨gb441, 1, none⟩ = some (.slice A0_1 l0_1.length c0_1) := (blk_cell BK441.out 1).trans rfl
   have hfz11_0 := blk_frozen BK441.out 0
   have hfz11_1 := blk_frozen BK441.out 1
   have hcz12_0 : w5.cell? ⟨gb442, 0, none⟩ = some (.string a1_0) := (blk_cell BK442.out 0).trans rfl
   have hcz12_1 : w5.cell? ⟨gb442, 1, none⟩ = some (.slice A1_1 l1_1.length c1_1) := (blk_cell BK442.out 1).trans rfl
   have hfz12_0 := blk_frozen BK442.out 0
   have hfz12_1 := blk_frozen BK442.out 1
   go_wp2
   repeat (go_quiet (fail); try go_wp2)
   go_meet
   case rel => exact ⟨_, (true), (by first | rfl | (simp; done) | (simp [*]; done)), H', ⟨by first | omega | exact Nat.le_refl _⟩, ⟨by refine bk ?_; exact BK441.out⟩, ⟨by refine bk ?_; exact BK442.out⟩, ⟨(bB2 GE441.out GE442.out)⟩⟩
 case rest =>
  clear HC3
  (try clear c1); (try clear p2); (try clear c4); (try clear c6); (try clear c6b0); (try clear c6b1); (try clear c7); (try clear c10); (try clear hcz11_0); (try clear hcz11_1); (try clear hcz12_0); (try clear hcz12_1); (try clear hcz8_0); (try clear hcz8_1); (try clear hcz9_0); (try clear hcz9_1); (try clear hfz11_0); (try clear hfz11_1); (try clear hfz12_0); (try clear hfz12_1); (try clear hfz8_0); (try clear hfz8_1); (try clear hfz9_0); (try clear hfz9_1)
  obtain ⟨kq, x19_2, rfl, HA, HJ2, BK441, BK442, HB⟩ := hcut
  cases kq with
  | zero => exact absurd HA.out (by simp [constablekeep_Fact.j0])
  | succ kj2 =>
   have H := HA.out
   clear HA
   simp only [constablekeep_Fact.j0] at H
   by_cases c13 : x19_2 = true
   ·subst c13
    have H1 : (some false) = some r := by rw [if_pos rfl] at H; exact H
    clear H
    have H := H1
    clear H1
    obtain rfl := Option.some.inj H
    go_wp2
    repeat (go_quiet (fail); try go_wp2)
    go_ret
    exact ⟨eW, (bB2 GE441.out GE442.out)⟩
   ·replace c13 := Bool.eq_false_iff.mpr c13
    subst c13
    have H1 : (constablekeep_Fact.l0 kj2 0 a0_0 l0_1 a1_0 l1_1) = some r := by rw [if_neg (show ¬ (false = true) by decide)] at H; exact H
    clear H
    have H := H1
    clear H1
    have H' := Aside0.mk H
    clear H
    go_wp2
    repeat (go_quiet (fail); try go_wp2)
    go_loopg [5] kj2 (fun kq v5 w' => ∃ (x5_2 : Int), v5 = .int .i64 x5_2 ∧ Aside0 (constablekeep_Fact.l0 kq x5_2 a0_0 l0_1 a1_0 l1_1 = some r) ∧ Aside0 (kq ≤ kj2) ∧ Aside0 (w'.heap[gb441]? = some (.cells #[.string a0_0, (.slice A0_1 l0_1.length c0_1)] 53 (0, 0))) ∧ Aside0 (w'.heap[gb442]? = some (.cells #[.string a1_0, (.slice A1_1 l1_1.length c1_1)] 53 (0, 0))) ∧ Aside0 (Below w.heap.size w w'))
    case atStart => exact ⟨(0), (by first | rfl | (simp; done) | (simp [*]; done)), H', ⟨Nat.le_refl _⟩, ⟨by refine bk ?_; exact BK441.out⟩, ⟨by refine bk ?_; exact BK442.out⟩, ⟨(bB2 GE441.out GE442.out)⟩⟩
    case round =>
     clear H'
     (try clear c1); (try clear p2); (try clear c4); (try clear c6); (try clear c6b0); (try clear c6b1); (try clear c7); (try clear c10); (try clear c13); (try clear hcz11_0); (try clear hcz11_1); (try clear hcz12_0); (try clear hcz12_1); (try clear hcz8_0); (try clear hcz8_1); (try clear hcz9_0); (try clear hcz9_1); (try clear hfz11_0); (try clear hfz11_1); (try clear hfz12_0); (try clear hfz12_1); (try clear hfz8_0); (try clear hfz8_1); (try clear hfz9_0); (try clear hfz9_1); (try clear p2)
     obtain ⟨x5_2, rfl, HA, HK2, BK441, BK442, HB⟩ := hrel
     cases gk with
     | zero => exact absurd HA.out (by simp [constablekeep_Fact.l0])
     | succ k2 =>
      have H := HA.out
      clear HA
      simp only [constablekeep_Fact.l0] at H
      by_cases c14 : x5_2 < (l0_1.length : Int)
      ·rw [if_pos c14] at H
       have c14b0 : decide (x5_2 < (l0_1.length : Int)) = true := decide_eq_true c14
       clear c14
       by_cases c15 : 0 ≤ x5_2
       ·rw [if_pos c15] at H
        have c15b0 : decide (0 ≤ x5_2) = true := decide_eq_true c15
        clear c15
        by_cases c16 : x5_2 < (l1_1.length : Int)
        ·rw [if_pos c16] at H
         have c16b0 : decide (x5_2 < (l1_1.length : Int)) = true := decide_eq_true c16
         clear c16
         obtain ⟨qc17, hqc17⟩ : ∃ b_ : Bool, (!(((rd_T24 l0_1 x5_2).f0) == ((rd_T24 l1_1 x5_2).f0)) || (!(((rd_T24 l0_1 x5_2).f1) == ((rd_T24 l1_1 x5_2).f1)) || (!((((rd_T24 l0_1 x5_2).f2).toList) == (((rd_T24 l1_1 x5_2).f2).toList))))) = b_ := ⟨_, rfl⟩
         by_cases c17 : (!(((rd_T24 l0_1 x5_2).f0) == ((rd_T24 l1_1 x5_2).f0)) || (!(((rd_T24 l0_1 x5_2).f1) == ((rd_T24 l1_1 x5_2).f1)) || (!((((rd_T24 l0_1 x5_2).f2).toList) == (((rd_T24 l1_1 x5_2).f2).toList))))) = true
         ·rw [if_pos c17] at H
          have c17b0 : qc17 = true := hqc17.symm.trans c17
          clear c17
          obtain rfl := Option.some.inj H
          have hnb18 := NB441_442.out
          have hnc18 := NB442_441.out
          have hcz19_0 : wr.cell? ⟨gb441, 0, none⟩ = some (.string a0_0) := (blk_cell BK441.out 0).trans rfl
          have hcz19_1 : wr.cell? ⟨gb441, 1, none⟩ = some (.slice A0_1 l0_1.length c0_1) := (blk_cell BK441.out 1).trans rfl
          have hfz19_0 := blk_frozen BK441.out 0
          have hfz19_1 := blk_frozen BK441.out 1
          have p443 : 0 ≤ (x5_2 : Int) := of_decide_eq_true (by first | (with_reducible assumption) | assumption)
          have q443 : x5_2 < (l0_1.length : Int) := of_decide_eq_true (by first | (with_reducible assumption) | assumption)
          obtain ⟨ad443, e443, hx443_0, hx443_1, hx443_2⟩ := at_T24 HR0_1.out x5_2 p443 q443
          cases e443
          replace hx443_0 := (HB.out.cell (World.block_lt_of_cell? w _ hx443_0)).trans hx443_0
          replace hx443_1 := (HB.out.cell (World.block_lt_of_cell? w _ hx443_1)).trans hx443_1
          replace hx443_2 := (HB.out.cell (World.block_lt_of_cell? w _ hx443_2)).trans hx443_2
          replace p443 := eq_true p443
          replace q443 := eq_true q443
          have hcz20_0 : wr.cell? ⟨gb442, 0, none⟩ = some (.string a1_0) := (blk_cell BK442.out 0).trans rfl
          have hcz20_1 : wr.cell? ⟨gb442, 1, none⟩ = some (.slice A1_1 l1_1.length c1_1) := (blk_cell BK442.out 1).trans rfl
          have hfz20_0 := blk_frozen BK442.out 0
          have hfz20_1 := blk_frozen BK442.out 1
          have p444 : 0 ≤ (x5_2 : Int) := of_decide_eq_true (by first | (with_reducible assumption) | assumption)
          have q444 : x5_2 < (l1_1.length : Int) := of_decide_eq_true (by first | (with_reducible assumption) | assumption)
          obtain ⟨ad444, e444, hx444_0, hx444_1, hx444_2⟩ := at_T24 HR1_1.out x5_2 p444 q444
          cases e444
          replace hx444_0 := (HB.out.cell (World.block_lt_of_cell? w _ hx444_0)).trans hx444_0
          replace hx444_1 := (HB.out.cell (World.block_lt_of_cell? w _ hx444_1)).trans hx444_1
          replace hx444_2 := (HB.out.cell (World.block_lt_of_cell? w _ hx444_2)).trans hx444_2
          replace p444 := eq_true p444
          replace q444 := eq_true q444
          go_wp2
          repeat (go_quiet (fail); try go_wp2)
          go_ret
          exact ⟨eW, (bB2 GE441.out GE442.out)⟩
         ·rw [if_neg c17] at H
          have c17b0 : qc17 = false := hqc17.symm.trans (Bool.eq_false_iff.mpr c17)
          clear c17
          have H' := Aside0.mk H
          clear H
          have hnb21 := NB441_442.out
          have hnc21 := NB442_441.out
          have hcz22_0 : wr.cell? ⟨gb441, 0, none⟩ = some (.string a0_0) := (blk_cell BK441.out 0).trans rfl
          have hcz22_1 : wr.cell? ⟨gb441, 1, none⟩ = some (.slice A0_1 l0_1.length c0_1) := (blk_cell BK441.out 1).trans rfl
          have hfz22_0 := blk_frozen BK441.out 0
          have hfz22_1 := blk_frozen BK441.out 1
          have p443 : 0 ≤ (x5_2 : Int) := of_decide_eq_true (by first | (with_reducible assumption) | assumption)
          have q443 : x5_2 < (l0_1.length : Int) := of_decide_eq_true (by first | (with_reducible assumption) | assumption)
          obtain ⟨ad443, e443, hx443_0, hx443_1, hx443_2⟩ := at_T24 HR0_1.out x5_2 p443 q443
          cases e443
          replace hx443_0 := (HB.out.cell (World.block_lt_of_cell? w _ hx443_0)).trans hx443_0
          replace hx443_1 := (HB.out.cell (World.block_lt_of_cell? w _ hx443_1)).trans hx443_1
          replace hx443_2 := (HB.out.cell (World.block_lt_of_cell? w _ hx443_2)).trans hx443_2
          replace p443 := eq_true p443
          replace q443 := eq_true q443
          have hcz23_0 : wr.cell? ⟨gb442, 0, none⟩ = some (.string a1_0) := (blk_cell BK442.out 0).trans rfl
          have hcz23_1 : wr.cell? ⟨gb442, 1, none⟩ = some (.slice A1_1 l1_1.length c1_1) := (blk_cell BK442.out 1).trans rfl
          have hfz23_0 := blk_frozen BK442.out 0
          have hfz23_1 := blk_frozen BK442.out 1
          have p444 : 0 ≤ (x5_2 : Int) := of_decide_eq_true (by first | (with_reducible assumption) | assumption)
          have q444 : x5_2 < (l1_1.length : Int) := of_decide_eq_true (by first | (with_reducible assumption) | assumption)
          obtain ⟨ad444, e444, hx444_0, hx444_1, hx444_2⟩ := at_T24 HR1_1.out x5_2 p444 q444
          cases e444
          replace hx444_0 := (HB.out.cell (World.block_lt_of_cell? w _ hx444_0)).trans hx444_0
          replace hx444_1 := (HB.out.cell (World.block_lt_of_cell? w _ hx444_1)).trans hx444_1
          replace hx444_2 := (HB.out.cell (World.block_lt_of_cell? w _ hx444_2)).trans hx444_2
          replace p444 := eq_true p444
          replace q444 := eq_true q444
          go_wp2
          repeat (go_quiet (fail); try go_wp2)
          go_roundg k2
          case measure => have := HJ2.out; have := HK2.out; omega
          case rel => exact ⟨(wrap64 (x5_2 + 1)), (by first | rfl | (simp; done) | (simp [*]; done)), H', ⟨by have := HJ2.out; have := HK2.out; omega⟩, ⟨by refine bk ?_; exact BK441.out⟩, ⟨by refine bk ?_; exact BK442.out⟩, ⟨(bB2 GE441.out GE442.out)⟩⟩
        ·rw [if_neg c16] at H
         exact absurd H (by simp)
       ·rw [if_neg c15] at H
        exact absurd H (by simp)
      ·rw [if_neg c14] at H
       have c14b0 : decide (x5_2 < (l0_1.length : Int)) = false := decide_eq_false c14
       clear c14
       obtain rfl := Option.some.inj H
       have hnb24 := NB441_442.out
       have hnc24 := NB442_441.out
       have hcz25_0 : wr.cell? ⟨gb441, 0, none⟩ = some (.string a0_0) := (blk_cell BK441.out 0).trans rfl
       have hcz25_1 : wr.cell? ⟨gb441, 1, none⟩ = some (.slice A0_1 l0_1.length c0_1) := (blk_cell BK441.out 1).trans rfl
       have hfz25_0 := blk_frozen BK441.out 0
       have hfz25_1 := blk_frozen BK441.out 1
       go_wp2
       repeat (go_quiet (fail); try go_wp2)
       go_ret
       exact ⟨eW, (bB2 GE441.out GE442.out)⟩

end Go.Proofs.Ytghommaokdhjmaa.P
/- Layer 6 (atoms and facts): what the printed functions answer, as plain functions; what a match has; texts no longer than a million bytes. -/
set_option linter.unusedVariables false
set_option linter.unusedSimpArgs false
namespace Go.Proofs.Ytghommaokdhjmaa.SpecM
open Go.Shelf Go.RowKit Go.Lib Go.Sort Go.Proofs.SymP Go.Proofs.YtghommaokdhjmaaW.PrintWords Go.Proofs.YtghommaokdhjmaaW.PrintLast Go.Proofs.Ytghommaokdhjmaa.Gate Go.Proofs.Ytghommaokdhjmaa.P Go.Proofs.Ytghommaokdhjmaa.Str Go.Proofs.Ytghommaokdhjmaa.PSpec Go.Proofs.Ytghommaokdhjmaa.BothB Go.Proofs.Ytghommaokdhjmaa.FactC
open Go.Proofs.Ytghommaokdhjmaa.SpecB hiding tl_iff
theorem ff {α : Type} {a b : α} : (if false = true then a else b) = b := rfl
theorem sameV (x y : S24) : (!(x.f0 == y.f0) || (!(x.f1 == y.f1) || (!(x.f2.toList == y.f2.toList)))) = true ↔ x ≠ y := by
  obtain ⟨x0, x1, x2⟩ := x
  obtain ⟨y0, y1, y2⟩ := y
  rw [← Bool.not_and, ← Bool.not_and, Bool.not_eq_true', Bool.eq_false_iff]
  simp only [ne_eq, Bool.and_eq_true, beq_iff_eq, tl_iff, S24.mk.injEq]
theorem sameV_t {x y : S24} (h : x = y) : (!(x.f0 == y.f0) || (!(x.f1 == y.f1) || (!(x.f2.toList == y.f2.toList)))) = false := by
  rw [Bool.eq_false_iff]; exact fun h2 => (sameV x y).1 h2 h
theorem sameV_f {x y : S24} (h : x ≠ y) : (!(x.f0 == y.f0) || (!(x.f1 == y.f1) || (!(x.f2.toList == y.f2.toList)))) = true := (sameV x y).2 h
instance : DecidableEq S24 := fun x y => decidable_of_iff (¬ (!(x.f0 == y.f0) || (!(x.f1 == y.f1) || (!(x.f2.toList == y.f2.toList)))) = true) (by rw [sameV]; exact Classical.not_not)
instance : DecidableEq S77 := fun x y => decidable_of_iff (x.f0 = y.f0 ∧ x.f1 = y.f1) (by obtain ⟨_, _⟩ := x; obtain ⟨_, _⟩ := y; simp)
theorem neV_iff (x y : S24) : neV x y = true ↔ x ≠ y := by
  unfold neV
  rw [← sameV, Bool.not_and, Bool.not_and]
/-- m is what the match of terms to values makes of l. -/
def Fit (l : List S39) (ts : List S77) (vs : List S24) (m : List S39) : Prop :=
  chkP l = 0 ∧ chkP m = 0 ∧ (∀ p ∈ ts.zip vs, con p.1 → p.1.f1 = p.2) ∧ ∀ x, x ∈ m ↔ x ∈ l ∨ ∃ p ∈ ts.zip vs, ¬ con p.1 ∧ x = bnd p.1 p.2
theorem fit_only {l m m' : List S39} {ts : List S77} {vs : List S24} (h : Fit l ts vs m) (h' : Fit l ts vs m') : m = m' :=
  rises_only ((right_iff m).1 h.2.1).2.2 ((right_iff m').1 h'.2.1).2.2 fun x => by rw [h.2.2.2, h'.2.2.2]
theorem one_cases : ∀ (ts : List S77) (vs : List S24) (l : List S39), ts.length = vs.length → chkP l = 0 → (∃ m, oneL l ts vs = (m, true) ∧ Fit l ts vs m) ∨ (oneL l ts vs = ([], false) ∧ ∀ m, ¬ Fit l ts vs m)
  | [], vs, l, h, hl => .inl ⟨l, by rw [oneL], hl, hl, fun p hp => by simp at hp, fun x => by simp⟩
  | t :: ts, [], l, h, hl => by simp at h
  | t :: ts, v :: vs, l, h, hl => by
    have h2 : ts.length = vs.length := by simpa using h
    rw [oneL]
    by_cases hc : con t
    · rw [if_pos hc]
      by_cases hv : t.f1 = v
      · rw [if_neg (fun h => (neV_iff _ _).1 h hv)]
        rcases one_cases ts vs l h2 hl with ⟨m, e, hf⟩ | ⟨e, hf⟩
        · refine .inl ⟨m, e, hf.1, hf.2.1, fun p hp hpc => ?_, fun x => ?_⟩
          · rw [List.zip_cons_cons, List.mem_cons] at hp
            rcases hp with rfl | hp
            · exact hv
            · exact hf.2.2.1 p hp hpc
          · rw [hf.2.2.2, List.zip_cons_cons]
            constructor
            · rintro (hx | ⟨p, hp, hx⟩)
              · exact .inl hx
              · exact .inr ⟨p, List.mem_cons_of_mem _ hp, hx⟩
            · rintro (hx | ⟨p, hp, hx⟩)
              · exact .inl hx
              · rcases List.mem_cons.1 hp with rfl | hp
                · exact absurd hc hx.1
                · exact .inr ⟨p, hp, hx⟩
        · refine .inr ⟨e, fun m hm => hf m ⟨hm.1, hm.2.1, fun p hp => hm.2.2.1 p (by rw [List.zip_cons_cons]; exact List.mem_cons_of_mem _ hp), fun x => ?_⟩⟩
          rw [hm.2.2.2, List.zip_cons_cons]
          constructor
          · rintro (hx | ⟨p, hp, hx⟩)
            · exact .inl hx
            · rcases List.mem_cons.1 hp with rfl | hp
              · exact absurd hc hx.1
              · exact .inr ⟨p, hp, hx⟩
          · rintro (hx | ⟨p, hp, hx⟩)
            · exact .inl hx
            · exact .inr ⟨p, List.mem_cons_of_mem _ hp, hx⟩
      · rw [if_pos ((neV_iff _ _).2 hv)]
        exact .inr ⟨rfl, fun m hm => hv (hm.2.2.1 (t, v) (by rw [List.zip_cons_cons]; exact List.mem_cons_self) hc)⟩
    · rw [if_neg hc]
      rcases put_cases l (bnd t v) with ⟨m1, e1, hw⟩ | ⟨e1, hw⟩
      · rw [e1, if_pos rfl]
        rcases one_cases ts vs m1 h2 hw.2.2.1 with ⟨m, e, hf⟩ | ⟨e, hf⟩
        · refine .inl ⟨m, e, hl, hf.2.1, fun p hp hpc => ?_, fun x => ?_⟩
          · rw [List.zip_cons_cons, List.mem_cons] at hp
            rcases hp with rfl | hp
            · exact absurd hpc hc
            · exact hf.2.2.1 p hp hpc
          · rw [hf.2.2.2, hw.2.2.2, List.zip_cons_cons]
            constructor
            · rintro ((hx | hx) | ⟨p, hp, hx⟩)
              · exact .inl hx
              · exact .inr ⟨(t, v), List.mem_cons_self, hc, hx⟩
              · exact .inr ⟨p, List.mem_cons_of_mem _ hp, hx⟩
            · rintro (hx | ⟨p, hp, hx⟩)
              · exact .inl (.inl hx)
              · rcases List.mem_cons.1 hp with rfl | hp
                · exact .inl (.inr hx.2)
                · exact .inr ⟨p, hp, hx⟩
        · refine .inr ⟨e, fun m hm => hf m ⟨hw.2.2.1, hm.2.1, fun p hp => hm.2.2.1 p (by rw [List.zip_cons_cons]; exact List.mem_cons_of_mem _ hp), fun x => ?_⟩⟩
          rw [hm.2.2.2, hw.2.2.2, List.zip_cons_cons]
          constructor
          · rintro (hx | ⟨p, hp, hx⟩)
            · exact .inl (.inl hx)
            · rcases List.mem_cons.1 hp with rfl | hp
              · exact .inl (.inr hx.2)
              · exact .inr ⟨p, hp, hx⟩
          · rintro ((hx | hx) | ⟨p, hp, hx⟩)
            · exact .inl hx
            · exact .inr ⟨(t, v), List.mem_cons_self, hc, hx⟩
            · exact .inr ⟨p, List.mem_cons_of_mem _ hp, hx⟩
      · rw [e1]
        refine .inr ⟨rfl, fun m hm => ?_⟩
        have hin : bnd t v ∈ m := (hm.2.2.2 _).2 (.inr ⟨(t, v), by rw [List.zip_cons_cons]; exact List.mem_cons_self, hc, rfl⟩)
        refine hw (m.filter fun x => decide (x ∈ l ∨ x = bnd t v)) ⟨hl, right_at hm.2.1 hin, right_filter hm.2.1 _, fun x => ?_⟩
        rw [List.mem_filter, decide_eq_true_eq]
        constructor
        · exact fun h => h.2
        · intro h
          refine ⟨?_, h⟩
          rcases h with h | rfl
          · exact (hm.2.2.2 x).2 (.inl h)
          · exact hin
theorem one_fit {l m : List S39} {ts : List S77} {vs : List S24} (hn : ts.length = vs.length) (h : Fit l ts vs m) : oneL l ts vs = (m, true) := by
  rcases one_cases ts vs l hn h.1 with ⟨q, e, hq⟩ | ⟨_, hq⟩
  · rw [e, fit_only hq h]
  · exact absurd h (hq m)
theorem mat_two (a : ByteArray) (ts : List S77) : matP a ts = 0 ∨ matP a ts = 1 := by unfold matP; split <;> simp
theorem mat_zero {a : ByteArray} {ts : List S77} : matP a ts = 0 ↔ nameP a = true ∧ ts.length ≤ 5 ∧ ∀ t ∈ ts, termP t = true := by
  have e : ts.any wrongT = false ↔ ∀ t ∈ ts, termP t = true := by
    rw [List.any_eq_false]
    unfold wrongT
    simp only [Bool.not_eq_true', Bool.not_eq_false]
  unfold matP
  by_cases h : nameP a = true ∧ ts.length ≤ 5 ∧ ts.any wrongT = false
  · rw [if_pos h]; exact ⟨fun _ => ⟨h.1, h.2.1, e.1 h.2.2⟩, fun _ => rfl⟩
  · rw [if_neg h]; exact ⟨fun h => by simp at h, fun h2 => absurd ⟨h2.1, h2.2.1, e.2 h2.2.2⟩ h⟩
theorem fact_zero {a : ByteArray} {vs : List S24} : factP a vs = 0 ↔ nameP a = true ∧ vs.length ≤ 5 ∧ ∀ v ∈ vs, valP v.f0 v.f1 v.f2 = 0 := by
  have e : vs.any wrongV = false ↔ ∀ v ∈ vs, valP v.f0 v.f1 v.f2 = 0 := by
    rw [List.any_eq_false]
    unfold wrongV
    simp only [Bool.not_eq_true', Bool.not_eq_false, beq_iff_eq]
  unfold factP
  by_cases h : nameP a = true ∧ vs.length ≤ 5 ∧ vs.any wrongV = false
  · rw [if_pos h]; exact ⟨fun _ => ⟨h.1, h.2.1, e.1 h.2.2⟩, fun _ => rfl⟩
  · rw [if_neg h]; exact ⟨fun h => by simp at h, fun h2 => absurd ⟨h2.1, h2.2.1, e.2 h2.2.2⟩ h⟩
theorem ev_one {a : ByteArray} {ts : List S77} {b : ByteArray} {vs : List S24} {l : List S39} (ha : a.size ≤ 1000000) (ft : fitT ts = true) (hb : b.size ≤ 1000000) (fv : fitV vs = true) (fl : fitB l = true) :
    Ev (fun _ => match_One.f a ts b vs l) (oneP a ts b vs l) := ev_const (if_pos ⟨⟨ha, ft⟩, ⟨hb, fv⟩, fl⟩)
theorem oneP_cases (a : ByteArray) (ts : List S77) (b : ByteArray) (vs : List S24) (l : List S39) :
    (∃ m, oneP a ts b vs l = (m, true) ∧ matP a ts = 0 ∧ factP b vs = 0 ∧ a = b ∧ ts.length = vs.length ∧ Fit l ts vs m) ∨ (oneP a ts b vs l = ([], false) ∧ ∀ m, ¬ (matP a ts = 0 ∧ factP b vs = 0 ∧ a = b ∧ ts.length = vs.length ∧ Fit l ts vs m)) := by
  unfold oneP
  by_cases h : matP a ts = 0 ∧ factP b vs = 0 ∧ chkP l = 0 ∧ a = b ∧ ts.length = vs.length
  · rw [if_pos h]
    rcases one_cases ts vs l h.2.2.2.2 h.2.2.1 with ⟨m, e, hf⟩ | ⟨e, hf⟩
    · exact .inl ⟨m, e, h.1, h.2.1, h.2.2.2.1, h.2.2.2.2, hf⟩
    · exact .inr ⟨e, fun m hm => hf m hm.2.2.2.2⟩
  · rw [if_neg h]
    exact .inr ⟨rfl, fun m hm => h ⟨hm.1, hm.2.1, hm.2.2.2.2.1, hm.2.2.1, hm.2.2.2.1⟩⟩
theorem oneP_fit {a : ByteArray} {ts : List S77} {b : ByteArray} {vs : List S24} {l m : List S39} (h1 : matP a ts = 0) (h2 : factP b vs = 0) (h3 : a = b) (h4 : ts.length = vs.length) (h5 : Fit l ts vs m) : oneP a ts b vs l = (m, true) := by
  unfold oneP
  rw [if_pos ⟨h1, h2, h5.1, h3, h4⟩]
  exact one_fit h4 h5
theorem fit_fit {l m : List S39} {ts : List S77} {vs : List S24} (h : Fit l ts vs m) (fl : fitB l = true) (ft : fitT ts = true) (fv : fitV vs = true) : fitB m = true := fit_mem.2 fun x hx => by
  rcases (h.2.2.2 x).1 hx with hx | ⟨p, hp, _, rfl⟩
  · exact fit_mem.1 fl x hx
  · exact ⟨(fitT_mem.1 ft _ (List.of_mem_zip hp).1).1, fitV_mem.1 fv _ (List.of_mem_zip hp).2⟩
/-! ### The ground -/
def grL (l : List S39) : List S77 → Option (List S24)
  | [] => some []
  | t :: ts => if con t then (grL l ts).map fun r => t.f1 :: r else if (getP l t.f0).2.2.2 = true then (grL l ts).map fun r => (⟨(getP l t.f0).1, (getP l t.f0).2.1, (getP l t.f0).2.2.1⟩ : S24) :: r else none
/-- match.Ground's answer. -/
def groundP (a : ByteArray) (ts : List S77) (l : List S39) : ByteArray × List S24 × Int :=
  if matP a ts = 0 then (if chkP l = 0 then (match grL l ts with | some r => (a, r, 0) | none => ((⟨#[]⟩ : ByteArray), [], 5)) else ((⟨#[]⟩ : ByteArray), [], chkP l)) else ((⟨#[]⟩ : ByteArray), [], matP a ts)
theorem ground_loop (l : List S39) (ts : List S77) (nm : ByteArray) (hll : l.length ≤ 1000000) (hl : ts.length ≤ 1000000) : ∀ (m i : Nat), i + m = ts.length → ∀ acc : List S24, acc.length ≤ i →
    Ev (fun k => match_Ground.l0 k l ts (ts.length : Int) i nm acc) (match grL l (ts.drop i) with | some r => (nm, acc ++ r, 0) | none => ((⟨#[]⟩ : ByteArray), [], 5)) := by
  intro m
  induction m with
  | zero =>
    intro i h acc _
    refine Ev.step (fun k => by rw [match_Ground.l0, if_neg (by omega)]) ?_
    rw [List.drop_eq_nil_of_le (by omega), grL]
    simp only [List.append_nil]
    exact Ev.now _
  | succ m ih =>
    intro i h acc ha
    have hi : i < ts.length := by omega
    refine Ev.step (fun k => by rw [match_Ground.l0, if_pos (by omega), if_pos (by omega), if_pos (by omega), rdT_get hi, w64 hl hi]) ?_
    rw [List.drop_eq_getElem_cons hi, grL]
    by_cases hc : con ts[i]
    · simp only [if_pos hc, if_pos (show ts[i].f0.toList = [] from hc), if_pos (show acc.length < 4398046511104 by omega)]
      have := ih (i + 1) (by omega) (acc ++ [ts[i].f1]) (by simp; omega)
      cases hg : grL l (ts.drop (i + 1)) with
      | none => rw [hg] at this; exact this
      | some r => rw [hg] at this; simp only [List.append_assoc, List.singleton_append] at this; exact this
    · simp only [if_neg hc, if_neg (show ¬ ts[i].f0.toList = [] from hc)]
      refine Ev.bind (ev_get hll ts[i].f0) ?_
      by_cases hg2 : (getP l ts[i].f0).2.2.2 = true
      · simp only [if_pos hg2, if_pos (show acc.length < 4398046511104 by omega)]
        have := ih (i + 1) (by omega) (acc ++ [(⟨(getP l ts[i].f0).1, (getP l ts[i].f0).2.1, (getP l ts[i].f0).2.2.1⟩ : S24)]) (by simp; omega)
        cases hg : grL l (ts.drop (i + 1)) with
        | none => rw [hg] at this; exact this
        | some r => rw [hg] at this; simp only [List.append_assoc, List.singleton_append] at this; exact this
      · simp only [if_neg hg2]
        exact Ev.now _
theorem ev_ground {a : ByteArray} {ts : List S77} {l : List S39} (ha : a.size ≤ 1000000) (ft : fitT ts = true) (fl : fitB l = true) : Ev (fun k => match_Ground.f k a ts l) (groundP a ts l) := by
  unfold match_Ground.f groundP match_Check.f
  simp only [if_pos (show a.size ≤ 1000000 ∧ fitT ts = true from ⟨ha, ft⟩), Option.bind_some]
  by_cases h1 : matP a ts = 0
  · simp only [if_pos h1]
    refine Ev.bind (ev_check fl) ?_
    by_cases h2 : chkP l = 0
    · rw [if_pos h2]
      have hll := right_len h2
      have htl := (mat_zero.1 h1).2.1
      refine Ev.step (fun k => by rw [match_Ground.j0, if_pos h2]) ?_
      have := ground_loop l ts a (by omega) (by omega) ts.length 0 (by omega) [] (by simp)
      simp only [List.nil_append] at this
      exact this
    · rw [if_neg h2]
      exact Ev.step (fun k => by rw [match_Ground.j0, if_neg h2]) (Ev.now _)
  · simp only [if_neg h1]
    exact Ev.step (fun k => by rw [match_Ground.j0, if_neg h1]) (Ev.now _)
/-! ### The variables -/
def varsL : List ByteArray → List S77 → List ByteArray
  | acc, [] => acc
  | acc, t :: ts => if con t then varsL acc ts else if (acc.any fun x => decide (t.f0 = x)) = true then varsL acc ts else varsL (acc ++ [t.f0]) ts
theorem ev_contains {l : List ByteArray} (hl : l.length ≤ 1000000) (s : ByteArray) : Ev (fun k => slices_Contains_string_string.f k l s) (l.any fun x => decide (s = x)) := by
  unfold slices_Contains_string_string.f slices_Index_string_string.f
  obtain ⟨r, h1, h2⟩ := index_loop l s hl l.length 0 (by omega)
  rw [List.drop_zero] at h2
  rw [← h2]
  exact Ev.bind h1 (Ev.now _)
theorem vars_loop (ts : List S77) (hl : ts.length ≤ 1000000) : ∀ (m i : Nat), i + m = ts.length → ∀ acc : List ByteArray, acc.length ≤ i → Ev (fun k => match_Vars.l0 k acc ts (ts.length : Int) i) (varsL acc (ts.drop i)) := by
  intro m
  induction m with
  | zero =>
    intro i h acc _
    refine Ev.step (fun k => by rw [match_Vars.l0, if_neg (by omega)]) ?_
    rw [List.drop_eq_nil_of_le (by omega), varsL]
    exact Ev.now _
  | succ m ih =>
    intro i h acc ha
    have hi : i < ts.length := by omega
    refine Ev.step (fun k => by rw [match_Vars.l0, if_pos (by omega), if_pos (by omega), if_pos (by omega), rdT_get hi, w64 hl hi]) ?_
    rw [List.drop_eq_getElem_cons hi, varsL]
    by_cases hc : con ts[i]
    · simp only [if_pos hc, if_pos (show ts[i].f0.toList = [] from hc)]
      exact ih (i + 1) (by omega) acc (by omega)
    · simp only [if_neg hc, if_neg (show ¬ ts[i].f0.toList = [] from hc)]
      refine Ev.bind (ev_contains (by omega) ts[i].f0) ?_
      by_cases hx : (acc.any fun x => decide (ts[i].f0 = x)) = true
      · simp only [if_pos hx]
        exact ih (i + 1) (by omega) acc (by omega)
      · simp only [if_neg hx, if_pos (show acc.length < 8796093022208 by omega)]
        exact ih (i + 1) (by omega) (acc ++ [ts[i].f0]) (by simp; omega)
theorem ev_vars (a : ByteArray) {ts : List S77} (hl : ts.length ≤ 1000000) : Ev (fun k => match_Vars.f k a ts) (varsL [] ts) := by
  unfold match_Vars.f
  exact vars_loop ts hl ts.length 0 (by omega) [] (by simp)
/-! ### The statements' own: what is played, and two facts held against each other -/
theorem heavyA_loop (ts : List S77) (nm : ByteArray) (hl : ts.length ≤ 1000000) : ∀ (m i : Nat), i + m = ts.length → Ev (fun k => constablelaw06_Heavy.l0 k i nm ts) ((ts.drop i).any fun t => decide (200 < t.f0.size) || decide (200 < t.f1.f2.size)) := by
  intro m
  induction m with
  | zero =>
    intro i h
    refine Ev.step (fun k => by rw [constablelaw06_Heavy.l0, if_neg (by omega)]) ?_
    rw [List.drop_eq_nil_of_le (by omega)]
    exact Ev.now _
  | succ m ih =>
    intro i h
    have hi : i < ts.length := by omega
    refine Ev.step (fun k => by rw [constablelaw06_Heavy.l0, if_pos (by omega), if_pos (by omega), rdT_get hi, w64 hl hi]) ?_
    rw [List.drop_eq_getElem_cons hi, List.any_cons]
    by_cases h1 : 200 < ts[i].f0.size
    · simp only [if_pos (show (ts[i].f0.size : Int) > 200 by omega), decide_eq_true h1, Bool.true_or]; exact Ev.now _
    · by_cases h2 : 200 < ts[i].f1.f2.size
      · simp only [if_neg (show ¬ (ts[i].f0.size : Int) > 200 by omega), if_pos (show (ts[i].f1.f2.size : Int) > 200 by omega), decide_eq_true h2, Bool.true_or, Bool.or_true]; exact Ev.now _
      · simp only [if_neg (show ¬ (ts[i].f0.size : Int) > 200 by omega), if_neg (show ¬ (ts[i].f1.f2.size : Int) > 200 by omega), decide_eq_false h1, decide_eq_false h2, Bool.false_or]; exact ih (i + 1) (by omega)
theorem ev_heavyA (a : ByteArray) (ts : List S77) : ∃ b, Ev (fun k => constablelaw06_Heavy.f k a ts) b ∧ (b = false → a.size ≤ 200 ∧ ts.length ≤ 20 ∧ ∀ t ∈ ts, t.f0.size ≤ 200 ∧ t.f1.f2.size ≤ 200) := by
  have jt : Ev (fun k => constablelaw06_Heavy.j0 k true a ts) true := Ev.step (fun k => by rw [constablelaw06_Heavy.j0, if_pos rfl]) (Ev.now _)
  unfold constablelaw06_Heavy.f
  by_cases h1 : (a.size : Int) > 200
  · exact ⟨true, by simp only [if_pos h1]; exact jt, fun h => by cases h⟩
  · simp only [if_neg h1]
    by_cases h2 : (ts.length : Int) > 20
    · exact ⟨true, by rw [decide_eq_true h2]; exact jt, fun h => by cases h⟩
    · refine ⟨ts.any fun t => decide (200 < t.f0.size) || decide (200 < t.f1.f2.size), ?_, fun h => ⟨by omega, by omega, fun t ht => ?_⟩⟩
      · rw [decide_eq_false h2]
        refine Ev.step (fun k => by rw [constablelaw06_Heavy.j0, if_neg (by decide)]) ?_
        exact heavyA_loop ts a (by omega) ts.length 0 (by omega)
      · have h3 := List.any_eq_false.1 h t ht
        simp only [Bool.or_eq_true, decide_eq_true_eq, not_or] at h3
        omega
theorem heavyF_loop (vs : List S24) (nm : ByteArray) (hl : vs.length ≤ 1000000) : ∀ (m i : Nat), i + m = vs.length → Ev (fun k => constablelaw03_Heavy.l0 k i nm vs) ((vs.drop i).any fun v => decide (200 < v.f2.size)) := by
  intro m
  induction m with
  | zero =>
    intro i h
    refine Ev.step (fun k => by rw [constablelaw03_Heavy.l0, if_neg (by omega)]) ?_
    rw [List.drop_eq_nil_of_le (by omega)]
    exact Ev.now _
  | succ m ih =>
    intro i h
    have hi : i < vs.length := by omega
    refine Ev.step (fun k => by rw [constablelaw03_Heavy.l0, if_pos (by omega), if_pos (by omega), rdV_get hi, w64 hl hi]) ?_
    rw [List.drop_eq_getElem_cons hi, List.any_cons]
    by_cases h1 : 200 < vs[i].f2.size
    · simp only [if_pos (show (vs[i].f2.size : Int) > 200 by omega), decide_eq_true h1, Bool.true_or]; exact Ev.now _
    · simp only [if_neg (show ¬ (vs[i].f2.size : Int) > 200 by omega), decide_eq_false h1, Bool.false_or]; exact ih (i + 1) (by omega)
theorem ev_heavyF (a : ByteArray) (vs : List S24) : ∃ b, Ev (fun k => constablelaw03_Heavy.f k a vs) b ∧ (b = false → a.size ≤ 200 ∧ vs.length ≤ 20 ∧ ∀ v ∈ vs, v.f2.size ≤ 200) := by
  have jt : Ev (fun k => constablelaw03_Heavy.j0 k true a vs) true := Ev.step (fun k => by rw [constablelaw03_Heavy.j0, if_pos rfl]) (Ev.now _)
  unfold constablelaw03_Heavy.f
  by_cases h1 : (a.size : Int) > 200
  · exact ⟨true, by simp only [if_pos h1]; exact jt, fun h => by cases h⟩
  · simp only [if_neg h1]
    by_cases h2 : (vs.length : Int) > 20
    · exact ⟨true, by rw [decide_eq_true h2]; exact jt, fun h => by cases h⟩
    · refine ⟨vs.any fun v => decide (200 < v.f2.size), ?_, fun h => ⟨by omega, by omega, fun v hv => ?_⟩⟩
      · rw [decide_eq_false h2]
        refine Ev.step (fun k => by rw [constablelaw03_Heavy.j0, if_neg (by decide)]) ?_
        exact heavyF_loop vs a (by omega) vs.length 0 (by omega)
      · have h3 := List.any_eq_false.1 h v hv
        simp only [decide_eq_true_eq] at h3
        omega
theorem kfact_loop (a b : ByteArray) (vs ws : List S24) (hl : vs.length ≤ 1000000) (he : vs.length = ws.length) : ∀ (m i : Nat), i + m = vs.length → Ev (fun k => constablekeep_Fact.l0 k i a vs b ws) (decide (vs.drop i = ws.drop i)) := by
  intro m
  induction m with
  | zero =>
    intro i h
    refine Ev.step (fun k => by rw [constablekeep_Fact.l0, if_neg (by omega)]) ?_
    rw [List.drop_eq_nil_of_le (by omega), List.drop_eq_nil_of_le (by omega)]
    exact Ev.now _
  | succ m ih =>
    intro i h
    have hi : i < vs.length := by omega
    have hj : i < ws.length := by omega
    refine Ev.step (fun k => by rw [constablekeep_Fact.l0, if_pos (by omega), if_pos (by omega), if_pos (by omega), rdV_get hi, rdV_get hj, w64 hl hi]) ?_
    rw [List.drop_eq_getElem_cons hi, List.drop_eq_getElem_cons hj]
    by_cases e : vs[i] = ws[i]
    · simp only [sameV_t e, Bool.false_eq_true, if_false]
      simp only [e, List.cons.injEq, true_and]; exact ih (i + 1) (by omega)
    · simp only [sameV_f e, if_true]
      simp only [e, List.cons.injEq, false_and, decide_false]; exact Ev.now _
theorem ev_kfact (a : ByteArray) {vs : List S24} (hl : vs.length ≤ 1000000) (b : ByteArray) (ws : List S24) : Ev (fun k => constablekeep_Fact.f k a vs b ws) (decide (a = b ∧ vs = ws)) := by
  have jt : Ev (fun k => constablekeep_Fact.j0 k true a vs b ws) false := Ev.step (fun k => by rw [constablekeep_Fact.j0, if_pos rfl]) (Ev.now _)
  unfold constablekeep_Fact.f
  by_cases h : a = b
  · simp only [if_pos ((tl_iff a b).2 h)]
    by_cases h2 : vs.length = ws.length
    · rw [show ((vs.length : Int) != (ws.length : Int)) = false by rw [h2]; exact bne_self_eq_false _]
      refine Ev.step (fun k => by rw [constablekeep_Fact.j0, if_neg (by decide)]) ?_
      have := kfact_loop a b vs ws hl h2 vs.length 0 (by omega)
      rw [List.drop_zero, List.drop_zero] at this
      rw [show decide (a = b ∧ vs = ws) = decide (vs = ws) from decide_eq_decide.2 ⟨fun h => h.2, fun h3 => ⟨h, h3⟩⟩]
      exact this
    · rw [show ((vs.length : Int) != (ws.length : Int)) = true from bne_iff_ne.2 (by omega), decide_eq_false (fun h3 => h2 (by rw [h3.2]))]
      exact jt
  · simp only [if_neg (fun h2 => h ((tl_iff a b).1 h2))]
    rw [decide_eq_false (fun h3 => h h3.1)]
    exact jt
end Go.Proofs.Ytghommaokdhjmaa.SpecM
/- Layer 6: what a match gives back, its ground, its variables; the statements' own call; no condition. -/
set_option linter.unusedVariables false
set_option linter.unusedSimpArgs false
namespace Go.Proofs.Ytghommaokdhjmaa.SpecM
open Go.Shelf Go.RowKit Go.Lib Go.Sort Go.Proofs.SymP Go.Proofs.YtghommaokdhjmaaW.PrintWords Go.Proofs.YtghommaokdhjmaaW.PrintLast Go.Proofs.Ytghommaokdhjmaa.Gate Go.Proofs.Ytghommaokdhjmaa.P Go.Proofs.Ytghommaokdhjmaa.Str Go.Proofs.Ytghommaokdhjmaa.PSpec Go.Proofs.Ytghommaokdhjmaa.BothB Go.Proofs.Ytghommaokdhjmaa.FactC
open Go.Proofs.Ytghommaokdhjmaa.SpecB hiding tl_iff
theorem con_size (t : S77) : con t ↔ t.f0.size = 0 := by
  unfold con
  rw [ByteArray.toList_eq]
  constructor
  · intro h; have := congrArg List.length h; simpa using this
  · intro h; exact List.length_eq_zero_iff.1 (by simpa using h)
theorem varP_size {s : ByteArray} (h : varP s = true) : 1 ≤ s.size := by
  unfold varP at h
  simp only [Bool.and_eq_true, decide_eq_true_eq] at h
  exact h.1.1.1.1
theorem term_var {s : ByteArray} (h : varP s = true) : termP ⟨s, ⟨0, 0, ⟨#[]⟩⟩⟩ = true := by
  have hc : ¬ con ⟨s, ⟨0, 0, ⟨#[]⟩⟩⟩ := fun hc => by
    have h3 : s.size = 0 := (con_size _).1 hc
    have h2 := varP_size h
    omega
  unfold termP
  rw [if_neg (show ¬ s.toList = [] from hc)]
  show (varP s && _) = true
  rw [h, ne_toList]; rfl
theorem term_con {v : S24} (h : valP v.f0 v.f1 v.f2 = 0) : termP ⟨⟨#[]⟩, v⟩ = true := by
  unfold termP
  rw [if_pos (show (⟨#[]⟩ : ByteArray).toList = [] from ne_toList), h]; rfl
theorem gr_fit {m : List S39} (hm : chkP m = 0) : ∀ (ts : List S77) (vs : List S24), ts.length = vs.length → (∀ p ∈ ts.zip vs, con p.1 → p.1.f1 = p.2) → (∀ p ∈ ts.zip vs, ¬ con p.1 → bnd p.1 p.2 ∈ m) → grL m ts = some vs
  | [], [], _, _, _ => rfl
  | [], v :: vs, h, _, _ => by simp at h
  | t :: ts, [], h, _, _ => by simp at h
  | t :: ts, v :: vs, h, h1, h2 => by
    have ih := gr_fit hm ts vs (by simpa using h) (fun p hp => h1 p (by rw [List.zip_cons_cons]; exact List.mem_cons_of_mem _ hp)) (fun p hp => h2 p (by rw [List.zip_cons_cons]; exact List.mem_cons_of_mem _ hp))
    rw [grL, ih]
    by_cases hc : con t
    · rw [if_pos hc, h1 (t, v) (by rw [List.zip_cons_cons]; exact List.mem_cons_self) hc]; rfl
    · have hg := getP_of hm (h2 (t, v) (by rw [List.zip_cons_cons]; exact List.mem_cons_self) hc)
      rw [if_neg hc, show getP m t.f0 = (v.f0, v.f1, v.f2, true) from hg]; rfl
theorem fit_again {l m : List S39} {ts : List S77} {vs : List S24} (h : Fit l ts vs m) : Fit m ts vs m :=
  ⟨h.2.1, h.2.1, h.2.2.1, fun x => ⟨.inl, fun hx => hx.elim id fun ⟨p, hp, hx⟩ => (h.2.2.2 x).2 (.inr ⟨p, hp, hx⟩)⟩⟩
theorem fit_same {l m q : List S39} : ∀ {ts : List S77} {vs ws : List S24}, ts.length = vs.length → ts.length = ws.length → Fit l ts vs m → Fit m ts ws q → vs = ws := by
  intro ts vs ws h1 h2 hf hg
  refine List.ext_getElem (by omega) fun i hi hj => ?_
  have ht : i < ts.length := by omega
  have hp : (ts[i], vs[i]) ∈ ts.zip vs := List.mem_iff_getElem.2 ⟨i, by simp; omega, by simp⟩
  have hp2 : (ts[i], ws[i]) ∈ ts.zip ws := List.mem_iff_getElem.2 ⟨i, by simp; omega, by simp⟩
  by_cases hc : con ts[i]
  · have a1 : ts[i].f1 = vs[i] := hf.2.2.1 _ hp hc
    have a2 : ts[i].f1 = ws[i] := hg.2.2.1 _ hp2 hc
    rw [← a1, ← a2]
  · have a : bnd ts[i] vs[i] ∈ q := (hg.2.2.2 _).2 (.inl ((hf.2.2.2 _).2 (.inr ⟨_, hp, hc, rfl⟩)))
    have b : bnd ts[i] ws[i] ∈ q := (hg.2.2.2 _).2 (.inr ⟨_, hp2, hc, rfl⟩)
    have := rises_inj ((right_iff q).1 hg.2.1).2.2 a b rfl
    injection this
theorem vars_mem : ∀ (ts : List S77) (acc : List ByteArray) (x : ByteArray), x ∈ varsL acc ts ↔ x ∈ acc ∨ ∃ t ∈ ts, ¬ con t ∧ x = t.f0
  | [], acc, x => by rw [varsL]; simp
  | t :: ts, acc, x => by
    rw [varsL]
    by_cases hc : con t
    · rw [if_pos hc, vars_mem ts acc x]
      constructor
      · rintro (h | ⟨u, hu, h⟩)
        · exact .inl h
        · exact .inr ⟨u, List.mem_cons_of_mem _ hu, h⟩
      · rintro (h | ⟨u, hu, h⟩)
        · exact .inl h
        · rcases List.mem_cons.1 hu with rfl | hu
          · exact absurd hc h.1
          · exact .inr ⟨u, hu, h⟩
    · rw [if_neg hc]
      by_cases ha : (acc.any fun x => decide (t.f0 = x)) = true
      · rw [if_pos ha, vars_mem ts acc x]
        obtain ⟨y, hy, he⟩ := List.any_eq_true.1 ha
        have he := of_decide_eq_true he
        constructor
        · rintro (h | ⟨u, hu, h⟩)
          · exact .inl h
          · exact .inr ⟨u, List.mem_cons_of_mem _ hu, h⟩
        · rintro (h | ⟨u, hu, h⟩)
          · exact .inl h
          · rcases List.mem_cons.1 hu with rfl | hu
            · exact .inl (by rw [h.2, he]; exact hy)
            · exact .inr ⟨u, hu, h⟩
      · rw [if_neg ha, vars_mem ts _ x, List.mem_append, List.mem_singleton, or_assoc]
        constructor
        · rintro (h | h | ⟨u, hu, h⟩)
          · exact .inl h
          · exact .inr ⟨t, List.mem_cons_self, hc, h⟩
          · exact .inr ⟨u, List.mem_cons_of_mem _ hu, h⟩
        · rintro (h | ⟨u, hu, h⟩)
          · exact .inl h
          · rcases List.mem_cons.1 hu with rfl | hu
            · exact .inr (.inl h.2)
            · exact .inr (.inr ⟨u, hu, h⟩)
theorem vars_nodup : ∀ (ts : List S77) (acc : List ByteArray), acc.Nodup → (varsL acc ts).Nodup
  | [], acc, h => by rw [varsL]; exact h
  | t :: ts, acc, h => by
    rw [varsL]
    by_cases hc : con t
    · rw [if_pos hc]; exact vars_nodup ts acc h
    · rw [if_neg hc]
      by_cases ha : (acc.any fun x => decide (t.f0 = x)) = true
      · rw [if_pos ha]; exact vars_nodup ts acc h
      · rw [if_neg ha]
        refine vars_nodup ts _ (List.nodup_append.2 ⟨h, List.nodup_cons.2 ⟨by simp, List.nodup_nil⟩, fun x hx y hy e => ha (List.any_eq_true.2 ⟨x, hx, ?_⟩)⟩)
        rw [List.mem_singleton.1 hy] at e
        exact decide_eq_true e.symm
theorem vars_at {ts : List S77} {vs : List S24} (hn : ts.length = vs.length) {t : S77} (ht : t ∈ ts) : ∃ v, (t, v) ∈ ts.zip vs := by
  obtain ⟨i, hi, rfl⟩ := List.mem_iff_getElem.1 ht
  exact ⟨vs[i], List.mem_iff_getElem.2 ⟨i, by simp; omega, by simp⟩⟩
/-- What is matched from nothing has just the atom's variables. -/
theorem fit_names {ts : List S77} {vs : List S24} {m : List S39} (hn : ts.length = vs.length) (h : Fit [] ts vs m) (x : ByteArray) : x ∈ m.map (fun y => y.f0) ↔ x ∈ varsL [] ts := by
  rw [vars_mem, List.mem_map]
  constructor
  · rintro ⟨y, hy, rfl⟩
    rcases (h.2.2.2 y).1 hy with hy | ⟨p, hp, hc, rfl⟩
    · simp at hy
    · exact .inr ⟨p.1, (List.of_mem_zip hp).1, hc, rfl⟩
  · rintro (hx | ⟨t, ht, hc, rfl⟩)
    · simp at hx
    · obtain ⟨v, hv⟩ := vars_at hn ht
      exact ⟨bnd t v, (h.2.2.2 _).2 (.inr ⟨(t, v), hv, hc, rfl⟩), rfl⟩
theorem fit_len {ts : List S77} {vs : List S24} {m : List S39} (hn : ts.length = vs.length) (h : Fit [] ts vs m) : m.length = (varsL [] ts).length := by
  have hnd : (m.map fun y => y.f0).Nodup := by
    refine List.pairwise_map.2 (List.Pairwise.imp (fun {x y} hxy e => ?_) ((right_iff m).1 h.2.1).2.2)
    have := (cf_zero x y).2 e
    omega
  have hp := (List.perm_ext_iff_of_nodup hnd (vars_nodup ts [] List.nodup_nil)).2 (fit_names hn h)
  have := hp.length_eq
  rwa [List.length_map] at this
/-! ### The statements' own call -/
def tX : S77 := ⟨⟨#[88]⟩, ⟨0, 0, ⟨#[]⟩⟩⟩
def v1 : S24 := ⟨1, 1, ⟨#[]⟩⟩
def v2 : S24 := ⟨1, 2, ⟨#[]⟩⟩
def pN : ByteArray := ⟨#[112]⟩
theorem name_p : nameP pN = true := by decide +kernel
theorem mat_wake : matP pN [tX, tX] = 0 := mat_zero.2 ⟨name_p, by simp, fun t ht => by
  have : t = tX := by simpa using ht
  rw [this]; exact term_var (by decide +kernel)⟩
theorem fact_wake {v w : S24} (hv : valP v.f0 v.f1 v.f2 = 0) (hw : valP w.f0 w.f1 w.f2 = 0) : factP pN [v, w] = 0 := fact_zero.2 ⟨name_p, by simp, fun t ht => by
  rcases List.mem_cons.1 ht with rfl | ht
  · exact hv
  · rw [List.mem_singleton.1 ht]; exact hw⟩
theorem con_X : ¬ con tX := fun h => by have := (con_size _).1 h; exact absurd this (by decide)
theorem val_v1 : valP v1.f0 v1.f1 v1.f2 = 0 := valP_int (by decide) (by decide)
theorem val_v2 : valP v2.f0 v2.f1 v2.f2 = 0 := valP_int (by decide) (by decide)
theorem right_bX1 : rightP bX1 = true := by unfold rightP; rw [show varP bX1.f0 = true by decide +kernel, show valP bX1.f1.f0 bX1.f1.f1 bX1.f1.f2 = 0 from valP_int (by decide) (by decide)]; rfl
theorem fit_wake : Fit [] [tX, tX] [v1, v1] [bX1] := ⟨right_nil, right_one right_bX1, fun p hp hc => by
    have : p = (tX, v1) := by simpa using hp
    subst this
    exact absurd hc con_X, fun x => by
    constructor
    · intro h
      exact .inr ⟨(tX, v1), by simp, con_X, by rw [List.mem_singleton.1 h]; rfl⟩
    · rintro (h | ⟨p, hp, _, rfl⟩)
      · simp at h
      · have : p = (tX, v1) := by simpa using hp
        subst this
        exact List.mem_singleton.2 rfl⟩
theorem wake_no : oneP pN [tX, tX] pN [v1, v2] [] = ([], false) := by
  rcases oneP_cases pN [tX, tX] pN [v1, v2] [] with ⟨m, _, _, _, _, _, hf⟩ | ⟨h, _⟩
  · have a : bnd tX v1 ∈ m := (hf.2.2.2 _).2 (.inr ⟨(tX, v1), by simp, con_X, rfl⟩)
    have b : bnd tX v2 ∈ m := (hf.2.2.2 _).2 (.inr ⟨(tX, v2), by simp, con_X, rfl⟩)
    have := rises_inj ((right_iff m).1 hf.2.1).2.2 a b rfl
    exact absurd (congrArg (fun x : S39 => x.f1.f1) this) (by decide)
  · exact h
theorem ev_wakes6 : Ev (fun k => constablelaw06_wakes.f k) true := by
  have ft : fitT [tX, tX] = true := by decide
  have fv1 : fitV [v1, v1] = true := by decide
  have fv2 : fitV [v1, v2] = true := by decide
  have fb : fitB [bX1] = true := by decide
  have hp : pN.size ≤ 1000000 := by decide
  have e1 : Ev (fun _ => match_One.f pN [tX, tX] pN [v1, v1] []) ([bX1], true) := by
    rw [← oneP_fit mat_wake (fact_wake val_v1 val_v1) rfl rfl fit_wake]; exact ev_one hp ft hp fv1 fit_nil
  have e2 : Ev (fun _ => match_One.f pN [tX, tX] pN [v1, v2] []) ([], false) := by
    rw [← wake_no]; exact ev_one hp ft hp fv2 fit_nil
  have e3 : Ev (fun k => match_Ground.f k pN [tX, tX] [bX1]) (pN, [v1, v1], 0) := by
    have h := ev_ground hp ft fb
    unfold groundP at h
    rw [if_pos mat_wake, if_pos (right_one right_bX1), gr_fit (right_one right_bX1) [tX, tX] [v1, v1] rfl fit_wake.2.2.1 (fun p hp hc => (fit_wake.2.2.2 _).2 (.inr ⟨p, hp, hc, rfl⟩))] at h
    exact h
  have e4 : Ev (fun k => match_Ground.f k pN [tX, tX] []) (⟨#[]⟩, [], 5) := by
    have h := ev_ground hp ft fit_nil
    unfold groundP at h
    have hg : grL [] [tX, tX] = none := by
      rw [grL, if_neg con_X, getP, if_neg (by decide)]
    rw [if_pos mat_wake, if_pos right_nil, hg] at h
    exact h
  have e5 : Ev (fun k => match_Vars.f k pN [tX, tX]) [tX.f0] := by
    have h := ev_vars pN (ts := [tX, tX]) (by simp)
    have hv : varsL [] [tX, tX] = [tX.f0] := by
      rw [varsL, if_neg con_X, if_neg (by simp), List.nil_append, varsL, if_neg con_X, if_pos (by simp), varsL]
    rw [hv] at h; exact h
  have e6 : match_Check.f ⟨#[]⟩ [] = some 1 := by
    unfold match_Check.f
    rw [if_pos (by decide), show matP ⟨#[]⟩ [] = 1 from (mat_two _ _).resolve_left fun h => absurd (mat_zero.1 h).1 (by decide +kernel)]
  unfold constablelaw06_wakes.f
  simp only [Option.bind_some]
  refine Ev.bind e1 ?_
  refine Ev.bind e2 ?_
  refine Ev.bind e3 ?_
  refine Ev.bind e4 ?_
  simp only [if_true, Bool.false_eq_true, if_false, List.length_cons, List.length_nil, show rd_T24 [v1, v1] 1 = v1 from rfl, show v1.f0 = 1 from rfl, show v1.f1 = 1 from rfl, show v1.f2 = ⟨#[]⟩ from rfl, ne_toList]
  simp only [if_pos (show ((0 + 1 : Nat) : Int) = 1 by decide), if_pos (show ((0 + 1 + 1 : Nat) : Int) = 2 by decide), if_pos (show (1 : Int) < ((0 + 1 + 1 : Nat) : Int) by decide)]
  refine Ev.bind e5 ?_
  simp only [List.length_cons, List.length_nil, if_pos (show ((0 + 1 : Nat) : Int) = 1 by decide), e6, Option.bind_some]
  exact Ev.now _
end Go.Proofs.Ytghommaokdhjmaa.SpecM
