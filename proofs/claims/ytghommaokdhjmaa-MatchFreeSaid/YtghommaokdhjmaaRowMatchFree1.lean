/- A part of the proof: walks of the code and plain laws, printed and by hand; no condition. -/
import Derived.Test.YtghommaokdhjmaaSXM2
namespace Go.Proofs.Ytghommaokdhjmaa.P
open Go.RowKit Go.Proofs.YtghommaokdhjmaaW.PrintWords Go.Proofs.YtghommaokdhjmaaW.PrintLast Go.Proofs.Ytghommaokdhjmaa.Gate
set_option linter.unusedVariables false
set_option linter.unusedSimpArgs false

/-! ### constableref01_In: function 63 -/
def constableref01_In.f (a0 : Int) (a1 : Int) (a2 : Int) : Option (Bool) := if a0 ≥ a1 then (some (decide (a0 ≤ a2))) else (some false)
set_option maxHeartbeats 8000000 in
set_option maxRecDepth 100000 in
theorem constableref01_In.calls (a0 : Int) (a1 : Int) (a2 : Int) (r : Bool) (w : World) (h : constableref01_In.f a0 a1 a2 = some r) :
  Calls Try.prog 63 #[.int .i64 a0, .int .i64 a1, .int .i64 a2] w fun e w' => e = .returned (.bool r) ∧ Drawn0 w w' := by
 have H : (if a0 ≥ a1 then (some (decide (a0 ≤ a2))) else (some false)) = some r := h
 clear h
 by_cases c4 : a0 ≥ a1
 ·rw [if_pos c4] at H
  have c4b0 : decide (a1 ≤ a0) = true := decide_eq_true c4
  clear c4
  obtain rfl := Option.some.inj H
  go_enter Try.func63, Try.ntmps63
  go_wp2
  go_ret
  exact ⟨by first | rfl | (simp; done) | (simp [*]; done), by repeat (first | exact Drawn0.refl _ | apply Drawn0.step)⟩
 ·rw [if_neg c4] at H
  have c4b0 : decide (a1 ≤ a0) = false := decide_eq_false c4
  clear c4
  obtain rfl := Option.some.inj H
  go_enter Try.func63, Try.ntmps63
  go_wp2
  go_ret
  exact ⟨by first | rfl | (simp; done) | (simp [*]; done), by repeat (first | exact Drawn0.refl _ | apply Drawn0.step)⟩

end Go.Proofs.Ytghommaokdhjmaa.P
namespace Go.Proofs.Ytghommaokdhjmaa.P
open Go.RowKit Go.Proofs.YtghommaokdhjmaaW.PrintWords Go.Proofs.YtghommaokdhjmaaW.PrintLast Go.Proofs.Ytghommaokdhjmaa.Gate
set_option linter.unusedVariables false
set_option linter.unusedSimpArgs false

/-! ### constableref01_Upper: function 64 -/
def constableref01_Upper.f (a0 : Int) : Option (Bool) := if a0 ≥ 65 then (some (decide (a0 ≤ 90))) else (some false)
set_option maxHeartbeats 8000000 in
set_option maxRecDepth 100000 in
theorem constableref01_Upper.calls (a0 : Int) (r : Bool) (w : World) (h : constableref01_Upper.f a0 = some r) :
  Calls Try.prog 64 #[.int .u8 a0] w fun e w' => e = .returned (.bool r) ∧ Drawn0 w w' := by
 have H : (if a0 ≥ 65 then (some (decide (a0 ≤ 90))) else (some false)) = some r := h
 clear h
 by_cases c2 : a0 ≥ 65
 ·rw [if_pos c2] at H
  have c2b0 : decide (65 ≤ a0) = true := decide_eq_true c2
  clear c2
  obtain rfl := Option.some.inj H
  go_enter Try.func64, Try.ntmps64
  go_wp2
  go_ret
  exact ⟨by first | rfl | (simp; done) | (simp [*]; done), by repeat (first | exact Drawn0.refl _ | apply Drawn0.step)⟩
 ·rw [if_neg c2] at H
  have c2b0 : decide (65 ≤ a0) = false := decide_eq_false c2
  clear c2
  obtain rfl := Option.some.inj H
  go_enter Try.func64, Try.ntmps64
  go_wp2
  go_ret
  exact ⟨by first | rfl | (simp; done) | (simp [*]; done), by repeat (first | exact Drawn0.refl _ | apply Drawn0.step)⟩

end Go.Proofs.Ytghommaokdhjmaa.P
namespace Go.Proofs.Ytghommaokdhjmaa.P
open Go.RowKit Go.Proofs.YtghommaokdhjmaaW.PrintWords Go.Proofs.YtghommaokdhjmaaW.PrintLast Go.Proofs.Ytghommaokdhjmaa.Gate
set_option linter.unusedVariables false
set_option linter.unusedSimpArgs false

/-! ### constableref01_Lower: function 65 -/
def constableref01_Lower.f (a0 : Int) : Option (Bool) := if a0 ≥ 97 then (some (decide (a0 ≤ 122))) else (some false)
set_option maxHeartbeats 8000000 in
set_option maxRecDepth 100000 in
theorem constableref01_Lower.calls (a0 : Int) (r : Bool) (w : World) (h : constableref01_Lower.f a0 = some r) :
  Calls Try.prog 65 #[.int .u8 a0] w fun e w' => e = .returned (.bool r) ∧ Drawn0 w w' := by
 have H : (if a0 ≥ 97 then (some (decide (a0 ≤ 122))) else (some false)) = some r := h
 clear h
 by_cases c2 : a0 ≥ 97
 ·rw [if_pos c2] at H
  have c2b0 : decide (97 ≤ a0) = true := decide_eq_true c2
  clear c2
  obtain rfl := Option.some.inj H
  go_enter Try.func65, Try.ntmps65
  go_wp2
  go_ret
  exact ⟨by first | rfl | (simp; done) | (simp [*]; done), by repeat (first | exact Drawn0.refl _ | apply Drawn0.step)⟩
 ·rw [if_neg c2] at H
  have c2b0 : decide (97 ≤ a0) = false := decide_eq_false c2
  clear c2
  obtain rfl := Option.some.inj H
  go_enter Try.func65, Try.ntmps65
  go_wp2
  go_ret
  exact ⟨by first | rfl | (simp; done) | (simp [*]; done), by repeat (first | exact Drawn0.refl _ | apply Drawn0.step)⟩

end Go.Proofs.Ytghommaokdhjmaa.P
namespace Go.Proofs.Ytghommaokdhjmaa.P
open Go.RowKit Go.Proofs.YtghommaokdhjmaaW.PrintWords Go.Proofs.YtghommaokdhjmaaW.PrintLast Go.Proofs.Ytghommaokdhjmaa.Gate
set_option linter.unusedVariables false
set_option linter.unusedSimpArgs false

/-! ### constableref01_Digit: function 91 -/
def constableref01_Digit.f (a0 : Int) : Option (Bool) := if a0 ≥ 48 then (some (decide (a0 ≤ 57))) else (some false)
set_option maxHeartbeats 8000000 in
set_option maxRecDepth 100000 in
theorem constableref01_Digit.calls (a0 : Int) (r : Bool) (w : World) (h : constableref01_Digit.f a0 = some r) :
  Calls Try.prog 91 #[.int .u8 a0] w fun e w' => e = .returned (.bool r) ∧ Drawn0 w w' := by
 have H : (if a0 ≥ 48 then (some (decide (a0 ≤ 57))) else (some false)) = some r := h
 clear h
 by_cases c2 : a0 ≥ 48
 ·rw [if_pos c2] at H
  have c2b0 : decide (48 ≤ a0) = true := decide_eq_true c2
  clear c2
  obtain rfl := Option.some.inj H
  go_enter Try.func91, Try.ntmps91
  go_wp2
  go_ret
  exact ⟨by first | rfl | (simp; done) | (simp [*]; done), by repeat (first | exact Drawn0.refl _ | apply Drawn0.step)⟩
 ·rw [if_neg c2] at H
  have c2b0 : decide (48 ≤ a0) = false := decide_eq_false c2
  clear c2
  obtain rfl := Option.some.inj H
  go_enter Try.func91, Try.ntmps91
  go_wp2
  go_ret
  exact ⟨by first | rfl | (simp; done) | (simp [*]; done), by repeat (first | exact Drawn0.refl _ | apply Drawn0.step)⟩

end Go.Proofs.Ytghommaokdhjmaa.P
namespace Go.Proofs.Ytghommaokdhjmaa.P
open Go.RowKit Go.Proofs.YtghommaokdhjmaaW.PrintWords Go.Proofs.YtghommaokdhjmaaW.PrintLast Go.Proofs.Ytghommaokdhjmaa.Gate
set_option linter.unusedVariables false
set_option linter.unusedSimpArgs false

/-! ### constableref01_inner: function 66 -/
def constableref01_inner.f (a0 : Int) : Option (Bool) := (constableref01_Lower.f a0).bind fun t151 => (if t151 = true then (some true) else ((constableref01_Upper.f a0).bind fun t152 => (if t152 = true then (some true) else ((constableref01_Digit.f a0).bind fun t153 => (if t153 = true then (some true) else (some (a0 == 95)))))))
set_option maxHeartbeats 8000000 in
set_option maxRecDepth 100000 in
theorem constableref01_inner.calls (a0 : Int) (r : Bool) (w : World) (h : constableref01_inner.f a0 = some r) :
  Calls Try.prog 66 #[.int .u8 a0] w fun e w' => e = .returned (.bool r) ∧ Drawn0 w w' := by
 have H : ((constableref01_Lower.f a0).bind fun t151 => (if t151 = true then (some true) else ((constableref01_Upper.f a0).bind fun t152 => (if t152 = true then (some true) else ((constableref01_Digit.f a0).bind fun t153 => (if t153 = true then (some true) else (some (a0 == 95)))))))) = some r := h
 clear h
 replace H := Option.bind_eq_some_iff.mp H
 obtain ⟨t151, A20, H⟩ := H
 replace H : (if t151 = true then (some true) else ((constableref01_Upper.f a0).bind fun t152 => (if t152 = true then (some true) else ((constableref01_Digit.f a0).bind fun t153 => (if t153 = true then (some true) else (some (a0 == 95))))))) = some r := H
 have A2 := Aside0.mk A20
 clear A20
 by_cases c3 : t151 = true
 ·subst c3
  have H1 : (some true) = some r := by rw [if_pos rfl] at H; exact H
  clear H
  have H := H1
  clear H1
  obtain rfl := Option.some.inj H
  go_enter Try.func66, Try.ntmps66
  go_wp2_with (first | ((with_reducible refine gate_callee (f := 65) rfl ?_); refine goesL_ (some 4) rfl rfl Try.func65 (by kernel_rfl) rfl #[.int .u8 a0] rfl aG ?_; (with_reducible refine (constableref01_Lower.calls a0 true _ A2.out).mono ?_); rintro e w' ⟨rfl, ⟨nd, rfl⟩⟩; refine ⟨_, rfl, ?_⟩))
  go_ret
  exact ⟨by first | rfl | (simp; done) | (simp [*]; done), by repeat (first | exact Drawn0.refl _ | apply Drawn0.step)⟩
 ·replace c3 := Bool.eq_false_iff.mpr c3
  subst c3
  have H1 : ((constableref01_Upper.f a0).bind fun t152 => (if t152 = true then (some true) else ((constableref01_Digit.f a0).bind fun t153 => (if t153 = true then (some true) else (some (a0 == 95)))))) = some r := by rw [if_neg (show ¬ (false = true) by decide)] at H; exact H
  clear H
  have H := H1
  clear H1
  replace H := Option.bind_eq_some_iff.mp H
  obtain ⟨t152, A40, H⟩ := H
  replace H : (if t152 = true then (some true) else ((constableref01_Digit.f a0).bind fun t153 => (if t153 = true then (some true) else (some (a0 == 95))))) = some r := H
  have A4 := Aside0.mk A40
  clear A40
  by_cases c5 : t152 = true
  ·subst c5
   have H1 : (some true) = some r := by rw [if_pos rfl] at H; exact H
   clear H
   have H := H1
   clear H1
   obtain rfl := Option.some.inj H
   go_enter Try.func66, Try.ntmps66
   go_wp2_with (first | ((with_reducible refine gate_callee (f := 65) rfl ?_); refine goesL_ (some 4) rfl rfl Try.func65 (by kernel_rfl) rfl #[.int .u8 a0] rfl aG ?_; (with_reducible refine (constableref01_Lower.calls a0 false _ A2.out).mono ?_); rintro e w' ⟨rfl, ⟨nd, rfl⟩⟩; refine ⟨_, rfl, ?_⟩) | (go_at_call 64; (with_reducible refine (constableref01_Upper.calls a0 true _ A4.out).mono ?_); rintro e w' ⟨rfl, ⟨nd, rfl⟩⟩))
   go_ret
   exact ⟨by first | rfl | (simp; done) | (simp [*]; done), by repeat (first | exact Drawn0.refl _ | apply Drawn0.step)⟩
  ·replace c5 := Bool.eq_false_iff.mpr c5
   subst c5
   have H1 : ((constableref01_Digit.f a0).bind fun t153 => (if t153 = true then (some true) else (some (a0 == 95)))) = some r := by rw [if_neg (show ¬ (false = true) by decide)] at H; exact H
   clear H
   have H := H1
   clear H1
   replace H := Option.bind_eq_some_iff.mp H
   obtain ⟨t153, A60, H⟩ := H
   replace H : (if t153 = true then (some true) else (some (a0 == 95))) = some r := H
   have A6 := Aside0.mk A60
   clear A60
   by_cases c7 : t153 = true
   ·subst c7
    have H1 : (some true) = some r := by rw [if_pos rfl] at H; exact H
    clear H
    have H := H1
    clear H1
    obtain rfl := Option.some.inj H
    go_enter Try.func66, Try.ntmps66
    go_wp2_with (first | ((with_reducible refine gate_callee (f := 65) rfl ?_); refine goesL_ (some 4) rfl rfl Try.func65 (by kernel_rfl) rfl #[.int .u8 a0] rfl aG ?_; (with_reducible refine (constableref01_Lower.calls a0 false _ A2.out).mono ?_); rintro e w' ⟨rfl, ⟨nd, rfl⟩⟩; refine ⟨_, rfl, ?_⟩) | (go_at_call 64; (with_reducible refine (constableref01_Upper.calls a0 false _ A4.out).mono ?_); rintro e w' ⟨rfl, ⟨nd, rfl⟩⟩) | (go_at_call 91; (with_reducible refine (constableref01_Digit.calls a0 true _ A6.out).mono ?_); rintro e w' ⟨rfl, ⟨nd, rfl⟩⟩))
    go_ret
    exact ⟨by first | rfl | (simp; done) | (simp [*]; done), by repeat (first | exact Drawn0.refl _ | apply Drawn0.step)⟩
   ·replace c7 := Bool.eq_false_iff.mpr c7
    subst c7
    have H1 : (some (a0 == 95)) = some r := by rw [if_neg (show ¬ (false = true) by decide)] at H; exact H
    clear H
    have H := H1
    clear H1
    obtain rfl := Option.some.inj H
    go_enter Try.func66, Try.ntmps66
    go_wp2_with (first | ((with_reducible refine gate_callee (f := 65) rfl ?_); refine goesL_ (some 4) rfl rfl Try.func65 (by kernel_rfl) rfl #[.int .u8 a0] rfl aG ?_; (with_reducible refine (constableref01_Lower.calls a0 false _ A2.out).mono ?_); rintro e w' ⟨rfl, ⟨nd, rfl⟩⟩; refine ⟨_, rfl, ?_⟩) | (go_at_call 64; (with_reducible refine (constableref01_Upper.calls a0 false _ A4.out).mono ?_); rintro e w' ⟨rfl, ⟨nd, rfl⟩⟩) | (go_at_call 91; (with_reducible refine (constableref01_Digit.calls a0 false _ A6.out).mono ?_); rintro e w' ⟨rfl, ⟨nd, rfl⟩⟩))
    go_ret
    exact ⟨by first | rfl | (simp; done) | (simp [*]; done), by repeat (first | exact Drawn0.refl _ | apply Drawn0.step)⟩

end Go.Proofs.Ytghommaokdhjmaa.P
namespace Go.Proofs.Ytghommaokdhjmaa.P
open Go.RowKit Go.Proofs.YtghommaokdhjmaaW.PrintWords Go.Proofs.YtghommaokdhjmaaW.PrintLast Go.Proofs.Ytghommaokdhjmaa.Gate
set_option linter.unusedVariables false
set_option linter.unusedSimpArgs false

/-! ### constableref01_Word: function 22 -/
mutual
def constableref01_Word.j0 : Nat → ByteArray → Bool → Option (Bool)
 | 0, _, _ => none
 | k + 1, x0, x26 => if x26 = true then (some false) else (constableref01_Word.l0 k x0 0)
def constableref01_Word.l0 : Nat → ByteArray → Int → Option (Bool)
 | 0, _, _ => none
 | k + 1, x0, x5 => if x5 < (x0.size : Int) then (if 0 ≤ x5 then ((constableref01_inner.f (bt x0 x5)).bind fun t157 => (if t157 = true then (constableref01_Word.l0 k x0 (wrap64 (x5 + 1))) else (some false))) else (none)) else (some true)
end
def constableref01_Word.f (k : Nat) (a0 : ByteArray) (a1 : Bool) : Option (Bool) := (constableref01_In.f (a0.size : Int) 1 24).bind fun t154 => (if t154 = true then (if 0 < (a0.size : Int) then ((constableref01_Upper.f (bt a0 0)).bind fun t155 => (if (a1 != t155) = true then (constableref01_Word.j0 k a0 true) else (if a1 = true then (constableref01_Word.j0 k a0 false) else ((constableref01_Lower.f (bt a0 0)).bind fun t156 => (constableref01_Word.j0 k a0 (!t156)))))) else (none)) else (constableref01_Word.j0 k a0 true))
theorem constableref01_Word.mono_l : ∀ k, (∀ y0 y1, LeO (constableref01_Word.j0 k y0 y1) (constableref01_Word.j0 (k + 1) y0 y1)) ∧ (∀ y0 y1, LeO (constableref01_Word.l0 k y0 y1) (constableref01_Word.l0 (k + 1) y0 y1))
 | 0 => ⟨fun _ _ r h => by simp [constableref01_Word.j0] at h, fun _ _ r h => by simp [constableref01_Word.l0] at h⟩
 | k + 1 => by
  obtain ⟨ih0, ih1⟩ := constableref01_Word.mono_l k
  refine ⟨?_, ?_⟩
  ·intro y0 y1
   unfold constableref01_Word.j0
   repeat' first
   | (with_reducible exact ih0 _ _)
   | (with_reducible exact ih1 _ _)
   | (with_reducible exact LeO.refl _)
   | (with_reducible exact LeO.none _)
   | (with_reducible refine LeO.ite ?_ ?_)
   | (with_reducible refine LeO.bind ?_ (fun _ => ?_))
  ·intro y0 y1
   unfold constableref01_Word.l0
   repeat' first
   | (with_reducible exact ih0 _ _)
   | (with_reducible exact ih1 _ _)
   | (with_reducible exact LeO.refl _)
   | (with_reducible exact LeO.none _)
   | (with_reducible refine LeO.ite ?_ ?_)
   | (with_reducible refine LeO.bind ?_ (fun _ => ?_))
theorem constableref01_Word.mono : ∀ a0 a1 k, LeO (constableref01_Word.f k a0 a1) (constableref01_Word.f (k + 1) a0 a1) := by
 intro a0 a1 k
 obtain ⟨ih0, ih1⟩ := constableref01_Word.mono_l k
 unfold constableref01_Word.f
 repeat' first
   | (with_reducible exact ih0 _ _)
   | (with_reducible exact ih1 _ _)
   | (with_reducible exact LeO.refl _)
   | (with_reducible exact LeO.none _)
   | (with_reducible refine LeO.ite ?_ ?_)
   | (with_reducible refine LeO.bind ?_ (fun _ => ?_))
set_option maxHeartbeats 8000000 in
set_option maxRecDepth 100000 in
theorem constableref01_Word.calls (k : Nat) (a0 : ByteArray) (a1 : Bool) (r : Bool) (w : World) (h : constableref01_Word.f k a0 a1 = some r) :
  Calls Try.prog 22 #[.string a0, .bool a1] w fun e w' => e = .returned (.bool r) ∧ Drawn0 w w' := by
 have H : ((constableref01_In.f (a0.size : Int) 1 24).bind fun t154 => (if t154 = true then (if 0 < (a0.size : Int) then ((constableref01_Upper.f (bt a0 0)).bind fun t155 => (if (a1 != t155) = true then (constableref01_Word.j0 k a0 true) else (if a1 = true then (constableref01_Word.j0 k a0 false) else ((constableref01_Lower.f (bt a0 0)).bind fun t156 => (constableref01_Word.j0 k a0 (!t156)))))) else (none)) else (constableref01_Word.j0 k a0 true))) = some r := h
 clear h
 have HC3 := Aside0.mk H
 clear H
 go_enter Try.func22, Try.ntmps22
 go_upto_region 1 with (fail)
 go_cut [26] (fun v26 wc => ∃ (kq : Nat) (x26_2 : Bool), v26 = .bool x26_2 ∧ Aside0 (constableref01_Word.j0 kq a0 x26_2 = some r) ∧ Aside0 (kq ≤ k) ∧ Drawn0 w wc)
 case first =>
  have H := HC3.out
  clear HC3
  replace H := Option.bind_eq_some_iff.mp H
  obtain ⟨t154, A40, H⟩ := H
  replace H : (if t154 = true then (if 0 < (a0.size : Int) then ((constableref01_Upper.f (bt a0 0)).bind fun t155 => (if (a1 != t155) = true then (constableref01_Word.j0 k a0 true) else (if a1 = true then (constableref01_Word.j0 k a0 false) else ((constableref01_Lower.f (bt a0 0)).bind fun t156 => (constableref01_Word.j0 k a0 (!t156)))))) else (none)) else (constableref01_Word.j0 k a0 true)) = some r := H
  have A4 := Aside0.mk A40
  clear A40
  by_cases c5 : t154 = true
  ·subst c5
   have H1 : (if 0 < (a0.size : Int) then ((constableref01_Upper.f (bt a0 0)).bind fun t155 => (if (a1 != t155) = true then (constableref01_Word.j0 k a0 true) else (if a1 = true then (constableref01_Word.j0 k a0 false) else ((constableref01_Lower.f (bt a0 0)).bind fun t156 => (constableref01_Word.j0 k a0 (!t156)))))) else (none)) = some r := by rw [if_pos rfl] at H; exact H
   clear H
   have H := H1
   clear H1
   by_cases c6 : 0 < (a0.size : Int)
   ·rw [if_pos c6] at H
    have c6b0 : decide (0 < (a0.size : Int)) = true := decide_eq_true c6
    have c6b1 : decide (0 < a0.size) = true := decide_eq_true (by omega)
    clear c6
    (first | rw [c6b0] | (simp only [i64_w, i32_w]; rw [c6b0]) | skip)
    replace H := Option.bind_eq_some_iff.mp H
    obtain ⟨t155, A80, H⟩ := H
    replace H : (if (a1 != t155) = true then (constableref01_Word.j0 k a0 true) else (if a1 = true then (constableref01_Word.j0 k a0 false) else ((constableref01_Lower.f (bt a0 0)).bind fun t156 => (constableref01_Word.j0 k a0 (!t156))))) = some r := H
    have A8 := Aside0.mk A80
    clear A80
    by_cases c9 : (a1 != t155) = true
    ·rw [if_pos c9] at H
     have c9b0 : (a1 != t155) = true := c9
     (try (have c9b1 : decide (a1 = t155) = false := by simpa using c9))
     (try (have c9b2 : (a1 == t155) = false := by simpa using c9))
     (try (have c9b3 : ¬ (a1 = t155) := by simpa using c9))
     clear c9
     have H' := Aside0.mk H
     clear H
     go_wp2_with (first | ((with_reducible refine gate_callee (f := 63) rfl ?_); refine goesL_ (some 8) rfl rfl Try.func63 (by kernel_rfl) rfl #[.int .i64 (a0.size : Int), .int .i64 1, .int .i64 24] rfl aG ?_; (with_reducible refine (constableref01_In.calls (a0.size : Int) 1 24 true _ A4.out).mono ?_); rintro e w' ⟨rfl, ⟨nd, rfl⟩⟩; refine ⟨_, rfl, ?_⟩; have p7 : 0 ≤ (0 : Int) := (by omega); have q7 : 0 < a0.size := (by have : (0 : Int) < (a0.size : Int) := of_decide_eq_true (by first | (with_reducible assumption) | assumption); omega); have hx7 : ∀ h : 0 < a0.size, ((a0[0]'h).toNat : Int) = bt a0 0 := bt_at a0 0; clear p7; have qi7 : (0 < (a0.size : Int)) = True := eq_true (of_decide_eq_true (by first | (with_reducible assumption) | assumption)); replace q7 := eq_true q7) | (go_at_call 64; (with_reducible refine (constableref01_Upper.calls (bt a0 0) t155 _ A8.out).mono ?_); rintro e w' ⟨rfl, ⟨nd, rfl⟩⟩))
     go_meet
     case rel => exact ⟨_, (true), (by first | rfl | (simp; done) | (simp [*]; done)), H', ⟨by first | omega | exact Nat.le_refl _⟩, by repeat (first | exact Drawn0.refl _ | apply Drawn0.step)⟩
    ·rw [if_neg c9] at H
     have c9b0 : (a1 != t155) = false := by simpa using c9
     (try (have c9b1 : decide (a1 = t155) = true := by simpa using c9))
     (try (have c9b2 : (a1 == t155) = true := by simpa using c9))
     clear c9
     by_cases c10 : a1 = true
     ·subst c10
      have H1 : (constableref01_Word.j0 k a0 false) = some r := by rw [if_pos rfl] at H; exact H
      clear H
      have H := H1
      clear H1
      have H' := Aside0.mk H
      clear H
      go_wp2_with (first | ((with_reducible refine gate_callee (f := 63) rfl ?_); refine goesL_ (some 8) rfl rfl Try.func63 (by kernel_rfl) rfl #[.int .i64 (a0.size : Int), .int .i64 1, .int .i64 24] rfl aG ?_; (with_reducible refine (constableref01_In.calls (a0.size : Int) 1 24 true _ A4.out).mono ?_); rintro e w' ⟨rfl, ⟨nd, rfl⟩⟩; refine ⟨_, rfl, ?_⟩; have p7 : 0 ≤ (0 : Int) := (by omega); have q7 : 0 < a0.size := (by have : (0 : Int) < (a0.size : Int) := of_decide_eq_true (by first | (with_reducible assumption) | assumption); omega); have hx7 : ∀ h : 0 < a0.size, ((a0[0]'h).toNat : Int) = bt a0 0 := bt_at a0 0; clear p7; have qi7 : (0 < (a0.size : Int)) = True := eq_true (of_decide_eq_true (by first | (with_reducible assumption) | assumption)); replace q7 := eq_true q7) | (go_at_call 64; (with_reducible refine (constableref01_Upper.calls (bt a0 0) t155 _ A8.out).mono ?_); rintro e w' ⟨rfl, ⟨nd, rfl⟩⟩))
      go_meet
      case rel => exact ⟨_, (false), (by first | rfl | (simp; done) | (simp [*]; done)), H', ⟨by first | omega | exact Nat.le_refl _⟩, by repeat (first | exact Drawn0.refl _ | apply Drawn0.step)⟩
     ·replace c10 := Bool.eq_false_iff.mpr c10
      subst c10
      have H1 : ((constableref01_Lower.f (bt a0 0)).bind fun t156 => (constableref01_Word.j0 k a0 (!t156))) = some r := by rw [if_neg (show ¬ (false = true) by decide)] at H; exact H
      clear H
      have H := H1
      clear H1
      replace H := Option.bind_eq_some_iff.mp H
      obtain ⟨t156, A120, H⟩ := H
      replace H : (constableref01_Word.j0 k a0 (!t156)) = some r := H
      have A12 := Aside0.mk A120
      clear A120
      have H' := Aside0.mk H
      clear H
      go_wp2_with (first | ((with_reducible refine gate_callee (f := 63) rfl ?_); refine goesL_ (some 8) rfl rfl Try.func63 (by kernel_rfl) rfl #[.int .i64 (a0.size : Int), .int .i64 1, .int .i64 24] rfl aG ?_; (with_reducible refine (constableref01_In.calls (a0.size : Int) 1 24 true _ A4.out).mono ?_); rintro e w' ⟨rfl, ⟨nd, rfl⟩⟩; refine ⟨_, rfl, ?_⟩; have p7 : 0 ≤ (0 : Int) := (by omega); have q7 : 0 < a0.size := (by have : (0 : Int) < (a0.size : Int) := of_decide_eq_true (by first | (with_reducible assumption) | assumption); omega); have hx7 : ∀ h : 0 < a0.size, ((a0[0]'h).toNat : Int) = bt a0 0 := bt_at a0 0; clear p7; have qi7 : (0 < (a0.size : Int)) = True := eq_true (of_decide_eq_true (by first | (with_reducible assumption) | assumption)); replace q7 := eq_true q7) | (go_at_call 64; (with_reducible refine (constableref01_Upper.calls (bt a0 0) t155 _ A8.out).mono ?_); rintro e w' ⟨rfl, ⟨nd, rfl⟩⟩; have p11 : 0 ≤ (0 : Int) := (by omega); have q11 : 0 < a0.size := (by have : (0 : Int) < (a0.size : Int) := of_decide_eq_true (by first | (with_reducible assumption) | assumption); omega); have hx11 : ∀ h : 0 < a0.size, ((a0[0]'h).toNat : Int) = bt a0 0 := bt_at a0 0; clear p11; have qi11 : (0 < (a0.size : Int)) = True := eq_true (of_decide_eq_true (by first | (with_reducible assumption) | assumption)); replace q11 := eq_true q11) | (go_at_call 65; (with_reducible refine (constableref01_Lower.calls (bt a0 0) t156 _ A12.out).mono ?_); rintro e w' ⟨rfl, ⟨nd, rfl⟩⟩))
      go_meet
      case rel => exact ⟨_, (!t156), (by first | rfl | (simp; done) | (simp [*]; done)), H', ⟨by first | omega | exact Nat.le_refl _⟩, by repeat (first | exact Drawn0.refl _ | apply Drawn0.step)⟩
   ·rw [if_neg c6] at H
    exact absurd H (by simp)
  ·replace c5 := Bool.eq_false_iff.mpr c5
   subst c5
   have H1 : (constableref01_Word.j0 k a0 true) = some r := by rw [if_neg (show ¬ (false = true) by decide)] at H; exact H
   clear H
   have H := H1
   clear H1
   have H' := Aside0.mk H
   clear H
   go_wp2_with (first | ((with_reducible refine gate_callee (f := 63) rfl ?_); refine goesL_ (some 8) rfl rfl Try.func63 (by kernel_rfl) rfl #[.int .i64 (a0.size : Int), .int .i64 1, .int .i64 24] rfl aG ?_; (with_reducible refine (constableref01_In.calls (a0.size : Int) 1 24 false _ A4.out).mono ?_); rintro e w' ⟨rfl, ⟨nd, rfl⟩⟩; refine ⟨_, rfl, ?_⟩))
   go_meet
   case rel => exact ⟨_, (true), (by first | rfl | (simp; done) | (simp [*]; done)), H', ⟨by first | omega | exact Nat.le_refl _⟩, by repeat (first | exact Drawn0.refl _ | apply Drawn0.step)⟩
 case rest =>
  clear HC3
  (try clear c1); (try clear p1); (try clear q1); (try clear hx1); (try clear qi1); (try clear c2); (try clear p2); (try clear c5); (try clear c6); (try clear c6b0); (try clear c6b1); (try clear p7); (try clear q7); (try clear hx7); (try clear qi7); (try clear c9); (try clear c9b0); (try clear c9b1); (try clear c9b2); (try clear c10); (try clear p11); (try clear q11); (try clear hx11); (try clear qi11); (try clear p11); (try clear p7); (try clear q11); (try clear q7)
  obtain ⟨kq, x26_2, rfl, HA, HJ2, ⟨mc2, rfl⟩⟩ := hcut
  cases kq with
  | zero => exact absurd HA.out (by simp [constableref01_Word.j0])
  | succ kj2 =>
   have H := HA.out
   clear HA
   simp only [constableref01_Word.j0] at H
   by_cases c13 : x26_2 = true
   ·subst c13
    have H1 : (some false) = some r := by rw [if_pos rfl] at H; exact H
    clear H
    have H := H1
    clear H1
    obtain rfl := Option.some.inj H
    go_wp2
    go_ret
    exact ⟨by first | rfl | (simp; done) | (simp [*]; done), by repeat (first | exact Drawn0.refl _ | apply Drawn0.step)⟩
   ·replace c13 := Bool.eq_false_iff.mpr c13
    subst c13
    have H1 : (constableref01_Word.l0 kj2 a0 0) = some r := by rw [if_neg (show ¬ (false = true) by decide)] at H; exact H
    clear H
    have H := H1
    clear H1
    have H' := Aside0.mk H
    clear H
    go_wp2
    go_loopg [5] kj2 (fun kq v5 w' => ∃ (x5_2 : Int), v5 = .int .i64 x5_2 ∧ Aside0 (constableref01_Word.l0 kq a0 x5_2 = some r) ∧ Aside0 (kq ≤ kj2) ∧ Drawn0 w w')
    case atStart => exact ⟨(0), (by first | rfl | (simp; done) | (simp [*]; done)), H', ⟨Nat.le_refl _⟩, by repeat (first | exact Drawn0.refl _ | apply Drawn0.step)⟩
    case round =>
     clear H'
     (try clear c1); (try clear p1); (try clear q1); (try clear hx1); (try clear qi1); (try clear c2); (try clear p2); (try clear c5); (try clear c6); (try clear c6b0); (try clear c6b1); (try clear p7); (try clear q7); (try clear hx7); (try clear qi7); (try clear c9); (try clear c9b0); (try clear c9b1); (try clear c9b2); (try clear c10); (try clear p11); (try clear q11); (try clear hx11); (try clear qi11); (try clear c13); (try clear p1); (try clear p11); (try clear p2); (try clear p7); (try clear q1); (try clear q11); (try clear q7)
     obtain ⟨x5_2, rfl, HA, HK2, ⟨m2, rfl⟩⟩ := hrel
     cases gk with
     | zero => exact absurd HA.out (by simp [constableref01_Word.l0])
     | succ k2 =>
      have H := HA.out
      clear HA
      simp only [constableref01_Word.l0] at H
      by_cases c14 : x5_2 < (a0.size : Int)
      ·rw [if_pos c14] at H
       have c14b0 : decide (x5_2 < (a0.size : Int)) = true := decide_eq_true c14
       clear c14
       by_cases c15 : 0 ≤ x5_2
       ·rw [if_pos c15] at H
        have c15b0 : decide (0 ≤ x5_2) = true := decide_eq_true c15
        clear c15
        replace H := Option.bind_eq_some_iff.mp H
        obtain ⟨t157, A170, H⟩ := H
        replace H : (if t157 = true then (constableref01_Word.l0 k2 a0 (wrap64 (x5_2 + 1))) else (some false)) = some r := H
        have A17 := Aside0.mk A170
        clear A170
        by_cases c18 : t157 = true
        ·subst c18
         have H1 : (constableref01_Word.l0 k2 a0 (wrap64 (x5_2 + 1))) = some r := by rw [if_pos rfl] at H; exact H
         clear H
         have H := H1
         clear H1
         have H' := Aside0.mk H
         clear H
         have p16 : 0 ≤ (x5_2 : Int) := of_decide_eq_true (by first | (with_reducible assumption) | assumption)
         have q16 : x5_2 < (a0.size : Int) := of_decide_eq_true (by first | (with_reducible assumption) | assumption)
         have hx16 := bt_at a0 x5_2
         replace p16 := eq_true p16
         replace q16 := eq_true q16
         go_wp2_with (first | ((with_reducible refine gate_callee (f := 66) rfl ?_); refine goesL_ (some 36) rfl rfl Try.func66 (by kernel_rfl) rfl #[.int .u8 (bt a0 x5_2)] rfl aG ?_; (with_reducible refine (constableref01_inner.calls (bt a0 x5_2) true _ A17.out).mono ?_); rintro e w' ⟨rfl, ⟨nd, rfl⟩⟩; refine ⟨_, rfl, ?_⟩))
         go_roundg k2
         case measure => have := HJ2.out; have := HK2.out; omega
         case rel => exact ⟨(wrap64 (x5_2 + 1)), (by first | rfl | (simp; done) | (simp [*]; done)), H', ⟨by have := HJ2.out; have := HK2.out; omega⟩, by repeat (first | exact Drawn0.refl _ | apply Drawn0.step)⟩
        ·replace c18 := Bool.eq_false_iff.mpr c18
         subst c18
         have H1 : (some false) = some r := by rw [if_neg (show ¬ (false = true) by decide)] at H; exact H
         clear H
         have H := H1
         clear H1
         obtain rfl := Option.some.inj H
         have p16 : 0 ≤ (x5_2 : Int) := of_decide_eq_true (by first | (with_reducible assumption) | assumption)
         have q16 : x5_2 < (a0.size : Int) := of_decide_eq_true (by first | (with_reducible assumption) | assumption)
         have hx16 := bt_at a0 x5_2
         replace p16 := eq_true p16
         replace q16 := eq_true q16
         go_wp2_with (first | ((with_reducible refine gate_callee (f := 66) rfl ?_); refine goesL_ (some 36) rfl rfl Try.func66 (by kernel_rfl) rfl #[.int .u8 (bt a0 x5_2)] rfl aG ?_; (with_reducible refine (constableref01_inner.calls (bt a0 x5_2) false _ A17.out).mono ?_); rintro e w' ⟨rfl, ⟨nd, rfl⟩⟩; refine ⟨_, rfl, ?_⟩))
         go_ret
         exact ⟨by first | rfl | (simp; done) | (simp [*]; done), by repeat (first | exact Drawn0.refl _ | apply Drawn0.step)⟩
       ·rw [if_neg c15] at H
        exact absurd H (by simp)
      ·rw [if_neg c14] at H
       have c14b0 : decide (x5_2 < (a0.size : Int)) = false := decide_eq_false c14
       clear c14
       obtain rfl := Option.some.inj H
       go_wp2
       go_ret
       exact ⟨by first | rfl | (simp; done) | (simp [*]; done), by repeat (first | exact Drawn0.refl _ | apply Drawn0.step)⟩

end Go.Proofs.Ytghommaokdhjmaa.P
namespace Go.Proofs.Ytghommaokdhjmaa.P
open Go.RowKit Go.Proofs.YtghommaokdhjmaaW.PrintWords Go.Proofs.YtghommaokdhjmaaW.PrintLast Go.Proofs.Ytghommaokdhjmaa.Gate
set_option linter.unusedVariables false
set_option linter.unusedSimpArgs false

/-! ### constableref01_Value: function 26 -/
mutual
def constableref01_Value.j0 : Nat → Bool → Int → Int → ByteArray → Option (Bool)
 | 0, _, _, _, _ => none
 | k + 1, x37, x161000, x161001, x161002 => if x37 = true then (some false) else (constableref01_Value.l0 k 0 x161000 x161001 x161002)
def constableref01_Value.l0 : Nat → Int → Int → Int → ByteArray → Option (Bool)
 | 0, _, _, _, _ => none
 | k + 1, x3, x161000, x161001, x161002 => if x3 < (x161002.size : Int) then (if 0 ≤ x3 then ((constableref01_In.f (wrap64 (bt x161002 x3)) 32 126).bind fun t163 => (if t163 = true then (constableref01_Value.l0 k (wrap64 (x3 + 1)) x161000 x161001 x161002) else (some false))) else (none)) else (some true)
end
def constableref01_Value.f (k : Nat) (a0_0 : Int) (a0_1 : Int) (a0_2 : ByteArray) : Option (Bool) := if a0_0 = 1 then ((constableref01_In.f a0_1 (-4611686018427387904) 4611686018427387904).bind fun t161 => (if t161 = true then (some ((a0_2.size : Int) == 0)) else (some false))) else (if a0_0 = 2 then (if a0_1 = 0 then ((constableref01_Word.f k a0_2 false).bind fun t162 => (some t162)) else (some false)) else (if a0_0 = 3 then (if a0_1 = 0 then (constableref01_Value.j0 k (decide ((a0_2.size : Int) > 60)) a0_0 a0_1 a0_2) else (constableref01_Value.j0 k true a0_0 a0_1 a0_2)) else (some false)))
theorem constableref01_Value.mono_l : ∀ k, (∀ y0 y1 y2 y3, LeO (constableref01_Value.j0 k y0 y1 y2 y3) (constableref01_Value.j0 (k + 1) y0 y1 y2 y3)) ∧ (∀ y0 y1 y2 y3, LeO (constableref01_Value.l0 k y0 y1 y2 y3) (constableref01_Value.l0 (k + 1) y0 y1 y2 y3))
 | 0 => ⟨fun _ _ _ _ r h => by simp [constableref01_Value.j0] at h, fun _ _ _ _ r h => by simp [constableref01_Value.l0] at h⟩
 | k + 1 => by
  obtain ⟨ih0, ih1⟩ := constableref01_Value.mono_l k
  refine ⟨?_, ?_⟩
  ·intro y0 y1 y2 y3
   unfold constableref01_Value.j0
   repeat' first
   | (with_reducible exact ih0 _ _ _ _)
   | (with_reducible exact ih1 _ _ _ _)
   | (with_reducible exact constableref01_Word.mono _ _ _)
   | (with_reducible exact LeO.refl _)
   | (with_reducible exact LeO.none _)
   | (with_reducible refine LeO.ite ?_ ?_)
   | (with_reducible refine LeO.bind ?_ (fun _ => ?_))
  ·intro y0 y1 y2 y3
   unfold constableref01_Value.l0
   repeat' first
   | (with_reducible exact ih0 _ _ _ _)
   | (with_reducible exact ih1 _ _ _ _)
   | (with_reducible exact constableref01_Word.mono _ _ _)
   | (with_reducible exact LeO.refl _)
   | (with_reducible exact LeO.none _)
   | (with_reducible refine LeO.ite ?_ ?_)
   | (with_reducible refine LeO.bind ?_ (fun _ => ?_))
theorem constableref01_Value.mono : ∀ a0 a1 a2 k, LeO (constableref01_Value.f k a0 a1 a2) (constableref01_Value.f (k + 1) a0 a1 a2) := by
 intro a0 a1 a2 k
 obtain ⟨ih0, ih1⟩ := constableref01_Value.mono_l k
 unfold constableref01_Value.f
 repeat' first
   | (with_reducible exact ih0 _ _ _ _)
   | (with_reducible exact ih1 _ _ _ _)
   | (with_reducible exact constableref01_Word.mono _ _ _)
   | (with_reducible exact LeO.refl _)
   | (with_reducible exact LeO.none _)
   | (with_reducible refine LeO.ite ?_ ?_)
   | (with_reducible refine LeO.bind ?_ (fun _ => ?_))
set_option maxHeartbeats 8000000 in
set_option maxRecDepth 100000 in
theorem constableref01_Value.calls (k : Nat) (a0_0 : Int) (a0_1 : Int) (a0_2 : ByteArray) (r : Bool) (w : World) (h : constableref01_Value.f k a0_0 a0_1 a0_2 = some r) :
  Calls Try.prog 26 #[.agg #[.int .i64 a0_0, .int .i64 a0_1, .string a0_2]] w fun e w' => e = .returned (.bool r) ∧ Below w.heap.size w w' := by
 have hu24 := Try.underlying24
 have HB := Aside0.mk (Below.refl w.heap.size w)
 have H : (if a0_0 = 1 then ((constableref01_In.f a0_1 (-4611686018427387904) 4611686018427387904).bind fun t161 => (if t161 = true then (some ((a0_2.size : Int) == 0)) else (some false))) else (if a0_0 = 2 then (if a0_1 = 0 then ((constableref01_Word.f k a0_2 false).bind fun t162 => (some t162)) else (some false)) else (if a0_0 = 3 then (if a0_1 = 0 then (constableref01_Value.j0 k (decide ((a0_2.size : Int) > 60)) a0_0 a0_1 a0_2) else (constableref01_Value.j0 k true a0_0 a0_1 a0_2)) else (some false)))) = some r := h
 clear h
 by_cases c2 : a0_0 = 1
 ·rw [if_pos c2] at H
  have c2b0 : (a0_0 == 1) = true := beq_iff_eq.mpr c2
  have c2b1 : (a0_0 != 1) = false := bne_eq_false_iff_eq.mpr c2
  clear c2
  replace H := Option.bind_eq_some_iff.mp H
  obtain ⟨t161, A30, H⟩ := H
  replace H : (if t161 = true then (some ((a0_2.size : Int) == 0)) else (some false)) = some r := H
  have A3 := Aside0.mk A30
  clear A30
  by_cases c4 : t161 = true
  ·subst c4
   have H1 : (some ((a0_2.size : Int) == 0)) = some r := by rw [if_pos rfl] at H; exact H
   clear H
   have H := H1
   clear H1
   obtain rfl := Option.some.inj H
   go_enter Try.func26, Try.ntmps26
   go_wp2_with (first | ((with_reducible refine gate_dst (N := 1) rfl ?_); (try (refine gate_guard (by rfl) ?_; dsimp only)); refine bE (N := 1) (cs := #[.int .i64 a0_0, .int .i64 a0_1, .string a0_2]) (t := 24) ?_; intro gb160 hg w5 hbox hb; have n0_ := Aside0.mk (below_step bB0 hb); have n1_ := Aside0.mk (hbox); have n2_ := Aside0.mk ((by rw [hg]; exact (below_size bB0) : w.heap.size ≤ gb160)); have n3_ := Aside0.mk ((by rw [hg]; exact (below_size bB0) : w.heap.size ≤ gb160)); clear HB; have HB := n0_; have BK160 := n1_; have GW160 := n2_; have GE160 := n3_; clear n0_ n1_ n2_ n3_; clear hb hbox hg; have hcz6_0 : w5.cell? ⟨gb160, 0, none⟩ = some (.int .i64 a0_0) := (blk_cell BK160.out 0).trans rfl; have hcz6_1 : w5.cell? ⟨gb160, 1, none⟩ = some (.int .i64 a0_1) := (blk_cell BK160.out 1).trans rfl; have hcz6_2 : w5.cell? ⟨gb160, 2, none⟩ = some (.string a0_2) := (blk_cell BK160.out 2).trans rfl; have hfz6_0 := blk_frozen BK160.out 0; have hfz6_1 := blk_frozen BK160.out 1; have hfz6_2 := blk_frozen BK160.out 2) | ((with_reducible refine gate_callee (f := 63) rfl ?_); refine goesL_ (some 10) rfl rfl Try.func63 (by kernel_rfl) rfl #[.int .i64 a0_1, .int .i64 (-4611686018427387904), .int .i64 4611686018427387904] rfl aG ?_; (with_reducible refine (constableref01_In.calls a0_1 (-4611686018427387904) 4611686018427387904 true _ A3.out).mono ?_); rintro e w' ⟨rfl, ⟨nd, rfl⟩⟩; refine ⟨_, rfl, ?_⟩))
   go_ret
   exact ⟨eW, (bB1 GE160.out)⟩
  ·replace c4 := Bool.eq_false_iff.mpr c4
   subst c4
   have H1 : (some false) = some r := by rw [if_neg (show ¬ (false = true) by decide)] at H; exact H
   clear H
   have H := H1
   clear H1
   obtain rfl := Option.some.inj H
   go_enter Try.func26, Try.ntmps26
   go_wp2_with (first | ((with_reducible refine gate_dst (N := 1) rfl ?_); (try (refine gate_guard (by rfl) ?_; dsimp only)); refine bE (N := 1) (cs := #[.int .i64 a0_0, .int .i64 a0_1, .string a0_2]) (t := 24) ?_; intro gb160 hg w7 hbox hb; have n0_ := Aside0.mk (below_step bB0 hb); have n1_ := Aside0.mk (hbox); have n2_ := Aside0.mk ((by rw [hg]; exact (below_size bB0) : w.heap.size ≤ gb160)); have n3_ := Aside0.mk ((by rw [hg]; exact (below_size bB0) : w.heap.size ≤ gb160)); clear HB; have HB := n0_; have BK160 := n1_; have GW160 := n2_; have GE160 := n3_; clear n0_ n1_ n2_ n3_; clear hb hbox hg; have hcz8_0 : w7.cell? ⟨gb160, 0, none⟩ = some (.int .i64 a0_0) := (blk_cell BK160.out 0).trans rfl; have hcz8_1 : w7.cell? ⟨gb160, 1, none⟩ = some (.int .i64 a0_1) := (blk_cell BK160.out 1).trans rfl; have hcz8_2 : w7.cell? ⟨gb160, 2, none⟩ = some (.string a0_2) := (blk_cell BK160.out 2).trans rfl; have hfz8_0 := blk_frozen BK160.out 0; have hfz8_1 := blk_frozen BK160.out 1; have hfz8_2 := blk_frozen BK160.out 2) | ((with_reducible refine gate_callee (f := 63) rfl ?_); refine goesL_ (some 10) rfl rfl Try.func63 (by kernel_rfl) rfl #[.int .i64 a0_1, .int .i64 (-4611686018427387904), .int .i64 4611686018427387904] rfl aG ?_; (with_reducible refine (constableref01_In.calls a0_1 (-4611686018427387904) 4611686018427387904 false _ A3.out).mono ?_); rintro e w' ⟨rfl, ⟨nd, rfl⟩⟩; refine ⟨_, rfl, ?_⟩))
   go_ret
   exact ⟨eW, (bB1 GE160.out)⟩
 ·rw [if_neg c2] at H
  have c2b0 : (a0_0 == 1) = false := beq_eq_false_iff_ne.mpr c2
  have c2b1 : (a0_0 != 1) = true := bne_iff_ne.mpr c2
  by_cases c9 : a0_0 = 2
  ·rw [if_pos c9] at H
   have c9b0 : (a0_0 == 2) = true := beq_iff_eq.mpr c9
   have c9b1 : (a0_0 != 2) = false := bne_eq_false_iff_eq.mpr c9
   clear c9
   by_cases c10 : a0_1 = 0
   ·rw [if_pos c10] at H
    have c10b0 : (a0_1 == 0) = true := beq_iff_eq.mpr c10
    have c10b1 : (a0_1 != 0) = false := bne_eq_false_iff_eq.mpr c10
    clear c10
    replace H := Option.bind_eq_some_iff.mp H
    obtain ⟨t162, A110, H⟩ := H
    replace H : (some t162) = some r := H
    have A11 := Aside0.mk A110
    clear A110
    obtain rfl := Option.some.inj H
    go_enter Try.func26, Try.ntmps26
    go_wp2_with (first | ((with_reducible refine gate_dst (N := 1) rfl ?_); (try (refine gate_guard (by rfl) ?_; dsimp only)); refine bE (N := 1) (cs := #[.int .i64 a0_0, .int .i64 a0_1, .string a0_2]) (t := 24) ?_; intro gb160 hg w12 hbox hb; have n0_ := Aside0.mk (below_step bB0 hb); have n1_ := Aside0.mk (hbox); have n2_ := Aside0.mk ((by rw [hg]; exact (below_size bB0) : w.heap.size ≤ gb160)); have n3_ := Aside0.mk ((by rw [hg]; exact (below_size bB0) : w.heap.size ≤ gb160)); clear HB; have HB := n0_; have BK160 := n1_; have GW160 := n2_; have GE160 := n3_; clear n0_ n1_ n2_ n3_; clear hb hbox hg; have hcz13_0 : w12.cell? ⟨gb160, 0, none⟩ = some (.int .i64 a0_0) := (blk_cell BK160.out 0).trans rfl; have hcz13_1 : w12.cell? ⟨gb160, 1, none⟩ = some (.int .i64 a0_1) := (blk_cell BK160.out 1).trans rfl; have hcz13_2 : w12.cell? ⟨gb160, 2, none⟩ = some (.string a0_2) := (blk_cell BK160.out 2).trans rfl; have hfz13_0 := blk_frozen BK160.out 0; have hfz13_1 := blk_frozen BK160.out 1; have hfz13_2 := blk_frozen BK160.out 2) | (go_at_call 22; (with_reducible refine (constableref01_Word.calls k a0_2 false t162 _ A11.out).mono ?_); rintro e w' ⟨rfl, ⟨nd, rfl⟩⟩))
    go_ret
    exact ⟨eW, (bB1 GE160.out)⟩
   ·rw [if_neg c10] at H
    have c10b0 : (a0_1 == 0) = false := beq_eq_false_iff_ne.mpr c10
    have c10b1 : (a0_1 != 0) = true := bne_iff_ne.mpr c10
    obtain rfl := Option.some.inj H
    go_enter Try.func26, Try.ntmps26
    go_wp2_with (first | ((with_reducible refine gate_dst (N := 1) rfl ?_); (try (refine gate_guard (by rfl) ?_; dsimp only)); refine bE (N := 1) (cs := #[.int .i64 a0_0, .int .i64 a0_1, .string a0_2]) (t := 24) ?_; intro gb160 hg w14 hbox hb; have n0_ := Aside0.mk (below_step bB0 hb); have n1_ := Aside0.mk (hbox); have n2_ := Aside0.mk ((by rw [hg]; exact (below_size bB0) : w.heap.size ≤ gb160)); have n3_ := Aside0.mk ((by rw [hg]; exact (below_size bB0) : w.heap.size ≤ gb160)); clear HB; have HB := n0_; have BK160 := n1_; have GW160 := n2_; have GE160 := n3_; clear n0_ n1_ n2_ n3_; clear hb hbox hg; have hcz15_0 : w14.cell? ⟨gb160, 0, none⟩ = some (.int .i64 a0_0) := (blk_cell BK160.out 0).trans rfl; have hcz15_1 : w14.cell? ⟨gb160, 1, none⟩ = some (.int .i64 a0_1) := (blk_cell BK160.out 1).trans rfl; have hcz15_2 : w14.cell? ⟨gb160, 2, none⟩ = some (.string a0_2) := (blk_cell BK160.out 2).trans rfl; have hfz15_0 := blk_frozen BK160.out 0; have hfz15_1 := blk_frozen BK160.out 1; have hfz15_2 := blk_frozen BK160.out 2))
    go_ret
    exact ⟨eW, (bB1 GE160.out)⟩
  ·rw [if_neg c9] at H
   have c9b0 : (a0_0 == 2) = false := beq_eq_false_iff_ne.mpr c9
   have c9b1 : (a0_0 != 2) = true := bne_iff_ne.mpr c9
   by_cases c16 : a0_0 = 3
   ·rw [if_pos c16] at H
    have c16b0 : (a0_0 == 3) = true := beq_iff_eq.mpr c16
    have c16b1 : (a0_0 != 3) = false := bne_eq_false_iff_eq.mpr c16
    clear c16
    have HC17 := Aside0.mk H
    clear H
    go_enter Try.func26, Try.ntmps26
    go_upto_region 7 with (first | ((with_reducible refine gate_dst (N := 1) rfl ?_); (try (refine gate_guard (by rfl) ?_; dsimp only)); refine bE (N := 1) (cs := #[.int .i64 a0_0, .int .i64 a0_1, .string a0_2]) (t := 24) ?_; intro gb160 hg w18 hbox hb; have n0_ := Aside0.mk (below_step bB0 hb); have n1_ := Aside0.mk (hbox); have n2_ := Aside0.mk ((by rw [hg]; exact (below_size bB0) : w.heap.size ≤ gb160)); have n3_ := Aside0.mk ((by rw [hg]; exact (below_size bB0) : w.heap.size ≤ gb160)); clear HB; have HB := n0_; have BK160 := n1_; have GW160 := n2_; have GE160 := n3_; clear n0_ n1_ n2_ n3_; clear hb hbox hg; have hcz19_0 : w18.cell? ⟨gb160, 0, none⟩ = some (.int .i64 a0_0) := (blk_cell BK160.out 0).trans rfl; have hcz19_1 : w18.cell? ⟨gb160, 1, none⟩ = some (.int .i64 a0_1) := (blk_cell BK160.out 1).trans rfl; have hcz19_2 : w18.cell? ⟨gb160, 2, none⟩ = some (.string a0_2) := (blk_cell BK160.out 2).trans rfl; have hfz19_0 := blk_frozen BK160.out 0; have hfz19_1 := blk_frozen BK160.out 1; have hfz19_2 := blk_frozen BK160.out 2))
    (try simp only [Act.put, List.setIfInBounds_toArray, List.set_cons_zero, List.set_cons_succ])
    go_cut [37] (fun v37 wc => ∃ (kq : Nat) (x37_16 : Bool), v37 = .bool x37_16 ∧ Aside0 (constableref01_Value.j0 kq x37_16 a0_0 a0_1 a0_2 = some r) ∧ Aside0 (kq ≤ k) ∧ Aside0 (wc.heap[gb160]? = some (.cells #[.int .i64 a0_0, .int .i64 a0_1, .string a0_2] 24 (0, 0))) ∧ Aside0 (Below w.heap.size w wc))
    case first =>
     have H := HC17.out
     clear HC17
     by_cases c20 : a0_1 = 0
     ·rw [if_pos c20] at H
      have c20b0 : (a0_1 == 0) = true := beq_iff_eq.mpr c20
      have c20b1 : (a0_1 != 0) = false := bne_eq_false_iff_eq.mpr c20
      clear c20
      (first | rw [c20b0] | (simp only [i64_w, i32_w]; rw [c20b0]) | skip)
      have H' := Aside0.mk H
      clear H
      have hcz21_0 : w18.cell? ⟨gb160, 0, none⟩ = some (.int .i64 a0_0) := (blk_cell BK160.out 0).trans rfl
      have hcz21_1 : w18.cell? ⟨gb160, 1, none⟩ = some (.int .i64 a0_1) := (blk_cell BK160.out 1).trans rfl
      have hcz21_2 : w18.cell? ⟨gb160, 2, none⟩ = some (.string a0_2) := (blk_cell BK160.out 2).trans rfl
      have hfz21_0 := blk_frozen BK160.out 0
      have hfz21_1 := blk_frozen BK160.out 1
      have hfz21_2 := blk_frozen BK160.out 2
      go_wp2
      go_meet
      case rel => exact ⟨_, (decide ((a0_2.size : Int) > 60)), (by first | rfl | (simp; done) | (simp [*]; done)), H', ⟨by first | omega | exact Nat.le_refl _⟩, ⟨by refine bk ?_; exact BK160.out⟩, ⟨(bB1 GE160.out)⟩⟩
     ·rw [if_neg c20] at H
      have c20b0 : (a0_1 == 0) = false := beq_eq_false_iff_ne.mpr c20
      have c20b1 : (a0_1 != 0) = true := bne_iff_ne.mpr c20
      (first | rw [c20b0] | (simp only [i64_w, i32_w]; rw [c20b0]) | skip)
      have H' := Aside0.mk H
      clear H
      have hcz22_0 : w18.cell? ⟨gb160, 0, none⟩ = some (.int .i64 a0_0) := (blk_cell BK160.out 0).trans rfl
      have hcz22_1 : w18.cell? ⟨gb160, 1, none⟩ = some (.int .i64 a0_1) := (blk_cell BK160.out 1).trans rfl
      have hcz22_2 : w18.cell? ⟨gb160, 2, none⟩ = some (.string a0_2) := (blk_cell BK160.out 2).trans rfl
      have hfz22_0 := blk_frozen BK160.out 0
      have hfz22_1 := blk_frozen BK160.out 1
      have hfz22_2 := blk_frozen BK160.out 2
      go_wp2
      go_meet
      case rel => exact ⟨_, (true), (by first | rfl | (simp; done) | (simp [*]; done)), H', ⟨by first | omega | exact Nat.le_refl _⟩, ⟨by refine bk ?_; exact BK160.out⟩, ⟨(bB1 GE160.out)⟩⟩
    case rest =>
     clear HC17
     (try clear c1); (try clear c2); (try clear c2b0); (try clear c2b1); (try clear p2); (try clear c4); (try clear c6); (try clear c9); (try clear c9b0); (try clear c9b1); (try clear c10); (try clear c10b0); (try clear c10b1); (try clear c16); (try clear c16b0); (try clear c16b1); (try clear c20); (try clear c20b0); (try clear c20b1); (try clear hcz13_0); (try clear hcz13_1); (try clear hcz13_2); (try clear hcz15_0); (try clear hcz15_1); (try clear hcz15_2); (try clear hcz19_0); (try clear hcz19_1); (try clear hcz19_2); (try clear hcz21_0); (try clear hcz21_1); (try clear hcz21_2); (try clear hcz22_0); (try clear hcz22_1); (try clear hcz22_2); (try clear hcz6_0); (try clear hcz6_1); (try clear hcz6_2); (try clear hcz8_0); (try clear hcz8_1); (try clear hcz8_2); (try clear hfz13_0); (try clear hfz13_1); (try clear hfz13_2); (try clear hfz15_0); (try clear hfz15_1); (try clear hfz15_2); (try clear hfz19_0); (try clear hfz19_1); (try clear hfz19_2); (try clear hfz21_0); (try clear hfz21_1); (try clear hfz21_2); (try clear hfz22_0); (try clear hfz22_1); (try clear hfz22_2); (try clear hfz6_0); (try clear hfz6_1); (try clear hfz6_2); (try clear hfz8_0); (try clear hfz8_1); (try clear hfz8_2)
     obtain ⟨kq, x37_16, rfl, HA, HJ16, BK160, HB⟩ := hcut
     cases kq with
     | zero => exact absurd HA.out (by simp [constableref01_Value.j0])
     | succ kj16 =>
      have H := HA.out
      clear HA
      simp only [constableref01_Value.j0] at H
      by_cases c23 : x37_16 = true
      ·subst c23
       have H1 : (some false) = some r := by rw [if_pos rfl] at H; exact H
       clear H
       have H := H1
       clear H1
       obtain rfl := Option.some.inj H
       go_wp2
       go_ret
       exact ⟨eW, (bB1 GE160.out)⟩
      ·replace c23 := Bool.eq_false_iff.mpr c23
       subst c23
       have H1 : (constableref01_Value.l0 kj16 0 a0_0 a0_1 a0_2) = some r := by rw [if_neg (show ¬ (false = true) by decide)] at H; exact H
       clear H
       have H := H1
       clear H1
       have H' := Aside0.mk H
       clear H
       go_wp2
       go_loopg [3] kj16 (fun kq v3 w' => ∃ (x3_2 : Int), v3 = .int .i64 x3_2 ∧ Aside0 (constableref01_Value.l0 kq x3_2 a0_0 a0_1 a0_2 = some r) ∧ Aside0 (kq ≤ kj16) ∧ Aside0 (w'.heap[gb160]? = some (.cells #[.int .i64 a0_0, .int .i64 a0_1, .string a0_2] 24 (0, 0))) ∧ Aside0 (Below w.heap.size w w'))
       case atStart => exact ⟨(0), (by first | rfl | (simp; done) | (simp [*]; done)), H', ⟨Nat.le_refl _⟩, ⟨by refine bk ?_; exact BK160.out⟩, ⟨(bB1 GE160.out)⟩⟩
       case round =>
        clear H'
        (try clear c1); (try clear c2); (try clear c2b0); (try clear c2b1); (try clear p2); (try clear c4); (try clear c6); (try clear c9); (try clear c9b0); (try clear c9b1); (try clear c10); (try clear c10b0); (try clear c10b1); (try clear c16); (try clear c16b0); (try clear c16b1); (try clear c20); (try clear c20b0); (try clear c20b1); (try clear c23); (try clear hcz13_0); (try clear hcz13_1); (try clear hcz13_2); (try clear hcz15_0); (try clear hcz15_1); (try clear hcz15_2); (try clear hcz19_0); (try clear hcz19_1); (try clear hcz19_2); (try clear hcz21_0); (try clear hcz21_1); (try clear hcz21_2); (try clear hcz22_0); (try clear hcz22_1); (try clear hcz22_2); (try clear hcz6_0); (try clear hcz6_1); (try clear hcz6_2); (try clear hcz8_0); (try clear hcz8_1); (try clear hcz8_2); (try clear hfz13_0); (try clear hfz13_1); (try clear hfz13_2); (try clear hfz15_0); (try clear hfz15_1); (try clear hfz15_2); (try clear hfz19_0); (try clear hfz19_1); (try clear hfz19_2); (try clear hfz21_0); (try clear hfz21_1); (try clear hfz21_2); (try clear hfz22_0); (try clear hfz22_1); (try clear hfz22_2); (try clear hfz6_0); (try clear hfz6_1); (try clear hfz6_2); (try clear hfz8_0); (try clear hfz8_1); (try clear hfz8_2); (try clear p2)
        obtain ⟨x3_2, rfl, HA, HK2, BK160, HB⟩ := hrel
        cases gk with
        | zero => exact absurd HA.out (by simp [constableref01_Value.l0])
        | succ k2 =>
         have H := HA.out
         clear HA
         simp only [constableref01_Value.l0] at H
         by_cases c24 : x3_2 < (a0_2.size : Int)
         ·rw [if_pos c24] at H
          have c24b0 : decide (x3_2 < (a0_2.size : Int)) = true := decide_eq_true c24
          clear c24
          by_cases c25 : 0 ≤ x3_2
          ·rw [if_pos c25] at H
           have c25b0 : decide (0 ≤ x3_2) = true := decide_eq_true c25
           clear c25
           replace H := Option.bind_eq_some_iff.mp H
           obtain ⟨t163, A270, H⟩ := H
           replace H : (if t163 = true then (constableref01_Value.l0 k2 (wrap64 (x3_2 + 1)) a0_0 a0_1 a0_2) else (some false)) = some r := H
           have A27 := Aside0.mk A270
           clear A270
           by_cases c28 : t163 = true
           ·subst c28
            have H1 : (constableref01_Value.l0 k2 (wrap64 (x3_2 + 1)) a0_0 a0_1 a0_2) = some r := by rw [if_pos rfl] at H; exact H
            clear H
            have H := H1
            clear H1
            have H' := Aside0.mk H
            clear H
            have hcz29_0 : wr.cell? ⟨gb160, 0, none⟩ = some (.int .i64 a0_0) := (blk_cell BK160.out 0).trans rfl
            have hcz29_1 : wr.cell? ⟨gb160, 1, none⟩ = some (.int .i64 a0_1) := (blk_cell BK160.out 1).trans rfl
            have hcz29_2 : wr.cell? ⟨gb160, 2, none⟩ = some (.string a0_2) := (blk_cell BK160.out 2).trans rfl
            have hfz29_0 := blk_frozen BK160.out 0
            have hfz29_1 := blk_frozen BK160.out 1
            have hfz29_2 := blk_frozen BK160.out 2
            have p26 : 0 ≤ (x3_2 : Int) := of_decide_eq_true (by first | (with_reducible assumption) | assumption)
            have q26 : x3_2 < (a0_2.size : Int) := of_decide_eq_true (by first | (with_reducible assumption) | assumption)
            have hx26 := bt_at a0_2 x3_2
            replace p26 := eq_true p26
            replace q26 := eq_true q26
            go_wp2_with (first | ((with_reducible refine gate_callee (f := 63) rfl ?_); refine goesL_ (some 50) rfl rfl Try.func63 (by kernel_rfl) rfl #[.int .i64 (wrap64 (bt a0_2 x3_2)), .int .i64 32, .int .i64 126] rfl aG ?_; (with_reducible refine (constableref01_In.calls (wrap64 (bt a0_2 x3_2)) 32 126 true _ A27.out).mono ?_); rintro e w' ⟨rfl, ⟨nd, rfl⟩⟩; refine ⟨_, rfl, ?_⟩))
            go_roundg k2
            case measure => have := HJ16.out; have := HK2.out; omega
            case rel => exact ⟨(wrap64 (x3_2 + 1)), (by first | rfl | (simp; done) | (simp [*]; done)), H', ⟨by have := HJ16.out; have := HK2.out; omega⟩, ⟨by refine bk ?_; exact BK160.out⟩, ⟨(bB1 GE160.out)⟩⟩
           ·replace c28 := Bool.eq_false_iff.mpr c28
            subst c28
            have H1 : (some false) = some r := by rw [if_neg (show ¬ (false = true) by decide)] at H; exact H
            clear H
            have H := H1
            clear H1
            obtain rfl := Option.some.inj H
            have hcz30_0 : wr.cell? ⟨gb160, 0, none⟩ = some (.int .i64 a0_0) := (blk_cell BK160.out 0).trans rfl
            have hcz30_1 : wr.cell? ⟨gb160, 1, none⟩ = some (.int .i64 a0_1) := (blk_cell BK160.out 1).trans rfl
            have hcz30_2 : wr.cell? ⟨gb160, 2, none⟩ = some (.string a0_2) := (blk_cell BK160.out 2).trans rfl
            have hfz30_0 := blk_frozen BK160.out 0
            have hfz30_1 := blk_frozen BK160.out 1
            have hfz30_2 := blk_frozen BK160.out 2
            have p26 : 0 ≤ (x3_2 : Int) := of_decide_eq_true (by first | (with_reducible assumption) | assumption)
            have q26 : x3_2 < (a0_2.size : Int) := of_decide_eq_true (by first | (with_reducible assumption) | assumption)
            have hx26 := bt_at a0_2 x3_2
            replace p26 := eq_true p26
            replace q26 := eq_true q26
            go_wp2_with (first | ((with_reducible refine gate_callee (f := 63) rfl ?_); refine goesL_ (some 50) rfl rfl Try.func63 (by kernel_rfl) rfl #[.int .i64 (wrap64 (bt a0_2 x3_2)), .int .i64 32, .int .i64 126] rfl aG ?_; (with_reducible refine (constableref01_In.calls (wrap64 (bt a0_2 x3_2)) 32 126 false _ A27.out).mono ?_); rintro e w' ⟨rfl, ⟨nd, rfl⟩⟩; refine ⟨_, rfl, ?_⟩))
            go_ret
            exact ⟨eW, (bB1 GE160.out)⟩
          ·rw [if_neg c25] at H
           exact absurd H (by simp)
         ·rw [if_neg c24] at H
          have c24b0 : decide (x3_2 < (a0_2.size : Int)) = false := decide_eq_false c24
          clear c24
          obtain rfl := Option.some.inj H
          have hcz31_0 : wr.cell? ⟨gb160, 0, none⟩ = some (.int .i64 a0_0) := (blk_cell BK160.out 0).trans rfl
          have hcz31_1 : wr.cell? ⟨gb160, 1, none⟩ = some (.int .i64 a0_1) := (blk_cell BK160.out 1).trans rfl
          have hcz31_2 : wr.cell? ⟨gb160, 2, none⟩ = some (.string a0_2) := (blk_cell BK160.out 2).trans rfl
          have hfz31_0 := blk_frozen BK160.out 0
          have hfz31_1 := blk_frozen BK160.out 1
          have hfz31_2 := blk_frozen BK160.out 2
          go_wp2
          go_ret
          exact ⟨eW, (bB1 GE160.out)⟩
   ·rw [if_neg c16] at H
    have c16b0 : (a0_0 == 3) = false := beq_eq_false_iff_ne.mpr c16
    have c16b1 : (a0_0 != 3) = true := bne_iff_ne.mpr c16
    obtain rfl := Option.some.inj H
    go_enter Try.func26, Try.ntmps26
    go_wp2_with (first | ((with_reducible refine gate_dst (N := 1) rfl ?_); (try (refine gate_guard (by rfl) ?_; dsimp only)); refine bE (N := 1) (cs := #[.int .i64 a0_0, .int .i64 a0_1, .string a0_2]) (t := 24) ?_; intro gb160 hg w32 hbox hb; have n0_ := Aside0.mk (below_step bB0 hb); have n1_ := Aside0.mk (hbox); have n2_ := Aside0.mk ((by rw [hg]; exact (below_size bB0) : w.heap.size ≤ gb160)); have n3_ := Aside0.mk ((by rw [hg]; exact (below_size bB0) : w.heap.size ≤ gb160)); clear HB; have HB := n0_; have BK160 := n1_; have GW160 := n2_; have GE160 := n3_; clear n0_ n1_ n2_ n3_; clear hb hbox hg; have hcz33_0 : w32.cell? ⟨gb160, 0, none⟩ = some (.int .i64 a0_0) := (blk_cell BK160.out 0).trans rfl; have hcz33_1 : w32.cell? ⟨gb160, 1, none⟩ = some (.int .i64 a0_1) := (blk_cell BK160.out 1).trans rfl; have hcz33_2 : w32.cell? ⟨gb160, 2, none⟩ = some (.string a0_2) := (blk_cell BK160.out 2).trans rfl; have hfz33_0 := blk_frozen BK160.out 0; have hfz33_1 := blk_frozen BK160.out 1; have hfz33_2 := blk_frozen BK160.out 2))
    go_ret
    exact ⟨eW, (bB1 GE160.out)⟩

end Go.Proofs.Ytghommaokdhjmaa.P
namespace Go.Proofs.Ytghommaokdhjmaa.P
open Go.RowKit Go.Proofs.YtghommaokdhjmaaW.PrintWords Go.Proofs.YtghommaokdhjmaaW.PrintLast Go.Proofs.Ytghommaokdhjmaa.Gate
set_option linter.unusedVariables false
set_option linter.unusedSimpArgs false

/-! ### constableref01_words: function 99 -/
def constableref01_words.f  : Option (List ByteArray) := some (([(⟨#[102, 97, 99, 116]⟩ : ByteArray), (⟨#[114, 117, 108, 101]⟩ : ByteArray), (⟨#[112, 97, 116, 116, 101, 114, 110]⟩ : ByteArray), (⟨#[110, 111, 116]⟩ : ByteArray), (⟨#[97, 110, 100]⟩ : ByteArray), (⟨#[111, 114]⟩ : ByteArray), (⟨#[98, 101, 102, 111, 114, 101]⟩ : ByteArray), (⟨#[111, 110, 99, 101]⟩ : ByteArray), (⟨#[97, 108, 119, 97, 121, 115]⟩ : ByteArray), (⟨#[115, 105, 110, 99, 101]⟩ : ByteArray), (⟨#[100, 114, 111, 112]⟩ : ByteArray)] : List ByteArray))
set_option maxHeartbeats 8000000 in
set_option maxRecDepth 100000 in
theorem constableref01_words.calls  (r : List ByteArray) (w : World) (h : constableref01_words.f  = some r) :
  Calls Try.prog 99 #[] w fun e w' => ∃ v0_ : Value, e = .returned (v0_) ∧ Kd.R Kd.string 9 w' w.heap.size (fun _ => True) v0_ r ∧ Below w.heap.size w w' := by
 have HB := Aside0.mk (Below.refl w.heap.size w)
 have H : (some (([(⟨#[102, 97, 99, 116]⟩ : ByteArray), (⟨#[114, 117, 108, 101]⟩ : ByteArray), (⟨#[112, 97, 116, 116, 101, 114, 110]⟩ : ByteArray), (⟨#[110, 111, 116]⟩ : ByteArray), (⟨#[97, 110, 100]⟩ : ByteArray), (⟨#[111, 114]⟩ : ByteArray), (⟨#[98, 101, 102, 111, 114, 101]⟩ : ByteArray), (⟨#[111, 110, 99, 101]⟩ : ByteArray), (⟨#[97, 108, 119, 97, 121, 115]⟩ : ByteArray), (⟨#[115, 105, 110, 99, 101]⟩ : ByteArray), (⟨#[100, 114, 111, 112]⟩ : ByteArray)] : List ByteArray))) = some r := h
 clear h
 obtain ⟨y490, hy490⟩ : ∃ y_ : List ByteArray, y_ = (([(⟨#[102, 97, 99, 116]⟩ : ByteArray), (⟨#[114, 117, 108, 101]⟩ : ByteArray), (⟨#[112, 97, 116, 116, 101, 114, 110]⟩ : ByteArray), (⟨#[110, 111, 116]⟩ : ByteArray), (⟨#[97, 110, 100]⟩ : ByteArray), (⟨#[111, 114]⟩ : ByteArray), (⟨#[98, 101, 102, 111, 114, 101]⟩ : ByteArray), (⟨#[111, 110, 99, 101]⟩ : ByteArray), (⟨#[97, 108, 119, 97, 121, 115]⟩ : ByteArray), (⟨#[115, 105, 110, 99, 101]⟩ : ByteArray), (⟨#[100, 114, 111, 112]⟩ : ByteArray)] : List ByteArray)) := ⟨_, rfl⟩
 replace H : (some y490) = some r := by first | (rw [hy490]; with_reducible exact H) | (have H2_ := (Option.bind_some _ _).symm.trans H; rw [hy490]; with_reducible exact H2_) | (have H2_ := (Option.bind_some _ _).symm.trans H; with_reducible exact H2_) | with_reducible exact H | (rw [hy490]; exact H) | exact H
 have Ny490 := Aside0.mk hy490
 clear hy490
 obtain rfl := Option.some.inj H
 go_enter Try.func99, Try.ntmps99
 go_wp2_with (first | ((with_reducible refine gate_dst (N := 1) rfl ?_); refine Kd.R_lit Kd.string _ 9 ?hg (N := 1) ?hd (xs := ([(⟨#[102, 97, 99, 116]⟩ : ByteArray), (⟨#[114, 117, 108, 101]⟩ : ByteArray), (⟨#[112, 97, 116, 116, 101, 114, 110]⟩ : ByteArray), (⟨#[110, 111, 116]⟩ : ByteArray), (⟨#[97, 110, 100]⟩ : ByteArray), (⟨#[111, 114]⟩ : ByteArray), (⟨#[98, 101, 102, 111, 114, 101]⟩ : ByteArray), (⟨#[111, 110, 99, 101]⟩ : ByteArray), (⟨#[97, 108, 119, 97, 121, 115]⟩ : ByteArray), (⟨#[115, 105, 110, 99, 101]⟩ : ByteArray), (⟨#[100, 114, 111, 112]⟩ : ByteArray)] : List ByteArray)) (inner := [.string (⟨#[102, 97, 99, 116]⟩ : ByteArray), .string (⟨#[114, 117, 108, 101]⟩ : ByteArray), .string (⟨#[112, 97, 116, 116, 101, 114, 110]⟩ : ByteArray), .string (⟨#[110, 111, 116]⟩ : ByteArray), .string (⟨#[97, 110, 100]⟩ : ByteArray), .string (⟨#[111, 114]⟩ : ByteArray), .string (⟨#[98, 101, 102, 111, 114, 101]⟩ : ByteArray), .string (⟨#[111, 110, 99, 101]⟩ : ByteArray), .string (⟨#[97, 108, 119, 97, 121, 115]⟩ : ByteArray), .string (⟨#[115, 105, 110, 99, 101]⟩ : ByteArray), .string (⟨#[100, 114, 111, 112]⟩ : ByteArray)]) (ok := fun _ => True) (okp := fun _ => True) ?hr ?hp (fun _ hk => hk) trivial (Below.refl _ _) (Nat.le_refl _) (by simp) ?_; (case hd => rfl); (case hg => rfl); (case hr => first | (go_simp; done) | (go_simp; rfl)); (case hp => exact (Reps.one (show Kd.M Kd.string _ _ _ (⟨#[102, 97, 99, 116]⟩ : ByteArray) [.string (⟨#[102, 97, 99, 116]⟩ : ByteArray)] from rfl) (Reps.one (show Kd.M Kd.string _ _ _ (⟨#[114, 117, 108, 101]⟩ : ByteArray) [.string (⟨#[114, 117, 108, 101]⟩ : ByteArray)] from rfl) (Reps.one (show Kd.M Kd.string _ _ _ (⟨#[112, 97, 116, 116, 101, 114, 110]⟩ : ByteArray) [.string (⟨#[112, 97, 116, 116, 101, 114, 110]⟩ : ByteArray)] from rfl) (Reps.one (show Kd.M Kd.string _ _ _ (⟨#[110, 111, 116]⟩ : ByteArray) [.string (⟨#[110, 111, 116]⟩ : ByteArray)] from rfl) (Reps.one (show Kd.M Kd.string _ _ _ (⟨#[97, 110, 100]⟩ : ByteArray) [.string (⟨#[97, 110, 100]⟩ : ByteArray)] from rfl) (Reps.one (show Kd.M Kd.string _ _ _ (⟨#[111, 114]⟩ : ByteArray) [.string (⟨#[111, 114]⟩ : ByteArray)] from rfl) (Reps.one (show Kd.M Kd.string _ _ _ (⟨#[98, 101, 102, 111, 114, 101]⟩ : ByteArray) [.string (⟨#[98, 101, 102, 111, 114, 101]⟩ : ByteArray)] from rfl) (Reps.one (show Kd.M Kd.string _ _ _ (⟨#[111, 110, 99, 101]⟩ : ByteArray) [.string (⟨#[111, 110, 99, 101]⟩ : ByteArray)] from rfl) (Reps.one (show Kd.M Kd.string _ _ _ (⟨#[97, 108, 119, 97, 121, 115]⟩ : ByteArray) [.string (⟨#[97, 108, 119, 97, 121, 115]⟩ : ByteArray)] from rfl) (Reps.one (show Kd.M Kd.string _ _ _ (⟨#[115, 105, 110, 99, 101]⟩ : ByteArray) [.string (⟨#[115, 105, 110, 99, 101]⟩ : ByteArray)] from rfl) (Reps.one (show Kd.M Kd.string _ _ _ (⟨#[100, 114, 111, 112]⟩ : ByteArray) [.string (⟨#[100, 114, 111, 112]⟩ : ByteArray)] from rfl) (Reps.none _ _))))))))))))); intro v491 w1 ho2 hb hg_ hnew_; clear hg_ hnew_; (first | rw [← Ny490.out] at ho2 | (simp only [Int.reduceToNat] at ho2; rw [← Ny490.out] at ho2)); have n0_ := Aside0.mk (Kd.R_lower ho2 (below_size bB0)); have n1_ := Aside0.mk (below_step bB0 hb); clear HB; have HO492 := n0_; have HB := n1_; clear n0_ n1_; clear hb ho2))
 go_ret
 exact ⟨_, eW, by (with_reducible repeat (first | apply Kd.R_alloc | apply Kd.R_drewN | apply Kd.R_drew)); exact HO492.out, bB0⟩

end Go.Proofs.Ytghommaokdhjmaa.P
namespace Go.Proofs.Ytghommaokdhjmaa.P
open Go.RowKit Go.Proofs.YtghommaokdhjmaaW.PrintWords Go.Proofs.YtghommaokdhjmaaW.PrintLast Go.Proofs.Ytghommaokdhjmaa.Gate
set_option linter.unusedVariables false
set_option linter.unusedSimpArgs false

/-! ### constableref01_Name: function 74 -/
def constableref01_Name.l0 : Nat → ByteArray → List ByteArray → Int → Option (Bool)
 | 0, _, _, _ => none
 | k + 1, x0, x3, x4 => if x4 < (x3.length : Int) then (if 0 ≤ x4 then (if (rdOf ByteArray.empty x3 x4).toList = x0.toList then (some false) else (constableref01_Name.l0 k x0 x3 (wrap64 (x4 + 1)))) else (none)) else (some true)
def constableref01_Name.f (k : Nat) (a0 : ByteArray) : Option (Bool) := (constableref01_Word.f k a0 false).bind fun t493 => (if t493 = true then ((constableref01_words.f).bind fun t494 => (constableref01_Name.l0 k a0 t494 0)) else (some false))
theorem constableref01_Name.mono_l : ∀ k, (∀ y0 y1 y2, LeO (constableref01_Name.l0 k y0 y1 y2) (constableref01_Name.l0 (k + 1) y0 y1 y2))
 | 0 => fun _ _ _ r h => by simp [constableref01_Name.l0] at h
 | k + 1 => by
  have ih0 := constableref01_Name.mono_l k
  ·intro y0 y1 y2
   unfold constableref01_Name.l0
   repeat' first
   | (with_reducible exact ih0 _ _ _)
   | (with_reducible exact constableref01_Word.mono _ _ _)
   | (with_reducible exact LeO.refl _)
   | (with_reducible exact LeO.none _)
   | (with_reducible refine LeO.ite ?_ ?_)
   | (with_reducible refine LeO.bind ?_ (fun _ => ?_))
theorem constableref01_Name.mono : ∀ a0 k, LeO (constableref01_Name.f k a0) (constableref01_Name.f (k + 1) a0) := by
 intro a0 k
 have ih0 := constableref01_Name.mono_l k
 unfold constableref01_Name.f
 repeat' first
   | (with_reducible exact ih0 _ _ _)
   | (with_reducible exact constableref01_Word.mono _ _ _)
   | (with_reducible exact LeO.refl _)
   | (with_reducible exact LeO.none _)
   | (with_reducible refine LeO.ite ?_ ?_)
   | (with_reducible refine LeO.bind ?_ (fun _ => ?_))
set_option maxHeartbeats 8000000 in
set_option maxRecDepth 100000 in
theorem constableref01_Name.calls (k : Nat) (a0 : ByteArray) (r : Bool) (w : World) (h : constableref01_Name.f k a0 = some r) :
  Calls Try.prog 74 #[.string a0] w fun e w' => e = .returned (.bool r) ∧ Below w.heap.size w w' := by
 have HB := Aside0.mk (Below.refl w.heap.size w)
 have H : ((constableref01_Word.f k a0 false).bind fun t493 => (if t493 = true then ((constableref01_words.f).bind fun t494 => (constableref01_Name.l0 k a0 t494 0)) else (some false))) = some r := h
 clear h
 replace H := Option.bind_eq_some_iff.mp H
 obtain ⟨t493, A20, H⟩ := H
 replace H : (if t493 = true then ((constableref01_words.f).bind fun t494 => (constableref01_Name.l0 k a0 t494 0)) else (some false)) = some r := H
 have A2 := Aside0.mk A20
 clear A20
 by_cases c3 : t493 = true
 ·subst c3
  have H1 : ((constableref01_words.f).bind fun t494 => (constableref01_Name.l0 k a0 t494 0)) = some r := by rw [if_pos rfl] at H; exact H
  clear H
  have H := H1
  clear H1
  replace H := Option.bind_eq_some_iff.mp H
  obtain ⟨t494, A40, H⟩ := H
  replace H : (constableref01_Name.l0 k a0 t494 0) = some r := H
  have A4 := Aside0.mk A40
  clear A40
  have H' := Aside0.mk H
  clear H
  go_enter Try.func74, Try.ntmps74
  go_wp2_with (first | ((with_reducible refine gate_callee (f := 22) rfl ?_); refine goesL_ (some 6) rfl rfl Try.func22 (by kernel_rfl) rfl #[.string a0, .bool false] rfl aG ?_; (with_reducible refine (constableref01_Word.calls k a0 false true _ A2.out).mono ?_); rintro e w' ⟨rfl, ⟨nd, rfl⟩⟩; refine ⟨_, rfl, ?_⟩) | ((with_reducible refine gate_callee (f := 99) rfl ?_); refine goesL_ (some 8) rfl rfl Try.func99 (by kernel_rfl) rfl #[] rfl aG ?_; (with_reducible refine (constableref01_words.calls  t494 _ A4.out).mono ?_); rintro e w5 ⟨v495, rfl, ho0, hb⟩; refine ⟨_, rfl, ?_⟩; have n0_ := Aside0.mk (Kd.R_lower ho0 (below_size bB0)); have n1_ := Aside0.mk (below_step bB0 hb); clear HB; have HO496 := n0_; have HB := n1_; clear n0_ n1_; (try clear hb); (try clear hb2); (try clear hk); (try clear hi); (try clear ho0)))
  go_loopg [4] k (fun kq v4 w' => ∃ (x4_1 : Int), v4 = .int .i64 x4_1 ∧ Aside0 (constableref01_Name.l0 kq a0 t494 x4_1 = some r) ∧ Aside0 (kq ≤ k) ∧ Aside0 (Kd.R Kd.string 9 w' w.heap.size (fun _ => True) v495 t494) ∧ Aside0 (Below w.heap.size w w'))
  case atStart => exact ⟨(0), (by first | rfl | (simp; done) | (simp [*]; done)), H', ⟨Nat.le_refl _⟩, ⟨by (with_reducible repeat (first | apply Kd.R_alloc | apply Kd.R_drewN | apply Kd.R_drew)); exact HO496.out⟩, ⟨bB0⟩⟩
  case round =>
   clear H'
   (try clear c2); (try clear p2); (try clear c3)
   obtain ⟨x4_1, rfl, HA, HK1, HO_3, HB⟩ := hrel
   cases gk with
   | zero => exact absurd HA.out (by simp [constableref01_Name.l0])
   | succ k1 =>
    have H := HA.out
    clear HA
    simp only [constableref01_Name.l0] at H
    by_cases c6 : x4_1 < (t494.length : Int)
    ·rw [if_pos c6] at H
     have c6b0 : decide (x4_1 < (t494.length : Int)) = true := decide_eq_true c6
     clear c6
     by_cases c7 : 0 ≤ x4_1
     ·rw [if_pos c7] at H
      have c7b0 : decide (0 ≤ x4_1) = true := decide_eq_true c7
      clear c7
      by_cases c8 : (rdOf ByteArray.empty t494 x4_1).toList = a0.toList
      ·rw [if_pos c8] at H
       have c8b0 : ((rdOf ByteArray.empty t494 x4_1).toList == a0.toList) = true := beq_iff_eq.mpr c8
       have c8b1 : ((rdOf ByteArray.empty t494 x4_1).toList != a0.toList) = false := bne_eq_false_iff_eq.mpr c8
       clear c8
       obtain rfl := Option.some.inj H
       obtain ⟨Ao9, co9, eo9⟩ := Kd.R_slice HO_3.out
       subst eo9
       have p497 : 0 ≤ (x4_1 : Int) := of_decide_eq_true (by first | (with_reducible assumption) | assumption)
       have q497 : x4_1 < (t494.length : Int) := of_decide_eq_true (by first | (with_reducible assumption) | assumption)
       obtain ⟨ad497, e497, hx497_0⟩ := Kd.at_string (Kd.R_reads' HO_3.out).2.2 x4_1 p497 q497
       cases e497
       replace p497 := eq_true p497
       replace q497 := eq_true q497
       go_wp2
       go_ret
       exact ⟨eW, bB0⟩
      ·rw [if_neg c8] at H
       have c8b0 : ((rdOf ByteArray.empty t494 x4_1).toList == a0.toList) = false := beq_eq_false_iff_ne.mpr c8
       have c8b1 : ((rdOf ByteArray.empty t494 x4_1).toList != a0.toList) = true := bne_iff_ne.mpr c8
       have H' := Aside0.mk H
       clear H
       obtain ⟨Ao10, co10, eo10⟩ := Kd.R_slice HO_3.out
       subst eo10
       have p497 : 0 ≤ (x4_1 : Int) := of_decide_eq_true (by first | (with_reducible assumption) | assumption)
       have q497 : x4_1 < (t494.length : Int) := of_decide_eq_true (by first | (with_reducible assumption) | assumption)
       obtain ⟨ad497, e497, hx497_0⟩ := Kd.at_string (Kd.R_reads' HO_3.out).2.2 x4_1 p497 q497
       cases e497
       replace p497 := eq_true p497
       replace q497 := eq_true q497
       go_wp2
       go_roundg k1
       case measure => have := HK1.out; omega
       case rel => exact ⟨(wrap64 (x4_1 + 1)), (by first | rfl | (simp; done) | (simp [*]; done)), H', ⟨by have := HK1.out; omega⟩, ⟨by (with_reducible repeat (first | apply Kd.R_alloc | apply Kd.R_drewN | apply Kd.R_drew)); exact HO_3.out⟩, ⟨bB0⟩⟩
     ·rw [if_neg c7] at H
      exact absurd H (by simp)
    ·rw [if_neg c6] at H
     have c6b0 : decide (x4_1 < (t494.length : Int)) = false := decide_eq_false c6
     clear c6
     obtain rfl := Option.some.inj H
     obtain ⟨Ao11, co11, eo11⟩ := Kd.R_slice HO_3.out
     subst eo11
     go_wp2
     go_ret
     exact ⟨eW, bB0⟩
 ·replace c3 := Bool.eq_false_iff.mpr c3
  subst c3
  have H1 : (some false) = some r := by rw [if_neg (show ¬ (false = true) by decide)] at H; exact H
  clear H
  have H := H1
  clear H1
  obtain rfl := Option.some.inj H
  go_enter Try.func74, Try.ntmps74
  go_wp2_with (first | ((with_reducible refine gate_callee (f := 22) rfl ?_); refine goesL_ (some 6) rfl rfl Try.func22 (by kernel_rfl) rfl #[.string a0, .bool false] rfl aG ?_; (with_reducible refine (constableref01_Word.calls k a0 false false _ A2.out).mono ?_); rintro e w' ⟨rfl, ⟨nd, rfl⟩⟩; refine ⟨_, rfl, ?_⟩))
  go_ret
  exact ⟨eW, bB0⟩

end Go.Proofs.Ytghommaokdhjmaa.P
namespace Go.Proofs.Ytghommaokdhjmaa.P
open Go.RowKit Go.Proofs.YtghommaokdhjmaaW.PrintWords Go.Proofs.YtghommaokdhjmaaW.PrintLast Go.Proofs.Ytghommaokdhjmaa.Gate
set_option linter.unusedVariables false
set_option linter.unusedSimpArgs false

/-! ### constableref01_Fact: function 38 -/
mutual
def constableref01_Fact.j0 : Nat → Bool → ByteArray → List (S24) → Option (Bool)
 | 0, _, _, _ => none
 | k + 1, x13, x499000, x499001 => if x13 = true then (some false) else (constableref01_Fact.l0 k 0 x499000 x499001)
def constableref01_Fact.l0 : Nat → Int → ByteArray → List (S24) → Option (Bool)
 | 0, _, _, _ => none
 | k + 1, x3, x499000, x499001 => if x3 < (x499001.length : Int) then (if 0 ≤ x3 then ((constableref01_Value.f k ((rd_T24 x499001 x3).f0) ((rd_T24 x499001 x3).f1) ((rd_T24 x499001 x3).f2)).bind fun t501 => (if t501 = true then (constableref01_Fact.l0 k (wrap64 (x3 + 1)) x499000 x499001) else (some false))) else (none)) else (some true)
end
def constableref01_Fact.f (k : Nat) (a0_0 : ByteArray) (l0_1 : List (S24)) : Option (Bool) := (constableref01_Name.f k a0_0).bind fun t499 => (if t499 = true then (constableref01_Fact.j0 k (decide ((l0_1.length : Int) > 5)) a0_0 l0_1) else (constableref01_Fact.j0 k true a0_0 l0_1))
theorem constableref01_Fact.mono_l : ∀ k, (∀ y0 y1 y2, LeO (constableref01_Fact.j0 k y0 y1 y2) (constableref01_Fact.j0 (k + 1) y0 y1 y2)) ∧ (∀ y0 y1 y2, LeO (constableref01_Fact.l0 k y0 y1 y2) (constableref01_Fact.l0 (k + 1) y0 y1 y2))
 | 0 => ⟨fun _ _ _ r h => by simp [constableref01_Fact.j0] at h, fun _ _ _ r h => by simp [constableref01_Fact.l0] at h⟩
 | k + 1 => by
  obtain ⟨ih0, ih1⟩ := constableref01_Fact.mono_l k
  refine ⟨?_, ?_⟩
  ·intro y0 y1 y2
   unfold constableref01_Fact.j0
   repeat' first
   | (with_reducible exact ih0 _ _ _)
   | (with_reducible exact ih1 _ _ _)
   | (with_reducible exact constableref01_Name.mono _ _)
   | (with_reducible exact constableref01_Value.mono _ _ _ _)
   | (with_reducible exact LeO.refl _)
   | (with_reducible exact LeO.none _)
   | (with_reducible refine LeO.ite ?_ ?_)
   | (with_reducible refine LeO.bind ?_ (fun _ => ?_))
  ·intro y0 y1 y2
   unfold constableref01_Fact.l0
   repeat' first
   | (with_reducible exact ih0 _ _ _)
   | (with_reducible exact ih1 _ _ _)
   | (with_reducible exact constableref01_Name.mono _ _)
   | (with_reducible exact constableref01_Value.mono _ _ _ _)
   | (with_reducible exact LeO.refl _)
   | (with_reducible exact LeO.none _)
   | (with_reducible refine LeO.ite ?_ ?_)
   | (with_reducible refine LeO.bind ?_ (fun _ => ?_))
theorem constableref01_Fact.mono : ∀ a0 a1 k, LeO (constableref01_Fact.f k a0 a1) (constableref01_Fact.f (k + 1) a0 a1) := by
 intro a0 a1 k
 obtain ⟨ih0, ih1⟩ := constableref01_Fact.mono_l k
 unfold constableref01_Fact.f
 repeat' first
   | (with_reducible exact ih0 _ _ _)
   | (with_reducible exact ih1 _ _ _)
   | (with_reducible exact constableref01_Name.mono _ _)
   | (with_reducible exact constableref01_Value.mono _ _ _ _)
   | (with_reducible exact LeO.refl _)
   | (with_reducible exact LeO.none _)
   | (with_reducible refine LeO.ite ?_ ?_)
   | (with_reducible refine LeO.bind ?_ (fun _ => ?_))
set_option maxHeartbeats 8000000 in
set_option maxRecDepth 100000 in
theorem constableref01_Fact.calls (k : Nat) (a0_0 : ByteArray) (A0_1 : Option Addr) (c0_1 : Nat) (l0_1 : List (S24)) (r : Bool) (w : World) (hr0_1 : Kd.C k24 w A0_1 l0_1.length l0_1) (hc0_1 : l0_1.length ≤ c0_1) (h : constableref01_Fact.f k a0_0 l0_1 = some r) :
  Calls Try.prog 38 #[.agg #[.string a0_0, .slice A0_1 l0_1.length c0_1]] w fun e w' => e = .returned (.bool r) ∧ Below w.heap.size w w' := by
 have hu53 := Try.underlying53
 have hu24 := Try.underlying24
 have HR0_1 := Aside0.mk hr0_1
 have HC0_1 := Aside0.mk hc0_1
 clear hr0_1 hc0_1
 have HB := Aside0.mk (Below.refl w.heap.size w)
 have H : ((constableref01_Name.f k a0_0).bind fun t499 => (if t499 = true then (constableref01_Fact.j0 k (decide ((l0_1.length : Int) > 5)) a0_0 l0_1) else (constableref01_Fact.j0 k true a0_0 l0_1))) = some r := h
 clear h
 have HC2 := Aside0.mk H
 clear H
 go_enter Try.func38, Try.ntmps38
 go_upto_region 1 with (first | ((with_reducible refine gate_dst (N := 1) rfl ?_); (try (refine gate_guard (by rfl) ?_; dsimp only)); refine bE (N := 1) (cs := #[.string a0_0, .slice A0_1 l0_1.length c0_1]) (t := 53) ?_; intro gb498 hg w3 hbox hb; have n0_ := Aside0.mk (below_step bB0 hb); have n1_ := Aside0.mk (hbox); have n2_ := Aside0.mk ((by rw [hg]; exact (below_size bB0) : w.heap.size ≤ gb498)); have n3_ := Aside0.mk ((by rw [hg]; exact (below_size bB0) : w.heap.size ≤ gb498)); clear HB; have HB := n0_; have BK498 := n1_; have GW498 := n2_; have GE498 := n3_; clear n0_ n1_ n2_ n3_; clear hb hbox hg))
 (try simp only [Act.put, List.setIfInBounds_toArray, List.set_cons_zero, List.set_cons_succ])
 go_cut [13] (fun v13 wc => ∃ (kq : Nat) (x13_1 : Bool), v13 = .bool x13_1 ∧ Aside0 (constableref01_Fact.j0 kq x13_1 a0_0 l0_1 = some r) ∧ Aside0 (kq ≤ k) ∧ Aside0 (wc.heap[gb498]? = some (.cells #[.string a0_0, (.slice A0_1 l0_1.length c0_1)] 53 (0, 0))) ∧ Aside0 (Below w.heap.size w wc))
 case first =>
  have H := HC2.out
  clear HC2
  replace H := Option.bind_eq_some_iff.mp H
  obtain ⟨t499, A40, H⟩ := H
  replace H : (if t499 = true then (constableref01_Fact.j0 k (decide ((l0_1.length : Int) > 5)) a0_0 l0_1) else (constableref01_Fact.j0 k true a0_0 l0_1)) = some r := H
  have A4 := Aside0.mk A40
  clear A40
  by_cases c5 : t499 = true
  ·subst c5
   have H1 : (constableref01_Fact.j0 k (decide ((l0_1.length : Int) > 5)) a0_0 l0_1) = some r := by rw [if_pos rfl] at H; exact H
   clear H
   have H := H1
   clear H1
   have H' := Aside0.mk H
   clear H
   have hcz6_0 : w3.cell? ⟨gb498, 0, none⟩ = some (.string a0_0) := (blk_cell BK498.out 0).trans rfl
   have hcz6_1 : w3.cell? ⟨gb498, 1, none⟩ = some (.slice A0_1 l0_1.length c0_1) := (blk_cell BK498.out 1).trans rfl
   have hfz6_0 := blk_frozen BK498.out 0
   have hfz6_1 := blk_frozen BK498.out 1
   go_wp2_with (first | ((with_reducible refine gate_callee (f := 74) rfl ?_); refine goesL_ (some 6) rfl rfl Try.func74 (by kernel_rfl) rfl #[.string a0_0] rfl aG ?_; (with_reducible refine (constableref01_Name.calls k a0_0 true _ A4.out).mono ?_); rintro e w7 ⟨rfl, hb⟩; refine ⟨_, rfl, ?_⟩; have n0_ := Aside0.mk (blk_below (g := gb498) (o := .cells #[.string a0_0, .slice A0_1 l0_1.length c0_1] 53 (0, 0)) (by refine bk ?_; exact BK498.out) hb); have n1_ := Aside0.mk (below_step (bB1 GE498.out) hb); clear BK498; clear HB; have BK498 := n0_; have HB := n1_; clear n0_ n1_; (try clear hb); (try clear hb2); (try clear hk); (try clear hi); have hcz8_0 : w7.cell? ⟨gb498, 0, none⟩ = some (.string a0_0) := (blk_cell BK498.out 0).trans rfl; have hcz8_1 : w7.cell? ⟨gb498, 1, none⟩ = some (.slice A0_1 l0_1.length c0_1) := (blk_cell BK498.out 1).trans rfl; have hfz8_0 := blk_frozen BK498.out 0; have hfz8_1 := blk_frozen BK498.out 1))
   go_meet
   case rel => exact ⟨_, (decide ((l0_1.length : Int) > 5)), (by first | rfl | (simp; done) | (simp [*]; done)), H', ⟨by first | omega | exact Nat.le_refl _⟩, ⟨by refine bk ?_; exact BK498.out⟩, ⟨(bB1 GE498.out)⟩⟩
  ·replace c5 := Bool.eq_false_iff.mpr c5
   subst c5
   have H1 : (constableref01_Fact.j0 k true a0_0 l0_1) = some r := by rw [if_neg (show ¬ (false = true) by decide)] at H; exact H
   clear H
   have H := H1
   clear H1
   have H' := Aside0.mk H
   clear H
   have hcz9_0 : w3.cell? ⟨gb498, 0, none⟩ = some (.string a0_0) := (blk_cell BK498.out 0).trans rfl
   have hcz9_1 : w3.cell? ⟨gb498, 1, none⟩ = some (.slice A0_1 l0_1.length c0_1) := (blk_cell BK498.out 1).trans rfl
   have hfz9_0 := blk_frozen BK498.out 0
   have hfz9_1 := blk_frozen BK498.out 1
   go_wp2_with (first | ((with_reducible refine gate_callee (f := 74) rfl ?_); refine goesL_ (some 6) rfl rfl Try.func74 (by kernel_rfl) rfl #[.string a0_0] rfl aG ?_; (with_reducible refine (constableref01_Name.calls k a0_0 false _ A4.out).mono ?_); rintro e w10 ⟨rfl, hb⟩; refine ⟨_, rfl, ?_⟩; have n0_ := Aside0.mk (blk_below (g := gb498) (o := .cells #[.string a0_0, .slice A0_1 l0_1.length c0_1] 53 (0, 0)) (by refine bk ?_; exact BK498.out) hb); have n1_ := Aside0.mk (below_step (bB1 GE498.out) hb); clear BK498; clear HB; have BK498 := n0_; have HB := n1_; clear n0_ n1_; (try clear hb); (try clear hb2); (try clear hk); (try clear hi)))
   go_meet
   case rel => exact ⟨_, (true), (by first | rfl | (simp; done) | (simp [*]; done)), H', ⟨by first | omega | exact Nat.le_refl _⟩, ⟨by refine bk ?_; exact BK498.out⟩, ⟨(bB1 GE498.out)⟩⟩
 case rest =>
  clear HC2
  (try clear p2); (try clear c3); (try clear c5); (try clear c7); (try clear hcz6_0); (try clear hcz6_1); (try clear hcz8_0); (try clear hcz8_1); (try clear hcz9_0); (try clear hcz9_1); (try clear hfz6_0); (try clear hfz6_1); (try clear hfz8_0); (try clear hfz8_1); (try clear hfz9_0); (try clear hfz9_1)
  obtain ⟨kq, x13_1, rfl, HA, HJ1, BK498, HB⟩ := hcut
  cases kq with
  | zero => exact absurd HA.out (by simp [constableref01_Fact.j0])
  | succ kj1 =>
   have H := HA.out
   clear HA
   simp only [constableref01_Fact.j0] at H
   by_cases c11 : x13_1 = true
   ·subst c11
    have H1 : (some false) = some r := by rw [if_pos rfl] at H; exact H
    clear H
    have H := H1
    clear H1
    obtain rfl := Option.some.inj H
    go_wp2
    go_ret
    exact ⟨eW, (bB1 GE498.out)⟩
   ·replace c11 := Bool.eq_false_iff.mpr c11
    subst c11
    have H1 : (constableref01_Fact.l0 kj1 0 a0_0 l0_1) = some r := by rw [if_neg (show ¬ (false = true) by decide)] at H; exact H
    clear H
    have H := H1
    clear H1
    have H' := Aside0.mk H
    clear H
    go_wp2
    go_loopg [3] kj1 (fun kq v3 w' => ∃ (x3_2 : Int), v3 = .int .i64 x3_2 ∧ Aside0 (constableref01_Fact.l0 kq x3_2 a0_0 l0_1 = some r) ∧ Aside0 (kq ≤ kj1) ∧ Aside0 (w'.heap[gb498]? = some (.cells #[.string a0_0, (.slice A0_1 l0_1.length c0_1)] 53 (0, 0))) ∧ Aside0 (Below w.heap.size w w'))
    case atStart => exact ⟨(0), (by first | rfl | (simp; done) | (simp [*]; done)), H', ⟨Nat.le_refl _⟩, ⟨by refine bk ?_; exact BK498.out⟩, ⟨(bB1 GE498.out)⟩⟩
    case round =>
     clear H'
     (try clear c1); (try clear p2); (try clear c3); (try clear c5); (try clear c7); (try clear c11); (try clear hcz6_0); (try clear hcz6_1); (try clear hcz8_0); (try clear hcz8_1); (try clear hcz9_0); (try clear hcz9_1); (try clear hfz6_0); (try clear hfz6_1); (try clear hfz8_0); (try clear hfz8_1); (try clear hfz9_0); (try clear hfz9_1); (try clear p2)
     obtain ⟨x3_2, rfl, HA, HK2, BK498, HB⟩ := hrel
     cases gk with
     | zero => exact absurd HA.out (by simp [constableref01_Fact.l0])
     | succ k2 =>
      have H := HA.out
      clear HA
      simp only [constableref01_Fact.l0] at H
      by_cases c12 : x3_2 < (l0_1.length : Int)
      ·rw [if_pos c12] at H
       have c12b0 : decide (x3_2 < (l0_1.length : Int)) = true := decide_eq_true c12
       clear c12
       by_cases c13 : 0 ≤ x3_2
       ·rw [if_pos c13] at H
        have c13b0 : decide (0 ≤ x3_2) = true := decide_eq_true c13
        clear c13
        replace H := Option.bind_eq_some_iff.mp H
        obtain ⟨t501, A140, H⟩ := H
        replace H : (if t501 = true then (constableref01_Fact.l0 k2 (wrap64 (x3_2 + 1)) a0_0 l0_1) else (some false)) = some r := H
        have A14 := Aside0.mk A140
        clear A140
        by_cases c15 : t501 = true
        ·subst c15
         have H1 : (constableref01_Fact.l0 k2 (wrap64 (x3_2 + 1)) a0_0 l0_1) = some r := by rw [if_pos rfl] at H; exact H
         clear H
         have H := H1
         clear H1
         have H' := Aside0.mk H
         clear H
         have hcz16_0 : wr.cell? ⟨gb498, 0, none⟩ = some (.string a0_0) := (blk_cell BK498.out 0).trans rfl
         have hcz16_1 : wr.cell? ⟨gb498, 1, none⟩ = some (.slice A0_1 l0_1.length c0_1) := (blk_cell BK498.out 1).trans rfl
         have hfz16_0 := blk_frozen BK498.out 0
         have hfz16_1 := blk_frozen BK498.out 1
         have p500 : 0 ≤ (x3_2 : Int) := of_decide_eq_true (by first | (with_reducible assumption) | assumption)
         have q500 : x3_2 < (l0_1.length : Int) := of_decide_eq_true (by first | (with_reducible assumption) | assumption)
         obtain ⟨ad500, e500, hx500_0, hx500_1, hx500_2⟩ := at_T24 HR0_1.out x3_2 p500 q500
         cases e500
         replace hx500_0 := (HB.out.cell (World.block_lt_of_cell? w _ hx500_0)).trans hx500_0
         replace hx500_1 := (HB.out.cell (World.block_lt_of_cell? w _ hx500_1)).trans hx500_1
         replace hx500_2 := (HB.out.cell (World.block_lt_of_cell? w _ hx500_2)).trans hx500_2
         replace p500 := eq_true p500
         replace q500 := eq_true q500
         go_wp2_with (first | ((with_reducible refine gate_callee (f := 26) rfl ?_); refine goesL_ (some 26) rfl rfl Try.func26 (by kernel_rfl) rfl #[.agg #[.int .i64 ((rd_T24 l0_1 x3_2).f0), .int .i64 ((rd_T24 l0_1 x3_2).f1), .string ((rd_T24 l0_1 x3_2).f2)]] rfl aG ?_; (with_reducible refine (constableref01_Value.calls k2 ((rd_T24 l0_1 x3_2).f0) ((rd_T24 l0_1 x3_2).f1) ((rd_T24 l0_1 x3_2).f2) true _ A14.out).mono ?_); rintro e w17 ⟨rfl, hb⟩; refine ⟨_, rfl, ?_⟩; have n0_ := Aside0.mk (blk_below (g := gb498) (o := .cells #[.string a0_0, .slice (some ad500) l0_1.length c0_1] 53 (0, 0)) (by refine bk ?_; exact BK498.out) hb); have n1_ := Aside0.mk (below_step (bB1 GE498.out) hb); clear BK498; clear HB; have BK498 := n0_; have HB := n1_; clear n0_ n1_; (try clear hb); (try clear hb2); (try clear hk); (try clear hi)))
         go_roundg k2
         case measure => have := HJ1.out; have := HK2.out; omega
         case rel => exact ⟨(wrap64 (x3_2 + 1)), (by first | rfl | (simp; done) | (simp [*]; done)), H', ⟨by have := HJ1.out; have := HK2.out; omega⟩, ⟨by refine bk ?_; exact BK498.out⟩, ⟨(bB1 GE498.out)⟩⟩
        ·replace c15 := Bool.eq_false_iff.mpr c15
         subst c15
         have H1 : (some false) = some r := by rw [if_neg (show ¬ (false = true) by decide)] at H; exact H
         clear H
         have H := H1
         clear H1
         obtain rfl := Option.some.inj H
         have hcz18_0 : wr.cell? ⟨gb498, 0, none⟩ = some (.string a0_0) := (blk_cell BK498.out 0).trans rfl
         have hcz18_1 : wr.cell? ⟨gb498, 1, none⟩ = some (.slice A0_1 l0_1.length c0_1) := (blk_cell BK498.out 1).trans rfl
         have hfz18_0 := blk_frozen BK498.out 0
         have hfz18_1 := blk_frozen BK498.out 1
         have p500 : 0 ≤ (x3_2 : Int) := of_decide_eq_true (by first | (with_reducible assumption) | assumption)
         have q500 : x3_2 < (l0_1.length : Int) := of_decide_eq_true (by first | (with_reducible assumption) | assumption)
         obtain ⟨ad500, e500, hx500_0, hx500_1, hx500_2⟩ := at_T24 HR0_1.out x3_2 p500 q500
         cases e500
         replace hx500_0 := (HB.out.cell (World.block_lt_of_cell? w _ hx500_0)).trans hx500_0
         replace hx500_1 := (HB.out.cell (World.block_lt_of_cell? w _ hx500_1)).trans hx500_1
         replace hx500_2 := (HB.out.cell (World.block_lt_of_cell? w _ hx500_2)).trans hx500_2
         replace p500 := eq_true p500
         replace q500 := eq_true q500
         go_wp2_with (first | ((with_reducible refine gate_callee (f := 26) rfl ?_); refine goesL_ (some 26) rfl rfl Try.func26 (by kernel_rfl) rfl #[.agg #[.int .i64 ((rd_T24 l0_1 x3_2).f0), .int .i64 ((rd_T24 l0_1 x3_2).f1), .string ((rd_T24 l0_1 x3_2).f2)]] rfl aG ?_; (with_reducible refine (constableref01_Value.calls k2 ((rd_T24 l0_1 x3_2).f0) ((rd_T24 l0_1 x3_2).f1) ((rd_T24 l0_1 x3_2).f2) false _ A14.out).mono ?_); rintro e w19 ⟨rfl, hb⟩; refine ⟨_, rfl, ?_⟩; have n0_ := Aside0.mk (blk_below (g := gb498) (o := .cells #[.string a0_0, .slice (some ad500) l0_1.length c0_1] 53 (0, 0)) (by refine bk ?_; exact BK498.out) hb); have n1_ := Aside0.mk (below_step (bB1 GE498.out) hb); clear BK498; clear HB; have BK498 := n0_; have HB := n1_; clear n0_ n1_; (try clear hb); (try clear hb2); (try clear hk); (try clear hi)))
         go_ret
         exact ⟨eW, (bB1 GE498.out)⟩
       ·rw [if_neg c13] at H
        exact absurd H (by simp)
      ·rw [if_neg c12] at H
       have c12b0 : decide (x3_2 < (l0_1.length : Int)) = false := decide_eq_false c12
       clear c12
       obtain rfl := Option.some.inj H
       have hcz20_0 : wr.cell? ⟨gb498, 0, none⟩ = some (.string a0_0) := (blk_cell BK498.out 0).trans rfl
       have hcz20_1 : wr.cell? ⟨gb498, 1, none⟩ = some (.slice A0_1 l0_1.length c0_1) := (blk_cell BK498.out 1).trans rfl
       have hfz20_0 := blk_frozen BK498.out 0
       have hfz20_1 := blk_frozen BK498.out 1
       go_wp2
       go_ret
       exact ⟨eW, (bB1 GE498.out)⟩

end Go.Proofs.Ytghommaokdhjmaa.P
namespace Go.Proofs.Ytghommaokdhjmaa.P
open Go.RowKit Go.Proofs.YtghommaokdhjmaaW.PrintWords Go.Proofs.YtghommaokdhjmaaW.PrintLast Go.Proofs.Ytghommaokdhjmaa.Gate
set_option linter.unusedVariables false
set_option linter.unusedSimpArgs false

attribute [local go_sem high] eqA24
/-! ### constablelaw06_MatchFree: function 13 -/
mutual
def constablelaw06_MatchFree.l0 : Nat → List ByteArray → Int → ByteArray → List (S24) → ByteArray → List (S24) → ByteArray → List (S77) → ByteArray → List (S77) → Option (Bool)
 | 0, _, _, _, _, _, _, _, _, _, _ => none
 | k + 1, x7, x8, x831000, x831001, x832000, x832001, x837000, x837001, x838000, x838001 => if x8 < (x831001.length : Int) then (if 0 ≤ x8 then (if x8 < (x7.length : Int) then (if x837001.length < 2932031007402 then (if x838001.length < 2932031007402 then (constablelaw06_MatchFree.l0 k x7 (wrap64 (x8 + 1)) x831000 x831001 x832000 x832001 x837000 (x837001 ++ [(⟨rdOf ByteArray.empty x7 x8, (⟨0, 0, (⟨#[]⟩ : ByteArray)⟩ : S24)⟩ : S77)]) x838000 (x838001 ++ [(⟨(⟨#[]⟩ : ByteArray), (⟨(rd_T24 x831001 x8).f0, (rd_T24 x831001 x8).f1, (rd_T24 x831001 x8).f2⟩ : S24)⟩ : S77)])) else (none)) else (none)) else (none)) else (none)) else ((match_One.f x837000 x837001 x832000 x832001 ([] : List (S39))).bind fun bt849 => ((match_One.f x838000 x838001 x832000 x832001 ([] : List (S39))).bind fun bt853 => (if x831000.toList = x832000.toList then (if (bt849.2 != ((x831001.length : Int) == (x832001.length : Int))) = true then (none) else ((constablekeep_Fact.f k x831000 x831001 x832000 x832001).bind fun t857 => (if (bt853.2 != t857) = true then (none) else (if (bt853.1.length : Int) > 0 then (none) else (constablelaw06_MatchFree.l1 k x7 bt849.1 bt849.2 0 x832000 x832001))))) else (if (bt849.2 != false) = true then (none) else ((constablekeep_Fact.f k x831000 x831001 x832000 x832001).bind fun t867 => (if (bt853.2 != t867) = true then (none) else (if (bt853.1.length : Int) > 0 then (none) else (constablelaw06_MatchFree.l101 k x7 bt849.1 bt849.2 0 x832000 x832001))))))))
def constablelaw06_MatchFree.l1 : Nat → List ByteArray → List (S39) → Bool → Int → ByteArray → List (S24) → Option (Bool)
 | 0, _, _, _, _, _, _ => none
 | k + 1, x7, x9, x10, x13, x832000, x832001 => if x13 < (x832001.length : Int) then (if x10 = true then (if 0 ≤ x13 then (if x13 < (x7.length : Int) then ((subst_Get.f k x9 (rdOf ByteArray.empty x7 x13)).bind fun bt859 => (if bt859.2.2.2 = true then (if (!(bt859.1 == ((rd_T24 x832001 x13).f0)) || (!(bt859.2.1 == ((rd_T24 x832001 x13).f1)) || (!(bt859.2.2.1.toList == (((rd_T24 x832001 x13).f2).toList))))) = true then (none) else (constablelaw06_MatchFree.l1 k x7 x9 x10 (wrap64 (x13 + 1)) x832000 x832001)) else (none))) else (none)) else (none)) else ((constablelaw06_wakes.f k).bind fun t865 => (some t865))) else ((constablelaw06_wakes.f k).bind fun t866 => (some t866))
def constablelaw06_MatchFree.l101 : Nat → List ByteArray → List (S39) → Bool → Int → ByteArray → List (S24) → Option (Bool)
 | 0, _, _, _, _, _, _ => none
 | k + 1, x7, x9, x10, x13, x832000, x832001 => if x13 < (x832001.length : Int) then (if x10 = true then (if 0 ≤ x13 then (if x13 < (x7.length : Int) then ((subst_Get.f k x9 (rdOf ByteArray.empty x7 x13)).bind fun bt869 => (if bt869.2.2.2 = true then (if (!(bt869.1 == ((rd_T24 x832001 x13).f0)) || (!(bt869.2.1 == ((rd_T24 x832001 x13).f1)) || (!(bt869.2.2.1.toList == (((rd_T24 x832001 x13).f2).toList))))) = true then (none) else (constablelaw06_MatchFree.l101 k x7 x9 x10 (wrap64 (x13 + 1)) x832000 x832001)) else (none))) else (none)) else (none)) else ((constablelaw06_wakes.f k).bind fun t875 => (some t875))) else ((constablelaw06_wakes.f k).bind fun t876 => (some t876))
end
def constablelaw06_MatchFree.f (k : Nat) (a0_0 : ByteArray) (l0_1 : List (S24)) (a1_0 : ByteArray) (l1_1 : List (S24)) : Option (Bool) := (constablelaw03_Heavy.f k a0_0 l0_1).bind fun t832 => (if t832 = true then (some true) else ((constablelaw03_Heavy.f k a1_0 l1_1).bind fun t833 => (if t833 = true then (some true) else ((constableref01_Fact.f k a0_0 l0_1).bind fun t834 => (if t834 = true then ((constableref01_Fact.f k a1_0 l1_1).bind fun t835 => (if t835 = true then (constablelaw06_MatchFree.l0 k (([(⟨#[65]⟩ : ByteArray), (⟨#[66]⟩ : ByteArray), (⟨#[67]⟩ : ByteArray), (⟨#[68]⟩ : ByteArray), (⟨#[69]⟩ : ByteArray)] : List ByteArray)) 0 a0_0 l0_1 a1_0 l1_1 a0_0 ([] : List (S77)) a0_0 ([] : List (S77))) else (some true))) else (some true))))))
def constablelaw06_MatchFree.T3 : Bool × List (List Nat × List Nat) := (true, [([], []), ([0], [0]), ([1], [1]), ([], []), ([3], [3]), ([4], [4]), ([], []), ([], []), ([6, 2, 0, 1, 2, 6, 7], [2, 6]), ([7, 5, 8, 0, 1, 2, 3, 4, 5, 6, 7, 8], [5, 7])])
def constablelaw06_MatchFree.B3 : List Nat := [0, 1, 3, 0, 8, 24, 0, 0, 199, 511]
theorem constablelaw06_MatchFree.tab3 : rtab .any (opsOf Try.f13 3) = constablelaw06_MatchFree.T3 := by kernel_rfl
theorem constablelaw06_MatchFree.bits3 : waitsOk constablelaw06_MatchFree.T3.2 constablelaw06_MatchFree.B3 = true := by kernel_rfl
def constablelaw06_MatchFree.T8 : Bool × List (List Nat × List Nat) := (true, [([], []), ([0], [0]), ([], []), ([], []), ([2, 3], [2, 3]), ([4], [4]), ([5], [5]), ([6], [6]), ([1, 7], [1, 7]), ([0, 1, 2, 3, 4, 5, 6, 7, 8], []), ([9, 8, 8, 0, 1, 2, 3, 4, 5, 6, 7, 8], [8, 9])])
def constablelaw06_MatchFree.B8 : List Nat := [0, 1, 0, 0, 12, 28, 60, 124, 255, 511, 1023]
theorem constablelaw06_MatchFree.tab8 : rtab .any (opsOf Try.f13 8) = constablelaw06_MatchFree.T8 := by kernel_rfl
theorem constablelaw06_MatchFree.bits8 : waitsOk constablelaw06_MatchFree.T8.2 constablelaw06_MatchFree.B8 = true := by kernel_rfl
def constablelaw06_MatchFree.T9 : Bool × List (List Nat × List Nat) := (true, [([], []), ([0], [0]), ([], []), ([2], [2]), ([], []), ([3, 4], [3, 4]), ([5], [5]), ([6], [6]), ([7], [7]), ([1, 8], [1, 8]), ([0, 1, 2, 3, 4, 5, 6, 7, 8, 9], []), ([10, 9, 9, 0, 1, 2, 3, 4, 5, 6, 7, 8, 9], [9, 10])])
def constablelaw06_MatchFree.B9 : List Nat := [0, 1, 0, 4, 0, 28, 60, 124, 252, 511, 1023, 2047]
theorem constablelaw06_MatchFree.tab9 : rtab .any (opsOf Try.f13 9) = constablelaw06_MatchFree.T9 := by kernel_rfl
theorem constablelaw06_MatchFree.bits9 : waitsOk constablelaw06_MatchFree.T9.2 constablelaw06_MatchFree.B9 = true := by kernel_rfl
def constablelaw06_MatchFree.T18 : Bool × List (List Nat × List Nat) := (true, [([], []), ([0], [0]), ([1], [1]), ([2], [2]), ([2], [2]), ([4, 2], [2, 4]), ([2], [2]), ([5, 6, 2], [2, 5, 6]), ([7, 2], [2, 7]), ([3, 8, 2], [2, 3, 8]), ([2, 9], [2, 9])])
def constablelaw06_MatchFree.B18 : List Nat := [0, 1, 3, 7, 7, 23, 7, 119, 247, 511, 1023]
theorem constablelaw06_MatchFree.tab18 : rtab .any (opsOf Try.f13 18) = constablelaw06_MatchFree.T18 := by kernel_rfl
theorem constablelaw06_MatchFree.bits18 : waitsOk constablelaw06_MatchFree.T18.2 constablelaw06_MatchFree.B18 = true := by kernel_rfl
set_option maxHeartbeats 8000000 in
set_option maxRecDepth 100000 in
theorem constablelaw06_MatchFree.calls (k : Nat) (a0_0 : ByteArray) (A0_1 : Option Addr) (c0_1 : Nat) (l0_1 : List (S24)) (a1_0 : ByteArray) (A1_1 : Option Addr) (c1_1 : Nat) (l1_1 : List (S24)) (r : Bool) (w : World) (hr0_1 : Kd.C k24 w A0_1 l0_1.length l0_1) (hc0_1 : l0_1.length ≤ c0_1) (hr1_1 : Kd.C k24 w A1_1 l1_1.length l1_1) (hc1_1 : l1_1.length ≤ c1_1) (h : constablelaw06_MatchFree.f k a0_0 l0_1 a1_0 l1_1 = some r) :
  Calls Try.prog 13 #[.agg #[.string a0_0, .slice A0_1 l0_1.length c0_1], .agg #[.string a1_0, .slice A1_1 l1_1.length c1_1]] w fun e w' => e = .returned (.bool r) ∧ Below w.heap.size w w' := by
 have hu53 := Try.underlying53
 have hu69 := Try.underlying69
 have hu77 := Try.underlying77
 have hu24 := Try.underlying24
 have HR0_1 := Aside0.mk hr0_1
 have HC0_1 := Aside0.mk hc0_1
 clear hr0_1 hc0_1
 have HR1_1 := Aside0.mk hr1_1
 have HC1_1 := Aside0.mk hc1_1
 clear hr1_1 hc1_1
 have HB := Aside0.mk (Below.refl w.heap.size w)
 have H : ((constablelaw03_Heavy.f k a0_0 l0_1).bind fun t832 => (if t832 = true then (some true) else ((constablelaw03_Heavy.f k a1_0 l1_1).bind fun t833 => (if t833 = true then (some true) else ((constableref01_Fact.f k a0_0 l0_1).bind fun t834 => (if t834 = true then ((constableref01_Fact.f k a1_0 l1_1).bind fun t835 => (if t835 = true then (constablelaw06_MatchFree.l0 k (([(⟨#[65]⟩ : ByteArray), (⟨#[66]⟩ : ByteArray), (⟨#[67]⟩ : ByteArray), (⟨#[68]⟩ : ByteArray), (⟨#[69]⟩ : ByteArray)] : List ByteArray)) 0 a0_0 l0_1 a1_0 l1_1 a0_0 ([] : List (S77)) a0_0 ([] : List (S77))) else (some true))) else (some true))))))) = some r := h
 clear h
 replace H := Option.bind_eq_some_iff.mp H
 obtain ⟨t832, A30, H⟩ := H
 replace H : (if t832 = true then (some true) else ((constablelaw03_Heavy.f k a1_0 l1_1).bind fun t833 => (if t833 = true then (some true) else ((constableref01_Fact.f k a0_0 l0_1).bind fun t834 => (if t834 = true then ((constableref01_Fact.f k a1_0 l1_1).bind fun t835 => (if t835 = true then (constablelaw06_MatchFree.l0 k (([(⟨#[65]⟩ : ByteArray), (⟨#[66]⟩ : ByteArray), (⟨#[67]⟩ : ByteArray), (⟨#[68]⟩ : ByteArray), (⟨#[69]⟩ : ByteArray)] : List ByteArray)) 0 a0_0 l0_1 a1_0 l1_1 a0_0 ([] : List (S77)) a0_0 ([] : List (S77))) else (some true))) else (some true)))))) = some r := H
 have A3 := Aside0.mk A30
 clear A30
 by_cases c4 : t832 = true
 ·subst c4
  have H1 : (some true) = some r := by rw [if_pos rfl] at H; exact H
  clear H
  have H := H1
  clear H1
  obtain rfl := Option.some.inj H
  go_enter Try.func13, Try.ntmps13
  go_wp2_with (first | ((with_reducible refine gate_dst (N := 2) rfl ?_); (try (refine gate_guard (by rfl) ?_; dsimp only)); refine bE (N := 2) (cs := #[.string a0_0, .slice A0_1 l0_1.length c0_1]) (t := 53) ?_; intro gb830 hg w5 hbox hb; have n0_ := Aside0.mk (below_step bB0 hb); have n1_ := Aside0.mk (hbox); have n2_ := Aside0.mk ((by rw [hg]; exact (below_size bB0) : w.heap.size ≤ gb830)); have n3_ := Aside0.mk ((by rw [hg]; exact (below_size bB0) : w.heap.size ≤ gb830)); clear HB; have HB := n0_; have BK830 := n1_; have GW830 := n2_; have GE830 := n3_; clear n0_ n1_ n2_ n3_; clear hb hbox hg) | ((with_reducible refine gate_dst (N := 3) rfl ?_); (try (refine gate_guard (by rfl) ?_; dsimp only)); refine bE (N := 3) (cs := #[.string a1_0, .slice A1_1 l1_1.length c1_1]) (t := 53) ?_; intro gb831 hg w6 hbox hb; have n0_ := Aside0.mk (blk_below (g := gb830) (o := .cells #[.string a0_0, .slice A0_1 l0_1.length c0_1] 53 (0, 0)) (by refine bk ?_; exact BK830.out) hb); have n1_ := Aside0.mk (below_step (bB1 GE830.out) hb); have n2_ := Aside0.mk (hbox); have n3_ := Aside0.mk ((by rw [hg]; exact (below_size (bB1 GE830.out)) : w.heap.size ≤ gb831)); have n4_ := Aside0.mk ((by rw [hg]; exact (below_size (bB1 GE830.out)) : w.heap.size ≤ gb831)); have n5_ := Aside0.mk ((by rw [hg]; exact Nat.ne_of_lt (blk_lt (g := gb830) (o := .cells #[.string a0_0, .slice A0_1 l0_1.length c0_1] 53 (0, 0)) (by refine bk ?_; exact BK830.out)) : gb830 ≠ gb831)); have n6_ := Aside0.mk ((by rw [hg]; exact Nat.ne_of_gt (blk_lt (g := gb830) (o := .cells #[.string a0_0, .slice A0_1 l0_1.length c0_1] 53 (0, 0)) (by refine bk ?_; exact BK830.out)) : gb831 ≠ gb830)); clear BK830; clear HB; have BK830 := n0_; have HB := n1_; have BK831 := n2_; have GW831 := n3_; have GE831 := n4_; have NB830_831 := n5_; have NB831_830 := n6_; clear n0_ n1_ n2_ n3_ n4_ n5_ n6_; clear hb hbox hg; have hnb7 := NB830_831.out; have hnc7 := NB831_830.out; have hcz8_0 : w6.cell? ⟨gb830, 0, none⟩ = some (.string a0_0) := (blk_cell BK830.out 0).trans rfl; have hcz8_1 : w6.cell? ⟨gb830, 1, none⟩ = some (.slice A0_1 l0_1.length c0_1) := (blk_cell BK830.out 1).trans rfl; have hfz8_0 := blk_frozen BK830.out 0; have hfz8_1 := blk_frozen BK830.out 1) | ((with_reducible refine gate_callee (f := 36) rfl ?_); refine goesL_ (some 17) rfl rfl Try.func36 (by kernel_rfl) rfl #[.agg #[.string a0_0, .slice A0_1 l0_1.length c0_1]] rfl aG ?_; (with_reducible refine (constablelaw03_Heavy.calls k a0_0 _ _ l0_1 true _ ?side1 ?side2 A3.out).mono ?_); (case side1 => exact sC (Kd.C_below HR0_1.out HB.out)); (case side2 => exact HC0_1.out); rintro e w9 ⟨rfl, hb⟩; refine ⟨_, rfl, ?_⟩; have n0_ := Aside0.mk (blk_below (g := gb830) (o := .cells #[.string a0_0, .slice A0_1 l0_1.length c0_1] 53 (0, 0)) (by refine bk ?_; exact BK830.out) hb); have n1_ := Aside0.mk (blk_below (g := gb831) (o := .cells #[.string a1_0, .slice A1_1 l1_1.length c1_1] 53 (0, 0)) (by refine bk ?_; exact BK831.out) hb); have n2_ := Aside0.mk (below_step (bB2 GE830.out GE831.out) hb); clear BK830; clear BK831; clear HB; have BK830 := n0_; have BK831 := n1_; have HB := n2_; clear n0_ n1_ n2_; (try clear hb); (try clear hb2); (try clear hk); (try clear hi)))
  go_ret
  exact ⟨eW, (bB2 GE830.out GE831.out)⟩
 ·replace c4 := Bool.eq_false_iff.mpr c4
  subst c4
  have H1 : ((constablelaw03_Heavy.f k a1_0 l1_1).bind fun t833 => (if t833 = true then (some true) else ((constableref01_Fact.f k a0_0 l0_1).bind fun t834 => (if t834 = true then ((constableref01_Fact.f k a1_0 l1_1).bind fun t835 => (if t835 = true then (constablelaw06_MatchFree.l0 k (([(⟨#[65]⟩ : ByteArray), (⟨#[66]⟩ : ByteArray), (⟨#[67]⟩ : ByteArray), (⟨#[68]⟩ : ByteArray), (⟨#[69]⟩ : ByteArray)] : List ByteArray)) 0 a0_0 l0_1 a1_0 l1_1 a0_0 ([] : List (S77)) a0_0 ([] : List (S77))) else (some true))) else (some true))))) = some r := by rw [if_neg (show ¬ (false = true) by decide)] at H; exact H
  clear H
  have H := H1
  clear H1
  replace H := Option.bind_eq_some_iff.mp H
  obtain ⟨t833, A100, H⟩ := H
  replace H : (if t833 = true then (some true) else ((constableref01_Fact.f k a0_0 l0_1).bind fun t834 => (if t834 = true then ((constableref01_Fact.f k a1_0 l1_1).bind fun t835 => (if t835 = true then (constablelaw06_MatchFree.l0 k (([(⟨#[65]⟩ : ByteArray), (⟨#[66]⟩ : ByteArray), (⟨#[67]⟩ : ByteArray), (⟨#[68]⟩ : ByteArray), (⟨#[69]⟩ : ByteArray)] : List ByteArray)) 0 a0_0 l0_1 a1_0 l1_1 a0_0 ([] : List (S77)) a0_0 ([] : List (S77))) else (some true))) else (some true)))) = some r := H
  have A10 := Aside0.mk A100
  clear A100
  by_cases c11 : t833 = true
  ·subst c11
   have H1 : (some true) = some r := by rw [if_pos rfl] at H; exact H
   clear H
   have H := H1
   clear H1
   obtain rfl := Option.some.inj H
   go_enter Try.func13, Try.ntmps13
   go_wp2_with (first | ((with_reducible refine gate_dst (N := 2) rfl ?_); (try (refine gate_guard (by rfl) ?_; dsimp only)); refine bE (N := 2) (cs := #[.string a0_0, .slice A0_1 l0_1.length c0_1]) (t := 53) ?_; intro gb830 hg w12 hbox hb; have n0_ := Aside0.mk (below_step bB0 hb); have n1_ := Aside0.mk (hbox); have n2_ := Aside0.mk ((by rw [hg]; exact (below_size bB0) : w.heap.size ≤ gb830)); have n3_ := Aside0.mk ((by rw [hg]; exact (below_size bB0) : w.heap.size ≤ gb830)); clear HB; have HB := n0_; have BK830 := n1_; have GW830 := n2_; have GE830 := n3_; clear n0_ n1_ n2_ n3_; clear hb hbox hg) | ((with_reducible refine gate_dst (N := 3) rfl ?_); (try (refine gate_guard (by rfl) ?_; dsimp only)); refine bE (N := 3) (cs := #[.string a1_0, .slice A1_1 l1_1.length c1_1]) (t := 53) ?_; intro gb831 hg w13 hbox hb; have n0_ := Aside0.mk (blk_below (g := gb830) (o := .cells #[.string a0_0, .slice A0_1 l0_1.length c0_1] 53 (0, 0)) (by refine bk ?_; exact BK830.out) hb); have n1_ := Aside0.mk (below_step (bB1 GE830.out) hb); have n2_ := Aside0.mk (hbox); have n3_ := Aside0.mk ((by rw [hg]; exact (below_size (bB1 GE830.out)) : w.heap.size ≤ gb831)); have n4_ := Aside0.mk ((by rw [hg]; exact (below_size (bB1 GE830.out)) : w.heap.size ≤ gb831)); have n5_ := Aside0.mk ((by rw [hg]; exact Nat.ne_of_lt (blk_lt (g := gb830) (o := .cells #[.string a0_0, .slice A0_1 l0_1.length c0_1] 53 (0, 0)) (by refine bk ?_; exact BK830.out)) : gb830 ≠ gb831)); have n6_ := Aside0.mk ((by rw [hg]; exact Nat.ne_of_gt (blk_lt (g := gb830) (o := .cells #[.string a0_0, .slice A0_1 l0_1.length c0_1] 53 (0, 0)) (by refine bk ?_; exact BK830.out)) : gb831 ≠ gb830)); clear BK830; clear HB; have BK830 := n0_; have HB := n1_; have BK831 := n2_; have GW831 := n3_; have GE831 := n4_; have NB830_831 := n5_; have NB831_830 := n6_; clear n0_ n1_ n2_ n3_ n4_ n5_ n6_; clear hb hbox hg; have hnb14 := NB830_831.out; have hnc14 := NB831_830.out; have hcz15_0 : w13.cell? ⟨gb830, 0, none⟩ = some (.string a0_0) := (blk_cell BK830.out 0).trans rfl; have hcz15_1 : w13.cell? ⟨gb830, 1, none⟩ = some (.slice A0_1 l0_1.length c0_1) := (blk_cell BK830.out 1).trans rfl; have hfz15_0 := blk_frozen BK830.out 0; have hfz15_1 := blk_frozen BK830.out 1) | ((with_reducible refine gate_callee (f := 36) rfl ?_); refine goesL_ (some 17) rfl rfl Try.func36 (by kernel_rfl) rfl #[.agg #[.string a0_0, .slice A0_1 l0_1.length c0_1]] rfl aG ?_; (with_reducible refine (constablelaw03_Heavy.calls k a0_0 _ _ l0_1 false _ ?side1 ?side2 A3.out).mono ?_); (case side1 => exact sC (Kd.C_below HR0_1.out HB.out)); (case side2 => exact HC0_1.out); rintro e w16 ⟨rfl, hb⟩; refine ⟨_, rfl, ?_⟩; have n0_ := Aside0.mk (blk_below (g := gb830) (o := .cells #[.string a0_0, .slice A0_1 l0_1.length c0_1] 53 (0, 0)) (by refine bk ?_; exact BK830.out) hb); have n1_ := Aside0.mk (blk_below (g := gb831) (o := .cells #[.string a1_0, .slice A1_1 l1_1.length c1_1] 53 (0, 0)) (by refine bk ?_; exact BK831.out) hb); have n2_ := Aside0.mk (below_step (bB2 GE830.out GE831.out) hb); clear BK830; clear BK831; clear HB; have BK830 := n0_; have BK831 := n1_; have HB := n2_; clear n0_ n1_ n2_; (try clear hb); (try clear hb2); (try clear hk); (try clear hi); have hcz17_0 : w16.cell? ⟨gb831, 0, none⟩ = some (.string a1_0) := (blk_cell BK831.out 0).trans rfl; have hcz17_1 : w16.cell? ⟨gb831, 1, none⟩ = some (.slice A1_1 l1_1.length c1_1) := (blk_cell BK831.out 1).trans rfl; have hfz17_0 := blk_frozen BK831.out 0; have hfz17_1 := blk_frozen BK831.out 1) | (go_at_call 36; (with_reducible refine (constablelaw03_Heavy.calls k a1_0 _ _ l1_1 true _ ?side1 ?side2 A10.out).mono ?_); (case side1 => exact sC (Kd.C_below HR1_1.out HB.out)); (case side2 => exact HC1_1.out); rintro e w18 ⟨rfl, hb⟩; have n0_ := Aside0.mk (blk_below (g := gb830) (o := .cells #[.string a0_0, .slice A0_1 l0_1.length c0_1] 53 (0, 0)) (by refine bk ?_; exact BK830.out) hb); have n1_ := Aside0.mk (blk_below (g := gb831) (o := .cells #[.string a1_0, .slice A1_1 l1_1.length c1_1] 53 (0, 0)) (by refine bk ?_; exact BK831.out) hb); have n2_ := Aside0.mk (below_step (bB2 GE830.out GE831.out) hb); clear BK830; clear BK831; clear HB; have BK830 := n0_; have BK831 := n1_; have HB := n2_; clear n0_ n1_ n2_; (try clear hb); (try clear hb2); (try clear hk); (try clear hi)))
   go_ret
   exact ⟨eW, (bB2 GE830.out GE831.out)⟩
  ·replace c11 := Bool.eq_false_iff.mpr c11
   subst c11
   have H1 : ((constableref01_Fact.f k a0_0 l0_1).bind fun t834 => (if t834 = true then ((constableref01_Fact.f k a1_0 l1_1).bind fun t835 => (if t835 = true then (constablelaw06_MatchFree.l0 k (([(⟨#[65]⟩ : ByteArray), (⟨#[66]⟩ : ByteArray), (⟨#[67]⟩ : ByteArray), (⟨#[68]⟩ : ByteArray), (⟨#[69]⟩ : ByteArray)] : List ByteArray)) 0 a0_0 l0_1 a1_0 l1_1 a0_0 ([] : List (S77)) a0_0 ([] : List (S77))) else (some true))) else (some true))) = some r := by rw [if_neg (show ¬ (false = true) by decide)] at H; exact H
   clear H
   have H := H1
   clear H1
   replace H := Option.bind_eq_some_iff.mp H
   obtain ⟨t834, A190, H⟩ := H
   replace H : (if t834 = true then ((constableref01_Fact.f k a1_0 l1_1).bind fun t835 => (if t835 = true then (constablelaw06_MatchFree.l0 k (([(⟨#[65]⟩ : ByteArray), (⟨#[66]⟩ : ByteArray), (⟨#[67]⟩ : ByteArray), (⟨#[68]⟩ : ByteArray), (⟨#[69]⟩ : ByteArray)] : List ByteArray)) 0 a0_0 l0_1 a1_0 l1_1 a0_0 ([] : List (S77)) a0_0 ([] : List (S77))) else (some true))) else (some true)) = some r := H
   have A19 := Aside0.mk A190
   clear A190
   by_cases c20 : t834 = true
   ·subst c20
    have H1 : ((constableref01_Fact.f k a1_0 l1_1).bind fun t835 => (if t835 = true then (constablelaw06_MatchFree.l0 k (([(⟨#[65]⟩ : ByteArray), (⟨#[66]⟩ : ByteArray), (⟨#[67]⟩ : ByteArray), (⟨#[68]⟩ : ByteArray), (⟨#[69]⟩ : ByteArray)] : List ByteArray)) 0 a0_0 l0_1 a1_0 l1_1 a0_0 ([] : List (S77)) a0_0 ([] : List (S77))) else (some true))) = some r := by rw [if_pos rfl] at H; exact H
    clear H
    have H := H1
    clear H1
    replace H := Option.bind_eq_some_iff.mp H
    obtain ⟨t835, A210, H⟩ := H
    replace H : (if t835 = true then (constablelaw06_MatchFree.l0 k (([(⟨#[65]⟩ : ByteArray), (⟨#[66]⟩ : ByteArray), (⟨#[67]⟩ : ByteArray), (⟨#[68]⟩ : ByteArray), (⟨#[69]⟩ : ByteArray)] : List ByteArray)) 0 a0_0 l0_1 a1_0 l1_1 a0_0 ([] : List (S77)) a0_0 ([] : List (S77))) else (some true)) = some r := H
    have A21 := Aside0.mk A210
    clear A210
    by_cases c22 : t835 = true
    ·subst c22
     have H1 : (constablelaw06_MatchFree.l0 k (([(⟨#[65]⟩ : ByteArray), (⟨#[66]⟩ : ByteArray), (⟨#[67]⟩ : ByteArray), (⟨#[68]⟩ : ByteArray), (⟨#[69]⟩ : ByteArray)] : List ByteArray)) 0 a0_0 l0_1 a1_0 l1_1 a0_0 ([] : List (S77)) a0_0 ([] : List (S77))) = some r := by rw [if_pos rfl] at H; exact H
     clear H
     have H := H1
     clear H1
     obtain ⟨y838, hy838⟩ : ∃ y_ : List ByteArray, y_ = (([(⟨#[65]⟩ : ByteArray), (⟨#[66]⟩ : ByteArray), (⟨#[67]⟩ : ByteArray), (⟨#[68]⟩ : ByteArray), (⟨#[69]⟩ : ByteArray)] : List ByteArray)) := ⟨_, rfl⟩
     replace H : (constablelaw06_MatchFree.l0 k y838 0 a0_0 l0_1 a1_0 l1_1 a0_0 ([] : List (S77)) a0_0 ([] : List (S77))) = some r := by first | (rw [hy838]; with_reducible exact H) | (have H2_ := (Option.bind_some _ _).symm.trans H; rw [hy838]; with_reducible exact H2_) | (have H2_ := (Option.bind_some _ _).symm.trans H; with_reducible exact H2_) | with_reducible exact H | (rw [hy838]; exact H) | exact H
     have Ny838 := Aside0.mk hy838
     clear hy838
     have H' := Aside0.mk H
     clear H
     go_enter Try.func13, Try.ntmps13
     try go_wp2_with (first | ((with_reducible refine gate_dst (N := 2) rfl ?_); (try (refine gate_guard (by rfl) ?_; dsimp only)); refine bE (N := 2) (cs := #[.string a0_0, .slice A0_1 l0_1.length c0_1]) (t := 53) ?_; intro gb830 hg w23 hbox hb; have n0_ := Aside0.mk (below_step bB0 hb); have n1_ := Aside0.mk (hbox); have n2_ := Aside0.mk ((by rw [hg]; exact (below_size bB0) : w.heap.size ≤ gb830)); have n3_ := Aside0.mk ((by rw [hg]; exact (below_size bB0) : w.heap.size ≤ gb830)); clear HB; have HB := n0_; have BK830 := n1_; have GW830 := n2_; have GE830 := n3_; clear n0_ n1_ n2_ n3_; clear hb hbox hg) | ((with_reducible refine gate_dst (N := 3) rfl ?_); (try (refine gate_guard (by rfl) ?_; dsimp only)); refine bE (N := 3) (cs := #[.string a1_0, .slice A1_1 l1_1.length c1_1]) (t := 53) ?_; intro gb831 hg w24 hbox hb; have n0_ := Aside0.mk (blk_below (g := gb830) (o := .cells #[.string a0_0, .slice A0_1 l0_1.length c0_1] 53 (0, 0)) (by refine bk ?_; exact BK830.out) hb); have n1_ := Aside0.mk (below_step (bB1 GE830.out) hb); have n2_ := Aside0.mk (hbox); have n3_ := Aside0.mk ((by rw [hg]; exact (below_size (bB1 GE830.out)) : w.heap.size ≤ gb831)); have n4_ := Aside0.mk ((by rw [hg]; exact (below_size (bB1 GE830.out)) : w.heap.size ≤ gb831)); have n5_ := Aside0.mk ((by rw [hg]; exact Nat.ne_of_lt (blk_lt (g := gb830) (o := .cells #[.string a0_0, .slice A0_1 l0_1.length c0_1] 53 (0, 0)) (by refine bk ?_; exact BK830.out)) : gb830 ≠ gb831)); have n6_ := Aside0.mk ((by rw [hg]; exact Nat.ne_of_gt (blk_lt (g := gb830) (o := .cells #[.string a0_0, .slice A0_1 l0_1.length c0_1] 53 (0, 0)) (by refine bk ?_; exact BK830.out)) : gb831 ≠ gb830)); clear BK830; clear HB; have BK830 := n0_; have HB := n1_; have BK831 := n2_; have GW831 := n3_; have GE831 := n4_; have NB830_831 := n5_; have NB831_830 := n6_; clear n0_ n1_ n2_ n3_ n4_ n5_ n6_; clear hb hbox hg; have hnb25 := NB830_831.out; have hnc25 := NB831_830.out; have hcz26_0 : w24.cell? ⟨gb830, 0, none⟩ = some (.string a0_0) := (blk_cell BK830.out 0).trans rfl; have hcz26_1 : w24.cell? ⟨gb830, 1, none⟩ = some (.slice A0_1 l0_1.length c0_1) := (blk_cell BK830.out 1).trans rfl; have hfz26_0 := blk_frozen BK830.out 0; have hfz26_1 := blk_frozen BK830.out 1) | ((with_reducible refine gate_callee (f := 36) rfl ?_); refine goesL_ (some 17) rfl rfl Try.func36 (by kernel_rfl) rfl #[.agg #[.string a0_0, .slice A0_1 l0_1.length c0_1]] rfl aG ?_; (with_reducible refine (constablelaw03_Heavy.calls k a0_0 _ _ l0_1 false _ ?side1 ?side2 A3.out).mono ?_); (case side1 => exact sC (Kd.C_below HR0_1.out HB.out)); (case side2 => exact HC0_1.out); rintro e w27 ⟨rfl, hb⟩; refine ⟨_, rfl, ?_⟩; have n0_ := Aside0.mk (blk_below (g := gb830) (o := .cells #[.string a0_0, .slice A0_1 l0_1.length c0_1] 53 (0, 0)) (by refine bk ?_; exact BK830.out) hb); have n1_ := Aside0.mk (blk_below (g := gb831) (o := .cells #[.string a1_0, .slice A1_1 l1_1.length c1_1] 53 (0, 0)) (by refine bk ?_; exact BK831.out) hb); have n2_ := Aside0.mk (below_step (bB2 GE830.out GE831.out) hb); clear BK830; clear BK831; clear HB; have BK830 := n0_; have BK831 := n1_; have HB := n2_; clear n0_ n1_ n2_; (try clear hb); (try clear hb2); (try clear hk); (try clear hi); have hcz28_0 : w27.cell? ⟨gb831, 0, none⟩ = some (.string a1_0) := (blk_cell BK831.out 0).trans rfl; have hcz28_1 : w27.cell? ⟨gb831, 1, none⟩ = some (.slice A1_1 l1_1.length c1_1) := (blk_cell BK831.out 1).trans rfl; have hfz28_0 := blk_frozen BK831.out 0; have hfz28_1 := blk_frozen BK831.out 1) | (go_at_call 36; (with_reducible refine (constablelaw03_Heavy.calls k a1_0 _ _ l1_1 false _ ?side1 ?side2 A10.out).mono ?_); (case side1 => exact sC (Kd.C_below HR1_1.out HB.out)); (case side2 => exact HC1_1.out); rintro e w29 ⟨rfl, hb⟩; have n0_ := Aside0.mk (blk_below (g := gb830) (o := .cells #[.string a0_0, .slice A0_1 l0_1.length c0_1] 53 (0, 0)) (by refine bk ?_; exact BK830.out) hb); have n1_ := Aside0.mk (blk_below (g := gb831) (o := .cells #[.string a1_0, .slice A1_1 l1_1.length c1_1] 53 (0, 0)) (by refine bk ?_; exact BK831.out) hb); have n2_ := Aside0.mk (below_step (bB2 GE830.out GE831.out) hb); clear BK830; clear BK831; clear HB; have BK830 := n0_; have BK831 := n1_; have HB := n2_; clear n0_ n1_ n2_; (try clear hb); (try clear hb2); (try clear hk); (try clear hi); have hcz30_0 : w29.cell? ⟨gb830, 0, none⟩ = some (.string a0_0) := (blk_cell BK830.out 0).trans rfl; have hcz30_1 : w29.cell? ⟨gb830, 1, none⟩ = some (.slice A0_1 l0_1.length c0_1) := (blk_cell BK830.out 1).trans rfl; have hfz30_0 := blk_frozen BK830.out 0; have hfz30_1 := blk_frozen BK830.out 1) | (go_at_call 38; (with_reducible refine (constableref01_Fact.calls k a0_0 _ _ l0_1 true _ ?side1 ?side2 A19.out).mono ?_); (case side1 => exact sC (Kd.C_below HR0_1.out HB.out)); (case side2 => exact HC0_1.out); rintro e w31 ⟨rfl, hb⟩; have n0_ := Aside0.mk (blk_below (g := gb830) (o := .cells #[.string a0_0, .slice A0_1 l0_1.length c0_1] 53 (0, 0)) (by refine bk ?_; exact BK830.out) hb); have n1_ := Aside0.mk (blk_below (g := gb831) (o := .cells #[.string a1_0, .slice A1_1 l1_1.length c1_1] 53 (0, 0)) (by refine bk ?_; exact BK831.out) hb); have n2_ := Aside0.mk (below_step (bB2 GE830.out GE831.out) hb); clear BK830; clear BK831; clear HB; have BK830 := n0_; have BK831 := n1_; have HB := n2_; clear n0_ n1_ n2_; (try clear hb); (try clear hb2); (try clear hk); (try clear hi); have hcz32_0 : w31.cell? ⟨gb831, 0, none⟩ = some (.string a1_0) := (blk_cell BK831.out 0).trans rfl; have hcz32_1 : w31.cell? ⟨gb831, 1, none⟩ = some (.slice A1_1 l1_1.length c1_1) := (blk_cell BK831.out 1).trans rfl; have hfz32_0 := blk_frozen BK831.out 0; have hfz32_1 := blk_frozen BK831.out 1) | (go_at_call 38; (with_reducible refine (constableref01_Fact.calls k a1_0 _ _ l1_1 true _ ?side1 ?side2 A21.out).mono ?_); (case side1 => exact sC (Kd.C_below HR1_1.out HB.out)); (case side2 => exact HC1_1.out); rintro e w33 ⟨rfl, hb⟩; have n0_ := Aside0.mk (blk_below (g := gb830) (o := .cells #[.string a0_0, .slice A0_1 l0_1.length c0_1] 53 (0, 0)) (by refine bk ?_; exact BK830.out) hb); have n1_ := Aside0.mk (blk_below (g := gb831) (o := .cells #[.string a1_0, .slice A1_1 l1_1.length c1_1] 53 (0, 0)) (by refine bk ?_; exact BK831.out) hb); have n2_ := Aside0.mk (below_step (bB2 GE830.out GE831.out) hb); clear BK830; clear BK831; clear HB; have BK830 := n0_; have BK831 := n1_; have HB := n2_; clear n0_ n1_ n2_; (try clear hb); (try clear hb2); (try clear hk); (try clear hi)))
     have n0_ := Aside0.mk (blk_drew BK830.out)
     have n1_ := Aside0.mk (blk_drew BK831.out)
     have n2_ := Aside0.mk (below_drew1 HB.out)
     clear BK830
     clear BK831
     clear HB
     have BK830 := n0_
     have BK831 := n1_
     have HB := n2_
     clear n0_ n1_ n2_
     refine start_ (n := 10) (S := fun w' => w'.cell? ⟨gb830, 0, none⟩ = some (.string a0_0) ∧ w'.cell? ⟨gb830, 1, none⟩ = some (.slice A0_1 l0_1.length c0_1)) (ds := []) #[false, false, false, false, false, false, false, false, false, false] (by kernel_rfl) rfl rfl ⟨(blk_cell BK830.out 0).trans rfl, (blk_cell BK830.out 1).trans rfl⟩ (fun hHeld => ?_); refine with_tabW constablelaw06_MatchFree.tab3 constablelaw06_MatchFree.bits3 (fun HT_ HW_ => ?_)
     generalize w33.drew = w34 at BK830 BK831 HB hHeld ⊢
     refine pQ (i := 0) (N := some 32) #[true, false, false, false, false, false, false, false, false, false] ?_
     refine pQ (i := 3) (N := some 35) #[true, false, false, true, false, false, false, false, false, false] ?_
     refine tQ2 (i := 1) (N := some 33) #[true, true, false, true, false, false, false, false, false, false] hHeld ?_
     refine pQ (i := 2) (N := some 34) #[true, true, true, true, false, false, false, false, false, false] ?_
     refine tQ2 (i := 4) (N := some 36) #[true, true, true, true, true, false, false, false, false, false] hHeld ?_
     refine pQ (i := 5) (N := some 37) #[true, true, true, true, true, true, false, false, false, false] ?_
     refine join_ (σ := Nat × Nat) 2 #[true, true, true, true, true, true, true, true, false, false] (fun s_ => [(5, .pointer (some ⟨s_.1, 0, none⟩)), (6, .pointer (some ⟨s_.2, 0, none⟩))]) (fun s_ w' => (w'.cell? ⟨gb830, 0, none⟩ = some (.string a0_0) ∧ w'.cell? ⟨gb830, 1, none⟩ = some (.slice A0_1 l0_1.length c0_1)) ∧ (w'.heap[gb830]? = some (.cells #[.string a0_0, .slice A0_1 l0_1.length c0_1] 53 (0, 0))) ∧ (w'.heap[gb831]? = some (.cells #[.string a1_0, .slice A1_1 l1_1.length c1_1] 53 (0, 0))) ∧ (w'.heap[s_.1]? = some (.cells #[.string (⟨#[]⟩ : ByteArray), .slice none 0 0] 69 (0, 0))) ∧ (w'.heap[s_.2]? = some (.cells #[.string (⟨#[]⟩ : ByteArray), .slice none 0 0] 69 (0, 0))) ∧ (w.heap.size ≤ s_.1) ∧ (w.heap.size ≤ s_.1) ∧ (gb830 ≠ s_.1) ∧ (s_.1 ≠ gb830) ∧ (gb831 ≠ s_.1) ∧ (s_.1 ≠ gb831) ∧ (s_.2 ≠ s_.1) ∧ (s_.1 ≠ s_.2) ∧ (w.heap.size ≤ s_.2) ∧ (w.heap.size ≤ s_.2) ∧ (gb830 ≠ s_.2) ∧ (s_.2 ≠ gb830) ∧ (gb831 ≠ s_.2) ∧ (s_.2 ≠ gb831) ∧ (Below w.heap.size w w')) ?_ ?_
     rotate_left
     ·intro hCont
      refine two_ (i := 6) (j := 7) (Ni := some 5) (Nj := some 6) #[true, true, true, true, true, true, true, false, false, false] #[true, true, true, true, true, true, false, true, false, false] rfl rfl rfl rfl (two_of HT_.out (by kernel_rfl)) (by decide) (by decide) (fun K hK => ?_) (fun K hK => ?_)
      ·skip
       refine box_step ?hg (N := 5) ?hd (cs := #[.string (⟨#[]⟩ : ByteArray), .slice none 0 0]) (t := 69) ?hr ?_; (case hd => rfl); (case hg => rfl); (case hr => first | (go_simp; done) | (go_simp; rfl))
       intro gb836 hg w35 hbox hb
       have n0_ := Aside0.mk (blk_below (g := gb830) (o := .cells #[.string a0_0, .slice A0_1 l0_1.length c0_1] 53 (0, 0)) (by refine bk ?_; exact BK830.out) hb)
       have n1_ := Aside0.mk (blk_below (g := gb831) (o := .cells #[.string a1_0, .slice A1_1 l1_1.length c1_1] 53 (0, 0)) (by refine bk ?_; exact BK831.out) hb)
       have n2_ := Aside0.mk (below_step (bB2 GE830.out GE831.out) hb)
       have n3_ := Aside0.mk (hbox)
       have n4_ := Aside0.mk ((by rw [hg]; exact (below_size (bB2 GE830.out GE831.out)) : w.heap.size ≤ gb836))
       have n5_ := Aside0.mk ((by rw [hg]; exact (below_size (bB2 GE830.out GE831.out)) : w.heap.size ≤ gb836))
       have n6_ := Aside0.mk ((by rw [hg]; exact Nat.ne_of_lt (blk_lt (g := gb830) (o := .cells #[.string a0_0, .slice A0_1 l0_1.length c0_1] 53 (0, 0)) (by refine bk ?_; exact BK830.out)) : gb830 ≠ gb836))
       have n7_ := Aside0.mk ((by rw [hg]; exact Nat.ne_of_gt (blk_lt (g := gb830) (o := .cells #[.string a0_0, .slice A0_1 l0_1.length c0_1] 53 (0, 0)) (by refine bk ?_; exact BK830.out)) : gb836 ≠ gb830))
       have n8_ := Aside0.mk ((by rw [hg]; exact Nat.ne_of_lt (blk_lt (g := gb831) (o := .cells #[.string a1_0, .slice A1_1 l1_1.length c1_1] 53 (0, 0)) (by refine bk ?_; exact BK831.out)) : gb831 ≠ gb836))
       have n9_ := Aside0.mk ((by rw [hg]; exact Nat.ne_of_gt (blk_lt (g := gb831) (o := .cells #[.string a1_0, .slice A1_1 l1_1.length c1_1] 53 (0, 0)) (by refine bk ?_; exact BK831.out)) : gb836 ≠ gb831))
       clear BK830
       clear BK831
       clear HB
       have BK830 := n0_
       have BK831 := n1_
       have HB := n2_
       have BK836 := n3_
       have GW836 := n4_
       have GE836 := n5_
       have NB830_836 := n6_
       have NB836_830 := n7_
       have NB831_836 := n8_
       have NB836_831 := n9_
       clear n0_ n1_ n2_ n3_ n4_ n5_ n6_ n7_ n8_ n9_
       clear hb hbox hg
       refine hK.out _ _ ⟨(blk_cell BK830.out 0).trans rfl, (blk_cell BK830.out 1).trans rfl⟩ (fun hHeld => ?_)
       clear hK K
       refine norm_ (a' := ?_) ?_ ?_
       rotate_left
       ·show Act.put _ (some 5) _ = _
        simp only [Act.put, List.setIfInBounds_toArray, List.set_cons_zero, List.set_cons_succ, i64_w, i32_w]
        rfl
       refine one_ (i := 7) (N := some 6) #[true, true, true, true, true, true, true, true, false, false] rfl rfl (one_of HT_.out (by kernel_rfl)) (by decide) (fun K hK => ?_)
       refine box_step ?hg (N := 6) ?hd (cs := #[.string (⟨#[]⟩ : ByteArray), .slice none 0 0]) (t := 69) ?hr ?_; (case hd => rfl); (case hg => rfl); (case hr => first | (go_simp; done) | (go_simp; rfl))
       intro gb837 hg w36 hbox hb
       have n0_ := Aside0.mk (blk_below (g := gb830) (o := .cells #[.string a0_0, .slice A0_1 l0_1.length c0_1] 53 (0, 0)) (by refine bk ?_; exact BK830.out) hb)
       have n1_ := Aside0.mk (blk_below (g := gb831) (o := .cells #[.string a1_0, .slice A1_1 l1_1.length c1_1] 53 (0, 0)) (by refine bk ?_; exact BK831.out) hb)
       have n2_ := Aside0.mk (blk_below (g := gb836) (o := .cells #[.string (⟨#[]⟩ : ByteArray), .slice none 0 0] 69 (0, 0)) (by refine bk ?_; exact BK836.out) hb)
       have n3_ := Aside0.mk (below_step (bB3 GE830.out GE831.out GE836.out) hb)
       have n4_ := Aside0.mk (hbox)
       have n5_ := Aside0.mk ((by rw [hg]; exact (below_size (bB3 GE830.out GE831.out GE836.out)) : w.heap.size ≤ gb837))
       have n6_ := Aside0.mk ((by rw [hg]; exact (below_size (bB3 GE830.out GE831.out GE836.out)) : w.heap.size ≤ gb837))
       have n7_ := Aside0.mk ((by rw [hg]; exact Nat.ne_of_lt (blk_lt (g := gb830) (o := .cells #[.string a0_0, .slice A0_1 l0_1.length c0_1] 53 (0, 0)) (by refine bk ?_; exact BK830.out)) : gb830 ≠ gb837))
       have n8_ := Aside0.mk ((by rw [hg]; exact Nat.ne_of_gt (blk_lt (g := gb830) (o := .cells #[.string a0_0, .slice A0_1 l0_1.length c0_1] 53 (0, 0)) (by refine bk ?_; exact BK830.out)) : gb837 ≠ gb830))
       have n9_ := Aside0.mk ((by rw [hg]; exact Nat.ne_of_lt (blk_lt (g := gb831) (o := .cells #[.string a1_0, .slice A1_1 l1_1.length c1_1] 53 (0, 0)) (by refine bk ?_; exact BK831.out)) : gb831 ≠ gb837))
       have n10_ := Aside0.mk ((by rw [hg]; exact Nat.ne_of_gt (blk_lt (g := gb831) (o := .cells #[.string a1_0, .slice A1_1 l1_1.length c1_1] 53 (0, 0)) (by refine bk ?_; exact BK831.out)) : gb837 ≠ gb831))
       have n11_ := Aside0.mk ((by rw [hg]; exact Nat.ne_of_lt (blk_lt (g := gb836) (o := .cells #[.string (⟨#[]⟩ : ByteArray), .slice none 0 0] 69 (0, 0)) (by refine bk ?_; exact BK836.out)) : gb836 ≠ gb837))
       have n12_ := Aside0.mk ((by rw [hg]; exact Nat.ne_of_gt (blk_lt (g := gb836) (o := .cells #[.string (⟨#[]⟩ : ByteArray), .slice none 0 0] 69 (0, 0)) (by refine bk ?_; exact BK836.out)) : gb837 ≠ gb836))
       clear BK830
       clear BK831
       clear BK836
       clear HB
       have BK830 := n0_
       have BK831 := n1_
       have BK836 := n2_
       have HB := n3_
       have BK837 := n4_
       have GW837 := n5_
       have GE837 := n6_
       have NB830_837 := n7_
       have NB837_830 := n8_
       have NB831_837 := n9_
       have NB837_831 := n10_
       have NB836_837 := n11_
       have NB837_836 := n12_
       clear n0_ n1_ n2_ n3_ n4_ n5_ n6_ n7_ n8_ n9_ n10_ n11_ n12_
       clear hb hbox hg
       refine hK.out _ _ ⟨(blk_cell BK830.out 0).trans rfl, (blk_cell BK830.out 1).trans rfl⟩ (fun hHeld => ?_)
       clear hK K
       refine norm_ (a' := ?_) ?_ ?_
       rotate_left
       ·show Act.put _ (some 6) _ = _
        simp only [Act.put, List.setIfInBounds_toArray, List.set_cons_zero, List.set_cons_succ, i64_w, i32_w]
        rfl
       exact norm_ (by simp only [putAll, Act.put, List.setIfInBounds_toArray, List.set_cons_zero, List.set_cons_succ]) (hCont (gb836, gb837) _ ⟨hHeld, (by refine bk ?_; exact BK830.out), (by refine bk ?_; exact BK831.out), (by refine bk ?_; exact BK836.out), (by refine bk ?_; exact BK837.out), GW836.out, GE836.out, NB830_836.out, NB836_830.out, NB831_836.out, NB836_831.out, NB837_836.out, NB836_837.out, GW837.out, GE837.out, NB830_837.out, NB837_830.out, NB831_837.out, NB837_831.out, (bB4 GE830.out GE831.out GE836.out GE837.out)⟩)
      ·skip
       refine box_step ?hg (N := 6) ?hd (cs := #[.string (⟨#[]⟩ : ByteArray), .slice none 0 0]) (t := 69) ?hr ?_; (case hd => rfl); (case hg => rfl); (case hr => first | (go_simp; done) | (go_simp; rfl))
       intro gb837 hg w35 hbox hb
       have n0_ := Aside0.mk (blk_below (g := gb830) (o := .cells #[.string a0_0, .slice A0_1 l0_1.length c0_1] 53 (0, 0)) (by refine bk ?_; exact BK830.out) hb)
       have n1_ := Aside0.mk (blk_below (g := gb831) (o := .cells #[.string a1_0, .slice A1_1 l1_1.length c1_1] 53 (0, 0)) (by refine bk ?_; exact BK831.out) hb)
       have n2_ := Aside0.mk (below_step (bB2 GE830.out GE831.out) hb)
       have n3_ := Aside0.mk (hbox)
       have n4_ := Aside0.mk ((by rw [hg]; exact (below_size (bB2 GE830.out GE831.out)) : w.heap.size ≤ gb837))
       have n5_ := Aside0.mk ((by rw [hg]; exact (below_size (bB2 GE830.out GE831.out)) : w.heap.size ≤ gb837))
       have n6_ := Aside0.mk ((by rw [hg]; exact Nat.ne_of_lt (blk_lt (g := gb830) (o := .cells #[.string a0_0, .slice A0_1 l0_1.length c0_1] 53 (0, 0)) (by refine bk ?_; exact BK830.out)) : gb830 ≠ gb837))
       have n7_ := Aside0.mk ((by rw [hg]; exact Nat.ne_of_gt (blk_lt (g := gb830) (o := .cells #[.string a0_0, .slice A0_1 l0_1.length c0_1] 53 (0, 0)) (by refine bk ?_; exact BK830.out)) : gb837 ≠ gb830))
       have n8_ := Aside0.mk ((by rw [hg]; exact Nat.ne_of_lt (blk_lt (g := gb831) (o := .cells #[.string a1_0, .slice A1_1 l1_1.length c1_1] 53 (0, 0)) (by refine bk ?_; exact BK831.out)) : gb831 ≠ gb837))
       have n9_ := Aside0.mk ((by rw [hg]; exact Nat.ne_of_gt (blk_lt (g := gb831) (o := .cells #[.string a1_0, .slice A1_1 l1_1.length c1_1] 53 (0, 0)) (by refine bk ?_; exact BK831.out)) : gb837 ≠ gb831))
       clear BK830
       clear BK831
       clear HB
       have BK830 := n0_
       have BK831 := n1_
       have HB := n2_
       have BK837 := n3_
       have GW837 := n4_
       have GE837 := n5_
       have NB830_837 := n6_
       have NB837_830 := n7_
       have NB831_837 := n8_
       have NB837_831 := n9_
       clear n0_ n1_ n2_ n3_ n4_ n5_ n6_ n7_ n8_ n9_
       clear hb hbox hg
       refine hK.out _ _ ⟨(blk_cell BK830.out 0).trans rfl, (blk_cell BK830.out 1).trans rfl⟩ (fun hHeld => ?_)
       clear hK K
       refine norm_ (a' := ?_) ?_ ?_
       rotate_left
       ·show Act.put _ (some 6) _ = _
        simp only [Act.put, List.setIfInBounds_toArray, List.set_cons_zero, List.set_cons_succ, i64_w, i32_w]
        rfl
       refine one_ (i := 6) (N := some 5) #[true, true, true, true, true, true, true, true, false, false] rfl rfl (one_of HT_.out (by kernel_rfl)) (by decide) (fun K hK => ?_)
       refine box_step ?hg (N := 5) ?hd (cs := #[.string (⟨#[]⟩ : ByteArray), .slice none 0 0]) (t := 69) ?hr ?_; (case hd => rfl); (case hg => rfl); (case hr => first | (go_simp; done) | (go_simp; rfl))
       intro gb836 hg w36 hbox hb
       have n0_ := Aside0.mk (blk_below (g := gb830) (o := .cells #[.string a0_0, .slice A0_1 l0_1.length c0_1] 53 (0, 0)) (by refine bk ?_; exact BK830.out) hb)
       have n1_ := Aside0.mk (blk_below (g := gb831) (o := .cells #[.string a1_0, .slice A1_1 l1_1.length c1_1] 53 (0, 0)) (by refine bk ?_; exact BK831.out) hb)
       have n2_ := Aside0.mk (blk_below (g := gb837) (o := .cells #[.string (⟨#[]⟩ : ByteArray), .slice none 0 0] 69 (0, 0)) (by refine bk ?_; exact BK837.out) hb)
       have n3_ := Aside0.mk (below_step (bB3 GE830.out GE831.out GE837.out) hb)
       have n4_ := Aside0.mk (hbox)
       have n5_ := Aside0.mk ((by rw [hg]; exact (below_size (bB3 GE830.out GE831.out GE837.out)) : w.heap.size ≤ gb836))
       have n6_ := Aside0.mk ((by rw [hg]; exact (below_size (bB3 GE830.out GE831.out GE837.out)) : w.heap.size ≤ gb836))
       have n7_ := Aside0.mk ((by rw [hg]; exact Nat.ne_of_lt (blk_lt (g := gb830) (o := .cells #[.string a0_0, .slice A0_1 l0_1.length c0_1] 53 (0, 0)) (by refine bk ?_; exact BK830.out)) : gb830 ≠ gb836))
       have n8_ := Aside0.mk ((by rw [hg]; exact Nat.ne_of_gt (blk_lt (g := gb830) (o := .cells #[.string a0_0, .slice A0_1 l0_1.length c0_1] 53 (0, 0)) (by refine bk ?_; exact BK830.out)) : gb836 ≠ gb830))
       have n9_ := Aside0.mk ((by rw [hg]; exact Nat.ne_of_lt (blk_lt (g := gb831) (o := .cells #[.string a1_0, .slice A1_1 l1_1.length c1_1] 53 (0, 0)) (by refine bk ?_; exact BK831.out)) : gb831 ≠ gb836))
       have n10_ := Aside0.mk ((by rw [hg]; exact Nat.ne_of_gt (blk_lt (g := gb831) (o := .cells #[.string a1_0, .slice A1_1 l1_1.length c1_1] 53 (0, 0)) (by refine bk ?_; exact BK831.out)) : gb836 ≠ gb831))
       have n11_ := Aside0.mk ((by rw [hg]; exact Nat.ne_of_lt (blk_lt (g := gb837) (o := .cells #[.string (⟨#[]⟩ : ByteArray), .slice none 0 0] 69 (0, 0)) (by refine bk ?_; exact BK837.out)) : gb837 ≠ gb836))
       have n12_ := Aside0.mk ((by rw [hg]; exact Nat.ne_of_gt (blk_lt (g := gb837) (o := .cells #[.string (⟨#[]⟩ : ByteArray), .slice none 0 0] 69 (0, 0)) (by refine bk ?_; exact BK837.out)) : gb836 ≠ gb837))
       clear BK830
       clear BK831
       clear BK837
       clear HB
       have BK830 := n0_
       have BK831 := n1_
       have BK837 := n2_
       have HB := n3_
       have BK836 := n4_
       have GW836 := n5_
       have GE836 := n6_
       have NB830_836 := n7_
       have NB836_830 := n8_
       have NB831_836 := n9_
       have NB836_831 := n10_
       have NB837_836 := n11_
       have NB836_837 := n12_
       clear n0_ n1_ n2_ n3_ n4_ n5_ n6_ n7_ n8_ n9_ n10_ n11_ n12_
       clear hb hbox hg
       refine hK.out _ _ ⟨(blk_cell BK830.out 0).trans rfl, (blk_cell BK830.out 1).trans rfl⟩ (fun hHeld => ?_)
       clear hK K
       refine norm_ (a' := ?_) ?_ ?_
       rotate_left
       ·show Act.put _ (some 5) _ = _
        simp only [Act.put, List.setIfInBounds_toArray, List.set_cons_zero, List.set_cons_succ, i64_w, i32_w]
        rfl
       exact norm_ (by simp only [putAll, Act.put, List.setIfInBounds_toArray, List.set_cons_zero, List.set_cons_succ]) (hCont (gb836, gb837) _ ⟨hHeld, (by refine bk ?_; exact BK830.out), (by refine bk ?_; exact BK831.out), (by refine bk ?_; exact BK836.out), (by refine bk ?_; exact BK837.out), GW836.out, GE836.out, NB830_836.out, NB836_830.out, NB831_836.out, NB836_831.out, NB837_836.out, NB836_837.out, GW837.out, GE837.out, NB830_837.out, NB837_830.out, NB831_837.out, NB837_831.out, (bB4 GE830.out GE831.out GE837.out GE836.out)⟩)
     rintro ⟨gb836, gb837⟩ w37 ⟨hS_, h0_, h1_, h2_, h3_, h4_, h5_, h6_, h7_, h8_, h9_, h10_, h11_, h12_, h13_, h14_, h15_, h16_, h17_, h18_⟩
     have n0_ : Aside0 (w37.heap[gb830]? = some (.cells #[.string a0_0, .slice A0_1 l0_1.length c0_1] 53 (0, 0))) := ⟨h0_⟩
     have n1_ : Aside0 (w37.heap[gb831]? = some (.cells #[.string a1_0, .slice A1_1 l1_1.length c1_1] 53 (0, 0))) := ⟨h1_⟩
     have n2_ : Aside0 (w37.heap[gb836]? = some (.cells #[.string (⟨#[]⟩ : ByteArray), .slice none 0 0] 69 (0, 0))) := ⟨h2_⟩
     have n3_ : Aside0 (w37.heap[gb837]? = some (.cells #[.string (⟨#[]⟩ : ByteArray), .slice none 0 0] 69 (0, 0))) := ⟨h3_⟩
     have n4_ : Aside0 (w.heap.size ≤ gb836) := ⟨h4_⟩
     have n5_ : Aside0 (w.heap.size ≤ gb836) := ⟨h5_⟩
     have n6_ : Aside0 (gb830 ≠ gb836) := ⟨h6_⟩
     have n7_ : Aside0 (gb836 ≠ gb830) := ⟨h7_⟩
     have n8_ : Aside0 (gb831 ≠ gb836) := ⟨h8_⟩
     have n9_ : Aside0 (gb836 ≠ gb831) := ⟨h9_⟩
     have n10_ : Aside0 (gb837 ≠ gb836) := ⟨h10_⟩
     have n11_ : Aside0 (gb836 ≠ gb837) := ⟨h11_⟩
     have n12_ : Aside0 (w.heap.size ≤ gb837) := ⟨h12_⟩
     have n13_ : Aside0 (w.heap.size ≤ gb837) := ⟨h13_⟩
     have n14_ : Aside0 (gb830 ≠ gb837) := ⟨h14_⟩
     have n15_ : Aside0 (gb837 ≠ gb830) := ⟨h15_⟩
     have n16_ : Aside0 (gb831 ≠ gb837) := ⟨h16_⟩
     have n17_ : Aside0 (gb837 ≠ gb831) := ⟨h17_⟩
     have n18_ : Aside0 (Below w.heap.size w w37) := ⟨h18_⟩
     clear BK830
     clear BK831
     clear HB
     clear h0_ h1_ h2_ h3_ h4_ h5_ h6_ h7_ h8_ h9_ h10_ h11_ h12_ h13_ h14_ h15_ h16_ h17_ h18_
     have BK830 := n0_
     have BK831 := n1_
     have BK836 := n2_
     have BK837 := n3_
     have GW836 := n4_
     have GE836 := n5_
     have NB830_836 := n6_
     have NB836_830 := n7_
     have NB831_836 := n8_
     have NB836_831 := n9_
     have NB837_836 := n10_
     have NB836_837 := n11_
     have GW837 := n12_
     have GE837 := n13_
     have NB830_837 := n14_
     have NB837_830 := n15_
     have NB831_837 := n16_
     have NB837_831 := n17_
     have HB := n18_
     clear n0_ n1_ n2_ n3_ n4_ n5_ n6_ n7_ n8_ n9_ n10_ n11_ n12_ n13_ n14_ n15_ n16_ n17_ n18_
     have hHeld : w37.cell? ⟨gb830, 0, none⟩ = some (.string a0_0) ∧ w37.cell? ⟨gb830, 1, none⟩ = some (.slice A0_1 l0_1.length c0_1) := hS_
     refine norm_ (a' := ?_) ?_ ?_
     rotate_left
     ·simp only [putAll, Act.put, List.setIfInBounds_toArray, List.set_cons_zero, List.set_cons_succ]
      rfl
     refine one_ (i := 8) (N := none) #[true, true, true, true, true, true, true, true, true, false] rfl rfl (one_of HT_.out (by kernel_rfl)) (by decide) (fun K hK => ?_)
     have hs38 : w37.cell? ⟨gb836, 0, none⟩ = some (.string (⟨#[]⟩ : ByteArray)) := (blk_cell BK836.out 0).trans rfl
     have hfs38 := blk_frozen BK836.out 0
     have hns38_0 := NB830_836.out
     have hns38_1 := NB831_836.out
     have hns38_3 := NB837_836.out
     have hms38_0 := NB836_830.out
     have hms38_1 := NB836_831.out
     have hms38_3 := NB836_837.out
     have hs39 : w37.cell? ⟨gb836, 1, none⟩ = some (.slice none 0 0) := (blk_cell BK836.out 1).trans rfl
     have hfs39 := blk_frozen BK836.out 1
     have hns39_0 := NB830_836.out
     have hns39_1 := NB831_836.out
     have hns39_3 := NB837_836.out
     have hms39_0 := NB836_830.out
     have hms39_1 := NB836_831.out
     have hms39_3 := NB836_837.out
     refine skip_ (w1 := ?_) (by rfl) rfl ?_ ?_
     rotate_left
     ·go_simp
      rfl
     refine hK.out _ _ ⟨((cell_far (p := ⟨gb836, _, none⟩) NB830_836.out _).trans (((cell_far (p := ⟨gb836, _, none⟩) NB830_836.out _).trans (hHeld.1)))), ((cell_far (p := ⟨gb836, _, none⟩) NB830_836.out _).trans (((cell_far (p := ⟨gb836, _, none⟩) NB830_836.out _).trans (hHeld.2))))⟩ (fun hHeld => ?_)
     clear hK K
     refine one_ (i := 9) (N := none) #[true, true, true, true, true, true, true, true, true, true] rfl rfl (one_of HT_.out (by kernel_rfl)) (by decide) (fun K hK => ?_)
     have hs40 : w37.cell? ⟨gb837, 0, none⟩ = some (.string (⟨#[]⟩ : ByteArray)) := (blk_cell BK837.out 0).trans rfl
     have hfs40 := blk_frozen BK837.out 0
     have hns40_0 := NB830_837.out
     have hns40_1 := NB831_837.out
     have hns40_2 := NB836_837.out
     have hms40_0 := NB837_830.out
     have hms40_1 := NB837_831.out
     have hms40_2 := NB837_836.out
     have hs41 : w37.cell? ⟨gb837, 1, none⟩ = some (.slice none 0 0) := (blk_cell BK837.out 1).trans rfl
     have hfs41 := blk_frozen BK837.out 1
     have hns41_0 := NB830_837.out
     have hns41_1 := NB831_837.out
     have hns41_2 := NB836_837.out
     have hms41_0 := NB837_830.out
     have hms41_1 := NB837_831.out
     have hms41_2 := NB837_836.out
     refine skip_ (w1 := ?_) (by rfl) rfl ?_ ?_
     rotate_left
     ·go_simp
      rfl
     refine hK.out _ _ ⟨((cell_far (p := ⟨gb837, _, none⟩) NB830_837.out _).trans (((cell_far (p := ⟨gb837, _, none⟩) NB830_837.out _).trans (hHeld.1)))), ((cell_far (p := ⟨gb837, _, none⟩) NB830_837.out _).trans (((cell_far (p := ⟨gb837, _, none⟩) NB830_837.out _).trans (hHeld.2))))⟩ (fun hHeld => ?_)
     clear hK K
     refine done_ (done_of HT_.out (by kernel_rfl)) ?_
     try go_wp2_with (first | ((with_reducible refine gate_dst (N := 38) rfl ?_); (try (refine gate_guard (by rfl) ?_; dsimp only)); refine Kd.R_lit Kd.string _ 9 ?hg (N := 38) ?hd (xs := ([(⟨#[65]⟩ : ByteArray), (⟨#[66]⟩ : ByteArray), (⟨#[67]⟩ : ByteArray), (⟨#[68]⟩ : ByteArray), (⟨#[69]⟩ : ByteArray)] : List ByteArray)) (inner := [.string (⟨#[65]⟩ : ByteArray), .string (⟨#[66]⟩ : ByteArray), .string (⟨#[67]⟩ : ByteArray), .string (⟨#[68]⟩ : ByteArray), .string (⟨#[69]⟩ : ByteArray)]) (ok := fun _ => True) (okp := fun _ => True) ?hr ?hp (fun _ hk => hk) trivial (Below.refl _ _) (Nat.le_refl _) (by simp) ?_; (case hd => rfl); (case hg => rfl); (case hr => first | (go_simp; done) | (go_simp; rfl)); (case hp => exact (Reps.one (show Kd.M Kd.string _ _ _ (⟨#[65]⟩ : ByteArray) [.string (⟨#[65]⟩ : ByteArray)] from rfl) (Reps.one (show Kd.M Kd.string _ _ _ (⟨#[66]⟩ : ByteArray) [.string (⟨#[66]⟩ : ByteArray)] from rfl) (Reps.one (show Kd.M Kd.string _ _ _ (⟨#[67]⟩ : ByteArray) [.string (⟨#[67]⟩ : ByteArray)] from rfl) (Reps.one (show Kd.M Kd.string _ _ _ (⟨#[68]⟩ : ByteArray) [.string (⟨#[68]⟩ : ByteArray)] from rfl) (Reps.one (show Kd.M Kd.string _ _ _ (⟨#[69]⟩ : ByteArray) [.string (⟨#[69]⟩ : ByteArray)] from rfl) (Reps.none _ _))))))); intro v839 w42 ho43 hb hg_ hnew_; clear hg_ hnew_; (first | rw [← Ny838.out] at ho43 | (simp only [Int.reduceToNat] at ho43; rw [← Ny838.out] at ho43)); have n0_ := Aside0.mk (Kd.R_lower ho43 (below_size (bB4 GE830.out GE831.out GE836.out GE837.out))); have n1_ := Aside0.mk (blk_below (g := gb830) (o := .cells #[.string a0_0, .slice A0_1 l0_1.length c0_1] 53 (0, 0)) (by refine bk ?_; refine blk_far ?_ NB830_837.out _; refine bk ?_; refine blk_far ?_ NB830_837.out _; refine bk ?_; refine blk_far ?_ NB830_836.out _; refine bk ?_; refine blk_far ?_ NB830_836.out _; refine bk ?_; exact BK830.out) hb); have n2_ := Aside0.mk (blk_below (g := gb831) (o := .cells #[.string a1_0, .slice A1_1 l1_1.length c1_1] 53 (0, 0)) (by refine bk ?_; refine blk_far ?_ NB831_837.out _; refine bk ?_; refine blk_far ?_ NB831_837.out _; refine bk ?_; refine blk_far ?_ NB831_836.out _; refine bk ?_; refine blk_far ?_ NB831_836.out _; refine bk ?_; exact BK831.out) hb); have n3_ := Aside0.mk (blk_below (g := gb836) (o := .cells #[.string a0_0, .slice none 0 0] 69 (0, 0)) (by refine bk ?_; refine blk_far ?_ NB836_837.out _; refine bk ?_; refine blk_far ?_ NB836_837.out _; refine bk ?_; refine blk_put (cs := #[.string a0_0, .slice none 0 0]) ?_ 1 _ rfl; refine bk ?_; refine blk_put (cs := #[.string (⟨#[]⟩ : ByteArray), .slice none 0 0]) ?_ 0 _ rfl; refine bk ?_; exact BK836.out) hb); have n4_ := Aside0.mk (blk_below (g := gb837) (o := .cells #[.string a0_0, .slice none 0 0] 69 (0, 0)) (by refine bk ?_; refine blk_put (cs := #[.string a0_0, .slice none 0 0]) ?_ 1 _ rfl; refine bk ?_; refine blk_put (cs := #[.string (⟨#[]⟩ : ByteArray), .slice none 0 0]) ?_ 0 _ rfl; refine bk ?_; refine blk_far ?_ NB837_836.out _; refine bk ?_; refine blk_far ?_ NB837_836.out _; refine bk ?_; exact BK837.out) hb); have n5_ := Aside0.mk (below_step (bB4 GE830.out GE831.out GE836.out GE837.out) hb); clear BK830; clear BK831; clear BK836; clear BK837; clear HB; have HO840 := n0_; have BK830 := n1_; have BK831 := n2_; have BK836 := n3_; have BK837 := n4_; have HB := n5_; clear n0_ n1_ n2_ n3_ n4_ n5_; clear hb ho43))
     go_loopg [8] k (fun kq v8 w' => ∃ (x8_1 : Int) (x837001_1 : List (S77)) (x838001_1 : List (S77)) (u837001 : Value) (u838001 : Value), v8 = .int .i64 x8_1 ∧ Aside0 (constablelaw06_MatchFree.l0 kq y838 x8_1 a0_0 l0_1 a1_0 l1_1 a0_0 x837001_1 a0_0 x838001_1 = some r) ∧ Aside0 (kq ≤ k) ∧ Aside0 (Kd.R Kd.string 9 w' w.heap.size (fun _ => True) v839 y838) ∧ Aside0 (Kd.R k77 77 w' w.heap.size (fun k_ => some k_ ≠ (u838001 : Value).ownBlock) u837001 x837001_1) ∧ Aside0 (Kd.R k77 77 w' w.heap.size (fun k_ => some k_ ≠ (u837001 : Value).ownBlock) u838001 x838001_1) ∧ Aside0 (w'.heap[gb830]? = some (.cells #[.string a0_0, (.slice A0_1 l0_1.length c0_1)] 53 (0, 0))) ∧ Aside0 (w'.heap[gb831]? = some (.cells #[.string a1_0, (.slice A1_1 l1_1.length c1_1)] 53 (0, 0))) ∧ Aside0 (w'.heap[gb836]? = some (.cells #[.string a0_0, u837001] 69 (0, 0))) ∧ Aside0 (w'.heap[gb837]? = some (.cells #[.string a0_0, u838001] 69 (0, 0))) ∧ Aside0 (Below w.heap.size w w'))
     case atStart => exact ⟨(0), (([] : List (S77))), (([] : List (S77))), (.slice none 0 0), (.slice none 0 0), (by first | rfl | (simp; done) | (simp [*]; done)), H', ⟨Nat.le_refl _⟩, ⟨by (with_reducible repeat (first | apply Kd.R_alloc | apply Kd.R_drewN | apply Kd.R_drew)); exact HO840.out⟩, ⟨by first | exact Kd.R_nil _ _ _ _ _ | exact Kd.N_nil _ _ _ _ _ | exact Kd.V_nil _ _ _ _ _ | exact Kd.Q_nil _ _ _ _ _ | exact Kd.S_nil _ _ _ _ _⟩, ⟨by first | exact Kd.R_nil _ _ _ _ _ | exact Kd.N_nil _ _ _ _ _ | exact Kd.V_nil _ _ _ _ _ | exact Kd.Q_nil _ _ _ _ _ | exact Kd.S_nil _ _ _ _ _⟩, ⟨by refine bk ?_; exact BK830.out⟩, ⟨by refine bk ?_; exact BK831.out⟩, ⟨by refine bk ?_; exact BK836.out⟩, ⟨by refine bk ?_; exact BK837.out⟩, ⟨(bB4 GE830.out GE831.out GE836.out GE837.out)⟩⟩
     case round =>
      clear H'
      (try clear c1); (try clear c2); (try clear p2); (try clear c3); (try clear c4); (try clear c7); (try clear c11); (try clear c13); (try clear c14); (try clear c20); (try clear c22); (try clear c25); (try clear c36); (try clear hcz15_0); (try clear hcz15_1); (try clear hcz17_0); (try clear hcz17_1); (try clear hcz26_0); (try clear hcz26_1); (try clear hcz28_0); (try clear hcz28_1); (try clear hcz30_0); (try clear hcz30_1); (try clear hcz32_0); (try clear hcz32_1); (try clear hcz8_0); (try clear hcz8_1); (try clear hfz15_0); (try clear hfz15_1); (try clear hfz17_0); (try clear hfz17_1); (try clear hfz26_0); (try clear hfz26_1); (try clear hfz28_0); (try clear hfz28_1); (try clear hfz30_0); (try clear hfz30_1); (try clear hfz32_0); (try clear hfz32_1); (try clear hfz8_0); (try clear hfz8_1)
      obtain ⟨x8_1, x837001_1, x838001_1, u837001, u838001, rfl, HA, HK1, HO_7, HO_837001, HO_838001, BK830, BK831, BK836, BK837, HB⟩ := hrel
      cases gk with
      | zero => exact absurd HA.out (by simp [constablelaw06_MatchFree.l0])
      | succ k1 =>
       have H := HA.out
       clear HA
       simp only [constablelaw06_MatchFree.l0] at H
       by_cases c44 : x8_1 < (l0_1.length : Int)
       ·rw [if_pos c44] at H
        have c44b0 : decide (x8_1 < (l0_1.length : Int)) = true := decide_eq_true c44
        clear c44
        by_cases c45 : 0 ≤ x8_1
        ·rw [if_pos c45] at H
         have c45b0 : decide (0 ≤ x8_1) = true := decide_eq_true c45
         clear c45
         by_cases c46 : x8_1 < (y838.length : Int)
         ·rw [if_pos c46] at H
          have c46b0 : decide (x8_1 < (y838.length : Int)) = true := decide_eq_true c46
          clear c46
          by_cases c47 : x837001_1.length < 2932031007402
          ·rw [if_pos c47] at H
           have LMc47 := Aside0.mk c47
           clear c47
           obtain ⟨y842, hy842⟩ : ∃ y_ : List (S77), y_ = (x837001_1 ++ [(⟨rdOf ByteArray.empty y838 x8_1, (⟨0, 0, (⟨#[]⟩ : ByteArray)⟩ : S24)⟩ : S77)]) := ⟨_, rfl⟩
           replace H : (if x838001_1.length < 2932031007402 then (constablelaw06_MatchFree.l0 k1 y838 (wrap64 (x8_1 + 1)) a0_0 l0_1 a1_0 l1_1 a0_0 y842 a0_0 (x838001_1 ++ [(⟨(⟨#[]⟩ : ByteArray), (⟨(rd_T24 l0_1 x8_1).f0, (rd_T24 l0_1 x8_1).f1, (rd_T24 l0_1 x8_1).f2⟩ : S24)⟩ : S77)])) else (none)) = some r := by first | (rw [hy842]; with_reducible exact H) | (have H2_ := (Option.bind_some _ _).symm.trans H; rw [hy842]; with_reducible exact H2_) | (have H2_ := (Option.bind_some _ _).symm.trans H; with_reducible exact H2_) | with_reducible exact H | (rw [hy842]; exact H) | exact H
           have Ny842 := Aside0.mk hy842
           clear hy842
           by_cases c48 : x838001_1.length < 2932031007402
           ·rw [if_pos c48] at H
            have LMc48 := Aside0.mk c48
            clear c48
            obtain ⟨y846, hy846⟩ : ∃ y_ : List (S77), y_ = (x838001_1 ++ [(⟨(⟨#[]⟩ : ByteArray), (⟨(rd_T24 l0_1 x8_1).f0, (rd_T24 l0_1 x8_1).f1, (rd_T24 l0_1 x8_1).f2⟩ : S24)⟩ : S77)]) := ⟨_, rfl⟩
            replace H : (constablelaw06_MatchFree.l0 k1 y838 (wrap64 (x8_1 + 1)) a0_0 l0_1 a1_0 l1_1 a0_0 y842 a0_0 y846) = some r := by first | (rw [hy846]; with_reducible exact H) | (have H2_ := (Option.bind_some _ _).symm.trans H; rw [hy846]; with_reducible exact H2_) | (have H2_ := (Option.bind_some _ _).symm.trans H; with_reducible exact H2_) | with_reducible exact H | (rw [hy846]; exact H) | exact H
            have Ny846 := Aside0.mk hy846
            clear hy846
            have H' := Aside0.mk H
            clear H
            have hnb49 := NB830_831.out
            have hnc49 := NB831_830.out
            have hnb50 := NB830_836.out
            have hnc50 := NB836_830.out
            have hnb51 := NB830_837.out
            have hnc51 := NB837_830.out
            have hcz52_0 : wr.cell? ⟨gb830, 0, none⟩ = some (.string a0_0) := (blk_cell BK830.out 0).trans rfl
            have hcz52_1 : wr.cell? ⟨gb830, 1, none⟩ = some (.slice A0_1 l0_1.length c0_1) := (blk_cell BK830.out 1).trans rfl
            have hfz52_0 := blk_frozen BK830.out 0
            have hfz52_1 := blk_frozen BK830.out 1
            try go_wp2
            have n0_ := Aside0.mk (Kd.R_drew HO_7.out)
            have n1_ := Aside0.mk (Kd.R_drew HO_837001.out)
            have n2_ := Aside0.mk (Kd.R_drew HO_838001.out)
            have n3_ := Aside0.mk (blk_drew BK830.out)
            have n4_ := Aside0.mk (blk_drew BK831.out)
            have n5_ := Aside0.mk (blk_drew BK836.out)
            have n6_ := Aside0.mk (blk_drew BK837.out)
            have n7_ := Aside0.mk (below_drew1 HB.out)
            clear HO_7
            clear HO_837001
            clear HO_838001
            clear BK830
            clear BK831
            clear BK836
            clear BK837
            clear HB
            have HO_7 := n0_
            have HO_837001 := n1_
            have HO_838001 := n2_
            have BK830 := n3_
            have BK831 := n4_
            have BK836 := n5_
            have BK837 := n6_
            have HB := n7_
            clear n0_ n1_ n2_ n3_ n4_ n5_ n6_ n7_
            obtain ⟨Ao54, co54, eo54⟩ := Kd.R_slice HO_7.out
            (first | subst eo54 | (injection eo54 with f1_ f2_ f3_; have f4_ := f1_.symm; have f5_ := f3_.symm; clear f1_ f2_ f3_; subst f4_; subst f5_))
            have p841 : 0 ≤ (x8_1 : Int) := of_decide_eq_true (by first | (with_reducible assumption) | assumption)
            have q841 : x8_1 < (y838.length : Int) := of_decide_eq_true (by first | (with_reducible assumption) | assumption)
            obtain ⟨ad841, e841, hx841_0⟩ := Kd.at_string (Kd.R_reads' HO_7.out).2.2 x8_1 p841 q841
            cases e841
            replace p841 := eq_true p841
            replace q841 := eq_true q841
            refine start_ (n := 11) (S := fun w' => w'.cell? ⟨gb836, 0, none⟩ = some (.string a0_0) ∧ w'.cell? ⟨gb836, 1, none⟩ = some (u837001) ∧ w'.cell? (ad841.add (x8_1).toNat) = some (.string (rdOf ByteArray.empty y838 x8_1))) (ds := [8, 10]) #[false, false, false, false, false, false, false, false, false, false, false] (by kernel_rfl) rfl rfl ⟨(blk_cell BK836.out 0).trans rfl, (blk_cell BK836.out 1).trans rfl, hx841_0⟩ (fun hHeld => ?_); refine with_tabW constablelaw06_MatchFree.tab8 constablelaw06_MatchFree.bits8 (fun HT_ HW_ => ?_)
            generalize wr.drew = w53 at HO_7 HO_837001 HO_838001 BK830 BK831 BK836 BK837 HB hx841_0 hHeld ⊢
            refine pQ (i := 0) (N := some 46) #[true, false, false, false, false, false, false, false, false, false, false] ?_
            refine pQ (i := 2) (N := some 48) #[true, false, true, false, false, false, false, false, false, false, false] ?_
            refine pQ (i := 3) (N := some 49) #[true, false, true, true, false, false, false, false, false, false, false] ?_
            refine pQ (i := 4) (N := some 50) #[true, false, true, true, true, false, false, false, false, false, false] ?_
            refine tQ3 (i := 1) (N := some 47) #[true, true, true, true, true, false, false, false, false, false, false] hHeld ?_
            refine tQ3 (i := 5) (N := some 51) #[true, true, true, true, true, true, false, false, false, false, false] hHeld ?_
            refine pQ (i := 6) (N := some 52) #[true, true, true, true, true, true, true, false, false, false, false] ?_
            refine one_ (i := 7) (N := some 53) #[true, true, true, true, true, true, true, true, false, false, false] rfl rfl (one_of HT_.out (by kernel_rfl)) (by decide) (fun K hK => ?_)
            refine value_ (w1 := ?_) (v := ?_) (by rfl) rfl ?_ ?_
            rotate_left 2
            ·go_simp
             constructor
             ·rfl
             ·rfl
            refine hK.out _ _ ⟨(blk_cell (blk_alloc BK836.out _) 0).trans rfl, (blk_cell (blk_alloc BK836.out _) 1).trans rfl, (World.cell?_alloc_lt _ _ _ (World.block_lt_of_cell? _ _ (hHeld.2.2))).trans (hHeld.2.2)⟩ (fun hHeld => ?_)
            clear hK K
            refine norm_ (a' := ?_) ?_ ?_
            rotate_left
            ·show Act.put _ (some 53) _ = _
             simp only [Act.put, List.setIfInBounds_toArray, List.set_cons_zero, List.set_cons_succ, i64_w, i32_w]
             rfl
            refine last_ (i := 8) (N := some 54) #[true, true, true, true, true, true, true, true, true, false, false] rfl rfl (one_of HT_.out (by kernel_rfl)) (by decide) (fun K hK => ?_)
            refine Kd.R_append_step k77 (w0 := w) w.heap.size (by rfl) (.tmp 47) (.tmp 53) 67 77 (.agg #[(.string ⟨#[]⟩), (.int .i64 0), (.int .i64 0), (.string ⟨#[]⟩)]) 48 rfl Try.underlying67 info77 rfl (by decide) (by omega) u837001 x837001_1 (⟨rdOf ByteArray.empty y838 x8_1, (⟨0, 0, (⟨#[]⟩ : ByteArray)⟩ : S24)⟩ : S77) [.string (rdOf ByteArray.empty y838 x8_1), .int .i64 0, .int .i64 0, .string (⟨#[]⟩ : ByteArray)] (fun k_ => some k_ ≠ (u838001 : Value).ownBlock) (fun _ => False) rfl rfl ?aP (fun _ hk => hk.elim) ?aF ?aO ?aB ?aS ?aL ?_
            (case aP => exact k77_mkM _ _ _ (⟨rdOf ByteArray.empty y838 x8_1, (⟨0, 0, (⟨#[]⟩ : ByteArray)⟩ : S24)⟩ : S77))
            (case aB => exact (bB4 GE830.out GE831.out GE836.out GE837.out))
            (case aF => exact (fun k_ hk => Kd.fresh' (Kd.R_lt (sR HO_838001.out)) k_ hk))
            (case aO => exact (sR HO_837001.out))
            (case aS => exact (below_size (bB4 GE830.out GE831.out GE836.out GE837.out)))
            (case aL => have := LMc47.out; omega)
            intro v843 w55 ho hb hg hat
            rw [← Ny842.out] at ho
            have n0_ := Aside0.mk (Kd.R_over' (sR HO_7.out) (Kd.R_typed (sR HO_837001.out)) (by decide) hg)
            have n1_ := Aside0.mk (Kd.R_after (ok := (fun _ => True)) (sR (Kd.R_mono HO_838001.out (fun _ hk => ⟨trivial, hk⟩))) hg hat)
            have n2_ := Aside0.mk (blk_grown (g := gb830) (o := .cells #[.string a0_0, .slice A0_1 l0_1.length c0_1] 53 (0, 0)) (by refine bk ?_; exact BK830.out) hg (Kd.R_ne HO_837001.out BK830.out (by decide)))
            have n3_ := Aside0.mk (blk_grown (g := gb831) (o := .cells #[.string a1_0, .slice A1_1 l1_1.length c1_1] 53 (0, 0)) (by refine bk ?_; exact BK831.out) hg (Kd.R_ne HO_837001.out BK831.out (by decide)))
            have n4_ := Aside0.mk (blk_grown (g := gb836) (o := .cells #[.string a0_0, u837001] 69 (0, 0)) (by refine bk ?_; exact BK836.out) hg (Kd.R_ne HO_837001.out BK836.out (by decide)))
            have n5_ := Aside0.mk (blk_grown (g := gb837) (o := .cells #[.string a0_0, u838001] 69 (0, 0)) (by refine bk ?_; exact BK837.out) hg (Kd.R_ne HO_837001.out BK837.out (by decide)))
            have n6_ := Aside0.mk (hb)
            have n7_ := Aside0.mk (ho)
            clear HO_7
            clear HO_838001
            clear BK830
            clear BK831
            clear BK836
            clear BK837
            clear HB
            clear HO_837001
            have HO_7 := n0_
            have HO_838001 := n1_
            have BK830 := n2_
            have BK831 := n3_
            have BK836 := n4_
            have BK837 := n5_
            have HB := n6_
            have HO844 := n7_
            clear n0_ n1_ n2_ n3_ n4_ n5_ n6_ n7_
            clear ho hb hg hat
            obtain ⟨Ao56, co56, eo56⟩ := Kd.R_slice HO844.out
            (first | subst eo56 | (injection eo56 with f1_ f2_ f3_; have f4_ := f1_.symm; have f5_ := f3_.symm; clear f1_ f2_ f3_; subst f4_; subst f5_))
            refine hK.out _ _ ?_
            clear hK K
            refine norm_ (a' := ?_) ?_ ?_
            rotate_left
            ·show Act.put _ (some 54) _ = _
             simp only [Act.put, List.setIfInBounds_toArray, List.set_cons_zero, List.set_cons_succ, i64_w, i32_w]
             rfl
            refine pQ (i := 9) (N := some 55) #[true, true, true, true, true, true, true, true, true, true, false] ?_
            refine last_ (i := 10) (N := none) #[true, true, true, true, true, true, true, true, true, true, true] rfl rfl (one_of HT_.out (by kernel_rfl)) (by decide) (fun K hK => ?_)
            have hs57 : w55.cell? ⟨gb836, 1, none⟩ = some (u837001) := (blk_cell BK836.out 1).trans rfl
            have hfs57 := blk_frozen BK836.out 1
            have hns57_0 := NB830_836.out
            have hns57_1 := NB831_836.out
            have hns57_3 := NB837_836.out
            have hms57_0 := NB836_830.out
            have hms57_1 := NB836_831.out
            have hms57_3 := NB836_837.out
            refine skip_ (w1 := ?_) (by rfl) rfl ?_ ?_
            rotate_left
            ·go_simp
             rfl
            refine hK.out _ _ ?_
            clear hK K
            refine done_ (done_of HT_.out (by kernel_rfl)) ?_
            try go_wp2
            have n0_ : Aside0 (Kd.R Kd.string 9 (w55.setCell ⟨gb836, 1, none⟩ (.slice Ao56 y842.length co56)) w.heap.size (fun _ => True) (.slice (some ad841) y838.length co54) y838) := ⟨by (with_reducible repeat (first | apply Kd.R_alloc | apply Kd.R_drewN | apply Kd.R_drew)); exact Kd.R_mono (Kd.R_far (p := ⟨gb836, 1, none⟩) (Kd.R_types HO_7.out BK836.out (by decide)) (fun _ hk => hk.2) (.slice Ao56 y842.length co56)) (fun _ hk => trivial)⟩
            have n1_ : Aside0 (Kd.R k77 77 (w55.setCell ⟨gb836, 1, none⟩ (.slice Ao56 y842.length co56)) w.heap.size (fun k_ => some k_ ≠ (.slice Ao56 y842.length co56 : Value).ownBlock) u838001 x838001_1) := ⟨by (with_reducible repeat (first | apply Kd.R_alloc | apply Kd.R_drewN | apply Kd.R_drew)); exact Kd.R_mono (Kd.R_far (p := ⟨gb836, 1, none⟩) (Kd.R_types HO_838001.out BK836.out (by decide)) (fun _ hk => hk.2) (.slice Ao56 y842.length co56)) (fun _ hk => hk.1.2)⟩
            have n2_ : Aside0 (Kd.R k77 77 (w55.setCell ⟨gb836, 1, none⟩ (.slice Ao56 y842.length co56)) w.heap.size (fun k_ => some k_ ≠ (u838001 : Value).ownBlock) (.slice Ao56 y842.length co56) y842) := ⟨by (with_reducible repeat (first | apply Kd.R_alloc | apply Kd.R_drewN | apply Kd.R_drew)); exact Kd.R_mono (Kd.R_far (p := ⟨gb836, 1, none⟩) (Kd.R_types HO844.out BK836.out (by decide)) (fun _ hk => hk.2) (.slice Ao56 y842.length co56)) (fun _ hk => hk.1)⟩
            have n3_ : Aside0 ((w55.setCell ⟨gb836, 1, none⟩ (.slice Ao56 y842.length co56)).heap[gb830]? = some (.cells #[.string a0_0, .slice A0_1 l0_1.length c0_1] 53 (0, 0))) := ⟨by refine bk ?_; refine blk_far ?_ NB830_836.out _; refine bk ?_; exact BK830.out⟩
            have n4_ : Aside0 ((w55.setCell ⟨gb836, 1, none⟩ (.slice Ao56 y842.length co56)).heap[gb831]? = some (.cells #[.string a1_0, .slice A1_1 l1_1.length c1_1] 53 (0, 0))) := ⟨by refine bk ?_; refine blk_far ?_ NB831_836.out _; refine bk ?_; exact BK831.out⟩
            have n5_ : Aside0 ((w55.setCell ⟨gb836, 1, none⟩ (.slice Ao56 y842.length co56)).heap[gb836]? = some (.cells #[.string a0_0, .slice Ao56 y842.length co56] 69 (0, 0))) := ⟨by refine bk ?_; refine blk_put (cs := #[.string a0_0, u837001]) ?_ 1 _ rfl; refine bk ?_; exact BK836.out⟩
            have n6_ : Aside0 ((w55.setCell ⟨gb836, 1, none⟩ (.slice Ao56 y842.length co56)).heap[gb837]? = some (.cells #[.string a0_0, u838001] 69 (0, 0))) := ⟨by refine bk ?_; refine blk_far ?_ NB837_836.out _; refine bk ?_; exact BK837.out⟩
            have n7_ : Aside0 (Below w.heap.size w (w55.setCell ⟨gb836, 1, none⟩ (.slice Ao56 y842.length co56))) := ⟨(bB4 GE830.out GE831.out GE836.out GE837.out)⟩
            (try clear HO_7)
            (try clear HO_838001)
            (try clear HO844)
            (try clear BK830)
            (try clear BK831)
            (try clear BK836)
            (try clear BK837)
            (try clear HB)
            generalize (w55.setCell ⟨gb836, 1, none⟩ (.slice Ao56 y842.length co56)) = w58 at n0_ n1_ n2_ n3_ n4_ n5_ n6_ n7_ ⊢
            have HO_7 := n0_
            have HO_838001 := n1_
            have HO844 := n2_
            have BK830 := n3_
            have BK831 := n4_
            have BK836 := n5_
            have BK837 := n6_
            have HB := n7_
            clear n0_ n1_ n2_ n3_ n4_ n5_ n6_ n7_
            have n0_ := Aside0.mk (Kd.R_drew HO_7.out)
            have n1_ := Aside0.mk (Kd.R_drew HO_838001.out)
            have n2_ := Aside0.mk (Kd.R_drew HO844.out)
            have n3_ := Aside0.mk (blk_drew BK830.out)
            have n4_ := Aside0.mk (blk_drew BK831.out)
            have n5_ := Aside0.mk (blk_drew BK836.out)
            have n6_ := Aside0.mk (blk_drew BK837.out)
            have n7_ := Aside0.mk (below_drew1 HB.out)
            clear HO_7
            clear HO_838001
            clear HO844
            clear BK830
            clear BK831
            clear BK836
            clear BK837
            clear HB
            have HO_7 := n0_
            have HO_838001 := n1_
            have HO844 := n2_
            have BK830 := n3_
            have BK831 := n4_
            have BK836 := n5_
            have BK837 := n6_
            have HB := n7_
            clear n0_ n1_ n2_ n3_ n4_ n5_ n6_ n7_
            have p845 : 0 ≤ (x8_1 : Int) := of_decide_eq_true (by first | (with_reducible assumption) | assumption)
            have q845 : x8_1 < (l0_1.length : Int) := of_decide_eq_true (by first | (with_reducible assumption) | assumption)
            obtain ⟨ad845, e845, hx845_0, hx845_1, hx845_2⟩ := at_T24 HR0_1.out x8_1 p845 q845
            have hw845_2 := hx845_2
            have hw845_1 := hx845_1
            have hw845_0 := hx845_0
            cases e845
            replace hx845_0 := (HB.out.cell (World.block_lt_of_cell? w _ hx845_0)).trans hx845_0
            replace hx845_1 := (HB.out.cell (World.block_lt_of_cell? w _ hx845_1)).trans hx845_1
            replace hx845_2 := (HB.out.cell (World.block_lt_of_cell? w _ hx845_2)).trans hx845_2
            replace p845 := eq_true p845
            replace q845 := eq_true q845
            refine start_ (n := 12) (S := fun w' => w'.cell? ⟨gb837, 0, none⟩ = some (.string a0_0) ∧ w'.cell? ⟨gb837, 1, none⟩ = some (u838001) ∧ w'.cell? ⟨gb830, 0, none⟩ = some (.string a0_0) ∧ w'.cell? ⟨gb830, 1, none⟩ = some (.slice (some ad845) l0_1.length c0_1) ∧ w'.cell? (ad845.add ((x8_1).toNat * 3)) = some (.int .i64 ((rd_T24 l0_1 x8_1).f0)) ∧ w'.cell? ⟨(ad845.add ((x8_1).toNat * 3)).block, (ad845.add ((x8_1).toNat * 3)).off + 1, none⟩ = some (.int .i64 ((rd_T24 l0_1 x8_1).f1)) ∧ w'.cell? ⟨(ad845.add ((x8_1).toNat * 3)).block, (ad845.add ((x8_1).toNat * 3)).off + 2, none⟩ = some (.string ((rd_T24 l0_1 x8_1).f2))) (ds := [11]) #[false, false, false, false, false, false, false, false, false, false, false, false] (by kernel_rfl) rfl rfl ⟨(blk_cell BK837.out 0).trans rfl, (blk_cell BK837.out 1).trans rfl, (blk_cell BK830.out 0).trans rfl, (blk_cell BK830.out 1).trans rfl, ((HB.out.cell (World.block_lt_of_cell? w _ hw845_0)).trans hw845_0), ((HB.out.cell (World.block_lt_of_cell? w _ hw845_1)).trans hw845_1), ((HB.out.cell (World.block_lt_of_cell? w _ hw845_2)).trans hw845_2)⟩ (fun hHeld => ?_); refine with_tabW constablelaw06_MatchFree.tab9 constablelaw06_MatchFree.bits9 (fun HT_ HW_ => ?_)
            generalize w58.drew = w59 at HO_7 HO_838001 HO844 BK830 BK831 BK836 BK837 HB hx845_0 hx845_1 hx845_2 hHeld ⊢
            refine pQ (i := 0) (N := some 56) #[true, false, false, false, false, false, false, false, false, false, false, false] ?_
            refine pQ (i := 2) (N := some 58) #[true, false, true, false, false, false, false, false, false, false, false, false] ?_
            refine pQ (i := 4) (N := some 60) #[true, false, true, false, true, false, false, false, false, false, false, false] ?_
            refine tQ7 (i := 1) (N := some 57) #[true, true, true, false, true, false, false, false, false, false, false, false] hHeld ?_
            refine tQ7 (i := 3) (N := some 59) #[true, true, true, true, true, false, false, false, false, false, false, false] hHeld ?_
            refine pQ (i := 5) (N := some 61) #[true, true, true, true, true, true, false, false, false, false, false, false] ?_
            refine tQ7 (i := 6) (N := some 62) #[true, true, true, true, true, true, true, false, false, false, false, false] hHeld ?_
            refine pQ (i := 7) (N := some 63) #[true, true, true, true, true, true, true, true, false, false, false, false] ?_
            refine one_ (i := 8) (N := some 64) #[true, true, true, true, true, true, true, true, true, false, false, false] rfl rfl (one_of HT_.out (by kernel_rfl)) (by decide) (fun K hK => ?_)
            refine value_ (w1 := ?_) (v := ?_) (by rfl) rfl ?_ ?_
            rotate_left 2
            ·go_simp
             constructor
             ·rfl
             ·rfl
            refine hK.out _ _ ⟨(blk_cell (blk_alloc BK837.out _) 0).trans rfl, (blk_cell (blk_alloc BK837.out _) 1).trans rfl, (blk_cell (blk_alloc BK830.out _) 0).trans rfl, (blk_cell (blk_alloc BK830.out _) 1).trans rfl, (World.cell?_alloc_lt _ _ _ (World.block_lt_of_cell? _ _ (((HB.out.cell (World.block_lt_of_cell? w _ hw845_0)).trans hw845_0)))).trans (((HB.out.cell (World.block_lt_of_cell? w _ hw845_0)).trans hw845_0)), (World.cell?_alloc_lt _ _ _ (World.block_lt_of_cell? _ _ (((HB.out.cell (World.block_lt_of_cell? w _ hw845_1)).trans hw845_1)))).trans (((HB.out.cell (World.block_lt_of_cell? w _ hw845_1)).trans hw845_1)), (World.cell?_alloc_lt _ _ _ (World.block_lt_of_cell? _ _ (((HB.out.cell (World.block_lt_of_cell? w _ hw845_2)).trans hw845_2)))).trans (((HB.out.cell (World.block_lt_of_cell? w _ hw845_2)).trans hw845_2))⟩ (fun hHeld => ?_)
            clear hK K
            refine norm_ (a' := ?_) ?_ ?_
            rotate_left
            ·show Act.put _ (some 64) _ = _
             simp only [Act.put, List.setIfInBounds_toArray, List.set_cons_zero, List.set_cons_succ, i64_w, i32_w]
             rfl
            refine one_ (i := 9) (N := some 65) #[true, true, true, true, true, true, true, true, true, true, false, false] rfl rfl (one_of HT_.out (by kernel_rfl)) (by decide) (fun K hK => ?_)
            refine Kd.R_append_step k77 (w0 := w) w.heap.size (by rfl) (.tmp 57) (.tmp 64) 67 77 (.agg #[(.string ⟨#[]⟩), (.int .i64 0), (.int .i64 0), (.string ⟨#[]⟩)]) 48 rfl Try.underlying67 info77 rfl (by decide) (by omega) u838001 x838001_1 (⟨(⟨#[]⟩ : ByteArray), (⟨(rd_T24 l0_1 x8_1).f0, (rd_T24 l0_1 x8_1).f1, (rd_T24 l0_1 x8_1).f2⟩ : S24)⟩ : S77) [.string (⟨#[]⟩ : ByteArray), .int .i64 ((rd_T24 l0_1 x8_1).f0), .int .i64 ((rd_T24 l0_1 x8_1).f1), .string ((rd_T24 l0_1 x8_1).f2)] (fun k_ => some k_ ≠ (.slice Ao56 y842.length co56 : Value).ownBlock) (fun _ => False) rfl rfl ?aP (fun _ hk => hk.elim) ?aF ?aO ?aB ?aS ?aL ?_
            (case aP => exact k77_mkM _ _ _ (⟨(⟨#[]⟩ : ByteArray), (⟨(rd_T24 l0_1 x8_1).f0, (rd_T24 l0_1 x8_1).f1, (rd_T24 l0_1 x8_1).f2⟩ : S24)⟩ : S77))
            (case aB => exact (bB4 GE830.out GE831.out GE836.out GE837.out))
            (case aF => exact (fun k_ hk => Kd.fresh' (Kd.R_lt (sR HO844.out)) k_ hk))
            (case aO => exact (sR HO_838001.out))
            (case aS => exact (below_size (bB4 GE830.out GE831.out GE836.out GE837.out)))
            (case aL => have := LMc48.out; omega)
            intro v847 w60 ho hb hg hat
            rw [← Ny846.out] at ho
            have n0_ := Aside0.mk (Kd.R_over' (sR HO_7.out) (Kd.R_typed (sR HO_838001.out)) (by decide) hg)
            have n1_ := Aside0.mk (blk_grown (g := gb830) (o := .cells #[.string a0_0, .slice (some ad845) l0_1.length c0_1] 53 (0, 0)) (by refine bk ?_; exact BK830.out) hg (Kd.R_ne HO_838001.out BK830.out (by decide)))
            have n2_ := Aside0.mk (blk_grown (g := gb831) (o := .cells #[.string a1_0, .slice A1_1 l1_1.length c1_1] 53 (0, 0)) (by refine bk ?_; exact BK831.out) hg (Kd.R_ne HO_838001.out BK831.out (by decide)))
            have n3_ := Aside0.mk (blk_grown (g := gb836) (o := .cells #[.string a0_0, .slice Ao56 y842.length co56] 69 (0, 0)) (by refine bk ?_; exact BK836.out) hg (Kd.R_ne HO_838001.out BK836.out (by decide)))
            have n4_ := Aside0.mk (blk_grown (g := gb837) (o := .cells #[.string a0_0, u838001] 69 (0, 0)) (by refine bk ?_; exact BK837.out) hg (Kd.R_ne HO_838001.out BK837.out (by decide)))
            have n5_ := Aside0.mk (Kd.R_after (ok := (fun _ => True)) (sR (Kd.R_mono HO844.out (fun _ hk => ⟨trivial, hk⟩))) hg hat)
            have n6_ := Aside0.mk (hb)
            have n7_ := Aside0.mk (ho)
            clear HO_7
            clear BK830
            clear BK831
            clear BK836
            clear BK837
            clear HO844
            clear HB
            clear HO_838001
            have HO_7 := n0_
            have BK830 := n1_
            have BK831 := n2_
            have BK836 := n3_
            have BK837 := n4_
            have HO844 := n5_
            have HB := n6_
            have HO848 := n7_
            clear n0_ n1_ n2_ n3_ n4_ n5_ n6_ n7_
            clear ho hb hg hat
            obtain ⟨Ao61, co61, eo61⟩ := Kd.R_slice HO848.out
            (first | subst eo61 | (injection eo61 with f1_ f2_ f3_; have f4_ := f1_.symm; have f5_ := f3_.symm; clear f1_ f2_ f3_; subst f4_; subst f5_))
            refine hK.out _ _ ⟨(blk_cell BK837.out 0).trans rfl, (blk_cell BK837.out 1).trans rfl, (blk_cell BK830.out 0).trans rfl, (blk_cell BK830.out 1).trans rfl, ((HB.out.cell (World.block_lt_of_cell? w _ hw845_0)).trans hw845_0), ((HB.out.cell (World.block_lt_of_cell? w _ hw845_1)).trans hw845_1), ((HB.out.cell (World.block_lt_of_cell? w _ hw845_2)).trans hw845_2)⟩ (fun hHeld => ?_)
            clear hK K
            refine norm_ (a' := ?_) ?_ ?_
            rotate_left
            ·show Act.put _ (some 65) _ = _
             simp only [Act.put, List.setIfInBounds_toArray, List.set_cons_zero, List.set_cons_succ, i64_w, i32_w]
             rfl
            refine pQ (i := 10) (N := some 66) #[true, true, true, true, true, true, true, true, true, true, true, false] ?_
            refine last_ (i := 11) (N := none) #[true, true, true, true, true, true, true, true, true, true, true, true] rfl rfl (one_of HT_.out (by kernel_rfl)) (by decide) (fun K hK => ?_)
            have hs62 : w60.cell? ⟨gb837, 1, none⟩ = some (u838001) := (blk_cell BK837.out 1).trans rfl
            have hfs62 := blk_frozen BK837.out 1
            have hns62_0 := NB830_837.out
            have hns62_1 := NB831_837.out
            have hns62_2 := NB836_837.out
            have hms62_0 := NB837_830.out
            have hms62_1 := NB837_831.out
            have hms62_2 := NB837_836.out
            refine skip_ (w1 := ?_) (by rfl) rfl ?_ ?_
            rotate_left
            ·go_simp
             rfl
            refine hK.out _ _ ?_
            clear hK K
            refine done_ (done_of HT_.out (by kernel_rfl)) ?_
            try go_wp2
            go_roundg k1
            case measure => have := HK1.out; omega
            case rel => exact ⟨(wrap64 (x8_1 + 1)), (y842), (y846), (.slice Ao56 y842.length co56), (.slice Ao61 y846.length co61), (by first | rfl | (simp; done) | (simp [*]; done)), H', ⟨by have := HK1.out; omega⟩, ⟨by (with_reducible repeat (first | apply Kd.R_alloc | apply Kd.R_drewN | apply Kd.R_drew)); exact Kd.R_mono (Kd.R_far (p := ⟨gb837, 1, none⟩) (Kd.R_types HO_7.out BK837.out (by decide)) (fun _ hk => hk.2) (.slice Ao61 y846.length co61)) (fun _ hk => trivial)⟩, ⟨by (with_reducible repeat (first | apply Kd.R_alloc | apply Kd.R_drewN | apply Kd.R_drew)); exact Kd.R_mono (Kd.R_far (p := ⟨gb837, 1, none⟩) (Kd.R_types HO844.out BK837.out (by decide)) (fun _ hk => hk.2) (.slice Ao61 y846.length co61)) (fun _ hk => hk.1.2)⟩, ⟨by (with_reducible repeat (first | apply Kd.R_alloc | apply Kd.R_drewN | apply Kd.R_drew)); exact Kd.R_mono (Kd.R_far (p := ⟨gb837, 1, none⟩) (Kd.R_types HO848.out BK837.out (by decide)) (fun _ hk => hk.2) (.slice Ao61 y846.length co61)) (fun _ hk => hk.1)⟩, ⟨by refine bk ?_; refine blk_far ?_ NB830_837.out _; refine bk ?_; exact BK830.out⟩, ⟨by refine bk ?_; refine blk_far ?_ NB831_837.out _; refine bk ?_; exact BK831.out⟩, ⟨by refine bk ?_; refine blk_far ?_ NB836_837.out _; refine bk ?_; exact BK836.out⟩, ⟨by refine bk ?_; refine blk_put (cs := #[.string a0_0, u838001]) ?_ 1 _ rfl; refine bk ?_; exact BK837.out⟩, ⟨(bB4 GE830.out GE831.out GE836.out GE837.out)⟩⟩
           ·rw [if_neg c48] at H
            exact absurd H (by simp)
          ·rw [if_neg c47] at H
           exact absurd H (by simp)
         ·rw [if_neg c46] at H
          exact absurd H (by simp)
        ·rw [if_neg c45] at H
         exact absurd H (by simp)
       ·rw [if_neg c44] at H
        have c44b0 : decide (x8_1 < (l0_1.length : Int)) = false := decide_eq_false c44
        clear c44
        replace H := Option.bind_eq_some_iff.mp H
        obtain ⟨⟨t849, t852⟩, A630, H⟩ := H
        replace H : ((match_One.f a0_0 x838001_1 a1_0 l1_1 ([] : List (S39))).bind fun bt853 => (if a0_0.toList = a1_0.toList then (if (t852 != ((l0_1.length : Int) == (l1_1.length : Int))) = true then (none) else ((constablekeep_Fact.f k1 a0_0 l0_1 a1_0 l1_1).bind fun t857 => (if (bt853.2 != t857) = true then (none) else (if (bt853.1.length : Int) > 0 then (none) else (constablelaw06_MatchFree.l1 k1 y838 t849 t852 0 a1_0 l1_1))))) else (if (t852 != false) = true then (none) else ((constablekeep_Fact.f k1 a0_0 l0_1 a1_0 l1_1).bind fun t867 => (if (bt853.2 != t867) = true then (none) else (if (bt853.1.length : Int) > 0 then (none) else (constablelaw06_MatchFree.l101 k1 y838 t849 t852 0 a1_0 l1_1))))))) = some r := H
        have A63 := Aside0.mk A630
        clear A630
        replace H := Option.bind_eq_some_iff.mp H
        obtain ⟨⟨t853, t856⟩, A640, H⟩ := H
        replace H : (if a0_0.toList = a1_0.toList then (if (t852 != ((l0_1.length : Int) == (l1_1.length : Int))) = true then (none) else ((constablekeep_Fact.f k1 a0_0 l0_1 a1_0 l1_1).bind fun t857 => (if (t856 != t857) = true then (none) else (if (t853.length : Int) > 0 then (none) else (constablelaw06_MatchFree.l1 k1 y838 t849 t852 0 a1_0 l1_1))))) else (if (t852 != false) = true then (none) else ((constablekeep_Fact.f k1 a0_0 l0_1 a1_0 l1_1).bind fun t867 => (if (t856 != t867) = true then (none) else (if (t853.length : Int) > 0 then (none) else (constablelaw06_MatchFree.l101 k1 y838 t849 t852 0 a1_0 l1_1)))))) = some r := H
        have A64 := Aside0.mk A640
        clear A640
        by_cases c65 : a0_0.toList = a1_0.toList
        ·rw [if_pos c65] at H
         have c65b0 : (a0_0.toList == a1_0.toList) = true := beq_iff_eq.mpr c65
         have c65b1 : (a0_0.toList != a1_0.toList) = false := bne_eq_false_iff_eq.mpr c65
         clear c65
         by_cases c66 : (t852 != ((l0_1.length : Int) == (l1_1.length : Int))) = true
         ·rw [if_pos c66] at H
          exact absurd H (by simp)
         ·rw [if_neg c66] at H
          have c66b0 : (t852 != ((l0_1.length : Int) == (l1_1.length : Int))) = false := by simpa using c66
          (try (have c66b1 : decide (t852 = ((l0_1.length : Int) == (l1_1.length : Int))) = true := by simpa using c66))
          (try (have c66b2 : (t852 == ((l0_1.length : Int) == (l1_1.length : Int))) = true := by simpa using c66))
          clear c66
          replace H := Option.bind_eq_some_iff.mp H
          obtain ⟨t857, A670, H⟩ := H
          replace H : (if (t856 != t857) = true then (none) else (if (t853.length : Int) > 0 then (none) else (constablelaw06_MatchFree.l1 k1 y838 t849 t852 0 a1_0 l1_1))) = some r := H
          have A67 := Aside0.mk A670
          clear A670
          by_cases c68 : (t856 != t857) = true
          ·rw [if_pos c68] at H
           exact absurd H (by simp)
          ·rw [if_neg c68] at H
           have c68b0 : (t856 != t857) = false := by simpa using c68
           (try (have c68b1 : decide (t856 = t857) = true := by simpa using c68))
           (try (have c68b2 : (t856 == t857) = true := by simpa using c68))
           clear c68
           by_cases c69 : (t853.length : Int) > 0
           ·rw [if_pos c69] at H
            exact absurd H (by simp)
           ·rw [if_neg c69] at H
            have c69b0 : decide (0 < (t853.length : Int)) = false := decide_eq_false c69
            have c69b1 : decide (0 < t853.length) = false := decide_eq_false (by omega)
            clear c69
            have H' := Aside0.mk H
            clear H
            have hnb70 := NB830_831.out
            have hnc70 := NB831_830.out
            have hnb71 := NB830_836.out
            have hnc71 := NB836_830.out
            have hnb72 := NB830_837.out
            have hnc72 := NB837_830.out
            have hcz73_0 : wr.cell? ⟨gb830, 0, none⟩ = some (.string a0_0) := (blk_cell BK830.out 0).trans rfl
            have hcz73_1 : wr.cell? ⟨gb830, 1, none⟩ = some (.slice A0_1 l0_1.length c0_1) := (blk_cell BK830.out 1).trans rfl
            have hfz73_0 := blk_frozen BK830.out 0
            have hfz73_1 := blk_frozen BK830.out 1
            have hnb74 := NB836_831.out
            have hnc74 := NB831_836.out
            have hnb75 := NB836_837.out
            have hnc75 := NB837_836.out
            have hcz76_0 : wr.cell? ⟨gb836, 0, none⟩ = some (.string a0_0) := (blk_cell BK836.out 0).trans rfl
            have hcz76_1 : wr.cell? ⟨gb836, 1, none⟩ = some (u837001) := (blk_cell BK836.out 1).trans rfl
            have hfz76_0 := blk_frozen BK836.out 0
            have hfz76_1 := blk_frozen BK836.out 1
            have hnb77 := NB831_837.out
            have hnc77 := NB837_831.out
            have hcz78_0 : wr.cell? ⟨gb831, 0, none⟩ = some (.string a1_0) := (blk_cell BK831.out 0).trans rfl
            have hcz78_1 : wr.cell? ⟨gb831, 1, none⟩ = some (.slice A1_1 l1_1.length c1_1) := (blk_cell BK831.out 1).trans rfl
            have hfz78_0 := blk_frozen BK831.out 0
            have hfz78_1 := blk_frozen BK831.out 1
            obtain ⟨Ao79, co79, eo79⟩ := Kd.R_slice HO_837001.out
            subst eo79
            go_wp2_with (first | ((with_reducible refine gate_callee (f := 50) rfl ?_); refine goesL_ (some 70) rfl rfl Try.func50 (by kernel_rfl) rfl #[.agg #[.string a0_0, .slice Ao79 x837001_1.length co79], .agg #[.string a1_0, .slice A1_1 l1_1.length c1_1], .slice none 0 0] rfl aG ?_; (refine (match_One.calls a0_0 _ _ x837001_1 a1_0 _ _ l1_1 _ _ ([] : List (S39)) t849 t852 _ ?side1 ?side2 ?side3 ?side4 ?side5 ?side6 A63.out).mono ?_); (case side1 => exact sC (Kd.R_reads' HO_837001.out).2.2); (case side2 => exact (Kd.R_reads' HO_837001.out).2.1); (case side3 => exact sC (Kd.C_below HR1_1.out HB.out)); (case side4 => exact HC1_1.out); (case side5 => exact Kd.C_nil _ _); (case side6 => exact Nat.le_refl _); rintro e w80 ⟨v850, rfl, ho0, hb⟩; refine ⟨_, rfl, ?_⟩; have n0_ := Aside0.mk (Kd.R_below (sR HO_7.out) hb); have n1_ := Aside0.mk (Kd.R_below (sR HO_837001.out) hb); have n2_ := Aside0.mk (Kd.R_below (sR HO_838001.out) hb); have n3_ := Aside0.mk (Kd.R_lower ho0 (below_size (bB4 GE830.out GE831.out GE836.out GE837.out))); have n4_ := Aside0.mk (blk_below (g := gb830) (o := .cells #[.string a0_0, .slice A0_1 l0_1.length c0_1] 53 (0, 0)) (by refine bk ?_; exact BK830.out) hb); have n5_ := Aside0.mk (blk_below (g := gb831) (o := .cells #[.string a1_0, .slice A1_1 l1_1.length c1_1] 53 (0, 0)) (by refine bk ?_; exact BK831.out) hb); have n6_ := Aside0.mk (blk_below (g := gb836) (o := .cells #[.string a0_0, .slice Ao79 x837001_1.length co79] 69 (0, 0)) (by refine bk ?_; exact BK836.out) hb); have n7_ := Aside0.mk (blk_below (g := gb837) (o := .cells #[.string a0_0, u838001] 69 (0, 0)) (by refine bk ?_; exact BK837.out) hb); have n8_ := Aside0.mk (below_step (bB4 GE830.out GE831.out GE836.out GE837.out) hb); clear HO_7; clear HO_837001; clear HO_838001; clear BK830; clear BK831; clear BK836; clear BK837; clear HB; have HO_7 := n0_; have HO_837001 := n1_; have HO_838001 := n2_; have HO851 := n3_; have BK830 := n4_; have BK831 := n5_; have BK836 := n6_; have BK837 := n7_; have HB := n8_; clear n0_ n1_ n2_ n3_ n4_ n5_ n6_ n7_ n8_; (try clear hb); (try clear hb2); (try clear hk); (try clear hi); (try clear ho0); have hcz81_0 : w80.cell? ⟨gb837, 0, none⟩ = some (.string a0_0) := (blk_cell BK837.out 0).trans rfl; have hcz81_1 : w80.cell? ⟨gb837, 1, none⟩ = some (u838001) := (blk_cell BK837.out 1).trans rfl; have hfz81_0 := blk_frozen BK837.out 0; have hfz81_1 := blk_frozen BK837.out 1; have hcz82_0 : w80.cell? ⟨gb831, 0, none⟩ = some (.string a1_0) := (blk_cell BK831.out 0).trans rfl; have hcz82_1 : w80.cell? ⟨gb831, 1, none⟩ = some (.slice A1_1 l1_1.length c1_1) := (blk_cell BK831.out 1).trans rfl; have hfz82_0 := blk_frozen BK831.out 0; have hfz82_1 := blk_frozen BK831.out 1; obtain ⟨Ao83, co83, eo83⟩ := Kd.R_slice HO_838001.out; subst eo83) | ((with_reducible refine gate_callee (f := 50) rfl ?_); refine goesL_ (some 76) rfl rfl Try.func50 (by kernel_rfl) rfl #[.agg #[.string a0_0, .slice Ao83 x838001_1.length co83], .agg #[.string a1_0, .slice A1_1 l1_1.length c1_1], .slice none 0 0] rfl aG ?_; (refine (match_One.calls a0_0 _ _ x838001_1 a1_0 _ _ l1_1 _ _ ([] : List (S39)) t853 t856 _ ?side1 ?side2 ?side3 ?side4 ?side5 ?side6 A64.out).mono ?_); (case side1 => exact sC (Kd.R_reads' HO_838001.out).2.2); (case side2 => exact (Kd.R_reads' HO_838001.out).2.1); (case side3 => exact sC (Kd.C_below HR1_1.out HB.out)); (case side4 => exact HC1_1.out); (case side5 => exact Kd.C_nil _ _); (case side6 => exact Nat.le_refl _); rintro e w84 ⟨v854, rfl, ho0, hb⟩; refine ⟨_, rfl, ?_⟩; have n0_ := Aside0.mk (Kd.R_below (sR HO_7.out) hb); have n1_ := Aside0.mk (Kd.R_below (sR HO_837001.out) hb); have n2_ := Aside0.mk (Kd.R_below (sR HO_838001.out) hb); have n3_ := Aside0.mk (Kd.R_elder' (sR HO851.out) (Kd.R_base ho0) hb); have n4_ := Aside0.mk (Kd.R_lower (Kd.R_new' ho0 (Kd.R_lt (sR HO851.out))) (below_size (bB4 GE830.out GE831.out GE836.out GE837.out))); have n5_ := Aside0.mk (blk_below (g := gb830) (o := .cells #[.string a0_0, .slice A0_1 l0_1.length c0_1] 53 (0, 0)) (by refine bk ?_; exact BK830.out) hb); have n6_ := Aside0.mk (blk_below (g := gb831) (o := .cells #[.string a1_0, .slice A1_1 l1_1.length c1_1] 53 (0, 0)) (by refine bk ?_; exact BK831.out) hb); have n7_ := Aside0.mk (blk_below (g := gb836) (o := .cells #[.string a0_0, .slice Ao79 x837001_1.length co79] 69 (0, 0)) (by refine bk ?_; exact BK836.out) hb); have n8_ := Aside0.mk (blk_below (g := gb837) (o := .cells #[.string a0_0, .slice Ao83 x838001_1.length co83] 69 (0, 0)) (by refine bk ?_; exact BK837.out) hb); have n9_ := Aside0.mk (below_step (bB4 GE830.out GE831.out GE836.out GE837.out) hb); clear HO_7; clear HO_837001; clear HO_838001; clear HO851; clear BK830; clear BK831; clear BK836; clear BK837; clear HB; have HO_7 := n0_; have HO_837001 := n1_; have HO_838001 := n2_; have HO851 := n3_; have HO855 := n4_; have BK830 := n5_; have BK831 := n6_; have BK836 := n7_; have BK837 := n8_; have HB := n9_; clear n0_ n1_ n2_ n3_ n4_ n5_ n6_ n7_ n8_ n9_; (try clear hb); (try clear hb2); (try clear hk); (try clear hi); (try clear ho0); have hcz85_0 : w84.cell? ⟨gb830, 0, none⟩ = some (.string a0_0) := (blk_cell BK830.out 0).trans rfl; have hcz85_1 : w84.cell? ⟨gb830, 1, none⟩ = some (.slice A0_1 l0_1.length c0_1) := (blk_cell BK830.out 1).trans rfl; have hfz85_0 := blk_frozen BK830.out 0; have hfz85_1 := blk_frozen BK830.out 1; have hcz86_0 : w84.cell? ⟨gb831, 0, none⟩ = some (.string a1_0) := (blk_cell BK831.out 0).trans rfl; have hcz86_1 : w84.cell? ⟨gb831, 1, none⟩ = some (.slice A1_1 l1_1.length c1_1) := (blk_cell BK831.out 1).trans rfl; have hfz86_0 := blk_frozen BK831.out 0; have hfz86_1 := blk_frozen BK831.out 1) | (go_at_call 40; (with_reducible refine (constablekeep_Fact.calls k1 a0_0 _ _ l0_1 a1_0 _ _ l1_1 t857 _ ?side1 ?side2 ?side3 ?side4 A67.out).mono ?_); (case side1 => exact sC (Kd.C_below HR0_1.out HB.out)); (case side2 => exact HC0_1.out); (case side3 => exact sC (Kd.C_below HR1_1.out HB.out)); (case side4 => exact HC1_1.out); rintro e w87 ⟨rfl, hb⟩; have n0_ := Aside0.mk (Kd.R_below (sR HO_7.out) hb); have n1_ := Aside0.mk (Kd.R_below (sR HO_837001.out) hb); have n2_ := Aside0.mk (Kd.R_below (sR HO_838001.out) hb); have n3_ := Aside0.mk (Kd.R_below (sR HO851.out) hb); have n4_ := Aside0.mk (Kd.R_below (sR HO855.out) hb); have n5_ := Aside0.mk (blk_below (g := gb830) (o := .cells #[.string a0_0, .slice A0_1 l0_1.length c0_1] 53 (0, 0)) (by refine bk ?_; exact BK830.out) hb); have n6_ := Aside0.mk (blk_below (g := gb831) (o := .cells #[.string a1_0, .slice A1_1 l1_1.length c1_1] 53 (0, 0)) (by refine bk ?_; exact BK831.out) hb); have n7_ := Aside0.mk (blk_below (g := gb836) (o := .cells #[.string a0_0, .slice Ao79 x837001_1.length co79] 69 (0, 0)) (by refine bk ?_; exact BK836.out) hb); have n8_ := Aside0.mk (blk_below (g := gb837) (o := .cells #[.string a0_0, .slice Ao83 x838001_1.length co83] 69 (0, 0)) (by refine bk ?_; exact BK837.out) hb); have n9_ := Aside0.mk (below_step (bB4 GE830.out GE831.out GE836.out GE837.out) hb); clear HO_7; clear HO_837001; clear HO_838001; clear HO851; clear HO855; clear BK830; clear BK831; clear BK836; clear BK837; clear HB; have HO_7 := n0_; have HO_837001 := n1_; have HO_838001 := n2_; have HO851 := n3_; have HO855 := n4_; have BK830 := n5_; have BK831 := n6_; have BK836 := n7_; have BK837 := n8_; have HB := n9_; clear n0_ n1_ n2_ n3_ n4_ n5_ n6_ n7_ n8_ n9_; (try clear hb); (try clear hb2); (try clear hk); (try clear hi); obtain ⟨Ao88, co88, eo88⟩ := Kd.R_slice HO855.out; subst eo88))
            go_loopg [13] k1 (fun kq v13 w' => ∃ (x13_2 : Int), v13 = .int .i64 x13_2 ∧ Aside0 (constablelaw06_MatchFree.l1 kq y838 t849 t852 x13_2 a1_0 l1_1 = some r) ∧ Aside0 (kq ≤ k1) ∧ Aside0 (Kd.R Kd.string 9 w' w.heap.size (fun _ => True) v839 y838) ∧ Aside0 (Kd.R k39 39 w' w.heap.size (fun _ => True) v850 t849) ∧ Aside0 (Kd.R k77 77 w' w.heap.size (fun k_ => some k_ ≠ ((.slice Ao83 x838001_1.length co83) : Value).ownBlock) (.slice Ao79 x837001_1.length co79) x837001_1) ∧ Aside0 (Kd.R k77 77 w' w.heap.size (fun k_ => some k_ ≠ ((.slice Ao79 x837001_1.length co79) : Value).ownBlock) (.slice Ao83 x838001_1.length co83) x838001_1) ∧ Aside0 (w'.heap[gb830]? = some (.cells #[.string a0_0, (.slice A0_1 l0_1.length c0_1)] 53 (0, 0))) ∧ Aside0 (w'.heap[gb831]? = some (.cells #[.string a1_0, (.slice A1_1 l1_1.length c1_1)] 53 (0, 0))) ∧ Aside0 (w'.heap[gb836]? = some (.cells #[.string a0_0, (.slice Ao79 x837001_1.length co79)] 69 (0, 0))) ∧ Aside0 (w'.heap[gb837]? = some (.cells #[.string a0_0, (.slice Ao83 x838001_1.length co83)] 69 (0, 0))) ∧ Aside0 (Below w.heap.size w w'))
            case atStart => exact ⟨(0), (by first | rfl | (simp; done) | (simp [*]; done)), H', ⟨Nat.le_refl _⟩, ⟨by (with_reducible repeat (first | apply Kd.R_alloc | apply Kd.R_drewN | apply Kd.R_drew)); exact HO_7.out⟩, ⟨by (with_reducible repeat (first | apply Kd.R_alloc | apply Kd.R_drewN | apply Kd.R_drew)); exact Kd.R_mono HO851.out (fun _ hk => trivial)⟩, ⟨by (with_reducible repeat (first | apply Kd.R_alloc | apply Kd.R_drewN | apply Kd.R_drew)); exact HO_837001.out⟩, ⟨by (with_reducible repeat (first | apply Kd.R_alloc | apply Kd.R_drewN | apply Kd.R_drew)); exact HO_838001.out⟩, ⟨by refine bk ?_; exact BK830.out⟩, ⟨by refine bk ?_; exact BK831.out⟩, ⟨by refine bk ?_; exact BK836.out⟩, ⟨by refine bk ?_; exact BK837.out⟩, ⟨(bB4 GE830.out GE831.out GE836.out GE837.out)⟩⟩
            case round =>
             clear H'
             (try clear c1); (try clear c2); (try clear p2); (try clear c3); (try clear c4); (try clear c5); (try clear c6); (try clear p6); (try clear c7); (try clear p8); (try clear q8); (try clear hx8); (try clear c11); (try clear c13); (try clear c14); (try clear c20); (try clear c22); (try clear c25); (try clear c36); (try clear c44); (try clear c44b0); (try clear c45); (try clear c45b0); (try clear c46); (try clear c46b0); (try clear c47); (try clear c48); (try clear c49); (try clear c50); (try clear c51); (try clear p64); (try clear c65); (try clear c65b0); (try clear c65b1); (try clear c66); (try clear c66b0); (try clear c66b1); (try clear c66b2); (try clear c68); (try clear c68b0); (try clear c68b1); (try clear c68b2); (try clear c69); (try clear c69b0); (try clear c69b1); (try clear c70); (try clear c71); (try clear c72); (try clear c74); (try clear c75); (try clear c77); (try clear p84); (try clear q84); (try clear hx84); (try clear hcz15_0); (try clear hcz15_1); (try clear hcz17_0); (try clear hcz17_1); (try clear hcz26_0); (try clear hcz26_1); (try clear hcz28_0); (try clear hcz28_1); (try clear hcz30_0); (try clear hcz30_1); (try clear hcz32_0); (try clear hcz32_1); (try clear hcz52_0); (try clear hcz52_1); (try clear hcz73_0); (try clear hcz73_1); (try clear hcz76_0); (try clear hcz76_1); (try clear hcz78_0); (try clear hcz78_1); (try clear hcz81_0); (try clear hcz81_1); (try clear hcz82_0); (try clear hcz82_1); (try clear hcz85_0); (try clear hcz85_1); (try clear hcz86_0); (try clear hcz86_1); (try clear hcz8_0); (try clear hcz8_1); (try clear hfz15_0); (try clear hfz15_1); (try clear hfz17_0); (try clear hfz17_1); (try clear hfz26_0); (try clear hfz26_1); (try clear hfz28_0); (try clear hfz28_1); (try clear hfz30_0); (try clear hfz30_1); (try clear hfz32_0); (try clear hfz32_1); (try clear hfz52_0); (try clear hfz52_1); (try clear hfz73_0); (try clear hfz73_1); (try clear hfz76_0); (try clear hfz76_1); (try clear hfz78_0); (try clear hfz78_1); (try clear hfz81_0); (try clear hfz81_1); (try clear hfz82_0); (try clear hfz82_1); (try clear hfz85_0); (try clear hfz85_1); (try clear hfz86_0); (try clear hfz86_1); (try clear hfz8_0); (try clear hfz8_1); (try clear hx841_0); (try clear hx845_0); (try clear hx845_1); (try clear hx845_2); (try clear p2); (try clear p841); (try clear p845); (try clear q841); (try clear q845)
             obtain ⟨x13_2, rfl, HA, HK2, HO_7, HO_9, HO_837001, HO_838001, BK830, BK831, BK836, BK837, HB⟩ := hrel
             cases gk with
             | zero => exact absurd HA.out (by simp [constablelaw06_MatchFree.l1])
             | succ k2 =>
              have H := HA.out
              clear HA
              simp only [constablelaw06_MatchFree.l1] at H
              by_cases c89 : x13_2 < (l1_1.length : Int)
              ·rw [if_pos c89] at H
               have c89b0 : decide (x13_2 < (l1_1.length : Int)) = true := decide_eq_true c89
               clear c89
               by_cases c90 : t852 = true
               ·subst c90
                have H1 : (if 0 ≤ x13_2 then (if x13_2 < (y838.length : Int) then ((subst_Get.f k2 t849 (rdOf ByteArray.empty y838 x13_2)).bind fun bt859 => (if bt859.2.2.2 = true then (if (!(bt859.1 == ((rd_T24 l1_1 x13_2).f0)) || (!(bt859.2.1 == ((rd_T24 l1_1 x13_2).f1)) || (!(bt859.2.2.1.toList == (((rd_T24 l1_1 x13_2).f2).toList))))) = true then (none) else (constablelaw06_MatchFree.l1 k2 y838 t849 true (wrap64 (x13_2 + 1)) a1_0 l1_1)) else (none))) else (none)) else (none)) = some r := by rw [if_pos rfl] at H; exact H
                clear H
                have H := H1
                clear H1
                by_cases c91 : 0 ≤ x13_2
                ·rw [if_pos c91] at H
                 have c91b0 : decide (0 ≤ x13_2) = true := decide_eq_true c91
                 clear c91
                 by_cases c92 : x13_2 < (y838.length : Int)
                 ·rw [if_pos c92] at H
                  have c92b0 : decide (x13_2 < (y838.length : Int)) = true := decide_eq_true c92
                  clear c92
                  replace H := Option.bind_eq_some_iff.mp H
                  obtain ⟨⟨t859, t860, t861, t862⟩, A930, H⟩ := H
                  replace H : (if t862 = true then (if (!(t859 == ((rd_T24 l1_1 x13_2).f0)) || (!(t860 == ((rd_T24 l1_1 x13_2).f1)) || (!(t861.toList == (((rd_T24 l1_1 x13_2).f2).toList))))) = true then (none) else (constablelaw06_MatchFree.l1 k2 y838 t849 true (wrap64 (x13_2 + 1)) a1_0 l1_1)) else (none)) = some r := H
                  have A93 := Aside0.mk A930
                  clear A930
                  by_cases c94 : t862 = true
                  ·subst c94
                   have H1 : (if (!(t859 == ((rd_T24 l1_1 x13_2).f0)) || (!(t860 == ((rd_T24 l1_1 x13_2).f1)) || (!(t861.toList == (((rd_T24 l1_1 x13_2).f2).toList))))) = true then (none) else (constablelaw06_MatchFree.l1 k2 y838 t849 true (wrap64 (x13_2 + 1)) a1_0 l1_1)) = some r := by rw [if_pos rfl] at H; exact H
                   clear H
                   have H := H1
                   clear H1
                   obtain ⟨qc95, hqc95⟩ : ∃ b_ : Bool, (!(t859 == ((rd_T24 l1_1 x13_2).f0)) || (!(t860 == ((rd_T24 l1_1 x13_2).f1)) || (!(t861.toList == (((rd_T24 l1_1 x13_2).f2).toList))))) = b_ := ⟨_, rfl⟩
                   by_cases c95 : (!(t859 == ((rd_T24 l1_1 x13_2).f0)) || (!(t860 == ((rd_T24 l1_1 x13_2).f1)) || (!(t861.toList == (((rd_T24 l1_1 x13_2).f2).toList))))) = true
                   ·rw [if_pos c95] at H
                    exact absurd H (by simp)
                   ·rw [if_neg c95] at H
                    have c95b0 : qc95 = false := hqc95.symm.trans (Bool.eq_false_iff.mpr c95)
                    clear c95
                    have H' := Aside0.mk H
                    clear H
                    have hnb96 := NB831_830.out
                    have hnc96 := NB830_831.out
                    have hnb97 := NB831_836.out
                    have hnc97 := NB836_831.out
                    have hnb98 := NB831_837.out
                    have hnc98 := NB837_831.out
                    have hcz99_0 : wr.cell? ⟨gb831, 0, none⟩ = some (.string a1_0) := (blk_cell BK831.out 0).trans rfl
                    have hcz99_1 : wr.cell? ⟨gb831, 1, none⟩ = some (.slice A1_1 l1_1.length c1_1) := (blk_cell BK831.out 1).trans rfl
                    have hfz99_0 := blk_frozen BK831.out 0
                    have hfz99_1 := blk_frozen BK831.out 1
                    obtain ⟨Ao100, co100, eo100⟩ := Kd.R_slice HO_7.out
                    subst eo100
                    have p858 : 0 ≤ (x13_2 : Int) := of_decide_eq_true (by first | (with_reducible assumption) | assumption)
                    have q858 : x13_2 < (y838.length : Int) := of_decide_eq_true (by first | (with_reducible assumption) | assumption)
                    obtain ⟨ad858, e858, hx858_0⟩ := Kd.at_string (Kd.R_reads' HO_7.out).2.2 x13_2 p858 q858
                    cases e858
                    replace p858 := eq_true p858
                    replace q858 := eq_true q858
                    obtain ⟨Ao101, co101, eo101⟩ := Kd.R_slice HO_9.out
                    subst eo101
                    try go_wp2_with (first | ((with_reducible refine gate_callee (f := 17) rfl ?_); refine goesL_ (some 123) rfl rfl Try.func17 (by kernel_rfl) rfl #[.slice Ao101 t849.length co101, .string (rdOf ByteArray.empty y838 x13_2)] rfl aG ?_; (with_reducible refine (subst_Get.calls k2 _ _ t849 (rdOf ByteArray.empty y838 x13_2) t859 t860 t861 true _ ?side1 ?side2 A93.out).mono ?_); (case side1 => exact sC (Kd.R_reads' HO_9.out).2.2); (case side2 => exact (Kd.R_reads' HO_9.out).2.1); rintro e w102 ⟨rfl, hb⟩; refine ⟨_, rfl, ?_⟩; have n0_ := Aside0.mk (Kd.R_below (sR HO_7.out) hb); have n1_ := Aside0.mk (Kd.R_below (sR HO_9.out) hb); have n2_ := Aside0.mk (Kd.R_below (sR HO_837001.out) hb); have n3_ := Aside0.mk (Kd.R_below (sR HO_838001.out) hb); have n4_ := Aside0.mk (blk_below (g := gb830) (o := .cells #[.string a0_0, .slice A0_1 l0_1.length c0_1] 53 (0, 0)) (by refine bk ?_; exact BK830.out) hb); have n5_ := Aside0.mk (blk_below (g := gb831) (o := .cells #[.string a1_0, .slice A1_1 l1_1.length c1_1] 53 (0, 0)) (by refine bk ?_; exact BK831.out) hb); have n6_ := Aside0.mk (blk_below (g := gb836) (o := .cells #[.string a0_0, .slice Ao79 x837001_1.length co79] 69 (0, 0)) (by refine bk ?_; exact BK836.out) hb); have n7_ := Aside0.mk (blk_below (g := gb837) (o := .cells #[.string a0_0, .slice Ao83 x838001_1.length co83] 69 (0, 0)) (by refine bk ?_; exact BK837.out) hb); have n8_ := Aside0.mk (below_step (bB4 GE830.out GE831.out GE836.out GE837.out) hb); clear HO_7; clear HO_9; clear HO_837001; clear HO_838001; clear BK830; clear BK831; clear BK836; clear BK837; clear HB; have HO_7 := n0_; have HO_9 := n1_; have HO_837001 := n2_; have HO_838001 := n3_; have BK830 := n4_; have BK831 := n5_; have BK836 := n6_; have BK837 := n7_; have HB := n8_; clear n0_ n1_ n2_ n3_ n4_ n5_ n6_ n7_ n8_; (try clear hb); (try clear hb2); (try clear hk); (try clear hi)) | ((with_reducible refine gate_dst (N := 14) rfl ?_); (try (refine gate_guard (by rfl) ?_; dsimp only)); refine bE (N := 14) (cs := #[.int .i64 0, .int .i64 0, .string (⟨#[]⟩ : ByteArray)]) (t := 24) ?_; intro gb863 hg w103 hbox hb; have n0_ := Aside0.mk (Kd.R_below (sR HO_7.out) hb); have n1_ := Aside0.mk (Kd.R_below (sR HO_9.out) hb); have n2_ := Aside0.mk (Kd.R_below (sR HO_837001.out) hb); have n3_ := Aside0.mk (Kd.R_below (sR HO_838001.out) hb); have n4_ := Aside0.mk (blk_below (g := gb830) (o := .cells #[.string a0_0, .slice A0_1 l0_1.length c0_1] 53 (0, 0)) (by refine bk ?_; exact BK830.out) hb); have n5_ := Aside0.mk (blk_below (g := gb831) (o := .cells #[.string a1_0, .slice A1_1 l1_1.length c1_1] 53 (0, 0)) (by refine bk ?_; exact BK831.out) hb); have n6_ := Aside0.mk (blk_below (g := gb836) (o := .cells #[.string a0_0, .slice Ao79 x837001_1.length co79] 69 (0, 0)) (by refine bk ?_; exact BK836.out) hb); have n7_ := Aside0.mk (blk_below (g := gb837) (o := .cells #[.string a0_0, .slice Ao83 x838001_1.length co83] 69 (0, 0)) (by refine bk ?_; exact BK837.out) hb); have n8_ := Aside0.mk (below_step (bB4 GE830.out GE831.out GE836.out GE837.out) hb); have n9_ := Aside0.mk (hbox); have n10_ := Aside0.mk ((by rw [hg]; exact (below_size (bB4 GE830.out GE831.out GE836.out GE837.out)) : w.heap.size ≤ gb863)); have n11_ := Aside0.mk ((by rw [hg]; exact (below_size (bB4 GE830.out GE831.out GE836.out GE837.out)) : w.heap.size ≤ gb863)); have n12_ := Aside0.mk ((by rw [hg]; exact Nat.ne_of_lt (blk_lt (g := gb830) (o := .cells #[.string a0_0, .slice A0_1 l0_1.length c0_1] 53 (0, 0)) (by refine bk ?_; exact BK830.out)) : gb830 ≠ gb863)); have n13_ := Aside0.mk ((by rw [hg]; exact Nat.ne_of_gt (blk_lt (g := gb830) (o := .cells #[.string a0_0, .slice A0_1 l0_1.length c0_1] 53 (0, 0)) (by refine bk ?_; exact BK830.out)) : gb863 ≠ gb830)); have n14_ := Aside0.mk ((by rw [hg]; exact Nat.ne_of_lt (blk_lt (g := gb831) (o := .cells #[.string a1_0, .slice A1_1 l1_1.length c1_1] 53 (0, 0)) (by refine bk ?_; exact BK831.out)) : gb831 ≠ gb863)); have n15_ := Aside0.mk ((by rw [hg]; exact Nat.ne_of_gt (blk_lt (g := gb831) (o := .cells #[.string a1_0, .slice A1_1 l1_1.length c1_1] 53 (0, 0)) (by refine bk ?_; exact BK831.out)) : gb863 ≠ gb831)); have n16_ := Aside0.mk ((by rw [hg]; exact Nat.ne_of_lt (blk_lt (g := gb836) (o := .cells #[.string a0_0, .slice Ao79 x837001_1.length co79] 69 (0, 0)) (by refine bk ?_; exact BK836.out)) : gb836 ≠ gb863)); have n17_ := Aside0.mk ((by rw [hg]; exact Nat.ne_of_gt (blk_lt (g := gb836) (o := .cells #[.string a0_0, .slice Ao79 x837001_1.length co79] 69 (0, 0)) (by refine bk ?_; exact BK836.out)) : gb863 ≠ gb836)); have n18_ := Aside0.mk ((by rw [hg]; exact Nat.ne_of_lt (blk_lt (g := gb837) (o := .cells #[.string a0_0, .slice Ao83 x838001_1.length co83] 69 (0, 0)) (by refine bk ?_; exact BK837.out)) : gb837 ≠ gb863)); have n19_ := Aside0.mk ((by rw [hg]; exact Nat.ne_of_gt (blk_lt (g := gb837) (o := .cells #[.string a0_0, .slice Ao83 x838001_1.length co83] 69 (0, 0)) (by refine bk ?_; exact BK837.out)) : gb863 ≠ gb837)); clear HO_7; clear HO_9; clear HO_837001; clear HO_838001; clear BK830; clear BK831; clear BK836; clear BK837; clear HB; have HO_7 := n0_; have HO_9 := n1_; have HO_837001 := n2_; have HO_838001 := n3_; have BK830 := n4_; have BK831 := n5_; have BK836 := n6_; have BK837 := n7_; have HB := n8_; have BK863 := n9_; have GW863 := n10_; have GE863 := n11_; have NB830_863 := n12_; have NB863_830 := n13_; have NB831_863 := n14_; have NB863_831 := n15_; have NB836_863 := n16_; have NB863_836 := n17_; have NB837_863 := n18_; have NB863_837 := n19_; clear n0_ n1_ n2_ n3_ n4_ n5_ n6_ n7_ n8_ n9_ n10_ n11_ n12_ n13_ n14_ n15_ n16_ n17_ n18_ n19_; clear hb hbox hg; have hnb104 := NB863_830.out; have hnc104 := NB830_863.out; have hnb105 := NB863_831.out; have hnc105 := NB831_863.out; have hnb106 := NB863_836.out; have hnc106 := NB836_863.out; have hnb107 := NB863_837.out; have hnc107 := NB837_863.out; have hcz108_0 : w103.cell? ⟨gb863, 0, none⟩ = some (.int .i64 0) := (blk_cell BK863.out 0).trans rfl; have hcz108_1 : w103.cell? ⟨gb863, 1, none⟩ = some (.int .i64 0) := (blk_cell BK863.out 1).trans rfl; have hcz108_2 : w103.cell? ⟨gb863, 2, none⟩ = some (.string (⟨#[]⟩ : ByteArray)) := (blk_cell BK863.out 2).trans rfl; have hfz108_0 := blk_frozen BK863.out 0; have hfz108_1 := blk_frozen BK863.out 1; have hfz108_2 := blk_frozen BK863.out 2))
                    have n0_ : Aside0 (Kd.R Kd.string 9 (((w103.setCell ⟨gb863, 0, none⟩ (.int .i64 t859)).setCell ⟨gb863, 1, none⟩ (.int .i64 t860)).setCell ⟨gb863, 2, none⟩ (.string t861)) w.heap.size (fun _ => True) (.slice (some ad858) y838.length co100) y838) := ⟨by (with_reducible repeat (first | apply Kd.R_alloc | apply Kd.R_drewN | apply Kd.R_drew)); exact Kd.R_mono (Kd.R_far (p := ⟨gb863, 2, none⟩) (Kd.R_far (p := ⟨gb863, 1, none⟩) (Kd.R_far (p := ⟨gb863, 0, none⟩) (Kd.R_types HO_7.out BK863.out (by decide)) (fun _ hk => hk.2) (.int .i64 t859)) (fun _ hk => hk.2) (.int .i64 t860)) (fun _ hk => hk.2) (.string t861)) (fun _ hk => trivial)⟩
                    have n1_ : Aside0 (Kd.R k39 39 (((w103.setCell ⟨gb863, 0, none⟩ (.int .i64 t859)).setCell ⟨gb863, 1, none⟩ (.int .i64 t860)).setCell ⟨gb863, 2, none⟩ (.string t861)) w.heap.size (fun _ => True) (.slice Ao101 t849.length co101) t849) := ⟨by (with_reducible repeat (first | apply Kd.R_alloc | apply Kd.R_drewN | apply Kd.R_drew)); exact Kd.R_mono (Kd.R_far (p := ⟨gb863, 2, none⟩) (Kd.R_far (p := ⟨gb863, 1, none⟩) (Kd.R_far (p := ⟨gb863, 0, none⟩) (Kd.R_types HO_9.out BK863.out (by decide)) (fun _ hk => hk.2) (.int .i64 t859)) (fun _ hk => hk.2) (.int .i64 t860)) (fun _ hk => hk.2) (.string t861)) (fun _ hk => trivial)⟩
                    have n2_ : Aside0 (Kd.R k77 77 (((w103.setCell ⟨gb863, 0, none⟩ (.int .i64 t859)).setCell ⟨gb863, 1, none⟩ (.int .i64 t860)).setCell ⟨gb863, 2, none⟩ (.string t861)) w.heap.size (fun k_ => some k_ ≠ (.slice Ao83 x838001_1.length co83 : Value).ownBlock) (.slice Ao79 x837001_1.length co79) x837001_1) := ⟨by (with_reducible repeat (first | apply Kd.R_alloc | apply Kd.R_drewN | apply Kd.R_drew)); exact Kd.R_mono (Kd.R_far (p := ⟨gb863, 2, none⟩) (Kd.R_far (p := ⟨gb863, 1, none⟩) (Kd.R_far (p := ⟨gb863, 0, none⟩) (Kd.R_types HO_837001.out BK863.out (by decide)) (fun _ hk => hk.2) (.int .i64 t859)) (fun _ hk => hk.2) (.int .i64 t860)) (fun _ hk => hk.2) (.string t861)) (fun _ hk => hk.1)⟩
                    have n3_ : Aside0 (Kd.R k77 77 (((w103.setCell ⟨gb863, 0, none⟩ (.int .i64 t859)).setCell ⟨gb863, 1, none⟩ (.int .i64 t860)).setCell ⟨gb863, 2, none⟩ (.string t861)) w.heap.size (fun k_ => some k_ ≠ (.slice Ao79 x837001_1.length co79 : Value).ownBlock) (.slice Ao83 x838001_1.length co83) x838001_1) := ⟨by (with_reducible repeat (first | apply Kd.R_alloc | apply Kd.R_drewN | apply Kd.R_drew)); exact Kd.R_mono (Kd.R_far (p := ⟨gb863, 2, none⟩) (Kd.R_far (p := ⟨gb863, 1, none⟩) (Kd.R_far (p := ⟨gb863, 0, none⟩) (Kd.R_types HO_838001.out BK863.out (by decide)) (fun _ hk => hk.2) (.int .i64 t859)) (fun _ hk => hk.2) (.int .i64 t860)) (fun _ hk => hk.2) (.string t861)) (fun _ hk => hk.1)⟩
                    have n4_ : Aside0 ((((w103.setCell ⟨gb863, 0, none⟩ (.int .i64 t859)).setCell ⟨gb863, 1, none⟩ (.int .i64 t860)).setCell ⟨gb863, 2, none⟩ (.string t861)).heap[gb830]? = some (.cells #[.string a0_0, .slice A0_1 l0_1.length c0_1] 53 (0, 0))) := ⟨by refine bk ?_; refine blk_far ?_ NB830_863.out _; refine bk ?_; refine blk_far ?_ NB830_863.out _; refine bk ?_; refine blk_far ?_ NB830_863.out _; refine bk ?_; exact BK830.out⟩
                    have n5_ : Aside0 ((((w103.setCell ⟨gb863, 0, none⟩ (.int .i64 t859)).setCell ⟨gb863, 1, none⟩ (.int .i64 t860)).setCell ⟨gb863, 2, none⟩ (.string t861)).heap[gb831]? = some (.cells #[.string a1_0, .slice A1_1 l1_1.length c1_1] 53 (0, 0))) := ⟨by refine bk ?_; refine blk_far ?_ NB831_863.out _; refine bk ?_; refine blk_far ?_ NB831_863.out _; refine bk ?_; refine blk_far ?_ NB831_863.out _; refine bk ?_; exact BK831.out⟩
                    have n6_ : Aside0 ((((w103.setCell ⟨gb863, 0, none⟩ (.int .i64 t859)).setCell ⟨gb863, 1, none⟩ (.int .i64 t860)).setCell ⟨gb863, 2, none⟩ (.string t861)).heap[gb836]? = some (.cells #[.string a0_0, .slice Ao79 x837001_1.length co79] 69 (0, 0))) := ⟨by refine bk ?_; refine blk_far ?_ NB836_863.out _; refine bk ?_; refine blk_far ?_ NB836_863.out _; refine bk ?_; refine blk_far ?_ NB836_863.out _; refine bk ?_; exact BK836.out⟩
                    have n7_ : Aside0 ((((w103.setCell ⟨gb863, 0, none⟩ (.int .i64 t859)).setCell ⟨gb863, 1, none⟩ (.int .i64 t860)).setCell ⟨gb863, 2, none⟩ (.string t861)).heap[gb837]? = some (.cells #[.string a0_0, .slice Ao83 x838001_1.length co83] 69 (0, 0))) := ⟨by refine bk ?_; refine blk_far ?_ NB837_863.out _; refine bk ?_; refine blk_far ?_ NB837_863.out _; refine bk ?_; refine blk_far ?_ NB837_863.out _; refine bk ?_; exact BK837.out⟩
                    have n8_ : Aside0 ((((w103.setCell ⟨gb863, 0, none⟩ (.int .i64 t859)).setCell ⟨gb863, 1, none⟩ (.int .i64 t860)).setCell ⟨gb863, 2, none⟩ (.string t861)).heap[gb863]? = some (.cells #[.int .i64 t859, .int .i64 t860, .string t861] 24 (0, 0))) := ⟨by refine bk ?_; refine blk_put (cs := #[.int .i64 t859, .int .i64 t860, .string (⟨#[]⟩ : ByteArray)]) ?_ 2 _ rfl; refine bk ?_; refine blk_put (cs := #[.int .i64 t859, .int .i64 0, .string (⟨#[]⟩ : ByteArray)]) ?_ 1 _ rfl; refine bk ?_; refine blk_put (cs := #[.int .i64 0, .int .i64 0, .string (⟨#[]⟩ : ByteArray)]) ?_ 0 _ rfl; refine bk ?_; exact BK863.out⟩
                    have n9_ : Aside0 (Below w.heap.size w (((w103.setCell ⟨gb863, 0, none⟩ (.int .i64 t859)).setCell ⟨gb863, 1, none⟩ (.int .i64 t860)).setCell ⟨gb863, 2, none⟩ (.string t861))) := ⟨(bB5 GE830.out GE831.out GE836.out GE837.out GE863.out)⟩
                    (try clear HO_7)
                    (try clear HO_9)
                    (try clear HO_837001)
                    (try clear HO_838001)
                    (try clear BK830)
                    (try clear BK831)
                    (try clear BK836)
                    (try clear BK837)
                    (try clear BK863)
                    (try clear HB)
                    generalize (((w103.setCell ⟨gb863, 0, none⟩ (.int .i64 t859)).setCell ⟨gb863, 1, none⟩ (.int .i64 t860)).setCell ⟨gb863, 2, none⟩ (.string t861)) = w109 at n0_ n1_ n2_ n3_ n4_ n5_ n6_ n7_ n8_ n9_ ⊢
                    have HO_7 := n0_
                    have HO_9 := n1_
                    have HO_837001 := n2_
                    have HO_838001 := n3_
                    have BK830 := n4_
                    have BK831 := n5_
                    have BK836 := n6_
                    have BK837 := n7_
                    have BK863 := n8_
                    have HB := n9_
                    clear n0_ n1_ n2_ n3_ n4_ n5_ n6_ n7_ n8_ n9_
                    have n0_ := Aside0.mk (Kd.R_drew HO_7.out)
                    have n1_ := Aside0.mk (Kd.R_drew HO_9.out)
                    have n2_ := Aside0.mk (Kd.R_drew HO_837001.out)
                    have n3_ := Aside0.mk (Kd.R_drew HO_838001.out)
                    have n4_ := Aside0.mk (blk_drew BK830.out)
                    have n5_ := Aside0.mk (blk_drew BK831.out)
                    have n6_ := Aside0.mk (blk_drew BK836.out)
                    have n7_ := Aside0.mk (blk_drew BK837.out)
                    have n8_ := Aside0.mk (blk_drew BK863.out)
                    have n9_ := Aside0.mk (below_drew1 HB.out)
                    clear HO_7
                    clear HO_9
                    clear HO_837001
                    clear HO_838001
                    clear BK830
                    clear BK831
                    clear BK836
                    clear BK837
                    clear BK863
                    clear HB
                    have HO_7 := n0_
                    have HO_9 := n1_
                    have HO_837001 := n2_
                    have HO_838001 := n3_
                    have BK830 := n4_
                    have BK831 := n5_
                    have BK836 := n6_
                    have BK837 := n7_
                    have BK863 := n8_
                    have HB := n9_
                    clear n0_ n1_ n2_ n3_ n4_ n5_ n6_ n7_ n8_ n9_
                    have p864 : 0 ≤ (x13_2 : Int) := of_decide_eq_true (by first | (with_reducible assumption) | assumption)
                    have q864 : x13_2 < (l1_1.length : Int) := of_decide_eq_true (by first | (with_reducible assumption) | assumption)
                    obtain ⟨ad864, e864, hx864_0, hx864_1, hx864_2⟩ := at_T24 HR1_1.out x13_2 p864 q864
                    have hw864_2 := hx864_2
                    have hw864_1 := hx864_1
                    have hw864_0 := hx864_0
                    cases e864
                    replace hx864_0 := (HB.out.cell (World.block_lt_of_cell? w _ hx864_0)).trans hx864_0
                    replace hx864_1 := (HB.out.cell (World.block_lt_of_cell? w _ hx864_1)).trans hx864_1
                    replace hx864_2 := (HB.out.cell (World.block_lt_of_cell? w _ hx864_2)).trans hx864_2
                    replace p864 := eq_true p864
                    replace q864 := eq_true q864
                    refine start_ (n := 11) (S := fun w' => w'.cell? ⟨gb863, 0, none⟩ = some (.int .i64 t859) ∧ w'.cell? ⟨gb863, 1, none⟩ = some (.int .i64 t860) ∧ w'.cell? ⟨gb863, 2, none⟩ = some (.string t861) ∧ w'.cell? ⟨gb831, 0, none⟩ = some (.string a1_0) ∧ w'.cell? ⟨gb831, 1, none⟩ = some (.slice (some ad864) l1_1.length c1_1) ∧ w'.cell? (ad864.add ((x13_2).toNat * 3)) = some (.int .i64 ((rd_T24 l1_1 x13_2).f0)) ∧ w'.cell? ⟨(ad864.add ((x13_2).toNat * 3)).block, (ad864.add ((x13_2).toNat * 3)).off + 1, none⟩ = some (.int .i64 ((rd_T24 l1_1 x13_2).f1)) ∧ w'.cell? ⟨(ad864.add ((x13_2).toNat * 3)).block, (ad864.add ((x13_2).toNat * 3)).off + 2, none⟩ = some (.string ((rd_T24 l1_1 x13_2).f2))) (ds := []) #[false, false, false, false, false, false, false, false, false, false, false] (by kernel_rfl) rfl rfl ⟨(blk_cell BK863.out 0).trans rfl, (blk_cell BK863.out 1).trans rfl, (blk_cell BK863.out 2).trans rfl, (blk_cell BK831.out 0).trans rfl, (blk_cell BK831.out 1).trans rfl, ((HB.out.cell (World.block_lt_of_cell? w _ hw864_0)).trans hw864_0), ((HB.out.cell (World.block_lt_of_cell? w _ hw864_1)).trans hw864_1), ((HB.out.cell (World.block_lt_of_cell? w _ hw864_2)).trans hw864_2)⟩ (fun hHeld => ?_); refine with_tabW constablelaw06_MatchFree.tab18 constablelaw06_MatchFree.bits18 (fun HT_ HW_ => ?_)
                    generalize w109.drew = w110 at HO_7 HO_9 HO_837001 HO_838001 BK830 BK831 BK836 BK837 BK863 HB hx864_0 hx864_1 hx864_2 hHeld ⊢
                    refine pQ (i := 0) (N := some 126) #[true, false, false, false, false, false, false, false, false, false, false] ?_
                    refine pQ (i := 1) (N := some 127) #[true, true, false, false, false, false, false, false, false, false, false] ?_
                    refine pQ (i := 2) (N := some 128) #[true, true, true, false, false, false, false, false, false, false, false] ?_
                    refine pQ (i := 4) (N := some 130) #[true, true, true, false, true, false, false, false, false, false, false] ?_
                    refine pQ (i := 6) (N := some 132) #[true, true, true, false, true, false, true, false, false, false, false] ?_
                    refine tQ8 (i := 3) (N := some 129) #[true, true, true, true, true, false, true, false, false, false, false] hHeld ?_
                    refine tQ8 (i := 5) (N := some 131) #[true, true, true, true, true, true, true, false, false, false, false] hHeld ?_
                    refine pQ (i := 7) (N := some 133) #[true, true, true, true, true, true, true, true, false, false, false] ?_
                    refine tQ8 (i := 8) (N := some 134) #[true, true, true, true, true, true, true, true, true, false, false] hHeld ?_
                    refine pQ (i := 9) (N := some 135) #[true, true, true, true, true, true, true, true, true, true, false] ?_
                    refine pQ (i := 10) (N := some 136) #[true, true, true, true, true, true, true, true, true, true, true] ?_
                    refine done_ (done_of HT_.out (by kernel_rfl)) ?_
                    try go_wp2
                    go_roundg k2
                    case measure => have := HK1.out; have := HK2.out; omega
                    case rel => exact ⟨(wrap64 (x13_2 + 1)), (by first | rfl | (simp; done) | (simp [*]; done)), H', ⟨by have := HK1.out; have := HK2.out; omega⟩, ⟨by (with_reducible repeat (first | apply Kd.R_alloc | apply Kd.R_drewN | apply Kd.R_drew)); exact HO_7.out⟩, ⟨by (with_reducible repeat (first | apply Kd.R_alloc | apply Kd.R_drewN | apply Kd.R_drew)); exact HO_9.out⟩, ⟨by (with_reducible repeat (first | apply Kd.R_alloc | apply Kd.R_drewN | apply Kd.R_drew)); exact HO_837001.out⟩, ⟨by (with_reducible repeat (first | apply Kd.R_alloc | apply Kd.R_drewN | apply Kd.R_drew)); exact HO_838001.out⟩, ⟨by refine bk ?_; exact BK830.out⟩, ⟨by refine bk ?_; exact BK831.out⟩, ⟨by refine bk ?_; exact BK836.out⟩, ⟨by refine bk ?_; exact BK837.out⟩, ⟨(bB5 GE830.out GE831.out GE836.out GE837.out GE863.out)⟩⟩
                  ·replace c94 := Bool.eq_false_iff.mpr c94
                   subst c94
                   have H1 : (none) = some r := by rw [if_neg (show ¬ (false = true) by decide)] at H; exact H
                   clear H
                   have H := H1
                   clear H1
                   exact absurd H (by simp)
                 ·rw [if_neg c92] at H
                  exact absurd H (by simp)
                ·rw [if_neg c91] at H
                 exact absurd H (by simp)
               ·replace c90 := Bool.eq_false_iff.mpr c90
                subst c90
                have H1 : ((constablelaw06_wakes.f k2).bind fun t865 => (some t865)) = some r := by rw [if_neg (show ¬ (false = true) by decide)] at H; exact H
                clear H
                have H := H1
                clear H1
                replace H := Option.bind_eq_some_iff.mp H
                obtain ⟨t865, A1110, H⟩ := H
                replace H : (some t865) = some r := H
                have A111 := Aside0.mk A1110
                clear A1110
                obtain rfl := Option.some.inj H
                have hnb112 := NB831_830.out
                have hnc112 := NB830_831.out
                have hnb113 := NB831_836.out
                have hnc113 := NB836_831.out
                have hnb114 := NB831_837.out
                have hnc114 := NB837_831.out
                have hcz115_0 : wr.cell? ⟨gb831, 0, none⟩ = some (.string a1_0) := (blk_cell BK831.out 0).trans rfl
                have hcz115_1 : wr.cell? ⟨gb831, 1, none⟩ = some (.slice A1_1 l1_1.length c1_1) := (blk_cell BK831.out 1).trans rfl
                have hfz115_0 := blk_frozen BK831.out 0
                have hfz115_1 := blk_frozen BK831.out 1
                go_wp2_with (first | ((with_reducible refine gate_callee (f := 51) rfl ?_); refine goesL_ (some 137) rfl rfl Try.func51 (by kernel_rfl) rfl #[] rfl aG ?_; (with_reducible refine (constablelaw06_wakes.calls k2  t865 _ A111.out).mono ?_); rintro e w116 ⟨rfl, hb⟩; refine ⟨_, rfl, ?_⟩; have n0_ := Aside0.mk (Kd.R_below (sR HO_7.out) hb); have n1_ := Aside0.mk (Kd.R_below (sR HO_9.out) hb); have n2_ := Aside0.mk (Kd.R_below (sR HO_837001.out) hb); have n3_ := Aside0.mk (Kd.R_below (sR HO_838001.out) hb); have n4_ := Aside0.mk (blk_below (g := gb830) (o := .cells #[.string a0_0, .slice A0_1 l0_1.length c0_1] 53 (0, 0)) (by refine bk ?_; exact BK830.out) hb); have n5_ := Aside0.mk (blk_below (g := gb831) (o := .cells #[.string a1_0, .slice A1_1 l1_1.length c1_1] 53 (0, 0)) (by refine bk ?_; exact BK831.out) hb); have n6_ := Aside0.mk (blk_below (g := gb836) (o := .cells #[.string a0_0, .slice Ao79 x837001_1.length co79] 69 (0, 0)) (by refine bk ?_; exact BK836.out) hb); have n7_ := Aside0.mk (blk_below (g := gb837) (o := .cells #[.string a0_0, .slice Ao83 x838001_1.length co83] 69 (0, 0)) (by refine bk ?_; exact BK837.out) hb); have n8_ := Aside0.mk (below_step (bB4 GE830.out GE831.out GE836.out GE837.out) hb); clear HO_7; clear HO_9; clear HO_837001; clear HO_838001; clear BK830; clear BK831; clear BK836; clear BK837; clear HB; have HO_7 := n0_; have HO_9 := n1_; have HO_837001 := n2_; have HO_838001 := n3_; have BK830 := n4_; have BK831 := n5_; have BK836 := n6_; have BK837 := n7_; have HB := n8_; clear n0_ n1_ n2_ n3_ n4_ n5_ n6_ n7_ n8_; (try clear hb); (try clear hb2); (try clear hk); (try clear hi)))
                go_ret
                exact ⟨eW, (bB4 GE830.out GE831.out GE836.out GE837.out)⟩
              ·rw [if_neg c89] at H
               have c89b0 : decide (x13_2 < (l1_1.length : Int)) = false := decide_eq_false c89
               clear c89
               replace H := Option.bind_eq_some_iff.mp H
               obtain ⟨t866, A1170, H⟩ := H
               replace H : (some t866) = some r := H
               have A117 := Aside0.mk A1170
               clear A1170
               obtain rfl := Option.some.inj H
               have hnb118 := NB831_830.out
               have hnc118 := NB830_831.out
               have hnb119 := NB831_836.out
               have hnc119 := NB836_831.out
               have hnb120 := NB831_837.out
               have hnc120 := NB837_831.out
               have hcz121_0 : wr.cell? ⟨gb831, 0, none⟩ = some (.string a1_0) := (blk_cell BK831.out 0).trans rfl
               have hcz121_1 : wr.cell? ⟨gb831, 1, none⟩ = some (.slice A1_1 l1_1.length c1_1) := (blk_cell BK831.out 1).trans rfl
               have hfz121_0 := blk_frozen BK831.out 0
               have hfz121_1 := blk_frozen BK831.out 1
               go_wp2_with (first | ((with_reducible refine gate_callee (f := 51) rfl ?_); refine goesL_ (some 137) rfl rfl Try.func51 (by kernel_rfl) rfl #[] rfl aG ?_; (with_reducible refine (constablelaw06_wakes.calls k2  t866 _ A117.out).mono ?_); rintro e w122 ⟨rfl, hb⟩; refine ⟨_, rfl, ?_⟩; have n0_ := Aside0.mk (Kd.R_below (sR HO_7.out) hb); have n1_ := Aside0.mk (Kd.R_below (sR HO_9.out) hb); have n2_ := Aside0.mk (Kd.R_below (sR HO_837001.out) hb); have n3_ := Aside0.mk (Kd.R_below (sR HO_838001.out) hb); have n4_ := Aside0.mk (blk_below (g := gb830) (o := .cells #[.string a0_0, .slice A0_1 l0_1.length c0_1] 53 (0, 0)) (by refine bk ?_; exact BK830.out) hb); have n5_ := Aside0.mk (blk_below (g := gb831) (o := .cells #[.string a1_0, .slice A1_1 l1_1.length c1_1] 53 (0, 0)) (by refine bk ?_; exact BK831.out) hb); have n6_ := Aside0.mk (blk_below (g := gb836) (o := .cells #[.string a0_0, .slice Ao79 x837001_1.length co79] 69 (0, 0)) (by refine bk ?_; exact BK836.out) hb); have n7_ := Aside0.mk (blk_below (g := gb837) (o := .cells #[.string a0_0, .slice Ao83 x838001_1.length co83] 69 (0, 0)) (by refine bk ?_; exact BK837.out) hb); have n8_ := Aside0.mk (below_step (bB4 GE830.out GE831.out GE836.out GE837.out) hb); clear HO_7; clear HO_9; clear HO_837001; clear HO_838001; clear BK830; clear BK831; clear BK836; clear BK837; clear HB; have HO_7 := n0_; have HO_9 := n1_; have HO_837001 := n2_; have HO_838001 := n3_; have BK830 := n4_; have BK831 := n5_; have BK836 := n6_; have BK837 := n7_; have HB := n8_; clear n0_ n1_ n2_ n3_ n4_ n5_ n6_ n7_ n8_; (try clear hb); (try clear hb2); (try clear hk); (try clear hi)))
               go_ret
               exact ⟨eW, (bB4 GE830.out GE831.out GE836.out GE837.out)⟩
        ·rw [if_neg c65] at H
         have c65b0 : (a0_0.toList == a1_0.toList) = false := beq_eq_false_iff_ne.mpr c65
         have c65b1 : (a0_0.toList != a1_0.toList) = true := bne_iff_ne.mpr c65
         by_cases c123 : (t852 != false) = true
         ·rw [if_pos c123] at H
          exact absurd H (by simp)
         ·rw [if_neg c123] at H
          have c123b0 : (t852 != false) = false := by simpa using c123
          (try (have c123b1 : decide (t852 = false) = true := by simpa using c123))
          (try (have c123b2 : (t852 == false) = true := by simpa using c123))
          clear c123
          replace H := Option.bind_eq_some_iff.mp H
          obtain ⟨t867, A1240, H⟩ := H
          replace H : (if (t856 != t867) = true then (none) else (if (t853.length : Int) > 0 then (none) else (constablelaw06_MatchFree.l101 k1 y838 t849 t852 0 a1_0 l1_1))) = some r := H
          have A124 := Aside0.mk A1240
          clear A1240
          by_cases c125 : (t856 != t867) = true
          ·rw [if_pos c125] at H
           exact absurd H (by simp)
          ·rw [if_neg c125] at H
           have c125b0 : (t856 != t867) = false := by simpa using c125
           (try (have c125b1 : decide (t856 = t867) = true := by simpa using c125))
           (try (have c125b2 : (t856 == t867) = true := by simpa using c125))
           clear c125
           by_cases c126 : (t853.length : Int) > 0
           ·rw [if_pos c126] at H
            exact absurd H (by simp)
           ·rw [if_neg c126] at H
            have c126b0 : decide (0 < (t853.length : Int)) = false := decide_eq_false c126
            have c126b1 : decide (0 < t853.length) = false := decide_eq_false (by omega)
            clear c126
            have H' := Aside0.mk H
            clear H
            have hnb127 := NB830_831.out
            have hnc127 := NB831_830.out
            have hnb128 := NB830_836.out
            have hnc128 := NB836_830.out
            have hnb129 := NB830_837.out
            have hnc129 := NB837_830.out
            have hcz130_0 : wr.cell? ⟨gb830, 0, none⟩ = some (.string a0_0) := (blk_cell BK830.out 0).trans rfl
            have hcz130_1 : wr.cell? ⟨gb830, 1, none⟩ = some (.slice A0_1 l0_1.length c0_1) := (blk_cell BK830.out 1).trans rfl
            have hfz130_0 := blk_frozen BK830.out 0
            have hfz130_1 := blk_frozen BK830.out 1
            have hnb131 := NB836_831.out
            have hnc131 := NB831_836.out
            have hnb132 := NB836_837.out
            have hnc132 := NB837_836.out
            have hcz133_0 : wr.cell? ⟨gb836, 0, none⟩ = some (.string a0_0) := (blk_cell BK836.out 0).trans rfl
            have hcz133_1 : wr.cell? ⟨gb836, 1, none⟩ = some (u837001) := (blk_cell BK836.out 1).trans rfl
            have hfz133_0 := blk_frozen BK836.out 0
            have hfz133_1 := blk_frozen BK836.out 1
            have hnb134 := NB831_837.out
            have hnc134 := NB837_831.out
            have hcz135_0 : wr.cell? ⟨gb831, 0, none⟩ = some (.string a1_0) := (blk_cell BK831.out 0).trans rfl
            have hcz135_1 : wr.cell? ⟨gb831, 1, none⟩ = some (.slice A1_1 l1_1.length c1_1) := (blk_cell BK831.out 1).trans rfl
            have hfz135_0 := blk_frozen BK831.out 0
            have hfz135_1 := blk_frozen BK831.out 1
            obtain ⟨Ao136, co136, eo136⟩ := Kd.R_slice HO_837001.out
            subst eo136
            go_wp2_with (first | ((with_reducible refine gate_callee (f := 50) rfl ?_); refine goesL_ (some 70) rfl rfl Try.func50 (by kernel_rfl) rfl #[.agg #[.string a0_0, .slice Ao136 x837001_1.length co136], .agg #[.string a1_0, .slice A1_1 l1_1.length c1_1], .slice none 0 0] rfl aG ?_; (refine (match_One.calls a0_0 _ _ x837001_1 a1_0 _ _ l1_1 _ _ ([] : List (S39)) t849 t852 _ ?side1 ?side2 ?side3 ?side4 ?side5 ?side6 A63.out).mono ?_); (case side1 => exact sC (Kd.R_reads' HO_837001.out).2.2); (case side2 => exact (Kd.R_reads' HO_837001.out).2.1); (case side3 => exact sC (Kd.C_below HR1_1.out HB.out)); (case side4 => exact HC1_1.out); (case side5 => exact Kd.C_nil _ _); (case side6 => exact Nat.le_refl _); rintro e w137 ⟨v850, rfl, ho0, hb⟩; refine ⟨_, rfl, ?_⟩; have n0_ := Aside0.mk (Kd.R_below (sR HO_7.out) hb); have n1_ := Aside0.mk (Kd.R_below (sR HO_837001.out) hb); have n2_ := Aside0.mk (Kd.R_below (sR HO_838001.out) hb); have n3_ := Aside0.mk (Kd.R_lower ho0 (below_size (bB4 GE830.out GE831.out GE836.out GE837.out))); have n4_ := Aside0.mk (blk_below (g := gb830) (o := .cells #[.string a0_0, .slice A0_1 l0_1.length c0_1] 53 (0, 0)) (by refine bk ?_; exact BK830.out) hb); have n5_ := Aside0.mk (blk_below (g := gb831) (o := .cells #[.string a1_0, .slice A1_1 l1_1.length c1_1] 53 (0, 0)) (by refine bk ?_; exact BK831.out) hb); have n6_ := Aside0.mk (blk_below (g := gb836) (o := .cells #[.string a0_0, .slice Ao136 x837001_1.length co136] 69 (0, 0)) (by refine bk ?_; exact BK836.out) hb); have n7_ := Aside0.mk (blk_below (g := gb837) (o := .cells #[.string a0_0, u838001] 69 (0, 0)) (by refine bk ?_; exact BK837.out) hb); have n8_ := Aside0.mk (below_step (bB4 GE830.out GE831.out GE836.out GE837.out) hb); clear HO_7; clear HO_837001; clear HO_838001; clear BK830; clear BK831; clear BK836; clear BK837; clear HB; have HO_7 := n0_; have HO_837001 := n1_; have HO_838001 := n2_; have HO851 := n3_; have BK830 := n4_; have BK831 := n5_; have BK836 := n6_; have BK837 := n7_; have HB := n8_; clear n0_ n1_ n2_ n3_ n4_ n5_ n6_ n7_ n8_; (try clear hb); (try clear hb2); (try clear hk); (try clear hi); (try clear ho0); have hcz138_0 : w137.cell? ⟨gb837, 0, none⟩ = some (.string a0_0) := (blk_cell BK837.out 0).trans rfl; have hcz138_1 : w137.cell? ⟨gb837, 1, none⟩ = some (u838001) := (blk_cell BK837.out 1).trans rfl; have hfz138_0 := blk_frozen BK837.out 0; have hfz138_1 := blk_frozen BK837.out 1; have hcz139_0 : w137.cell? ⟨gb831, 0, none⟩ = some (.string a1_0) := (blk_cell BK831.out 0).trans rfl; have hcz139_1 : w137.cell? ⟨gb831, 1, none⟩ = some (.slice A1_1 l1_1.length c1_1) := (blk_cell BK831.out 1).trans rfl; have hfz139_0 := blk_frozen BK831.out 0; have hfz139_1 := blk_frozen BK831.out 1; obtain ⟨Ao140, co140, eo140⟩ := Kd.R_slice HO_838001.out; subst eo140) | ((with_reducible refine gate_callee (f := 50) rfl ?_); refine goesL_ (some 76) rfl rfl Try.func50 (by kernel_rfl) rfl #[.agg #[.string a0_0, .slice Ao140 x838001_1.length co140], .agg #[.string a1_0, .slice A1_1 l1_1.length c1_1], .slice none 0 0] rfl aG ?_; (refine (match_One.calls a0_0 _ _ x838001_1 a1_0 _ _ l1_1 _ _ ([] : List (S39)) t853 t856 _ ?side1 ?side2 ?side3 ?side4 ?side5 ?side6 A64.out).mono ?_); (case side1 => exact sC (Kd.R_reads' HO_838001.out).2.2); (case side2 => exact (Kd.R_reads' HO_838001.out).2.1); (case side3 => exact sC (Kd.C_below HR1_1.out HB.out)); (case side4 => exact HC1_1.out); (case side5 => exact Kd.C_nil _ _); (case side6 => exact Nat.le_refl _); rintro e w141 ⟨v854, rfl, ho0, hb⟩; refine ⟨_, rfl, ?_⟩; have n0_ := Aside0.mk (Kd.R_below (sR HO_7.out) hb); have n1_ := Aside0.mk (Kd.R_below (sR HO_837001.out) hb); have n2_ := Aside0.mk (Kd.R_below (sR HO_838001.out) hb); have n3_ := Aside0.mk (Kd.R_elder' (sR HO851.out) (Kd.R_base ho0) hb); have n4_ := Aside0.mk (Kd.R_lower (Kd.R_new' ho0 (Kd.R_lt (sR HO851.out))) (below_size (bB4 GE830.out GE831.out GE836.out GE837.out))); have n5_ := Aside0.mk (blk_below (g := gb830) (o := .cells #[.string a0_0, .slice A0_1 l0_1.length c0_1] 53 (0, 0)) (by refine bk ?_; exact BK830.out) hb); have n6_ := Aside0.mk (blk_below (g := gb831) (o := .cells #[.string a1_0, .slice A1_1 l1_1.length c1_1] 53 (0, 0)) (by refine bk ?_; exact BK831.out) hb); have n7_ := Aside0.mk (blk_below (g := gb836) (o := .cells #[.string a0_0, .slice Ao136 x837001_1.length co136] 69 (0, 0)) (by refine bk ?_; exact BK836.out) hb); have n8_ := Aside0.mk (blk_below (g := gb837) (o := .cells #[.string a0_0, .slice Ao140 x838001_1.length co140] 69 (0, 0)) (by refine bk ?_; exact BK837.out) hb); have n9_ := Aside0.mk (below_step (bB4 GE830.out GE831.out GE836.out GE837.out) hb); clear HO_7; clear HO_837001; clear HO_838001; clear HO851; clear BK830; clear BK831; clear BK836; clear BK837; clear HB; have HO_7 := n0_; have HO_837001 := n1_; have HO_838001 := n2_; have HO851 := n3_; have HO855 := n4_; have BK830 := n5_; have BK831 := n6_; have BK836 := n7_; have BK837 := n8_; have HB := n9_; clear n0_ n1_ n2_ n3_ n4_ n5_ n6_ n7_ n8_ n9_; (try clear hb); (try clear hb2); (try clear hk); (try clear hi); (try clear ho0); have hcz142_0 : w141.cell? ⟨gb830, 0, none⟩ = some (.string a0_0) := (blk_cell BK830.out 0).trans rfl; have hcz142_1 : w141.cell? ⟨gb830, 1, none⟩ = some (.slice A0_1 l0_1.length c0_1) := (blk_cell BK830.out 1).trans rfl; have hfz142_0 := blk_frozen BK830.out 0; have hfz142_1 := blk_frozen BK830.out 1; have hcz143_0 : w141.cell? ⟨gb831, 0, none⟩ = some (.string a1_0) := (blk_cell BK831.out 0).trans rfl; have hcz143_1 : w141.cell? ⟨gb831, 1, none⟩ = some (.slice A1_1 l1_1.length c1_1) := (blk_cell BK831.out 1).trans rfl; have hfz143_0 := blk_frozen BK831.out 0; have hfz143_1 := blk_frozen BK831.out 1) | (go_at_call 40; (with_reducible refine (constablekeep_Fact.calls k1 a0_0 _ _ l0_1 a1_0 _ _ l1_1 t867 _ ?side1 ?side2 ?side3 ?side4 A124.out).mono ?_); (case side1 => exact sC (Kd.C_below HR0_1.out HB.out)); (case side2 => exact HC0_1.out); (case side3 => exact sC (Kd.C_below HR1_1.out HB.out)); (case side4 => exact HC1_1.out); rintro e w144 ⟨rfl, hb⟩; have n0_ := Aside0.mk (Kd.R_below (sR HO_7.out) hb); have n1_ := Aside0.mk (Kd.R_below (sR HO_837001.out) hb); have n2_ := Aside0.mk (Kd.R_below (sR HO_838001.out) hb); have n3_ := Aside0.mk (Kd.R_below (sR HO851.out) hb); have n4_ := Aside0.mk (Kd.R_below (sR HO855.out) hb); have n5_ := Aside0.mk (blk_below (g := gb830) (o := .cells #[.string a0_0, .slice A0_1 l0_1.length c0_1] 53 (0, 0)) (by refine bk ?_; exact BK830.out) hb); have n6_ := Aside0.mk (blk_below (g := gb831) (o := .cells #[.string a1_0, .slice A1_1 l1_1.length c1_1] 53 (0, 0)) (by refine bk ?_; exact BK831.out) hb); have n7_ := Aside0.mk (blk_below (g := gb836) (o := .cells #[.string a0_0, .slice Ao136 x837001_1.length co136] 69 (0, 0)) (by refine bk ?_; exact BK836.out) hb); have n8_ := Aside0.mk (blk_below (g := gb837) (o := .cells #[.string a0_0, .slice Ao140 x838001_1.length co140] 69 (0, 0)) (by refine bk ?_; exact BK837.out) hb); have n9_ := Aside0.mk (below_step (bB4 GE830.out GE831.out GE836.out GE837.out) hb); clear HO_7; clear HO_837001; clear HO_838001; clear HO851; clear HO855; clear BK830; clear BK831; clear BK836; clear BK837; clear HB; have HO_7 := n0_; have HO_837001 := n1_; have HO_838001 := n2_; have HO851 := n3_; have HO855 := n4_; have BK830 := n5_; have BK831 := n6_; have BK836 := n7_; have BK837 := n8_; have HB := n9_; clear n0_ n1_ n2_ n3_ n4_ n5_ n6_ n7_ n8_ n9_; (try clear hb); (try clear hb2); (try clear hk); (try clear hi); obtain ⟨Ao145, co145, eo145⟩ := Kd.R_slice HO855.out; subst eo145))
            go_loopg [13] k1 (fun kq v13 w' => ∃ (x13_2 : Int), v13 = .int .i64 x13_2 ∧ Aside0 (constablelaw06_MatchFree.l101 kq y838 t849 t852 x13_2 a1_0 l1_1 = some r) ∧ Aside0 (kq ≤ k1) ∧ Aside0 (Kd.R Kd.string 9 w' w.heap.size (fun _ => True) v839 y838) ∧ Aside0 (Kd.R k39 39 w' w.heap.size (fun _ => True) v850 t849) ∧ Aside0 (Kd.R k77 77 w' w.heap.size (fun k_ => some k_ ≠ ((.slice Ao140 x838001_1.length co140) : Value).ownBlock) (.slice Ao136 x837001_1.length co136) x837001_1) ∧ Aside0 (Kd.R k77 77 w' w.heap.size (fun k_ => some k_ ≠ ((.slice Ao136 x837001_1.length co136) : Value).ownBlock) (.slice Ao140 x838001_1.length co140) x838001_1) ∧ Aside0 (w'.heap[gb830]? = some (.cells #[.string a0_0, (.slice A0_1 l0_1.length c0_1)] 53 (0, 0))) ∧ Aside0 (w'.heap[gb831]? = some (.cells #[.string a1_0, (.slice A1_1 l1_1.length c1_1)] 53 (0, 0))) ∧ Aside0 (w'.heap[gb836]? = some (.cells #[.string a0_0, (.slice Ao136 x837001_1.length co136)] 69 (0, 0))) ∧ Aside0 (w'.heap[gb837]? = some (.cells #[.string a0_0, (.slice Ao140 x838001_1.length co140)] 69 (0, 0))) ∧ Aside0 (Below w.heap.size w w'))
            case atStart => exact ⟨(0), (by first | rfl | (simp; done) | (simp [*]; done)), H', ⟨Nat.le_refl _⟩, ⟨by (with_reducible repeat (first | apply Kd.R_alloc | apply Kd.R_drewN | apply Kd.R_drew)); exact HO_7.out⟩, ⟨by (with_reducible repeat (first | apply Kd.R_alloc | apply Kd.R_drewN | apply Kd.R_drew)); exact Kd.R_mono HO851.out (fun _ hk => trivial)⟩, ⟨by (with_reducible repeat (first | apply Kd.R_alloc | apply Kd.R_drewN | apply Kd.R_drew)); exact HO_837001.out⟩, ⟨by (with_reducible repeat (first | apply Kd.R_alloc | apply Kd.R_drewN | apply Kd.R_drew)); exact HO_838001.out⟩, ⟨by refine bk ?_; exact BK830.out⟩, ⟨by refine bk ?_; exact BK831.out⟩, ⟨by refine bk ?_; exact BK836.out⟩, ⟨by refine bk ?_; exact BK837.out⟩, ⟨(bB4 GE830.out GE831.out GE836.out GE837.out)⟩⟩
            case round =>
             clear H'
             (try clear c1); (try clear c2); (try clear p2); (try clear c3); (try clear c4); (try clear c5); (try clear c6); (try clear p6); (try clear c7); (try clear c8); (try clear p8); (try clear q8); (try clear hx8); (try clear c9); (try clear c10); (try clear c11); (try clear c12); (try clear c13); (try clear c14); (try clear c17); (try clear c20); (try clear c22); (try clear c25); (try clear c36); (try clear c44); (try clear c44b0); (try clear c45); (try clear c45b0); (try clear c46); (try clear c46b0); (try clear c47); (try clear c48); (try clear c49); (try clear c50); (try clear c51); (try clear p64); (try clear c65); (try clear c65b0); (try clear c65b1); (try clear c66); (try clear c66b0); (try clear c66b1); (try clear c66b2); (try clear c68); (try clear c68b0); (try clear c68b1); (try clear c68b2); (try clear c69); (try clear c69b0); (try clear c69b1); (try clear c70); (try clear c71); (try clear c72); (try clear c74); (try clear c75); (try clear c77); (try clear p84); (try clear q84); (try clear hx84); (try clear p85); (try clear q85); (try clear hx85); (try clear p86); (try clear q86); (try clear hx86); (try clear c89); (try clear c89b0); (try clear c90); (try clear c91); (try clear c91b0); (try clear c92); (try clear c92b0); (try clear c94); (try clear c95); (try clear c95b0); (try clear c96); (try clear c97); (try clear c98); (try clear c104); (try clear c105); (try clear c106); (try clear c107); (try clear c112); (try clear c113); (try clear c114); (try clear c118); (try clear c119); (try clear c120); (try clear c123); (try clear c123b0); (try clear c123b1); (try clear c123b2); (try clear c125); (try clear c125b0); (try clear c125b1); (try clear c125b2); (try clear c126); (try clear c126b0); (try clear c126b1); (try clear c127); (try clear c128); (try clear c129); (try clear c131); (try clear c132); (try clear c134); (try clear hcz108_0); (try clear hcz108_1); (try clear hcz108_2); (try clear hcz115_0); (try clear hcz115_1); (try clear hcz121_0); (try clear hcz121_1); (try clear hcz130_0); (try clear hcz130_1); (try clear hcz133_0); (try clear hcz133_1); (try clear hcz135_0); (try clear hcz135_1); (try clear hcz138_0); (try clear hcz138_1); (try clear hcz139_0); (try clear hcz139_1); (try clear hcz142_0); (try clear hcz142_1); (try clear hcz143_0); (try clear hcz143_1); (try clear hcz15_0); (try clear hcz15_1); (try clear hcz17_0); (try clear hcz17_1); (try clear hcz26_0); (try clear hcz26_1); (try clear hcz28_0); (try clear hcz28_1); (try clear hcz30_0); (try clear hcz30_1); (try clear hcz32_0); (try clear hcz32_1); (try clear hcz52_0); (try clear hcz52_1); (try clear hcz73_0); (try clear hcz73_1); (try clear hcz76_0); (try clear hcz76_1); (try clear hcz78_0); (try clear hcz78_1); (try clear hcz81_0); (try clear hcz81_1); (try clear hcz82_0); (try clear hcz82_1); (try clear hcz85_0); (try clear hcz85_1); (try clear hcz86_0); (try clear hcz86_1); (try clear hcz8_0); (try clear hcz8_1); (try clear hcz99_0); (try clear hcz99_1); (try clear hfz108_0); (try clear hfz108_1); (try clear hfz108_2); (try clear hfz115_0); (try clear hfz115_1); (try clear hfz121_0); (try clear hfz121_1); (try clear hfz130_0); (try clear hfz130_1); (try clear hfz133_0); (try clear hfz133_1); (try clear hfz135_0); (try clear hfz135_1); (try clear hfz138_0); (try clear hfz138_1); (try clear hfz139_0); (try clear hfz139_1); (try clear hfz142_0); (try clear hfz142_1); (try clear hfz143_0); (try clear hfz143_1); (try clear hfz15_0); (try clear hfz15_1); (try clear hfz17_0); (try clear hfz17_1); (try clear hfz26_0); (try clear hfz26_1); (try clear hfz28_0); (try clear hfz28_1); (try clear hfz30_0); (try clear hfz30_1); (try clear hfz32_0); (try clear hfz32_1); (try clear hfz52_0); (try clear hfz52_1); (try clear hfz73_0); (try clear hfz73_1); (try clear hfz76_0); (try clear hfz76_1); (try clear hfz78_0); (try clear hfz78_1); (try clear hfz81_0); (try clear hfz81_1); (try clear hfz82_0); (try clear hfz82_1); (try clear hfz85_0); (try clear hfz85_1)
             (try clear hfz86_0); (try clear hfz86_1); (try clear hfz8_0); (try clear hfz8_1); (try clear hfz99_0); (try clear hfz99_1); (try clear hx841_0); (try clear hx845_0); (try clear hx845_1); (try clear hx845_2); (try clear hx858_0); (try clear hx864_0); (try clear hx864_1); (try clear hx864_2); (try clear p2); (try clear p6); (try clear p64); (try clear p8); (try clear p84); (try clear p841); (try clear p845); (try clear p858); (try clear p864); (try clear q8); (try clear q84); (try clear q841); (try clear q845); (try clear q858); (try clear q864)
             obtain ⟨x13_2, rfl, HA, HK2, HO_7, HO_9, HO_837001, HO_838001, BK830, BK831, BK836, BK837, HB⟩ := hrel
             cases gk with
             | zero => exact absurd HA.out (by simp [constablelaw06_MatchFree.l101])
             | succ k2 =>
              have H := HA.out
              clear HA
              simp only [constablelaw06_MatchFree.l101] at H
              by_cases c146 : x13_2 < (l1_1.length : Int)
              ·rw [if_pos c146] at H
               have c146b0 : decide (x13_2 < (l1_1.length : Int)) = true := decide_eq_true c146
               clear c146
               by_cases c147 : t852 = true
               ·subst c147
                have H1 : (if 0 ≤ x13_2 then (if x13_2 < (y838.length : Int) then ((subst_Get.f k2 t849 (rdOf ByteArray.empty y838 x13_2)).bind fun bt869 => (if bt869.2.2.2 = true then (if (!(bt869.1 == ((rd_T24 l1_1 x13_2).f0)) || (!(bt869.2.1 == ((rd_T24 l1_1 x13_2).f1)) || (!(bt869.2.2.1.toList == (((rd_T24 l1_1 x13_2).f2).toList))))) = true then (none) else (constablelaw06_MatchFree.l101 k2 y838 t849 true (wrap64 (x13_2 + 1)) a1_0 l1_1)) else (none))) else (none)) else (none)) = some r := by rw [if_pos rfl] at H; exact H
                clear H
                have H := H1
                clear H1
                by_cases c148 : 0 ≤ x13_2
                ·rw [if_pos c148] at H
                 have c148b0 : decide (0 ≤ x13_2) = true := decide_eq_true c148
                 clear c148
                 by_cases c149 : x13_2 < (y838.length : Int)
                 ·rw [if_pos c149] at H
                  have c149b0 : decide (x13_2 < (y838.length : Int)) = true := decide_eq_true c149
                  clear c149
                  replace H := Option.bind_eq_some_iff.mp H
                  obtain ⟨⟨t869, t870, t871, t872⟩, A1500, H⟩ := H
                  replace H : (if t872 = true then (if (!(t869 == ((rd_T24 l1_1 x13_2).f0)) || (!(t870 == ((rd_T24 l1_1 x13_2).f1)) || (!(t871.toList == (((rd_T24 l1_1 x13_2).f2).toList))))) = true then (none) else (constablelaw06_MatchFree.l101 k2 y838 t849 true (wrap64 (x13_2 + 1)) a1_0 l1_1)) else (none)) = some r := H
                  have A150 := Aside0.mk A1500
                  clear A1500
                  by_cases c151 : t872 = true
                  ·subst c151
                   have H1 : (if (!(t869 == ((rd_T24 l1_1 x13_2).f0)) || (!(t870 == ((rd_T24 l1_1 x13_2).f1)) || (!(t871.toList == (((rd_T24 l1_1 x13_2).f2).toList))))) = true then (none) else (constablelaw06_MatchFree.l101 k2 y838 t849 true (wrap64 (x13_2 + 1)) a1_0 l1_1)) = some r := by rw [if_pos rfl] at H; exact H
                   clear H
                   have H := H1
                   clear H1
                   obtain ⟨qc152, hqc152⟩ : ∃ b_ : Bool, (!(t869 == ((rd_T24 l1_1 x13_2).f0)) || (!(t870 == ((rd_T24 l1_1 x13_2).f1)) || (!(t871.toList == (((rd_T24 l1_1 x13_2).f2).toList))))) = b_ := ⟨_, rfl⟩
                   by_cases c152 : (!(t869 == ((rd_T24 l1_1 x13_2).f0)) || (!(t870 == ((rd_T24 l1_1 x13_2).f1)) || (!(t871.toList == (((rd_T24 l1_1 x13_2).f2).toList))))) = true
                   ·rw [if_pos c152] at H
                    exact absurd H (by simp)
                   ·rw [if_neg c152] at H
                    have c152b0 : qc152 = false := hqc152.symm.trans (Bool.eq_false_iff.mpr c152)
                    clear c152
                    have H' := Aside0.mk H
                    clear H
                    have hnb153 := NB831_830.out
                    have hnc153 := NB830_831.out
                    have hnb154 := NB831_836.out
                    have hnc154 := NB836_831.out
                    have hnb155 := NB831_837.out
                    have hnc155 := NB837_831.out
                    have hcz156_0 : wr.cell? ⟨gb831, 0, none⟩ = some (.string a1_0) := (blk_cell BK831.out 0).trans rfl
                    have hcz156_1 : wr.cell? ⟨gb831, 1, none⟩ = some (.slice A1_1 l1_1.length c1_1) := (blk_cell BK831.out 1).trans rfl
                    have hfz156_0 := blk_frozen BK831.out 0
                    have hfz156_1 := blk_frozen BK831.out 1
                    obtain ⟨Ao157, co157, eo157⟩ := Kd.R_slice HO_7.out
                    subst eo157
                    have p868 : 0 ≤ (x13_2 : Int) := of_decide_eq_true (by first | (with_reducible assumption) | assumption)
                    have q868 : x13_2 < (y838.length : Int) := of_decide_eq_true (by first | (with_reducible assumption) | assumption)
                    obtain ⟨ad868, e868, hx868_0⟩ := Kd.at_string (Kd.R_reads' HO_7.out).2.2 x13_2 p868 q868
                    cases e868
                    replace p868 := eq_true p868
                    replace q868 := eq_true q868
                    obtain ⟨Ao158, co158, eo158⟩ := Kd.R_slice HO_9.out
                    subst eo158
                    try go_wp2_with (first | ((with_reducible refine gate_callee (f := 17) rfl ?_); refine goesL_ (some 123) rfl rfl Try.func17 (by kernel_rfl) rfl #[.slice Ao158 t849.length co158, .string (rdOf ByteArray.empty y838 x13_2)] rfl aG ?_; (with_reducible refine (subst_Get.calls k2 _ _ t849 (rdOf ByteArray.empty y838 x13_2) t869 t870 t871 true _ ?side1 ?side2 A150.out).mono ?_); (case side1 => exact sC (Kd.R_reads' HO_9.out).2.2); (case side2 => exact (Kd.R_reads' HO_9.out).2.1); rintro e w159 ⟨rfl, hb⟩; refine ⟨_, rfl, ?_⟩; have n0_ := Aside0.mk (Kd.R_below (sR HO_7.out) hb); have n1_ := Aside0.mk (Kd.R_below (sR HO_9.out) hb); have n2_ := Aside0.mk (Kd.R_below (sR HO_837001.out) hb); have n3_ := Aside0.mk (Kd.R_below (sR HO_838001.out) hb); have n4_ := Aside0.mk (blk_below (g := gb830) (o := .cells #[.string a0_0, .slice A0_1 l0_1.length c0_1] 53 (0, 0)) (by refine bk ?_; exact BK830.out) hb); have n5_ := Aside0.mk (blk_below (g := gb831) (o := .cells #[.string a1_0, .slice A1_1 l1_1.length c1_1] 53 (0, 0)) (by refine bk ?_; exact BK831.out) hb); have n6_ := Aside0.mk (blk_below (g := gb836) (o := .cells #[.string a0_0, .slice Ao136 x837001_1.length co136] 69 (0, 0)) (by refine bk ?_; exact BK836.out) hb); have n7_ := Aside0.mk (blk_below (g := gb837) (o := .cells #[.string a0_0, .slice Ao140 x838001_1.length co140] 69 (0, 0)) (by refine bk ?_; exact BK837.out) hb); have n8_ := Aside0.mk (below_step (bB4 GE830.out GE831.out GE836.out GE837.out) hb); clear HO_7; clear HO_9; clear HO_837001; clear HO_838001; clear BK830; clear BK831; clear BK836; clear BK837; clear HB; have HO_7 := n0_; have HO_9 := n1_; have HO_837001 := n2_; have HO_838001 := n3_; have BK830 := n4_; have BK831 := n5_; have BK836 := n6_; have BK837 := n7_; have HB := n8_; clear n0_ n1_ n2_ n3_ n4_ n5_ n6_ n7_ n8_; (try clear hb); (try clear hb2); (try clear hk); (try clear hi)) | ((with_reducible refine gate_dst (N := 14) rfl ?_); (try (refine gate_guard (by rfl) ?_; dsimp only)); refine bE (N := 14) (cs := #[.int .i64 0, .int .i64 0, .string (⟨#[]⟩ : ByteArray)]) (t := 24) ?_; intro gb873 hg w160 hbox hb; have n0_ := Aside0.mk (Kd.R_below (sR HO_7.out) hb); have n1_ := Aside0.mk (Kd.R_below (sR HO_9.out) hb); have n2_ := Aside0.mk (Kd.R_below (sR HO_837001.out) hb); have n3_ := Aside0.mk (Kd.R_below (sR HO_838001.out) hb); have n4_ := Aside0.mk (blk_below (g := gb830) (o := .cells #[.string a0_0, .slice A0_1 l0_1.length c0_1] 53 (0, 0)) (by refine bk ?_; exact BK830.out) hb); have n5_ := Aside0.mk (blk_below (g := gb831) (o := .cells #[.string a1_0, .slice A1_1 l1_1.length c1_1] 53 (0, 0)) (by refine bk ?_; exact BK831.out) hb); have n6_ := Aside0.mk (blk_below (g := gb836) (o := .cells #[.string a0_0, .slice Ao136 x837001_1.length co136] 69 (0, 0)) (by refine bk ?_; exact BK836.out) hb); have n7_ := Aside0.mk (blk_below (g := gb837) (o := .cells #[.string a0_0, .slice Ao140 x838001_1.length co140] 69 (0, 0)) (by refine bk ?_; exact BK837.out) hb); have n8_ := Aside0.mk (below_step (bB4 GE830.out GE831.out GE836.out GE837.out) hb); have n9_ := Aside0.mk (hbox); have n10_ := Aside0.mk ((by rw [hg]; exact (below_size (bB4 GE830.out GE831.out GE836.out GE837.out)) : w.heap.size ≤ gb873)); have n11_ := Aside0.mk ((by rw [hg]; exact (below_size (bB4 GE830.out GE831.out GE836.out GE837.out)) : w.heap.size ≤ gb873)); have n12_ := Aside0.mk ((by rw [hg]; exact Nat.ne_of_lt (blk_lt (g := gb830) (o := .cells #[.string a0_0, .slice A0_1 l0_1.length c0_1] 53 (0, 0)) (by refine bk ?_; exact BK830.out)) : gb830 ≠ gb873)); have n13_ := Aside0.mk ((by rw [hg]; exact Nat.ne_of_gt (blk_lt (g := gb830) (o := .cells #[.string a0_0, .slice A0_1 l0_1.length c0_1] 53 (0, 0)) (by refine bk ?_; exact BK830.out)) : gb873 ≠ gb830)); have n14_ := Aside0.mk ((by rw [hg]; exact Nat.ne_of_lt (blk_lt (g := gb831) (o := .cells #[.string a1_0, .slice A1_1 l1_1.length c1_1] 53 (0, 0)) (by refine bk ?_; exact BK831.out)) : gb831 ≠ gb873)); have n15_ := Aside0.mk ((by rw [hg]; exact Nat.ne_of_gt (blk_lt (g := gb831) (o := .cells #[.string a1_0, .slice A1_1 l1_1.length c1_1] 53 (0, 0)) (by refine bk ?_; exact BK831.out)) : gb873 ≠ gb831)); have n16_ := Aside0.mk ((by rw [hg]; exact Nat.ne_of_lt (blk_lt (g := gb836) (o := .cells #[.string a0_0, .slice Ao136 x837001_1.length co136] 69 (0, 0)) (by refine bk ?_; exact BK836.out)) : gb836 ≠ gb873)); have n17_ := Aside0.mk ((by rw [hg]; exact Nat.ne_of_gt (blk_lt (g := gb836) (o := .cells #[.string a0_0, .slice Ao136 x837001_1.length co136] 69 (0, 0)) (by refine bk ?_; exact BK836.out)) : gb873 ≠ gb836)); have n18_ := Aside0.mk ((by rw [hg]; exact Nat.ne_of_lt (blk_lt (g := gb837) (o := .cells #[.string a0_0, .slice Ao140 x838001_1.length co140] 69 (0, 0)) (by refine bk ?_; exact BK837.out)) : gb837 ≠ gb873)); have n19_ := Aside0.mk ((by rw [hg]; exact Nat.ne_of_gt (blk_lt (g := gb837) (o := .cells #[.string a0_0, .slice Ao140 x838001_1.length co140] 69 (0, 0)) (by refine bk ?_; exact BK837.out)) : gb873 ≠ gb837)); clear HO_7; clear HO_9; clear HO_837001; clear HO_838001; clear BK830; clear BK831; clear BK836; clear BK837; clear HB; have HO_7 := n0_; have HO_9 := n1_; have HO_837001 := n2_; have HO_838001 := n3_; have BK830 := n4_; have BK831 := n5_; have BK836 := n6_; have BK837 := n7_; have HB := n8_; have BK873 := n9_; have GW873 := n10_; have GE873 := n11_; have NB830_873 := n12_; have NB873_830 := n13_; have NB831_873 := n14_; have NB873_831 := n15_; have NB836_873 := n16_; have NB873_836 := n17_; have NB837_873 := n18_; have NB873_837 := n19_; clear n0_ n1_ n2_ n3_ n4_ n5_ n6_ n7_ n8_ n9_ n10_ n11_ n12_ n13_ n14_ n15_ n16_ n17_ n18_ n19_; clear hb hbox hg; have hnb161 := NB873_830.out; have hnc161 := NB830_873.out; have hnb162 := NB873_831.out; have hnc162 := NB831_873.out; have hnb163 := NB873_836.out; have hnc163 := NB836_873.out; have hnb164 := NB873_837.out; have hnc164 := NB837_873.out; have hcz165_0 : w160.cell? ⟨gb873, 0, none⟩ = some (.int .i64 0) := (blk_cell BK873.out 0).trans rfl; have hcz165_1 : w160.cell? ⟨gb873, 1, none⟩ = some (.int .i64 0) := (blk_cell BK873.out 1).trans rfl; have hcz165_2 : w160.cell? ⟨gb873, 2, none⟩ = some (.string (⟨#[]⟩ : ByteArray)) := (blk_cell BK873.out 2).trans rfl; have hfz165_0 := blk_frozen BK873.out 0; have hfz165_1 := blk_frozen BK873.out 1; have hfz165_2 := blk_frozen BK873.out 2))
                    have n0_ : Aside0 (Kd.R Kd.string 9 (((w160.setCell ⟨gb873, 0, none⟩ (.int .i64 t869)).setCell ⟨gb873, 1, none⟩ (.int .i64 t870)).setCell ⟨gb873, 2, none⟩ (.string t871)) w.heap.size (fun _ => True) (.slice (some ad868) y838.length co157) y838) := ⟨by (with_reducible repeat (first | apply Kd.R_alloc | apply Kd.R_drewN | apply Kd.R_drew)); exact Kd.R_mono (Kd.R_far (p := ⟨gb873, 2, none⟩) (Kd.R_far (p := ⟨gb873, 1, none⟩) (Kd.R_far (p := ⟨gb873, 0, none⟩) (Kd.R_types HO_7.out BK873.out (by decide)) (fun _ hk => hk.2) (.int .i64 t869)) (fun _ hk => hk.2) (.int .i64 t870)) (fun _ hk => hk.2) (.string t871)) (fun _ hk => trivial)⟩
                    have n1_ : Aside0 (Kd.R k39 39 (((w160.setCell ⟨gb873, 0, none⟩ (.int .i64 t869)).setCell ⟨gb873, 1, none⟩ (.int .i64 t870)).setCell ⟨gb873, 2, none⟩ (.string t871)) w.heap.size (fun _ => True) (.slice Ao158 t849.length co158) t849) := ⟨by (with_reducible repeat (first | apply Kd.R_alloc | apply Kd.R_drewN | apply Kd.R_drew)); exact Kd.R_mono (Kd.R_far (p := ⟨gb873, 2, none⟩) (Kd.R_far (p := ⟨gb873, 1, none⟩) (Kd.R_far (p := ⟨gb873, 0, none⟩) (Kd.R_types HO_9.out BK873.out (by decide)) (fun _ hk => hk.2) (.int .i64 t869)) (fun _ hk => hk.2) (.int .i64 t870)) (fun _ hk => hk.2) (.string t871)) (fun _ hk => trivial)⟩
                    have n2_ : Aside0 (Kd.R k77 77 (((w160.setCell ⟨gb873, 0, none⟩ (.int .i64 t869)).setCell ⟨gb873, 1, none⟩ (.int .i64 t870)).setCell ⟨gb873, 2, none⟩ (.string t871)) w.heap.size (fun k_ => some k_ ≠ (.slice Ao140 x838001_1.length co140 : Value).ownBlock) (.slice Ao136 x837001_1.length co136) x837001_1) := ⟨by (with_reducible repeat (first | apply Kd.R_alloc | apply Kd.R_drewN | apply Kd.R_drew)); exact Kd.R_mono (Kd.R_far (p := ⟨gb873, 2, none⟩) (Kd.R_far (p := ⟨gb873, 1, none⟩) (Kd.R_far (p := ⟨gb873, 0, none⟩) (Kd.R_types HO_837001.out BK873.out (by decide)) (fun _ hk => hk.2) (.int .i64 t869)) (fun _ hk => hk.2) (.int .i64 t870)) (fun _ hk => hk.2) (.string t871)) (fun _ hk => hk.1)⟩
                    have n3_ : Aside0 (Kd.R k77 77 (((w160.setCell ⟨gb873, 0, none⟩ (.int .i64 t869)).setCell ⟨gb873, 1, none⟩ (.int .i64 t870)).setCell ⟨gb873, 2, none⟩ (.string t871)) w.heap.size (fun k_ => some k_ ≠ (.slice Ao136 x837001_1.length co136 : Value).ownBlock) (.slice Ao140 x838001_1.length co140) x838001_1) := ⟨by (with_reducible repeat (first | apply Kd.R_alloc | apply Kd.R_drewN | apply Kd.R_drew)); exact Kd.R_mono (Kd.R_far (p := ⟨gb873, 2, none⟩) (Kd.R_far (p := ⟨gb873, 1, none⟩) (Kd.R_far (p := ⟨gb873, 0, none⟩) (Kd.R_types HO_838001.out BK873.out (by decide)) (fun _ hk => hk.2) (.int .i64 t869)) (fun _ hk => hk.2) (.int .i64 t870)) (fun _ hk => hk.2) (.string t871)) (fun _ hk => hk.1)⟩
                    have n4_ : Aside0 ((((w160.setCell ⟨gb873, 0, none⟩ (.int .i64 t869)).setCell ⟨gb873, 1, none⟩ (.int .i64 t870)).setCell ⟨gb873, 2, none⟩ (.string t871)).heap[gb830]? = some (.cells #[.string a0_0, .slice A0_1 l0_1.length c0_1] 53 (0, 0))) := ⟨by refine bk ?_; refine blk_far ?_ NB830_873.out _; refine bk ?_; refine blk_far ?_ NB830_873.out _; refine bk ?_; refine blk_far ?_ NB830_873.out _; refine bk ?_; exact BK830.out⟩
                    have n5_ : Aside0 ((((w160.setCell ⟨gb873, 0, none⟩ (.int .i64 t869)).setCell ⟨gb873, 1, none⟩ (.int .i64 t870)).setCell ⟨gb873, 2, none⟩ (.string t871)).heap[gb831]? = some (.cells #[.string a1_0, .slice A1_1 l1_1.length c1_1] 53 (0, 0))) := ⟨by refine bk ?_; refine blk_far ?_ NB831_873.out _; refine bk ?_; refine blk_far ?_ NB831_873.out _; refine bk ?_; refine blk_far ?_ NB831_873.out _; refine bk ?_; exact BK831.out⟩
                    have n6_ : Aside0 ((((w160.setCell ⟨gb873, 0, none⟩ (.int .i64 t869)).setCell ⟨gb873, 1, none⟩ (.int .i64 t870)).setCell ⟨gb873, 2, none⟩ (.string t871)).heap[gb836]? = some (.cells #[.string a0_0, .slice Ao136 x837001_1.length co136] 69 (0, 0))) := ⟨by refine bk ?_; refine blk_far ?_ NB836_873.out _; refine bk ?_; refine blk_far ?_ NB836_873.out _; refine bk ?_; refine blk_far ?_ NB836_873.out _; refine bk ?_; exact BK836.out⟩
                    have n7_ : Aside0 ((((w160.setCell ⟨gb873, 0, none⟩ (.int .i64 t869)).setCell ⟨gb873, 1, none⟩ (.int .i64 t870)).setCell ⟨gb873, 2, none⟩ (.string t871)).heap[gb837]? = some (.cells #[.string a0_0, .slice Ao140 x838001_1.length co140] 69 (0, 0))) := ⟨by refine bk ?_; refine blk_far ?_ NB837_873.out _; refine bk ?_; refine blk_far ?_ NB837_873.out _; refine bk ?_; refine blk_far ?_ NB837_873.out _; refine bk ?_; exact BK837.out⟩
                    have n8_ : Aside0 ((((w160.setCell ⟨gb873, 0, none⟩ (.int .i64 t869)).setCell ⟨gb873, 1, none⟩ (.int .i64 t870)).setCell ⟨gb873, 2, none⟩ (.string t871)).heap[gb873]? = some (.cells #[.int .i64 t869, .int .i64 t870, .string t871] 24 (0, 0))) := ⟨by refine bk ?_; refine blk_put (cs := #[.int .i64 t869, .int .i64 t870, .string (⟨#[]⟩ : ByteArray)]) ?_ 2 _ rfl; refine bk ?_; refine blk_put (cs := #[.int .i64 t869, .int .i64 0, .string (⟨#[]⟩ : ByteArray)]) ?_ 1 _ rfl; refine bk ?_; refine blk_put (cs := #[.int .i64 0, .int .i64 0, .string (⟨#[]⟩ : ByteArray)]) ?_ 0 _ rfl; refine bk ?_; exact BK873.out⟩
                    have n9_ : Aside0 (Below w.heap.size w (((w160.setCell ⟨gb873, 0, none⟩ (.int .i64 t869)).setCell ⟨gb873, 1, none⟩ (.int .i64 t870)).setCell ⟨gb873, 2, none⟩ (.string t871))) := ⟨(bB5 GE830.out GE831.out GE836.out GE837.out GE873.out)⟩
                    (try clear HO_7)
                    (try clear HO_9)
                    (try clear HO_837001)
                    (try clear HO_838001)
                    (try clear BK830)
                    (try clear BK831)
                    (try clear BK836)
                    (try clear BK837)
                    (try clear BK873)
                    (try clear HB)
                    generalize (((w160.setCell ⟨gb873, 0, none⟩ (.int .i64 t869)).setCell ⟨gb873, 1, none⟩ (.int .i64 t870)).setCell ⟨gb873, 2, none⟩ (.string t871)) = w166 at n0_ n1_ n2_ n3_ n4_ n5_ n6_ n7_ n8_ n9_ ⊢
                    have HO_7 := n0_
                    have HO_9 := n1_
                    have HO_837001 := n2_
                    have HO_838001 := n3_
                    have BK830 := n4_
                    have BK831 := n5_
                    have BK836 := n6_
                    have BK837 := n7_
                    have BK873 := n8_
                    have HB := n9_
                    clear n0_ n1_ n2_ n3_ n4_ n5_ n6_ n7_ n8_ n9_
                    have n0_ := Aside0.mk (Kd.R_drew HO_7.out)
                    have n1_ := Aside0.mk (Kd.R_drew HO_9.out)
                    have n2_ := Aside0.mk (Kd.R_drew HO_837001.out)
                    have n3_ := Aside0.mk (Kd.R_drew HO_838001.out)
                    have n4_ := Aside0.mk (blk_drew BK830.out)
                    have n5_ := Aside0.mk (blk_drew BK831.out)
                    have n6_ := Aside0.mk (blk_drew BK836.out)
                    have n7_ := Aside0.mk (blk_drew BK837.out)
                    have n8_ := Aside0.mk (blk_drew BK873.out)
                    have n9_ := Aside0.mk (below_drew1 HB.out)
                    clear HO_7
                    clear HO_9
                    clear HO_837001
                    clear HO_838001
                    clear BK830
                    clear BK831
                    clear BK836
                    clear BK837
                    clear BK873
                    clear HB
                    have HO_7 := n0_
                    have HO_9 := n1_
                    have HO_837001 := n2_
                    have HO_838001 := n3_
                    have BK830 := n4_
                    have BK831 := n5_
                    have BK836 := n6_
                    have BK837 := n7_
                    have BK873 := n8_
                    have HB := n9_
                    clear n0_ n1_ n2_ n3_ n4_ n5_ n6_ n7_ n8_ n9_
                    have p874 : 0 ≤ (x13_2 : Int) := of_decide_eq_true (by first | (with_reducible assumption) | assumption)
                    have q874 : x13_2 < (l1_1.length : Int) := of_decide_eq_true (by first | (with_reducible assumption) | assumption)
                    obtain ⟨ad874, e874, hx874_0, hx874_1, hx874_2⟩ := at_T24 HR1_1.out x13_2 p874 q874
                    have hw874_2 := hx874_2
                    have hw874_1 := hx874_1
                    have hw874_0 := hx874_0
                    cases e874
                    replace hx874_0 := (HB.out.cell (World.block_lt_of_cell? w _ hx874_0)).trans hx874_0
                    replace hx874_1 := (HB.out.cell (World.block_lt_of_cell? w _ hx874_1)).trans hx874_1
                    replace hx874_2 := (HB.out.cell (World.block_lt_of_cell? w _ hx874_2)).trans hx874_2
                    replace p874 := eq_true p874
                    replace q874 := eq_true q874
                    refine start_ (n := 11) (S := fun w' => w'.cell? ⟨gb873, 0, none⟩ = some (.int .i64 t869) ∧ w'.cell? ⟨gb873, 1, none⟩ = some (.int .i64 t870) ∧ w'.cell? ⟨gb873, 2, none⟩ = some (.string t871) ∧ w'.cell? ⟨gb831, 0, none⟩ = some (.string a1_0) ∧ w'.cell? ⟨gb831, 1, none⟩ = some (.slice (some ad874) l1_1.length c1_1) ∧ w'.cell? (ad874.add ((x13_2).toNat * 3)) = some (.int .i64 ((rd_T24 l1_1 x13_2).f0)) ∧ w'.cell? ⟨(ad874.add ((x13_2).toNat * 3)).block, (ad874.add ((x13_2).toNat * 3)).off + 1, none⟩ = some (.int .i64 ((rd_T24 l1_1 x13_2).f1)) ∧ w'.cell? ⟨(ad874.add ((x13_2).toNat * 3)).block, (ad874.add ((x13_2).toNat * 3)).off + 2, none⟩ = some (.string ((rd_T24 l1_1 x13_2).f2))) (ds := []) #[false, false, false, false, false, false, false, false, false, false, false] (by kernel_rfl) rfl rfl ⟨(blk_cell BK873.out 0).trans rfl, (blk_cell BK873.out 1).trans rfl, (blk_cell BK873.out 2).trans rfl, (blk_cell BK831.out 0).trans rfl, (blk_cell BK831.out 1).trans rfl, ((HB.out.cell (World.block_lt_of_cell? w _ hw874_0)).trans hw874_0), ((HB.out.cell (World.block_lt_of_cell? w _ hw874_1)).trans hw874_1), ((HB.out.cell (World.block_lt_of_cell? w _ hw874_2)).trans hw874_2)⟩ (fun hHeld => ?_); refine with_tabW constablelaw06_MatchFree.tab18 constablelaw06_MatchFree.bits18 (fun HT_ HW_ => ?_)
                    generalize w166.drew = w167 at HO_7 HO_9 HO_837001 HO_838001 BK830 BK831 BK836 BK837 BK873 HB hx874_0 hx874_1 hx874_2 hHeld ⊢
                    refine pQ (i := 0) (N := some 126) #[true, false, false, false, false, false, false, false, false, false, false] ?_
                    refine pQ (i := 1) (N := some 127) #[true, true, false, false, false, false, false, false, false, false, false] ?_
                    refine pQ (i := 2) (N := some 128) #[true, true, true, false, false, false, false, false, false, false, false] ?_
                    refine pQ (i := 4) (N := some 130) #[true, true, true, false, true, false, false, false, false, false, false] ?_
                    refine pQ (i := 6) (N := some 132) #[true, true, true, false, true, false, true, false, false, false, false] ?_
                    refine tQ8 (i := 3) (N := some 129) #[true, true, true, true, true, false, true, false, false, false, false] hHeld ?_
                    refine tQ8 (i := 5) (N := some 131) #[true, true, true, true, true, true, true, false, false, false, false] hHeld ?_
                    refine pQ (i := 7) (N := some 133) #[true, true, true, true, true, true, true, true, false, false, false] ?_
                    refine tQ8 (i := 8) (N := some 134) #[true, true, true, true, true, true, true, true, true, false, false] hHeld ?_
                    refine pQ (i := 9) (N := some 135) #[true, true, true, true, true, true, true, true, true, true, false] ?_
                    refine pQ (i := 10) (N := some 136) #[true, true, true, true, true, true, true, true, true, true, true] ?_
                    refine done_ (done_of HT_.out (by kernel_rfl)) ?_
                    try go_wp2
                    go_roundg k2
                    case measure => have := HK1.out; have := HK2.out; omega
                    case rel => exact ⟨(wrap64 (x13_2 + 1)), (by first | rfl | (simp; done) | (simp [*]; done)), H', ⟨by have := HK1.out; have := HK2.out; omega⟩, ⟨by (with_reducible repeat (first | apply Kd.R_alloc | apply Kd.R_drewN | apply Kd.R_drew)); exact HO_7.out⟩, ⟨by (with_reducible repeat (first | apply Kd.R_alloc | apply Kd.R_drewN | apply Kd.R_drew)); exact HO_9.out⟩, ⟨by (with_reducible repeat (first | apply Kd.R_alloc | apply Kd.R_drewN | apply Kd.R_drew)); exact HO_837001.out⟩, ⟨by (with_reducible repeat (first | apply Kd.R_alloc | apply Kd.R_drewN | apply Kd.R_drew)); exact HO_838001.out⟩, ⟨by refine bk ?_; exact BK830.out⟩, ⟨by refine bk ?_; exact BK831.out⟩, ⟨by refine bk ?_; exact BK836.out⟩, ⟨by refine bk ?_; exact BK837.out⟩, ⟨(bB5 GE830.out GE831.out GE836.out GE837.out GE873.out)⟩⟩
                  ·replace c151 := Bool.eq_false_iff.mpr c151
                   subst c151
                   have H1 : (none) = some r := by rw [if_neg (show ¬ (false = true) by decide)] at H; exact H
                   clear H
                   have H := H1
                   clear H1
                   exact absurd H (by simp)
                 ·rw [if_neg c149] at H
                  exact absurd H (by simp)
                ·rw [if_neg c148] at H
                 exact absurd H (by simp)
               ·replace c147 := Bool.eq_false_iff.mpr c147
                subst c147
                have H1 : ((constablelaw06_wakes.f k2).bind fun t875 => (some t875)) = some r := by rw [if_neg (show ¬ (false = true) by decide)] at H; exact H
                clear H
                have H := H1
                clear H1
                replace H := Option.bind_eq_some_iff.mp H
                obtain ⟨t875, A1680, H⟩ := H
                replace H : (some t875) = some r := H
                have A168 := Aside0.mk A1680
                clear A1680
                obtain rfl := Option.some.inj H
                have hnb169 := NB831_830.out
                have hnc169 := NB830_831.out
                have hnb170 := NB831_836.out
                have hnc170 := NB836_831.out
                have hnb171 := NB831_837.out
                have hnc171 := NB837_831.out
                have hcz172_0 : wr.cell? ⟨gb831, 0, none⟩ = some (.string a1_0) := (blk_cell BK831.out 0).trans rfl
                have hcz172_1 : wr.cell? ⟨gb831, 1, none⟩ = some (.slice A1_1 l1_1.length c1_1) := (blk_cell BK831.out 1).trans rfl
                have hfz172_0 := blk_frozen BK831.out 0
                have hfz172_1 := blk_frozen BK831.out 1
                go_wp2_with (first | ((with_reducible refine gate_callee (f := 51) rfl ?_); refine goesL_ (some 137) rfl rfl Try.func51 (by kernel_rfl) rfl #[] rfl aG ?_; (with_reducible refine (constablelaw06_wakes.calls k2  t875 _ A168.out).mono ?_); rintro e w173 ⟨rfl, hb⟩; refine ⟨_, rfl, ?_⟩; have n0_ := Aside0.mk (Kd.R_below (sR HO_7.out) hb); have n1_ := Aside0.mk (Kd.R_below (sR HO_9.out) hb); have n2_ := Aside0.mk (Kd.R_below (sR HO_837001.out) hb); have n3_ := Aside0.mk (Kd.R_below (sR HO_838001.out) hb); have n4_ := Aside0.mk (blk_below (g := gb830) (o := .cells #[.string a0_0, .slice A0_1 l0_1.length c0_1] 53 (0, 0)) (by refine bk ?_; exact BK830.out) hb); have n5_ := Aside0.mk (blk_below (g := gb831) (o := .cells #[.string a1_0, .slice A1_1 l1_1.length c1_1] 53 (0, 0)) (by refine bk ?_; exact BK831.out) hb); have n6_ := Aside0.mk (blk_below (g := gb836) (o := .cells #[.string a0_0, .slice Ao136 x837001_1.length co136] 69 (0, 0)) (by refine bk ?_; exact BK836.out) hb); have n7_ := Aside0.mk (blk_below (g := gb837) (o := .cells #[.string a0_0, .slice Ao140 x838001_1.length co140] 69 (0, 0)) (by refine bk ?_; exact BK837.out) hb); have n8_ := Aside0.mk (below_step (bB4 GE830.out GE831.out GE836.out GE837.out) hb); clear HO_7; clear HO_9; clear HO_837001; clear HO_838001; clear BK830; clear BK831; clear BK836; clear BK837; clear HB; have HO_7 := n0_; have HO_9 := n1_; have HO_837001 := n2_; have HO_838001 := n3_; have BK830 := n4_; have BK831 := n5_; have BK836 := n6_; have BK837 := n7_; have HB := n8_; clear n0_ n1_ n2_ n3_ n4_ n5_ n6_ n7_ n8_; (try clear hb); (try clear hb2); (try clear hk); (try clear hi)))
                go_ret
                exact ⟨eW, (bB4 GE830.out GE831.out GE836.out GE837.out)⟩
              ·rw [if_neg c146] at H
               have c146b0 : decide (x13_2 < (l1_1.length : Int)) = false := decide_eq_false c146
               clear c146
               replace H := Option.bind_eq_some_iff.mp H
               obtain ⟨t876, A1740, H⟩ := H
               replace H : (some t876) = some r := H
               have A174 := Aside0.mk A1740
               clear A1740
               obtain rfl := Option.some.inj H
               have hnb175 := NB831_830.out
               have hnc175 := NB830_831.out
               have hnb176 := NB831_836.out
               have hnc176 := NB836_831.out
               have hnb177 := NB831_837.out
               have hnc177 := NB837_831.out
               have hcz178_0 : wr.cell? ⟨gb831, 0, none⟩ = some (.string a1_0) := (blk_cell BK831.out 0).trans rfl
               have hcz178_1 : wr.cell? ⟨gb831, 1, none⟩ = some (.slice A1_1 l1_1.length c1_1) := (blk_cell BK831.out 1).trans rfl
               have hfz178_0 := blk_frozen BK831.out 0
               have hfz178_1 := blk_frozen BK831.out 1
               go_wp2_with (first | ((with_reducible refine gate_callee (f := 51) rfl ?_); refine goesL_ (some 137) rfl rfl Try.func51 (by kernel_rfl) rfl #[] rfl aG ?_; (with_reducible refine (constablelaw06_wakes.calls k2  t876 _ A174.out).mono ?_); rintro e w179 ⟨rfl, hb⟩; refine ⟨_, rfl, ?_⟩; have n0_ := Aside0.mk (Kd.R_below (sR HO_7.out) hb); have n1_ := Aside0.mk (Kd.R_below (sR HO_9.out) hb); have n2_ := Aside0.mk (Kd.R_below (sR HO_837001.out) hb); have n3_ := Aside0.mk (Kd.R_below (sR HO_838001.out) hb); have n4_ := Aside0.mk (blk_below (g := gb830) (o := .cells #[.string a0_0, .slice A0_1 l0_1.length c0_1] 53 (0, 0)) (by refine bk ?_; exact BK830.out) hb); have n5_ := Aside0.mk (blk_below (g := gb831) (o := .cells #[.string a1_0, .slice A1_1 l1_1.length c1_1] 53 (0, 0)) (by refine bk ?_; exact BK831.out) hb); have n6_ := Aside0.mk (blk_below (g := gb836) (o := .cells #[.string a0_0, .slice Ao136 x837001_1.length co136] 69 (0, 0)) (by refine bk ?_; exact BK836.out) hb); have n7_ := Aside0.mk (blk_below (g := gb837) (o := .cells #[.string a0_0, .slice Ao140 x838001_1.length co140] 69 (0, 0)) (by refine bk ?_; exact BK837.out) hb); have n8_ := Aside0.mk (below_step (bB4 GE830.out GE831.out GE836.out GE837.out) hb); clear HO_7; clear HO_9; clear HO_837001; clear HO_838001; clear BK830; clear BK831; clear BK836; clear BK837; clear HB; have HO_7 := n0_; have HO_9 := n1_; have HO_837001 := n2_; have HO_838001 := n3_; have BK830 := n4_; have BK831 := n5_; have BK836 := n6_; have BK837 := n7_; have HB := n8_; clear n0_ n1_ n2_ n3_ n4_ n5_ n6_ n7_ n8_; (try clear hb); (try clear hb2); (try clear hk); (try clear hi)))
               go_ret
               exact ⟨eW, (bB4 GE830.out GE831.out GE836.out GE837.out)⟩
    ·replace c22 := Bool.eq_false_iff.mpr c22
     subst c22
     have H1 : (some true) = some r := by rw [if_neg (show ¬ (false = true) by decide)] at H; exact H
     clear H
     have H := H1
     clear H1
     obtain rfl := Option.some.inj H
     go_enter Try.func13, Try.ntmps13
     go_wp2_with (first | ((with_reducible refine gate_dst (N := 2) rfl ?_); (try (refine gate_guard (by rfl) ?_; dsimp only)); refine bE (N := 2) (cs := #[.string a0_0, .slice A0_1 l0_1.length c0_1]) (t := 53) ?_; intro gb830 hg w180 hbox hb; have n0_ := Aside0.mk (below_step bB0 hb); have n1_ := Aside0.mk (hbox); have n2_ := Aside0.mk ((by rw [hg]; exact (below_size bB0) : w.heap.size ≤ gb830)); have n3_ := Aside0.mk ((by rw [hg]; exact (below_size bB0) : w.heap.size ≤ gb830)); clear HB; have HB := n0_; have BK830 := n1_; have GW830 := n2_; have GE830 := n3_; clear n0_ n1_ n2_ n3_; clear hb hbox hg) | ((with_reducible refine gate_dst (N := 3) rfl ?_); (try (refine gate_guard (by rfl) ?_; dsimp only)); refine bE (N := 3) (cs := #[.string a1_0, .slice A1_1 l1_1.length c1_1]) (t := 53) ?_; intro gb831 hg w181 hbox hb; have n0_ := Aside0.mk (blk_below (g := gb830) (o := .cells #[.string a0_0, .slice A0_1 l0_1.length c0_1] 53 (0, 0)) (by refine bk ?_; exact BK830.out) hb); have n1_ := Aside0.mk (below_step (bB1 GE830.out) hb); have n2_ := Aside0.mk (hbox); have n3_ := Aside0.mk ((by rw [hg]; exact (below_size (bB1 GE830.out)) : w.heap.size ≤ gb831)); have n4_ := Aside0.mk ((by rw [hg]; exact (below_size (bB1 GE830.out)) : w.heap.size ≤ gb831)); have n5_ := Aside0.mk ((by rw [hg]; exact Nat.ne_of_lt (blk_lt (g := gb830) (o := .cells #[.string a0_0, .slice A0_1 l0_1.length c0_1] 53 (0, 0)) (by refine bk ?_; exact BK830.out)) : gb830 ≠ gb831)); have n6_ := Aside0.mk ((by rw [hg]; exact Nat.ne_of_gt (blk_lt (g := gb830) (o := .cells #[.string a0_0, .slice A0_1 l0_1.length c0_1] 53 (0, 0)) (by refine bk ?_; exact BK830.out)) : gb831 ≠ gb830)); clear BK830; clear HB; have BK830 := n0_; have HB := n1_; have BK831 := n2_; have GW831 := n3_; have GE831 := n4_; have NB830_831 := n5_; have NB831_830 := n6_; clear n0_ n1_ n2_ n3_ n4_ n5_ n6_; clear hb hbox hg; have hnb182 := NB830_831.out; have hnc182 := NB831_830.out; have hcz183_0 : w181.cell? ⟨gb830, 0, none⟩ = some (.string a0_0) := (blk_cell BK830.out 0).trans rfl; have hcz183_1 : w181.cell? ⟨gb830, 1, none⟩ = some (.slice A0_1 l0_1.length c0_1) := (blk_cell BK830.out 1).trans rfl; have hfz183_0 := blk_frozen BK830.out 0; have hfz183_1 := blk_frozen BK830.out 1) | ((with_reducible refine gate_callee (f := 36) rfl ?_); refine goesL_ (some 17) rfl rfl Try.func36 (by kernel_rfl) rfl #[.agg #[.string a0_0, .slice A0_1 l0_1.length c0_1]] rfl aG ?_; (with_reducible refine (constablelaw03_Heavy.calls k a0_0 _ _ l0_1 false _ ?side1 ?side2 A3.out).mono ?_); (case side1 => exact sC (Kd.C_below HR0_1.out HB.out)); (case side2 => exact HC0_1.out); rintro e w184 ⟨rfl, hb⟩; refine ⟨_, rfl, ?_⟩; have n0_ := Aside0.mk (blk_below (g := gb830) (o := .cells #[.string a0_0, .slice A0_1 l0_1.length c0_1] 53 (0, 0)) (by refine bk ?_; exact BK830.out) hb); have n1_ := Aside0.mk (blk_below (g := gb831) (o := .cells #[.string a1_0, .slice A1_1 l1_1.length c1_1] 53 (0, 0)) (by refine bk ?_; exact BK831.out) hb); have n2_ := Aside0.mk (below_step (bB2 GE830.out GE831.out) hb); clear BK830; clear BK831; clear HB; have BK830 := n0_; have BK831 := n1_; have HB := n2_; clear n0_ n1_ n2_; (try clear hb); (try clear hb2); (try clear hk); (try clear hi); have hcz185_0 : w184.cell? ⟨gb831, 0, none⟩ = some (.string a1_0) := (blk_cell BK831.out 0).trans rfl; have hcz185_1 : w184.cell? ⟨gb831, 1, none⟩ = some (.slice A1_1 l1_1.length c1_1) := (blk_cell BK831.out 1).trans rfl; have hfz185_0 := blk_frozen BK831.out 0; have hfz185_1 := blk_frozen BK831.out 1) | (go_at_call 36; (with_reducible refine (constablelaw03_Heavy.calls k a1_0 _ _ l1_1 false _ ?side1 ?side2 A10.out).mono ?_); (case side1 => exact sC (Kd.C_below HR1_1.out HB.out)); (case side2 => exact HC1_1.out); rintro e w186 ⟨rfl, hb⟩; have n0_ := Aside0.mk (blk_below (g := gb830) (o := .cells #[.string a0_0, .slice A0_1 l0_1.length c0_1] 53 (0, 0)) (by refine bk ?_; exact BK830.out) hb); have n1_ := Aside0.mk (blk_below (g := gb831) (o := .cells #[.string a1_0, .slice A1_1 l1_1.length c1_1] 53 (0, 0)) (by refine bk ?_; exact BK831.out) hb); have n2_ := Aside0.mk (below_step (bB2 GE830.out GE831.out) hb); clear BK830; clear BK831; clear HB; have BK830 := n0_; have BK831 := n1_; have HB := n2_; clear n0_ n1_ n2_; (try clear hb); (try clear hb2); (try clear hk); (try clear hi); have hcz187_0 : w186.cell? ⟨gb830, 0, none⟩ = some (.string a0_0) := (blk_cell BK830.out 0).trans rfl; have hcz187_1 : w186.cell? ⟨gb830, 1, none⟩ = some (.slice A0_1 l0_1.length c0_1) := (blk_cell BK830.out 1).trans rfl; have hfz187_0 := blk_frozen BK830.out 0; have hfz187_1 := blk_frozen BK830.out 1) | (go_at_call 38; (with_reducible refine (constableref01_Fact.calls k a0_0 _ _ l0_1 true _ ?side1 ?side2 A19.out).mono ?_); (case side1 => exact sC (Kd.C_below HR0_1.out HB.out)); (case side2 => exact HC0_1.out); rintro e w188 ⟨rfl, hb⟩; have n0_ := Aside0.mk (blk_below (g := gb830) (o := .cells #[.string a0_0, .slice A0_1 l0_1.length c0_1] 53 (0, 0)) (by refine bk ?_; exact BK830.out) hb); have n1_ := Aside0.mk (blk_below (g := gb831) (o := .cells #[.string a1_0, .slice A1_1 l1_1.length c1_1] 53 (0, 0)) (by refine bk ?_; exact BK831.out) hb); have n2_ := Aside0.mk (below_step (bB2 GE830.out GE831.out) hb); clear BK830; clear BK831; clear HB; have BK830 := n0_; have BK831 := n1_; have HB := n2_; clear n0_ n1_ n2_; (try clear hb); (try clear hb2); (try clear hk); (try clear hi); have hcz189_0 : w188.cell? ⟨gb831, 0, none⟩ = some (.string a1_0) := (blk_cell BK831.out 0).trans rfl; have hcz189_1 : w188.cell? ⟨gb831, 1, none⟩ = some (.slice A1_1 l1_1.length c1_1) := (blk_cell BK831.out 1).trans rfl; have hfz189_0 := blk_frozen BK831.out 0; have hfz189_1 := blk_frozen BK831.out 1) | (go_at_call 38; (with_reducible refine (constableref01_Fact.calls k a1_0 _ _ l1_1 false _ ?side1 ?side2 A21.out).mono ?_); (case side1 => exact sC (Kd.C_below HR1_1.out HB.out)); (case side2 => exact HC1_1.out); rintro e w190 ⟨rfl, hb⟩; have n0_ := Aside0.mk (blk_below (g := gb830) (o := .cells #[.string a0_0, .slice A0_1 l0_1.length c0_1] 53 (0, 0)) (by refine bk ?_; exact BK830.out) hb); have n1_ := Aside0.mk (blk_below (g := gb831) (o := .cells #[.string a1_0, .slice A1_1 l1_1.length c1_1] 53 (0, 0)) (by refine bk ?_; exact BK831.out) hb); have n2_ := Aside0.mk (below_step (bB2 GE830.out GE831.out) hb); clear BK830; clear BK831; clear HB; have BK830 := n0_; have BK831 := n1_; have HB := n2_; clear n0_ n1_ n2_; (try clear hb); (try clear hb2); (try clear hk); (try clear hi)))
     go_ret
     exact ⟨eW, (bB2 GE830.out GE831.out)⟩
   ·replace c20 := Bool.eq_false_iff.mpr c20
    subst c20
    have H1 : (some true) = some r := by rw [if_neg (show ¬ (false = true) by decide)] at H; exact H
    clear H
    have H := H1
    clear H1
    obtain rfl := Option.some.inj H
    go_enter Try.func13, Try.ntmps13
    go_wp2_with (first | ((with_reducible refine gate_dst (N := 2) rfl ?_); (try (refine gate_guard (by rfl) ?_; dsimp only)); refine bE (N := 2) (cs := #[.string a0_0, .slice A0_1 l0_1.length c0_1]) (t := 53) ?_; intro gb830 hg w191 hbox hb; have n0_ := Aside0.mk (below_step bB0 hb); have n1_ := Aside0.mk (hbox); have n2_ := Aside0.mk ((by rw [hg]; exact (below_size bB0) : w.heap.size ≤ gb830)); have n3_ := Aside0.mk ((by rw [hg]; exact (below_size bB0) : w.heap.size ≤ gb830)); clear HB; have HB := n0_; have BK830 := n1_; have GW830 := n2_; have GE830 := n3_; clear n0_ n1_ n2_ n3_; clear hb hbox hg) | ((with_reducible refine gate_dst (N := 3) rfl ?_); (try (refine gate_guard (by rfl) ?_; dsimp only)); refine bE (N := 3) (cs := #[.string a1_0, .slice A1_1 l1_1.length c1_1]) (t := 53) ?_; intro gb831 hg w192 hbox hb; have n0_ := Aside0.mk (blk_below (g := gb830) (o := .cells #[.string a0_0, .slice A0_1 l0_1.length c0_1] 53 (0, 0)) (by refine bk ?_; exact BK830.out) hb); have n1_ := Aside0.mk (below_step (bB1 GE830.out) hb); have n2_ := Aside0.mk (hbox); have n3_ := Aside0.mk ((by rw [hg]; exact (below_size (bB1 GE830.out)) : w.heap.size ≤ gb831)); have n4_ := Aside0.mk ((by rw [hg]; exact (below_size (bB1 GE830.out)) : w.heap.size ≤ gb831)); have n5_ := Aside0.mk ((by rw [hg]; exact Nat.ne_of_lt (blk_lt (g := gb830) (o := .cells #[.string a0_0, .slice A0_1 l0_1.length c0_1] 53 (0, 0)) (by refine bk ?_; exact BK830.out)) : gb830 ≠ gb831)); have n6_ := Aside0.mk ((by rw [hg]; exact Nat.ne_of_gt (blk_lt (g := gb830) (o := .cells #[.string a0_0, .slice A0_1 l0_1.length c0_1] 53 (0, 0)) (by refine bk ?_; exact BK830.out)) : gb831 ≠ gb830)); clear BK830; clear HB; have BK830 := n0_; have HB := n1_; have BK831 := n2_; have GW831 := n3_; have GE831 := n4_; have NB830_831 := n5_; have NB831_830 := n6_; clear n0_ n1_ n2_ n3_ n4_ n5_ n6_; clear hb hbox hg; have hnb193 := NB830_831.out; have hnc193 := NB831_830.out; have hcz194_0 : w192.cell? ⟨gb830, 0, none⟩ = some (.string a0_0) := (blk_cell BK830.out 0).trans rfl; have hcz194_1 : w192.cell? ⟨gb830, 1, none⟩ = some (.slice A0_1 l0_1.length c0_1) := (blk_cell BK830.out 1).trans rfl; have hfz194_0 := blk_frozen BK830.out 0; have hfz194_1 := blk_frozen BK830.out 1) | ((with_reducible refine gate_callee (f := 36) rfl ?_); refine goesL_ (some 17) rfl rfl Try.func36 (by kernel_rfl) rfl #[.agg #[.string a0_0, .slice A0_1 l0_1.length c0_1]] rfl aG ?_; (with_reducible refine (constablelaw03_Heavy.calls k a0_0 _ _ l0_1 false _ ?side1 ?side2 A3.out).mono ?_); (case side1 => exact sC (Kd.C_below HR0_1.out HB.out)); (case side2 => exact HC0_1.out); rintro e w195 ⟨rfl, hb⟩; refine ⟨_, rfl, ?_⟩; have n0_ := Aside0.mk (blk_below (g := gb830) (o := .cells #[.string a0_0, .slice A0_1 l0_1.length c0_1] 53 (0, 0)) (by refine bk ?_; exact BK830.out) hb); have n1_ := Aside0.mk (blk_below (g := gb831) (o := .cells #[.string a1_0, .slice A1_1 l1_1.length c1_1] 53 (0, 0)) (by refine bk ?_; exact BK831.out) hb); have n2_ := Aside0.mk (below_step (bB2 GE830.out GE831.out) hb); clear BK830; clear BK831; clear HB; have BK830 := n0_; have BK831 := n1_; have HB := n2_; clear n0_ n1_ n2_; (try clear hb); (try clear hb2); (try clear hk); (try clear hi); have hcz196_0 : w195.cell? ⟨gb831, 0, none⟩ = some (.string a1_0) := (blk_cell BK831.out 0).trans rfl; have hcz196_1 : w195.cell? ⟨gb831, 1, none⟩ = some (.slice A1_1 l1_1.length c1_1) := (blk_cell BK831.out 1).trans rfl; have hfz196_0 := blk_frozen BK831.out 0; have hfz196_1 := blk_frozen BK831.out 1) | (go_at_call 36; (with_reducible refine (constablelaw03_Heavy.calls k a1_0 _ _ l1_1 false _ ?side1 ?side2 A10.out).mono ?_); (case side1 => exact sC (Kd.C_below HR1_1.out HB.out)); (case side2 => exact HC1_1.out); rintro e w197 ⟨rfl, hb⟩; have n0_ := Aside0.mk (blk_below (g := gb830) (o := .cells #[.string a0_0, .slice A0_1 l0_1.length c0_1] 53 (0, 0)) (by refine bk ?_; exact BK830.out) hb); have n1_ := Aside0.mk (blk_below (g := gb831) (o := .cells #[.string a1_0, .slice A1_1 l1_1.length c1_1] 53 (0, 0)) (by refine bk ?_; exact BK831.out) hb); have n2_ := Aside0.mk (below_step (bB2 GE830.out GE831.out) hb); clear BK830; clear BK831; clear HB; have BK830 := n0_; have BK831 := n1_; have HB := n2_; clear n0_ n1_ n2_; (try clear hb); (try clear hb2); (try clear hk); (try clear hi); have hcz198_0 : w197.cell? ⟨gb830, 0, none⟩ = some (.string a0_0) := (blk_cell BK830.out 0).trans rfl; have hcz198_1 : w197.cell? ⟨gb830, 1, none⟩ = some (.slice A0_1 l0_1.length c0_1) := (blk_cell BK830.out 1).trans rfl; have hfz198_0 := blk_frozen BK830.out 0; have hfz198_1 := blk_frozen BK830.out 1) | (go_at_call 38; (with_reducible refine (constableref01_Fact.calls k a0_0 _ _ l0_1 false _ ?side1 ?side2 A19.out).mono ?_); (case side1 => exact sC (Kd.C_below HR0_1.out HB.out)); (case side2 => exact HC0_1.out); rintro e w199 ⟨rfl, hb⟩; have n0_ := Aside0.mk (blk_below (g := gb830) (o := .cells #[.string a0_0, .slice A0_1 l0_1.length c0_1] 53 (0, 0)) (by refine bk ?_; exact BK830.out) hb); have n1_ := Aside0.mk (blk_below (g := gb831) (o := .cells #[.string a1_0, .slice A1_1 l1_1.length c1_1] 53 (0, 0)) (by refine bk ?_; exact BK831.out) hb); have n2_ := Aside0.mk (below_step (bB2 GE830.out GE831.out) hb); clear BK830; clear BK831; clear HB; have BK830 := n0_; have BK831 := n1_; have HB := n2_; clear n0_ n1_ n2_; (try clear hb); (try clear hb2); (try clear hk); (try clear hi)))
    go_ret
    exact ⟨eW, (bB2 GE830.out GE831.out)⟩

end Go.Proofs.Ytghommaokdhjmaa.P
