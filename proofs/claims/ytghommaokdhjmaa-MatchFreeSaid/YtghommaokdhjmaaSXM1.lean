/- A part of the proof: walks of the code and plain laws, printed and by hand; no condition. -/
import Derived.Test.YtghommaokdhjmaaSXB1
import Derived.Shelf.SlicesQ.IndexFunc
import Derived.DataElems
import Derived.Lib.SliceRun
import Derived.Deep.QuietTactic
import Derived.BigQuiet
import Derived.Deep.RegionHeld3
/- slices.IndexFunc and slices.ContainsFunc over whatever row of structs that came in, and whatever predicate that the closure answers for the row's elements; the row's reading is the only condition. -/
set_option linter.unusedVariables false
set_option linter.unusedSimpArgs false
namespace Go.Proofs.Ytghommaokdhjmaa.Cont
open Go.Shelf Go.RowKit Go.Lib Go.Proofs Go.Proofs.YtghommaokdhjmaaW.PrintWords
variable {P : Program} {ρ : Ren} {α : Type}
theorem row_at [Inhabited α] {d : Kd α} {w : World} {A : Option Addr} {l : List α} (hr : Kd.C d w A l.length l) {W : World} (hW : Go.RowKit.Below w.heap.size w W) {j : Nat} (hj : j < l.length) :
    ∃ ad cs, A = some ad ∧ cs.length = d.sz ∧ d.K W l[j]! cs ∧ Sem.run P (loadCellsFrom (ad.add (j * d.sz)) 0 d.sz #[]) W = .ok cs.toArray W := by
  obtain ⟨_, _, h⟩ := Kd.C_below hr hW
  obtain ⟨ad, hA, h2⟩ := h (by omega)
  obtain ⟨cs, hl, hK, hc⟩ := h2 j l[j]! (by rw [List.getElem?_eq_getElem hj, getElem!_pos l j hj])
  refine ⟨ad, cs, hA, hl, hK, run_loadCellsFrom_list P _ _ cs d.sz hl (fun i v hi => ?_)⟩
  rw [Addr.add_add]
  exact hc i v hi
/-- What is asked of a closure: at each element of the row it answers p, and turns nothing of what lay. -/
def Answers (P : Program) (g : Nat) (lb : Array Value) (d : Kd α) (l : List α) (p : α → Bool) (w : World) : Prop :=
  ∀ (W : World) (x : α) (cs : List Value), Go.RowKit.Below w.heap.size w W → x ∈ l → cs.length = d.sz → d.K W x cs → Calls P g (#[.agg cs.toArray] ++ lb) W fun e w' => e = .returned (.bool (p x)) ∧ Go.RowKit.Below w.heap.size w w'
set_option maxHeartbeats 4000000 in
theorem index [Inhabited α] (L : SlLaysH0.n6 P ρ) (d : Kd α) (k : Nat) (hk : d.sz = k) (aE : ∀ w, (isAgg (ρ.t 23)).run P w = .ok true w) (zE : ∀ w, (Go.sizeOf (ρ.t 23)).run P w = .ok k w) (p : α → Bool) (g : Nat) (lb : Array Value)
    (eg : ∀ args w, (callFunc g args).run P w = .ok (.enter g args) w) (A : Option Addr) (n c : Nat) (l : List α) (w : World) (hn : n = l.length) (hr : Kd.C d w A l.length l) (hp : Answers P g lb d l p w) :
    Calls P (ρ.f 6) #[.slice A n c, .func (.func g) #[] lb] w fun e w' => e = .returned (.int .i64 (Lib.idxBy (fun _ y => p y) (l.take n) default)) ∧ Go.RowKit.Below w.heap.size w w' := by
  have hbig : n ≤ 9223372036854775807 := by rw [hn]; exact hr.2.1
  have mixed := L.mixed; have t0 := L.t0; have a0 := L.a0; have z0 := L.z0; have v0 := L.v0; have t3 := L.t3; have a3 := L.a3; have z3 := L.z3; have v3 := L.v3; have t4 := L.t4; have a4 := L.a4; have z4 := L.z4; have v4 := L.v4; have t22 := L.t22; have a22 := L.a22; have z22 := L.z22; have v22 := L.v22; have t25 := L.t25; have a25 := L.a25; have z25 := L.z25; have v25 := L.v25
  have HN : Aside (n = l.length) := hn
  have HR : Aside (Kd.C d w A l.length l) := hr
  have HP : Aside (Answers P g lb d l p w) := hp
  have HK : Aside (d.sz = k) := hk
  clear hn hr hp hk
  obtain ⟨_, _, FG⟩ := L.f6
  go_enter FG, SlBodyH.n6_ntmps ρ
  go_wp2
  go_loopg [5, 8] n (fun gg _ s8 wr => ∃ kk : Nat, kk ≤ n ∧ n - kk ≤ gg ∧ s8 = .int .i64 kk ∧ Aside (Go.RowKit.Below w.heap.size w wr) ∧ Aside (∀ j, j < kk → p l[j]! = false))
  case atStart => exact ⟨0, Nat.zero_le _, by omega, rfl, Go.RowKit.Below.refl _ w, fun j hj => absurd hj (Nat.not_lt_zero _)⟩
  case round =>
    obtain ⟨kk, hkk, hg, rfl, BW, AN⟩ := hrel
    by_cases hlt : kk < n
    · have hltz : (kk : Int) < (n : Int) := by omega
      have hkl : kk < l.length := by have := HN.out; omega
      obtain ⟨ad, cs, hA, hcl, hK, l2⟩ := row_at (P := P) HR.out BW.out hkl
      have hcall := HP.out wr l[kk]! cs BW.out (by rw [getElem!_pos l kk hkl]; exact List.getElem_mem hkl) hcl hK
      rw [HK.out] at l2
      subst hA
      clear hK hcl
      have HL : Aside (kk < l.length) := hkl
      clear hkl
      generalize hy : l[kk]! = y at hcall
      have B : Aside (l[kk]! = y) := hy
      clear hy
      cases hq : p y with
      | true =>
        rw [hq] at hcall
        go_wp2_with (go_at_fn g; refine hcall.mono ?_; rintro e w' ⟨rfl, hb'⟩)
        go_ret
        refine ⟨?_, hb'⟩
        rw [Lib.idxBy_hit (fun _ y => p y) l n kk default hlt (by have := HN.out; omega) (by show p l[kk]! = true; rw [B.out]; exact hq) AN.out]
        rfl
      | false =>
        rw [hq] at hcall
        go_wp2_with (go_at_fn g; refine hcall.mono ?_; rintro e w' ⟨rfl, hb'⟩)
        go_roundg (n - (kk + 1))
        case measure => omega
        case rel =>
          refine ⟨kk + 1, by omega, by omega, by go_num, hb', (show Aside _ from fun j hj => ?_)⟩
          by_cases e : j = kk
          · subst e
            rw [B.out]; exact hq
          · exact AN.out j (by omega)
    · have hltz : ¬ (kk : Int) < (n : Int) := by omega
      have : kk = n := by omega
      subst this
      go_wp2
      go_ret
      refine ⟨?_, BW.out⟩
      rw [Lib.idxBy_miss (fun _ y => p y) l kk default AN.out]
      rfl
theorem contains [Inhabited α] (L : SlLaysH0.n8 P ρ) (d : Kd α) (k : Nat) (hk : d.sz = k) (aE : ∀ w, (isAgg (ρ.t 23)).run P w = .ok true w) (zE : ∀ w, (Go.sizeOf (ρ.t 23)).run P w = .ok k w) (p : α → Bool) (g : Nat) (lb : Array Value)
    (eg : ∀ args w, (callFunc g args).run P w = .ok (.enter g args) w) (A : Option Addr) (n c : Nat) (l : List α) (w : World) (hn : n = l.length) (hr : Kd.C d w A l.length l) (hp : Answers P g lb d l p w) :
    Calls P (ρ.f 8) #[.slice A n c, .func (.func g) #[] lb] w fun e w' => e = .returned (.bool (l.any p)) ∧ Go.RowKit.Below w.heap.size w w' := by
  rw [show l.any p = decide (0 ≤ Lib.idxBy (fun _ y => p y) (l.take n) default) by rw [Lib.idxBy_nonneg_iff, hn, List.take_length]]
  have mixed := L.mixed; have t0 := L.t0; have a0 := L.a0; have z0 := L.z0; have v0 := L.v0; have t3 := L.t3; have a3 := L.a3; have z3 := L.z3; have v3 := L.v3; have t4 := L.t4; have a4 := L.a4; have z4 := L.z4; have v4 := L.v4; have t22 := L.t22; have a22 := L.a22; have z22 := L.z22; have v22 := L.v22; have t25 := L.t25; have a25 := L.a25; have z25 := L.z25; have v25 := L.v25
  have e6 : ∀ args w, (callFunc (ρ.f 6) args).run P w = .ok (.enter (ρ.f 6) args) w := L.f6.enters rfl
  have hcon := index { L with } d k hk aE zE p g lb eg A n c l w hn hr hp
  clear hn hr hp hk
  obtain ⟨_, _, FG⟩ := L.f8
  go_enter FG, SlBodyH.n8_ntmps ρ
  go_wp2_with (go_at_fn (ρ.f 6); refine hcon.mono ?_; rintro e w' ⟨rfl, hb'⟩)
  go_ret
  exact ⟨rfl, hb'⟩
end Go.Proofs.Ytghommaokdhjmaa.Cont
namespace Go.Proofs.Ytghommaokdhjmaa.P
open Go.RowKit Go.Proofs.YtghommaokdhjmaaW.PrintWords Go.Proofs.YtghommaokdhjmaaW.PrintLast Go.Proofs.Ytghommaokdhjmaa.Gate
set_option linter.unusedVariables false
set_option linter.unusedSimpArgs false

/-! ### slices_Index_string_string: function 107 -/
def slices_Index_string_string.l0 : Nat → List ByteArray → ByteArray → Int → Int → Option (Int)
 | 0, _, _, _, _ => none
 | k + 1, x0, x1, x7, x8 => if x8 < x7 then (if 0 ≤ x8 then (if x8 < (x0.length : Int) then (if x1.toList = (rdOf ByteArray.empty x0 x8).toList then (some x8) else (slices_Index_string_string.l0 k x0 x1 x7 (wrap64 (x8 + 1)))) else (none)) else (none)) else (some (-1))
def slices_Index_string_string.f (k : Nat) (l0 : List ByteArray) (a1 : ByteArray) : Option (Int) := slices_Index_string_string.l0 k l0 a1 (l0.length : Int) 0
theorem slices_Index_string_string.mono_l : ∀ k, (∀ y0 y1 y2 y3, LeO (slices_Index_string_string.l0 k y0 y1 y2 y3) (slices_Index_string_string.l0 (k + 1) y0 y1 y2 y3))
 | 0 => fun _ _ _ _ r h => by simp [slices_Index_string_string.l0] at h
 | k + 1 => by
  have ih0 := slices_Index_string_string.mono_l k
  ·intro y0 y1 y2 y3
   unfold slices_Index_string_string.l0
   repeat' first
   | (with_reducible exact ih0 _ _ _ _)
   | (with_reducible exact LeO.refl _)
   | (with_reducible exact LeO.none _)
   | (with_reducible refine LeO.ite ?_ ?_)
   | (with_reducible refine LeO.bind ?_ (fun _ => ?_))
theorem slices_Index_string_string.mono : ∀ a0 a1 k, LeO (slices_Index_string_string.f k a0 a1) (slices_Index_string_string.f (k + 1) a0 a1) := by
 intro a0 a1 k
 have ih0 := slices_Index_string_string.mono_l k
 unfold slices_Index_string_string.f
 repeat' first
   | (with_reducible exact ih0 _ _ _ _)
   | (with_reducible exact LeO.refl _)
   | (with_reducible exact LeO.none _)
   | (with_reducible refine LeO.ite ?_ ?_)
   | (with_reducible refine LeO.bind ?_ (fun _ => ?_))
set_option maxHeartbeats 8000000 in
set_option maxRecDepth 100000 in
theorem slices_Index_string_string.calls (k : Nat) (A0 : Option Addr) (c0 : Nat) (l0 : List ByteArray) (a1 : ByteArray) (r : Int) (w : World) (hr0 : Kd.C Kd.string w A0 l0.length l0) (hc0 : l0.length ≤ c0) (h : slices_Index_string_string.f k l0 a1 = some r) :
  Calls Try.prog 107 #[.slice A0 l0.length c0, .string a1] w fun e w' => e = .returned (.int .i64 r) ∧ Drawn0 w w' := by
 have HR0 := Aside0.mk hr0
 have HC0 := Aside0.mk hc0
 clear hr0 hc0
 have H : (slices_Index_string_string.l0 k l0 a1 (l0.length : Int) 0) = some r := h
 clear h
 have H' := Aside0.mk H
 clear H
 go_enter Try.func107, Try.ntmps107
 go_wp2
 go_loopg [8] k (fun kq v8 w' => ∃ (x8_1 : Int), v8 = .int .i64 x8_1 ∧ Aside0 (slices_Index_string_string.l0 kq l0 a1 (l0.length : Int) x8_1 = some r) ∧ Aside0 (kq ≤ k) ∧ Drawn0 w w')
 case atStart => exact ⟨(0), (by first | rfl | (simp; done) | (simp [*]; done)), H', ⟨Nat.le_refl _⟩, by repeat (first | exact Drawn0.refl _ | apply Drawn0.step)⟩
 case round =>
  clear H'
  (try clear c1); (try clear p2)
  obtain ⟨x8_1, rfl, HA, HK1, ⟨m1, rfl⟩⟩ := hrel
  cases gk with
  | zero => exact absurd HA.out (by simp [slices_Index_string_string.l0])
  | succ k1 =>
   have H := HA.out
   clear HA
   simp only [slices_Index_string_string.l0] at H
   by_cases c3 : x8_1 < (l0.length : Int)
   ·rw [if_pos c3] at H
    have c3b0 : decide (x8_1 < (l0.length : Int)) = true := decide_eq_true c3
    clear c3
    by_cases c4 : 0 ≤ x8_1
    ·rw [if_pos c4] at H
     have c4b0 : decide (0 ≤ x8_1) = true := decide_eq_true c4
     clear c4
     by_cases c5 : x8_1 < (l0.length : Int)
     ·rw [if_pos c5] at H
      have c5b0 : decide (x8_1 < (l0.length : Int)) = true := decide_eq_true c5
      clear c5
      by_cases c6 : a1.toList = (rdOf ByteArray.empty l0 x8_1).toList
      ·rw [if_pos c6] at H
       have c6b0 : (a1.toList == (rdOf ByteArray.empty l0 x8_1).toList) = true := beq_iff_eq.mpr c6
       have c6b1 : (a1.toList != (rdOf ByteArray.empty l0 x8_1).toList) = false := bne_eq_false_iff_eq.mpr c6
       clear c6
       obtain rfl := Option.some.inj H
       have p369 : 0 ≤ (x8_1 : Int) := of_decide_eq_true (by first | (with_reducible assumption) | assumption)
       have q369 : x8_1 < (l0.length : Int) := of_decide_eq_true (by first | (with_reducible assumption) | assumption)
       obtain ⟨ad369, e369, hx369_0⟩ := Kd.at_string HR0.out x8_1 p369 q369
       cases e369
       replace p369 := eq_true p369
       replace q369 := eq_true q369
       go_wp2
       go_ret
       exact ⟨by first | rfl | (simp; done) | (simp [*]; done), by repeat (first | exact Drawn0.refl _ | apply Drawn0.step)⟩
      ·rw [if_neg c6] at H
       have c6b0 : (a1.toList == (rdOf ByteArray.empty l0 x8_1).toList) = false := beq_eq_false_iff_ne.mpr c6
       have c6b1 : (a1.toList != (rdOf ByteArray.empty l0 x8_1).toList) = true := bne_iff_ne.mpr c6
       have H' := Aside0.mk H
       clear H
       have p369 : 0 ≤ (x8_1 : Int) := of_decide_eq_true (by first | (with_reducible assumption) | assumption)
       have q369 : x8_1 < (l0.length : Int) := of_decide_eq_true (by first | (with_reducible assumption) | assumption)
       obtain ⟨ad369, e369, hx369_0⟩ := Kd.at_string HR0.out x8_1 p369 q369
       cases e369
       replace p369 := eq_true p369
       replace q369 := eq_true q369
       go_wp2
       go_roundg k1
       case measure => have := HK1.out; omega
       case rel => exact ⟨(wrap64 (x8_1 + 1)), (by first | rfl | (simp; done) | (simp [*]; done)), H', ⟨by have := HK1.out; omega⟩, by repeat (first | exact Drawn0.refl _ | apply Drawn0.step)⟩
     ·rw [if_neg c5] at H
      exact absurd H (by simp)
    ·rw [if_neg c4] at H
     exact absurd H (by simp)
   ·rw [if_neg c3] at H
    have c3b0 : decide (x8_1 < (l0.length : Int)) = false := decide_eq_false c3
    clear c3
    obtain rfl := Option.some.inj H
    go_wp2
    go_ret
    exact ⟨by first | rfl | (simp; done) | (simp [*]; done), by repeat (first | exact Drawn0.refl _ | apply Drawn0.step)⟩

end Go.Proofs.Ytghommaokdhjmaa.P
namespace Go.Proofs.Ytghommaokdhjmaa.P
open Go.RowKit Go.Proofs.YtghommaokdhjmaaW.PrintWords Go.Proofs.YtghommaokdhjmaaW.PrintLast Go.Proofs.Ytghommaokdhjmaa.Gate
set_option linter.unusedVariables false
set_option linter.unusedSimpArgs false

/-! ### slices_Contains_string_string: function 85 -/
def slices_Contains_string_string.f (k : Nat) (l0 : List ByteArray) (a1 : ByteArray) : Option (Bool) := (slices_Index_string_string.f k l0 a1).bind fun t370 => (some (decide (t370 ≥ 0)))
theorem slices_Contains_string_string.mono : ∀ a0 a1 k, LeO (slices_Contains_string_string.f k a0 a1) (slices_Contains_string_string.f (k + 1) a0 a1) := by
 intro a0 a1 k
 unfold slices_Contains_string_string.f
 repeat' first
   | (with_reducible exact slices_Index_string_string.mono _ _ _)
   | (with_reducible exact LeO.refl _)
   | (with_reducible exact LeO.none _)
   | (with_reducible refine LeO.ite ?_ ?_)
   | (with_reducible refine LeO.bind ?_ (fun _ => ?_))
set_option maxHeartbeats 8000000 in
set_option maxRecDepth 100000 in
theorem slices_Contains_string_string.calls (k : Nat) (A0 : Option Addr) (c0 : Nat) (l0 : List ByteArray) (a1 : ByteArray) (r : Bool) (w : World) (hr0 : Kd.C Kd.string w A0 l0.length l0) (hc0 : l0.length ≤ c0) (h : slices_Contains_string_string.f k l0 a1 = some r) :
  Calls Try.prog 85 #[.slice A0 l0.length c0, .string a1] w fun e w' => e = .returned (.bool r) ∧ Drawn0 w w' := by
 have HR0 := Aside0.mk hr0
 have HC0 := Aside0.mk hc0
 clear hr0 hc0
 have H : ((slices_Index_string_string.f k l0 a1).bind fun t370 => (some (decide (t370 ≥ 0)))) = some r := h
 clear h
 replace H := Option.bind_eq_some_iff.mp H
 obtain ⟨t370, A30, H⟩ := H
 replace H : (some (decide (t370 ≥ 0))) = some r := H
 have A3 := Aside0.mk A30
 clear A30
 obtain rfl := Option.some.inj H
 go_enter Try.func85, Try.ntmps85
 go_wp2_with (first | ((with_reducible refine gate_callee (f := 107) rfl ?_); refine goesL_ (some 7) rfl rfl Try.func107 (by kernel_rfl) rfl #[.slice A0 l0.length c0, .string a1] rfl aG ?_; (with_reducible refine (slices_Index_string_string.calls k _ _ l0 a1 t370 _ ?side1 ?side2 A3.out).mono ?_); (case side1 => exact sC HR0.out); (case side2 => exact HC0.out); rintro e w' ⟨rfl, ⟨nd, rfl⟩⟩; refine ⟨_, rfl, ?_⟩))
 go_ret
 exact ⟨by first | rfl | (simp; done) | (simp [*]; done), by repeat (first | exact Drawn0.refl _ | apply Drawn0.step)⟩

end Go.Proofs.Ytghommaokdhjmaa.P
namespace Go.Proofs.Ytghommaokdhjmaa.P
open Go.RowKit Go.Proofs.YtghommaokdhjmaaW.PrintWords Go.Proofs.YtghommaokdhjmaaW.PrintLast Go.Proofs.Ytghommaokdhjmaa.Gate
set_option linter.unusedVariables false
set_option linter.unusedSimpArgs false

/-! ### fact_word: function 115 -/
def fact_word.f (k : Nat) (a0 : ByteArray) : Option (Bool) := (slices_Contains_string_string.f k (([(⟨#[102, 97, 99, 116]⟩ : ByteArray), (⟨#[114, 117, 108, 101]⟩ : ByteArray), (⟨#[112, 97, 116, 116, 101, 114, 110]⟩ : ByteArray), (⟨#[110, 111, 116]⟩ : ByteArray), (⟨#[97, 110, 100]⟩ : ByteArray), (⟨#[111, 114]⟩ : ByteArray), (⟨#[98, 101, 102, 111, 114, 101]⟩ : ByteArray), (⟨#[111, 110, 99, 101]⟩ : ByteArray), (⟨#[97, 108, 119, 97, 121, 115]⟩ : ByteArray), (⟨#[115, 105, 110, 99, 101]⟩ : ByteArray), (⟨#[100, 114, 111, 112]⟩ : ByteArray)] : List ByteArray)) a0).bind fun t374 => (some t374)
theorem fact_word.mono : ∀ a0 k, LeO (fact_word.f k a0) (fact_word.f (k + 1) a0) := by
 intro a0 k
 unfold fact_word.f
 repeat' first
   | (with_reducible exact slices_Contains_string_string.mono _ _ _)
   | (with_reducible exact LeO.refl _)
   | (with_reducible exact LeO.none _)
   | (with_reducible refine LeO.ite ?_ ?_)
   | (with_reducible refine LeO.bind ?_ (fun _ => ?_))
set_option maxHeartbeats 8000000 in
set_option maxRecDepth 100000 in
theorem fact_word.calls (k : Nat) (a0 : ByteArray) (r : Bool) (w : World) (h : fact_word.f k a0 = some r) :
  Calls Try.prog 115 #[.string a0] w fun e w' => e = .returned (.bool r) ∧ Below w.heap.size w w' := by
 have HB := Aside0.mk (Below.refl w.heap.size w)
 have H : ((slices_Contains_string_string.f k (([(⟨#[102, 97, 99, 116]⟩ : ByteArray), (⟨#[114, 117, 108, 101]⟩ : ByteArray), (⟨#[112, 97, 116, 116, 101, 114, 110]⟩ : ByteArray), (⟨#[110, 111, 116]⟩ : ByteArray), (⟨#[97, 110, 100]⟩ : ByteArray), (⟨#[111, 114]⟩ : ByteArray), (⟨#[98, 101, 102, 111, 114, 101]⟩ : ByteArray), (⟨#[111, 110, 99, 101]⟩ : ByteArray), (⟨#[97, 108, 119, 97, 121, 115]⟩ : ByteArray), (⟨#[115, 105, 110, 99, 101]⟩ : ByteArray), (⟨#[100, 114, 111, 112]⟩ : ByteArray)] : List ByteArray)) a0).bind fun t374 => (some t374)) = some r := h
 clear h
 obtain ⟨y371, hy371⟩ : ∃ y_ : List ByteArray, y_ = (([(⟨#[102, 97, 99, 116]⟩ : ByteArray), (⟨#[114, 117, 108, 101]⟩ : ByteArray), (⟨#[112, 97, 116, 116, 101, 114, 110]⟩ : ByteArray), (⟨#[110, 111, 116]⟩ : ByteArray), (⟨#[97, 110, 100]⟩ : ByteArray), (⟨#[111, 114]⟩ : ByteArray), (⟨#[98, 101, 102, 111, 114, 101]⟩ : ByteArray), (⟨#[111, 110, 99, 101]⟩ : ByteArray), (⟨#[97, 108, 119, 97, 121, 115]⟩ : ByteArray), (⟨#[115, 105, 110, 99, 101]⟩ : ByteArray), (⟨#[100, 114, 111, 112]⟩ : ByteArray)] : List ByteArray)) := ⟨_, rfl⟩
 replace H : ((slices_Contains_string_string.f k y371 a0).bind fun t374 => (some t374)) = some r := by first | (rw [hy371]; with_reducible exact H) | (have H2_ := (Option.bind_some _ _).symm.trans H; rw [hy371]; with_reducible exact H2_) | (have H2_ := (Option.bind_some _ _).symm.trans H; with_reducible exact H2_) | with_reducible exact H | (rw [hy371]; exact H) | exact H
 have Ny371 := Aside0.mk hy371
 clear hy371
 replace H := Option.bind_eq_some_iff.mp H
 obtain ⟨t374, A20, H⟩ := H
 replace H : (some t374) = some r := H
 have A2 := Aside0.mk A20
 clear A20
 obtain rfl := Option.some.inj H
 go_enter Try.func115, Try.ntmps115
 go_wp2_with (first | ((with_reducible refine gate_dst (N := 3) rfl ?_); refine Kd.R_lit Kd.string _ 9 ?hg (N := 3) ?hd (xs := ([(⟨#[102, 97, 99, 116]⟩ : ByteArray), (⟨#[114, 117, 108, 101]⟩ : ByteArray), (⟨#[112, 97, 116, 116, 101, 114, 110]⟩ : ByteArray), (⟨#[110, 111, 116]⟩ : ByteArray), (⟨#[97, 110, 100]⟩ : ByteArray), (⟨#[111, 114]⟩ : ByteArray), (⟨#[98, 101, 102, 111, 114, 101]⟩ : ByteArray), (⟨#[111, 110, 99, 101]⟩ : ByteArray), (⟨#[97, 108, 119, 97, 121, 115]⟩ : ByteArray), (⟨#[115, 105, 110, 99, 101]⟩ : ByteArray), (⟨#[100, 114, 111, 112]⟩ : ByteArray)] : List ByteArray)) (inner := [.string (⟨#[102, 97, 99, 116]⟩ : ByteArray), .string (⟨#[114, 117, 108, 101]⟩ : ByteArray), .string (⟨#[112, 97, 116, 116, 101, 114, 110]⟩ : ByteArray), .string (⟨#[110, 111, 116]⟩ : ByteArray), .string (⟨#[97, 110, 100]⟩ : ByteArray), .string (⟨#[111, 114]⟩ : ByteArray), .string (⟨#[98, 101, 102, 111, 114, 101]⟩ : ByteArray), .string (⟨#[111, 110, 99, 101]⟩ : ByteArray), .string (⟨#[97, 108, 119, 97, 121, 115]⟩ : ByteArray), .string (⟨#[115, 105, 110, 99, 101]⟩ : ByteArray), .string (⟨#[100, 114, 111, 112]⟩ : ByteArray)]) (ok := fun _ => True) (okp := fun _ => True) ?hr ?hp (fun _ hk => hk) trivial (Below.refl _ _) (Nat.le_refl _) (by simp) ?_; (case hd => rfl); (case hg => rfl); (case hr => first | (go_simp; done) | (go_simp; rfl)); (case hp => exact (Reps.one (show Kd.M Kd.string _ _ _ (⟨#[102, 97, 99, 116]⟩ : ByteArray) [.string (⟨#[102, 97, 99, 116]⟩ : ByteArray)] from rfl) (Reps.one (show Kd.M Kd.string _ _ _ (⟨#[114, 117, 108, 101]⟩ : ByteArray) [.string (⟨#[114, 117, 108, 101]⟩ : ByteArray)] from rfl) (Reps.one (show Kd.M Kd.string _ _ _ (⟨#[112, 97, 116, 116, 101, 114, 110]⟩ : ByteArray) [.string (⟨#[112, 97, 116, 116, 101, 114, 110]⟩ : ByteArray)] from rfl) (Reps.one (show Kd.M Kd.string _ _ _ (⟨#[110, 111, 116]⟩ : ByteArray) [.string (⟨#[110, 111, 116]⟩ : ByteArray)] from rfl) (Reps.one (show Kd.M Kd.string _ _ _ (⟨#[97, 110, 100]⟩ : ByteArray) [.string (⟨#[97, 110, 100]⟩ : ByteArray)] from rfl) (Reps.one (show Kd.M Kd.string _ _ _ (⟨#[111, 114]⟩ : ByteArray) [.string (⟨#[111, 114]⟩ : ByteArray)] from rfl) (Reps.one (show Kd.M Kd.string _ _ _ (⟨#[98, 101, 102, 111, 114, 101]⟩ : ByteArray) [.string (⟨#[98, 101, 102, 111, 114, 101]⟩ : ByteArray)] from rfl) (Reps.one (show Kd.M Kd.string _ _ _ (⟨#[111, 110, 99, 101]⟩ : ByteArray) [.string (⟨#[111, 110, 99, 101]⟩ : ByteArray)] from rfl) (Reps.one (show Kd.M Kd.string _ _ _ (⟨#[97, 108, 119, 97, 121, 115]⟩ : ByteArray) [.string (⟨#[97, 108, 119, 97, 121, 115]⟩ : ByteArray)] from rfl) (Reps.one (show Kd.M Kd.string _ _ _ (⟨#[115, 105, 110, 99, 101]⟩ : ByteArray) [.string (⟨#[115, 105, 110, 99, 101]⟩ : ByteArray)] from rfl) (Reps.one (show Kd.M Kd.string _ _ _ (⟨#[100, 114, 111, 112]⟩ : ByteArray) [.string (⟨#[100, 114, 111, 112]⟩ : ByteArray)] from rfl) (Reps.none _ _))))))))))))); intro v372 w3 ho4 hb hg_ hnew_; clear hg_ hnew_; (first | rw [← Ny371.out] at ho4 | (simp only [Int.reduceToNat] at ho4; rw [← Ny371.out] at ho4)); have n0_ := Aside0.mk (Kd.R_lower ho4 (below_size bB0)); have n1_ := Aside0.mk (below_step bB0 hb); clear HB; have HO373 := n0_; have HB := n1_; clear n0_ n1_; clear hb ho4; obtain ⟨Ao5, co5, eo5⟩ := Kd.R_slice HO373.out; subst eo5) | ((with_reducible refine gate_callee (f := 85) rfl ?_); refine goesL_ (some 5) rfl rfl Try.func85 (by kernel_rfl) rfl #[.slice Ao5 y371.length co5, .string a0] rfl aG ?_; (with_reducible refine (slices_Contains_string_string.calls k _ _ y371 a0 t374 _ ?side1 ?side2 A2.out).mono ?_); (case side1 => exact sC (Kd.R_reads' HO373.out).2.2); (case side2 => exact (Kd.R_reads' HO373.out).2.1); rintro e w' ⟨rfl, ⟨nd, rfl⟩⟩; refine ⟨_, rfl, ?_⟩))
 go_ret
 exact ⟨eW, bB0⟩

end Go.Proofs.Ytghommaokdhjmaa.P
namespace Go.Proofs.Ytghommaokdhjmaa.P
open Go.RowKit Go.Proofs.YtghommaokdhjmaaW.PrintWords Go.Proofs.YtghommaokdhjmaaW.PrintLast Go.Proofs.Ytghommaokdhjmaa.Gate
set_option linter.unusedVariables false
set_option linter.unusedSimpArgs false

/-! ### fact_Name: function 101 -/
def fact_Name.f (k : Nat) (a0 : ByteArray) : Option (Bool) := (val_Check.f k 2 0 a0).bind fun t375 => (if t375 = 0 then ((fact_word.f k a0).bind fun t376 => (some (!t376))) else (some false))
theorem fact_Name.mono : ∀ a0 k, LeO (fact_Name.f k a0) (fact_Name.f (k + 1) a0) := by
 intro a0 k
 unfold fact_Name.f
 repeat' first
   | (with_reducible exact fact_word.mono _ _)
   | (with_reducible exact val_Check.mono _ _ _ _)
   | (with_reducible exact LeO.refl _)
   | (with_reducible exact LeO.none _)
   | (with_reducible refine LeO.ite ?_ ?_)
   | (with_reducible refine LeO.bind ?_ (fun _ => ?_))
set_option maxHeartbeats 8000000 in
set_option maxRecDepth 100000 in
theorem fact_Name.calls (k : Nat) (a0 : ByteArray) (r : Bool) (w : World) (h : fact_Name.f k a0 = some r) :
  Calls Try.prog 101 #[.string a0] w fun e w' => e = .returned (.bool r) ∧ Below w.heap.size w w' := by
 have hu24 := Try.underlying24
 have HB := Aside0.mk (Below.refl w.heap.size w)
 have H : ((val_Check.f k 2 0 a0).bind fun t375 => (if t375 = 0 then ((fact_word.f k a0).bind fun t376 => (some (!t376))) else (some false))) = some r := h
 clear h
 replace H := Option.bind_eq_some_iff.mp H
 obtain ⟨t375, A20, H⟩ := H
 replace H : (if t375 = 0 then ((fact_word.f k a0).bind fun t376 => (some (!t376))) else (some false)) = some r := H
 have A2 := Aside0.mk A20
 clear A20
 by_cases c3 : t375 = 0
 ·rw [if_pos c3] at H
  have c3b0 : (t375 == 0) = true := beq_iff_eq.mpr c3
  have c3b1 : (t375 != 0) = false := bne_eq_false_iff_eq.mpr c3
  clear c3
  replace H := Option.bind_eq_some_iff.mp H
  obtain ⟨t376, A40, H⟩ := H
  replace H : (some (!t376)) = some r := H
  have A4 := Aside0.mk A40
  clear A40
  obtain rfl := Option.some.inj H
  go_enter Try.func101, Try.ntmps101
  go_wp2_with (first | ((with_reducible refine gate_callee (f := 87) rfl ?_); refine goesL_ (some 5) rfl rfl Try.func87 (by kernel_rfl) rfl #[.agg #[.int .i64 2, .int .i64 0, .string a0]] rfl aG ?_; (with_reducible refine (val_Check.calls k 2 0 a0 t375 _ A2.out).mono ?_); rintro e w5 ⟨rfl, hb⟩; refine ⟨_, rfl, ?_⟩; have n0_ := Aside0.mk (below_step bB0 hb); clear HB; have HB := n0_; clear n0_; (try clear hb); (try clear hb2); (try clear hk); (try clear hi)) | (go_at_call 115; (with_reducible refine (fact_word.calls k a0 t376 _ A4.out).mono ?_); rintro e w6 ⟨rfl, hb⟩; have n0_ := Aside0.mk (below_step bB0 hb); clear HB; have HB := n0_; clear n0_; (try clear hb); (try clear hb2); (try clear hk); (try clear hi)))
  go_ret
  exact ⟨eW, bB0⟩
 ·rw [if_neg c3] at H
  have c3b0 : (t375 == 0) = false := beq_eq_false_iff_ne.mpr c3
  have c3b1 : (t375 != 0) = true := bne_iff_ne.mpr c3
  obtain rfl := Option.some.inj H
  go_enter Try.func101, Try.ntmps101
  go_wp2_with (first | ((with_reducible refine gate_callee (f := 87) rfl ?_); refine goesL_ (some 5) rfl rfl Try.func87 (by kernel_rfl) rfl #[.agg #[.int .i64 2, .int .i64 0, .string a0]] rfl aG ?_; (with_reducible refine (val_Check.calls k 2 0 a0 t375 _ A2.out).mono ?_); rintro e w7 ⟨rfl, hb⟩; refine ⟨_, rfl, ?_⟩; have n0_ := Aside0.mk (below_step bB0 hb); clear HB; have HB := n0_; clear n0_; (try clear hb); (try clear hb2); (try clear hk); (try clear hi)))
  go_ret
  exact ⟨eW, bB0⟩

end Go.Proofs.Ytghommaokdhjmaa.P
namespace Go.Proofs.Ytghommaokdhjmaa.P
open Go.RowKit Go.Proofs.YtghommaokdhjmaaW.PrintWords Go.Proofs.YtghommaokdhjmaaW.PrintLast Go.Proofs.Ytghommaokdhjmaa.Gate
set_option linter.unusedVariables false
set_option linter.unusedSimpArgs false

attribute [local go_sem high] eqA24
/-! ### match_Term: function 104 -/
def match_Term.f (k : Nat) (a0_0 : ByteArray) (a0_1 : Int) (a0_2 : Int) (a0_3 : ByteArray) : Option (Bool) := if a0_0.toList = ([] : List UInt8) then ((val_Check.f k a0_1 a0_2 a0_3).bind fun t933 => (some (t933 == 0))) else ((subst_Var.f k a0_0).bind fun t934 => (if t934 = true then (some (a0_1 == 0 && (a0_2 == 0 && (a0_3.toList == ([] : List UInt8))))) else (some false)))
theorem match_Term.mono : ∀ a0 a1 a2 a3 k, LeO (match_Term.f k a0 a1 a2 a3) (match_Term.f (k + 1) a0 a1 a2 a3) := by
 intro a0 a1 a2 a3 k
 unfold match_Term.f
 repeat' first
   | (with_reducible exact subst_Var.mono _ _)
   | (with_reducible exact val_Check.mono _ _ _ _)
   | (with_reducible exact LeO.refl _)
   | (with_reducible exact LeO.none _)
   | (with_reducible refine LeO.ite ?_ ?_)
   | (with_reducible refine LeO.bind ?_ (fun _ => ?_))
set_option maxHeartbeats 8000000 in
set_option maxRecDepth 100000 in
theorem match_Term.calls (k : Nat) (a0_0 : ByteArray) (a0_1 : Int) (a0_2 : Int) (a0_3 : ByteArray) (r : Bool) (w : World) (h : match_Term.f k a0_0 a0_1 a0_2 a0_3 = some r) :
  Calls Try.prog 104 #[.agg #[.string a0_0, .int .i64 a0_1, .int .i64 a0_2, .string a0_3]] w fun e w' => e = .returned (.bool r) ∧ Below w.heap.size w w' := by
 have hu77 := Try.underlying77
 have hu24 := Try.underlying24
 have HB := Aside0.mk (Below.refl w.heap.size w)
 have H : (if a0_0.toList = ([] : List UInt8) then ((val_Check.f k a0_1 a0_2 a0_3).bind fun t933 => (some (t933 == 0))) else ((subst_Var.f k a0_0).bind fun t934 => (if t934 = true then (some (a0_1 == 0 && (a0_2 == 0 && (a0_3.toList == ([] : List UInt8))))) else (some false)))) = some r := h
 clear h
 by_cases c2 : a0_0.toList = ([] : List UInt8)
 ·rw [if_pos c2] at H
  have c2b0 : (a0_0.toList == ([] : List UInt8)) = true := beq_iff_eq.mpr c2
  have c2b1 : (a0_0.toList != ([] : List UInt8)) = false := bne_eq_false_iff_eq.mpr c2
  clear c2
  replace H := Option.bind_eq_some_iff.mp H
  obtain ⟨t933, A30, H⟩ := H
  replace H : (some (t933 == 0)) = some r := H
  have A3 := Aside0.mk A30
  clear A30
  obtain rfl := Option.some.inj H
  go_enter Try.func104, Try.ntmps104
  go_wp2_with (first | ((with_reducible refine gate_dst (N := 1) rfl ?_); refine bE (N := 1) (cs := #[.string a0_0, .int .i64 a0_1, .int .i64 a0_2, .string a0_3]) (t := 77) ?_; intro gb932 hg w4 hbox hb; have n0_ := Aside0.mk (below_step bB0 hb); have n1_ := Aside0.mk (hbox); have n2_ := Aside0.mk ((by rw [hg]; exact (below_size bB0) : w.heap.size ≤ gb932)); have n3_ := Aside0.mk ((by rw [hg]; exact (below_size bB0) : w.heap.size ≤ gb932)); clear HB; have HB := n0_; have BK932 := n1_; have GW932 := n2_; have GE932 := n3_; clear n0_ n1_ n2_ n3_; clear hb hbox hg; have hcz5_0 : w4.cell? ⟨gb932, 0, none⟩ = some (.string a0_0) := (blk_cell BK932.out 0).trans rfl; have hcz5_1 : w4.cell? ⟨gb932, 1, none⟩ = some (.int .i64 a0_1) := (blk_cell BK932.out 1).trans rfl; have hcz5_2 : w4.cell? ⟨gb932, 2, none⟩ = some (.int .i64 a0_2) := (blk_cell BK932.out 2).trans rfl; have hcz5_3 : w4.cell? ⟨gb932, 3, none⟩ = some (.string a0_3) := (blk_cell BK932.out 3).trans rfl; have hfz5_0 := blk_frozen BK932.out 0; have hfz5_1 := blk_frozen BK932.out 1; have hfz5_2 := blk_frozen BK932.out 2; have hfz5_3 := blk_frozen BK932.out 3) | ((with_reducible refine gate_callee (f := 87) rfl ?_); refine goesL_ (some 8) rfl rfl Try.func87 (by kernel_rfl) rfl #[.agg #[.int .i64 a0_1, .int .i64 a0_2, .string a0_3]] rfl aG ?_; (with_reducible refine (val_Check.calls k a0_1 a0_2 a0_3 t933 _ A3.out).mono ?_); rintro e w6 ⟨rfl, hb⟩; refine ⟨_, rfl, ?_⟩; have n0_ := Aside0.mk (blk_below (g := gb932) (o := .cells #[.string a0_0, .int .i64 a0_1, .int .i64 a0_2, .string a0_3] 77 (0, 0)) (by refine bk ?_; exact BK932.out) hb); have n1_ := Aside0.mk (below_step (bB1 GE932.out) hb); clear BK932; clear HB; have BK932 := n0_; have HB := n1_; clear n0_ n1_; (try clear hb); (try clear hb2); (try clear hk); (try clear hi)))
  go_ret
  exact ⟨eW, (bB1 GE932.out)⟩
 ·rw [if_neg c2] at H
  have c2b0 : (a0_0.toList == ([] : List UInt8)) = false := beq_eq_false_iff_ne.mpr c2
  have c2b1 : (a0_0.toList != ([] : List UInt8)) = true := bne_iff_ne.mpr c2
  replace H := Option.bind_eq_some_iff.mp H
  obtain ⟨t934, A70, H⟩ := H
  replace H : (if t934 = true then (some (a0_1 == 0 && (a0_2 == 0 && (a0_3.toList == ([] : List UInt8))))) else (some false)) = some r := H
  have A7 := Aside0.mk A70
  clear A70
  by_cases c8 : t934 = true
  ·subst c8
   have H1 : (some (a0_1 == 0 && (a0_2 == 0 && (a0_3.toList == ([] : List UInt8))))) = some r := by rw [if_pos rfl] at H; exact H
   clear H
   have H := H1
   clear H1
   obtain rfl := Option.some.inj H
   go_enter Try.func104, Try.ntmps104
   go_wp2_with (first | ((with_reducible refine gate_dst (N := 1) rfl ?_); refine bE (N := 1) (cs := #[.string a0_0, .int .i64 a0_1, .int .i64 a0_2, .string a0_3]) (t := 77) ?_; intro gb932 hg w9 hbox hb; have n0_ := Aside0.mk (below_step bB0 hb); have n1_ := Aside0.mk (hbox); have n2_ := Aside0.mk ((by rw [hg]; exact (below_size bB0) : w.heap.size ≤ gb932)); have n3_ := Aside0.mk ((by rw [hg]; exact (below_size bB0) : w.heap.size ≤ gb932)); clear HB; have HB := n0_; have BK932 := n1_; have GW932 := n2_; have GE932 := n3_; clear n0_ n1_ n2_ n3_; clear hb hbox hg; have hcz10_0 : w9.cell? ⟨gb932, 0, none⟩ = some (.string a0_0) := (blk_cell BK932.out 0).trans rfl; have hcz10_1 : w9.cell? ⟨gb932, 1, none⟩ = some (.int .i64 a0_1) := (blk_cell BK932.out 1).trans rfl; have hcz10_2 : w9.cell? ⟨gb932, 2, none⟩ = some (.int .i64 a0_2) := (blk_cell BK932.out 2).trans rfl; have hcz10_3 : w9.cell? ⟨gb932, 3, none⟩ = some (.string a0_3) := (blk_cell BK932.out 3).trans rfl; have hfz10_0 := blk_frozen BK932.out 0; have hfz10_1 := blk_frozen BK932.out 1; have hfz10_2 := blk_frozen BK932.out 2; have hfz10_3 := blk_frozen BK932.out 3) | ((with_reducible refine gate_callee (f := 21) rfl ?_); refine goesL_ (some 12) rfl rfl Try.func21 (by kernel_rfl) rfl #[.string a0_0] rfl aG ?_; (with_reducible refine (subst_Var.calls k a0_0 true _ A7.out).mono ?_); rintro e w' ⟨rfl, ⟨nd, rfl⟩⟩; refine ⟨_, rfl, ?_⟩))
   go_ret
   exact ⟨eW, (bB1 GE932.out)⟩
  ·replace c8 := Bool.eq_false_iff.mpr c8
   subst c8
   have H1 : (some false) = some r := by rw [if_neg (show ¬ (false = true) by decide)] at H; exact H
   clear H
   have H := H1
   clear H1
   obtain rfl := Option.some.inj H
   go_enter Try.func104, Try.ntmps104
   go_wp2_with (first | ((with_reducible refine gate_dst (N := 1) rfl ?_); refine bE (N := 1) (cs := #[.string a0_0, .int .i64 a0_1, .int .i64 a0_2, .string a0_3]) (t := 77) ?_; intro gb932 hg w11 hbox hb; have n0_ := Aside0.mk (below_step bB0 hb); have n1_ := Aside0.mk (hbox); have n2_ := Aside0.mk ((by rw [hg]; exact (below_size bB0) : w.heap.size ≤ gb932)); have n3_ := Aside0.mk ((by rw [hg]; exact (below_size bB0) : w.heap.size ≤ gb932)); clear HB; have HB := n0_; have BK932 := n1_; have GW932 := n2_; have GE932 := n3_; clear n0_ n1_ n2_ n3_; clear hb hbox hg; have hcz12_0 : w11.cell? ⟨gb932, 0, none⟩ = some (.string a0_0) := (blk_cell BK932.out 0).trans rfl; have hcz12_1 : w11.cell? ⟨gb932, 1, none⟩ = some (.int .i64 a0_1) := (blk_cell BK932.out 1).trans rfl; have hcz12_2 : w11.cell? ⟨gb932, 2, none⟩ = some (.int .i64 a0_2) := (blk_cell BK932.out 2).trans rfl; have hcz12_3 : w11.cell? ⟨gb932, 3, none⟩ = some (.string a0_3) := (blk_cell BK932.out 3).trans rfl; have hfz12_0 := blk_frozen BK932.out 0; have hfz12_1 := blk_frozen BK932.out 1; have hfz12_2 := blk_frozen BK932.out 2; have hfz12_3 := blk_frozen BK932.out 3) | ((with_reducible refine gate_callee (f := 21) rfl ?_); refine goesL_ (some 12) rfl rfl Try.func21 (by kernel_rfl) rfl #[.string a0_0] rfl aG ?_; (with_reducible refine (subst_Var.calls k a0_0 false _ A7.out).mono ?_); rintro e w' ⟨rfl, ⟨nd, rfl⟩⟩; refine ⟨_, rfl, ?_⟩))
   go_ret
   exact ⟨eW, (bB1 GE932.out)⟩

end Go.Proofs.Ytghommaokdhjmaa.P
/- fact.Check and match.Check: their walks and what they answer as plain functions; texts no longer than a million bytes. -/
set_option linter.unusedVariables false
set_option linter.unusedSimpArgs false
namespace Go.Proofs.Ytghommaokdhjmaa.FactC
open Go.Shelf Go.RowKit Go.Lib Go.Proofs.YtghommaokdhjmaaW.PrintWords Go.Proofs.YtghommaokdhjmaaW.PrintLast Go.Proofs.Ytghommaokdhjmaa.Gate Go.Proofs.Ytghommaokdhjmaa.P Go.Proofs.Ytghommaokdhjmaa.PSpec Go.Proofs.Ytghommaokdhjmaa.Cont
/-- The shelf's names at this translation. -/
def renV : Ren := ⟨fun x => if x = 6 then 117 else if x = 8 then 105 else x, fun x => if x = 0 then 0 else if x = 3 then 3 else if x = 4 then 4 else if x = 22 then 51 else if x = 23 then 24 else if x = 25 then 37 else x, fun x => x⟩
def renT : Ren := ⟨fun x => if x = 6 then 116 else if x = 8 then 102 else x, fun x => if x = 0 then 0 else if x = 3 then 3 else if x = 4 then 4 else if x = 22 then 67 else if x = 23 then 77 else if x = 25 then 99 else x, fun x => x⟩
set_option maxRecDepth 1000000 in
theorem laysV : SlLaysH0.n8 Try.prog renV := by
  refine ⟨by kernel_rfl, ⟨ "slices.IndexFunc[[]constable/api.Value,constable/api.Value]", by decide, by kernel_rfl⟩, ⟨ "slices.ContainsFunc[[]constable/api.Value,constable/api.Value]", by decide, by kernel_rfl⟩, ?_, ?_, ?_, ?_, ?_, ?_, ?_, ?_, ?_, ?_, ?_, ?_, ?_, ?_, ?_, ?_, ?_, ?_, ?_, ?_⟩ <;> first | kernel_rfl | (intro w; kernel_rfl)
set_option maxRecDepth 1000000 in
theorem laysT : SlLaysH0.n8 Try.prog renT := by
  refine ⟨by kernel_rfl, ⟨ "slices.IndexFunc[[]constable/api.Term,constable/api.Term]", by decide, by kernel_rfl⟩, ⟨ "slices.ContainsFunc[[]constable/api.Term,constable/api.Term]", by decide, by kernel_rfl⟩, ?_, ?_, ?_, ?_, ?_, ?_, ?_, ?_, ?_, ?_, ?_, ?_, ?_, ?_, ?_, ?_, ?_, ?_, ?_, ?_⟩ <;> first | kernel_rfl | (intro w; kernel_rfl)
instance : Inhabited S24 := ⟨z24⟩
instance : Inhabited S77 := ⟨z77⟩
/-- Is a value wrong? -/
def wrongV (x : S24) : Bool := !(valP x.f0 x.f1 x.f2 == 0)
def fitV (l : List S24) : Bool := l.all fun x => decide (x.f2.size ≤ 1000000)
theorem fitV_mem {l : List S24} : fitV l = true ↔ ∀ x ∈ l, x.f2.size ≤ 1000000 := by
  unfold fitV
  rw [List.all_eq_true]
  simp only [decide_eq_true_eq]
set_option maxHeartbeats 4000000 in
set_option maxRecDepth 1000000 in
theorem closV (x : S24) (hx : x.f2.size ≤ 1000000) (W : World) : Calls Try.prog 106 #[.agg #[.int .i64 x.f0, .int .i64 x.f1, .string x.f2]] W fun e w' => e = .returned (.bool (wrongV x)) ∧ Go.RowKit.Below W.heap.size W w' := by
  have hu := Try.underlying24
  have hcon := fun W' => val_Check.calls 1000100 x.f0 x.f1 x.f2 _ W' (valP_eq x.f0 x.f1 x.f2 hx 1000100 (by omega))
  unfold wrongV
  generalize valP x.f0 x.f1 x.f2 = r at hcon ⊢
  have eg : ∀ args w, (callFunc 87 args).run Try.prog w = .ok (.enter 87 args) w := enters_of Try.func87 (by kernel_rfl) rfl
  go_enter Try.func106, Try.ntmps106
  go_wp2_with (go_at_fn 87; with_reducible refine (hcon _).mono ?_; rintro e w' ⟨rfl, hb⟩)
  go_ret
  exact ⟨rfl, below_step (by repeat (first | (with_reducible first | exact Go.RowKit.Below.refl _ _ | apply below_alloc | apply pw_below_drewN | apply below_drew1) | exact Go.RowKit.Below.refl _ _)) hb⟩
theorem ansV (l : List S24) (hf : fitV l = true) (w : World) : Answers Try.prog 106 #[] k24 l wrongV w := fun W x cs hW hx hl hK => by
  obtain rfl := k24_open hK
  exact (closV x (fitV_mem.1 hf x hx) W).mono fun e w' ⟨he, hb⟩ => ⟨he, hW.trans (hb.mono hW.size)⟩
theorem aggV : ∀ w, (isAgg 24).run Try.prog w = .ok true w := fun w => by kernel_rfl
theorem sizeV : ∀ w, (Go.sizeOf 24).run Try.prog w = .ok 3 w := fun w => by kernel_rfl
theorem containsV (A : Option Addr) (c : Nat) (l : List S24) (w : World) (hr : Kd.C k24 w A l.length l) (hf : fitV l = true) :
    Calls Try.prog 105 #[.slice A l.length c, .func (.func 106) #[] #[]] w fun e w' => e = .returned (.bool (l.any wrongV)) ∧ Go.RowKit.Below w.heap.size w w' :=
  contains laysV k24 3 rfl aggV sizeV wrongV 106 #[] (enters_of Try.func106 (by kernel_rfl) rfl) A l.length c l w rfl hr (ansV l hf w)
/-- The words that are no names. -/
def wordsL : List ByteArray := [⟨#[102, 97, 99, 116]⟩, ⟨#[114, 117, 108, 101]⟩, ⟨#[112, 97, 116, 116, 101, 114, 110]⟩, ⟨#[110, 111, 116]⟩, ⟨#[97, 110, 100]⟩, ⟨#[111, 114]⟩, ⟨#[98, 101, 102, 111, 114, 101]⟩, ⟨#[111, 110, 99, 101]⟩, ⟨#[97, 108, 119, 97, 121, 115]⟩, ⟨#[115, 105, 110, 99, 101]⟩, ⟨#[100, 114, 111, 112]⟩]
/-- Is a text a name? -/
def nameP (s : ByteArray) : Bool := valP 2 0 s == 0 && !wordsL.any fun x => decide (s = x)
theorem tl_iff (a b : ByteArray) : a.toList = b.toList ↔ a = b := by
  rw [ByteArray.toList_eq, ByteArray.toList_eq]
  constructor
  · intro h
    have h2 := Array.toList_inj.1 h
    cases a; cases b
    simp at h2
    rw [h2]
  · intro h; rw [h]
theorem index_loop (l : List ByteArray) (s : ByteArray) (hl : l.length ≤ 1000000) : ∀ (m i : Nat), i + m = l.length → ∃ r, Ev (fun k => slices_Index_string_string.l0 k l s (l.length : Int) i) r ∧ (decide (r ≥ 0) = ((l.drop i).any fun x => decide (s = x))) := by
  intro m
  induction m with
  | zero =>
    intro i h
    refine ⟨-1, Ev.step (fun k => by rw [slices_Index_string_string.l0, if_neg (by omega)]) (Ev.now _), ?_⟩
    rw [List.drop_eq_nil_of_le (by omega)]; rfl
  | succ m ih =>
    intro i h
    have hi : i < l.length := by omega
    have hrd : rdOf ByteArray.empty l (i : Int) = l[i] := by
      unfold rdOf
      rw [Int.toNat_natCast, List.getD_eq_getElem?_getD, List.getElem?_eq_getElem hi]; rfl
    rw [List.drop_eq_getElem_cons hi, List.any_cons]
    by_cases e : s = l[i]
    · refine ⟨i, Ev.step (fun k => by rw [slices_Index_string_string.l0, if_pos (by omega), if_pos (by omega), if_pos (by omega), hrd, if_pos ((tl_iff _ _).2 e)]) (Ev.now _), ?_⟩
      rw [decide_eq_true (show (i : Int) ≥ 0 by omega), decide_eq_true e, Bool.true_or]
    · obtain ⟨r, h1, h2⟩ := ih (i + 1) (by omega)
      refine ⟨r, Ev.step (fun k => by rw [slices_Index_string_string.l0, if_pos (by omega), if_pos (by omega), if_pos (by omega), hrd, if_neg (fun h => e ((tl_iff _ _).1 h)), w64 hl hi]) h1, ?_⟩
      rw [h2, decide_eq_false e, Bool.false_or]
theorem ev_name (s : ByteArray) (hs : s.size ≤ 1000000) : Ev (fun k => fact_Name.f k s) (nameP s) := by
  unfold fact_Name.f nameP
  refine Ev.bind (⟨s.size + 40, fun k hk => valP_eq 2 0 s hs k hk⟩ : Ev (fun k => val_Check.f k 2 0 s) (valP 2 0 s)) ?_
  by_cases h : valP 2 0 s = 0
  · simp only [if_pos h]
    rw [show (valP 2 0 s == 0) = true by rw [h]; rfl, Bool.true_and]
    unfold fact_word.f slices_Contains_string_string.f slices_Index_string_string.f
    obtain ⟨r, h1, h2⟩ := index_loop wordsL s (by decide) wordsL.length 0 (by omega)
    rw [List.drop_zero] at h2
    rw [← h2]
    refine Ev.bind (a := decide (r ≥ 0)) ?_ (Ev.now _)
    refine Ev.bind (a := decide (r ≥ 0)) ?_ (Ev.now _)
    exact Ev.bind h1 (Ev.now _)
  · simp only [if_neg h]
    rw [beq_eq_false_iff_ne.2 h, Bool.false_and]
    exact Ev.now _
theorem name_calls (s : ByteArray) (hs : s.size ≤ 1000000) (w : World) : Calls Try.prog 101 #[.string s] w fun e w' => e = .returned (.bool (nameP s)) ∧ Go.RowKit.Below w.heap.size w w' := by
  obtain ⟨k, hk⟩ := (ev_name s hs).rounds
  exact fact_Name.calls k s _ w hk
end Go.Proofs.Ytghommaokdhjmaa.FactC
namespace Go.Proofs.Ytghommaokdhjmaa.P
open Go.Shelf Go.RowKit Go.Lib Go.Proofs.YtghommaokdhjmaaW.PrintWords Go.Proofs.YtghommaokdhjmaaW.PrintLast Go.Proofs.Ytghommaokdhjmaa.Gate Go.Proofs.Ytghommaokdhjmaa.PSpec Go.Proofs.Ytghommaokdhjmaa.Cont Go.Proofs.Ytghommaokdhjmaa.FactC
/-- fact.Check's answer. -/
def factP (s : ByteArray) (l : List S24) : Int := if nameP s = true ∧ l.length ≤ 5 ∧ l.any wrongV = false then 0 else 1
def fact_Check.f (a0_0 : ByteArray) (l0_1 : List (S24)) : Option (Int) := if a0_0.size ≤ 1000000 ∧ fitV l0_1 = true then some (factP a0_0 l0_1) else none
set_option maxHeartbeats 4000000 in
set_option maxRecDepth 1000000 in
theorem fact_Check.calls (a0_0 : ByteArray) (A0_1 : Option Addr) (c0_1 : Nat) (l0_1 : List (S24)) (r : Int) (w : World) (hr0_1 : Kd.C k24 w A0_1 l0_1.length l0_1) (hc0_1 : l0_1.length ≤ c0_1) (h : fact_Check.f a0_0 l0_1 = some r) :
    Calls Try.prog 83 #[.agg #[.string a0_0, .slice A0_1 l0_1.length c0_1]] w fun e w' => e = .returned (.int .i64 r) ∧ Go.RowKit.Below w.heap.size w w' := by
  have hfit : a0_0.size ≤ 1000000 ∧ fitV l0_1 = true := by
    unfold fact_Check.f at h
    by_cases hc : a0_0.size ≤ 1000000 ∧ fitV l0_1 = true
    · exact hc
    · rw [if_neg hc] at h; cases h
  obtain rfl : factP a0_0 l0_1 = r := by
    unfold fact_Check.f at h
    rw [if_pos hfit] at h
    exact Option.some.inj h
  clear h
  have hu := Try.underlying53
  have hname := fun W => name_calls a0_0 hfit.1 W
  have HR := Aside0.mk hr0_1
  have HF := Aside0.mk hfit
  have hcon : ∀ W, Go.RowKit.Below w.heap.size w W → Calls Try.prog 105 #[.slice A0_1 l0_1.length c0_1, .func (.func 106) #[] #[]] W fun e w' => e = .returned (.bool (l0_1.any wrongV)) ∧ Go.RowKit.Below W.heap.size W w' := fun W hW => containsV A0_1 c0_1 l0_1 W (Kd.C_below HR.out hW) HF.out.2
  clear hr0_1 hc0_1 hfit
  unfold factP
  have HCo : Aside0 (∀ W, Go.RowKit.Below w.heap.size w W → Calls Try.prog 105 #[.slice A0_1 l0_1.length c0_1, .func (.func 106) #[] #[]] W fun e w' => e = .returned (.bool (l0_1.any wrongV)) ∧ Go.RowKit.Below W.heap.size W w') := Aside0.mk hcon
  clear hcon
  generalize l0_1.any wrongV = q at HCo ⊢
  generalize nameP a0_0 = m at hname ⊢
  generalize l0_1.length = n at HCo ⊢
  have eg : ∀ args w, (callFunc 101 args).run Try.prog w = .ok (.enter 101 args) w := enters_of Try.func101 (by kernel_rfl) rfl
  have eg2 : ∀ args w, (callFunc 105 args).run Try.prog w = .ok (.enter 105 args) w := enters_of Try.func105 (by kernel_rfl) rfl
  have hB0 : Aside0 (Go.RowKit.Below w.heap.size w (w.alloc (.cells #[.string a0_0, .slice A0_1 n c0_1] 53))) := Aside0.mk ((Go.RowKit.Below.refl _ w).alloc (Nat.le_refl _) _)
  cases m with
  | false =>
    rw [if_neg (by simp)]
    go_enter Try.func83, Try.ntmps83
    go_wp2_with (go_at_fn 101; with_reducible refine (hname _).mono ?_; rintro e w1 ⟨rfl, hb⟩)
    go_ret
    exact ⟨rfl, hB0.out.trans (hb.mono (by simp))⟩
  | true =>
    by_cases h5 : n ≤ 5
    · have h5b : ¬ (5 < (n : Int)) := by omega
      cases q with
      | false =>
        rw [if_pos ⟨rfl, h5, rfl⟩]
        go_enter Try.func83, Try.ntmps83
        go_wp2_with (first | (go_at_fn 101; with_reducible refine (hname _).mono ?_; rintro e w1 ⟨rfl, hb⟩; have hc1 := (hb.cell (p := ⟨w.heap.size, 1, none⟩) (by simp)).trans (show (w.alloc (.cells #[.string a0_0, .slice A0_1 n c0_1] 53)).cell? ⟨w.heap.size, 1, none⟩ = some (.slice A0_1 n c0_1) by simp)) | (go_at_fn 105; with_reducible refine (HCo.out _ (hB0.out.trans (hb.mono (by simp)))).mono ?_; rintro e w2 ⟨rfl, hb2⟩))
        go_ret
        exact ⟨rfl, (hB0.out.trans (hb.mono (by simp))).trans (hb2.mono (hB0.out.trans (hb.mono (by simp))).size)⟩
      | true =>
        rw [if_neg (by simp)]
        go_enter Try.func83, Try.ntmps83
        go_wp2_with (first | (go_at_fn 101; with_reducible refine (hname _).mono ?_; rintro e w1 ⟨rfl, hb⟩; have hc1 := (hb.cell (p := ⟨w.heap.size, 1, none⟩) (by simp)).trans (show (w.alloc (.cells #[.string a0_0, .slice A0_1 n c0_1] 53)).cell? ⟨w.heap.size, 1, none⟩ = some (.slice A0_1 n c0_1) by simp)) | (go_at_fn 105; with_reducible refine (HCo.out _ (hB0.out.trans (hb.mono (by simp)))).mono ?_; rintro e w2 ⟨rfl, hb2⟩))
        go_ret
        exact ⟨rfl, (hB0.out.trans (hb.mono (by simp))).trans (hb2.mono (hB0.out.trans (hb.mono (by simp))).size)⟩
    · have h5b : 5 < (n : Int) := by omega
      rw [if_neg (fun h => h5 h.2.1)]
      go_enter Try.func83, Try.ntmps83
      go_wp2_with (go_at_fn 101; with_reducible refine (hname _).mono ?_; rintro e w1 ⟨rfl, hb⟩; have hc1 := (hb.cell (p := ⟨w.heap.size, 1, none⟩) (by simp)).trans (show (w.alloc (.cells #[.string a0_0, .slice A0_1 n c0_1] 53)).cell? ⟨w.heap.size, 1, none⟩ = some (.slice A0_1 n c0_1) by simp))
      go_ret
      exact ⟨rfl, hB0.out.trans (hb.mono (by simp))⟩
end Go.Proofs.Ytghommaokdhjmaa.P
/- match.Check: its walk and what it answers as a plain function; texts no longer than a million bytes. -/
set_option linter.unusedVariables false
set_option linter.unusedSimpArgs false
namespace Go.Proofs.Ytghommaokdhjmaa.FactC
open Go.Shelf Go.RowKit Go.Lib Go.Proofs.YtghommaokdhjmaaW.PrintWords Go.Proofs.YtghommaokdhjmaaW.PrintLast Go.Proofs.Ytghommaokdhjmaa.Gate Go.Proofs.Ytghommaokdhjmaa.P Go.Proofs.Ytghommaokdhjmaa.PSpec Go.Proofs.Ytghommaokdhjmaa.Cont
/-- Is a term right? -/
def termP (x : S77) : Bool := if x.f0.toList = ([] : List UInt8) then valP x.f1.f0 x.f1.f1 x.f1.f2 == 0 else (varP x.f0 && (x.f1.f0 == 0 && (x.f1.f1 == 0 && (x.f1.f2.toList == ([] : List UInt8)))))
def wrongT (x : S77) : Bool := !termP x
def fitT (l : List S77) : Bool := l.all fun x => decide (x.f0.size ≤ 1000000) && decide (x.f1.f2.size ≤ 1000000)
theorem fitT_mem {l : List S77} : fitT l = true ↔ ∀ x ∈ l, x.f0.size ≤ 1000000 ∧ x.f1.f2.size ≤ 1000000 := by
  unfold fitT
  rw [List.all_eq_true]
  simp only [Bool.and_eq_true, decide_eq_true_eq]
theorem term_eq (x : S77) (hx : x.f1.f2.size ≤ 1000000) : match_Term.f 1000100 x.f0 x.f1.f0 x.f1.f1 x.f1.f2 = some (termP x) := by
  unfold match_Term.f termP
  rw [valP_eq _ _ _ hx 1000100 (by omega), varP_eq _ 1000100 (by omega)]
  simp only [Option.bind_some]
  split
  · rfl
  · cases varP x.f0 <;> rfl
set_option maxHeartbeats 4000000 in
set_option maxRecDepth 1000000 in
theorem closT (x : S77) (hx : x.f1.f2.size ≤ 1000000) (W : World) : Calls Try.prog 103 #[.agg #[.string x.f0, .int .i64 x.f1.f0, .int .i64 x.f1.f1, .string x.f1.f2]] W fun e w' => e = .returned (.bool (wrongT x)) ∧ Go.RowKit.Below W.heap.size W w' := by
  have hu := Try.underlying77
  have hcon := fun W' => match_Term.calls 1000100 x.f0 x.f1.f0 x.f1.f1 x.f1.f2 _ W' (term_eq x hx)
  unfold wrongT
  generalize termP x = r at hcon ⊢
  have eg : ∀ args w, (callFunc 104 args).run Try.prog w = .ok (.enter 104 args) w := enters_of Try.func104 (by kernel_rfl) rfl
  go_enter Try.func103, Try.ntmps103
  go_wp2_with (go_at_fn 104; with_reducible refine (hcon _).mono ?_; rintro e w' ⟨rfl, hb⟩)
  go_ret
  exact ⟨rfl, below_step (by repeat (first | (with_reducible first | exact Go.RowKit.Below.refl _ _ | apply below_alloc | apply pw_below_drewN | apply below_drew1) | exact Go.RowKit.Below.refl _ _)) hb⟩
theorem ansT (l : List S77) (hf : fitT l = true) (w : World) : Answers Try.prog 103 #[] k77 l wrongT w := fun W x cs hW hx hl hK => by
  obtain rfl := k77_open hK
  exact (closT x (fitT_mem.1 hf x hx).2 W).mono fun e w' ⟨he, hb⟩ => ⟨he, hW.trans (hb.mono hW.size)⟩
theorem aggT : ∀ w, (isAgg 77).run Try.prog w = .ok true w := fun w => by kernel_rfl
theorem sizeT : ∀ w, (Go.sizeOf 77).run Try.prog w = .ok 4 w := fun w => by kernel_rfl
theorem containsT (A : Option Addr) (c : Nat) (l : List S77) (w : World) (hr : Kd.C k77 w A l.length l) (hf : fitT l = true) :
    Calls Try.prog 102 #[.slice A l.length c, .func (.func 103) #[] #[]] w fun e w' => e = .returned (.bool (l.any wrongT)) ∧ Go.RowKit.Below w.heap.size w w' :=
  contains laysT k77 4 rfl aggT sizeT wrongT 103 #[] (enters_of Try.func103 (by kernel_rfl) rfl) A l.length c l w rfl hr (ansT l hf w)
end Go.Proofs.Ytghommaokdhjmaa.FactC
namespace Go.Proofs.Ytghommaokdhjmaa.P
open Go.Shelf Go.RowKit Go.Lib Go.Proofs.YtghommaokdhjmaaW.PrintWords Go.Proofs.YtghommaokdhjmaaW.PrintLast Go.Proofs.Ytghommaokdhjmaa.Gate Go.Proofs.Ytghommaokdhjmaa.PSpec Go.Proofs.Ytghommaokdhjmaa.Cont Go.Proofs.Ytghommaokdhjmaa.FactC
/-- match.Check's answer. -/
def matP (s : ByteArray) (l : List S77) : Int := if nameP s = true ∧ l.length ≤ 5 ∧ l.any wrongT = false then 0 else 1
def match_Check.f (a0_0 : ByteArray) (l0_1 : List (S77)) : Option (Int) := if a0_0.size ≤ 1000000 ∧ fitT l0_1 = true then some (matP a0_0 l0_1) else none
set_option maxHeartbeats 4000000 in
set_option maxRecDepth 1000000 in
theorem match_Check.calls (a0_0 : ByteArray) (A0_1 : Option Addr) (c0_1 : Nat) (l0_1 : List (S77)) (r : Int) (w : World) (hr0_1 : Kd.C k77 w A0_1 l0_1.length l0_1) (hc0_1 : l0_1.length ≤ c0_1) (h : match_Check.f a0_0 l0_1 = some r) :
    Calls Try.prog 82 #[.agg #[.string a0_0, .slice A0_1 l0_1.length c0_1]] w fun e w' => e = .returned (.int .i64 r) ∧ Go.RowKit.Below w.heap.size w w' := by
  have hfit : a0_0.size ≤ 1000000 ∧ fitT l0_1 = true := by
    unfold match_Check.f at h
    by_cases hc : a0_0.size ≤ 1000000 ∧ fitT l0_1 = true
    · exact hc
    · rw [if_neg hc] at h; cases h
  obtain rfl : matP a0_0 l0_1 = r := by
    unfold match_Check.f at h
    rw [if_pos hfit] at h
    exact Option.some.inj h
  clear h
  have hu := Try.underlying69
  have hname := fun W => name_calls a0_0 hfit.1 W
  have HR := Aside0.mk hr0_1
  have HF := Aside0.mk hfit
  have hcon : ∀ W, Go.RowKit.Below w.heap.size w W → Calls Try.prog 102 #[.slice A0_1 l0_1.length c0_1, .func (.func 103) #[] #[]] W fun e w' => e = .returned (.bool (l0_1.any wrongT)) ∧ Go.RowKit.Below W.heap.size W w' := fun W hW => containsT A0_1 c0_1 l0_1 W (Kd.C_below HR.out hW) HF.out.2
  clear hr0_1 hc0_1 hfit
  unfold matP
  have HCo : Aside0 (∀ W, Go.RowKit.Below w.heap.size w W → Calls Try.prog 102 #[.slice A0_1 l0_1.length c0_1, .func (.func 103) #[] #[]] W fun e w' => e = .returned (.bool (l0_1.any wrongT)) ∧ Go.RowKit.Below W.heap.size W w') := Aside0.mk hcon
  clear hcon
  generalize l0_1.any wrongT = q at HCo ⊢
  generalize nameP a0_0 = m at hname ⊢
  generalize l0_1.length = n at HCo ⊢
  have eg : ∀ args w, (callFunc 101 args).run Try.prog w = .ok (.enter 101 args) w := enters_of Try.func101 (by kernel_rfl) rfl
  have eg2 : ∀ args w, (callFunc 102 args).run Try.prog w = .ok (.enter 102 args) w := enters_of Try.func102 (by kernel_rfl) rfl
  have hB0 : Aside0 (Go.RowKit.Below w.heap.size w (w.alloc (.cells #[.string a0_0, .slice A0_1 n c0_1] 69))) := Aside0.mk ((Go.RowKit.Below.refl _ w).alloc (Nat.le_refl _) _)
  cases m with
  | false =>
    rw [if_neg (by simp)]
    go_enter Try.func82, Try.ntmps82
    go_wp2_with (go_at_fn 101; with_reducible refine (hname _).mono ?_; rintro e w1 ⟨rfl, hb⟩)
    go_ret
    exact ⟨rfl, hB0.out.trans (hb.mono (by simp))⟩
  | true =>
    by_cases h5 : n ≤ 5
    · have h5b : ¬ (5 < (n : Int)) := by omega
      cases q with
      | false =>
        rw [if_pos ⟨rfl, h5, rfl⟩]
        go_enter Try.func82, Try.ntmps82
        go_wp2_with (first | (go_at_fn 101; with_reducible refine (hname _).mono ?_; rintro e w1 ⟨rfl, hb⟩; have hc1 := (hb.cell (p := ⟨w.heap.size, 1, none⟩) (by simp)).trans (show (w.alloc (.cells #[.string a0_0, .slice A0_1 n c0_1] 69)).cell? ⟨w.heap.size, 1, none⟩ = some (.slice A0_1 n c0_1) by simp)) | (go_at_fn 102; with_reducible refine (HCo.out _ (hB0.out.trans (hb.mono (by simp)))).mono ?_; rintro e w2 ⟨rfl, hb2⟩))
        go_ret
        exact ⟨rfl, (hB0.out.trans (hb.mono (by simp))).trans (hb2.mono (hB0.out.trans (hb.mono (by simp))).size)⟩
      | true =>
        rw [if_neg (by simp)]
        go_enter Try.func82, Try.ntmps82
        go_wp2_with (first | (go_at_fn 101; with_reducible refine (hname _).mono ?_; rintro e w1 ⟨rfl, hb⟩; have hc1 := (hb.cell (p := ⟨w.heap.size, 1, none⟩) (by simp)).trans (show (w.alloc (.cells #[.string a0_0, .slice A0_1 n c0_1] 69)).cell? ⟨w.heap.size, 1, none⟩ = some (.slice A0_1 n c0_1) by simp)) | (go_at_fn 102; with_reducible refine (HCo.out _ (hB0.out.trans (hb.mono (by simp)))).mono ?_; rintro e w2 ⟨rfl, hb2⟩))
        go_ret
        exact ⟨rfl, (hB0.out.trans (hb.mono (by simp))).trans (hb2.mono (hB0.out.trans (hb.mono (by simp))).size)⟩
    · have h5b : 5 < (n : Int) := by omega
      rw [if_neg (fun h => h5 h.2.1)]
      go_enter Try.func82, Try.ntmps82
      go_wp2_with (go_at_fn 101; with_reducible refine (hname _).mono ?_; rintro e w1 ⟨rfl, hb⟩; have hc1 := (hb.cell (p := ⟨w.heap.size, 1, none⟩) (by simp)).trans (show (w.alloc (.cells #[.string a0_0, .slice A0_1 n c0_1] 69)).cell? ⟨w.heap.size, 1, none⟩ = some (.slice A0_1 n c0_1) by simp))
      go_ret
      exact ⟨rfl, hB0.out.trans (hb.mono (by simp))⟩
end Go.Proofs.Ytghommaokdhjmaa.P
/- slices.Clone at []Bind: a row of the call's own with the same elements; no condition but the bound on a row's bytes. -/
set_option linter.unusedVariables false
set_option linter.unusedSimpArgs false
namespace Go.Proofs.Ytghommaokdhjmaa.P
open Go.RowKit Go.Proofs.YtghommaokdhjmaaW.PrintWords Go.Proofs.YtghommaokdhjmaaW.PrintLast Go.Proofs.Ytghommaokdhjmaa.Gate
/-- A row that was built empty. -/
theorem built_nil {α : Type} (d : Kd α) (e : Nat) (w : World) : Kd.R d e (w.alloc (.cells #[] e)) w.heap.size (fun _ => True) (.slice (some ⟨w.heap.size, 0, none⟩) 0 0) [] :=
  ⟨fun _ _ => trivial, [], ⟨by simp, .inr ⟨w.heap.size, 0, #[], rfl, Nat.le_refl _, heap_alloc_new _ _, Nat.le_refl _, Nat.zero_le _, by simp, by simp⟩⟩, Reps.none _ _⟩
def api_Bind_84.f (l0 : List (S39)) : Option ((List (S39))) := if ([] : List (S39)).length + l0.length < 2932031007402 then (some (([] : List (S39)) ++ l0)) else (none)
set_option maxHeartbeats 8000000 in
set_option maxRecDepth 100000 in
theorem api_Bind_84.calls (A0 : Option Addr) (c0 : Nat) (l0 : List (S39)) (r : List (S39)) (w : World) (hr0 : Kd.C k39 w A0 l0.length l0) (hc0 : l0.length ≤ c0) (h : api_Bind_84.f l0 = some r) :
    Calls Try.prog 84 #[.slice A0 l0.length c0] w fun e w' => ∃ v0_ : Value, e = .returned (v0_) ∧ Kd.R k39 39 w' w.heap.size (fun _ => True) v0_ r ∧ Below w.heap.size w w' := by
  have HR0 := Aside0.mk hr0
  have HC0 := Aside0.mk hc0
  have HB := Aside0.mk (Below.refl w.heap.size w)
  have H : (if ([] : List (S39)).length + l0.length < 2932031007402 then (some (([] : List (S39)) ++ l0)) else (none)) = some r := h
  clear h
  by_cases c2 : ([] : List (S39)).length + l0.length < 2932031007402
  · rw [if_pos c2] at H
    have LMc2 := Aside0.mk c2
    clear c2
    obtain ⟨y103, hy103⟩ : ∃ y_ : List (S39), y_ = (([] : List (S39)) ++ l0) := ⟨_, rfl⟩
    replace H : (some y103) = some r := by rw [hy103]; exact H
    have Ny103 := Aside0.mk hy103
    obtain rfl := Option.some.inj H
    by_cases hA : A0 = none
    · subst hA
      obtain rfl : l0 = [] := by
        rcases l0 with _ | ⟨x, l⟩
        · rfl
        · obtain ⟨_, h, _⟩ := hr0.2.2 (by simp); cases h
      have e0 : y103 = [] := Ny103.out
      clear hr0 hc0 hy103
      subst e0
      have hq : ∀ W, Sem.run Try.prog (binOp .eql 22 (.slice none 0 c0) (.slice none 0 0)) W = .ok (.bool true) W := fun W => Lib.run_eql_slice_nil W 22 39 none _ c0 0 0 Try.underlying22
      go_enter Try.func84, Try.ntmps84
      go_wp2_with fail
      go_ret
      exact ⟨_, rfl, Kd.R_nil _ _ _ _ (fun _ => True), HB.out⟩
    · have hN : A0.isNone = false := by cases A0 with
        | none => exact absurd rfl hA
        | some _ => rfl
      clear hA
      clear hr0 hc0 hy103
      have hq : ∀ W, Sem.run Try.prog (binOp .eql 22 (.slice A0 l0.length c0) (.slice none 0 0)) W = .ok (.bool false) W := fun W => by rw [Lib.run_eql_slice_nil W 22 39 A0 _ c0 0 0 Try.underlying22, hN]
      clear hN
      go_enter Try.func84, Try.ntmps84
      go_wp2_with (first | ((with_reducible refine gate_builtin (b := .append) (xs := #[.tmp 5, .tmp 6]) rfl ?_); at_builtin; refine Kd.R_append_rows k39 (w0 := w) w.heap.size rfl (.tmp 5) (.tmp 6) 22 39 (.agg #[(.string ⟨#[]⟩), (.int .i64 0), (.int .i64 0), (.string ⟨#[]⟩)]) 48 rfl Try.underlying22 info39 rfl (by decide) (by omega) (.slice (some ⟨w.heap.size, 0, none⟩) 0 0) ([] : List (S39)) l0 _ _ _ (fun _ => True) (fun _ => False) rfl rfl ?aO ?aR (fun _ _ h => h) (fun _ h => h.elim) ?aF ?aB ?aS ?aL ?_; (case aR => exact Kd.C_alloc HR0.out _); (case aB => exact (by repeat (first | (with_reducible first | exact HB.out | apply below_alloc | apply pw_below_drewN | apply below_drew1) | exact HB.out))); (case aF => exact (fun _ _ => trivial)); (case aO => exact built_nil k39 39 w); (case aS => exact (below_size (by repeat (first | (with_reducible first | exact HB.out | apply below_alloc | apply pw_below_drewN | apply below_drew1) | exact HB.out)))); (case aL => have := LMc2.out; omega); intro v104 w3 ho hb hg hat; rw [← Ny103.out] at ho; have n0_ := Aside0.mk (hb); have n1_ := Aside0.mk (ho); clear HB; have HB := n0_; have HO105 := n1_; clear n0_ n1_; clear ho hb hg hat))
      go_ret
      exact ⟨_, by first | rfl | (simp [errW_none, errW_some] <;> rfl) | (simp [*, errW_none, errW_some] <;> rfl), by (with_reducible repeat (first | apply Kd.R_alloc | apply Kd.R_drewN | apply Kd.R_drew)); exact HO105.out, by repeat (first | (with_reducible first | exact HB.out | apply below_alloc | apply pw_below_drewN | apply below_drew1) | exact HB.out)⟩
  · rw [if_neg c2] at H
    exact absurd H (by simp)
end Go.Proofs.Ytghommaokdhjmaa.P
/- match.One: its walk and what it answers as a plain function; texts no longer than a million bytes. -/
set_option linter.unusedVariables false
set_option linter.unusedSimpArgs false
namespace Go.Proofs.Ytghommaokdhjmaa.SpecM
open Go.Shelf Go.RowKit Go.Lib Go.Sort Go.Proofs.YtghommaokdhjmaaW.PrintWords Go.Proofs.YtghommaokdhjmaaW.PrintLast Go.Proofs.Ytghommaokdhjmaa.Gate Go.Proofs.Ytghommaokdhjmaa.P Go.Proofs.Ytghommaokdhjmaa.Str Go.Proofs.Ytghommaokdhjmaa.PSpec Go.Proofs.Ytghommaokdhjmaa.BothB Go.Proofs.Ytghommaokdhjmaa.FactC
open Go.Proofs.Ytghommaokdhjmaa.SpecB hiding tl_iff
theorem rdT_get {l : List S77} {i : Nat} (hi : i < l.length) : rd_T77 l i = l[i] := by
  unfold rd_T77
  rw [Int.toNat_natCast, List.getD_eq_getElem?_getD, List.getElem?_eq_getElem hi]; rfl
theorem rdV_get {l : List S24} {i : Nat} (hi : i < l.length) : rd_T24 l i = l[i] := by
  unfold rd_T24
  rw [Int.toNat_natCast, List.getD_eq_getElem?_getD, List.getElem?_eq_getElem hi]; rfl
theorem factP_len {s : ByteArray} {l : List S24} (h : factP s l = 0) : l.length ≤ 5 := by
  unfold factP at h
  by_cases hc : nameP s = true ∧ l.length ≤ 5 ∧ l.any wrongV = false
  · exact hc.2.1
  · rw [if_neg hc] at h; cases h
theorem bcell {W w1 : World} (hb : Go.RowKit.Below W.heap.size W w1) : (∀ b o, b < W.heap.size → w1.cell? ⟨b, o, none⟩ = W.cell? ⟨b, o, none⟩) ∧ (∀ b o, b < W.heap.size → w1.frozen? ⟨b, o, none⟩ = W.frozen? ⟨b, o, none⟩) :=
  ⟨fun b o h => hb.cell (p := ⟨b, o, none⟩) h, fun b o h => hb.frozen (p := ⟨b, o, none⟩) h⟩
theorem put_calls {l : List S39} (fl : fitB l = true) (n : ByteArray) (v : S24) (h1 : n.size ≤ 1000000) (h2 : v.f2.size ≤ 1000000) (A : Option Addr) (c : Nat) (W : World) (hr : Kd.C k39 W A l.length l) (hc : l.length ≤ c) :
    Calls Try.prog 19 #[.slice A l.length c, .string n, .agg #[.int .i64 v.f0, .int .i64 v.f1, .string v.f2]] W fun e w' => ∃ x : Value, e = .returned (.tuple #[x, .bool (putP l ⟨n, v⟩).2]) ∧ Kd.R k39 39 w' W.heap.size (fun _ => True) x (putP l ⟨n, v⟩).1 ∧ Go.RowKit.Below W.heap.size W w' := by
  obtain ⟨k, hk⟩ := (ev_put fl n v.f0 v.f1 v.f2 h1 h2).rounds
  exact subst_Put.calls k A c l n v.f0 v.f1 v.f2 _ _ W hr hc hk
/-- Two boxes of two cells each, laid one behind the other at w's end, in a later world. -/
def Two (w : World) (x0 x1 y0 y1 : Value) (W : World) : Prop :=
  Go.RowKit.Below w.heap.size w W ∧ w.heap.size + 2 ≤ W.heap.size ∧ W.cell? ⟨w.heap.size, 0, none⟩ = some x0 ∧ W.cell? ⟨w.heap.size, 1, none⟩ = some x1 ∧ W.cell? ⟨w.heap.size + 1, 0, none⟩ = some y0 ∧ W.cell? ⟨w.heap.size + 1, 1, none⟩ = some y1
theorem Two.below {w : World} {x0 x1 y0 y1 : Value} {W : World} (h : Two w x0 x1 y0 y1 W) : Go.RowKit.Below w.heap.size w W := h.1
theorem Two.start (w : World) (x0 x1 y0 y1 : Value) (s t : TypeId) : Two w x0 x1 y0 y1 ((w.alloc (.cells #[x0, x1] s)).alloc (.cells #[y0, y1] t)) :=
  ⟨((Go.RowKit.Below.refl _ w).alloc (Nat.le_refl _) _).alloc (by simp) _, by simp, by simp, by simp, by simp, by simp⟩
theorem Two.step {w : World} {x0 x1 y0 y1 : Value} {W W' : World} (h : Two w x0 x1 y0 y1 W) (hb : Go.RowKit.Below W.heap.size W W') : Two w x0 x1 y0 y1 W' := by
  obtain ⟨h1, h2, h3, h4, h5, h6⟩ := h
  have hs := hb.size
  exact ⟨h1.trans (hb.mono h1.size), by omega, (hb.cell (p := ⟨w.heap.size, 0, none⟩) (by show w.heap.size + 0 < _ ; omega)).trans h3, (hb.cell (p := ⟨w.heap.size, 1, none⟩) (by show w.heap.size + 0 < _ ; omega)).trans h4, (hb.cell (p := ⟨w.heap.size + 1, 0, none⟩) (by show w.heap.size + 1 < _ ; omega)).trans h5, (hb.cell (p := ⟨w.heap.size + 1, 1, none⟩) (by show w.heap.size + 1 < _ ; omega)).trans h6⟩
/-- Is a term a value? -/
def con (t : S77) : Prop := t.f0.toList = ([] : List UInt8)
instance (t : S77) : Decidable (con t) := inferInstanceAs (Decidable (t.f0.toList = []))
/-- A term's variable with a value. -/
def bnd (t : S77) (v : S24) : S39 := ⟨t.f0, v⟩
def neV (x y : S24) : Bool := !(x.f0 == y.f0 && (x.f1 == y.f1 && (x.f2.toList == y.f2.toList)))
theorem ne24 (x y : S24) (W : World) : Sem.run Try.prog (binOp .neq 24 (.agg #[.int .i64 x.f0, .int .i64 x.f1, .string x.f2]) (.agg #[.int .i64 y.f0, .int .i64 y.f1, .string y.f2])) W = .ok (.bool (neV x y)) W := by
  have h := eqA24 (Op.maxDepth - 2) W x.f0 y.f0 x.f1 y.f1 x.f2 y.f2
  change Sem.run Try.prog (Op.equal 24 (.agg #[.int .i64 x.f0, .int .i64 x.f1, .string x.f2]) (.agg #[.int .i64 y.f0, .int .i64 y.f1, .string y.f2])) W = _ at h
  simp [binOp, h, neV]
theorem box4 (W : World) (a b c d : Value) (t : TypeId) : (W.alloc (.cells #[a, b, c, d] t)).cell? ⟨W.heap.size, 0, none⟩ = some a ∧ (W.alloc (.cells #[a, b, c, d] t)).cell? ⟨W.heap.size, 1, none⟩ = some b ∧ (W.alloc (.cells #[a, b, c, d] t)).cell? ⟨W.heap.size, 2, none⟩ = some c ∧ (W.alloc (.cells #[a, b, c, d] t)).cell? ⟨W.heap.size, 3, none⟩ = some d := by
  refine ⟨?_, ?_, ?_, ?_⟩ <;> simp
theorem put_fit {l : List S39} {x : S39} (fl : fitB l = true) (h1 : x.f0.size ≤ 1000000) (h2 : x.f1.f2.size ≤ 1000000) : fitB (putP l x).1 = true := by
  rcases put_cases l x with ⟨m, e, h⟩ | ⟨e, _⟩
  · rw [e]; exact with_fit h fl h1 h2
  · rw [e]; rfl
/-! ### Matching -/
def oneL : List S39 → List S77 → List S24 → List S39 × Bool
  | l, [], _ => (l, true)
  | _, _ :: _, [] => ([], false)
  | l, t :: ts, v :: vs => if con t then (if neV t.f1 v = true then ([], false) else oneL l ts vs) else if (putP l (bnd t v)).2 = true then oneL (putP l (bnd t v)).1 ts vs else ([], false)
/-- match.One's answer. -/
def oneP (a : ByteArray) (ts : List S77) (b : ByteArray) (vs : List S24) (l : List S39) : List S39 × Bool :=
  if matP a ts = 0 ∧ factP b vs = 0 ∧ chkP l = 0 ∧ a = b ∧ ts.length = vs.length then oneL l ts vs else ([], false)
end Go.Proofs.Ytghommaokdhjmaa.SpecM
namespace Go.Proofs.Ytghommaokdhjmaa.P
open Go.Shelf Go.RowKit Go.Lib Go.Sort Go.Proofs.YtghommaokdhjmaaW.PrintWords Go.Proofs.YtghommaokdhjmaaW.PrintLast Go.Proofs.Ytghommaokdhjmaa.Gate Go.Proofs.Ytghommaokdhjmaa.Str Go.Proofs.Ytghommaokdhjmaa.PSpec Go.Proofs.Ytghommaokdhjmaa.BothB Go.Proofs.Ytghommaokdhjmaa.FactC Go.Proofs.Ytghommaokdhjmaa.SpecM
open Go.Proofs.Ytghommaokdhjmaa.SpecB hiding tl_iff
def match_One.f (a0_0 : ByteArray) (l0_1 : List (S77)) (a1_0 : ByteArray) (l1_1 : List (S24)) (l2 : List (S39)) : Option ((List (S39)) × Bool) := if (a0_0.size ≤ 1000000 ∧ fitT l0_1 = true) ∧ (a1_0.size ≤ 1000000 ∧ fitV l1_1 = true) ∧ fitB l2 = true then some (oneP a0_0 l0_1 a1_0 l1_1 l2) else none
set_option maxHeartbeats 4000000 in
set_option maxRecDepth 1000000 in
theorem match_One.calls (a0_0 : ByteArray) (A0_1 : Option Addr) (c0_1 : Nat) (l0_1 : List (S77)) (a1_0 : ByteArray) (A1_1 : Option Addr) (c1_1 : Nat) (l1_1 : List (S24)) (A2 : Option Addr) (c2 : Nat) (l2 : List (S39)) (r1 : List (S39)) (r2 : Bool) (w : World) (hr0_1 : Kd.C k77 w A0_1 l0_1.length l0_1) (hc0_1 : l0_1.length ≤ c0_1) (hr1_1 : Kd.C k24 w A1_1 l1_1.length l1_1) (hc1_1 : l1_1.length ≤ c1_1) (hr2 : Kd.C k39 w A2 l2.length l2) (hc2 : l2.length ≤ c2) (h : match_One.f a0_0 l0_1 a1_0 l1_1 l2 = some (r1, r2)) :
    Calls Try.prog 50 #[.agg #[.string a0_0, .slice A0_1 l0_1.length c0_1], .agg #[.string a1_0, .slice A1_1 l1_1.length c1_1], .slice A2 l2.length c2] w fun e w' => ∃ v0_ : Value, e = .returned (.tuple #[v0_, .bool r2]) ∧ Kd.R k39 39 w' w.heap.size (fun _ => True) v0_ r1 ∧ Go.RowKit.Below w.heap.size w w' := by
  have hfit : (a0_0.size ≤ 1000000 ∧ fitT l0_1 = true) ∧ (a1_0.size ≤ 1000000 ∧ fitV l1_1 = true) ∧ fitB l2 = true := by
    unfold match_One.f at h
    by_cases hc : (a0_0.size ≤ 1000000 ∧ fitT l0_1 = true) ∧ (a1_0.size ≤ 1000000 ∧ fitV l1_1 = true) ∧ fitB l2 = true
    · exact hc
    · rw [if_neg hc] at h; cases h
  have hres : oneP a0_0 l0_1 a1_0 l1_1 l2 = (r1, r2) := by
    unfold match_One.f at h
    rw [if_pos hfit] at h
    exact Option.some.inj h
  clear h
  have hu69 := Try.underlying69
  have hu53 := Try.underlying53
  have hu77 := Try.underlying77
  have hu24 := Try.underlying24
  have HRes := Aside0.mk hres
  have HFit := Aside0.mk hfit
  have HR0 := Aside0.mk hr0_1
  have HR1 := Aside0.mk hr1_1
  have HR2 := Aside0.mk hr2
  have HC0 := Aside0.mk hc0_1
  have HC1 := Aside0.mk hc1_1
  have HC2 := Aside0.mk hc2
  have G82 : Aside0 (∀ W, Go.RowKit.Below w.heap.size w W → Calls Try.prog 82 #[.agg #[.string a0_0, .slice A0_1 l0_1.length c0_1]] W fun e w' => e = .returned (.int .i64 (matP a0_0 l0_1)) ∧ Go.RowKit.Below W.heap.size W w') := ⟨fun W hW => match_Check.calls a0_0 A0_1 c0_1 l0_1 _ W (Kd.C_below HR0.out hW) HC0.out (if_pos HFit.out.1)⟩
  have G83 : Aside0 (∀ W, Go.RowKit.Below w.heap.size w W → Calls Try.prog 83 #[.agg #[.string a1_0, .slice A1_1 l1_1.length c1_1]] W fun e w' => e = .returned (.int .i64 (factP a1_0 l1_1)) ∧ Go.RowKit.Below W.heap.size W w') := ⟨fun W hW => fact_Check.calls a1_0 A1_1 c1_1 l1_1 _ W (Kd.C_below HR1.out hW) HC1.out (if_pos HFit.out.2.1)⟩
  have G25 : Aside0 (∀ W, Go.RowKit.Below w.heap.size w W → Calls Try.prog 25 #[.slice A2 l2.length c2] W fun e w' => e = .returned (.int .i64 (chkP l2)) ∧ Go.RowKit.Below W.heap.size W w') := ⟨fun W hW => chk_calls A2 c2 l2 W (Kd.C_below HR2.out hW) HC2.out HFit.out.2.2⟩
  clear hfit hres hr0_1 hr1_1 hr2 hc0_1 hc1_1 hc2
  have T0 : Aside0 (Two w (.string a0_0) (.slice A0_1 l0_1.length c0_1) (.string a1_0) (.slice A1_1 l1_1.length c1_1) ((w.alloc (.cells #[.string a0_0, .slice A0_1 l0_1.length c0_1] 69)).alloc (.cells #[.string a1_0, .slice A1_1 l1_1.length c1_1] 53))) := Aside0.mk (Two.start w _ _ _ _ _ _)
  by_cases hm : matP a0_0 l0_1 = 0
  · by_cases hf : factP a1_0 l1_1 = 0
    · by_cases hk : chkP l2 = 0
      · by_cases hn : a0_0 = a1_0
        · by_cases hl : l0_1.length = l1_1.length
          · have hcl := HRes.out
            unfold oneP at hcl
            rw [if_pos ⟨hm, hf, hk, hn, hl⟩] at hcl
            have HA0 : Aside0 (oneL l2 (l0_1.drop 0) (l1_1.drop 0) = (r1, r2)) := Aside0.mk (by rw [List.drop_zero, List.drop_zero]; exact hcl)
            have hlen5 := (factP_len hf)
            have HL5 : Aside0 (l1_1.length ≤ 5) := Aside0.mk hlen5
            have HLe : Aside0 (l0_1.length = l1_1.length) := Aside0.mk hl
            have G84 : Aside0 (∀ W, Go.RowKit.Below w.heap.size w W → Calls Try.prog 84 #[.slice A2 l2.length c2] W fun e w' => ∃ v : Value, e = .returned v ∧ Kd.R k39 39 w' W.heap.size (fun _ => True) v l2 ∧ Go.RowKit.Below W.heap.size W w') := ⟨fun W hW => api_Bind_84.calls A2 c2 l2 l2 W (Kd.C_below HR2.out hW) HC2.out (by unfold api_Bind_84.f; rw [if_pos (by have := right_len hk; simp; omega), List.nil_append])⟩
            rw [hm] at G82
            rw [hf] at G83
            rw [hk] at G25
            have hn0 : (a0_0.toList == a1_0.toList) = true := by rw [hn]; exact beq_self_eq_true _
            have hn1 : (a0_0.toList != a1_0.toList) = false := by rw [hn]; exact bne_self_eq_false _
            have hl0 : ((l0_1.length : Int) == (l1_1.length : Int)) = true := by rw [hl]; exact beq_self_eq_true _
            have hl1 : ((l0_1.length : Int) != (l1_1.length : Int)) = false := by rw [hl]; exact bne_self_eq_false _
            have HFa0 : Aside0 (fitB l2 = true) := Aside0.mk HFit.out.2.2
            clear hn hl hm hf hk hcl HRes hlen5
            go_enter Try.func50, Try.ntmps50
            go_wp2_with (first | (go_at_call 82; (with_reducible refine (G82.out _ T0.out.below).mono ?_); rintro e w1 ⟨rfl, hb1⟩; have T1 := Aside0.mk (T0.out.step hb1); obtain ⟨_, _, k10, k11, k12, k13⟩ := T1.out; clear hb1) | (go_at_call 83; (with_reducible refine (G83.out _ T1.out.below).mono ?_); rintro e w2 ⟨rfl, hb2⟩; have T2 := Aside0.mk (T1.out.step hb2); obtain ⟨_, _, k20, k21, k22, k23⟩ := T2.out; clear hb2 k10 k11 k12 k13) | (go_at_call 25; (with_reducible refine (G25.out _ T2.out.below).mono ?_); rintro e w3 ⟨rfl, hb3⟩; have T3 := Aside0.mk (T2.out.step hb3); obtain ⟨_, _, k30, k31, k32, k33⟩ := T3.out; clear hb3 k20 k21 k22 k23) | (go_at_call 84; (with_reducible refine (G84.out _ T3.out.below).mono ?_); rintro e w4 ⟨v4, rfl, hR4, hb4⟩; have T4 := Aside0.mk (T3.out.step hb4); have R4 := Aside0.mk (Kd.R_lower hR4 T3.out.below.size); obtain ⟨_, _, k40, k41, k42, k43⟩ := T4.out; clear hb4 hR4 k30 k31 k32 k33))
            clear G82 G83 G25 G84 hn0 hn1 hl0 hl1 T0 T1 T2 T3
            go_loopg [8, 47] l0_1.length (fun gg s8 s47 wr => ∃ (i : Nat) (acc : List S39), s47 = .int .i64 i ∧ i ≤ l0_1.length ∧ l0_1.length - i ≤ gg ∧ Aside0 (oneL acc (l0_1.drop i) (l1_1.drop i) = (r1, r2)) ∧ Aside0 (Kd.R k39 39 wr w.heap.size (fun _ => True) s8 acc) ∧ Aside0 (fitB acc = true) ∧ Aside0 (Two w (.string a0_0) (.slice A0_1 l0_1.length c0_1) (.string a1_0) (.slice A1_1 l1_1.length c1_1) wr))
            case atStart => exact ⟨0, l2, rfl, Nat.zero_le _, by omega, HA0, R4, HFa0, T4⟩
            case round =>
              clear k40 k41 k42 k43 T4 R4 HA0 HFa0
              obtain ⟨i, acc, rfl, hi, hg, HA, HRa, HFa, T⟩ := hrel
              by_cases hlt : i < l0_1.length
              · have HLt := Aside0.mk hlt
                have hltz : (i : Int) < (l0_1.length : Int) := by omega
                have hltv : (i : Int) < (l1_1.length : Int) := by have := HLe.out; omega
                obtain ⟨ad, eA, x0, x1, x2, x3⟩ := at_T77 (Kd.C_below HR0.out T.out.below) (i : Int) (by omega) hltz
                obtain ⟨ad2, eB, y0, y1, y2⟩ := at_T24 (Kd.C_below HR1.out T.out.below) (i : Int) (by omega) hltv
                have hd0 : l0_1.drop i = rd_T77 l0_1 i :: l0_1.drop (i + 1) := by rw [rdT_get hlt]; exact List.drop_eq_getElem_cons hlt
                have hd1 : l1_1.drop i = rd_T24 l1_1 i :: l1_1.drop (i + 1) := by rw [rdV_get (by omega)]; exact List.drop_eq_getElem_cons (by omega)
                rw [hd0, hd1] at HA
                have HSz : Aside0 ((rd_T77 l0_1 i).f0.size ≤ 1000000 ∧ (rd_T24 l1_1 i).f2.size ≤ 1000000) := Aside0.mk ⟨by rw [rdT_get hlt]; exact (fitT_mem.1 HFit.out.1.2 _ (List.getElem_mem _)).1, by rw [rdV_get (by omega)]; exact fitV_mem.1 HFit.out.2.1.2 _ (List.getElem_mem _)⟩
                simp only [Int.toNat_natCast] at x0 x1 x2 x3 y0 y1 y2
                generalize rd_T77 l0_1 (i : Int) = t at HA HSz x0 x1 x2 x3
                generalize rd_T24 l1_1 (i : Int) = v at HA HSz y0 y1 y2
                clear hd0 hd1
                cases eA
                cases eB
                by_cases hc : t.f0.toList = ([] : List UInt8)
                · have hc0 : (t.f0.toList == ([] : List UInt8)) = true := by rw [hc]; rfl
                  obtain ⟨hB, hz, k0, k1, k2, k3⟩ := T.out
                  go_wp2
                  have hb2 : Go.RowKit.Below wr.heap.size wr (wr.alloc (.cells #[.string t.f0, .int .i64 t.f1.f0, .int .i64 t.f1.f1, .string t.f1.f2] 77)) := (Go.RowKit.Below.refl _ wr).alloc (Nat.le_refl _) _
                  obtain ⟨m0, m1, m2, m3⟩ := box4 wr (.string t.f0) (.int .i64 t.f1.f0) (.int .i64 t.f1.f1) (.string t.f1.f2) 77
                  have T5 := Aside0.mk (T.out.step hb2)
                  have R5 := Aside0.mk (Kd.R_below HRa.out hb2)
                  replace y0 := (hb2.cell (World.block_lt_of_cell? wr _ y0)).trans y0
                  replace y1 := (hb2.cell (World.block_lt_of_cell? wr _ y1)).trans y1
                  replace y2 := (hb2.cell (World.block_lt_of_cell? wr _ y2)).trans y2
                  clear hb2 x0 x1 x2 x3 k0 k1 k2 k3 hB hz T HRa
                  generalize wr.heap.size = gb at m0 m1 m2 m3 ⊢
                  generalize wr.alloc (.cells #[.string t.f0, .int .i64 t.f1.f0, .int .i64 t.f1.f1, .string t.f1.f2] 77) = wq at y0 y1 y2 m0 m1 m2 m3 T5 R5 ⊢
                  obtain ⟨_, hz, k0, k1, k2, k3⟩ := T5.out
                  have hne := ne24 t.f1 v
                  by_cases hv : neV t.f1 v = true
                  · rw [hv] at hne
                    obtain ⟨rfl, rfl⟩ : r1 = [] ∧ r2 = false := by
                      have := HA.out
                      rw [oneL, if_pos (show con t from hc), if_pos hv] at this
                      injection this with e1 e2
                      exact ⟨e1.symm, e2.symm⟩
                    clear HA hv
                    go_quiet (fail)
                    go_wp2
                    go_ret2
                    exact ⟨_, rfl, Kd.R_nil _ _ _ _ _, pw_below_drewN T5.out.below _⟩
                  · have hv' : neV t.f1 v = false := Bool.eq_false_iff.2 hv
                    rw [hv'] at hne
                    have HA2 : Aside0 (oneL acc (l0_1.drop (i + 1)) (l1_1.drop (i + 1)) = (r1, r2)) := by
                      have := HA.out
                      rw [oneL, if_pos (show con t from hc), if_neg hv] at this
                      exact Aside0.mk this
                    clear HA hv hv'
                    go_quiet (fail)
                    go_wp2
                    go_roundg (l0_1.length - (i + 1))
                    case measure => have h1_ := HLt.out; have h2_ := hg; omega
                    case rel => exact ⟨i + 1, acc, by rw [w64 (show l0_1.length ≤ 1000000 by have h1_ := HL5.out; have h2_ := HLe.out; omega) HLt.out], HLt.out, by have := HLt.out; omega, HA2, Aside0.mk (Kd.R_below R5.out (pw_below_drewN (Go.RowKit.Below.refl _ _) _)), HFa, Aside0.mk (T5.out.step (pw_below_drewN (Go.RowKit.Below.refl _ _) _))⟩
                · have hc0 : (t.f0.toList == ([] : List UInt8)) = false := beq_eq_false_iff_ne.2 hc
                  obtain ⟨hB, hz, k0, k1, k2, k3⟩ := T.out
                  go_wp2
                  have hb2 : Go.RowKit.Below wr.heap.size wr (wr.alloc (.cells #[.string t.f0, .int .i64 t.f1.f0, .int .i64 t.f1.f1, .string t.f1.f2] 77)) := (Go.RowKit.Below.refl _ wr).alloc (Nat.le_refl _) _
                  obtain ⟨m0, m1, m2, m3⟩ := box4 wr (.string t.f0) (.int .i64 t.f1.f0) (.int .i64 t.f1.f1) (.string t.f1.f2) 77
                  have T5 := Aside0.mk (T.out.step hb2)
                  have R5 := Aside0.mk (Kd.R_below HRa.out hb2)
                  replace y0 := (hb2.cell (World.block_lt_of_cell? wr _ y0)).trans y0
                  replace y1 := (hb2.cell (World.block_lt_of_cell? wr _ y1)).trans y1
                  replace y2 := (hb2.cell (World.block_lt_of_cell? wr _ y2)).trans y2
                  clear hb2 x0 x1 x2 x3 k0 k1 k2 k3 hB hz T HRa
                  generalize wr.heap.size = gb at m0 m1 m2 m3 ⊢
                  generalize wr.alloc (.cells #[.string t.f0, .int .i64 t.f1.f0, .int .i64 t.f1.f1, .string t.f1.f2] 77) = wq at y0 y1 y2 m0 m1 m2 m3 T5 R5 ⊢
                  obtain ⟨_, hz, k0, k1, k2, k3⟩ := T5.out
                  obtain ⟨A8, c8, rfl, hle8, hC8⟩ := Kd.R_reads R5.out
                  have hput := fun W (hW : Go.RowKit.Below wq.heap.size wq W) => put_calls HFa.out t.f0 v HSz.out.1 HSz.out.2 A8 c8 W (Kd.C_below hC8 hW) hle8
                  have HPut := Aside0.mk hput
                  clear hput hC8
                  by_cases hp : (putP acc ⟨t.f0, v⟩).2 = true
                  · have HA2 : Aside0 (oneL (putP acc ⟨t.f0, v⟩).1 (l0_1.drop (i + 1)) (l1_1.drop (i + 1)) = (r1, r2)) := by
                      have := HA.out
                      rw [oneL, if_neg (show ¬ con t from hc), if_pos (show (putP acc (bnd t v)).2 = true from hp)] at this
                      exact Aside0.mk this
                    have HF2 : Aside0 (fitB (putP acc ⟨t.f0, v⟩).1 = true) := Aside0.mk (put_fit HFa.out HSz.out.1 HSz.out.2)
                    rw [hp] at HPut
                    generalize (putP acc ⟨t.f0, v⟩).1 = acc2 at HPut HA2 HF2
                    clear HA hp hc HFa
                    have hd1 : Go.RowKit.Below wq.heap.size wq wq.drew := below_drew1 (Go.RowKit.Below.refl _ _)
                    go_region_held3 (fun w' => w'.cell? ⟨gb, 0, none⟩ = some (.string t.f0) ∧ w'.cell? ⟨w.heap.size + 1, 1, none⟩ = some (.slice (some ad2) l1_1.length c1_1) ∧ w'.cell? (ad2.add (i * 3)) = some (.int .i64 v.f0) ∧ w'.cell? ⟨(ad2.add (i * 3)).block, (ad2.add (i * 3)).off + 1, none⟩ = some (.int .i64 v.f1) ∧ w'.cell? ⟨(ad2.add (i * 3)).block, (ad2.add (i * 3)).off + 2, none⟩ = some (.string v.f2))
                      (first | go_keep | (refine ⟨?_, ?_, ?_, ?_, ?_⟩ <;> assumption))
                      (first | (go_at_call 19; (with_reducible refine (HPut.out _ hd1).mono ?_); rintro e w8 ⟨x8, rfl, hR8, hb8⟩; have hb9 := hd1.trans (hb8.mono hd1.size); have T8 := Aside0.mk (T5.out.step hb9); have R8 := Aside0.mk (Kd.R_lower hR8 (Nat.le_trans T5.out.below.size hd1.size)); have s0 := (hb9.cell (World.block_lt_of_cell? wq _ m0)).trans m0; have s1 := (hb9.cell (World.block_lt_of_cell? wq _ k3)).trans k3; have s2 := (hb9.cell (World.block_lt_of_cell? wq _ y0)).trans y0; have s3 := (hb9.cell (World.block_lt_of_cell? wq _ y1)).trans y1; have s4 := (hb9.cell (World.block_lt_of_cell? wq _ y2)).trans y2))
                    go_wp2
                    go_roundg (l0_1.length - (i + 1))
                    case measure => have h1_ := HLt.out; have h2_ := hg; omega
                    case rel => exact ⟨i + 1, acc2, by rw [w64 (show l0_1.length ≤ 1000000 by have h1_ := HL5.out; have h2_ := HLe.out; omega) HLt.out], HLt.out, by have := HLt.out; omega, HA2, R8, HF2, T8⟩
                  · have hp' : (putP acc ⟨t.f0, v⟩).2 = false := Bool.eq_false_iff.2 hp
                    obtain ⟨rfl, rfl⟩ : r1 = [] ∧ r2 = false := by
                      have := HA.out
                      rw [oneL, if_neg (show ¬ con t from hc), if_neg (show ¬ (putP acc (bnd t v)).2 = true from hp)] at this
                      injection this with e1 e2
                      exact ⟨e1.symm, e2.symm⟩
                    rw [hp'] at HPut
                    generalize (putP acc ⟨t.f0, v⟩).1 = acc2 at HPut
                    clear HA hp hp' hc HFa
                    have hd1 : Go.RowKit.Below wq.heap.size wq wq.drew := below_drew1 (Go.RowKit.Below.refl _ _)
                    go_region_held3 (fun w' => w'.cell? ⟨gb, 0, none⟩ = some (.string t.f0) ∧ w'.cell? ⟨w.heap.size + 1, 1, none⟩ = some (.slice (some ad2) l1_1.length c1_1) ∧ w'.cell? (ad2.add (i * 3)) = some (.int .i64 v.f0) ∧ w'.cell? ⟨(ad2.add (i * 3)).block, (ad2.add (i * 3)).off + 1, none⟩ = some (.int .i64 v.f1) ∧ w'.cell? ⟨(ad2.add (i * 3)).block, (ad2.add (i * 3)).off + 2, none⟩ = some (.string v.f2))
                      (first | go_keep | (refine ⟨?_, ?_, ?_, ?_, ?_⟩ <;> assumption))
                      (first | (go_at_call 19; (with_reducible refine (HPut.out _ hd1).mono ?_); rintro e w8 ⟨x8, rfl, hR8, hb8⟩; have hb9 := hd1.trans (hb8.mono hd1.size); have T8 := Aside0.mk (T5.out.step hb9); have R8 := Aside0.mk (Kd.R_lower hR8 (Nat.le_trans T5.out.below.size hd1.size)); have s0 := (hb9.cell (World.block_lt_of_cell? wq _ m0)).trans m0; have s1 := (hb9.cell (World.block_lt_of_cell? wq _ k3)).trans k3; have s2 := (hb9.cell (World.block_lt_of_cell? wq _ y0)).trans y0; have s3 := (hb9.cell (World.block_lt_of_cell? wq _ y1)).trans y1; have s4 := (hb9.cell (World.block_lt_of_cell? wq _ y2)).trans y2))
                    go_wp2
                    go_ret2
                    exact ⟨_, rfl, Kd.R_nil _ _ _ _ _, T8.out.below⟩
              · have hnl : ¬ (i : Int) < (l0_1.length : Int) := by omega
                have hd : oneL acc [] (l1_1.drop i) = (r1, r2) := by
                  have := HA.out
                  rwa [List.drop_eq_nil_of_le (by omega)] at this
                rw [oneL] at hd
                injection hd with e1 e2
                subst e1 e2
                clear HA
                go_wp2
                go_ret2
                exact ⟨_, rfl, HRa.out, T.out.below⟩
          · have hv : r1 = [] ∧ r2 = false := by
              have := HRes.out
              unfold oneP at this
              rw [if_neg (fun h => hl h.2.2.2.2)] at this
              injection this with x y
              exact ⟨x.symm, y.symm⟩
            obtain ⟨rfl, rfl⟩ := hv
            clear HRes
            rw [hm] at G82
            rw [hf] at G83
            rw [hk] at G25
            have hn0 : (a0_0.toList == a1_0.toList) = true := by rw [hn]; exact beq_self_eq_true _
            have hn1 : (a0_0.toList != a1_0.toList) = false := by rw [hn]; exact bne_self_eq_false _
            have hl0 : ((l0_1.length : Int) == (l1_1.length : Int)) = false := beq_eq_false_iff_ne.2 (by omega)
            have hl1 : ((l0_1.length : Int) != (l1_1.length : Int)) = true := bne_iff_ne.2 (by omega)
            clear hn hl hm hf hk
            go_enter Try.func50, Try.ntmps50
            go_wp2_with (first | (go_at_call 82; (with_reducible refine (G82.out _ T0.out.below).mono ?_); rintro e w1 ⟨rfl, hb1⟩; have T1 := Aside0.mk (T0.out.step hb1); obtain ⟨_, _, k10, k11, k12, k13⟩ := T1.out; clear hb1) | (go_at_call 83; (with_reducible refine (G83.out _ T1.out.below).mono ?_); rintro e w2 ⟨rfl, hb2⟩; have T2 := Aside0.mk (T1.out.step hb2); obtain ⟨_, _, k20, k21, k22, k23⟩ := T2.out; clear hb2 k10 k11 k12 k13) | (go_at_call 25; (with_reducible refine (G25.out _ T2.out.below).mono ?_); rintro e w3 ⟨rfl, hb3⟩; have T3 := Aside0.mk (T2.out.step hb3); obtain ⟨_, _, k30, k31, k32, k33⟩ := T3.out; clear hb3 k20 k21 k22 k23))
            go_ret2
            exact ⟨_, rfl, Kd.R_nil _ _ _ _ _, T3.out.below⟩
        · have hv : r1 = [] ∧ r2 = false := by
            have := HRes.out
            unfold oneP at this
            rw [if_neg (fun h => hn h.2.2.2.1)] at this
            injection this with x y
            exact ⟨x.symm, y.symm⟩
          obtain ⟨rfl, rfl⟩ := hv
          clear HRes
          rw [hm] at G82
          rw [hf] at G83
          rw [hk] at G25
          have hn0 : (a0_0.toList == a1_0.toList) = false := beq_eq_false_iff_ne.2 (fun h => hn ((tl_iff _ _).1 h))
          have hn1 : (a0_0.toList != a1_0.toList) = true := bne_iff_ne.2 (fun h => hn ((tl_iff _ _).1 h))
          clear hn hm hf hk
          go_enter Try.func50, Try.ntmps50
          go_wp2_with (first | (go_at_call 82; (with_reducible refine (G82.out _ T0.out.below).mono ?_); rintro e w1 ⟨rfl, hb1⟩; have T1 := Aside0.mk (T0.out.step hb1); obtain ⟨_, _, k10, k11, k12, k13⟩ := T1.out; clear hb1) | (go_at_call 83; (with_reducible refine (G83.out _ T1.out.below).mono ?_); rintro e w2 ⟨rfl, hb2⟩; have T2 := Aside0.mk (T1.out.step hb2); obtain ⟨_, _, k20, k21, k22, k23⟩ := T2.out; clear hb2 k10 k11 k12 k13) | (go_at_call 25; (with_reducible refine (G25.out _ T2.out.below).mono ?_); rintro e w3 ⟨rfl, hb3⟩; have T3 := Aside0.mk (T2.out.step hb3); obtain ⟨_, _, k30, k31, k32, k33⟩ := T3.out; clear hb3 k20 k21 k22 k23))
          go_ret2
          exact ⟨_, rfl, Kd.R_nil _ _ _ _ _, T3.out.below⟩
      · have hv : r1 = [] ∧ r2 = false := by
          have := HRes.out
          unfold oneP at this
          rw [if_neg (fun h => hk h.2.2.1)] at this
          injection this with x y
          exact ⟨x.symm, y.symm⟩
        obtain ⟨rfl, rfl⟩ := hv
        clear HRes
        have hmb : (chkP l2 != 0) = true := by simpa using hk
        rw [hm] at G82
        rw [hf] at G83
        generalize chkP l2 = q at G25 hk hmb
        clear hm hf
        go_enter Try.func50, Try.ntmps50
        go_wp2_with (first | (go_at_call 82; (with_reducible refine (G82.out _ T0.out.below).mono ?_); rintro e w1 ⟨rfl, hb1⟩; have T1 := Aside0.mk (T0.out.step hb1); obtain ⟨_, _, k10, k11, k12, k13⟩ := T1.out; clear hb1) | (go_at_call 83; (with_reducible refine (G83.out _ T1.out.below).mono ?_); rintro e w2 ⟨rfl, hb2⟩; have T2 := Aside0.mk (T1.out.step hb2); obtain ⟨_, _, k20, k21, k22, k23⟩ := T2.out; clear hb2 k10 k11 k12 k13) | (go_at_call 25; (with_reducible refine (G25.out _ T2.out.below).mono ?_); rintro e w3 ⟨rfl, hb3⟩; have T3 := Aside0.mk (T2.out.step hb3); obtain ⟨_, _, k30, k31, k32, k33⟩ := T3.out; clear hb3 k20 k21 k22 k23))
        go_ret2
        exact ⟨_, rfl, Kd.R_nil _ _ _ _ _, T3.out.below⟩
    · have hv : r1 = [] ∧ r2 = false := by
        have := HRes.out
        unfold oneP at this
        rw [if_neg (fun h => hf h.2.1)] at this
        injection this with x y
        exact ⟨x.symm, y.symm⟩
      obtain ⟨rfl, rfl⟩ := hv
      clear HRes
      have hmb : (factP a1_0 l1_1 != 0) = true := by simpa using hf
      rw [hm] at G82
      generalize factP a1_0 l1_1 = q at G83 hf hmb
      clear hm
      go_enter Try.func50, Try.ntmps50
      go_wp2_with (first | (go_at_call 82; (with_reducible refine (G82.out _ T0.out.below).mono ?_); rintro e w1 ⟨rfl, hb1⟩; have T1 := Aside0.mk (T0.out.step hb1); obtain ⟨_, _, k10, k11, k12, k13⟩ := T1.out; clear hb1) | (go_at_call 83; (with_reducible refine (G83.out _ T1.out.below).mono ?_); rintro e w2 ⟨rfl, hb2⟩; have T2 := Aside0.mk (T1.out.step hb2); obtain ⟨_, _, k20, k21, k22, k23⟩ := T2.out; clear hb2 k10 k11 k12 k13) | (go_at_call 25; (with_reducible refine (G25.out _ T2.out.below).mono ?_); rintro e w3 ⟨rfl, hb3⟩; have T3 := Aside0.mk (T2.out.step hb3); obtain ⟨_, _, k30, k31, k32, k33⟩ := T3.out; clear hb3 k20 k21 k22 k23))
      go_ret2
      exact ⟨_, rfl, Kd.R_nil _ _ _ _ _, T2.out.below⟩
  · have hv : r1 = [] ∧ r2 = false := by
      have := HRes.out
      unfold oneP at this
      rw [if_neg (fun h => hm h.1)] at this
      injection this with x y
      exact ⟨x.symm, y.symm⟩
    obtain ⟨rfl, rfl⟩ := hv
    clear HRes
    have hmb : (matP a0_0 l0_1 != 0) = true := by simpa using hm
    generalize matP a0_0 l0_1 = q at G82 hm hmb
    go_enter Try.func50, Try.ntmps50
    go_wp2_with (first | (go_at_call 82; (with_reducible refine (G82.out _ T0.out.below).mono ?_); rintro e w1 ⟨rfl, hb1⟩; have T1 := Aside0.mk (T0.out.step hb1); obtain ⟨_, _, k10, k11, k12, k13⟩ := T1.out; clear hb1) | (go_at_call 83; (with_reducible refine (G83.out _ T1.out.below).mono ?_); rintro e w2 ⟨rfl, hb2⟩; have T2 := Aside0.mk (T1.out.step hb2); obtain ⟨_, _, k20, k21, k22, k23⟩ := T2.out; clear hb2 k10 k11 k12 k13) | (go_at_call 25; (with_reducible refine (G25.out _ T2.out.below).mono ?_); rintro e w3 ⟨rfl, hb3⟩; have T3 := Aside0.mk (T2.out.step hb3); obtain ⟨_, _, k30, k31, k32, k33⟩ := T3.out; clear hb3 k20 k21 k22 k23))
    go_ret2
    exact ⟨_, rfl, Kd.R_nil _ _ _ _ _, T1.out.below⟩
end Go.Proofs.Ytghommaokdhjmaa.P
namespace Go.Proofs.Ytghommaokdhjmaa.P
open Go.RowKit Go.Proofs.YtghommaokdhjmaaW.PrintWords Go.Proofs.YtghommaokdhjmaaW.PrintLast Go.Proofs.Ytghommaokdhjmaa.Gate
set_option linter.unusedVariables false
set_option linter.unusedSimpArgs false

/-! ### match_Ground: function 52 -/
mutual
def match_Ground.j0 : Nat → List (S39) → Int → ByteArray → List (S77) → Option (ByteArray × (List (S24)) × Int)
 | 0, _, _, _, _ => none
 | k + 1, x1, x6, x731000, x731001 => if x6 = 0 then (match_Ground.l0 k x1 x731001 (x731001.length : Int) 0 x731000 ([] : List (S24))) else (some ((⟨#[]⟩ : ByteArray), ([] : List (S24)), x6))
def match_Ground.l0 : Nat → List (S39) → List (S77) → Int → Int → ByteArray → List (S24) → Option (ByteArray × (List (S24)) × Int)
 | 0, _, _, _, _, _, _ => none
 | k + 1, x1, x26, x27, x28, x735000, x735001 => if x28 < x27 then (if 0 ≤ x28 then (if x28 < (x26.length : Int) then (if ((rd_T77 x26 x28).f0).toList = ([] : List UInt8) then (if x735001.length < 4398046511104 then (match_Ground.l0 k x1 x26 x27 (wrap64 (x28 + 1)) x735000 (x735001 ++ [(⟨(rd_T77 x26 x28).f1.f0, (rd_T77 x26 x28).f1.f1, (rd_T77 x26 x28).f1.f2⟩ : S24)])) else (none)) else ((subst_Get.f k x1 ((rd_T77 x26 x28).f0)).bind fun bt741 => (if bt741.2.2.2 = true then (if x735001.length < 4398046511104 then (match_Ground.l0 k x1 x26 x27 (wrap64 (x28 + 1)) x735000 (x735001 ++ [(⟨bt741.1, bt741.2.1, bt741.2.2.1⟩ : S24)])) else (none)) else (some ((⟨#[]⟩ : ByteArray), ([] : List (S24)), 5))))) else (none)) else (none)) else (some (x735000, x735001, 0))
end
def match_Ground.f (k : Nat) (a0_0 : ByteArray) (l0_1 : List (S77)) (l1 : List (S39)) : Option (ByteArray × (List (S24)) × Int) := (match_Check.f a0_0 l0_1).bind fun t732 => (if t732 = 0 then ((subst_Check.f k l1).bind fun t733 => (match_Ground.j0 k l1 t733 a0_0 l0_1)) else (match_Ground.j0 k l1 t732 a0_0 l0_1))
theorem match_Ground.mono_l : ∀ k, (∀ y0 y1 y2 y3, LeO (match_Ground.j0 k y0 y1 y2 y3) (match_Ground.j0 (k + 1) y0 y1 y2 y3)) ∧ (∀ y0 y1 y2 y3 y4 y5, LeO (match_Ground.l0 k y0 y1 y2 y3 y4 y5) (match_Ground.l0 (k + 1) y0 y1 y2 y3 y4 y5))
 | 0 => ⟨fun _ _ _ _ r h => by simp [match_Ground.j0] at h, fun _ _ _ _ _ _ r h => by simp [match_Ground.l0] at h⟩
 | k + 1 => by
  obtain ⟨ih0, ih1⟩ := match_Ground.mono_l k
  refine ⟨?_, ?_⟩
  ·intro y0 y1 y2 y3
   unfold match_Ground.j0
   repeat' first
   | (with_reducible exact ih0 _ _ _ _)
   | (with_reducible exact ih1 _ _ _ _ _ _)
   | (with_reducible exact subst_Check.mono _ _)
   | (with_reducible exact subst_Get.mono _ _ _)
   | (with_reducible exact LeO.refl _)
   | (with_reducible exact LeO.none _)
   | (with_reducible refine LeO.ite ?_ ?_)
   | (with_reducible refine LeO.bind ?_ (fun _ => ?_))
  ·intro y0 y1 y2 y3 y4 y5
   unfold match_Ground.l0
   repeat' first
   | (with_reducible exact ih0 _ _ _ _)
   | (with_reducible exact ih1 _ _ _ _ _ _)
   | (with_reducible exact subst_Check.mono _ _)
   | (with_reducible exact subst_Get.mono _ _ _)
   | (with_reducible exact LeO.refl _)
   | (with_reducible exact LeO.none _)
   | (with_reducible refine LeO.ite ?_ ?_)
   | (with_reducible refine LeO.bind ?_ (fun _ => ?_))
theorem match_Ground.mono : ∀ a0 a1 a2 k, LeO (match_Ground.f k a0 a1 a2) (match_Ground.f (k + 1) a0 a1 a2) := by
 intro a0 a1 a2 k
 obtain ⟨ih0, ih1⟩ := match_Ground.mono_l k
 unfold match_Ground.f
 repeat' first
   | (with_reducible exact ih0 _ _ _ _)
   | (with_reducible exact ih1 _ _ _ _ _ _)
   | (with_reducible exact subst_Check.mono _ _)
   | (with_reducible exact subst_Get.mono _ _ _)
   | (with_reducible exact LeO.refl _)
   | (with_reducible exact LeO.none _)
   | (with_reducible refine LeO.ite ?_ ?_)
   | (with_reducible refine LeO.bind ?_ (fun _ => ?_))
set_option maxHeartbeats 8000000 in
set_option maxRecDepth 100000 in
theorem match_Ground.calls (k : Nat) (a0_0 : ByteArray) (A0_1 : Option Addr) (c0_1 : Nat) (l0_1 : List (S77)) (A1 : Option Addr) (c1 : Nat) (l1 : List (S39)) (r1 : ByteArray) (r2 : List (S24)) (r3 : Int) (w : World) (hr0_1 : Kd.C k77 w A0_1 l0_1.length l0_1) (hc0_1 : l0_1.length ≤ c0_1) (hr1 : Kd.C k39 w A1 l1.length l1) (hc1 : l1.length ≤ c1) (h : match_Ground.f k a0_0 l0_1 l1 = some (r1, r2, r3)) :
  Calls Try.prog 52 #[.agg #[.string a0_0, .slice A0_1 l0_1.length c0_1], .slice A1 l1.length c1] w fun e w' => ∃ v1_ : Value, e = .returned (.tuple #[.agg #[.string r1, v1_], .int .i64 r3]) ∧ Kd.R k24 24 w' w.heap.size (fun _ => True) v1_ r2 ∧ Below w.heap.size w w' := by
 have hu69 := Try.underlying69
 have hu53 := Try.underlying53
 have hu77 := Try.underlying77
 have hu24 := Try.underlying24
 have HR0_1 := Aside0.mk hr0_1
 have HC0_1 := Aside0.mk hc0_1
 clear hr0_1 hc0_1
 have HR1 := Aside0.mk hr1
 have HC1 := Aside0.mk hc1
 clear hr1 hc1
 have HB := Aside0.mk (Below.refl w.heap.size w)
 have H : ((match_Check.f a0_0 l0_1).bind fun t732 => (if t732 = 0 then ((subst_Check.f k l1).bind fun t733 => (match_Ground.j0 k l1 t733 a0_0 l0_1)) else (match_Ground.j0 k l1 t732 a0_0 l0_1))) = some (r1, r2, r3) := h
 clear h
 replace H := Option.bind_eq_some_iff.mp H
 obtain ⟨t732, A30, H⟩ := H
 replace H : (if t732 = 0 then ((subst_Check.f k l1).bind fun t733 => (match_Ground.j0 k l1 t733 a0_0 l0_1)) else (match_Ground.j0 k l1 t732 a0_0 l0_1)) = some (r1, r2, r3) := H
 have A3 := Aside0.mk A30
 clear A30
 have HC4 := Aside0.mk H
 clear H
 go_enter Try.func52, Try.ntmps52
 go_upto_if 15 with (first | ((with_reducible refine gate_dst (N := 2) rfl ?_); refine bE (N := 2) (cs := #[.string a0_0, .slice A0_1 l0_1.length c0_1]) (t := 69) ?_; intro gb730 hg w5 hbox hb; have n0_ := Aside0.mk (below_step bB0 hb); have n1_ := Aside0.mk (hbox); have n2_ := Aside0.mk ((by rw [hg]; exact (below_size bB0) : w.heap.size ≤ gb730)); have n3_ := Aside0.mk ((by rw [hg]; exact (below_size bB0) : w.heap.size ≤ gb730)); clear HB; have HB := n0_; have BK730 := n1_; have GW730 := n2_; have GE730 := n3_; clear n0_ n1_ n2_ n3_; clear hb hbox hg) | ((with_reducible refine gate_dst (N := 4) rfl ?_); refine bE (N := 4) (cs := #[.string (⟨#[]⟩ : ByteArray), .slice none 0 0]) (t := 53) ?_; intro gb731 hg w6 hbox hb; have n0_ := Aside0.mk (blk_below (g := gb730) (o := .cells #[.string a0_0, .slice A0_1 l0_1.length c0_1] 69 (0, 0)) (by refine bk ?_; exact BK730.out) hb); have n1_ := Aside0.mk (below_step (bB1 GE730.out) hb); have n2_ := Aside0.mk (hbox); have n3_ := Aside0.mk ((by rw [hg]; exact (below_size (bB1 GE730.out)) : w.heap.size ≤ gb731)); have n4_ := Aside0.mk ((by rw [hg]; exact (below_size (bB1 GE730.out)) : w.heap.size ≤ gb731)); have n5_ := Aside0.mk ((by rw [hg]; exact Nat.ne_of_lt (blk_lt (g := gb730) (o := .cells #[.string a0_0, .slice A0_1 l0_1.length c0_1] 69 (0, 0)) (by refine bk ?_; exact BK730.out)) : gb730 ≠ gb731)); have n6_ := Aside0.mk ((by rw [hg]; exact Nat.ne_of_gt (blk_lt (g := gb730) (o := .cells #[.string a0_0, .slice A0_1 l0_1.length c0_1] 69 (0, 0)) (by refine bk ?_; exact BK730.out)) : gb731 ≠ gb730)); clear BK730; clear HB; have BK730 := n0_; have HB := n1_; have BK731 := n2_; have GW731 := n3_; have GE731 := n4_; have NB730_731 := n5_; have NB731_730 := n6_; clear n0_ n1_ n2_ n3_ n4_ n5_ n6_; clear hb hbox hg; have hnb7 := NB730_731.out; have hnc7 := NB731_730.out; have hcz8_0 : w6.cell? ⟨gb730, 0, none⟩ = some (.string a0_0) := (blk_cell BK730.out 0).trans rfl; have hcz8_1 : w6.cell? ⟨gb730, 1, none⟩ = some (.slice A0_1 l0_1.length c0_1) := (blk_cell BK730.out 1).trans rfl; have hfz8_0 := blk_frozen BK730.out 0; have hfz8_1 := blk_frozen BK730.out 1) | ((with_reducible refine gate_callee (f := 82) rfl ?_); refine goesL_ (some 13) rfl rfl Try.func82 (by kernel_rfl) rfl #[.agg #[.string a0_0, .slice A0_1 l0_1.length c0_1]] rfl aG ?_; (with_reducible refine (match_Check.calls a0_0 _ _ l0_1 t732 _ ?side1 ?side2 A3.out).mono ?_); (case side1 => exact sC (Kd.C_below HR0_1.out HB.out)); (case side2 => exact HC0_1.out); rintro e w9 ⟨rfl, hb⟩; refine ⟨_, rfl, ?_⟩; have n0_ := Aside0.mk (blk_below (g := gb730) (o := .cells #[.string a0_0, .slice A0_1 l0_1.length c0_1] 69 (0, 0)) (by refine bk ?_; exact BK730.out) hb); have n1_ := Aside0.mk (blk_below (g := gb731) (o := .cells #[.string (⟨#[]⟩ : ByteArray), .slice none 0 0] 53 (0, 0)) (by refine bk ?_; exact BK731.out) hb); have n2_ := Aside0.mk (below_step (bB2 GE730.out GE731.out) hb); clear BK730; clear BK731; clear HB; have BK730 := n0_; have BK731 := n1_; have HB := n2_; clear n0_ n1_ n2_; (try clear hb); (try clear hb2); (try clear hk); (try clear hi)))
 (try simp only [Act.put, List.setIfInBounds_toArray, List.set_cons_zero, List.set_cons_succ])
 go_cut [6] (fun v6 wc => ∃ (kq : Nat) (x6_3 : Int), v6 = .int .i64 x6_3 ∧ Aside0 (match_Ground.j0 kq l1 x6_3 a0_0 l0_1 = some (r1, r2, r3)) ∧ Aside0 (kq ≤ k) ∧ Aside0 (wc.heap[gb730]? = some (.cells #[.string a0_0, (.slice A0_1 l0_1.length c0_1)] 69 (0, 0))) ∧ Aside0 (wc.heap[gb731]? = some (.cells #[.string (⟨#[]⟩ : ByteArray), (.slice none 0 0)] 53 (0, 0))) ∧ Aside0 (Below w.heap.size w wc))
 case first =>
  have H := HC4.out
  clear HC4
  by_cases c10 : t732 = 0
  ·rw [if_pos c10] at H
   have c10b0 : (t732 == 0) = true := beq_iff_eq.mpr c10
   have c10b1 : (t732 != 0) = false := bne_eq_false_iff_eq.mpr c10
   clear c10
   (first | rw [c10b0] | (simp only [i64_w, i32_w]; rw [c10b0]) | skip)
   replace H := Option.bind_eq_some_iff.mp H
   obtain ⟨t733, A110, H⟩ := H
   replace H : (match_Ground.j0 k l1 t733 a0_0 l0_1) = some (r1, r2, r3) := H
   have A11 := Aside0.mk A110
   clear A110
   have H' := Aside0.mk H
   clear H
   go_wp2_with (first | ((with_reducible refine gate_callee (f := 25) rfl ?_); refine goesL_ (some 17) rfl rfl Try.func25 (by kernel_rfl) rfl #[.slice A1 l1.length c1] rfl aG ?_; (with_reducible refine (subst_Check.calls k _ _ l1 t733 _ ?side1 ?side2 A11.out).mono ?_); (case side1 => exact sC (Kd.C_below HR1.out HB.out)); (case side2 => exact HC1.out); rintro e w12 ⟨rfl, hb⟩; refine ⟨_, rfl, ?_⟩; have n0_ := Aside0.mk (blk_below (g := gb730) (o := .cells #[.string a0_0, .slice A0_1 l0_1.length c0_1] 69 (0, 0)) (by refine bk ?_; exact BK730.out) hb); have n1_ := Aside0.mk (blk_below (g := gb731) (o := .cells #[.string (⟨#[]⟩ : ByteArray), .slice none 0 0] 53 (0, 0)) (by refine bk ?_; exact BK731.out) hb); have n2_ := Aside0.mk (below_step (bB2 GE730.out GE731.out) hb); clear BK730; clear BK731; clear HB; have BK730 := n0_; have BK731 := n1_; have HB := n2_; clear n0_ n1_ n2_; (try clear hb); (try clear hb2); (try clear hk); (try clear hi)))
   go_meet
   case rel => exact ⟨_, (t733), (by first | rfl | (simp; done) | (simp [*]; done)), H', ⟨by first | omega | exact Nat.le_refl _⟩, ⟨by refine bk ?_; exact BK730.out⟩, ⟨by refine bk ?_; exact BK731.out⟩, ⟨(bB2 GE730.out GE731.out)⟩⟩
  ·rw [if_neg c10] at H
   have c10b0 : (t732 == 0) = false := beq_eq_false_iff_ne.mpr c10
   have c10b1 : (t732 != 0) = true := bne_iff_ne.mpr c10
   (first | rw [c10b0] | (simp only [i64_w, i32_w]; rw [c10b0]) | skip)
   have H' := Aside0.mk H
   clear H
   go_wp2
   go_meet
   case rel => exact ⟨_, (t732), (by first | rfl | (simp; done) | (simp [*]; done)), H', ⟨by first | omega | exact Nat.le_refl _⟩, ⟨by refine bk ?_; exact BK730.out⟩, ⟨by refine bk ?_; exact BK731.out⟩, ⟨(bB2 GE730.out GE731.out)⟩⟩
 case rest =>
  clear HC4
  (try clear c1); (try clear c2); (try clear p2); (try clear c5); (try clear c7); (try clear c8); (try clear c10); (try clear c10b0); (try clear c10b1); (try clear hcz8_0); (try clear hcz8_1); (try clear hfz8_0); (try clear hfz8_1)
  obtain ⟨kq, x6_3, rfl, HA, HJ3, BK730, BK731, HB⟩ := hcut
  cases kq with
  | zero => exact absurd HA.out (by simp [match_Ground.j0])
  | succ kj3 =>
   have H := HA.out
   clear HA
   simp only [match_Ground.j0] at H
   by_cases c13 : x6_3 = 0
   ·rw [if_pos c13] at H
    have c13b0 : (x6_3 == 0) = true := beq_iff_eq.mpr c13
    have c13b1 : (x6_3 != 0) = false := bne_eq_false_iff_eq.mpr c13
    clear c13
    have H' := Aside0.mk H
    clear H
    have hnb14 := NB730_731.out
    have hnc14 := NB731_730.out
    have hcz15_0 : wc.cell? ⟨gb730, 0, none⟩ = some (.string a0_0) := (blk_cell BK730.out 0).trans rfl
    have hcz15_1 : wc.cell? ⟨gb730, 1, none⟩ = some (.slice A0_1 l0_1.length c0_1) := (blk_cell BK730.out 1).trans rfl
    have hfz15_0 := blk_frozen BK730.out 0
    have hfz15_1 := blk_frozen BK730.out 1
    go_wp2_with (first | ((with_reducible refine gate_dst (N := 7) rfl ?_); refine bE (N := 7) (cs := #[.string (⟨#[]⟩ : ByteArray), .slice none 0 0]) (t := 53) ?_; intro gb734 hg w16 hbox hb; have n0_ := Aside0.mk (blk_below (g := gb730) (o := .cells #[.string a0_0, .slice A0_1 l0_1.length c0_1] 69 (0, 0)) (by refine bk ?_; exact BK730.out) hb); have n1_ := Aside0.mk (blk_below (g := gb731) (o := .cells #[.string (⟨#[]⟩ : ByteArray), .slice none 0 0] 53 (0, 0)) (by refine bk ?_; exact BK731.out) hb); have n2_ := Aside0.mk (below_step (bB2 GE730.out GE731.out) hb); have n3_ := Aside0.mk (hbox); have n4_ := Aside0.mk ((by rw [hg]; exact (below_size (bB2 GE730.out GE731.out)) : w.heap.size ≤ gb734)); have n5_ := Aside0.mk ((by rw [hg]; exact (below_size (bB2 GE730.out GE731.out)) : w.heap.size ≤ gb734)); have n6_ := Aside0.mk ((by rw [hg]; exact Nat.ne_of_lt (blk_lt (g := gb730) (o := .cells #[.string a0_0, .slice A0_1 l0_1.length c0_1] 69 (0, 0)) (by refine bk ?_; exact BK730.out)) : gb730 ≠ gb734)); have n7_ := Aside0.mk ((by rw [hg]; exact Nat.ne_of_gt (blk_lt (g := gb730) (o := .cells #[.string a0_0, .slice A0_1 l0_1.length c0_1] 69 (0, 0)) (by refine bk ?_; exact BK730.out)) : gb734 ≠ gb730)); have n8_ := Aside0.mk ((by rw [hg]; exact Nat.ne_of_lt (blk_lt (g := gb731) (o := .cells #[.string (⟨#[]⟩ : ByteArray), .slice none 0 0] 53 (0, 0)) (by refine bk ?_; exact BK731.out)) : gb731 ≠ gb734)); have n9_ := Aside0.mk ((by rw [hg]; exact Nat.ne_of_gt (blk_lt (g := gb731) (o := .cells #[.string (⟨#[]⟩ : ByteArray), .slice none 0 0] 53 (0, 0)) (by refine bk ?_; exact BK731.out)) : gb734 ≠ gb731)); clear BK730; clear BK731; clear HB; have BK730 := n0_; have BK731 := n1_; have HB := n2_; have BK734 := n3_; have GW734 := n4_; have GE734 := n5_; have NB730_734 := n6_; have NB734_730 := n7_; have NB731_734 := n8_; have NB734_731 := n9_; clear n0_ n1_ n2_ n3_ n4_ n5_ n6_ n7_ n8_ n9_; clear hb hbox hg; have hnb17 := NB734_730.out; have hnc17 := NB730_734.out; have hnb18 := NB734_731.out; have hnc18 := NB731_734.out; have hcz19_0 : w16.cell? ⟨gb734, 0, none⟩ = some (.string (⟨#[]⟩ : ByteArray)) := (blk_cell BK734.out 0).trans rfl; have hcz19_1 : w16.cell? ⟨gb734, 1, none⟩ = some (.slice none 0 0) := (blk_cell BK734.out 1).trans rfl; have hfz19_0 := blk_frozen BK734.out 0; have hfz19_1 := blk_frozen BK734.out 1; have hcz20_0 : w16.cell? ⟨gb730, 0, none⟩ = some (.string a0_0) := (blk_cell BK730.out 0).trans rfl; have hcz20_1 : w16.cell? ⟨gb730, 1, none⟩ = some (.slice A0_1 l0_1.length c0_1) := (blk_cell BK730.out 1).trans rfl; have hfz20_0 := blk_frozen BK730.out 0; have hfz20_1 := blk_frozen BK730.out 1))
    go_loopg [28] kj3 (fun kq v28 w' => ∃ (x28_2 : Int) (x732000_2 : ByteArray) (x735001_2 : List (S24)) (u735001 : Value), v28 = .int .i64 x28_2 ∧ Aside0 (match_Ground.l0 kq l1 l0_1 (l0_1.length : Int) x28_2 a0_0 x735001_2 = some (r1, r2, r3)) ∧ Aside0 (kq ≤ kj3) ∧ Aside0 (Kd.R k24 24 w' w.heap.size (fun _ => True) u735001 x735001_2) ∧ Aside0 (w'.heap[gb730]? = some (.cells #[.string a0_0, (.slice A0_1 l0_1.length c0_1)] 69 (0, 0))) ∧ Aside0 (w'.heap[gb731]? = some (.cells #[.string x732000_2, (.slice none 0 0)] 53 (0, 0))) ∧ Aside0 (w'.heap[gb734]? = some (.cells #[.string a0_0, u735001] 53 (0, 0))) ∧ Aside0 (Below w.heap.size w w'))
    case atStart => exact ⟨(0), ((⟨#[]⟩ : ByteArray)), (([] : List (S24))), (.slice none 0 0), (by first | rfl | (simp; done) | (simp [*]; done)), H', ⟨Nat.le_refl _⟩, ⟨by first | exact Kd.R_nil _ _ _ _ _ | exact Kd.N_nil _ _ _ _ _ | exact Kd.V_nil _ _ _ _ _ | exact Kd.Q_nil _ _ _ _ _ | exact Kd.S_nil _ _ _ _ _⟩, ⟨by refine bk ?_; refine blk_far ?_ NB730_734.out _; refine bk ?_; refine blk_far ?_ NB730_734.out _; refine bk ?_; exact BK730.out⟩, ⟨by refine bk ?_; refine blk_far ?_ NB731_734.out _; refine bk ?_; refine blk_far ?_ NB731_734.out _; refine bk ?_; exact BK731.out⟩, ⟨by refine bk ?_; refine blk_put (cs := #[.string a0_0, .slice none 0 0]) ?_ 1 _ rfl; refine bk ?_; refine blk_put (cs := #[.string (⟨#[]⟩ : ByteArray), .slice none 0 0]) ?_ 0 _ rfl; refine bk ?_; exact BK734.out⟩, ⟨(bB3 GE730.out GE731.out GE734.out)⟩⟩
    case round =>
     clear H'
     (try clear c1); (try clear c2); (try clear p2); (try clear c5); (try clear c7); (try clear c8); (try clear c10); (try clear c10b0); (try clear c10b1); (try clear c13); (try clear c13b0); (try clear c13b1); (try clear c14); (try clear c17); (try clear c18); (try clear hcz15_0); (try clear hcz15_1); (try clear hcz19_0); (try clear hcz19_1); (try clear hcz20_0); (try clear hcz20_1); (try clear hcz8_0); (try clear hcz8_1); (try clear hfz15_0); (try clear hfz15_1); (try clear hfz19_0); (try clear hfz19_1); (try clear hfz20_0); (try clear hfz20_1); (try clear hfz8_0); (try clear hfz8_1); (try clear p2)
     obtain ⟨x28_2, x732000_2, x735001_2, u735001, rfl, HA, HK2, HO_735001, BK730, BK731, BK734, HB⟩ := hrel
     cases gk with
     | zero => exact absurd HA.out (by simp [match_Ground.l0])
     | succ k2 =>
      have H := HA.out
      clear HA
      simp only [match_Ground.l0] at H
      by_cases c21 : x28_2 < (l0_1.length : Int)
      ·rw [if_pos c21] at H
       have c21b0 : decide (x28_2 < (l0_1.length : Int)) = true := decide_eq_true c21
       clear c21
       by_cases c22 : 0 ≤ x28_2
       ·rw [if_pos c22] at H
        have c22b0 : decide (0 ≤ x28_2) = true := decide_eq_true c22
        clear c22
        by_cases c23 : x28_2 < (l0_1.length : Int)
        ·rw [if_pos c23] at H
         have c23b0 : decide (x28_2 < (l0_1.length : Int)) = true := decide_eq_true c23
         clear c23
         by_cases c24 : ((rd_T77 l0_1 x28_2).f0).toList = ([] : List UInt8)
         ·rw [if_pos c24] at H
          have c24b0 : (((rd_T77 l0_1 x28_2).f0).toList == ([] : List UInt8)) = true := beq_iff_eq.mpr c24
          have c24b1 : (((rd_T77 l0_1 x28_2).f0).toList != ([] : List UInt8)) = false := bne_eq_false_iff_eq.mpr c24
          clear c24
          by_cases c25 : x735001_2.length < 4398046511104
          ·rw [if_pos c25] at H
           have LMc25 := Aside0.mk c25
           clear c25
           obtain ⟨y738, hy738⟩ : ∃ y_ : List (S24), y_ = (x735001_2 ++ [(⟨(rd_T77 l0_1 x28_2).f1.f0, (rd_T77 l0_1 x28_2).f1.f1, (rd_T77 l0_1 x28_2).f1.f2⟩ : S24)]) := ⟨_, rfl⟩
           replace H : (match_Ground.l0 k2 l1 l0_1 (l0_1.length : Int) (wrap64 (x28_2 + 1)) a0_0 y738) = some (r1, r2, r3) := by first | (rw [hy738]; with_reducible exact H) | (have H2_ := (Option.bind_some _ _).symm.trans H; rw [hy738]; with_reducible exact H2_) | (have H2_ := (Option.bind_some _ _).symm.trans H; with_reducible exact H2_) | with_reducible exact H | (rw [hy738]; exact H) | exact H
           have Ny738 := Aside0.mk hy738
           clear hy738
           have H' := Aside0.mk H
           clear H
           have p735 : 0 ≤ (x28_2 : Int) := of_decide_eq_true (by first | (with_reducible assumption) | assumption)
           have q735 : x28_2 < (l0_1.length : Int) := of_decide_eq_true (by first | (with_reducible assumption) | assumption)
           obtain ⟨ad735, e735, hx735_0, hx735_1, hx735_2, hx735_3⟩ := at_T77 HR0_1.out x28_2 p735 q735
           cases e735
           replace hx735_0 := (HB.out.cell (World.block_lt_of_cell? w _ hx735_0)).trans hx735_0
           replace hx735_1 := (HB.out.cell (World.block_lt_of_cell? w _ hx735_1)).trans hx735_1
           replace hx735_2 := (HB.out.cell (World.block_lt_of_cell? w _ hx735_2)).trans hx735_2
           replace hx735_3 := (HB.out.cell (World.block_lt_of_cell? w _ hx735_3)).trans hx735_3
           replace p735 := eq_true p735
           replace q735 := eq_true q735
           go_wp2_with (first | ((with_reducible refine gate_dst (N := 9) rfl ?_); refine bE (N := 9) (cs := #[.string (⟨#[]⟩ : ByteArray), .int .i64 0, .int .i64 0, .string (⟨#[]⟩ : ByteArray)]) (t := 77) ?_; intro gb736 hg w26 hbox hb; have n0_ := Aside0.mk (Kd.R_below (sR HO_735001.out) hb); have n1_ := Aside0.mk (blk_below (g := gb730) (o := .cells #[.string a0_0, .slice (some ad735) l0_1.length c0_1] 69 (0, 0)) (by refine bk ?_; exact BK730.out) hb); have n2_ := Aside0.mk (blk_below (g := gb731) (o := .cells #[.string x732000_2, .slice none 0 0] 53 (0, 0)) (by refine bk ?_; exact BK731.out) hb); have n3_ := Aside0.mk (blk_below (g := gb734) (o := .cells #[.string a0_0, u735001] 53 (0, 0)) (by refine bk ?_; exact BK734.out) hb); have n4_ := Aside0.mk (below_step (bB3 GE730.out GE731.out GE734.out) hb); have n5_ := Aside0.mk (hbox); have n6_ := Aside0.mk ((by rw [hg]; exact (below_size (bB3 GE730.out GE731.out GE734.out)) : w.heap.size ≤ gb736)); have n7_ := Aside0.mk ((by rw [hg]; exact (below_size (bB3 GE730.out GE731.out GE734.out)) : w.heap.size ≤ gb736)); have n8_ := Aside0.mk ((by rw [hg]; exact Nat.ne_of_lt (blk_lt (g := gb730) (o := .cells #[.string a0_0, .slice (some ad735) l0_1.length c0_1] 69 (0, 0)) (by refine bk ?_; exact BK730.out)) : gb730 ≠ gb736)); have n9_ := Aside0.mk ((by rw [hg]; exact Nat.ne_of_gt (blk_lt (g := gb730) (o := .cells #[.string a0_0, .slice (some ad735) l0_1.length c0_1] 69 (0, 0)) (by refine bk ?_; exact BK730.out)) : gb736 ≠ gb730)); have n10_ := Aside0.mk ((by rw [hg]; exact Nat.ne_of_lt (blk_lt (g := gb731) (o := .cells #[.string x732000_2, .slice none 0 0] 53 (0, 0)) (by refine bk ?_; exact BK731.out)) : gb731 ≠ gb736)); have n11_ := Aside0.mk ((by rw [hg]; exact Nat.ne_of_gt (blk_lt (g := gb731) (o := .cells #[.string x732000_2, .slice none 0 0] 53 (0, 0)) (by refine bk ?_; exact BK731.out)) : gb736 ≠ gb731)); have n12_ := Aside0.mk ((by rw [hg]; exact Nat.ne_of_lt (blk_lt (g := gb734) (o := .cells #[.string a0_0, u735001] 53 (0, 0)) (by refine bk ?_; exact BK734.out)) : gb734 ≠ gb736)); have n13_ := Aside0.mk ((by rw [hg]; exact Nat.ne_of_gt (blk_lt (g := gb734) (o := .cells #[.string a0_0, u735001] 53 (0, 0)) (by refine bk ?_; exact BK734.out)) : gb736 ≠ gb734)); clear HO_735001; clear BK730; clear BK731; clear BK734; clear HB; have HO_735001 := n0_; have BK730 := n1_; have BK731 := n2_; have BK734 := n3_; have HB := n4_; have BK736 := n5_; have GW736 := n6_; have GE736 := n7_; have NB730_736 := n8_; have NB736_730 := n9_; have NB731_736 := n10_; have NB736_731 := n11_; have NB734_736 := n12_; have NB736_734 := n13_; clear n0_ n1_ n2_ n3_ n4_ n5_ n6_ n7_ n8_ n9_ n10_ n11_ n12_ n13_; clear hb hbox hg; have hnb27 := NB736_730.out; have hnc27 := NB730_736.out; have hnb28 := NB736_731.out; have hnc28 := NB731_736.out; have hnb29 := NB736_734.out; have hnc29 := NB734_736.out; have hcz30_0 : w26.cell? ⟨gb736, 0, none⟩ = some (.string (⟨#[]⟩ : ByteArray)) := (blk_cell BK736.out 0).trans rfl; have hcz30_1 : w26.cell? ⟨gb736, 1, none⟩ = some (.int .i64 0) := (blk_cell BK736.out 1).trans rfl; have hcz30_2 : w26.cell? ⟨gb736, 2, none⟩ = some (.int .i64 0) := (blk_cell BK736.out 2).trans rfl; have hcz30_3 : w26.cell? ⟨gb736, 3, none⟩ = some (.string (⟨#[]⟩ : ByteArray)) := (blk_cell BK736.out 3).trans rfl; have hfz30_0 := blk_frozen BK736.out 0; have hfz30_1 := blk_frozen BK736.out 1; have hfz30_2 := blk_frozen BK736.out 2; have hfz30_3 := blk_frozen BK736.out 3) | ((with_reducible refine gate_dst (N := 10) rfl ?_); refine bE (N := 10) (cs := #[.int .i64 0, .int .i64 0, .string (⟨#[]⟩ : ByteArray)]) (t := 24) ?_; intro gb737 hg w31 hbox hb; have n0_ := Aside0.mk (Kd.R_below (Kd.R_elderB (sR ((Kd.R_mono (Kd.R_far (p := ⟨gb736, 3, none⟩) (Kd.R_far (p := ⟨gb736, 2, none⟩) (Kd.R_far (p := ⟨gb736, 1, none⟩) (Kd.R_far (p := ⟨gb736, 0, none⟩) (Kd.R_types HO_735001.out BK736.out (by decide)) (fun _ hk => hk.2) (.string ((rd_T77 l0_1 x28_2).f0))) (fun _ hk => hk.2) (.int .i64 ((rd_T77 l0_1 x28_2).f1.f0))) (fun _ hk => hk.2) (.int .i64 ((rd_T77 l0_1 x28_2).f1.f1))) (fun _ hk => hk.2) (.string ((rd_T77 l0_1 x28_2).f1.f2))) (fun _ h_ => h_.1)))) gb737 (Nat.le_of_eq hg.symm)) hb); have n1_ := Aside0.mk (blk_below (g := gb730) (o := .cells #[.string a0_0, .slice (some ad735) l0_1.length c0_1] 69 (0, 0)) (by refine bk ?_; refine blk_far ?_ NB730_736.out _; refine bk ?_; refine blk_far ?_ NB730_736.out _; refine bk ?_; refine blk_far ?_ NB730_736.out _; refine bk ?_; refine blk_far ?_ NB730_736.out _; refine bk ?_; exact BK730.out) hb); have n2_ := Aside0.mk (blk_below (g := gb731) (o := .cells #[.string x732000_2, .slice none 0 0] 53 (0, 0)) (by refine bk ?_; refine blk_far ?_ NB731_736.out _; refine bk ?_; refine blk_far ?_ NB731_736.out _; refine bk ?_; refine blk_far ?_ NB731_736.out _; refine bk ?_; refine blk_far ?_ NB731_736.out _; refine bk ?_; exact BK731.out) hb); have n3_ := Aside0.mk (blk_below (g := gb734) (o := .cells #[.string a0_0, u735001] 53 (0, 0)) (by refine bk ?_; refine blk_far ?_ NB734_736.out _; refine bk ?_; refine blk_far ?_ NB734_736.out _; refine bk ?_; refine blk_far ?_ NB734_736.out _; refine bk ?_; refine blk_far ?_ NB734_736.out _; refine bk ?_; exact BK734.out) hb); have n4_ := Aside0.mk (blk_below (g := gb736) (o := .cells #[.string ((rd_T77 l0_1 x28_2).f0), .int .i64 ((rd_T77 l0_1 x28_2).f1.f0), .int .i64 ((rd_T77 l0_1 x28_2).f1.f1), .string ((rd_T77 l0_1 x28_2).f1.f2)] 77 (0, 0)) (by refine bk ?_; refine blk_put (cs := #[.string ((rd_T77 l0_1 x28_2).f0), .int .i64 ((rd_T77 l0_1 x28_2).f1.f0), .int .i64 ((rd_T77 l0_1 x28_2).f1.f1), .string (⟨#[]⟩ : ByteArray)]) ?_ 3 _ rfl; refine bk ?_; refine blk_put (cs := #[.string ((rd_T77 l0_1 x28_2).f0), .int .i64 ((rd_T77 l0_1 x28_2).f1.f0), .int .i64 0, .string (⟨#[]⟩ : ByteArray)]) ?_ 2 _ rfl; refine bk ?_; refine blk_put (cs := #[.string ((rd_T77 l0_1 x28_2).f0), .int .i64 0, .int .i64 0, .string (⟨#[]⟩ : ByteArray)]) ?_ 1 _ rfl; refine bk ?_; refine blk_put (cs := #[.string (⟨#[]⟩ : ByteArray), .int .i64 0, .int .i64 0, .string (⟨#[]⟩ : ByteArray)]) ?_ 0 _ rfl; refine bk ?_; exact BK736.out) hb); have n5_ := Aside0.mk (below_step (bB4 GE730.out GE731.out GE734.out GE736.out) hb); have n6_ := Aside0.mk (hbox); have n7_ := Aside0.mk ((by rw [hg]; exact (below_size (bB4 GE730.out GE731.out GE734.out GE736.out)) : w.heap.size ≤ gb737)); have n8_ := Aside0.mk ((by rw [hg]; exact (below_size (bB4 GE730.out GE731.out GE734.out GE736.out)) : w.heap.size ≤ gb737)); have n9_ := Aside0.mk ((by rw [hg]; exact Nat.ne_of_lt (blk_lt (g := gb730) (o := .cells #[.string a0_0, .slice (some ad735) l0_1.length c0_1] 69 (0, 0)) (by refine bk ?_; refine blk_far ?_ NB730_736.out _; refine bk ?_; refine blk_far ?_ NB730_736.out _; refine bk ?_; refine blk_far ?_ NB730_736.out _; refine bk ?_; refine blk_far ?_ NB730_736.out _; refine bk ?_; exact BK730.out)) : gb730 ≠ gb737)); have n10_ := Aside0.mk ((by rw [hg]; exact Nat.ne_of_gt (blk_lt (g := gb730) (o := .cells #[.string a0_0, .slice (some ad735) l0_1.length c0_1] 69 (0, 0)) (by refine bk ?_; refine blk_far ?_ NB730_736.out _; refine bk ?_; refine blk_far ?_ NB730_736.out _; refine bk ?_; refine blk_far ?_ NB730_736.out _; refine bk ?_; refine blk_far ?_ NB730_736.out _; refine bk ?_; exact BK730.out)) : gb737 ≠ gb730)); have n11_ := Aside0.mk ((by rw [hg]; exact Nat.ne_of_lt (blk_lt (g := gb731) (o := .cells #[.string x732000_2, .slice none 0 0] 53 (0, 0)) (by refine bk ?_; refine blk_far ?_ NB731_736.out _; refine bk ?_; refine blk_far ?_ NB731_736.out _; refine bk ?_; refine blk_far ?_ NB731_736.out _; refine bk ?_; refine blk_far ?_ NB731_736.out _; refine bk ?_; exact BK731.out)) : gb731 ≠ gb737)); have n12_ := Aside0.mk ((by rw [hg]; exact Nat.ne_of_gt (blk_lt (g := gb731) (o := .cells #[.string x732000_2, .slice none 0 0] 53 (0, 0)) (by refine bk ?_; refine blk_far ?_ NB731_736.out _; refine bk ?_; refine blk_far ?_ NB731_736.out _; refine bk ?_; refine blk_far ?_ NB731_736.out _; refine bk ?_; refine blk_far ?_ NB731_736.out _; refine bk ?_; exact BK731.out)) : gb737 ≠ gb731)); have n13_ := Aside0.mk ((by rw [hg]; exact Nat.ne_of_lt (blk_lt (g := gb734) (o := .cells #[.string a0_0, u735001] 53 (0, 0)) (by refine bk ?_; refine blk_far ?_ NB734_736.out _; refine bk ?_; refine blk_far ?_ NB734_736.out _; refine bk ?_; refine blk_far ?_ NB734_736.out _; refine bk ?_; refine blk_far ?_ NB734_736.out _; refine bk ?_; exact BK734.out)) : gb734 ≠ gb737)); have n14_ := Aside0.mk ((by rw [hg]; exact Nat.ne_of_gt (blk_lt (g := gb734) (o := .cells #[.string a0_0, u735001] 53 (0, 0)) (by refine bk ?_; refine blk_far ?_ NB734_736.out _; refine bk ?_; refine blk_far ?_ NB734_736.out _; refine bk ?_; refine blk_far ?_ NB734_736.out _; refine bk ?_; refine blk_far ?_ NB734_736.out _; refine bk ?_; exact BK734.out)) : gb737 ≠ gb734)); have n15_ := Aside0.mk ((by rw [hg]; exact Nat.ne_of_lt (blk_lt (g := gb736) (o := .cells #[.string ((rd_T77 l0_1 x28_2).f0), .int .i64 ((rd_T77 l0_1 x28_2).f1.f0), .int .i64 ((rd_T77 l0_1 x28_2).f1.f1), .string ((rd_T77 l0_1 x28_2).f1.f2)] 77 (0, 0)) (by refine bk ?_; refine blk_put (cs := #[.string ((rd_T77 l0_1 x28_2).f0), .int .i64 ((rd_T77 l0_1 x28_2).f1.f0), .int .i64 ((rd_T77 l0_1 x28_2).f1.f1), .string (⟨#[]⟩ : ByteArray)]) ?_ 3 _ rfl; refine bk ?_; refine blk_put (cs := #[.string ((rd_T77 l0_1 x28_2).f0), .int .i64 ((rd_T77 l0_1 x28_2).f1.f0), .int .i64 0, .string (⟨#[]⟩ : ByteArray)]) ?_ 2 _ rfl; refine bk ?_; refine blk_put (cs := #[.string ((rd_T77 l0_1 x28_2).f0), .int .i64 0, .int .i64 0, .string (⟨#[]⟩ : ByteArray)]) ?_ 1 _ rfl; refine bk ?_; refine blk_put (cs := #[.string (⟨#[]⟩ : ByteArray), .int .i64 0, .int .i64 0, .string (⟨#[]⟩ : ByteArray)]) ?_ 0 _ rfl; refine bk ?_; exact BK736.out)) : gb736 ≠ gb737)); have n16_ := Aside0.mk ((by rw [hg]; exact Nat.ne_of_gt (blk_lt (g := gb736) (o := .cells #[.string ((rd_T77 l0_1 x28_2).f0), .int .i64 ((rd_T77 l0_1 x28_2).f1.f0), .int .i64 ((rd_T77 l0_1 x28_2).f1.f1), .string ((rd_T77 l0_1 x28_2).f1.f2)] 77 (0, 0)) (by refine bk ?_; refine blk_put (cs := #[.string ((rd_T77 l0_1 x28_2).f0), .int .i64 ((rd_T77 l0_1 x28_2).f1.f0), .int .i64 ((rd_T77 l0_1 x28_2).f1.f1), .string (⟨#[]⟩ : ByteArray)]) ?_ 3 _ rfl; refine bk ?_; refine blk_put (cs := #[.string ((rd_T77 l0_1 x28_2).f0), .int .i64 ((rd_T77 l0_1 x28_2).f1.f0), .int .i64 0, .string (⟨#[]⟩ : ByteArray)]) ?_ 2 _ rfl; refine bk ?_; refine blk_put (cs := #[.string ((rd_T77 l0_1 x28_2).f0), .int .i64 0, .int .i64 0, .string (⟨#[]⟩ : ByteArray)]) ?_ 1 _ rfl; refine bk ?_; refine blk_put (cs := #[.string (⟨#[]⟩ : ByteArray), .int .i64 0, .int .i64 0, .string (⟨#[]⟩ : ByteArray)]) ?_ 0 _ rfl; refine bk ?_; exact BK736.out)) : gb737 ≠ gb736)); clear HO_735001; clear BK730; clear BK731; clear BK734; clear BK736; clear HB; have HO_735001 := n0_; have BK730 := n1_; have BK731 := n2_; have BK734 := n3_; have BK736 := n4_; have HB := n5_; have BK737 := n6_; have GW737 := n7_; have GE737 := n8_; have NB730_737 := n9_; have NB737_730 := n10_; have NB731_737 := n11_; have NB737_731 := n12_; have NB734_737 := n13_; have NB737_734 := n14_; have NB736_737 := n15_; have NB737_736 := n16_; clear n0_ n1_ n2_ n3_ n4_ n5_ n6_ n7_ n8_ n9_ n10_ n11_ n12_ n13_ n14_ n15_ n16_; clear hb hbox hg; have hnb32 := NB737_730.out; have hnc32 := NB730_737.out; have hnb33 := NB737_731.out; have hnc33 := NB731_737.out; have hnb34 := NB737_734.out; have hnc34 := NB734_737.out; have hnb35 := NB737_736.out; have hnc35 := NB736_737.out; have hcz36_0 : w31.cell? ⟨gb737, 0, none⟩ = some (.int .i64 0) := (blk_cell BK737.out 0).trans rfl; have hcz36_1 : w31.cell? ⟨gb737, 1, none⟩ = some (.int .i64 0) := (blk_cell BK737.out 1).trans rfl; have hcz36_2 : w31.cell? ⟨gb737, 2, none⟩ = some (.string (⟨#[]⟩ : ByteArray)) := (blk_cell BK737.out 2).trans rfl; have hfz36_0 := blk_frozen BK737.out 0; have hfz36_1 := blk_frozen BK737.out 1; have hfz36_2 := blk_frozen BK737.out 2; have hcz37_0 : w31.cell? ⟨gb736, 0, none⟩ = some (.string ((rd_T77 l0_1 x28_2).f0)) := (blk_cell BK736.out 0).trans rfl; have hcz37_1 : w31.cell? ⟨gb736, 1, none⟩ = some (.int .i64 ((rd_T77 l0_1 x28_2).f1.f0)) := (blk_cell BK736.out 1).trans rfl; have hcz37_2 : w31.cell? ⟨gb736, 2, none⟩ = some (.int .i64 ((rd_T77 l0_1 x28_2).f1.f1)) := (blk_cell BK736.out 2).trans rfl; have hcz37_3 : w31.cell? ⟨gb736, 3, none⟩ = some (.string ((rd_T77 l0_1 x28_2).f1.f2)) := (blk_cell BK736.out 3).trans rfl; have hfz37_0 := blk_frozen BK736.out 0; have hfz37_1 := blk_frozen BK736.out 1; have hfz37_2 := blk_frozen BK736.out 2; have hfz37_3 := blk_frozen BK736.out 3; have hnb38 := NB734_730.out; have hnc38 := NB730_734.out; have hnb39 := NB734_731.out; have hnc39 := NB731_734.out; have hcz40_0 : w31.cell? ⟨gb734, 0, none⟩ = some (.string a0_0) := (blk_cell BK734.out 0).trans rfl; have hcz40_1 : w31.cell? ⟨gb734, 1, none⟩ = some (u735001) := (blk_cell BK734.out 1).trans rfl; have hfz40_0 := blk_frozen BK734.out 0; have hfz40_1 := blk_frozen BK734.out 1) | ((with_reducible refine gate_builtin (b := .append) (xs := #[.tmp 48, .tmp 50]) rfl ?_); at_builtin; refine Kd.R_append k24 (w0 := w) w.heap.size rfl (.tmp 48) (.tmp 50) 51 24 (.agg #[(.int .i64 0), (.int .i64 0), (.string ⟨#[]⟩)]) 32 rfl Try.underlying51 info24 rfl (by decide) (by omega) u735001 x735001_2 (⟨(rd_T77 l0_1 x28_2).f1.f0, (rd_T77 l0_1 x28_2).f1.f1, (rd_T77 l0_1 x28_2).f1.f2⟩ : S24) [.int .i64 ((rd_T77 l0_1 x28_2).f1.f0), .int .i64 ((rd_T77 l0_1 x28_2).f1.f1), .string ((rd_T77 l0_1 x28_2).f1.f2)] (fun k_ => k_ ≠ gb737) (fun _ => False) rfl (by first | (go_simp; done) | (go_simp; rfl)) ?aP (fun _ hk => hk.elim) ?aF ?aO ?aB ?aS ?aL ?_; (case aP => exact k24_mkM _ _ _ (⟨(rd_T77 l0_1 x28_2).f1.f0, (rd_T77 l0_1 x28_2).f1.f1, (rd_T77 l0_1 x28_2).f1.f2⟩ : S24)); (case aB => exact (bB5 GE730.out GE731.out GE734.out GE736.out GE737.out)); (case aF => exact (fun k_ hk => Kd.freshB (g := gb737) (o := .cells #[.int .i64 ((rd_T77 l0_1 x28_2).f1.f0), .int .i64 ((rd_T77 l0_1 x28_2).f1.f1), .string ((rd_T77 l0_1 x28_2).f1.f2)] 24 (0, 0)) (by refine bk ?_; refine blk_put (cs := #[.int .i64 ((rd_T77 l0_1 x28_2).f1.f0), .int .i64 ((rd_T77 l0_1 x28_2).f1.f1), .string (⟨#[]⟩ : ByteArray)]) ?_ 2 _ rfl; refine bk ?_; refine blk_put (cs := #[.int .i64 ((rd_T77 l0_1 x28_2).f1.f0), .int .i64 0, .string (⟨#[]⟩ : ByteArray)]) ?_ 1 _ rfl; refine bk ?_; refine blk_put (cs := #[.int .i64 0, .int .i64 0, .string (⟨#[]⟩ : ByteArray)]) ?_ 0 _ rfl; refine bk ?_; exact BK737.out) k_ hk)); (case aO => exact (sR (Kd.R_mono (Kd.R_far (p := ⟨gb737, 2, none⟩) (Kd.R_far (p := ⟨gb737, 1, none⟩) (Kd.R_far (p := ⟨gb737, 0, none⟩) (Kd.R_mono HO_735001.out (fun k_ hk => (⟨hk, hk.2⟩ : _ ∧ k_ ≠ gb737))) (fun _ hk => hk.2) (.int .i64 ((rd_T77 l0_1 x28_2).f1.f0))) (fun _ hk => hk.2) (.int .i64 ((rd_T77 l0_1 x28_2).f1.f1))) (fun _ hk => hk.2) (.string ((rd_T77 l0_1 x28_2).f1.f2))) (fun _ hk => hk.1.2)))); (case aS => exact (below_size (bB5 GE730.out GE731.out GE734.out GE736.out GE737.out))); (case aL => have := LMc25.out; omega); intro v739 w41 ho hb hg hat; rw [← Ny738.out] at ho; have n0_ := Aside0.mk (blk_grown (g := gb730) (o := .cells #[.string a0_0, .slice (some ad735) l0_1.length c0_1] 69 (0, 0)) (by refine bk ?_; refine blk_far ?_ NB730_737.out _; refine bk ?_; refine blk_far ?_ NB730_737.out _; refine bk ?_; refine blk_far ?_ NB730_737.out _; refine bk ?_; exact BK730.out) hg (Kd.R_ne HO_735001.out BK730.out (by decide))); have n1_ := Aside0.mk (blk_grown (g := gb731) (o := .cells #[.string x732000_2, .slice none 0 0] 53 (0, 0)) (by refine bk ?_; refine blk_far ?_ NB731_737.out _; refine bk ?_; refine blk_far ?_ NB731_737.out _; refine bk ?_; refine blk_far ?_ NB731_737.out _; refine bk ?_; exact BK731.out) hg (Kd.R_ne HO_735001.out BK731.out (by decide))); have n2_ := Aside0.mk (blk_grown (g := gb734) (o := .cells #[.string a0_0, u735001] 53 (0, 0)) (by refine bk ?_; refine blk_far ?_ NB734_737.out _; refine bk ?_; refine blk_far ?_ NB734_737.out _; refine bk ?_; refine blk_far ?_ NB734_737.out _; refine bk ?_; exact BK734.out) hg (Kd.R_ne HO_735001.out BK734.out (by decide))); have n3_ := Aside0.mk (blk_grown (g := gb736) (o := .cells #[.string ((rd_T77 l0_1 x28_2).f0), .int .i64 ((rd_T77 l0_1 x28_2).f1.f0), .int .i64 ((rd_T77 l0_1 x28_2).f1.f1), .string ((rd_T77 l0_1 x28_2).f1.f2)] 77 (0, 0)) (by refine bk ?_; refine blk_far ?_ NB736_737.out _; refine bk ?_; refine blk_far ?_ NB736_737.out _; refine bk ?_; refine blk_far ?_ NB736_737.out _; refine bk ?_; exact BK736.out) hg (Kd.R_ne HO_735001.out BK736.out (by decide))); have n4_ := Aside0.mk (blk_grown (g := gb737) (o := .cells #[.int .i64 ((rd_T77 l0_1 x28_2).f1.f0), .int .i64 ((rd_T77 l0_1 x28_2).f1.f1), .string ((rd_T77 l0_1 x28_2).f1.f2)] 24 (0, 0)) (by refine bk ?_; refine blk_put (cs := #[.int .i64 ((rd_T77 l0_1 x28_2).f1.f0), .int .i64 ((rd_T77 l0_1 x28_2).f1.f1), .string (⟨#[]⟩ : ByteArray)]) ?_ 2 _ rfl; refine bk ?_; refine blk_put (cs := #[.int .i64 ((rd_T77 l0_1 x28_2).f1.f0), .int .i64 0, .string (⟨#[]⟩ : ByteArray)]) ?_ 1 _ rfl; refine bk ?_; refine blk_put (cs := #[.int .i64 0, .int .i64 0, .string (⟨#[]⟩ : ByteArray)]) ?_ 0 _ rfl; refine bk ?_; exact BK737.out) hg (Kd.R_away HO_735001.out (fun _ hk => hk.2))); have n5_ := Aside0.mk (hb); have n6_ := Aside0.mk (ho); clear BK730; clear BK731; clear BK734; clear BK736; clear BK737; clear HB; clear HO_735001; have BK730 := n0_; have BK731 := n1_; have BK734 := n2_; have BK736 := n3_; have BK737 := n4_; have HB := n5_; have HO740 := n6_; clear n0_ n1_ n2_ n3_ n4_ n5_ n6_; clear ho hb hg hat; obtain ⟨Ao42, co42, eo42⟩ := Kd.R_slice HO740.out; subst eo42; have hcz43_0 : w41.cell? ⟨gb734, 0, none⟩ = some (.string a0_0) := (blk_cell BK734.out 0).trans rfl; have hcz43_1 : w41.cell? ⟨gb734, 1, none⟩ = some (u735001) := (blk_cell BK734.out 1).trans rfl; have hfz43_0 := blk_frozen BK734.out 0; have hfz43_1 := blk_frozen BK734.out 1))
           go_roundg k2
           case measure => have := HJ3.out; have := HK2.out; omega
           case rel => exact ⟨(wrap64 (x28_2 + 1)), (x732000_2), (y738), (.slice Ao42 y738.length co42), (by first | rfl | (simp; done) | (simp [*]; done)), H', ⟨by have := HJ3.out; have := HK2.out; omega⟩, ⟨by (with_reducible repeat (first | apply Kd.R_alloc | apply Kd.R_drewN | apply Kd.R_drew)); exact Kd.R_mono (Kd.R_far (p := ⟨gb734, 1, none⟩) (Kd.R_types HO740.out BK734.out (by decide)) (fun _ hk => hk.2) (.slice Ao42 y738.length co42)) (fun _ hk => trivial)⟩, ⟨by refine bk ?_; refine blk_far ?_ NB730_734.out _; refine bk ?_; exact BK730.out⟩, ⟨by refine bk ?_; refine blk_far ?_ NB731_734.out _; refine bk ?_; exact BK731.out⟩, ⟨by refine bk ?_; refine blk_put (cs := #[.string a0_0, u735001]) ?_ 1 _ rfl; refine bk ?_; exact BK734.out⟩, ⟨(bB5 GE730.out GE731.out GE734.out GE736.out GE737.out)⟩⟩
          ·rw [if_neg c25] at H
           exact absurd H (by simp)
         ·rw [if_neg c24] at H
          have c24b0 : (((rd_T77 l0_1 x28_2).f0).toList == ([] : List UInt8)) = false := beq_eq_false_iff_ne.mpr c24
          have c24b1 : (((rd_T77 l0_1 x28_2).f0).toList != ([] : List UInt8)) = true := bne_iff_ne.mpr c24
          replace H := Option.bind_eq_some_iff.mp H
          obtain ⟨⟨t741, t742, t743, t744⟩, A440, H⟩ := H
          replace H : (if t744 = true then (if x735001_2.length < 4398046511104 then (match_Ground.l0 k2 l1 l0_1 (l0_1.length : Int) (wrap64 (x28_2 + 1)) a0_0 (x735001_2 ++ [(⟨t741, t742, t743⟩ : S24)])) else (none)) else (some ((⟨#[]⟩ : ByteArray), ([] : List (S24)), 5))) = some (r1, r2, r3) := H
          have A44 := Aside0.mk A440
          clear A440
          by_cases c45 : t744 = true
          ·subst c45
           have H1 : (if x735001_2.length < 4398046511104 then (match_Ground.l0 k2 l1 l0_1 (l0_1.length : Int) (wrap64 (x28_2 + 1)) a0_0 (x735001_2 ++ [(⟨t741, t742, t743⟩ : S24)])) else (none)) = some (r1, r2, r3) := by rw [if_pos rfl] at H; exact H
           clear H
           have H := H1
           clear H1
           by_cases c46 : x735001_2.length < 4398046511104
           ·rw [if_pos c46] at H
            have LMc46 := Aside0.mk c46
            clear c46
            obtain ⟨y745, hy745⟩ : ∃ y_ : List (S24), y_ = (x735001_2 ++ [(⟨t741, t742, t743⟩ : S24)]) := ⟨_, rfl⟩
            replace H : (match_Ground.l0 k2 l1 l0_1 (l0_1.length : Int) (wrap64 (x28_2 + 1)) a0_0 y745) = some (r1, r2, r3) := by first | (rw [hy745]; with_reducible exact H) | (have H2_ := (Option.bind_some _ _).symm.trans H; rw [hy745]; with_reducible exact H2_) | (have H2_ := (Option.bind_some _ _).symm.trans H; with_reducible exact H2_) | with_reducible exact H | (rw [hy745]; exact H) | exact H
            have Ny745 := Aside0.mk hy745
            clear hy745
            have H' := Aside0.mk H
            clear H
            have p735 : 0 ≤ (x28_2 : Int) := of_decide_eq_true (by first | (with_reducible assumption) | assumption)
            have q735 : x28_2 < (l0_1.length : Int) := of_decide_eq_true (by first | (with_reducible assumption) | assumption)
            obtain ⟨ad735, e735, hx735_0, hx735_1, hx735_2, hx735_3⟩ := at_T77 HR0_1.out x28_2 p735 q735
            cases e735
            replace hx735_0 := (HB.out.cell (World.block_lt_of_cell? w _ hx735_0)).trans hx735_0
            replace hx735_1 := (HB.out.cell (World.block_lt_of_cell? w _ hx735_1)).trans hx735_1
            replace hx735_2 := (HB.out.cell (World.block_lt_of_cell? w _ hx735_2)).trans hx735_2
            replace hx735_3 := (HB.out.cell (World.block_lt_of_cell? w _ hx735_3)).trans hx735_3
            replace p735 := eq_true p735
            replace q735 := eq_true q735
            go_wp2_with (first | ((with_reducible refine gate_dst (N := 9) rfl ?_); refine bE (N := 9) (cs := #[.string (⟨#[]⟩ : ByteArray), .int .i64 0, .int .i64 0, .string (⟨#[]⟩ : ByteArray)]) (t := 77) ?_; intro gb736 hg w47 hbox hb; have n0_ := Aside0.mk (Kd.R_below (sR HO_735001.out) hb); have n1_ := Aside0.mk (blk_below (g := gb730) (o := .cells #[.string a0_0, .slice (some ad735) l0_1.length c0_1] 69 (0, 0)) (by refine bk ?_; exact BK730.out) hb); have n2_ := Aside0.mk (blk_below (g := gb731) (o := .cells #[.string x732000_2, .slice none 0 0] 53 (0, 0)) (by refine bk ?_; exact BK731.out) hb); have n3_ := Aside0.mk (blk_below (g := gb734) (o := .cells #[.string a0_0, u735001] 53 (0, 0)) (by refine bk ?_; exact BK734.out) hb); have n4_ := Aside0.mk (below_step (bB3 GE730.out GE731.out GE734.out) hb); have n5_ := Aside0.mk (hbox); have n6_ := Aside0.mk ((by rw [hg]; exact (below_size (bB3 GE730.out GE731.out GE734.out)) : w.heap.size ≤ gb736)); have n7_ := Aside0.mk ((by rw [hg]; exact (below_size (bB3 GE730.out GE731.out GE734.out)) : w.heap.size ≤ gb736)); have n8_ := Aside0.mk ((by rw [hg]; exact Nat.ne_of_lt (blk_lt (g := gb730) (o := .cells #[.string a0_0, .slice (some ad735) l0_1.length c0_1] 69 (0, 0)) (by refine bk ?_; exact BK730.out)) : gb730 ≠ gb736)); have n9_ := Aside0.mk ((by rw [hg]; exact Nat.ne_of_gt (blk_lt (g := gb730) (o := .cells #[.string a0_0, .slice (some ad735) l0_1.length c0_1] 69 (0, 0)) (by refine bk ?_; exact BK730.out)) : gb736 ≠ gb730)); have n10_ := Aside0.mk ((by rw [hg]; exact Nat.ne_of_lt (blk_lt (g := gb731) (o := .cells #[.string x732000_2, .slice none 0 0] 53 (0, 0)) (by refine bk ?_; exact BK731.out)) : gb731 ≠ gb736)); have n11_ := Aside0.mk ((by rw [hg]; exact Nat.ne_of_gt (blk_lt (g := gb731) (o := .cells #[.string x732000_2, .slice none 0 0] 53 (0, 0)) (by refine bk ?_; exact BK731.out)) : gb736 ≠ gb731)); have n12_ := Aside0.mk ((by rw [hg]; exact Nat.ne_of_lt (blk_lt (g := gb734) (o := .cells #[.string a0_0, u735001] 53 (0, 0)) (by refine bk ?_; exact BK734.out)) : gb734 ≠ gb736)); have n13_ := Aside0.mk ((by rw [hg]; exact Nat.ne_of_gt (blk_lt (g := gb734) (o := .cells #[.string a0_0, u735001] 53 (0, 0)) (by refine bk ?_; exact BK734.out)) : gb736 ≠ gb734)); clear HO_735001; clear BK730; clear BK731; clear BK734; clear HB; have HO_735001 := n0_; have BK730 := n1_; have BK731 := n2_; have BK734 := n3_; have HB := n4_; have BK736 := n5_; have GW736 := n6_; have GE736 := n7_; have NB730_736 := n8_; have NB736_730 := n9_; have NB731_736 := n10_; have NB736_731 := n11_; have NB734_736 := n12_; have NB736_734 := n13_; clear n0_ n1_ n2_ n3_ n4_ n5_ n6_ n7_ n8_ n9_ n10_ n11_ n12_ n13_; clear hb hbox hg; have hnb48 := NB736_730.out; have hnc48 := NB730_736.out; have hnb49 := NB736_731.out; have hnc49 := NB731_736.out; have hnb50 := NB736_734.out; have hnc50 := NB734_736.out; have hcz51_0 : w47.cell? ⟨gb736, 0, none⟩ = some (.string (⟨#[]⟩ : ByteArray)) := (blk_cell BK736.out 0).trans rfl; have hcz51_1 : w47.cell? ⟨gb736, 1, none⟩ = some (.int .i64 0) := (blk_cell BK736.out 1).trans rfl; have hcz51_2 : w47.cell? ⟨gb736, 2, none⟩ = some (.int .i64 0) := (blk_cell BK736.out 2).trans rfl; have hcz51_3 : w47.cell? ⟨gb736, 3, none⟩ = some (.string (⟨#[]⟩ : ByteArray)) := (blk_cell BK736.out 3).trans rfl; have hfz51_0 := blk_frozen BK736.out 0; have hfz51_1 := blk_frozen BK736.out 1; have hfz51_2 := blk_frozen BK736.out 2; have hfz51_3 := blk_frozen BK736.out 3) | ((with_reducible refine gate_dst (N := 10) rfl ?_); refine bE (N := 10) (cs := #[.int .i64 0, .int .i64 0, .string (⟨#[]⟩ : ByteArray)]) (t := 24) ?_; intro gb737 hg w52 hbox hb; have n0_ := Aside0.mk (Kd.R_below (Kd.R_elderB (sR ((Kd.R_mono (Kd.R_far (p := ⟨gb736, 3, none⟩) (Kd.R_far (p := ⟨gb736, 2, none⟩) (Kd.R_far (p := ⟨gb736, 1, none⟩) (Kd.R_far (p := ⟨gb736, 0, none⟩) (Kd.R_types HO_735001.out BK736.out (by decide)) (fun _ hk => hk.2) (.string ((rd_T77 l0_1 x28_2).f0))) (fun _ hk => hk.2) (.int .i64 ((rd_T77 l0_1 x28_2).f1.f0))) (fun _ hk => hk.2) (.int .i64 ((rd_T77 l0_1 x28_2).f1.f1))) (fun _ hk => hk.2) (.string ((rd_T77 l0_1 x28_2).f1.f2))) (fun _ h_ => h_.1)))) gb737 (Nat.le_of_eq hg.symm)) hb); have n1_ := Aside0.mk (blk_below (g := gb730) (o := .cells #[.string a0_0, .slice (some ad735) l0_1.length c0_1] 69 (0, 0)) (by refine bk ?_; refine blk_far ?_ NB730_736.out _; refine bk ?_; refine blk_far ?_ NB730_736.out _; refine bk ?_; refine blk_far ?_ NB730_736.out _; refine bk ?_; refine blk_far ?_ NB730_736.out _; refine bk ?_; exact BK730.out) hb); have n2_ := Aside0.mk (blk_below (g := gb731) (o := .cells #[.string x732000_2, .slice none 0 0] 53 (0, 0)) (by refine bk ?_; refine blk_far ?_ NB731_736.out _; refine bk ?_; refine blk_far ?_ NB731_736.out _; refine bk ?_; refine blk_far ?_ NB731_736.out _; refine bk ?_; refine blk_far ?_ NB731_736.out _; refine bk ?_; exact BK731.out) hb); have n3_ := Aside0.mk (blk_below (g := gb734) (o := .cells #[.string a0_0, u735001] 53 (0, 0)) (by refine bk ?_; refine blk_far ?_ NB734_736.out _; refine bk ?_; refine blk_far ?_ NB734_736.out _; refine bk ?_; refine blk_far ?_ NB734_736.out _; refine bk ?_; refine blk_far ?_ NB734_736.out _; refine bk ?_; exact BK734.out) hb); have n4_ := Aside0.mk (blk_below (g := gb736) (o := .cells #[.string ((rd_T77 l0_1 x28_2).f0), .int .i64 ((rd_T77 l0_1 x28_2).f1.f0), .int .i64 ((rd_T77 l0_1 x28_2).f1.f1), .string ((rd_T77 l0_1 x28_2).f1.f2)] 77 (0, 0)) (by refine bk ?_; refine blk_put (cs := #[.string ((rd_T77 l0_1 x28_2).f0), .int .i64 ((rd_T77 l0_1 x28_2).f1.f0), .int .i64 ((rd_T77 l0_1 x28_2).f1.f1), .string (⟨#[]⟩ : ByteArray)]) ?_ 3 _ rfl; refine bk ?_; refine blk_put (cs := #[.string ((rd_T77 l0_1 x28_2).f0), .int .i64 ((rd_T77 l0_1 x28_2).f1.f0), .int .i64 0, .string (⟨#[]⟩ : ByteArray)]) ?_ 2 _ rfl; refine bk ?_; refine blk_put (cs := #[.string ((rd_T77 l0_1 x28_2).f0), .int .i64 0, .int .i64 0, .string (⟨#[]⟩ : ByteArray)]) ?_ 1 _ rfl; refine bk ?_; refine blk_put (cs := #[.string (⟨#[]⟩ : ByteArray), .int .i64 0, .int .i64 0, .string (⟨#[]⟩ : ByteArray)]) ?_ 0 _ rfl; refine bk ?_; exact BK736.out) hb); have n5_ := Aside0.mk (below_step (bB4 GE730.out GE731.out GE734.out GE736.out) hb); have n6_ := Aside0.mk (hbox); have n7_ := Aside0.mk ((by rw [hg]; exact (below_size (bB4 GE730.out GE731.out GE734.out GE736.out)) : w.heap.size ≤ gb737)); have n8_ := Aside0.mk ((by rw [hg]; exact (below_size (bB4 GE730.out GE731.out GE734.out GE736.out)) : w.heap.size ≤ gb737)); have n9_ := Aside0.mk ((by rw [hg]; exact Nat.ne_of_lt (blk_lt (g := gb730) (o := .cells #[.string a0_0, .slice (some ad735) l0_1.length c0_1] 69 (0, 0)) (by refine bk ?_; refine blk_far ?_ NB730_736.out _; refine bk ?_; refine blk_far ?_ NB730_736.out _; refine bk ?_; refine blk_far ?_ NB730_736.out _; refine bk ?_; refine blk_far ?_ NB730_736.out _; refine bk ?_; exact BK730.out)) : gb730 ≠ gb737)); have n10_ := Aside0.mk ((by rw [hg]; exact Nat.ne_of_gt (blk_lt (g := gb730) (o := .cells #[.string a0_0, .slice (some ad735) l0_1.length c0_1] 69 (0, 0)) (by refine bk ?_; refine blk_far ?_ NB730_736.out _; refine bk ?_; refine blk_far ?_ NB730_736.out _; refine bk ?_; refine blk_far ?_ NB730_736.out _; refine bk ?_; refine blk_far ?_ NB730_736.out _; refine bk ?_; exact BK730.out)) : gb737 ≠ gb730)); have n11_ := Aside0.mk ((by rw [hg]; exact Nat.ne_of_lt (blk_lt (g := gb731) (o := .cells #[.string x732000_2, .slice none 0 0] 53 (0, 0)) (by refine bk ?_; refine blk_far ?_ NB731_736.out _; refine bk ?_; refine blk_far ?_ NB731_736.out _; refine bk ?_; refine blk_far ?_ NB731_736.out _; refine bk ?_; refine blk_far ?_ NB731_736.out _; refine bk ?_; exact BK731.out)) : gb731 ≠ gb737)); have n12_ := Aside0.mk ((by rw [hg]; exact Nat.ne_of_gt (blk_lt (g := gb731) (o := .cells #[.string x732000_2, .slice none 0 0] 53 (0, 0)) (by refine bk ?_; refine blk_far ?_ NB731_736.out _; refine bk ?_; refine blk_far ?_ NB731_736.out _; refine bk ?_; refine blk_far ?_ NB731_736.out _; refine bk ?_; refine blk_far ?_ NB731_736.out _; refine bk ?_; exact BK731.out)) : gb737 ≠ gb731)); have n13_ := Aside0.mk ((by rw [hg]; exact Nat.ne_of_lt (blk_lt (g := gb734) (o := .cells #[.string a0_0, u735001] 53 (0, 0)) (by refine bk ?_; refine blk_far ?_ NB734_736.out _; refine bk ?_; refine blk_far ?_ NB734_736.out _; refine bk ?_; refine blk_far ?_ NB734_736.out _; refine bk ?_; refine blk_far ?_ NB734_736.out _; refine bk ?_; exact BK734.out)) : gb734 ≠ gb737)); have n14_ := Aside0.mk ((by rw [hg]; exact Nat.ne_of_gt (blk_lt (g := gb734) (o := .cells #[.string a0_0, u735001] 53 (0, 0)) (by refine bk ?_; refine blk_far ?_ NB734_736.out _; refine bk ?_; refine blk_far ?_ NB734_736.out _; refine bk ?_; refine blk_far ?_ NB734_736.out _; refine bk ?_; refine blk_far ?_ NB734_736.out _; refine bk ?_; exact BK734.out)) : gb737 ≠ gb734)); have n15_ := Aside0.mk ((by rw [hg]; exact Nat.ne_of_lt (blk_lt (g := gb736) (o := .cells #[.string ((rd_T77 l0_1 x28_2).f0), .int .i64 ((rd_T77 l0_1 x28_2).f1.f0), .int .i64 ((rd_T77 l0_1 x28_2).f1.f1), .string ((rd_T77 l0_1 x28_2).f1.f2)] 77 (0, 0)) (by refine bk ?_; refine blk_put (cs := #[.string ((rd_T77 l0_1 x28_2).f0), .int .i64 ((rd_T77 l0_1 x28_2).f1.f0), .int .i64 ((rd_T77 l0_1 x28_2).f1.f1), .string (⟨#[]⟩ : ByteArray)]) ?_ 3 _ rfl; refine bk ?_; refine blk_put (cs := #[.string ((rd_T77 l0_1 x28_2).f0), .int .i64 ((rd_T77 l0_1 x28_2).f1.f0), .int .i64 0, .string (⟨#[]⟩ : ByteArray)]) ?_ 2 _ rfl; refine bk ?_; refine blk_put (cs := #[.string ((rd_T77 l0_1 x28_2).f0), .int .i64 0, .int .i64 0, .string (⟨#[]⟩ : ByteArray)]) ?_ 1 _ rfl; refine bk ?_; refine blk_put (cs := #[.string (⟨#[]⟩ : ByteArray), .int .i64 0, .int .i64 0, .string (⟨#[]⟩ : ByteArray)]) ?_ 0 _ rfl; refine bk ?_; exact BK736.out)) : gb736 ≠ gb737)); have n16_ := Aside0.mk ((by rw [hg]; exact Nat.ne_of_gt (blk_lt (g := gb736) (o := .cells #[.string ((rd_T77 l0_1 x28_2).f0), .int .i64 ((rd_T77 l0_1 x28_2).f1.f0), .int .i64 ((rd_T77 l0_1 x28_2).f1.f1), .string ((rd_T77 l0_1 x28_2).f1.f2)] 77 (0, 0)) (by refine bk ?_; refine blk_put (cs := #[.string ((rd_T77 l0_1 x28_2).f0), .int .i64 ((rd_T77 l0_1 x28_2).f1.f0), .int .i64 ((rd_T77 l0_1 x28_2).f1.f1), .string (⟨#[]⟩ : ByteArray)]) ?_ 3 _ rfl; refine bk ?_; refine blk_put (cs := #[.string ((rd_T77 l0_1 x28_2).f0), .int .i64 ((rd_T77 l0_1 x28_2).f1.f0), .int .i64 0, .string (⟨#[]⟩ : ByteArray)]) ?_ 2 _ rfl; refine bk ?_; refine blk_put (cs := #[.string ((rd_T77 l0_1 x28_2).f0), .int .i64 0, .int .i64 0, .string (⟨#[]⟩ : ByteArray)]) ?_ 1 _ rfl; refine bk ?_; refine blk_put (cs := #[.string (⟨#[]⟩ : ByteArray), .int .i64 0, .int .i64 0, .string (⟨#[]⟩ : ByteArray)]) ?_ 0 _ rfl; refine bk ?_; exact BK736.out)) : gb737 ≠ gb736)); clear HO_735001; clear BK730; clear BK731; clear BK734; clear BK736; clear HB; have HO_735001 := n0_; have BK730 := n1_; have BK731 := n2_; have BK734 := n3_; have BK736 := n4_; have HB := n5_; have BK737 := n6_; have GW737 := n7_; have GE737 := n8_; have NB730_737 := n9_; have NB737_730 := n10_; have NB731_737 := n11_; have NB737_731 := n12_; have NB734_737 := n13_; have NB737_734 := n14_; have NB736_737 := n15_; have NB737_736 := n16_; clear n0_ n1_ n2_ n3_ n4_ n5_ n6_ n7_ n8_ n9_ n10_ n11_ n12_ n13_ n14_ n15_ n16_; clear hb hbox hg; have hnb53 := NB737_730.out; have hnc53 := NB730_737.out; have hnb54 := NB737_731.out; have hnc54 := NB731_737.out; have hnb55 := NB737_734.out; have hnc55 := NB734_737.out; have hnb56 := NB737_736.out; have hnc56 := NB736_737.out; have hcz57_0 : w52.cell? ⟨gb737, 0, none⟩ = some (.int .i64 0) := (blk_cell BK737.out 0).trans rfl; have hcz57_1 : w52.cell? ⟨gb737, 1, none⟩ = some (.int .i64 0) := (blk_cell BK737.out 1).trans rfl; have hcz57_2 : w52.cell? ⟨gb737, 2, none⟩ = some (.string (⟨#[]⟩ : ByteArray)) := (blk_cell BK737.out 2).trans rfl; have hfz57_0 := blk_frozen BK737.out 0; have hfz57_1 := blk_frozen BK737.out 1; have hfz57_2 := blk_frozen BK737.out 2; have hcz58_0 : w52.cell? ⟨gb736, 0, none⟩ = some (.string ((rd_T77 l0_1 x28_2).f0)) := (blk_cell BK736.out 0).trans rfl; have hcz58_1 : w52.cell? ⟨gb736, 1, none⟩ = some (.int .i64 ((rd_T77 l0_1 x28_2).f1.f0)) := (blk_cell BK736.out 1).trans rfl; have hcz58_2 : w52.cell? ⟨gb736, 2, none⟩ = some (.int .i64 ((rd_T77 l0_1 x28_2).f1.f1)) := (blk_cell BK736.out 2).trans rfl; have hcz58_3 : w52.cell? ⟨gb736, 3, none⟩ = some (.string ((rd_T77 l0_1 x28_2).f1.f2)) := (blk_cell BK736.out 3).trans rfl; have hfz58_0 := blk_frozen BK736.out 0; have hfz58_1 := blk_frozen BK736.out 1; have hfz58_2 := blk_frozen BK736.out 2; have hfz58_3 := blk_frozen BK736.out 3) | ((with_reducible refine gate_callee (f := 17) rfl ?_); refine goesL_ (some 41) rfl rfl Try.func17 (by kernel_rfl) rfl #[.slice A1 l1.length c1, .string ((rd_T77 l0_1 x28_2).f0)] rfl aG ?_; (with_reducible refine (subst_Get.calls k2 _ _ l1 ((rd_T77 l0_1 x28_2).f0) t741 t742 t743 true _ ?side1 ?side2 A44.out).mono ?_); (case side1 => exact Kd.C_below HR1.out (bB5 GE730.out GE731.out GE734.out GE736.out GE737.out)); (case side2 => exact HC1.out); rintro e w59 ⟨rfl, hb⟩; refine ⟨_, rfl, ?_⟩; have n0_ := Aside0.mk (Kd.R_below (sR ((Kd.R_mono (Kd.R_far (p := ⟨gb737, 2, none⟩) (Kd.R_far (p := ⟨gb737, 1, none⟩) (Kd.R_far (p := ⟨gb737, 0, none⟩) (Kd.R_mono HO_735001.out (fun k_ hk => (⟨hk, hk.2⟩ : _ ∧ k_ ≠ gb737))) (fun _ hk => hk.2) (.int .i64 ((rd_T77 l0_1 x28_2).f1.f0))) (fun _ hk => hk.2) (.int .i64 ((rd_T77 l0_1 x28_2).f1.f1))) (fun _ hk => hk.2) (.string ((rd_T77 l0_1 x28_2).f1.f2))) (fun _ h_ => h_.1)))) hb); have n1_ := Aside0.mk (blk_below (g := gb730) (o := .cells #[.string a0_0, .slice (some ad735) l0_1.length c0_1] 69 (0, 0)) (by refine bk ?_; refine blk_far ?_ NB730_737.out _; refine bk ?_; refine blk_far ?_ NB730_737.out _; refine bk ?_; refine blk_far ?_ NB730_737.out _; refine bk ?_; exact BK730.out) hb); have n2_ := Aside0.mk (blk_below (g := gb731) (o := .cells #[.string x732000_2, .slice none 0 0] 53 (0, 0)) (by refine bk ?_; refine blk_far ?_ NB731_737.out _; refine bk ?_; refine blk_far ?_ NB731_737.out _; refine bk ?_; refine blk_far ?_ NB731_737.out _; refine bk ?_; exact BK731.out) hb); have n3_ := Aside0.mk (blk_below (g := gb734) (o := .cells #[.string a0_0, u735001] 53 (0, 0)) (by refine bk ?_; refine blk_far ?_ NB734_737.out _; refine bk ?_; refine blk_far ?_ NB734_737.out _; refine bk ?_; refine blk_far ?_ NB734_737.out _; refine bk ?_; exact BK734.out) hb); have n4_ := Aside0.mk (blk_below (g := gb736) (o := .cells #[.string ((rd_T77 l0_1 x28_2).f0), .int .i64 ((rd_T77 l0_1 x28_2).f1.f0), .int .i64 ((rd_T77 l0_1 x28_2).f1.f1), .string ((rd_T77 l0_1 x28_2).f1.f2)] 77 (0, 0)) (by refine bk ?_; refine blk_far ?_ NB736_737.out _; refine bk ?_; refine blk_far ?_ NB736_737.out _; refine bk ?_; refine blk_far ?_ NB736_737.out _; refine bk ?_; exact BK736.out) hb); have n5_ := Aside0.mk (blk_below (g := gb737) (o := .cells #[.int .i64 ((rd_T77 l0_1 x28_2).f1.f0), .int .i64 ((rd_T77 l0_1 x28_2).f1.f1), .string ((rd_T77 l0_1 x28_2).f1.f2)] 24 (0, 0)) (by refine bk ?_; refine blk_put (cs := #[.int .i64 ((rd_T77 l0_1 x28_2).f1.f0), .int .i64 ((rd_T77 l0_1 x28_2).f1.f1), .string (⟨#[]⟩ : ByteArray)]) ?_ 2 _ rfl; refine bk ?_; refine blk_put (cs := #[.int .i64 ((rd_T77 l0_1 x28_2).f1.f0), .int .i64 0, .string (⟨#[]⟩ : ByteArray)]) ?_ 1 _ rfl; refine bk ?_; refine blk_put (cs := #[.int .i64 0, .int .i64 0, .string (⟨#[]⟩ : ByteArray)]) ?_ 0 _ rfl; refine bk ?_; exact BK737.out) hb); have n6_ := Aside0.mk (below_step (bB5 GE730.out GE731.out GE734.out GE736.out GE737.out) hb); clear HO_735001; clear BK730; clear BK731; clear BK734; clear BK736; clear BK737; clear HB; have HO_735001 := n0_; have BK730 := n1_; have BK731 := n2_; have BK734 := n3_; have BK736 := n4_; have BK737 := n5_; have HB := n6_; clear n0_ n1_ n2_ n3_ n4_ n5_ n6_; (try clear hb); (try clear hb2); (try clear hk); (try clear hi); have hcz60_0 : w59.cell? ⟨gb737, 0, none⟩ = some (.int .i64 ((rd_T77 l0_1 x28_2).f1.f0)) := (blk_cell BK737.out 0).trans rfl; have hcz60_1 : w59.cell? ⟨gb737, 1, none⟩ = some (.int .i64 ((rd_T77 l0_1 x28_2).f1.f1)) := (blk_cell BK737.out 1).trans rfl; have hcz60_2 : w59.cell? ⟨gb737, 2, none⟩ = some (.string ((rd_T77 l0_1 x28_2).f1.f2)) := (blk_cell BK737.out 2).trans rfl; have hfz60_0 := blk_frozen BK737.out 0; have hfz60_1 := blk_frozen BK737.out 1; have hfz60_2 := blk_frozen BK737.out 2; have hnb61 := NB734_730.out; have hnc61 := NB730_734.out; have hnb62 := NB734_731.out; have hnc62 := NB731_734.out; have hcz63_0 : w59.cell? ⟨gb734, 0, none⟩ = some (.string a0_0) := (blk_cell BK734.out 0).trans rfl; have hcz63_1 : w59.cell? ⟨gb734, 1, none⟩ = some (u735001) := (blk_cell BK734.out 1).trans rfl; have hfz63_0 := blk_frozen BK734.out 0; have hfz63_1 := blk_frozen BK734.out 1) | ((with_reducible refine gate_builtin (b := .append) (xs := #[.tmp 48, .tmp 50]) rfl ?_); at_builtin; refine Kd.R_append k24 (w0 := w) w.heap.size rfl (.tmp 48) (.tmp 50) 51 24 (.agg #[(.int .i64 0), (.int .i64 0), (.string ⟨#[]⟩)]) 32 rfl Try.underlying51 info24 rfl (by decide) (by omega) u735001 x735001_2 (⟨t741, t742, t743⟩ : S24) [.int .i64 t741, .int .i64 t742, .string t743] (fun k_ => k_ ≠ gb737) (fun _ => False) rfl (by first | (go_simp; done) | (go_simp; rfl)) ?aP (fun _ hk => hk.elim) ?aF ?aO ?aB ?aS ?aL ?_; (case aP => exact k24_mkM _ _ _ (⟨t741, t742, t743⟩ : S24)); (case aB => exact (bB5 GE730.out GE731.out GE734.out GE736.out GE737.out)); (case aF => exact (fun k_ hk => Kd.freshB (g := gb737) (o := .cells #[.int .i64 t741, .int .i64 t742, .string t743] 24 (0, 0)) (by refine bk ?_; refine blk_put (cs := #[.int .i64 t741, .int .i64 t742, .string ((rd_T77 l0_1 x28_2).f1.f2)]) ?_ 2 _ rfl; refine bk ?_; refine blk_put (cs := #[.int .i64 t741, .int .i64 ((rd_T77 l0_1 x28_2).f1.f1), .string ((rd_T77 l0_1 x28_2).f1.f2)]) ?_ 1 _ rfl; refine bk ?_; refine blk_put (cs := #[.int .i64 ((rd_T77 l0_1 x28_2).f1.f0), .int .i64 ((rd_T77 l0_1 x28_2).f1.f1), .string ((rd_T77 l0_1 x28_2).f1.f2)]) ?_ 0 _ rfl; refine bk ?_; exact BK737.out) k_ hk)); (case aO => exact (sR (Kd.R_mono (Kd.R_far (p := ⟨gb737, 2, none⟩) (Kd.R_far (p := ⟨gb737, 1, none⟩) (Kd.R_far (p := ⟨gb737, 0, none⟩) (Kd.R_mono HO_735001.out (fun k_ hk => (⟨hk, hk.2⟩ : _ ∧ k_ ≠ gb737))) (fun _ hk => hk.2) (.int .i64 t741)) (fun _ hk => hk.2) (.int .i64 t742)) (fun _ hk => hk.2) (.string t743)) (fun _ hk => hk.1.2)))); (case aS => exact (below_size (bB5 GE730.out GE731.out GE734.out GE736.out GE737.out))); (case aL => have := LMc46.out; omega); intro v746 w64 ho hb hg hat; rw [← Ny745.out] at ho; have n0_ := Aside0.mk (blk_grown (g := gb730) (o := .cells #[.string a0_0, .slice (some ad735) l0_1.length c0_1] 69 (0, 0)) (by refine bk ?_; refine blk_far ?_ NB730_737.out _; refine bk ?_; refine blk_far ?_ NB730_737.out _; refine bk ?_; refine blk_far ?_ NB730_737.out _; refine bk ?_; exact BK730.out) hg (Kd.R_ne HO_735001.out BK730.out (by decide))); have n1_ := Aside0.mk (blk_grown (g := gb731) (o := .cells #[.string x732000_2, .slice none 0 0] 53 (0, 0)) (by refine bk ?_; refine blk_far ?_ NB731_737.out _; refine bk ?_; refine blk_far ?_ NB731_737.out _; refine bk ?_; refine blk_far ?_ NB731_737.out _; refine bk ?_; exact BK731.out) hg (Kd.R_ne HO_735001.out BK731.out (by decide))); have n2_ := Aside0.mk (blk_grown (g := gb734) (o := .cells #[.string a0_0, u735001] 53 (0, 0)) (by refine bk ?_; refine blk_far ?_ NB734_737.out _; refine bk ?_; refine blk_far ?_ NB734_737.out _; refine bk ?_; refine blk_far ?_ NB734_737.out _; refine bk ?_; exact BK734.out) hg (Kd.R_ne HO_735001.out BK734.out (by decide))); have n3_ := Aside0.mk (blk_grown (g := gb736) (o := .cells #[.string ((rd_T77 l0_1 x28_2).f0), .int .i64 ((rd_T77 l0_1 x28_2).f1.f0), .int .i64 ((rd_T77 l0_1 x28_2).f1.f1), .string ((rd_T77 l0_1 x28_2).f1.f2)] 77 (0, 0)) (by refine bk ?_; refine blk_far ?_ NB736_737.out _; refine bk ?_; refine blk_far ?_ NB736_737.out _; refine bk ?_; refine blk_far ?_ NB736_737.out _; refine bk ?_; exact BK736.out) hg (Kd.R_ne HO_735001.out BK736.out (by decide))); have n4_ := Aside0.mk (blk_grown (g := gb737) (o := .cells #[.int .i64 t741, .int .i64 t742, .string t743] 24 (0, 0)) (by refine bk ?_; refine blk_put (cs := #[.int .i64 t741, .int .i64 t742, .string ((rd_T77 l0_1 x28_2).f1.f2)]) ?_ 2 _ rfl; refine bk ?_; refine blk_put (cs := #[.int .i64 t741, .int .i64 ((rd_T77 l0_1 x28_2).f1.f1), .string ((rd_T77 l0_1 x28_2).f1.f2)]) ?_ 1 _ rfl; refine bk ?_; refine blk_put (cs := #[.int .i64 ((rd_T77 l0_1 x28_2).f1.f0), .int .i64 ((rd_T77 l0_1 x28_2).f1.f1), .string ((rd_T77 l0_1 x28_2).f1.f2)]) ?_ 0 _ rfl; refine bk ?_; exact BK737.out) hg (Kd.R_away HO_735001.out (fun _ hk => hk.2))); have n5_ := Aside0.mk (hb); have n6_ := Aside0.mk (ho); clear BK730; clear BK731; clear BK734; clear BK736; clear BK737; clear HB; clear HO_735001; have BK730 := n0_; have BK731 := n1_; have BK734 := n2_; have BK736 := n3_; have BK737 := n4_; have HB := n5_; have HO747 := n6_; clear n0_ n1_ n2_ n3_ n4_ n5_ n6_; clear ho hb hg hat; obtain ⟨Ao65, co65, eo65⟩ := Kd.R_slice HO747.out; subst eo65; have hcz66_0 : w64.cell? ⟨gb734, 0, none⟩ = some (.string a0_0) := (blk_cell BK734.out 0).trans rfl; have hcz66_1 : w64.cell? ⟨gb734, 1, none⟩ = some (u735001) := (blk_cell BK734.out 1).trans rfl; have hfz66_0 := blk_frozen BK734.out 0; have hfz66_1 := blk_frozen BK734.out 1))
            go_roundg k2
            case measure => have := HJ3.out; have := HK2.out; omega
            case rel => exact ⟨(wrap64 (x28_2 + 1)), (x732000_2), (y745), (.slice Ao65 y745.length co65), (by first | rfl | (simp; done) | (simp [*]; done)), H', ⟨by have := HJ3.out; have := HK2.out; omega⟩, ⟨by (with_reducible repeat (first | apply Kd.R_alloc | apply Kd.R_drewN | apply Kd.R_drew)); exact Kd.R_mono (Kd.R_far (p := ⟨gb734, 1, none⟩) (Kd.R_types HO747.out BK734.out (by decide)) (fun _ hk => hk.2) (.slice Ao65 y745.length co65)) (fun _ hk => trivial)⟩, ⟨by refine bk ?_; refine blk_far ?_ NB730_734.out _; refine bk ?_; exact BK730.out⟩, ⟨by refine bk ?_; refine blk_far ?_ NB731_734.out _; refine bk ?_; exact BK731.out⟩, ⟨by refine bk ?_; refine blk_put (cs := #[.string a0_0, u735001]) ?_ 1 _ rfl; refine bk ?_; exact BK734.out⟩, ⟨(bB5 GE730.out GE731.out GE734.out GE736.out GE737.out)⟩⟩
           ·rw [if_neg c46] at H
            exact absurd H (by simp)
          ·replace c45 := Bool.eq_false_iff.mpr c45
           subst c45
           have H1 : (some ((⟨#[]⟩ : ByteArray), ([] : List (S24)), 5)) = some (r1, r2, r3) := by rw [if_neg (show ¬ (false = true) by decide)] at H; exact H
           clear H
           have H := H1
           clear H1
           simp only [Option.some.injEq, Prod.mk.injEq] at H
           obtain ⟨rfl, rfl, rfl⟩ := H
           have p735 : 0 ≤ (x28_2 : Int) := of_decide_eq_true (by first | (with_reducible assumption) | assumption)
           have q735 : x28_2 < (l0_1.length : Int) := of_decide_eq_true (by first | (with_reducible assumption) | assumption)
           obtain ⟨ad735, e735, hx735_0, hx735_1, hx735_2, hx735_3⟩ := at_T77 HR0_1.out x28_2 p735 q735
           cases e735
           replace hx735_0 := (HB.out.cell (World.block_lt_of_cell? w _ hx735_0)).trans hx735_0
           replace hx735_1 := (HB.out.cell (World.block_lt_of_cell? w _ hx735_1)).trans hx735_1
           replace hx735_2 := (HB.out.cell (World.block_lt_of_cell? w _ hx735_2)).trans hx735_2
           replace hx735_3 := (HB.out.cell (World.block_lt_of_cell? w _ hx735_3)).trans hx735_3
           replace p735 := eq_true p735
           replace q735 := eq_true q735
           go_wp2_with (first | ((with_reducible refine gate_dst (N := 9) rfl ?_); refine bE (N := 9) (cs := #[.string (⟨#[]⟩ : ByteArray), .int .i64 0, .int .i64 0, .string (⟨#[]⟩ : ByteArray)]) (t := 77) ?_; intro gb736 hg w67 hbox hb; have n0_ := Aside0.mk (Kd.R_below (sR HO_735001.out) hb); have n1_ := Aside0.mk (blk_below (g := gb730) (o := .cells #[.string a0_0, .slice (some ad735) l0_1.length c0_1] 69 (0, 0)) (by refine bk ?_; exact BK730.out) hb); have n2_ := Aside0.mk (blk_below (g := gb731) (o := .cells #[.string x732000_2, .slice none 0 0] 53 (0, 0)) (by refine bk ?_; exact BK731.out) hb); have n3_ := Aside0.mk (blk_below (g := gb734) (o := .cells #[.string a0_0, u735001] 53 (0, 0)) (by refine bk ?_; exact BK734.out) hb); have n4_ := Aside0.mk (below_step (bB3 GE730.out GE731.out GE734.out) hb); have n5_ := Aside0.mk (hbox); have n6_ := Aside0.mk ((by rw [hg]; exact (below_size (bB3 GE730.out GE731.out GE734.out)) : w.heap.size ≤ gb736)); have n7_ := Aside0.mk ((by rw [hg]; exact (below_size (bB3 GE730.out GE731.out GE734.out)) : w.heap.size ≤ gb736)); have n8_ := Aside0.mk ((by rw [hg]; exact Nat.ne_of_lt (blk_lt (g := gb730) (o := .cells #[.string a0_0, .slice (some ad735) l0_1.length c0_1] 69 (0, 0)) (by refine bk ?_; exact BK730.out)) : gb730 ≠ gb736)); have n9_ := Aside0.mk ((by rw [hg]; exact Nat.ne_of_gt (blk_lt (g := gb730) (o := .cells #[.string a0_0, .slice (some ad735) l0_1.length c0_1] 69 (0, 0)) (by refine bk ?_; exact BK730.out)) : gb736 ≠ gb730)); have n10_ := Aside0.mk ((by rw [hg]; exact Nat.ne_of_lt (blk_lt (g := gb731) (o := .cells #[.string x732000_2, .slice none 0 0] 53 (0, 0)) (by refine bk ?_; exact BK731.out)) : gb731 ≠ gb736)); have n11_ := Aside0.mk ((by rw [hg]; exact Nat.ne_of_gt (blk_lt (g := gb731) (o := .cells #[.string x732000_2, .slice none 0 0] 53 (0, 0)) (by refine bk ?_; exact BK731.out)) : gb736 ≠ gb731)); have n12_ := Aside0.mk ((by rw [hg]; exact Nat.ne_of_lt (blk_lt (g := gb734) (o := .cells #[.string a0_0, u735001] 53 (0, 0)) (by refine bk ?_; exact BK734.out)) : gb734 ≠ gb736)); have n13_ := Aside0.mk ((by rw [hg]; exact Nat.ne_of_gt (blk_lt (g := gb734) (o := .cells #[.string a0_0, u735001] 53 (0, 0)) (by refine bk ?_; exact BK734.out)) : gb736 ≠ gb734)); clear HO_735001; clear BK730; clear BK731; clear BK734; clear HB; have HO_735001 := n0_; have BK730 := n1_; have BK731 := n2_; have BK734 := n3_; have HB := n4_; have BK736 := n5_; have GW736 := n6_; have GE736 := n7_; have NB730_736 := n8_; have NB736_730 := n9_; have NB731_736 := n10_; have NB736_731 := n11_; have NB734_736 := n12_; have NB736_734 := n13_; clear n0_ n1_ n2_ n3_ n4_ n5_ n6_ n7_ n8_ n9_ n10_ n11_ n12_ n13_; clear hb hbox hg; have hnb68 := NB736_730.out; have hnc68 := NB730_736.out; have hnb69 := NB736_731.out; have hnc69 := NB731_736.out; have hnb70 := NB736_734.out; have hnc70 := NB734_736.out; have hcz71_0 : w67.cell? ⟨gb736, 0, none⟩ = some (.string (⟨#[]⟩ : ByteArray)) := (blk_cell BK736.out 0).trans rfl; have hcz71_1 : w67.cell? ⟨gb736, 1, none⟩ = some (.int .i64 0) := (blk_cell BK736.out 1).trans rfl; have hcz71_2 : w67.cell? ⟨gb736, 2, none⟩ = some (.int .i64 0) := (blk_cell BK736.out 2).trans rfl; have hcz71_3 : w67.cell? ⟨gb736, 3, none⟩ = some (.string (⟨#[]⟩ : ByteArray)) := (blk_cell BK736.out 3).trans rfl; have hfz71_0 := blk_frozen BK736.out 0; have hfz71_1 := blk_frozen BK736.out 1; have hfz71_2 := blk_frozen BK736.out 2; have hfz71_3 := blk_frozen BK736.out 3) | ((with_reducible refine gate_dst (N := 10) rfl ?_); refine bE (N := 10) (cs := #[.int .i64 0, .int .i64 0, .string (⟨#[]⟩ : ByteArray)]) (t := 24) ?_; intro gb737 hg w72 hbox hb; have n0_ := Aside0.mk (Kd.R_below (Kd.R_elderB (sR ((Kd.R_mono (Kd.R_far (p := ⟨gb736, 3, none⟩) (Kd.R_far (p := ⟨gb736, 2, none⟩) (Kd.R_far (p := ⟨gb736, 1, none⟩) (Kd.R_far (p := ⟨gb736, 0, none⟩) (Kd.R_types HO_735001.out BK736.out (by decide)) (fun _ hk => hk.2) (.string ((rd_T77 l0_1 x28_2).f0))) (fun _ hk => hk.2) (.int .i64 ((rd_T77 l0_1 x28_2).f1.f0))) (fun _ hk => hk.2) (.int .i64 ((rd_T77 l0_1 x28_2).f1.f1))) (fun _ hk => hk.2) (.string ((rd_T77 l0_1 x28_2).f1.f2))) (fun _ h_ => h_.1)))) gb737 (Nat.le_of_eq hg.symm)) hb); have n1_ := Aside0.mk (blk_below (g := gb730) (o := .cells #[.string a0_0, .slice (some ad735) l0_1.length c0_1] 69 (0, 0)) (by refine bk ?_; refine blk_far ?_ NB730_736.out _; refine bk ?_; refine blk_far ?_ NB730_736.out _; refine bk ?_; refine blk_far ?_ NB730_736.out _; refine bk ?_; refine blk_far ?_ NB730_736.out _; refine bk ?_; exact BK730.out) hb); have n2_ := Aside0.mk (blk_below (g := gb731) (o := .cells #[.string x732000_2, .slice none 0 0] 53 (0, 0)) (by refine bk ?_; refine blk_far ?_ NB731_736.out _; refine bk ?_; refine blk_far ?_ NB731_736.out _; refine bk ?_; refine blk_far ?_ NB731_736.out _; refine bk ?_; refine blk_far ?_ NB731_736.out _; refine bk ?_; exact BK731.out) hb); have n3_ := Aside0.mk (blk_below (g := gb734) (o := .cells #[.string a0_0, u735001] 53 (0, 0)) (by refine bk ?_; refine blk_far ?_ NB734_736.out _; refine bk ?_; refine blk_far ?_ NB734_736.out _; refine bk ?_; refine blk_far ?_ NB734_736.out _; refine bk ?_; refine blk_far ?_ NB734_736.out _; refine bk ?_; exact BK734.out) hb); have n4_ := Aside0.mk (blk_below (g := gb736) (o := .cells #[.string ((rd_T77 l0_1 x28_2).f0), .int .i64 ((rd_T77 l0_1 x28_2).f1.f0), .int .i64 ((rd_T77 l0_1 x28_2).f1.f1), .string ((rd_T77 l0_1 x28_2).f1.f2)] 77 (0, 0)) (by refine bk ?_; refine blk_put (cs := #[.string ((rd_T77 l0_1 x28_2).f0), .int .i64 ((rd_T77 l0_1 x28_2).f1.f0), .int .i64 ((rd_T77 l0_1 x28_2).f1.f1), .string (⟨#[]⟩ : ByteArray)]) ?_ 3 _ rfl; refine bk ?_; refine blk_put (cs := #[.string ((rd_T77 l0_1 x28_2).f0), .int .i64 ((rd_T77 l0_1 x28_2).f1.f0), .int .i64 0, .string (⟨#[]⟩ : ByteArray)]) ?_ 2 _ rfl; refine bk ?_; refine blk_put (cs := #[.string ((rd_T77 l0_1 x28_2).f0), .int .i64 0, .int .i64 0, .string (⟨#[]⟩ : ByteArray)]) ?_ 1 _ rfl; refine bk ?_; refine blk_put (cs := #[.string (⟨#[]⟩ : ByteArray), .int .i64 0, .int .i64 0, .string (⟨#[]⟩ : ByteArray)]) ?_ 0 _ rfl; refine bk ?_; exact BK736.out) hb); have n5_ := Aside0.mk (below_step (bB4 GE730.out GE731.out GE734.out GE736.out) hb); have n6_ := Aside0.mk (hbox); have n7_ := Aside0.mk ((by rw [hg]; exact (below_size (bB4 GE730.out GE731.out GE734.out GE736.out)) : w.heap.size ≤ gb737)); have n8_ := Aside0.mk ((by rw [hg]; exact (below_size (bB4 GE730.out GE731.out GE734.out GE736.out)) : w.heap.size ≤ gb737)); have n9_ := Aside0.mk ((by rw [hg]; exact Nat.ne_of_lt (blk_lt (g := gb730) (o := .cells #[.string a0_0, .slice (some ad735) l0_1.length c0_1] 69 (0, 0)) (by refine bk ?_; refine blk_far ?_ NB730_736.out _; refine bk ?_; refine blk_far ?_ NB730_736.out _; refine bk ?_; refine blk_far ?_ NB730_736.out _; refine bk ?_; refine blk_far ?_ NB730_736.out _; refine bk ?_; exact BK730.out)) : gb730 ≠ gb737)); have n10_ := Aside0.mk ((by rw [hg]; exact Nat.ne_of_gt (blk_lt (g := gb730) (o := .cells #[.string a0_0, .slice (some ad735) l0_1.length c0_1] 69 (0, 0)) (by refine bk ?_; refine blk_far ?_ NB730_736.out _; refine bk ?_; refine blk_far ?_ NB730_736.out _; refine bk ?_; refine blk_far ?_ NB730_736.out _; refine bk ?_; refine blk_far ?_ NB730_736.out _; refine bk ?_; exact BK730.out)) : gb737 ≠ gb730)); have n11_ := Aside0.mk ((by rw [hg]; exact Nat.ne_of_lt (blk_lt (g := gb731) (o := .cells #[.string x732000_2, .slice none 0 0] 53 (0, 0)) (by refine bk ?_; refine blk_far ?_ NB731_736.out _; refine bk ?_; refine blk_far ?_ NB731_736.out _; refine bk ?_; refine blk_far ?_ NB731_736.out _; refine bk ?_; refine blk_far ?_ NB731_736.out _; refine bk ?_; exact BK731.out)) : gb731 ≠ gb737)); have n12_ := Aside0.mk ((by rw [hg]; exact Nat.ne_of_gt (blk_lt (g := gb731) (o := .cells #[.string x732000_2, .slice none 0 0] 53 (0, 0)) (by refine bk ?_; refine blk_far ?_ NB731_736.out _; refine bk ?_; refine blk_far ?_ NB731_736.out _; refine bk ?_; refine blk_far ?_ NB731_736.out _; refine bk ?_; refine blk_far ?_ NB731_736.out _; refine bk ?_; exact BK731.out)) : gb737 ≠ gb731)); have n13_ := Aside0.mk ((by rw [hg]; exact Nat.ne_of_lt (blk_lt (g := gb734) (o := .cells #[.string a0_0, u735001] 53 (0, 0)) (by refine bk ?_; refine blk_far ?_ NB734_736.out _; refine bk ?_; refine blk_far ?_ NB734_736.out _; refine bk ?_; refine blk_far ?_ NB734_736.out _; refine bk ?_; refine blk_far ?_ NB734_736.out _; refine bk ?_; exact BK734.out)) : gb734 ≠ gb737)); have n14_ := Aside0.mk ((by rw [hg]; exact Nat.ne_of_gt (blk_lt (g := gb734) (o := .cells #[.string a0_0, u735001] 53 (0, 0)) (by refine bk ?_; refine blk_far ?_ NB734_736.out _; refine bk ?_; refine blk_far ?_ NB734_736.out _; refine bk ?_; refine blk_far ?_ NB734_736.out _; refine bk ?_; refine blk_far ?_ NB734_736.out _; refine bk ?_; exact BK734.out)) : gb737 ≠ gb734)); have n15_ := Aside0.mk ((by rw [hg]; exact Nat.ne_of_lt (blk_lt (g := gb736) (o := .cells #[.string ((rd_T77 l0_1 x28_2).f0), .int .i64 ((rd_T77 l0_1 x28_2).f1.f0), .int .i64 ((rd_T77 l0_1 x28_2).f1.f1), .string ((rd_T77 l0_1 x28_2).f1.f2)] 77 (0, 0)) (by refine bk ?_; refine blk_put (cs := #[.string ((rd_T77 l0_1 x28_2).f0), .int .i64 ((rd_T77 l0_1 x28_2).f1.f0), .int .i64 ((rd_T77 l0_1 x28_2).f1.f1), .string (⟨#[]⟩ : ByteArray)]) ?_ 3 _ rfl; refine bk ?_; refine blk_put (cs := #[.string ((rd_T77 l0_1 x28_2).f0), .int .i64 ((rd_T77 l0_1 x28_2).f1.f0), .int .i64 0, .string (⟨#[]⟩ : ByteArray)]) ?_ 2 _ rfl; refine bk ?_; refine blk_put (cs := #[.string ((rd_T77 l0_1 x28_2).f0), .int .i64 0, .int .i64 0, .string (⟨#[]⟩ : ByteArray)]) ?_ 1 _ rfl; refine bk ?_; refine blk_put (cs := #[.string (⟨#[]⟩ : ByteArray), .int .i64 0, .int .i64 0, .string (⟨#[]⟩ : ByteArray)]) ?_ 0 _ rfl; refine bk ?_; exact BK736.out)) : gb736 ≠ gb737)); have n16_ := Aside0.mk ((by rw [hg]; exact Nat.ne_of_gt (blk_lt (g := gb736) (o := .cells #[.string ((rd_T77 l0_1 x28_2).f0), .int .i64 ((rd_T77 l0_1 x28_2).f1.f0), .int .i64 ((rd_T77 l0_1 x28_2).f1.f1), .string ((rd_T77 l0_1 x28_2).f1.f2)] 77 (0, 0)) (by refine bk ?_; refine blk_put (cs := #[.string ((rd_T77 l0_1 x28_2).f0), .int .i64 ((rd_T77 l0_1 x28_2).f1.f0), .int .i64 ((rd_T77 l0_1 x28_2).f1.f1), .string (⟨#[]⟩ : ByteArray)]) ?_ 3 _ rfl; refine bk ?_; refine blk_put (cs := #[.string ((rd_T77 l0_1 x28_2).f0), .int .i64 ((rd_T77 l0_1 x28_2).f1.f0), .int .i64 0, .string (⟨#[]⟩ : ByteArray)]) ?_ 2 _ rfl; refine bk ?_; refine blk_put (cs := #[.string ((rd_T77 l0_1 x28_2).f0), .int .i64 0, .int .i64 0, .string (⟨#[]⟩ : ByteArray)]) ?_ 1 _ rfl; refine bk ?_; refine blk_put (cs := #[.string (⟨#[]⟩ : ByteArray), .int .i64 0, .int .i64 0, .string (⟨#[]⟩ : ByteArray)]) ?_ 0 _ rfl; refine bk ?_; exact BK736.out)) : gb737 ≠ gb736)); clear HO_735001; clear BK730; clear BK731; clear BK734; clear BK736; clear HB; have HO_735001 := n0_; have BK730 := n1_; have BK731 := n2_; have BK734 := n3_; have BK736 := n4_; have HB := n5_; have BK737 := n6_; have GW737 := n7_; have GE737 := n8_; have NB730_737 := n9_; have NB737_730 := n10_; have NB731_737 := n11_; have NB737_731 := n12_; have NB734_737 := n13_; have NB737_734 := n14_; have NB736_737 := n15_; have NB737_736 := n16_; clear n0_ n1_ n2_ n3_ n4_ n5_ n6_ n7_ n8_ n9_ n10_ n11_ n12_ n13_ n14_ n15_ n16_; clear hb hbox hg; have hnb73 := NB737_730.out; have hnc73 := NB730_737.out; have hnb74 := NB737_731.out; have hnc74 := NB731_737.out; have hnb75 := NB737_734.out; have hnc75 := NB734_737.out; have hnb76 := NB737_736.out; have hnc76 := NB736_737.out; have hcz77_0 : w72.cell? ⟨gb737, 0, none⟩ = some (.int .i64 0) := (blk_cell BK737.out 0).trans rfl; have hcz77_1 : w72.cell? ⟨gb737, 1, none⟩ = some (.int .i64 0) := (blk_cell BK737.out 1).trans rfl; have hcz77_2 : w72.cell? ⟨gb737, 2, none⟩ = some (.string (⟨#[]⟩ : ByteArray)) := (blk_cell BK737.out 2).trans rfl; have hfz77_0 := blk_frozen BK737.out 0; have hfz77_1 := blk_frozen BK737.out 1; have hfz77_2 := blk_frozen BK737.out 2; have hcz78_0 : w72.cell? ⟨gb736, 0, none⟩ = some (.string ((rd_T77 l0_1 x28_2).f0)) := (blk_cell BK736.out 0).trans rfl; have hcz78_1 : w72.cell? ⟨gb736, 1, none⟩ = some (.int .i64 ((rd_T77 l0_1 x28_2).f1.f0)) := (blk_cell BK736.out 1).trans rfl; have hcz78_2 : w72.cell? ⟨gb736, 2, none⟩ = some (.int .i64 ((rd_T77 l0_1 x28_2).f1.f1)) := (blk_cell BK736.out 2).trans rfl; have hcz78_3 : w72.cell? ⟨gb736, 3, none⟩ = some (.string ((rd_T77 l0_1 x28_2).f1.f2)) := (blk_cell BK736.out 3).trans rfl; have hfz78_0 := blk_frozen BK736.out 0; have hfz78_1 := blk_frozen BK736.out 1; have hfz78_2 := blk_frozen BK736.out 2; have hfz78_3 := blk_frozen BK736.out 3) | ((with_reducible refine gate_callee (f := 17) rfl ?_); refine goesL_ (some 41) rfl rfl Try.func17 (by kernel_rfl) rfl #[.slice A1 l1.length c1, .string ((rd_T77 l0_1 x28_2).f0)] rfl aG ?_; (with_reducible refine (subst_Get.calls k2 _ _ l1 ((rd_T77 l0_1 x28_2).f0) t741 t742 t743 false _ ?side1 ?side2 A44.out).mono ?_); (case side1 => exact Kd.C_below HR1.out (bB5 GE730.out GE731.out GE734.out GE736.out GE737.out)); (case side2 => exact HC1.out); rintro e w79 ⟨rfl, hb⟩; refine ⟨_, rfl, ?_⟩; have n0_ := Aside0.mk (Kd.R_below (sR ((Kd.R_mono (Kd.R_far (p := ⟨gb737, 2, none⟩) (Kd.R_far (p := ⟨gb737, 1, none⟩) (Kd.R_far (p := ⟨gb737, 0, none⟩) (Kd.R_mono HO_735001.out (fun k_ hk => (⟨hk, hk.2⟩ : _ ∧ k_ ≠ gb737))) (fun _ hk => hk.2) (.int .i64 ((rd_T77 l0_1 x28_2).f1.f0))) (fun _ hk => hk.2) (.int .i64 ((rd_T77 l0_1 x28_2).f1.f1))) (fun _ hk => hk.2) (.string ((rd_T77 l0_1 x28_2).f1.f2))) (fun _ h_ => h_.1)))) hb); have n1_ := Aside0.mk (blk_below (g := gb730) (o := .cells #[.string a0_0, .slice (some ad735) l0_1.length c0_1] 69 (0, 0)) (by refine bk ?_; refine blk_far ?_ NB730_737.out _; refine bk ?_; refine blk_far ?_ NB730_737.out _; refine bk ?_; refine blk_far ?_ NB730_737.out _; refine bk ?_; exact BK730.out) hb); have n2_ := Aside0.mk (blk_below (g := gb731) (o := .cells #[.string x732000_2, .slice none 0 0] 53 (0, 0)) (by refine bk ?_; refine blk_far ?_ NB731_737.out _; refine bk ?_; refine blk_far ?_ NB731_737.out _; refine bk ?_; refine blk_far ?_ NB731_737.out _; refine bk ?_; exact BK731.out) hb); have n3_ := Aside0.mk (blk_below (g := gb734) (o := .cells #[.string a0_0, u735001] 53 (0, 0)) (by refine bk ?_; refine blk_far ?_ NB734_737.out _; refine bk ?_; refine blk_far ?_ NB734_737.out _; refine bk ?_; refine blk_far ?_ NB734_737.out _; refine bk ?_; exact BK734.out) hb); have n4_ := Aside0.mk (blk_below (g := gb736) (o := .cells #[.string ((rd_T77 l0_1 x28_2).f0), .int .i64 ((rd_T77 l0_1 x28_2).f1.f0), .int .i64 ((rd_T77 l0_1 x28_2).f1.f1), .string ((rd_T77 l0_1 x28_2).f1.f2)] 77 (0, 0)) (by refine bk ?_; refine blk_far ?_ NB736_737.out _; refine bk ?_; refine blk_far ?_ NB736_737.out _; refine bk ?_; refine blk_far ?_ NB736_737.out _; refine bk ?_; exact BK736.out) hb); have n5_ := Aside0.mk (blk_below (g := gb737) (o := .cells #[.int .i64 ((rd_T77 l0_1 x28_2).f1.f0), .int .i64 ((rd_T77 l0_1 x28_2).f1.f1), .string ((rd_T77 l0_1 x28_2).f1.f2)] 24 (0, 0)) (by refine bk ?_; refine blk_put (cs := #[.int .i64 ((rd_T77 l0_1 x28_2).f1.f0), .int .i64 ((rd_T77 l0_1 x28_2).f1.f1), .string (⟨#[]⟩ : ByteArray)]) ?_ 2 _ rfl; refine bk ?_; refine blk_put (cs := #[.int .i64 ((rd_T77 l0_1 x28_2).f1.f0), .int .i64 0, .string (⟨#[]⟩ : ByteArray)]) ?_ 1 _ rfl; refine bk ?_; refine blk_put (cs := #[.int .i64 0, .int .i64 0, .string (⟨#[]⟩ : ByteArray)]) ?_ 0 _ rfl; refine bk ?_; exact BK737.out) hb); have n6_ := Aside0.mk (below_step (bB5 GE730.out GE731.out GE734.out GE736.out GE737.out) hb); clear HO_735001; clear BK730; clear BK731; clear BK734; clear BK736; clear BK737; clear HB; have HO_735001 := n0_; have BK730 := n1_; have BK731 := n2_; have BK734 := n3_; have BK736 := n4_; have BK737 := n5_; have HB := n6_; clear n0_ n1_ n2_ n3_ n4_ n5_ n6_; (try clear hb); (try clear hb2); (try clear hk); (try clear hi); have hcz80_0 : w79.cell? ⟨gb737, 0, none⟩ = some (.int .i64 ((rd_T77 l0_1 x28_2).f1.f0)) := (blk_cell BK737.out 0).trans rfl; have hcz80_1 : w79.cell? ⟨gb737, 1, none⟩ = some (.int .i64 ((rd_T77 l0_1 x28_2).f1.f1)) := (blk_cell BK737.out 1).trans rfl; have hcz80_2 : w79.cell? ⟨gb737, 2, none⟩ = some (.string ((rd_T77 l0_1 x28_2).f1.f2)) := (blk_cell BK737.out 2).trans rfl; have hfz80_0 := blk_frozen BK737.out 0; have hfz80_1 := blk_frozen BK737.out 1; have hfz80_2 := blk_frozen BK737.out 2; have hnb81 := NB731_730.out; have hnc81 := NB730_731.out; have hnb82 := NB731_734.out; have hnc82 := NB734_731.out; have hcz83_0 : w79.cell? ⟨gb731, 0, none⟩ = some (.string x732000_2) := (blk_cell BK731.out 0).trans rfl; have hcz83_1 : w79.cell? ⟨gb731, 1, none⟩ = some (.slice none 0 0) := (blk_cell BK731.out 1).trans rfl; have hfz83_0 := blk_frozen BK731.out 0; have hfz83_1 := blk_frozen BK731.out 1))
           refine bodyPost_ret (results_ct rfl _ _ gb731 53 #[.string (⟨#[]⟩ : ByteArray), .slice none 0 0] (0, 0) _ rfl (by refine bk ?_; refine blk_put (cs := #[.string (⟨#[]⟩ : ByteArray), .slice none 0 0]) ?_ 1 _ rfl; refine bk ?_; refine blk_put (cs := #[.string x732000_2, .slice none 0 0]) ?_ 0 _ rfl; refine bk ?_; refine blk_far ?_ NB731_737.out _; refine bk ?_; refine blk_far ?_ NB731_737.out _; refine bk ?_; refine blk_far ?_ NB731_737.out _; refine bk ?_; exact BK731.out) Try.underlying53 rfl (by kernel_rfl)) rfl ?_
           exact ⟨_, eW, by first | exact Kd.R_nil _ _ _ _ _ | exact Kd.N_nil _ _ _ _ _ | exact Kd.V_nil _ _ _ _ _ | exact Kd.Q_nil _ _ _ _ _ | exact Kd.S_nil _ _ _ _ _, (bB5 GE730.out GE731.out GE734.out GE736.out GE737.out)⟩
        ·rw [if_neg c23] at H
         exact absurd H (by simp)
       ·rw [if_neg c22] at H
        exact absurd H (by simp)
      ·rw [if_neg c21] at H
       have c21b0 : decide (x28_2 < (l0_1.length : Int)) = false := decide_eq_false c21
       clear c21
       simp only [Option.some.injEq, Prod.mk.injEq] at H
       obtain ⟨rfl, rfl, rfl⟩ := H
       have hnb84 := NB734_730.out
       have hnc84 := NB730_734.out
       have hnb85 := NB734_731.out
       have hnc85 := NB731_734.out
       have hcz86_0 : wr.cell? ⟨gb734, 0, none⟩ = some (.string a0_0) := (blk_cell BK734.out 0).trans rfl
       have hcz86_1 : wr.cell? ⟨gb734, 1, none⟩ = some (u735001) := (blk_cell BK734.out 1).trans rfl
       have hfz86_0 := blk_frozen BK734.out 0
       have hfz86_1 := blk_frozen BK734.out 1
       have hnb87 := NB731_730.out
       have hnc87 := NB730_731.out
       have hcz88_0 : wr.cell? ⟨gb731, 0, none⟩ = some (.string x732000_2) := (blk_cell BK731.out 0).trans rfl
       have hcz88_1 : wr.cell? ⟨gb731, 1, none⟩ = some (.slice none 0 0) := (blk_cell BK731.out 1).trans rfl
       have hfz88_0 := blk_frozen BK731.out 0
       have hfz88_1 := blk_frozen BK731.out 1
       obtain ⟨Ao89, co89, eo89⟩ := Kd.R_slice HO_735001.out
       subst eo89
       go_wp2
       refine bodyPost_ret (results_ct rfl _ _ gb731 53 #[.string a0_0, .slice Ao89 x735001_2.length co89] (0, 0) _ rfl (by refine bk ?_; refine blk_put (cs := #[.string a0_0, .slice none 0 0]) ?_ 1 _ rfl; refine bk ?_; refine blk_put (cs := #[.string x732000_2, .slice none 0 0]) ?_ 0 _ rfl; refine bk ?_; exact BK731.out) Try.underlying53 rfl (by kernel_rfl)) rfl ?_
       exact ⟨_, eW, by (with_reducible repeat (first | apply Kd.R_alloc | apply Kd.R_drewN | apply Kd.R_drew)); exact Kd.R_mono (Kd.R_far (p := ⟨gb731, 1, none⟩) (Kd.R_far (p := ⟨gb731, 0, none⟩) (Kd.R_types HO_735001.out BK731.out (by decide)) (fun _ hk => hk.2) (.string a0_0)) (fun _ hk => hk.2) (.slice Ao89 x735001_2.length co89)) (fun _ hk => trivial), (bB3 GE730.out GE731.out GE734.out)⟩
   ·rw [if_neg c13] at H
    have c13b0 : (x6_3 == 0) = false := beq_eq_false_iff_ne.mpr c13
    have c13b1 : (x6_3 != 0) = true := bne_iff_ne.mpr c13
    simp only [Option.some.injEq, Prod.mk.injEq] at H
    obtain ⟨rfl, rfl, rfl⟩ := H
    have hnb90 := NB731_730.out
    have hnc90 := NB730_731.out
    have hcz91_0 : wc.cell? ⟨gb731, 0, none⟩ = some (.string (⟨#[]⟩ : ByteArray)) := (blk_cell BK731.out 0).trans rfl
    have hcz91_1 : wc.cell? ⟨gb731, 1, none⟩ = some (.slice none 0 0) := (blk_cell BK731.out 1).trans rfl
    have hfz91_0 := blk_frozen BK731.out 0
    have hfz91_1 := blk_frozen BK731.out 1
    go_wp2
    refine bodyPost_ret (results_ct rfl _ _ gb731 53 #[.string (⟨#[]⟩ : ByteArray), .slice none 0 0] (0, 0) _ rfl (by refine bk ?_; refine blk_put (cs := #[.string (⟨#[]⟩ : ByteArray), .slice none 0 0]) ?_ 1 _ rfl; refine bk ?_; refine blk_put (cs := #[.string (⟨#[]⟩ : ByteArray), .slice none 0 0]) ?_ 0 _ rfl; refine bk ?_; exact BK731.out) Try.underlying53 rfl (by kernel_rfl)) rfl ?_
    exact ⟨_, eW, by first | exact Kd.R_nil _ _ _ _ _ | exact Kd.N_nil _ _ _ _ _ | exact Kd.V_nil _ _ _ _ _ | exact Kd.Q_nil _ _ _ _ _ | exact Kd.S_nil _ _ _ _ _, (bB2 GE730.out GE731.out)⟩

end Go.Proofs.Ytghommaokdhjmaa.P
namespace Go.Proofs.Ytghommaokdhjmaa.P
open Go.RowKit Go.Proofs.YtghommaokdhjmaaW.PrintWords Go.Proofs.YtghommaokdhjmaaW.PrintLast Go.Proofs.Ytghommaokdhjmaa.Gate
set_option linter.unusedVariables false
set_option linter.unusedSimpArgs false

/-! ### match_Vars: function 53 -/
def match_Vars.l0 : Nat → List ByteArray → List (S77) → Int → Int → Option (List ByteArray)
 | 0, _, _, _, _ => none
 | k + 1, x3, x7, x8, x9 => if x9 < x8 then (if 0 ≤ x9 then (if x9 < (x7.length : Int) then (if ((rd_T77 x7 x9).f0).toList = ([] : List UInt8) then (match_Vars.l0 k x3 x7 x8 (wrap64 (x9 + 1))) else ((slices_Contains_string_string.f k x3 ((rd_T77 x7 x9).f0)).bind fun t751 => (if t751 = true then (match_Vars.l0 k x3 x7 x8 (wrap64 (x9 + 1))) else (if x3.length < 8796093022208 then (match_Vars.l0 k (x3 ++ [(rd_T77 x7 x9).f0]) x7 x8 (wrap64 (x9 + 1))) else (none))))) else (none)) else (none)) else (some x3)
def match_Vars.f (k : Nat) (a0_0 : ByteArray) (l0_1 : List (S77)) : Option (List ByteArray) := match_Vars.l0 k ([] : List ByteArray) l0_1 (l0_1.length : Int) 0
theorem match_Vars.mono_l : ∀ k, (∀ y0 y1 y2 y3, LeO (match_Vars.l0 k y0 y1 y2 y3) (match_Vars.l0 (k + 1) y0 y1 y2 y3))
 | 0 => fun _ _ _ _ r h => by simp [match_Vars.l0] at h
 | k + 1 => by
  have ih0 := match_Vars.mono_l k
  ·intro y0 y1 y2 y3
   unfold match_Vars.l0
   repeat' first
   | (with_reducible exact ih0 _ _ _ _)
   | (with_reducible exact slices_Contains_string_string.mono _ _ _)
   | (with_reducible exact LeO.refl _)
   | (with_reducible exact LeO.none _)
   | (with_reducible refine LeO.ite ?_ ?_)
   | (with_reducible refine LeO.bind ?_ (fun _ => ?_))
theorem match_Vars.mono : ∀ a0 a1 k, LeO (match_Vars.f k a0 a1) (match_Vars.f (k + 1) a0 a1) := by
 intro a0 a1 k
 have ih0 := match_Vars.mono_l k
 unfold match_Vars.f
 repeat' first
   | (with_reducible exact ih0 _ _ _ _)
   | (with_reducible exact slices_Contains_string_string.mono _ _ _)
   | (with_reducible exact LeO.refl _)
   | (with_reducible exact LeO.none _)
   | (with_reducible refine LeO.ite ?_ ?_)
   | (with_reducible refine LeO.bind ?_ (fun _ => ?_))
set_option maxHeartbeats 8000000 in
set_option maxRecDepth 100000 in
theorem match_Vars.calls (k : Nat) (a0_0 : ByteArray) (A0_1 : Option Addr) (c0_1 : Nat) (l0_1 : List (S77)) (r : List ByteArray) (w : World) (hr0_1 : Kd.C k77 w A0_1 l0_1.length l0_1) (hc0_1 : l0_1.length ≤ c0_1) (h : match_Vars.f k a0_0 l0_1 = some r) :
  Calls Try.prog 53 #[.agg #[.string a0_0, .slice A0_1 l0_1.length c0_1]] w fun e w' => ∃ v0_ : Value, e = .returned (v0_) ∧ Kd.R Kd.string 9 w' w.heap.size (fun _ => True) v0_ r ∧ Below w.heap.size w w' := by
 have hu69 := Try.underlying69
 have hu77 := Try.underlying77
 have HR0_1 := Aside0.mk hr0_1
 have HC0_1 := Aside0.mk hc0_1
 clear hr0_1 hc0_1
 have HB := Aside0.mk (Below.refl w.heap.size w)
 have H : (match_Vars.l0 k ([] : List ByteArray) l0_1 (l0_1.length : Int) 0) = some r := h
 clear h
 have H' := Aside0.mk H
 clear H
 go_enter Try.func53, Try.ntmps53
 go_wp2_with (first | ((with_reducible refine gate_dst (N := 1) rfl ?_); refine bE (N := 1) (cs := #[.string a0_0, .slice A0_1 l0_1.length c0_1]) (t := 69) ?_; intro gb748 hg w2 hbox hb; have n0_ := Aside0.mk (below_step bB0 hb); have n1_ := Aside0.mk (hbox); have n2_ := Aside0.mk ((by rw [hg]; exact (below_size bB0) : w.heap.size ≤ gb748)); have n3_ := Aside0.mk ((by rw [hg]; exact (below_size bB0) : w.heap.size ≤ gb748)); clear HB; have HB := n0_; have BK748 := n1_; have GW748 := n2_; have GE748 := n3_; clear n0_ n1_ n2_ n3_; clear hb hbox hg; have hcz3_0 : w2.cell? ⟨gb748, 0, none⟩ = some (.string a0_0) := (blk_cell BK748.out 0).trans rfl; have hcz3_1 : w2.cell? ⟨gb748, 1, none⟩ = some (.slice A0_1 l0_1.length c0_1) := (blk_cell BK748.out 1).trans rfl; have hfz3_0 := blk_frozen BK748.out 0; have hfz3_1 := blk_frozen BK748.out 1))
 go_loopg [3, 9] k (fun kq v3 v9 w' => ∃ (x3_1 : List ByteArray) (x9_1 : Int), v9 = .int .i64 x9_1 ∧ Aside0 (match_Vars.l0 kq x3_1 l0_1 (l0_1.length : Int) x9_1 = some r) ∧ Aside0 (kq ≤ k) ∧ Aside0 (Kd.R Kd.string 9 w' w.heap.size (fun _ => True) v3 x3_1) ∧ Aside0 (w'.heap[gb748]? = some (.cells #[.string a0_0, (.slice A0_1 l0_1.length c0_1)] 69 (0, 0))) ∧ Aside0 (Below w.heap.size w w'))
 case atStart => exact ⟨(([] : List ByteArray)), (0), (by first | rfl | (simp; done) | (simp [*]; done)), H', ⟨Nat.le_refl _⟩, ⟨by first | exact Kd.R_nil _ _ _ _ _ | exact Kd.N_nil _ _ _ _ _ | exact Kd.V_nil _ _ _ _ _ | exact Kd.Q_nil _ _ _ _ _ | exact Kd.S_nil _ _ _ _ _⟩, ⟨by refine bk ?_; exact BK748.out⟩, ⟨(bB1 GE748.out)⟩⟩
 case round =>
  clear H'
  (try clear p2); (try clear hcz3_0); (try clear hcz3_1); (try clear hfz3_0); (try clear hfz3_1)
  obtain ⟨x3_1, x9_1, rfl, HA, HK1, HO_3, BK748, HB⟩ := hrel
  cases gk with
  | zero => exact absurd HA.out (by simp [match_Vars.l0])
  | succ k1 =>
   have H := HA.out
   clear HA
   simp only [match_Vars.l0] at H
   by_cases c4 : x9_1 < (l0_1.length : Int)
   ·rw [if_pos c4] at H
    have c4b0 : decide (x9_1 < (l0_1.length : Int)) = true := decide_eq_true c4
    clear c4
    by_cases c5 : 0 ≤ x9_1
    ·rw [if_pos c5] at H
     have c5b0 : decide (0 ≤ x9_1) = true := decide_eq_true c5
     clear c5
     by_cases c6 : x9_1 < (l0_1.length : Int)
     ·rw [if_pos c6] at H
      have c6b0 : decide (x9_1 < (l0_1.length : Int)) = true := decide_eq_true c6
      clear c6
      by_cases c7 : ((rd_T77 l0_1 x9_1).f0).toList = ([] : List UInt8)
      ·rw [if_pos c7] at H
       have c7b0 : (((rd_T77 l0_1 x9_1).f0).toList == ([] : List UInt8)) = true := beq_iff_eq.mpr c7
       have c7b1 : (((rd_T77 l0_1 x9_1).f0).toList != ([] : List UInt8)) = false := bne_eq_false_iff_eq.mpr c7
       clear c7
       have H' := Aside0.mk H
       clear H
       have p749 : 0 ≤ (x9_1 : Int) := of_decide_eq_true (by first | (with_reducible assumption) | assumption)
       have q749 : x9_1 < (l0_1.length : Int) := of_decide_eq_true (by first | (with_reducible assumption) | assumption)
       obtain ⟨ad749, e749, hx749_0, hx749_1, hx749_2, hx749_3⟩ := at_T77 HR0_1.out x9_1 p749 q749
       cases e749
       replace hx749_0 := (HB.out.cell (World.block_lt_of_cell? w _ hx749_0)).trans hx749_0
       replace hx749_1 := (HB.out.cell (World.block_lt_of_cell? w _ hx749_1)).trans hx749_1
       replace hx749_2 := (HB.out.cell (World.block_lt_of_cell? w _ hx749_2)).trans hx749_2
       replace hx749_3 := (HB.out.cell (World.block_lt_of_cell? w _ hx749_3)).trans hx749_3
       replace p749 := eq_true p749
       replace q749 := eq_true q749
       go_wp2_with (first | ((with_reducible refine gate_dst (N := 5) rfl ?_); refine bE (N := 5) (cs := #[.string (⟨#[]⟩ : ByteArray), .int .i64 0, .int .i64 0, .string (⟨#[]⟩ : ByteArray)]) (t := 77) ?_; intro gb750 hg w8 hbox hb; have n0_ := Aside0.mk (Kd.R_below (sR HO_3.out) hb); have n1_ := Aside0.mk (blk_below (g := gb748) (o := .cells #[.string a0_0, .slice (some ad749) l0_1.length c0_1] 69 (0, 0)) (by refine bk ?_; exact BK748.out) hb); have n2_ := Aside0.mk (below_step (bB1 GE748.out) hb); have n3_ := Aside0.mk (hbox); have n4_ := Aside0.mk ((by rw [hg]; exact (below_size (bB1 GE748.out)) : w.heap.size ≤ gb750)); have n5_ := Aside0.mk ((by rw [hg]; exact (below_size (bB1 GE748.out)) : w.heap.size ≤ gb750)); have n6_ := Aside0.mk ((by rw [hg]; exact Nat.ne_of_lt (blk_lt (g := gb748) (o := .cells #[.string a0_0, .slice (some ad749) l0_1.length c0_1] 69 (0, 0)) (by refine bk ?_; exact BK748.out)) : gb748 ≠ gb750)); have n7_ := Aside0.mk ((by rw [hg]; exact Nat.ne_of_gt (blk_lt (g := gb748) (o := .cells #[.string a0_0, .slice (some ad749) l0_1.length c0_1] 69 (0, 0)) (by refine bk ?_; exact BK748.out)) : gb750 ≠ gb748)); clear HO_3; clear BK748; clear HB; have HO_3 := n0_; have BK748 := n1_; have HB := n2_; have BK750 := n3_; have GW750 := n4_; have GE750 := n5_; have NB748_750 := n6_; have NB750_748 := n7_; clear n0_ n1_ n2_ n3_ n4_ n5_ n6_ n7_; clear hb hbox hg; have hnb9 := NB750_748.out; have hnc9 := NB748_750.out; have hcz10_0 : w8.cell? ⟨gb750, 0, none⟩ = some (.string (⟨#[]⟩ : ByteArray)) := (blk_cell BK750.out 0).trans rfl; have hcz10_1 : w8.cell? ⟨gb750, 1, none⟩ = some (.int .i64 0) := (blk_cell BK750.out 1).trans rfl; have hcz10_2 : w8.cell? ⟨gb750, 2, none⟩ = some (.int .i64 0) := (blk_cell BK750.out 2).trans rfl; have hcz10_3 : w8.cell? ⟨gb750, 3, none⟩ = some (.string (⟨#[]⟩ : ByteArray)) := (blk_cell BK750.out 3).trans rfl; have hfz10_0 := blk_frozen BK750.out 0; have hfz10_1 := blk_frozen BK750.out 1; have hfz10_2 := blk_frozen BK750.out 2; have hfz10_3 := blk_frozen BK750.out 3))
       go_roundg k1
       case measure => have := HK1.out; omega
       case rel => exact ⟨(x3_1), (wrap64 (x9_1 + 1)), (by first | rfl | (simp; done) | (simp [*]; done)), H', ⟨by have := HK1.out; omega⟩, ⟨by (with_reducible repeat (first | apply Kd.R_alloc | apply Kd.R_drewN | apply Kd.R_drew)); exact Kd.R_mono (Kd.R_far (p := ⟨gb750, 3, none⟩) (Kd.R_far (p := ⟨gb750, 2, none⟩) (Kd.R_far (p := ⟨gb750, 1, none⟩) (Kd.R_far (p := ⟨gb750, 0, none⟩) (Kd.R_types HO_3.out BK750.out (by decide)) (fun _ hk => hk.2) (.string ((rd_T77 l0_1 x9_1).f0))) (fun _ hk => hk.2) (.int .i64 ((rd_T77 l0_1 x9_1).f1.f0))) (fun _ hk => hk.2) (.int .i64 ((rd_T77 l0_1 x9_1).f1.f1))) (fun _ hk => hk.2) (.string ((rd_T77 l0_1 x9_1).f1.f2))) (fun _ hk => trivial)⟩, ⟨by refine bk ?_; refine blk_far ?_ NB748_750.out _; refine bk ?_; refine blk_far ?_ NB748_750.out _; refine bk ?_; refine blk_far ?_ NB748_750.out _; refine bk ?_; refine blk_far ?_ NB748_750.out _; refine bk ?_; exact BK748.out⟩, ⟨(bB2 GE748.out GE750.out)⟩⟩
      ·rw [if_neg c7] at H
       have c7b0 : (((rd_T77 l0_1 x9_1).f0).toList == ([] : List UInt8)) = false := beq_eq_false_iff_ne.mpr c7
       have c7b1 : (((rd_T77 l0_1 x9_1).f0).toList != ([] : List UInt8)) = true := bne_iff_ne.mpr c7
       replace H := Option.bind_eq_some_iff.mp H
       obtain ⟨t751, A110, H⟩ := H
       replace H : (if t751 = true then (match_Vars.l0 k1 x3_1 l0_1 (l0_1.length : Int) (wrap64 (x9_1 + 1))) else (if x3_1.length < 8796093022208 then (match_Vars.l0 k1 (x3_1 ++ [(rd_T77 l0_1 x9_1).f0]) l0_1 (l0_1.length : Int) (wrap64 (x9_1 + 1))) else (none))) = some r := H
       have A11 := Aside0.mk A110
       clear A110
       by_cases c12 : t751 = true
       ·subst c12
        have H1 : (match_Vars.l0 k1 x3_1 l0_1 (l0_1.length : Int) (wrap64 (x9_1 + 1))) = some r := by rw [if_pos rfl] at H; exact H
        clear H
        have H := H1
        clear H1
        have H' := Aside0.mk H
        clear H
        have p749 : 0 ≤ (x9_1 : Int) := of_decide_eq_true (by first | (with_reducible assumption) | assumption)
        have q749 : x9_1 < (l0_1.length : Int) := of_decide_eq_true (by first | (with_reducible assumption) | assumption)
        obtain ⟨ad749, e749, hx749_0, hx749_1, hx749_2, hx749_3⟩ := at_T77 HR0_1.out x9_1 p749 q749
        cases e749
        replace hx749_0 := (HB.out.cell (World.block_lt_of_cell? w _ hx749_0)).trans hx749_0
        replace hx749_1 := (HB.out.cell (World.block_lt_of_cell? w _ hx749_1)).trans hx749_1
        replace hx749_2 := (HB.out.cell (World.block_lt_of_cell? w _ hx749_2)).trans hx749_2
        replace hx749_3 := (HB.out.cell (World.block_lt_of_cell? w _ hx749_3)).trans hx749_3
        replace p749 := eq_true p749
        replace q749 := eq_true q749
        go_wp2_with (first | ((with_reducible refine gate_dst (N := 5) rfl ?_); refine bE (N := 5) (cs := #[.string (⟨#[]⟩ : ByteArray), .int .i64 0, .int .i64 0, .string (⟨#[]⟩ : ByteArray)]) (t := 77) ?_; intro gb750 hg w13 hbox hb; have n0_ := Aside0.mk (Kd.R_below (sR HO_3.out) hb); have n1_ := Aside0.mk (blk_below (g := gb748) (o := .cells #[.string a0_0, .slice (some ad749) l0_1.length c0_1] 69 (0, 0)) (by refine bk ?_; exact BK748.out) hb); have n2_ := Aside0.mk (below_step (bB1 GE748.out) hb); have n3_ := Aside0.mk (hbox); have n4_ := Aside0.mk ((by rw [hg]; exact (below_size (bB1 GE748.out)) : w.heap.size ≤ gb750)); have n5_ := Aside0.mk ((by rw [hg]; exact (below_size (bB1 GE748.out)) : w.heap.size ≤ gb750)); have n6_ := Aside0.mk ((by rw [hg]; exact Nat.ne_of_lt (blk_lt (g := gb748) (o := .cells #[.string a0_0, .slice (some ad749) l0_1.length c0_1] 69 (0, 0)) (by refine bk ?_; exact BK748.out)) : gb748 ≠ gb750)); have n7_ := Aside0.mk ((by rw [hg]; exact Nat.ne_of_gt (blk_lt (g := gb748) (o := .cells #[.string a0_0, .slice (some ad749) l0_1.length c0_1] 69 (0, 0)) (by refine bk ?_; exact BK748.out)) : gb750 ≠ gb748)); clear HO_3; clear BK748; clear HB; have HO_3 := n0_; have BK748 := n1_; have HB := n2_; have BK750 := n3_; have GW750 := n4_; have GE750 := n5_; have NB748_750 := n6_; have NB750_748 := n7_; clear n0_ n1_ n2_ n3_ n4_ n5_ n6_ n7_; clear hb hbox hg; have hnb14 := NB750_748.out; have hnc14 := NB748_750.out; have hcz15_0 : w13.cell? ⟨gb750, 0, none⟩ = some (.string (⟨#[]⟩ : ByteArray)) := (blk_cell BK750.out 0).trans rfl; have hcz15_1 : w13.cell? ⟨gb750, 1, none⟩ = some (.int .i64 0) := (blk_cell BK750.out 1).trans rfl; have hcz15_2 : w13.cell? ⟨gb750, 2, none⟩ = some (.int .i64 0) := (blk_cell BK750.out 2).trans rfl; have hcz15_3 : w13.cell? ⟨gb750, 3, none⟩ = some (.string (⟨#[]⟩ : ByteArray)) := (blk_cell BK750.out 3).trans rfl; have hfz15_0 := blk_frozen BK750.out 0; have hfz15_1 := blk_frozen BK750.out 1; have hfz15_2 := blk_frozen BK750.out 2; have hfz15_3 := blk_frozen BK750.out 3; obtain ⟨Ao16, co16, eo16⟩ := Kd.R_slice HO_3.out; subst eo16) | (go_at_call 85; (with_reducible refine (slices_Contains_string_string.calls k1 _ _ x3_1 ((rd_T77 l0_1 x9_1).f0) true _ ?side1 ?side2 A11.out).mono ?_); (case side1 => refine (Kd.R_reads' (e := 9) (base := w.heap.size) (ok := fun k_ => True) (n := x3_1.length) (c := co16) ?_).2.2; exact (sR ((Kd.R_mono (Kd.R_far (p := ⟨gb750, 3, none⟩) (Kd.R_far (p := ⟨gb750, 2, none⟩) (Kd.R_far (p := ⟨gb750, 1, none⟩) (Kd.R_far (p := ⟨gb750, 0, none⟩) (Kd.R_types HO_3.out BK750.out (by decide)) (fun _ hk => hk.2) (.string ((rd_T77 l0_1 x9_1).f0))) (fun _ hk => hk.2) (.int .i64 ((rd_T77 l0_1 x9_1).f1.f0))) (fun _ hk => hk.2) (.int .i64 ((rd_T77 l0_1 x9_1).f1.f1))) (fun _ hk => hk.2) (.string ((rd_T77 l0_1 x9_1).f1.f2))) (fun _ h_ => h_.1))))); (case side2 => exact (Kd.R_reads' HO_3.out).2.1); rintro e w' ⟨rfl, ⟨nd, rfl⟩⟩))
        go_roundg k1
        case measure => have := HK1.out; omega
        case rel => exact ⟨(x3_1), (wrap64 (x9_1 + 1)), (by first | rfl | (simp; done) | (simp [*]; done)), H', ⟨by have := HK1.out; omega⟩, ⟨by (with_reducible repeat (first | apply Kd.R_alloc | apply Kd.R_drewN | apply Kd.R_drew)); exact Kd.R_mono (Kd.R_far (p := ⟨gb750, 3, none⟩) (Kd.R_far (p := ⟨gb750, 2, none⟩) (Kd.R_far (p := ⟨gb750, 1, none⟩) (Kd.R_far (p := ⟨gb750, 0, none⟩) (Kd.R_types HO_3.out BK750.out (by decide)) (fun _ hk => hk.2) (.string ((rd_T77 l0_1 x9_1).f0))) (fun _ hk => hk.2) (.int .i64 ((rd_T77 l0_1 x9_1).f1.f0))) (fun _ hk => hk.2) (.int .i64 ((rd_T77 l0_1 x9_1).f1.f1))) (fun _ hk => hk.2) (.string ((rd_T77 l0_1 x9_1).f1.f2))) (fun _ hk => trivial)⟩, ⟨by refine bk ?_; refine blk_far ?_ NB748_750.out _; refine bk ?_; refine blk_far ?_ NB748_750.out _; refine bk ?_; refine blk_far ?_ NB748_750.out _; refine bk ?_; refine blk_far ?_ NB748_750.out _; refine bk ?_; exact BK748.out⟩, ⟨(bB2 GE748.out GE750.out)⟩⟩
       ·replace c12 := Bool.eq_false_iff.mpr c12
        subst c12
        have H1 : (if x3_1.length < 8796093022208 then (match_Vars.l0 k1 (x3_1 ++ [(rd_T77 l0_1 x9_1).f0]) l0_1 (l0_1.length : Int) (wrap64 (x9_1 + 1))) else (none)) = some r := by rw [if_neg (show ¬ (false = true) by decide)] at H; exact H
        clear H
        have H := H1
        clear H1
        by_cases c17 : x3_1.length < 8796093022208
        ·rw [if_pos c17] at H
         have LMc17 := Aside0.mk c17
         clear c17
         obtain ⟨y752, hy752⟩ : ∃ y_ : List ByteArray, y_ = (x3_1 ++ [(rd_T77 l0_1 x9_1).f0]) := ⟨_, rfl⟩
         replace H : (match_Vars.l0 k1 y752 l0_1 (l0_1.length : Int) (wrap64 (x9_1 + 1))) = some r := by first | (rw [hy752]; with_reducible exact H) | (have H2_ := (Option.bind_some _ _).symm.trans H; rw [hy752]; with_reducible exact H2_) | (have H2_ := (Option.bind_some _ _).symm.trans H; with_reducible exact H2_) | with_reducible exact H | (rw [hy752]; exact H) | exact H
         have Ny752 := Aside0.mk hy752
         clear hy752
         have H' := Aside0.mk H
         clear H
         have p749 : 0 ≤ (x9_1 : Int) := of_decide_eq_true (by first | (with_reducible assumption) | assumption)
         have q749 : x9_1 < (l0_1.length : Int) := of_decide_eq_true (by first | (with_reducible assumption) | assumption)
         obtain ⟨ad749, e749, hx749_0, hx749_1, hx749_2, hx749_3⟩ := at_T77 HR0_1.out x9_1 p749 q749
         cases e749
         replace hx749_0 := (HB.out.cell (World.block_lt_of_cell? w _ hx749_0)).trans hx749_0
         replace hx749_1 := (HB.out.cell (World.block_lt_of_cell? w _ hx749_1)).trans hx749_1
         replace hx749_2 := (HB.out.cell (World.block_lt_of_cell? w _ hx749_2)).trans hx749_2
         replace hx749_3 := (HB.out.cell (World.block_lt_of_cell? w _ hx749_3)).trans hx749_3
         replace p749 := eq_true p749
         replace q749 := eq_true q749
         go_wp2_with (first | ((with_reducible refine gate_dst (N := 5) rfl ?_); refine bE (N := 5) (cs := #[.string (⟨#[]⟩ : ByteArray), .int .i64 0, .int .i64 0, .string (⟨#[]⟩ : ByteArray)]) (t := 77) ?_; intro gb750 hg w18 hbox hb; have n0_ := Aside0.mk (Kd.R_below (sR HO_3.out) hb); have n1_ := Aside0.mk (blk_below (g := gb748) (o := .cells #[.string a0_0, .slice (some ad749) l0_1.length c0_1] 69 (0, 0)) (by refine bk ?_; exact BK748.out) hb); have n2_ := Aside0.mk (below_step (bB1 GE748.out) hb); have n3_ := Aside0.mk (hbox); have n4_ := Aside0.mk ((by rw [hg]; exact (below_size (bB1 GE748.out)) : w.heap.size ≤ gb750)); have n5_ := Aside0.mk ((by rw [hg]; exact (below_size (bB1 GE748.out)) : w.heap.size ≤ gb750)); have n6_ := Aside0.mk ((by rw [hg]; exact Nat.ne_of_lt (blk_lt (g := gb748) (o := .cells #[.string a0_0, .slice (some ad749) l0_1.length c0_1] 69 (0, 0)) (by refine bk ?_; exact BK748.out)) : gb748 ≠ gb750)); have n7_ := Aside0.mk ((by rw [hg]; exact Nat.ne_of_gt (blk_lt (g := gb748) (o := .cells #[.string a0_0, .slice (some ad749) l0_1.length c0_1] 69 (0, 0)) (by refine bk ?_; exact BK748.out)) : gb750 ≠ gb748)); clear HO_3; clear BK748; clear HB; have HO_3 := n0_; have BK748 := n1_; have HB := n2_; have BK750 := n3_; have GW750 := n4_; have GE750 := n5_; have NB748_750 := n6_; have NB750_748 := n7_; clear n0_ n1_ n2_ n3_ n4_ n5_ n6_ n7_; clear hb hbox hg; have hnb19 := NB750_748.out; have hnc19 := NB748_750.out; have hcz20_0 : w18.cell? ⟨gb750, 0, none⟩ = some (.string (⟨#[]⟩ : ByteArray)) := (blk_cell BK750.out 0).trans rfl; have hcz20_1 : w18.cell? ⟨gb750, 1, none⟩ = some (.int .i64 0) := (blk_cell BK750.out 1).trans rfl; have hcz20_2 : w18.cell? ⟨gb750, 2, none⟩ = some (.int .i64 0) := (blk_cell BK750.out 2).trans rfl; have hcz20_3 : w18.cell? ⟨gb750, 3, none⟩ = some (.string (⟨#[]⟩ : ByteArray)) := (blk_cell BK750.out 3).trans rfl; have hfz20_0 := blk_frozen BK750.out 0; have hfz20_1 := blk_frozen BK750.out 1; have hfz20_2 := blk_frozen BK750.out 2; have hfz20_3 := blk_frozen BK750.out 3; obtain ⟨Ao21, co21, eo21⟩ := Kd.R_slice HO_3.out; subst eo21) | (go_at_call 85; (with_reducible refine (slices_Contains_string_string.calls k1 _ _ x3_1 ((rd_T77 l0_1 x9_1).f0) false _ ?side1 ?side2 A11.out).mono ?_); (case side1 => refine (Kd.R_reads' (e := 9) (base := w.heap.size) (ok := fun k_ => True) (n := x3_1.length) (c := co21) ?_).2.2; exact (sR ((Kd.R_mono (Kd.R_far (p := ⟨gb750, 3, none⟩) (Kd.R_far (p := ⟨gb750, 2, none⟩) (Kd.R_far (p := ⟨gb750, 1, none⟩) (Kd.R_far (p := ⟨gb750, 0, none⟩) (Kd.R_types HO_3.out BK750.out (by decide)) (fun _ hk => hk.2) (.string ((rd_T77 l0_1 x9_1).f0))) (fun _ hk => hk.2) (.int .i64 ((rd_T77 l0_1 x9_1).f1.f0))) (fun _ hk => hk.2) (.int .i64 ((rd_T77 l0_1 x9_1).f1.f1))) (fun _ hk => hk.2) (.string ((rd_T77 l0_1 x9_1).f1.f2))) (fun _ h_ => h_.1))))); (case side2 => exact (Kd.R_reads' HO_3.out).2.1); rintro e w' ⟨rfl, ⟨nd, rfl⟩⟩) | ((with_reducible refine gate_builtin (b := .append) (xs := #[.tmp 23, .tmp 26]) rfl ?_); at_builtin; refine Kd.R_append Kd.string (w0 := w) w.heap.size rfl (.tmp 23) (.tmp 26) 74 9 (.string ⟨#[]⟩) 16 rfl Try.underlying74 info9 rfl (by decide) (by omega) (.slice Ao21 x3_1.length co21) x3_1 ((rd_T77 l0_1 x9_1).f0) [.string ((rd_T77 l0_1 x9_1).f0)] (fun _ => True) (fun _ => False) rfl (by first | (go_simp; done) | (go_simp; rfl)) ?aP (fun _ hk => hk.elim) ?aF ?aO ?aB ?aS ?aL ?_; (case aP => exact rfl); (case aB => exact (bB2 GE748.out GE750.out)); (case aF => exact (fun _ _ => trivial)); (case aO => exact (sR (Kd.R_mono (Kd.R_far (p := ⟨gb750, 3, none⟩) (Kd.R_far (p := ⟨gb750, 2, none⟩) (Kd.R_far (p := ⟨gb750, 1, none⟩) (Kd.R_far (p := ⟨gb750, 0, none⟩) (Kd.R_types HO_3.out BK750.out (by decide)) (fun _ hk => hk.2) (.string ((rd_T77 l0_1 x9_1).f0))) (fun _ hk => hk.2) (.int .i64 ((rd_T77 l0_1 x9_1).f1.f0))) (fun _ hk => hk.2) (.int .i64 ((rd_T77 l0_1 x9_1).f1.f1))) (fun _ hk => hk.2) (.string ((rd_T77 l0_1 x9_1).f1.f2))) (fun _ hk => trivial)))); (case aS => exact (below_size (bB2 GE748.out GE750.out))); (case aL => have := LMc17.out; omega); intro v753 w22 ho hb hg hat; rw [← Ny752.out] at ho; have n0_ := Aside0.mk (blk_grown (g := gb748) (o := .cells #[.string a0_0, .slice (some ad749) l0_1.length c0_1] 69 (0, 0)) (by refine bk ?_; refine blk_far ?_ NB748_750.out _; refine bk ?_; refine blk_far ?_ NB748_750.out _; refine bk ?_; refine blk_far ?_ NB748_750.out _; refine bk ?_; refine blk_far ?_ NB748_750.out _; refine bk ?_; exact BK748.out) hg (Kd.R_ne HO_3.out BK748.out (by decide))); have n1_ := Aside0.mk (blk_grown (g := gb750) (o := .cells #[.string ((rd_T77 l0_1 x9_1).f0), .int .i64 ((rd_T77 l0_1 x9_1).f1.f0), .int .i64 ((rd_T77 l0_1 x9_1).f1.f1), .string ((rd_T77 l0_1 x9_1).f1.f2)] 77 (0, 0)) (by refine bk ?_; refine blk_put (cs := #[.string ((rd_T77 l0_1 x9_1).f0), .int .i64 ((rd_T77 l0_1 x9_1).f1.f0), .int .i64 ((rd_T77 l0_1 x9_1).f1.f1), .string (⟨#[]⟩ : ByteArray)]) ?_ 3 _ rfl; refine bk ?_; refine blk_put (cs := #[.string ((rd_T77 l0_1 x9_1).f0), .int .i64 ((rd_T77 l0_1 x9_1).f1.f0), .int .i64 0, .string (⟨#[]⟩ : ByteArray)]) ?_ 2 _ rfl; refine bk ?_; refine blk_put (cs := #[.string ((rd_T77 l0_1 x9_1).f0), .int .i64 0, .int .i64 0, .string (⟨#[]⟩ : ByteArray)]) ?_ 1 _ rfl; refine bk ?_; refine blk_put (cs := #[.string (⟨#[]⟩ : ByteArray), .int .i64 0, .int .i64 0, .string (⟨#[]⟩ : ByteArray)]) ?_ 0 _ rfl; refine bk ?_; exact BK750.out) hg (Kd.R_ne HO_3.out BK750.out (by decide))); have n2_ := Aside0.mk (hb); have n3_ := Aside0.mk (ho); clear BK748; clear BK750; clear HB; clear HO_3; have BK748 := n0_; have BK750 := n1_; have HB := n2_; have HO754 := n3_; clear n0_ n1_ n2_ n3_; clear ho hb hg hat))
         go_roundg k1
         case measure => have := HK1.out; omega
         case rel => exact ⟨(y752), (wrap64 (x9_1 + 1)), (by first | rfl | (simp; done) | (simp [*]; done)), H', ⟨by have := HK1.out; omega⟩, ⟨by (with_reducible repeat (first | apply Kd.R_alloc | apply Kd.R_drewN | apply Kd.R_drew)); exact HO754.out⟩, ⟨by refine bk ?_; exact BK748.out⟩, ⟨(bB2 GE748.out GE750.out)⟩⟩
        ·rw [if_neg c17] at H
         exact absurd H (by simp)
     ·rw [if_neg c6] at H
      exact absurd H (by simp)
    ·rw [if_neg c5] at H
     exact absurd H (by simp)
   ·rw [if_neg c4] at H
    have c4b0 : decide (x9_1 < (l0_1.length : Int)) = false := decide_eq_false c4
    clear c4
    obtain rfl := Option.some.inj H
    go_wp2
    go_ret
    exact ⟨_, eW, by (with_reducible repeat (first | apply Kd.R_alloc | apply Kd.R_drewN | apply Kd.R_drew)); exact HO_3.out, (bB1 GE748.out)⟩

end Go.Proofs.Ytghommaokdhjmaa.P
