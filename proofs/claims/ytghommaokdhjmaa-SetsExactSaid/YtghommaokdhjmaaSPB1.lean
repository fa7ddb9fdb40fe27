/- A part of the proof: walks of the code and plain laws, printed and by hand; no condition. -/
import Derived.Test.YtghommaokdhjmaaSPA2
import Derived.Shelf.SlicesQ.IndexFunc
import Derived.DataElems
/- slices.IndexFunc and slices.ContainsFunc over whatever row of structs that came in, and whatever predicate that the closure answers for the row's elements; the row's reading is the only condition. -/
set_option linter.unusedVariables false
set_option linter.unusedSimpArgs false
namespace Go.Proofs.Ytghommaokdhjmaa.Cont
open Go.Shelf Go.RowKit Go.Lib Go.Proofs Go.Proofs.YtghommaokdhjmaaW.PrintWords
variable {P : Program} {ρ : Ren} {α : Type}
theorem row_at [Inhabited α] {d : Kd α} {w : World} {A : Option Addr} {l : List α} (hr : Kd.C d w A l.length l) {W : World} (hW : Go.RowKit.Below w.heap.size w W) {j : Nat} (hj : j < l.length) :
    ∃ ad cs, A = some ad ∧ cs.length = d.sz ∧ d.K W l[j]! cs ∧ Sem.run P (loadCellsFrom (ad.add (j * d.sz)) 0 d.sz #[]) W = .ok cs.toArray W := by
  obtain ⟨_, _, h⟩ := Kd.C_below hr hW
  obtain ⟨ad, hA, h2⟩ := h (by omega)
  obtain ⟨cs, hl, hK, hc⟩ := h2 j l[j]! (by rw [List.getElem?_eq_getElem hj, getElem!_pos l j hj])
  refine ⟨ad, cs, hA, hl, hK, run_loadCellsFrom_list P _ _ cs d.sz hl (fun i v hi => ?_)⟩
  rw [Addr.add_add]
  exact hc i v hi
/-- What is asked of a closure: at each element of the row it answers p, and turns nothing of what lay. -/
def Answers (P : Program) (g : Nat) (lb : Array Value) (d : Kd α) (l : List α) (p : α → Bool) (w : World) : Prop :=
  ∀ (W : World) (x : α) (cs : List Value), Go.RowKit.Below w.heap.size w W → x ∈ l → cs.length = d.sz → d.K W x cs → Calls P g (#[.agg cs.toArray] ++ lb) W fun e w' => e = .returned (.bool (p x)) ∧ Go.RowKit.Below w.heap.size w w'
set_option maxHeartbeats 4000000 in
theorem index [Inhabited α] (L : SlLaysH0.n6 P ρ) (d : Kd α) (k : Nat) (hk : d.sz = k) (aE : ∀ w, (isAgg (ρ.t 23)).run P w = .ok true w) (zE : ∀ w, (Go.sizeOf (ρ.t 23)).run P w = .ok k w) (p : α → Bool) (g : Nat) (lb : Array Value)
    (eg : ∀ args w, (callFunc g args).run P w = .ok (.enter g args) w) (A : Option Addr) (n c : Nat) (l : List α) (w : World) (hn : n = l.length) (hr : Kd.C d w A l.length l) (hp : Answers P g lb d l p w) :
    Calls P (ρ.f 6) #[.slice A n c, .func (.func g) #[] lb] w fun e w' => e = .returned (.int .i64 (Lib.idxBy (fun _ y => p y) (l.take n) default)) ∧ Go.RowKit.Below w.heap.size w w' := by
  have hbig : n ≤ 9223372036854775807 := by rw [hn]; exact hr.2.1
  have mixed := L.mixed; have t0 := L.t0; have a0 := L.a0; have z0 := L.z0; have v0 := L.v0; have t3 := L.t3; have a3 := L.a3; have z3 := L.z3; have v3 := L.v3; have t4 := L.t4; have a4 := L.a4; have z4 := L.z4; have v4 := L.v4; have t22 := L.t22; have a22 := L.a22; have z22 := L.z22; have v22 := L.v22; have t25 := L.t25; have a25 := L.a25; have z25 := L.z25; have v25 := L.v25
  have HN : Aside (n = l.length) := hn
  have HR : Aside (Kd.C d w A l.length l) := hr
  have HP : Aside (Answers P g lb d l p w) := hp
  have HK : Aside (d.sz = k) := hk
  clear hn hr hp hk
  obtain ⟨_, _, FG⟩ := L.f6
  go_enter FG, SlBodyH.n6_ntmps ρ
  go_wp2
  go_loopg [5, 8] n (fun gg _ s8 wr => ∃ kk : Nat, kk ≤ n ∧ n - kk ≤ gg ∧ s8 = .int .i64 kk ∧ Aside (Go.RowKit.Below w.heap.size w wr) ∧ Aside (∀ j, j < kk → p l[j]! = false))
  case atStart => exact ⟨0, Nat.zero_le _, by omega, rfl, Go.RowKit.Below.refl _ w, fun j hj => absurd hj (Nat.not_lt_zero _)⟩
  case round =>
    obtain ⟨kk, hkk, hg, rfl, BW, AN⟩ := hrel
    by_cases hlt : kk < n
    · have hltz : (kk : Int) < (n : Int) := by omega
      have hkl : kk < l.length := by have := HN.out; omega
      obtain ⟨ad, cs, hA, hcl, hK, l2⟩ := row_at (P := P) HR.out BW.out hkl
      have hcall := HP.out wr l[kk]! cs BW.out (by rw [getElem!_pos l kk hkl]; exact List.getElem_mem hkl) hcl hK
      rw [HK.out] at l2
      subst hA
      clear hK hcl
      have HL : Aside (kk < l.length) := hkl
      clear hkl
      generalize hy : l[kk]! = y at hcall
      have B : Aside (l[kk]! = y) := hy
      clear hy
      cases hq : p y with
      | true =>
        rw [hq] at hcall
        go_wp2_with (go_at_fn g; refine hcall.mono ?_; rintro e w' ⟨rfl, hb'⟩)
        go_ret
        refine ⟨?_, hb'⟩
        rw [Lib.idxBy_hit (fun _ y => p y) l n kk default hlt (by have := HN.out; omega) (by show p l[kk]! = true; rw [B.out]; exact hq) AN.out]
        rfl
      | false =>
        rw [hq] at hcall
        go_wp2_with (go_at_fn g; refine hcall.mono ?_; rintro e w' ⟨rfl, hb'⟩)
        go_roundg (n - (kk + 1))
        case measure => omega
        case rel =>
          refine ⟨kk + 1, by omega, by omega, by go_num, hb', (show Aside _ from fun j hj => ?_)⟩
          by_cases e : j = kk
          · subst e
            rw [B.out]; exact hq
          · exact AN.out j (by omega)
    · have hltz : ¬ (kk : Int) < (n : Int) := by omega
      have : kk = n := by omega
      subst this
      go_wp2
      go_ret
      refine ⟨?_, BW.out⟩
      rw [Lib.idxBy_miss (fun _ y => p y) l kk default AN.out]
      rfl
theorem contains [Inhabited α] (L : SlLaysH0.n8 P ρ) (d : Kd α) (k : Nat) (hk : d.sz = k) (aE : ∀ w, (isAgg (ρ.t 23)).run P w = .ok true w) (zE : ∀ w, (Go.sizeOf (ρ.t 23)).run P w = .ok k w) (p : α → Bool) (g : Nat) (lb : Array Value)
    (eg : ∀ args w, (callFunc g args).run P w = .ok (.enter g args) w) (A : Option Addr) (n c : Nat) (l : List α) (w : World) (hn : n = l.length) (hr : Kd.C d w A l.length l) (hp : Answers P g lb d l p w) :
    Calls P (ρ.f 8) #[.slice A n c, .func (.func g) #[] lb] w fun e w' => e = .returned (.bool (l.any p)) ∧ Go.RowKit.Below w.heap.size w w' := by
  rw [show l.any p = decide (0 ≤ Lib.idxBy (fun _ y => p y) (l.take n) default) by rw [Lib.idxBy_nonneg_iff, hn, List.take_length]]
  have mixed := L.mixed; have t0 := L.t0; have a0 := L.a0; have z0 := L.z0; have v0 := L.v0; have t3 := L.t3; have a3 := L.a3; have z3 := L.z3; have v3 := L.v3; have t4 := L.t4; have a4 := L.a4; have z4 := L.z4; have v4 := L.v4; have t22 := L.t22; have a22 := L.a22; have z22 := L.z22; have v22 := L.v22; have t25 := L.t25; have a25 := L.a25; have z25 := L.z25; have v25 := L.v25
  have e6 : ∀ args w, (callFunc (ρ.f 6) args).run P w = .ok (.enter (ρ.f 6) args) w := L.f6.enters rfl
  have hcon := index { L with } d k hk aE zE p g lb eg A n c l w hn hr hp
  clear hn hr hp hk
  obtain ⟨_, _, FG⟩ := L.f8
  go_enter FG, SlBodyH.n8_ntmps ρ
  go_wp2_with (go_at_fn (ρ.f 6); refine hcon.mono ?_; rintro e w' ⟨rfl, hb'⟩)
  go_ret
  exact ⟨rfl, hb'⟩
end Go.Proofs.Ytghommaokdhjmaa.Cont
namespace Go.Proofs.Ytghommaokdhjmaa.P
open Go.RowKit Go.Proofs.YtghommaokdhjmaaW.PrintWords Go.Proofs.YtghommaokdhjmaaW.PrintLast Go.Proofs.Ytghommaokdhjmaa.Gate
set_option linter.unusedVariables false
set_option linter.unusedSimpArgs false

/-! ### val_small: function 118 -/
def val_small.f (a0 : Int) : Option (Bool) := if a0 ≥ 97 then (some (decide (a0 ≤ 122))) else (some false)
set_option maxHeartbeats 8000000 in
set_option maxRecDepth 100000 in
theorem val_small.calls (a0 : Int) (r : Bool) (w : World) (h : val_small.f a0 = some r) :
  Calls Try.prog 118 #[.int .u8 a0] w fun e w' => e = .returned (.bool r) ∧ Drawn0 w w' := by
 have H : (if a0 ≥ 97 then (some (decide (a0 ≤ 122))) else (some false)) = some r := h
 clear h
 by_cases c2 : a0 ≥ 97
 ·rw [if_pos c2] at H
  have c2b0 : decide (97 ≤ a0) = true := decide_eq_true c2
  clear c2
  obtain rfl := Option.some.inj H
  go_enter Try.func118, Try.ntmps118
  go_wp2
  go_ret
  exact ⟨by first | rfl | (simp; done) | (simp [*]; done), by repeat (first | exact Drawn0.refl _ | apply Drawn0.step)⟩
 ·rw [if_neg c2] at H
  have c2b0 : decide (97 ≤ a0) = false := decide_eq_false c2
  clear c2
  obtain rfl := Option.some.inj H
  go_enter Try.func118, Try.ntmps118
  go_wp2
  go_ret
  exact ⟨by first | rfl | (simp; done) | (simp [*]; done), by repeat (first | exact Drawn0.refl _ | apply Drawn0.step)⟩

end Go.Proofs.Ytghommaokdhjmaa.P
namespace Go.Proofs.Ytghommaokdhjmaa.P
open Go.RowKit Go.Proofs.YtghommaokdhjmaaW.PrintWords Go.Proofs.YtghommaokdhjmaaW.PrintLast Go.Proofs.Ytghommaokdhjmaa.Gate
set_option linter.unusedVariables false
set_option linter.unusedSimpArgs false

/-! ### val_large: function 119 -/
def val_large.f (a0 : Int) : Option (Bool) := if a0 ≥ 65 then (some (decide (a0 ≤ 90))) else (some false)
set_option maxHeartbeats 8000000 in
set_option maxRecDepth 100000 in
theorem val_large.calls (a0 : Int) (r : Bool) (w : World) (h : val_large.f a0 = some r) :
  Calls Try.prog 119 #[.int .u8 a0] w fun e w' => e = .returned (.bool r) ∧ Drawn0 w w' := by
 have H : (if a0 ≥ 65 then (some (decide (a0 ≤ 90))) else (some false)) = some r := h
 clear h
 by_cases c2 : a0 ≥ 65
 ·rw [if_pos c2] at H
  have c2b0 : decide (65 ≤ a0) = true := decide_eq_true c2
  clear c2
  obtain rfl := Option.some.inj H
  go_enter Try.func119, Try.ntmps119
  go_wp2
  go_ret
  exact ⟨by first | rfl | (simp; done) | (simp [*]; done), by repeat (first | exact Drawn0.refl _ | apply Drawn0.step)⟩
 ·rw [if_neg c2] at H
  have c2b0 : decide (65 ≤ a0) = false := decide_eq_false c2
  clear c2
  obtain rfl := Option.some.inj H
  go_enter Try.func119, Try.ntmps119
  go_wp2
  go_ret
  exact ⟨by first | rfl | (simp; done) | (simp [*]; done), by repeat (first | exact Drawn0.refl _ | apply Drawn0.step)⟩

end Go.Proofs.Ytghommaokdhjmaa.P
namespace Go.Proofs.Ytghommaokdhjmaa.P
open Go.RowKit Go.Proofs.YtghommaokdhjmaaW.PrintWords Go.Proofs.YtghommaokdhjmaaW.PrintLast Go.Proofs.Ytghommaokdhjmaa.Gate
set_option linter.unusedVariables false
set_option linter.unusedSimpArgs false

/-! ### val_digit: function 120 -/
def val_digit.f (a0 : Int) : Option (Bool) := if a0 ≥ 48 then (some (decide (a0 ≤ 57))) else (some false)
set_option maxHeartbeats 8000000 in
set_option maxRecDepth 100000 in
theorem val_digit.calls (a0 : Int) (r : Bool) (w : World) (h : val_digit.f a0 = some r) :
  Calls Try.prog 120 #[.int .u8 a0] w fun e w' => e = .returned (.bool r) ∧ Drawn0 w w' := by
 have H : (if a0 ≥ 48 then (some (decide (a0 ≤ 57))) else (some false)) = some r := h
 clear h
 by_cases c2 : a0 ≥ 48
 ·rw [if_pos c2] at H
  have c2b0 : decide (48 ≤ a0) = true := decide_eq_true c2
  clear c2
  obtain rfl := Option.some.inj H
  go_enter Try.func120, Try.ntmps120
  go_wp2
  go_ret
  exact ⟨by first | rfl | (simp; done) | (simp [*]; done), by repeat (first | exact Drawn0.refl _ | apply Drawn0.step)⟩
 ·rw [if_neg c2] at H
  have c2b0 : decide (48 ≤ a0) = false := decide_eq_false c2
  clear c2
  obtain rfl := Option.some.inj H
  go_enter Try.func120, Try.ntmps120
  go_wp2
  go_ret
  exact ⟨by first | rfl | (simp; done) | (simp [*]; done), by repeat (first | exact Drawn0.refl _ | apply Drawn0.step)⟩

end Go.Proofs.Ytghommaokdhjmaa.P
namespace Go.Proofs.Ytghommaokdhjmaa.P
open Go.RowKit Go.Proofs.YtghommaokdhjmaaW.PrintWords Go.Proofs.YtghommaokdhjmaaW.PrintLast Go.Proofs.Ytghommaokdhjmaa.Gate
set_option linter.unusedVariables false
set_option linter.unusedSimpArgs false

/-! ### val_symbol: function 108 -/
mutual
def val_symbol.j0 : Nat → ByteArray → Bool → Option (Bool)
 | 0, _, _ => none
 | k + 1, x0, x17 => if x17 = true then (some false) else (val_symbol.l0 k x0 (x0.size : Int) 0)
def val_symbol.l0 : Nat → ByteArray → Int → Int → Option (Bool)
 | 0, _, _, _ => none
 | k + 1, x0, x19, x20 => if x20 < x19 then (if 0 ≤ x20 then (if x20 < (x0.size : Int) then ((val_small.f (bt x0 x20)).bind fun t114 => (if t114 = true then (val_symbol.l0 k x0 x19 (wrap64 (x20 + 1))) else ((val_large.f (bt x0 x20)).bind fun t115 => (if t115 = true then (val_symbol.l0 k x0 x19 (wrap64 (x20 + 1))) else ((val_digit.f (bt x0 x20)).bind fun t116 => (if t116 = true then (val_symbol.l0 k x0 x19 (wrap64 (x20 + 1))) else (if (bt x0 x20) = 95 then (val_symbol.l0 k x0 x19 (wrap64 (x20 + 1))) else (some false)))))))) else (none)) else (none)) else (some true)
end
def val_symbol.f (k : Nat) (a0 : ByteArray) : Option (Bool) := if (a0.size : Int) < 1 then (val_symbol.j0 k a0 true) else (if (a0.size : Int) > 24 then (val_symbol.j0 k a0 true) else (if 0 < (a0.size : Int) then ((val_small.f (bt a0 0)).bind fun t113 => (val_symbol.j0 k a0 (!t113))) else (none)))
theorem val_symbol.mono_l : ∀ k, (∀ y0 y1, LeO (val_symbol.j0 k y0 y1) (val_symbol.j0 (k + 1) y0 y1)) ∧ (∀ y0 y1 y2, LeO (val_symbol.l0 k y0 y1 y2) (val_symbol.l0 (k + 1) y0 y1 y2))
 | 0 => ⟨fun _ _ r h => by simp [val_symbol.j0] at h, fun _ _ _ r h => by simp [val_symbol.l0] at h⟩
 | k + 1 => by
  obtain ⟨ih0, ih1⟩ := val_symbol.mono_l k
  refine ⟨?_, ?_⟩
  ·intro y0 y1
   unfold val_symbol.j0
   repeat' first
   | (with_reducible exact ih0 _ _)
   | (with_reducible exact ih1 _ _ _)
   | (with_reducible exact LeO.refl _)
   | (with_reducible exact LeO.none _)
   | (with_reducible refine LeO.ite ?_ ?_)
   | (with_reducible refine LeO.bind ?_ (fun _ => ?_))
  ·intro y0 y1 y2
   unfold val_symbol.l0
   repeat' first
   | (with_reducible exact ih0 _ _)
   | (with_reducible exact ih1 _ _ _)
   | (with_reducible exact LeO.refl _)
   | (with_reducible exact LeO.none _)
   | (with_reducible refine LeO.ite ?_ ?_)
   | (with_reducible refine LeO.bind ?_ (fun _ => ?_))
theorem val_symbol.mono : ∀ a0 k, LeO (val_symbol.f k a0) (val_symbol.f (k + 1) a0) := by
 intro a0 k
 obtain ⟨ih0, ih1⟩ := val_symbol.mono_l k
 unfold val_symbol.f
 repeat' first
   | (with_reducible exact ih0 _ _)
   | (with_reducible exact ih1 _ _ _)
   | (with_reducible exact LeO.refl _)
   | (with_reducible exact LeO.none _)
   | (with_reducible refine LeO.ite ?_ ?_)
   | (with_reducible refine LeO.bind ?_ (fun _ => ?_))
set_option maxHeartbeats 8000000 in
set_option maxRecDepth 100000 in
theorem val_symbol.calls (k : Nat) (a0 : ByteArray) (r : Bool) (w : World) (h : val_symbol.f k a0 = some r) :
  Calls Try.prog 108 #[.string a0] w fun e w' => e = .returned (.bool r) ∧ Drawn0 w w' := by
 have H : (if (a0.size : Int) < 1 then (val_symbol.j0 k a0 true) else (if (a0.size : Int) > 24 then (val_symbol.j0 k a0 true) else (if 0 < (a0.size : Int) then ((val_small.f (bt a0 0)).bind fun t113 => (val_symbol.j0 k a0 (!t113))) else (none)))) = some r := h
 clear h
 have HC2 := Aside0.mk H
 clear H
 go_enter Try.func108, Try.ntmps108
 go_upto_region 1 with (fail)
 go_cut [17] (fun v17 wc => ∃ (kq : Nat) (x17_1 : Bool), v17 = .bool x17_1 ∧ Aside0 (val_symbol.j0 kq a0 x17_1 = some r) ∧ Aside0 (kq ≤ k) ∧ Drawn0 w wc)
 case first =>
  have H := HC2.out
  clear HC2
  by_cases c3 : (a0.size : Int) < 1
  ·rw [if_pos c3] at H
   have c3b0 : decide ((a0.size : Int) < 1) = true := decide_eq_true c3
   have c3b1 : decide (a0.size < 1) = true := decide_eq_true (by omega)
   clear c3
   (first | rw [c3b0] | (simp only [i64_w, i32_w]; rw [c3b0]) | skip)
   have H' := Aside0.mk H
   clear H
   go_wp2
   go_meet
   case rel => exact ⟨_, (true), (by first | rfl | (simp; done) | (simp [*]; done)), H', ⟨by first | omega | exact Nat.le_refl _⟩, by repeat (first | exact Drawn0.refl _ | apply Drawn0.step)⟩
  ·rw [if_neg c3] at H
   have c3b0 : decide ((a0.size : Int) < 1) = false := decide_eq_false c3
   have c3b1 : decide (a0.size < 1) = false := decide_eq_false (by omega)
   clear c3
   (first | rw [c3b0] | (simp only [i64_w, i32_w]; rw [c3b0]) | skip)
   by_cases c4 : (a0.size : Int) > 24
   ·rw [if_pos c4] at H
    have c4b0 : decide (24 < (a0.size : Int)) = true := decide_eq_true c4
    have c4b1 : decide (24 < a0.size) = true := decide_eq_true (by omega)
    clear c4
    have H' := Aside0.mk H
    clear H
    go_wp2
    go_meet
    case rel => exact ⟨_, (true), (by first | rfl | (simp; done) | (simp [*]; done)), H', ⟨by first | omega | exact Nat.le_refl _⟩, by repeat (first | exact Drawn0.refl _ | apply Drawn0.step)⟩
   ·rw [if_neg c4] at H
    have c4b0 : decide (24 < (a0.size : Int)) = false := decide_eq_false c4
    have c4b1 : decide (24 < a0.size) = false := decide_eq_false (by omega)
    clear c4
    by_cases c5 : 0 < (a0.size : Int)
    ·rw [if_pos c5] at H
     have c5b0 : decide (0 < (a0.size : Int)) = true := decide_eq_true c5
     have c5b1 : decide (0 < a0.size) = true := decide_eq_true (by omega)
     clear c5
     replace H := Option.bind_eq_some_iff.mp H
     obtain ⟨t113, A70, H⟩ := H
     replace H : (val_symbol.j0 k a0 (!t113)) = some r := H
     have A7 := Aside0.mk A70
     clear A70
     have H' := Aside0.mk H
     clear H
     have p6 : 0 ≤ (0 : Int) := (by omega)
     have q6 : 0 < a0.size := (by have : (0 : Int) < (a0.size : Int) := of_decide_eq_true (by first | (with_reducible assumption) | assumption); omega)
     have hx6 : ∀ h : 0 < a0.size, ((a0[0]'h).toNat : Int) = bt a0 0 := bt_at a0 0
     clear p6
     have qi6 : (0 < (a0.size : Int)) = True := eq_true (of_decide_eq_true (by first | (with_reducible assumption) | assumption))
     replace q6 := eq_true q6
     go_wp2_with (first | (go_at_call 118; (with_reducible refine (val_small.calls (bt a0 0) t113 _ A7.out).mono ?_); rintro e w' ⟨rfl, ⟨nd, rfl⟩⟩))
     go_meet
     case rel => exact ⟨_, (!t113), (by first | rfl | (simp; done) | (simp [*]; done)), H', ⟨by first | omega | exact Nat.le_refl _⟩, by repeat (first | exact Drawn0.refl _ | apply Drawn0.step)⟩
    ·rw [if_neg c5] at H
     exact absurd H (by simp)
 case rest =>
  clear HC2
  (try clear c1); (try clear p2); (try clear c3); (try clear c3b0); (try clear c3b1); (try clear c4); (try clear c4b0); (try clear c4b1); (try clear c5); (try clear c5b0); (try clear c5b1); (try clear p6); (try clear q6); (try clear hx6); (try clear qi6); (try clear p6); (try clear q6)
  obtain ⟨kq, x17_1, rfl, HA, HJ1, ⟨mc1, rfl⟩⟩ := hcut
  cases kq with
  | zero => exact absurd HA.out (by simp [val_symbol.j0])
  | succ kj1 =>
   have H := HA.out
   clear HA
   simp only [val_symbol.j0] at H
   by_cases c8 : x17_1 = true
   ·subst c8
    have H1 : (some false) = some r := by rw [if_pos rfl] at H; exact H
    clear H
    have H := H1
    clear H1
    obtain rfl := Option.some.inj H
    go_wp2
    go_ret
    exact ⟨by first | rfl | (simp; done) | (simp [*]; done), by repeat (first | exact Drawn0.refl _ | apply Drawn0.step)⟩
   ·replace c8 := Bool.eq_false_iff.mpr c8
    subst c8
    have H1 : (val_symbol.l0 kj1 a0 (a0.size : Int) 0) = some r := by rw [if_neg (show ¬ (false = true) by decide)] at H; exact H
    clear H
    have H := H1
    clear H1
    have H' := Aside0.mk H
    clear H
    go_wp2
    go_loopg [20] kj1 (fun kq v20 w' => ∃ (x20_2 : Int), v20 = .int .i64 x20_2 ∧ Aside0 (val_symbol.l0 kq a0 (a0.size : Int) x20_2 = some r) ∧ Aside0 (kq ≤ kj1) ∧ Drawn0 w w')
    case atStart => exact ⟨(0), (by first | rfl | (simp; done) | (simp [*]; done)), H', ⟨Nat.le_refl _⟩, by repeat (first | exact Drawn0.refl _ | apply Drawn0.step)⟩
    case round =>
     clear H'
     (try clear c1); (try clear p2); (try clear c3); (try clear c3b0); (try clear c3b1); (try clear c4); (try clear c4b0); (try clear c4b1); (try clear c5); (try clear c5b0); (try clear c5b1); (try clear p6); (try clear q6); (try clear hx6); (try clear qi6); (try clear c8); (try clear p2); (try clear p6); (try clear q6)
     obtain ⟨x20_2, rfl, HA, HK2, ⟨m2, rfl⟩⟩ := hrel
     cases gk with
     | zero => exact absurd HA.out (by simp [val_symbol.l0])
     | succ k2 =>
      have H := HA.out
      clear HA
      simp only [val_symbol.l0] at H
      by_cases c9 : x20_2 < (a0.size : Int)
      ·rw [if_pos c9] at H
       have c9b0 : decide (x20_2 < (a0.size : Int)) = true := decide_eq_true c9
       clear c9
       by_cases c10 : 0 ≤ x20_2
       ·rw [if_pos c10] at H
        have c10b0 : decide (0 ≤ x20_2) = true := decide_eq_true c10
        clear c10
        by_cases c11 : x20_2 < (a0.size : Int)
        ·rw [if_pos c11] at H
         have c11b0 : decide (x20_2 < (a0.size : Int)) = true := decide_eq_true c11
         clear c11
         replace H := Option.bind_eq_some_iff.mp H
         obtain ⟨t114, A130, H⟩ := H
         replace H : (if t114 = true then (val_symbol.l0 k2 a0 (a0.size : Int) (wrap64 (x20_2 + 1))) else ((val_large.f (bt a0 x20_2)).bind fun t115 => (if t115 = true then (val_symbol.l0 k2 a0 (a0.size : Int) (wrap64 (x20_2 + 1))) else ((val_digit.f (bt a0 x20_2)).bind fun t116 => (if t116 = true then (val_symbol.l0 k2 a0 (a0.size : Int) (wrap64 (x20_2 + 1))) else (if (bt a0 x20_2) = 95 then (val_symbol.l0 k2 a0 (a0.size : Int) (wrap64 (x20_2 + 1))) else (some false))))))) = some r := H
         have A13 := Aside0.mk A130
         clear A130
         by_cases c14 : t114 = true
         ·subst c14
          have H1 : (val_symbol.l0 k2 a0 (a0.size : Int) (wrap64 (x20_2 + 1))) = some r := by rw [if_pos rfl] at H; exact H
          clear H
          have H := H1
          clear H1
          have H' := Aside0.mk H
          clear H
          have p12 : 0 ≤ (x20_2 : Int) := of_decide_eq_true (by first | (with_reducible assumption) | assumption)
          have q12 : x20_2 < (a0.size : Int) := of_decide_eq_true (by first | (with_reducible assumption) | assumption)
          have hx12 := bt_at a0 x20_2
          replace p12 := eq_true p12
          replace q12 := eq_true q12
          go_wp2_with (first | ((with_reducible refine gate_callee (f := 118) rfl ?_); refine goesL_ (some 26) rfl rfl Try.func118 (by kernel_rfl) rfl #[.int .u8 (bt a0 x20_2)] rfl aG ?_; (with_reducible refine (val_small.calls (bt a0 x20_2) true _ A13.out).mono ?_); rintro e w' ⟨rfl, ⟨nd, rfl⟩⟩; refine ⟨_, rfl, ?_⟩))
          go_roundg k2
          case measure => have := HJ1.out; have := HK2.out; omega
          case rel => exact ⟨(wrap64 (x20_2 + 1)), (by first | rfl | (simp; done) | (simp [*]; done)), H', ⟨by have := HJ1.out; have := HK2.out; omega⟩, by repeat (first | exact Drawn0.refl _ | apply Drawn0.step)⟩
         ·replace c14 := Bool.eq_false_iff.mpr c14
          subst c14
          have H1 : ((val_large.f (bt a0 x20_2)).bind fun t115 => (if t115 = true then (val_symbol.l0 k2 a0 (a0.size : Int) (wrap64 (x20_2 + 1))) else ((val_digit.f (bt a0 x20_2)).bind fun t116 => (if t116 = true then (val_symbol.l0 k2 a0 (a0.size : Int) (wrap64 (x20_2 + 1))) else (if (bt a0 x20_2) = 95 then (val_symbol.l0 k2 a0 (a0.size : Int) (wrap64 (x20_2 + 1))) else (some false)))))) = some r := by rw [if_neg (show ¬ (false = true) by decide)] at H; exact H
          clear H
          have H := H1
          clear H1
          replace H := Option.bind_eq_some_iff.mp H
          obtain ⟨t115, A160, H⟩ := H
          replace H : (if t115 = true then (val_symbol.l0 k2 a0 (a0.size : Int) (wrap64 (x20_2 + 1))) else ((val_digit.f (bt a0 x20_2)).bind fun t116 => (if t116 = true then (val_symbol.l0 k2 a0 (a0.size : Int) (wrap64 (x20_2 + 1))) else (if (bt a0 x20_2) = 95 then (val_symbol.l0 k2 a0 (a0.size : Int) (wrap64 (x20_2 + 1))) else (some false))))) = some r := H
          have A16 := Aside0.mk A160
          clear A160
          by_cases c17 : t115 = true
          ·subst c17
           have H1 : (val_symbol.l0 k2 a0 (a0.size : Int) (wrap64 (x20_2 + 1))) = some r := by rw [if_pos rfl] at H; exact H
           clear H
           have H := H1
           clear H1
           have H' := Aside0.mk H
           clear H
           have p12 : 0 ≤ (x20_2 : Int) := of_decide_eq_true (by first | (with_reducible assumption) | assumption)
           have q12 : x20_2 < (a0.size : Int) := of_decide_eq_true (by first | (with_reducible assumption) | assumption)
           have hx12 := bt_at a0 x20_2
           replace p12 := eq_true p12
           replace q12 := eq_true q12
           go_wp2_with (first | ((with_reducible refine gate_callee (f := 118) rfl ?_); refine goesL_ (some 26) rfl rfl Try.func118 (by kernel_rfl) rfl #[.int .u8 (bt a0 x20_2)] rfl aG ?_; (with_reducible refine (val_small.calls (bt a0 x20_2) false _ A13.out).mono ?_); rintro e w' ⟨rfl, ⟨nd, rfl⟩⟩; refine ⟨_, rfl, ?_⟩; have p15 : 0 ≤ (x20_2 : Int) := of_decide_eq_true (by first | (with_reducible assumption) | assumption); have q15 : x20_2 < (a0.size : Int) := of_decide_eq_true (by first | (with_reducible assumption) | assumption); have hx15 := bt_at a0 x20_2; replace p15 := eq_true p15; replace q15 := eq_true q15) | (go_at_call 119; (with_reducible refine (val_large.calls (bt a0 x20_2) true _ A16.out).mono ?_); rintro e w' ⟨rfl, ⟨nd, rfl⟩⟩))
           go_roundg k2
           case measure => have := HJ1.out; have := HK2.out; omega
           case rel => exact ⟨(wrap64 (x20_2 + 1)), (by first | rfl | (simp; done) | (simp [*]; done)), H', ⟨by have := HJ1.out; have := HK2.out; omega⟩, by repeat (first | exact Drawn0.refl _ | apply Drawn0.step)⟩
          ·replace c17 := Bool.eq_false_iff.mpr c17
           subst c17
           have H1 : ((val_digit.f (bt a0 x20_2)).bind fun t116 => (if t116 = true then (val_symbol.l0 k2 a0 (a0.size : Int) (wrap64 (x20_2 + 1))) else (if (bt a0 x20_2) = 95 then (val_symbol.l0 k2 a0 (a0.size : Int) (wrap64 (x20_2 + 1))) else (some false)))) = some r := by rw [if_neg (show ¬ (false = true) by decide)] at H; exact H
           clear H
           have H := H1
           clear H1
           replace H := Option.bind_eq_some_iff.mp H
           obtain ⟨t116, A190, H⟩ := H
           replace H : (if t116 = true then (val_symbol.l0 k2 a0 (a0.size : Int) (wrap64 (x20_2 + 1))) else (if (bt a0 x20_2) = 95 then (val_symbol.l0 k2 a0 (a0.size : Int) (wrap64 (x20_2 + 1))) else (some false))) = some r := H
           have A19 := Aside0.mk A190
           clear A190
           by_cases c20 : t116 = true
           ·subst c20
            have H1 : (val_symbol.l0 k2 a0 (a0.size : Int) (wrap64 (x20_2 + 1))) = some r := by rw [if_pos rfl] at H; exact H
            clear H
            have H := H1
            clear H1
            have H' := Aside0.mk H
            clear H
            have p12 : 0 ≤ (x20_2 : Int) := of_decide_eq_true (by first | (with_reducible assumption) | assumption)
            have q12 : x20_2 < (a0.size : Int) := of_decide_eq_true (by first | (with_reducible assumption) | assumption)
            have hx12 := bt_at a0 x20_2
            replace p12 := eq_true p12
            replace q12 := eq_true q12
            go_wp2_with (first | ((with_reducible refine gate_callee (f := 118) rfl ?_); refine goesL_ (some 26) rfl rfl Try.func118 (by kernel_rfl) rfl #[.int .u8 (bt a0 x20_2)] rfl aG ?_; (with_reducible refine (val_small.calls (bt a0 x20_2) false _ A13.out).mono ?_); rintro e w' ⟨rfl, ⟨nd, rfl⟩⟩; refine ⟨_, rfl, ?_⟩; have p15 : 0 ≤ (x20_2 : Int) := of_decide_eq_true (by first | (with_reducible assumption) | assumption); have q15 : x20_2 < (a0.size : Int) := of_decide_eq_true (by first | (with_reducible assumption) | assumption); have hx15 := bt_at a0 x20_2; replace p15 := eq_true p15; replace q15 := eq_true q15) | (go_at_call 119; (with_reducible refine (val_large.calls (bt a0 x20_2) false _ A16.out).mono ?_); rintro e w' ⟨rfl, ⟨nd, rfl⟩⟩; have p18 : 0 ≤ (x20_2 : Int) := of_decide_eq_true (by first | (with_reducible assumption) | assumption); have q18 : x20_2 < (a0.size : Int) := of_decide_eq_true (by first | (with_reducible assumption) | assumption); have hx18 := bt_at a0 x20_2; replace p18 := eq_true p18; replace q18 := eq_true q18) | (go_at_call 120; (with_reducible refine (val_digit.calls (bt a0 x20_2) true _ A19.out).mono ?_); rintro e w' ⟨rfl, ⟨nd, rfl⟩⟩))
            go_roundg k2
            case measure => have := HJ1.out; have := HK2.out; omega
            case rel => exact ⟨(wrap64 (x20_2 + 1)), (by first | rfl | (simp; done) | (simp [*]; done)), H', ⟨by have := HJ1.out; have := HK2.out; omega⟩, by repeat (first | exact Drawn0.refl _ | apply Drawn0.step)⟩
           ·replace c20 := Bool.eq_false_iff.mpr c20
            subst c20
            have H1 : (if (bt a0 x20_2) = 95 then (val_symbol.l0 k2 a0 (a0.size : Int) (wrap64 (x20_2 + 1))) else (some false)) = some r := by rw [if_neg (show ¬ (false = true) by decide)] at H; exact H
            clear H
            have H := H1
            clear H1
            by_cases c22 : (bt a0 x20_2) = 95
            ·rw [if_pos c22] at H
             have c22b0 : ((bt a0 x20_2) == 95) = true := beq_iff_eq.mpr c22
             have c22b1 : ((bt a0 x20_2) != 95) = false := bne_eq_false_iff_eq.mpr c22
             clear c22
             have H' := Aside0.mk H
             clear H
             have p12 : 0 ≤ (x20_2 : Int) := of_decide_eq_true (by first | (with_reducible assumption) | assumption)
             have q12 : x20_2 < (a0.size : Int) := of_decide_eq_true (by first | (with_reducible assumption) | assumption)
             have hx12 := bt_at a0 x20_2
             replace p12 := eq_true p12
             replace q12 := eq_true q12
             go_wp2_with (first | ((with_reducible refine gate_callee (f := 118) rfl ?_); refine goesL_ (some 26) rfl rfl Try.func118 (by kernel_rfl) rfl #[.int .u8 (bt a0 x20_2)] rfl aG ?_; (with_reducible refine (val_small.calls (bt a0 x20_2) false _ A13.out).mono ?_); rintro e w' ⟨rfl, ⟨nd, rfl⟩⟩; refine ⟨_, rfl, ?_⟩; have p15 : 0 ≤ (x20_2 : Int) := of_decide_eq_true (by first | (with_reducible assumption) | assumption); have q15 : x20_2 < (a0.size : Int) := of_decide_eq_true (by first | (with_reducible assumption) | assumption); have hx15 := bt_at a0 x20_2; replace p15 := eq_true p15; replace q15 := eq_true q15) | (go_at_call 119; (with_reducible refine (val_large.calls (bt a0 x20_2) false _ A16.out).mono ?_); rintro e w' ⟨rfl, ⟨nd, rfl⟩⟩; have p18 : 0 ≤ (x20_2 : Int) := of_decide_eq_true (by first | (with_reducible assumption) | assumption); have q18 : x20_2 < (a0.size : Int) := of_decide_eq_true (by first | (with_reducible assumption) | assumption); have hx18 := bt_at a0 x20_2; replace p18 := eq_true p18; replace q18 := eq_true q18) | (go_at_call 120; (with_reducible refine (val_digit.calls (bt a0 x20_2) false _ A19.out).mono ?_); rintro e w' ⟨rfl, ⟨nd, rfl⟩⟩; have p21 : 0 ≤ (x20_2 : Int) := of_decide_eq_true (by first | (with_reducible assumption) | assumption); have q21 : x20_2 < (a0.size : Int) := of_decide_eq_true (by first | (with_reducible assumption) | assumption); have hx21 := bt_at a0 x20_2; replace p21 := eq_true p21; replace q21 := eq_true q21))
             go_roundg k2
             case measure => have := HJ1.out; have := HK2.out; omega
             case rel => exact ⟨(wrap64 (x20_2 + 1)), (by first | rfl | (simp; done) | (simp [*]; done)), H', ⟨by have := HJ1.out; have := HK2.out; omega⟩, by repeat (first | exact Drawn0.refl _ | apply Drawn0.step)⟩
            ·rw [if_neg c22] at H
             have c22b0 : ((bt a0 x20_2) == 95) = false := beq_eq_false_iff_ne.mpr c22
             have c22b1 : ((bt a0 x20_2) != 95) = true := bne_iff_ne.mpr c22
             obtain rfl := Option.some.inj H
             have p12 : 0 ≤ (x20_2 : Int) := of_decide_eq_true (by first | (with_reducible assumption) | assumption)
             have q12 : x20_2 < (a0.size : Int) := of_decide_eq_true (by first | (with_reducible assumption) | assumption)
             have hx12 := bt_at a0 x20_2
             replace p12 := eq_true p12
             replace q12 := eq_true q12
             go_wp2_with (first | ((with_reducible refine gate_callee (f := 118) rfl ?_); refine goesL_ (some 26) rfl rfl Try.func118 (by kernel_rfl) rfl #[.int .u8 (bt a0 x20_2)] rfl aG ?_; (with_reducible refine (val_small.calls (bt a0 x20_2) false _ A13.out).mono ?_); rintro e w' ⟨rfl, ⟨nd, rfl⟩⟩; refine ⟨_, rfl, ?_⟩; have p15 : 0 ≤ (x20_2 : Int) := of_decide_eq_true (by first | (with_reducible assumption) | assumption); have q15 : x20_2 < (a0.size : Int) := of_decide_eq_true (by first | (with_reducible assumption) | assumption); have hx15 := bt_at a0 x20_2; replace p15 := eq_true p15; replace q15 := eq_true q15) | (go_at_call 119; (with_reducible refine (val_large.calls (bt a0 x20_2) false _ A16.out).mono ?_); rintro e w' ⟨rfl, ⟨nd, rfl⟩⟩; have p18 : 0 ≤ (x20_2 : Int) := of_decide_eq_true (by first | (with_reducible assumption) | assumption); have q18 : x20_2 < (a0.size : Int) := of_decide_eq_true (by first | (with_reducible assumption) | assumption); have hx18 := bt_at a0 x20_2; replace p18 := eq_true p18; replace q18 := eq_true q18) | (go_at_call 120; (with_reducible refine (val_digit.calls (bt a0 x20_2) false _ A19.out).mono ?_); rintro e w' ⟨rfl, ⟨nd, rfl⟩⟩; have p21 : 0 ≤ (x20_2 : Int) := of_decide_eq_true (by first | (with_reducible assumption) | assumption); have q21 : x20_2 < (a0.size : Int) := of_decide_eq_true (by first | (with_reducible assumption) | assumption); have hx21 := bt_at a0 x20_2; replace p21 := eq_true p21; replace q21 := eq_true q21))
             go_ret
             exact ⟨by first | rfl | (simp; done) | (simp [*]; done), by repeat (first | exact Drawn0.refl _ | apply Drawn0.step)⟩
        ·rw [if_neg c11] at H
         exact absurd H (by simp)
       ·rw [if_neg c10] at H
        exact absurd H (by simp)
      ·rw [if_neg c9] at H
       have c9b0 : decide (x20_2 < (a0.size : Int)) = false := decide_eq_false c9
       clear c9
       obtain rfl := Option.some.inj H
       go_wp2
       go_ret
       exact ⟨by first | rfl | (simp; done) | (simp [*]; done), by repeat (first | exact Drawn0.refl _ | apply Drawn0.step)⟩

end Go.Proofs.Ytghommaokdhjmaa.P
namespace Go.Proofs.Ytghommaokdhjmaa.P
open Go.RowKit Go.Proofs.YtghommaokdhjmaaW.PrintWords Go.Proofs.YtghommaokdhjmaaW.PrintLast Go.Proofs.Ytghommaokdhjmaa.Gate
set_option linter.unusedVariables false
set_option linter.unusedSimpArgs false

/-! ### val_plain: function 109 -/
def val_plain.l0 : Nat → ByteArray → Int → Int → Option (Bool)
 | 0, _, _, _ => none
 | k + 1, x0, x5, x6 => if x6 < x5 then (if 0 ≤ x6 then (if x6 < (x0.size : Int) then (if (bt x0 x6) < 32 then (some false) else (if (bt x0 x6) > 126 then (some false) else (val_plain.l0 k x0 x5 (wrap64 (x6 + 1))))) else (none)) else (none)) else (some (decide ((x0.size : Int) ≤ 60)))
def val_plain.f (k : Nat) (a0 : ByteArray) : Option (Bool) := val_plain.l0 k a0 (a0.size : Int) 0
theorem val_plain.mono_l : ∀ k, (∀ y0 y1 y2, LeO (val_plain.l0 k y0 y1 y2) (val_plain.l0 (k + 1) y0 y1 y2))
 | 0 => fun _ _ _ r h => by simp [val_plain.l0] at h
 | k + 1 => by
  have ih0 := val_plain.mono_l k
  ·intro y0 y1 y2
   unfold val_plain.l0
   repeat' first
   | (with_reducible exact ih0 _ _ _)
   | (with_reducible exact LeO.refl _)
   | (with_reducible exact LeO.none _)
   | (with_reducible refine LeO.ite ?_ ?_)
   | (with_reducible refine LeO.bind ?_ (fun _ => ?_))
theorem val_plain.mono : ∀ a0 k, LeO (val_plain.f k a0) (val_plain.f (k + 1) a0) := by
 intro a0 k
 have ih0 := val_plain.mono_l k
 unfold val_plain.f
 repeat' first
   | (with_reducible exact ih0 _ _ _)
   | (with_reducible exact LeO.refl _)
   | (with_reducible exact LeO.none _)
   | (with_reducible refine LeO.ite ?_ ?_)
   | (with_reducible refine LeO.bind ?_ (fun _ => ?_))
set_option maxHeartbeats 8000000 in
set_option maxRecDepth 100000 in
theorem val_plain.calls (k : Nat) (a0 : ByteArray) (r : Bool) (w : World) (h : val_plain.f k a0 = some r) :
  Calls Try.prog 109 #[.string a0] w fun e w' => e = .returned (.bool r) ∧ Drawn0 w w' := by
 have H : (val_plain.l0 k a0 (a0.size : Int) 0) = some r := h
 clear h
 have H' := Aside0.mk H
 clear H
 go_enter Try.func109, Try.ntmps109
 go_wp2
 go_loopg [6] k (fun kq v6 w' => ∃ (x6_1 : Int), v6 = .int .i64 x6_1 ∧ Aside0 (val_plain.l0 kq a0 (a0.size : Int) x6_1 = some r) ∧ Aside0 (kq ≤ k) ∧ Drawn0 w w')
 case atStart => exact ⟨(0), (by first | rfl | (simp; done) | (simp [*]; done)), H', ⟨Nat.le_refl _⟩, by repeat (first | exact Drawn0.refl _ | apply Drawn0.step)⟩
 case round =>
  clear H'
  (try clear c1)
  obtain ⟨x6_1, rfl, HA, HK1, ⟨m1, rfl⟩⟩ := hrel
  cases gk with
  | zero => exact absurd HA.out (by simp [val_plain.l0])
  | succ k1 =>
   have H := HA.out
   clear HA
   simp only [val_plain.l0] at H
   by_cases c2 : x6_1 < (a0.size : Int)
   ·rw [if_pos c2] at H
    have c2b0 : decide (x6_1 < (a0.size : Int)) = true := decide_eq_true c2
    clear c2
    by_cases c3 : 0 ≤ x6_1
    ·rw [if_pos c3] at H
     have c3b0 : decide (0 ≤ x6_1) = true := decide_eq_true c3
     clear c3
     by_cases c4 : x6_1 < (a0.size : Int)
     ·rw [if_pos c4] at H
      have c4b0 : decide (x6_1 < (a0.size : Int)) = true := decide_eq_true c4
      clear c4
      by_cases c6 : (bt a0 x6_1) < 32
      ·rw [if_pos c6] at H
       have c6b0 : decide ((bt a0 x6_1) < 32) = true := decide_eq_true c6
       clear c6
       obtain rfl := Option.some.inj H
       have p5 : 0 ≤ (x6_1 : Int) := of_decide_eq_true (by first | (with_reducible assumption) | assumption)
       have q5 : x6_1 < (a0.size : Int) := of_decide_eq_true (by first | (with_reducible assumption) | assumption)
       have hx5 := bt_at a0 x6_1
       replace p5 := eq_true p5
       replace q5 := eq_true q5
       go_wp2
       go_ret
       exact ⟨by first | rfl | (simp; done) | (simp [*]; done), by repeat (first | exact Drawn0.refl _ | apply Drawn0.step)⟩
      ·rw [if_neg c6] at H
       have c6b0 : decide ((bt a0 x6_1) < 32) = false := decide_eq_false c6
       clear c6
       by_cases c8 : (bt a0 x6_1) > 126
       ·rw [if_pos c8] at H
        have c8b0 : decide (126 < (bt a0 x6_1)) = true := decide_eq_true c8
        clear c8
        obtain rfl := Option.some.inj H
        have p5 : 0 ≤ (x6_1 : Int) := of_decide_eq_true (by first | (with_reducible assumption) | assumption)
        have q5 : x6_1 < (a0.size : Int) := of_decide_eq_true (by first | (with_reducible assumption) | assumption)
        have hx5 := bt_at a0 x6_1
        replace p5 := eq_true p5
        replace q5 := eq_true q5
        have p7 : 0 ≤ (x6_1 : Int) := of_decide_eq_true (by first | (with_reducible assumption) | assumption)
        have q7 : x6_1 < (a0.size : Int) := of_decide_eq_true (by first | (with_reducible assumption) | assumption)
        have hx7 := bt_at a0 x6_1
        replace p7 := eq_true p7
        replace q7 := eq_true q7
        go_wp2
        go_ret
        exact ⟨by first | rfl | (simp; done) | (simp [*]; done), by repeat (first | exact Drawn0.refl _ | apply Drawn0.step)⟩
       ·rw [if_neg c8] at H
        have c8b0 : decide (126 < (bt a0 x6_1)) = false := decide_eq_false c8
        clear c8
        have H' := Aside0.mk H
        clear H
        have p5 : 0 ≤ (x6_1 : Int) := of_decide_eq_true (by first | (with_reducible assumption) | assumption)
        have q5 : x6_1 < (a0.size : Int) := of_decide_eq_true (by first | (with_reducible assumption) | assumption)
        have hx5 := bt_at a0 x6_1
        replace p5 := eq_true p5
        replace q5 := eq_true q5
        have p7 : 0 ≤ (x6_1 : Int) := of_decide_eq_true (by first | (with_reducible assumption) | assumption)
        have q7 : x6_1 < (a0.size : Int) := of_decide_eq_true (by first | (with_reducible assumption) | assumption)
        have hx7 := bt_at a0 x6_1
        replace p7 := eq_true p7
        replace q7 := eq_true q7
        go_wp2
        go_roundg k1
        case measure => have := HK1.out; omega
        case rel => exact ⟨(wrap64 (x6_1 + 1)), (by first | rfl | (simp; done) | (simp [*]; done)), H', ⟨by have := HK1.out; omega⟩, by repeat (first | exact Drawn0.refl _ | apply Drawn0.step)⟩
     ·rw [if_neg c4] at H
      exact absurd H (by simp)
    ·rw [if_neg c3] at H
     exact absurd H (by simp)
   ·rw [if_neg c2] at H
    have c2b0 : decide (x6_1 < (a0.size : Int)) = false := decide_eq_false c2
    clear c2
    obtain rfl := Option.some.inj H
    go_wp2
    go_ret
    exact ⟨by first | rfl | (simp; done) | (simp [*]; done), by repeat (first | exact Drawn0.refl _ | apply Drawn0.step)⟩

end Go.Proofs.Ytghommaokdhjmaa.P
namespace Go.Proofs.Ytghommaokdhjmaa.P
open Go.RowKit Go.Proofs.YtghommaokdhjmaaW.PrintWords Go.Proofs.YtghommaokdhjmaaW.PrintLast Go.Proofs.Ytghommaokdhjmaa.Gate
set_option linter.unusedVariables false
set_option linter.unusedSimpArgs false

/-! ### val_Check: function 87 -/
def val_Check.f (k : Nat) (a0_0 : Int) (a0_1 : Int) (a0_2 : ByteArray) : Option (Int) := if a0_0 = 1 then (if a0_1 ≥ (-4611686018427387904) then (if a0_1 ≤ 4611686018427387904 then (if (a0_2.toList = ([] : List UInt8)) then (some 0) else (some 1)) else (some 1)) else (some 1)) else (if a0_0 = 2 then (if a0_1 = 0 then ((val_symbol.f k a0_2).bind fun t118 => (if t118 = true then (some 0) else (some 1))) else (some 1)) else (if a0_0 = 3 then (if a0_1 = 0 then ((val_plain.f k a0_2).bind fun t119 => (if t119 = true then (some 0) else (some 1))) else (some 1)) else (some 1)))
theorem val_Check.mono : ∀ a0 a1 a2 k, LeO (val_Check.f k a0 a1 a2) (val_Check.f (k + 1) a0 a1 a2) := by
 intro a0 a1 a2 k
 unfold val_Check.f
 repeat' first
   | (with_reducible exact val_plain.mono _ _)
   | (with_reducible exact val_symbol.mono _ _)
   | (with_reducible exact LeO.refl _)
   | (with_reducible exact LeO.none _)
   | (with_reducible refine LeO.ite ?_ ?_)
   | (with_reducible refine LeO.bind ?_ (fun _ => ?_))
set_option maxHeartbeats 8000000 in
set_option maxRecDepth 100000 in
theorem val_Check.calls (k : Nat) (a0_0 : Int) (a0_1 : Int) (a0_2 : ByteArray) (r : Int) (w : World) (h : val_Check.f k a0_0 a0_1 a0_2 = some r) :
  Calls Try.prog 87 #[.agg #[.int .i64 a0_0, .int .i64 a0_1, .string a0_2]] w fun e w' => e = .returned (.int .i64 r) ∧ Below w.heap.size w w' := by
 have hu24 := Try.underlying24
 have HB := Aside0.mk (Below.refl w.heap.size w)
 have H : (if a0_0 = 1 then (if a0_1 ≥ (-4611686018427387904) then (if a0_1 ≤ 4611686018427387904 then (if (a0_2.toList = ([] : List UInt8)) then (some 0) else (some 1)) else (some 1)) else (some 1)) else (if a0_0 = 2 then (if a0_1 = 0 then ((val_symbol.f k a0_2).bind fun t118 => (if t118 = true then (some 0) else (some 1))) else (some 1)) else (if a0_0 = 3 then (if a0_1 = 0 then ((val_plain.f k a0_2).bind fun t119 => (if t119 = true then (some 0) else (some 1))) else (some 1)) else (some 1)))) = some r := h
 clear h
 by_cases c2 : a0_0 = 1
 ·rw [if_pos c2] at H
  have c2b0 : (a0_0 == 1) = true := beq_iff_eq.mpr c2
  have c2b1 : (a0_0 != 1) = false := bne_eq_false_iff_eq.mpr c2
  clear c2
  by_cases c3 : a0_1 ≥ (-4611686018427387904)
  ·rw [if_pos c3] at H
   have c3b0 : decide ((-4611686018427387904) ≤ a0_1) = true := decide_eq_true c3
   clear c3
   by_cases c4 : a0_1 ≤ 4611686018427387904
   ·rw [if_pos c4] at H
    have c4b0 : decide (a0_1 ≤ 4611686018427387904) = true := decide_eq_true c4
    clear c4
    by_cases c5 : (a0_2.toList = ([] : List UInt8))
    ·rw [if_pos c5] at H
     have c5b0 : (a0_2.toList == ([] : List UInt8)) = true := beq_iff_eq.mpr c5
     have c5b1 : (a0_2.toList != ([] : List UInt8)) = false := bne_eq_false_iff_eq.mpr c5
     clear c5
     obtain rfl := Option.some.inj H
     go_enter Try.func87, Try.ntmps87
     go_wp2_with (first | ((with_reducible refine gate_dst (N := 1) rfl ?_); refine bE (N := 1) (cs := #[.int .i64 a0_0, .int .i64 a0_1, .string a0_2]) (t := 24) ?_; intro gb117 hg w6 hbox hb; have n0_ := Aside0.mk (below_step bB0 hb); have n1_ := Aside0.mk (hbox); have n2_ := Aside0.mk ((by rw [hg]; exact (below_size bB0) : w.heap.size ≤ gb117)); have n3_ := Aside0.mk ((by rw [hg]; exact (below_size bB0) : w.heap.size ≤ gb117)); clear HB; have HB := n0_; have BK117 := n1_; have GW117 := n2_; have GE117 := n3_; clear n0_ n1_ n2_ n3_; clear hb hbox hg; have hcz7_0 : w6.cell? ⟨gb117, 0, none⟩ = some (.int .i64 a0_0) := (blk_cell BK117.out 0).trans rfl; have hcz7_1 : w6.cell? ⟨gb117, 1, none⟩ = some (.int .i64 a0_1) := (blk_cell BK117.out 1).trans rfl; have hcz7_2 : w6.cell? ⟨gb117, 2, none⟩ = some (.string a0_2) := (blk_cell BK117.out 2).trans rfl; have hfz7_0 := blk_frozen BK117.out 0; have hfz7_1 := blk_frozen BK117.out 1; have hfz7_2 := blk_frozen BK117.out 2))
     go_ret
     exact ⟨eW, (bB1 GE117.out)⟩
    ·rw [if_neg c5] at H
     have c5b0 : (a0_2.toList == ([] : List UInt8)) = false := beq_eq_false_iff_ne.mpr c5
     have c5b1 : (a0_2.toList != ([] : List UInt8)) = true := bne_iff_ne.mpr c5
     obtain rfl := Option.some.inj H
     go_enter Try.func87, Try.ntmps87
     go_wp2_with (first | ((with_reducible refine gate_dst (N := 1) rfl ?_); refine bE (N := 1) (cs := #[.int .i64 a0_0, .int .i64 a0_1, .string a0_2]) (t := 24) ?_; intro gb117 hg w8 hbox hb; have n0_ := Aside0.mk (below_step bB0 hb); have n1_ := Aside0.mk (hbox); have n2_ := Aside0.mk ((by rw [hg]; exact (below_size bB0) : w.heap.size ≤ gb117)); have n3_ := Aside0.mk ((by rw [hg]; exact (below_size bB0) : w.heap.size ≤ gb117)); clear HB; have HB := n0_; have BK117 := n1_; have GW117 := n2_; have GE117 := n3_; clear n0_ n1_ n2_ n3_; clear hb hbox hg; have hcz9_0 : w8.cell? ⟨gb117, 0, none⟩ = some (.int .i64 a0_0) := (blk_cell BK117.out 0).trans rfl; have hcz9_1 : w8.cell? ⟨gb117, 1, none⟩ = some (.int .i64 a0_1) := (blk_cell BK117.out 1).trans rfl; have hcz9_2 : w8.cell? ⟨gb117, 2, none⟩ = some (.string a0_2) := (blk_cell BK117.out 2).trans rfl; have hfz9_0 := blk_frozen BK117.out 0; have hfz9_1 := blk_frozen BK117.out 1; have hfz9_2 := blk_frozen BK117.out 2))
     go_ret
     exact ⟨eW, (bB1 GE117.out)⟩
   ·rw [if_neg c4] at H
    have c4b0 : decide (a0_1 ≤ 4611686018427387904) = false := decide_eq_false c4
    clear c4
    obtain rfl := Option.some.inj H
    go_enter Try.func87, Try.ntmps87
    go_wp2_with (first | ((with_reducible refine gate_dst (N := 1) rfl ?_); refine bE (N := 1) (cs := #[.int .i64 a0_0, .int .i64 a0_1, .string a0_2]) (t := 24) ?_; intro gb117 hg w10 hbox hb; have n0_ := Aside0.mk (below_step bB0 hb); have n1_ := Aside0.mk (hbox); have n2_ := Aside0.mk ((by rw [hg]; exact (below_size bB0) : w.heap.size ≤ gb117)); have n3_ := Aside0.mk ((by rw [hg]; exact (below_size bB0) : w.heap.size ≤ gb117)); clear HB; have HB := n0_; have BK117 := n1_; have GW117 := n2_; have GE117 := n3_; clear n0_ n1_ n2_ n3_; clear hb hbox hg; have hcz11_0 : w10.cell? ⟨gb117, 0, none⟩ = some (.int .i64 a0_0) := (blk_cell BK117.out 0).trans rfl; have hcz11_1 : w10.cell? ⟨gb117, 1, none⟩ = some (.int .i64 a0_1) := (blk_cell BK117.out 1).trans rfl; have hcz11_2 : w10.cell? ⟨gb117, 2, none⟩ = some (.string a0_2) := (blk_cell BK117.out 2).trans rfl; have hfz11_0 := blk_frozen BK117.out 0; have hfz11_1 := blk_frozen BK117.out 1; have hfz11_2 := blk_frozen BK117.out 2))
    go_ret
    exact ⟨eW, (bB1 GE117.out)⟩
  ·rw [if_neg c3] at H
   have c3b0 : decide ((-4611686018427387904) ≤ a0_1) = false := decide_eq_false c3
   clear c3
   obtain rfl := Option.some.inj H
   go_enter Try.func87, Try.ntmps87
   go_wp2_with (first | ((with_reducible refine gate_dst (N := 1) rfl ?_); refine bE (N := 1) (cs := #[.int .i64 a0_0, .int .i64 a0_1, .string a0_2]) (t := 24) ?_; intro gb117 hg w12 hbox hb; have n0_ := Aside0.mk (below_step bB0 hb); have n1_ := Aside0.mk (hbox); have n2_ := Aside0.mk ((by rw [hg]; exact (below_size bB0) : w.heap.size ≤ gb117)); have n3_ := Aside0.mk ((by rw [hg]; exact (below_size bB0) : w.heap.size ≤ gb117)); clear HB; have HB := n0_; have BK117 := n1_; have GW117 := n2_; have GE117 := n3_; clear n0_ n1_ n2_ n3_; clear hb hbox hg; have hcz13_0 : w12.cell? ⟨gb117, 0, none⟩ = some (.int .i64 a0_0) := (blk_cell BK117.out 0).trans rfl; have hcz13_1 : w12.cell? ⟨gb117, 1, none⟩ = some (.int .i64 a0_1) := (blk_cell BK117.out 1).trans rfl; have hcz13_2 : w12.cell? ⟨gb117, 2, none⟩ = some (.string a0_2) := (blk_cell BK117.out 2).trans rfl; have hfz13_0 := blk_frozen BK117.out 0; have hfz13_1 := blk_frozen BK117.out 1; have hfz13_2 := blk_frozen BK117.out 2))
   go_ret
   exact ⟨eW, (bB1 GE117.out)⟩
 ·rw [if_neg c2] at H
  have c2b0 : (a0_0 == 1) = false := beq_eq_false_iff_ne.mpr c2
  have c2b1 : (a0_0 != 1) = true := bne_iff_ne.mpr c2
  by_cases c14 : a0_0 = 2
  ·rw [if_pos c14] at H
   have c14b0 : (a0_0 == 2) = true := beq_iff_eq.mpr c14
   have c14b1 : (a0_0 != 2) = false := bne_eq_false_iff_eq.mpr c14
   clear c14
   by_cases c15 : a0_1 = 0
   ·rw [if_pos c15] at H
    have c15b0 : (a0_1 == 0) = true := beq_iff_eq.mpr c15
    have c15b1 : (a0_1 != 0) = false := bne_eq_false_iff_eq.mpr c15
    clear c15
    replace H := Option.bind_eq_some_iff.mp H
    obtain ⟨t118, A160, H⟩ := H
    replace H : (if t118 = true then (some 0) else (some 1)) = some r := H
    have A16 := Aside0.mk A160
    clear A160
    by_cases c17 : t118 = true
    ·subst c17
     have H1 : (some 0) = some r := by rw [if_pos rfl] at H; exact H
     clear H
     have H := H1
     clear H1
     obtain rfl := Option.some.inj H
     go_enter Try.func87, Try.ntmps87
     go_wp2_with (first | ((with_reducible refine gate_dst (N := 1) rfl ?_); refine bE (N := 1) (cs := #[.int .i64 a0_0, .int .i64 a0_1, .string a0_2]) (t := 24) ?_; intro gb117 hg w18 hbox hb; have n0_ := Aside0.mk (below_step bB0 hb); have n1_ := Aside0.mk (hbox); have n2_ := Aside0.mk ((by rw [hg]; exact (below_size bB0) : w.heap.size ≤ gb117)); have n3_ := Aside0.mk ((by rw [hg]; exact (below_size bB0) : w.heap.size ≤ gb117)); clear HB; have HB := n0_; have BK117 := n1_; have GW117 := n2_; have GE117 := n3_; clear n0_ n1_ n2_ n3_; clear hb hbox hg; have hcz19_0 : w18.cell? ⟨gb117, 0, none⟩ = some (.int .i64 a0_0) := (blk_cell BK117.out 0).trans rfl; have hcz19_1 : w18.cell? ⟨gb117, 1, none⟩ = some (.int .i64 a0_1) := (blk_cell BK117.out 1).trans rfl; have hcz19_2 : w18.cell? ⟨gb117, 2, none⟩ = some (.string a0_2) := (blk_cell BK117.out 2).trans rfl; have hfz19_0 := blk_frozen BK117.out 0; have hfz19_1 := blk_frozen BK117.out 1; have hfz19_2 := blk_frozen BK117.out 2) | (go_at_call 108; (with_reducible refine (val_symbol.calls k a0_2 true _ A16.out).mono ?_); rintro e w' ⟨rfl, ⟨nd, rfl⟩⟩))
     go_ret
     exact ⟨eW, (bB1 GE117.out)⟩
    ·replace c17 := Bool.eq_false_iff.mpr c17
     subst c17
     have H1 : (some 1) = some r := by rw [if_neg (show ¬ (false = true) by decide)] at H; exact H
     clear H
     have H := H1
     clear H1
     obtain rfl := Option.some.inj H
     go_enter Try.func87, Try.ntmps87
     go_wp2_with (first | ((with_reducible refine gate_dst (N := 1) rfl ?_); refine bE (N := 1) (cs := #[.int .i64 a0_0, .int .i64 a0_1, .string a0_2]) (t := 24) ?_; intro gb117 hg w20 hbox hb; have n0_ := Aside0.mk (below_step bB0 hb); have n1_ := Aside0.mk (hbox); have n2_ := Aside0.mk ((by rw [hg]; exact (below_size bB0) : w.heap.size ≤ gb117)); have n3_ := Aside0.mk ((by rw [hg]; exact (below_size bB0) : w.heap.size ≤ gb117)); clear HB; have HB := n0_; have BK117 := n1_; have GW117 := n2_; have GE117 := n3_; clear n0_ n1_ n2_ n3_; clear hb hbox hg; have hcz21_0 : w20.cell? ⟨gb117, 0, none⟩ = some (.int .i64 a0_0) := (blk_cell BK117.out 0).trans rfl; have hcz21_1 : w20.cell? ⟨gb117, 1, none⟩ = some (.int .i64 a0_1) := (blk_cell BK117.out 1).trans rfl; have hcz21_2 : w20.cell? ⟨gb117, 2, none⟩ = some (.string a0_2) := (blk_cell BK117.out 2).trans rfl; have hfz21_0 := blk_frozen BK117.out 0; have hfz21_1 := blk_frozen BK117.out 1; have hfz21_2 := blk_frozen BK117.out 2) | (go_at_call 108; (with_reducible refine (val_symbol.calls k a0_2 false _ A16.out).mono ?_); rintro e w' ⟨rfl, ⟨nd, rfl⟩⟩))
     go_ret
     exact ⟨eW, (bB1 GE117.out)⟩
   ·rw [if_neg c15] at H
    have c15b0 : (a0_1 == 0) = false := beq_eq_false_iff_ne.mpr c15
    have c15b1 : (a0_1 != 0) = true := bne_iff_ne.mpr c15
    obtain rfl := Option.some.inj H
    go_enter Try.func87, Try.ntmps87
    go_wp2_with (first | ((with_reducible refine gate_dst (N := 1) rfl ?_); refine bE (N := 1) (cs := #[.int .i64 a0_0, .int .i64 a0_1, .string a0_2]) (t := 24) ?_; intro gb117 hg w22 hbox hb; have n0_ := Aside0.mk (below_step bB0 hb); have n1_ := Aside0.mk (hbox); have n2_ := Aside0.mk ((by rw [hg]; exact (below_size bB0) : w.heap.size ≤ gb117)); have n3_ := Aside0.mk ((by rw [hg]; exact (below_size bB0) : w.heap.size ≤ gb117)); clear HB; have HB := n0_; have BK117 := n1_; have GW117 := n2_; have GE117 := n3_; clear n0_ n1_ n2_ n3_; clear hb hbox hg; have hcz23_0 : w22.cell? ⟨gb117, 0, none⟩ = some (.int .i64 a0_0) := (blk_cell BK117.out 0).trans rfl; have hcz23_1 : w22.cell? ⟨gb117, 1, none⟩ = some (.int .i64 a0_1) := (blk_cell BK117.out 1).trans rfl; have hcz23_2 : w22.cell? ⟨gb117, 2, none⟩ = some (.string a0_2) := (blk_cell BK117.out 2).trans rfl; have hfz23_0 := blk_frozen BK117.out 0; have hfz23_1 := blk_frozen BK117.out 1; have hfz23_2 := blk_frozen BK117.out 2))
    go_ret
    exact ⟨eW, (bB1 GE117.out)⟩
  ·rw [if_neg c14] at H
   have c14b0 : (a0_0 == 2) = false := beq_eq_false_iff_ne.mpr c14
   have c14b1 : (a0_0 != 2) = true := bne_iff_ne.mpr c14
   by_cases c24 : a0_0 = 3
   ·rw [if_pos c24] at H
    have c24b0 : (a0_0 == 3) = true := beq_iff_eq.mpr c24
    have c24b1 : (a0_0 != 3) = false := bne_eq_false_iff_eq.mpr c24
    clear c24
    by_cases c25 : a0_1 = 0
    ·rw [if_pos c25] at H
     have c25b0 : (a0_1 == 0) = true := beq_iff_eq.mpr c25
     have c25b1 : (a0_1 != 0) = false := bne_eq_false_iff_eq.mpr c25
     clear c25
     replace H := Option.bind_eq_some_iff.mp H
     obtain ⟨t119, A260, H⟩ := H
     replace H : (if t119 = true then (some 0) else (some 1)) = some r := H
     have A26 := Aside0.mk A260
     clear A260
     by_cases c27 : t119 = true
     ·subst c27
      have H1 : (some 0) = some r := by rw [if_pos rfl] at H; exact H
      clear H
      have H := H1
      clear H1
      obtain rfl := Option.some.inj H
      go_enter Try.func87, Try.ntmps87
      go_wp2_with (first | ((with_reducible refine gate_dst (N := 1) rfl ?_); refine bE (N := 1) (cs := #[.int .i64 a0_0, .int .i64 a0_1, .string a0_2]) (t := 24) ?_; intro gb117 hg w28 hbox hb; have n0_ := Aside0.mk (below_step bB0 hb); have n1_ := Aside0.mk (hbox); have n2_ := Aside0.mk ((by rw [hg]; exact (below_size bB0) : w.heap.size ≤ gb117)); have n3_ := Aside0.mk ((by rw [hg]; exact (below_size bB0) : w.heap.size ≤ gb117)); clear HB; have HB := n0_; have BK117 := n1_; have GW117 := n2_; have GE117 := n3_; clear n0_ n1_ n2_ n3_; clear hb hbox hg; have hcz29_0 : w28.cell? ⟨gb117, 0, none⟩ = some (.int .i64 a0_0) := (blk_cell BK117.out 0).trans rfl; have hcz29_1 : w28.cell? ⟨gb117, 1, none⟩ = some (.int .i64 a0_1) := (blk_cell BK117.out 1).trans rfl; have hcz29_2 : w28.cell? ⟨gb117, 2, none⟩ = some (.string a0_2) := (blk_cell BK117.out 2).trans rfl; have hfz29_0 := blk_frozen BK117.out 0; have hfz29_1 := blk_frozen BK117.out 1; have hfz29_2 := blk_frozen BK117.out 2) | (go_at_call 109; (with_reducible refine (val_plain.calls k a0_2 true _ A26.out).mono ?_); rintro e w' ⟨rfl, ⟨nd, rfl⟩⟩))
      go_ret
      exact ⟨eW, (bB1 GE117.out)⟩
     ·replace c27 := Bool.eq_false_iff.mpr c27
      subst c27
      have H1 : (some 1) = some r := by rw [if_neg (show ¬ (false = true) by decide)] at H; exact H
      clear H
      have H := H1
      clear H1
      obtain rfl := Option.some.inj H
      go_enter Try.func87, Try.ntmps87
      go_wp2_with (first | ((with_reducible refine gate_dst (N := 1) rfl ?_); refine bE (N := 1) (cs := #[.int .i64 a0_0, .int .i64 a0_1, .string a0_2]) (t := 24) ?_; intro gb117 hg w30 hbox hb; have n0_ := Aside0.mk (below_step bB0 hb); have n1_ := Aside0.mk (hbox); have n2_ := Aside0.mk ((by rw [hg]; exact (below_size bB0) : w.heap.size ≤ gb117)); have n3_ := Aside0.mk ((by rw [hg]; exact (below_size bB0) : w.heap.size ≤ gb117)); clear HB; have HB := n0_; have BK117 := n1_; have GW117 := n2_; have GE117 := n3_; clear n0_ n1_ n2_ n3_; clear hb hbox hg; have hcz31_0 : w30.cell? ⟨gb117, 0, none⟩ = some (.int .i64 a0_0) := (blk_cell BK117.out 0).trans rfl; have hcz31_1 : w30.cell? ⟨gb117, 1, none⟩ = some (.int .i64 a0_1) := (blk_cell BK117.out 1).trans rfl; have hcz31_2 : w30.cell? ⟨gb117, 2, none⟩ = some (.string a0_2) := (blk_cell BK117.out 2).trans rfl; have hfz31_0 := blk_frozen BK117.out 0; have hfz31_1 := blk_frozen BK117.out 1; have hfz31_2 := blk_frozen BK117.out 2) | (go_at_call 109; (with_reducible refine (val_plain.calls k a0_2 false _ A26.out).mono ?_); rintro e w' ⟨rfl, ⟨nd, rfl⟩⟩))
      go_ret
      exact ⟨eW, (bB1 GE117.out)⟩
    ·rw [if_neg c25] at H
     have c25b0 : (a0_1 == 0) = false := beq_eq_false_iff_ne.mpr c25
     have c25b1 : (a0_1 != 0) = true := bne_iff_ne.mpr c25
     obtain rfl := Option.some.inj H
     go_enter Try.func87, Try.ntmps87
     go_wp2_with (first | ((with_reducible refine gate_dst (N := 1) rfl ?_); refine bE (N := 1) (cs := #[.int .i64 a0_0, .int .i64 a0_1, .string a0_2]) (t := 24) ?_; intro gb117 hg w32 hbox hb; have n0_ := Aside0.mk (below_step bB0 hb); have n1_ := Aside0.mk (hbox); have n2_ := Aside0.mk ((by rw [hg]; exact (below_size bB0) : w.heap.size ≤ gb117)); have n3_ := Aside0.mk ((by rw [hg]; exact (below_size bB0) : w.heap.size ≤ gb117)); clear HB; have HB := n0_; have BK117 := n1_; have GW117 := n2_; have GE117 := n3_; clear n0_ n1_ n2_ n3_; clear hb hbox hg; have hcz33_0 : w32.cell? ⟨gb117, 0, none⟩ = some (.int .i64 a0_0) := (blk_cell BK117.out 0).trans rfl; have hcz33_1 : w32.cell? ⟨gb117, 1, none⟩ = some (.int .i64 a0_1) := (blk_cell BK117.out 1).trans rfl; have hcz33_2 : w32.cell? ⟨gb117, 2, none⟩ = some (.string a0_2) := (blk_cell BK117.out 2).trans rfl; have hfz33_0 := blk_frozen BK117.out 0; have hfz33_1 := blk_frozen BK117.out 1; have hfz33_2 := blk_frozen BK117.out 2))
     go_ret
     exact ⟨eW, (bB1 GE117.out)⟩
   ·rw [if_neg c24] at H
    have c24b0 : (a0_0 == 3) = false := beq_eq_false_iff_ne.mpr c24
    have c24b1 : (a0_0 != 3) = true := bne_iff_ne.mpr c24
    obtain rfl := Option.some.inj H
    go_enter Try.func87, Try.ntmps87
    go_wp2_with (first | ((with_reducible refine gate_dst (N := 1) rfl ?_); refine bE (N := 1) (cs := #[.int .i64 a0_0, .int .i64 a0_1, .string a0_2]) (t := 24) ?_; intro gb117 hg w34 hbox hb; have n0_ := Aside0.mk (below_step bB0 hb); have n1_ := Aside0.mk (hbox); have n2_ := Aside0.mk ((by rw [hg]; exact (below_size bB0) : w.heap.size ≤ gb117)); have n3_ := Aside0.mk ((by rw [hg]; exact (below_size bB0) : w.heap.size ≤ gb117)); clear HB; have HB := n0_; have BK117 := n1_; have GW117 := n2_; have GE117 := n3_; clear n0_ n1_ n2_ n3_; clear hb hbox hg; have hcz35_0 : w34.cell? ⟨gb117, 0, none⟩ = some (.int .i64 a0_0) := (blk_cell BK117.out 0).trans rfl; have hcz35_1 : w34.cell? ⟨gb117, 1, none⟩ = some (.int .i64 a0_1) := (blk_cell BK117.out 1).trans rfl; have hcz35_2 : w34.cell? ⟨gb117, 2, none⟩ = some (.string a0_2) := (blk_cell BK117.out 2).trans rfl; have hfz35_0 := blk_frozen BK117.out 0; have hfz35_1 := blk_frozen BK117.out 1; have hfz35_2 := blk_frozen BK117.out 2))
    go_ret
    exact ⟨eW, (bB1 GE117.out)⟩

end Go.Proofs.Ytghommaokdhjmaa.P
namespace Go.Proofs.Ytghommaokdhjmaa.P
open Go.RowKit Go.Proofs.YtghommaokdhjmaaW.PrintWords Go.Proofs.YtghommaokdhjmaaW.PrintLast Go.Proofs.Ytghommaokdhjmaa.Gate
set_option linter.unusedVariables false
set_option linter.unusedSimpArgs false

/-! ### subst_letter: function 62 -/
def subst_letter.f (a0 : Int) : Option (Bool) := if a0 ≥ 97 then (if a0 ≤ 122 then (some true) else (if a0 ≥ 65 then (if a0 ≤ 90 then (some true) else (if a0 ≥ 48 then (if a0 ≤ 57 then (some true) else (some (a0 == 95))) else (some (a0 == 95)))) else (if a0 ≥ 48 then (if a0 ≤ 57 then (some true) else (some (a0 == 95))) else (some (a0 == 95))))) else (if a0 ≥ 65 then (if a0 ≤ 90 then (some true) else (if a0 ≥ 48 then (if a0 ≤ 57 then (some true) else (some (a0 == 95))) else (some (a0 == 95)))) else (if a0 ≥ 48 then (if a0 ≤ 57 then (some true) else (some (a0 == 95))) else (some (a0 == 95))))
set_option maxHeartbeats 8000000 in
set_option maxRecDepth 100000 in
theorem subst_letter.calls (a0 : Int) (r : Bool) (w : World) (h : subst_letter.f a0 = some r) :
  Calls Try.prog 62 #[.int .u8 a0] w fun e w' => e = .returned (.bool r) ∧ Drawn0 w w' := by
 have H : (if a0 ≥ 97 then (if a0 ≤ 122 then (some true) else (if a0 ≥ 65 then (if a0 ≤ 90 then (some true) else (if a0 ≥ 48 then (if a0 ≤ 57 then (some true) else (some (a0 == 95))) else (some (a0 == 95)))) else (if a0 ≥ 48 then (if a0 ≤ 57 then (some true) else (some (a0 == 95))) else (some (a0 == 95))))) else (if a0 ≥ 65 then (if a0 ≤ 90 then (some true) else (if a0 ≥ 48 then (if a0 ≤ 57 then (some true) else (some (a0 == 95))) else (some (a0 == 95)))) else (if a0 ≥ 48 then (if a0 ≤ 57 then (some true) else (some (a0 == 95))) else (some (a0 == 95))))) = some r := h
 clear h
 by_cases c2 : a0 ≥ 97
 ·rw [if_pos c2] at H
  have c2b0 : decide (97 ≤ a0) = true := decide_eq_true c2
  clear c2
  by_cases c3 : a0 ≤ 122
  ·rw [if_pos c3] at H
   have c3b0 : decide (a0 ≤ 122) = true := decide_eq_true c3
   clear c3
   obtain rfl := Option.some.inj H
   go_enter Try.func62, Try.ntmps62
   go_wp2
   go_ret
   exact ⟨by first | rfl | (simp; done) | (simp [*]; done), by repeat (first | exact Drawn0.refl _ | apply Drawn0.step)⟩
  ·rw [if_neg c3] at H
   have c3b0 : decide (a0 ≤ 122) = false := decide_eq_false c3
   clear c3
   by_cases c4 : a0 ≥ 65
   ·rw [if_pos c4] at H
    have c4b0 : decide (65 ≤ a0) = true := decide_eq_true c4
    clear c4
    by_cases c5 : a0 ≤ 90
    ·rw [if_pos c5] at H
     have c5b0 : decide (a0 ≤ 90) = true := decide_eq_true c5
     clear c5
     obtain rfl := Option.some.inj H
     go_enter Try.func62, Try.ntmps62
     go_wp2
     go_ret
     exact ⟨by first | rfl | (simp; done) | (simp [*]; done), by repeat (first | exact Drawn0.refl _ | apply Drawn0.step)⟩
    ·rw [if_neg c5] at H
     have c5b0 : decide (a0 ≤ 90) = false := decide_eq_false c5
     clear c5
     by_cases c6 : a0 ≥ 48
     ·rw [if_pos c6] at H
      have c6b0 : decide (48 ≤ a0) = true := decide_eq_true c6
      clear c6
      by_cases c7 : a0 ≤ 57
      ·rw [if_pos c7] at H
       have c7b0 : decide (a0 ≤ 57) = true := decide_eq_true c7
       clear c7
       obtain rfl := Option.some.inj H
       go_enter Try.func62, Try.ntmps62
       go_wp2
       go_ret
       exact ⟨by first | rfl | (simp; done) | (simp [*]; done), by repeat (first | exact Drawn0.refl _ | apply Drawn0.step)⟩
      ·rw [if_neg c7] at H
       have c7b0 : decide (a0 ≤ 57) = false := decide_eq_false c7
       clear c7
       obtain rfl := Option.some.inj H
       go_enter Try.func62, Try.ntmps62
       go_wp2
       go_ret
       exact ⟨by first | rfl | (simp; done) | (simp [*]; done), by repeat (first | exact Drawn0.refl _ | apply Drawn0.step)⟩
     ·rw [if_neg c6] at H
      have c6b0 : decide (48 ≤ a0) = false := decide_eq_false c6
      clear c6
      obtain rfl := Option.some.inj H
      go_enter Try.func62, Try.ntmps62
      go_wp2
      go_ret
      exact ⟨by first | rfl | (simp; done) | (simp [*]; done), by repeat (first | exact Drawn0.refl _ | apply Drawn0.step)⟩
   ·rw [if_neg c4] at H
    have c4b0 : decide (65 ≤ a0) = false := decide_eq_false c4
    clear c4
    by_cases c8 : a0 ≥ 48
    ·rw [if_pos c8] at H
     have c8b0 : decide (48 ≤ a0) = true := decide_eq_true c8
     clear c8
     by_cases c9 : a0 ≤ 57
     ·rw [if_pos c9] at H
      have c9b0 : decide (a0 ≤ 57) = true := decide_eq_true c9
      clear c9
      obtain rfl := Option.some.inj H
      go_enter Try.func62, Try.ntmps62
      go_wp2
      go_ret
      exact ⟨by first | rfl | (simp; done) | (simp [*]; done), by repeat (first | exact Drawn0.refl _ | apply Drawn0.step)⟩
     ·rw [if_neg c9] at H
      have c9b0 : decide (a0 ≤ 57) = false := decide_eq_false c9
      clear c9
      obtain rfl := Option.some.inj H
      go_enter Try.func62, Try.ntmps62
      go_wp2
      go_ret
      exact ⟨by first | rfl | (simp; done) | (simp [*]; done), by repeat (first | exact Drawn0.refl _ | apply Drawn0.step)⟩
    ·rw [if_neg c8] at H
     have c8b0 : decide (48 ≤ a0) = false := decide_eq_false c8
     clear c8
     obtain rfl := Option.some.inj H
     go_enter Try.func62, Try.ntmps62
     go_wp2
     go_ret
     exact ⟨by first | rfl | (simp; done) | (simp [*]; done), by repeat (first | exact Drawn0.refl _ | apply Drawn0.step)⟩
 ·rw [if_neg c2] at H
  have c2b0 : decide (97 ≤ a0) = false := decide_eq_false c2
  clear c2
  by_cases c10 : a0 ≥ 65
  ·rw [if_pos c10] at H
   have c10b0 : decide (65 ≤ a0) = true := decide_eq_true c10
   clear c10
   by_cases c11 : a0 ≤ 90
   ·rw [if_pos c11] at H
    have c11b0 : decide (a0 ≤ 90) = true := decide_eq_true c11
    clear c11
    obtain rfl := Option.some.inj H
    go_enter Try.func62, Try.ntmps62
    go_wp2
    go_ret
    exact ⟨by first | rfl | (simp; done) | (simp [*]; done), by repeat (first | exact Drawn0.refl _ | apply Drawn0.step)⟩
   ·rw [if_neg c11] at H
    have c11b0 : decide (a0 ≤ 90) = false := decide_eq_false c11
    clear c11
    by_cases c12 : a0 ≥ 48
    ·rw [if_pos c12] at H
     have c12b0 : decide (48 ≤ a0) = true := decide_eq_true c12
     clear c12
     by_cases c13 : a0 ≤ 57
     ·rw [if_pos c13] at H
      have c13b0 : decide (a0 ≤ 57) = true := decide_eq_true c13
      clear c13
      obtain rfl := Option.some.inj H
      go_enter Try.func62, Try.ntmps62
      go_wp2
      go_ret
      exact ⟨by first | rfl | (simp; done) | (simp [*]; done), by repeat (first | exact Drawn0.refl _ | apply Drawn0.step)⟩
     ·rw [if_neg c13] at H
      have c13b0 : decide (a0 ≤ 57) = false := decide_eq_false c13
      clear c13
      obtain rfl := Option.some.inj H
      go_enter Try.func62, Try.ntmps62
      go_wp2
      go_ret
      exact ⟨by first | rfl | (simp; done) | (simp [*]; done), by repeat (first | exact Drawn0.refl _ | apply Drawn0.step)⟩
    ·rw [if_neg c12] at H
     have c12b0 : decide (48 ≤ a0) = false := decide_eq_false c12
     clear c12
     obtain rfl := Option.some.inj H
     go_enter Try.func62, Try.ntmps62
     go_wp2
     go_ret
     exact ⟨by first | rfl | (simp; done) | (simp [*]; done), by repeat (first | exact Drawn0.refl _ | apply Drawn0.step)⟩
  ·rw [if_neg c10] at H
   have c10b0 : decide (65 ≤ a0) = false := decide_eq_false c10
   clear c10
   by_cases c14 : a0 ≥ 48
   ·rw [if_pos c14] at H
    have c14b0 : decide (48 ≤ a0) = true := decide_eq_true c14
    clear c14
    by_cases c15 : a0 ≤ 57
    ·rw [if_pos c15] at H
     have c15b0 : decide (a0 ≤ 57) = true := decide_eq_true c15
     clear c15
     obtain rfl := Option.some.inj H
     go_enter Try.func62, Try.ntmps62
     go_wp2
     go_ret
     exact ⟨by first | rfl | (simp; done) | (simp [*]; done), by repeat (first | exact Drawn0.refl _ | apply Drawn0.step)⟩
    ·rw [if_neg c15] at H
     have c15b0 : decide (a0 ≤ 57) = false := decide_eq_false c15
     clear c15
     obtain rfl := Option.some.inj H
     go_enter Try.func62, Try.ntmps62
     go_wp2
     go_ret
     exact ⟨by first | rfl | (simp; done) | (simp [*]; done), by repeat (first | exact Drawn0.refl _ | apply Drawn0.step)⟩
   ·rw [if_neg c14] at H
    have c14b0 : decide (48 ≤ a0) = false := decide_eq_false c14
    clear c14
    obtain rfl := Option.some.inj H
    go_enter Try.func62, Try.ntmps62
    go_wp2
    go_ret
    exact ⟨by first | rfl | (simp; done) | (simp [*]; done), by repeat (first | exact Drawn0.refl _ | apply Drawn0.step)⟩

end Go.Proofs.Ytghommaokdhjmaa.P
/- What val.Check answers, as a plain function: the printed function answers it from some number of rounds on. -/
set_option linter.unusedVariables false
set_option linter.unusedSimpArgs false
namespace Go.Proofs.Ytghommaokdhjmaa.PSpec
open Go.RowKit Go.Proofs.YtghommaokdhjmaaW.PrintWords Go.Proofs.YtghommaokdhjmaaW.PrintLast Go.Proofs.Ytghommaokdhjmaa.Gate Go.Proofs.Ytghommaokdhjmaa.P
def letP (c : Int) : Bool := (subst_letter.f c).getD false
theorem letP_eq (c : Int) : subst_letter.f c = some (letP c) := by
  unfold letP subst_letter.f
  repeat' split
  all_goals rfl
def smallP (c : Int) : Bool := (val_small.f c).getD false
theorem smallP_eq (c : Int) : val_small.f c = some (smallP c) := by
  unfold smallP val_small.f
  split <;> rfl
def largeP (c : Int) : Bool := (val_large.f c).getD false
theorem largeP_eq (c : Int) : val_large.f c = some (largeP c) := by
  unfold largeP val_large.f
  split <;> rfl
def digitP (c : Int) : Bool := (val_digit.f c).getD false
theorem digitP_eq (c : Int) : val_digit.f c = some (digitP c) := by
  unfold digitP val_digit.f
  split <;> rfl
/-- t holds at i, i+1, .., i+m-1. -/
def allFrom (t : Nat → Bool) : Nat → Nat → Bool
  | 0, _ => true
  | m + 1, i => t i && allFrom t m (i + 1)
theorem w64 {n i : Nat} (hn : n ≤ 1000000) (hi : i < n) : wrap64 ((i : Int) + 1) = ((i + 1 : Nat) : Int) := by unfold wrap64; omega
def varAll (s : ByteArray) : Bool := allFrom (fun i => letP (bt s i)) s.size 0
def varP (s : ByteArray) : Bool := decide (1 ≤ s.size) && decide (s.size ≤ 24) && decide (65 ≤ bt s 0) && decide (bt s 0 ≤ 90) && varAll s
def symT (s : ByteArray) (i : Nat) : Bool := smallP (bt s i) || largeP (bt s i) || digitP (bt s i) || decide (bt s i = 95)
theorem sym_loop (s : ByteArray) (hs : s.size ≤ 1000000) : ∀ (m i K : Nat), i + m = s.size → m < K → val_symbol.l0 K s (s.size : Int) i = some (allFrom (symT s) m i) := by
  intro m
  induction m with
  | zero =>
    intro i K h hK
    obtain ⟨K, rfl⟩ : ∃ q, K = q + 1 := ⟨K - 1, by omega⟩
    rw [val_symbol.l0, if_neg (by omega)]; rfl
  | succ m ih =>
    intro i K h hK
    obtain ⟨K, rfl⟩ : ∃ q, K = q + 1 := ⟨K - 1, by omega⟩
    rw [val_symbol.l0, if_pos (by omega), if_pos (by omega), if_pos (by omega), smallP_eq, Option.bind_some, largeP_eq, Option.bind_some, digitP_eq, Option.bind_some, w64 hs (show i < s.size by omega), ih (i + 1) K (by omega) (by omega), allFrom]
    by_cases h5 : bt s i = 95 <;> cases h2 : smallP (bt s i) <;> cases h3 : largeP (bt s i) <;> cases h4 : digitP (bt s i) <;> simp [symT, h2, h3, h4, h5]
def symP (s : ByteArray) : Bool := decide (1 ≤ s.size) && decide (s.size ≤ 24) && smallP (bt s 0) && allFrom (symT s) s.size 0
theorem symP_eq (s : ByteArray) (K : Nat) (hK : 30 ≤ K) : val_symbol.f K s = some (symP s) := by
  have jt : val_symbol.j0 K s true = some false := by
    obtain ⟨K, rfl⟩ : ∃ q, K = q + 1 := ⟨K - 1, by omega⟩
    rw [val_symbol.j0, if_pos rfl]
  unfold val_symbol.f symP
  by_cases h1 : s.size < 1
  · rw [if_pos (by omega), jt]; simp [show ¬ 1 ≤ s.size by omega]
  · rw [if_neg (by omega)]
    by_cases h2 : s.size > 24
    · rw [if_pos (by omega), jt]; simp [show ¬ s.size ≤ 24 by omega]
    · rw [if_neg (by omega), if_pos (by omega), smallP_eq, Option.bind_some]
      cases h4 : smallP (bt s 0)
      · rw [Bool.not_false, jt]; simp
      · obtain ⟨K, rfl⟩ : ∃ q, K = q + 1 := ⟨K - 1, by omega⟩
        rw [Bool.not_true, val_symbol.j0, if_neg (by simp), show (0 : Int) = ((0 : Nat) : Int) from rfl, sym_loop s (by omega) s.size 0 K (by omega) (by omega)]
        simp [show 1 ≤ s.size by omega, show s.size ≤ 24 by omega]
def plainT (s : ByteArray) (i : Nat) : Bool := decide (32 ≤ bt s i) && decide (bt s i ≤ 126)
theorem plain_loop (s : ByteArray) (hs : s.size ≤ 1000000) : ∀ (m i K : Nat), i + m = s.size → m < K → val_plain.l0 K s (s.size : Int) i = some (allFrom (plainT s) m i && decide (s.size ≤ 60)) := by
  intro m
  induction m with
  | zero =>
    intro i K h hK
    obtain ⟨K, rfl⟩ : ∃ q, K = q + 1 := ⟨K - 1, by omega⟩
    rw [val_plain.l0, if_neg (by omega), allFrom, Bool.true_and]
    congr 1
    exact decide_eq_decide.2 (by omega)
  | succ m ih =>
    intro i K h hK
    obtain ⟨K, rfl⟩ : ∃ q, K = q + 1 := ⟨K - 1, by omega⟩
    rw [val_plain.l0, if_pos (by omega), if_pos (by omega), if_pos (by omega), w64 hs (show i < s.size by omega), ih (i + 1) K (by omega) (by omega), allFrom]
    by_cases h1 : bt s i < 32
    · rw [if_pos h1]; simp [plainT, show ¬ 32 ≤ bt s i by omega]
    · rw [if_neg h1]
      by_cases h2 : bt s i > 126
      · rw [if_pos h2]; simp [plainT, show ¬ bt s i ≤ 126 by omega]
      · rw [if_neg h2]; simp [plainT, show 32 ≤ bt s i by omega, show bt s i ≤ 126 by omega]
def plainP (s : ByteArray) : Bool := allFrom (plainT s) s.size 0 && decide (s.size ≤ 60)
theorem plainP_eq (s : ByteArray) (hs : s.size ≤ 1000000) (K : Nat) (hK : s.size < K) : val_plain.f K s = some (plainP s) := by
  unfold val_plain.f
  rw [show (0 : Int) = ((0 : Nat) : Int) from rfl, plain_loop s hs s.size 0 K (by omega) (by omega)]
  rfl
/-- val.Check's answer. -/
def valP (a b : Int) (s : ByteArray) : Int :=
  if a = 1 then (if b ≥ (-4611686018427387904) then (if b ≤ 4611686018427387904 then (if s.toList = ([] : List UInt8) then 0 else 1) else 1) else 1)
  else if a = 2 then (if b = 0 then (if symP s = true then 0 else 1) else 1)
  else if a = 3 then (if b = 0 then (if plainP s = true then 0 else 1) else 1) else 1
theorem valP_eq (a b : Int) (s : ByteArray) (hs : s.size ≤ 1000000) (K : Nat) (hK : s.size + 40 ≤ K) : val_Check.f K a b s = some (valP a b s) := by
  unfold val_Check.f valP
  rw [symP_eq s K (by omega), plainP_eq s hs K (by omega)]
  simp only [Option.bind_some]
  repeat' split
  all_goals rfl
end Go.Proofs.Ytghommaokdhjmaa.PSpec
namespace Go.Proofs.Ytghommaokdhjmaa.P
open Go.RowKit Go.Proofs.YtghommaokdhjmaaW.PrintWords Go.Proofs.YtghommaokdhjmaaW.PrintLast Go.Proofs.Ytghommaokdhjmaa.Gate
set_option linter.unusedVariables false
set_option linter.unusedSimpArgs false

/-! ### slices_Index_string_string: function 107 -/
def slices_Index_string_string.l0 : Nat → List ByteArray → ByteArray → Int → Int → Option (Int)
 | 0, _, _, _, _ => none
 | k + 1, x0, x1, x7, x8 => if x8 < x7 then (if 0 ≤ x8 then (if x8 < (x0.length : Int) then (if x1.toList = (rdOf ByteArray.empty x0 x8).toList then (some x8) else (slices_Index_string_string.l0 k x0 x1 x7 (wrap64 (x8 + 1)))) else (none)) else (none)) else (some (-1))
def slices_Index_string_string.f (k : Nat) (l0 : List ByteArray) (a1 : ByteArray) : Option (Int) := slices_Index_string_string.l0 k l0 a1 (l0.length : Int) 0
theorem slices_Index_string_string.mono_l : ∀ k, (∀ y0 y1 y2 y3, LeO (slices_Index_string_string.l0 k y0 y1 y2 y3) (slices_Index_string_string.l0 (k + 1) y0 y1 y2 y3))
 | 0 => fun _ _ _ _ r h => by simp [slices_Index_string_string.l0] at h
 | k + 1 => by
  have ih0 := slices_Index_string_string.mono_l k
  ·intro y0 y1 y2 y3
   unfold slices_Index_string_string.l0
   repeat' first
   | (with_reducible exact ih0 _ _ _ _)
   | (with_reducible exact LeO.refl _)
   | (with_reducible exact LeO.none _)
   | (with_reducible refine LeO.ite ?_ ?_)
   | (with_reducible refine LeO.bind ?_ (fun _ => ?_))
theorem slices_Index_string_string.mono : ∀ a0 a1 k, LeO (slices_Index_string_string.f k a0 a1) (slices_Index_string_string.f (k + 1) a0 a1) := by
 intro a0 a1 k
 have ih0 := slices_Index_string_string.mono_l k
 unfold slices_Index_string_string.f
 repeat' first
   | (with_reducible exact ih0 _ _ _ _)
   | (with_reducible exact LeO.refl _)
   | (with_reducible exact LeO.none _)
   | (with_reducible refine LeO.ite ?_ ?_)
   | (with_reducible refine LeO.bind ?_ (fun _ => ?_))
set_option maxHeartbeats 8000000 in
set_option maxRecDepth 100000 in
theorem slices_Index_string_string.calls (k : Nat) (A0 : Option Addr) (c0 : Nat) (l0 : List ByteArray) (a1 : ByteArray) (r : Int) (w : World) (hr0 : Kd.C Kd.string w A0 l0.length l0) (hc0 : l0.length ≤ c0) (h : slices_Index_string_string.f k l0 a1 = some r) :
  Calls Try.prog 107 #[.slice A0 l0.length c0, .string a1] w fun e w' => e = .returned (.int .i64 r) ∧ Drawn0 w w' := by
 have HR0 := Aside0.mk hr0
 have HC0 := Aside0.mk hc0
 clear hr0 hc0
 have H : (slices_Index_string_string.l0 k l0 a1 (l0.length : Int) 0) = some r := h
 clear h
 have H' := Aside0.mk H
 clear H
 go_enter Try.func107, Try.ntmps107
 go_wp2
 go_loopg [8] k (fun kq v8 w' => ∃ (x8_1 : Int), v8 = .int .i64 x8_1 ∧ Aside0 (slices_Index_string_string.l0 kq l0 a1 (l0.length : Int) x8_1 = some r) ∧ Aside0 (kq ≤ k) ∧ Drawn0 w w')
 case atStart => exact ⟨(0), (by first | rfl | (simp; done) | (simp [*]; done)), H', ⟨Nat.le_refl _⟩, by repeat (first | exact Drawn0.refl _ | apply Drawn0.step)⟩
 case round =>
  clear H'
  (try clear c1); (try clear p2)
  obtain ⟨x8_1, rfl, HA, HK1, ⟨m1, rfl⟩⟩ := hrel
  cases gk with
  | zero => exact absurd HA.out (by simp [slices_Index_string_string.l0])
  | succ k1 =>
   have H := HA.out
   clear HA
   simp only [slices_Index_string_string.l0] at H
   by_cases c3 : x8_1 < (l0.length : Int)
   ·rw [if_pos c3] at H
    have c3b0 : decide (x8_1 < (l0.length : Int)) = true := decide_eq_true c3
    clear c3
    by_cases c4 : 0 ≤ x8_1
    ·rw [if_pos c4] at H
     have c4b0 : decide (0 ≤ x8_1) = true := decide_eq_true c4
     clear c4
     by_cases c5 : x8_1 < (l0.length : Int)
     ·rw [if_pos c5] at H
      have c5b0 : decide (x8_1 < (l0.length : Int)) = true := decide_eq_true c5
      clear c5
      by_cases c6 : a1.toList = (rdOf ByteArray.empty l0 x8_1).toList
      ·rw [if_pos c6] at H
       have c6b0 : (a1.toList == (rdOf ByteArray.empty l0 x8_1).toList) = true := beq_iff_eq.mpr c6
       have c6b1 : (a1.toList != (rdOf ByteArray.empty l0 x8_1).toList) = false := bne_eq_false_iff_eq.mpr c6
       clear c6
       obtain rfl := Option.some.inj H
       have p369 : 0 ≤ (x8_1 : Int) := of_decide_eq_true (by first | (with_reducible assumption) | assumption)
       have q369 : x8_1 < (l0.length : Int) := of_decide_eq_true (by first | (with_reducible assumption) | assumption)
       obtain ⟨ad369, e369, hx369_0⟩ := Kd.at_string HR0.out x8_1 p369 q369
       cases e369
       replace p369 := eq_true p369
       replace q369 := eq_true q369
       go_wp2
       go_ret
       exact ⟨by first | rfl | (simp; done) | (simp [*]; done), by repeat (first | exact Drawn0.refl _ | apply Drawn0.step)⟩
      ·rw [if_neg c6] at H
       have c6b0 : (a1.toList == (rdOf ByteArray.empty l0 x8_1).toList) = false := beq_eq_false_iff_ne.mpr c6
       have c6b1 : (a1.toList != (rdOf ByteArray.empty l0 x8_1).toList) = true := bne_iff_ne.mpr c6
       have H' := Aside0.mk H
       clear H
       have p369 : 0 ≤ (x8_1 : Int) := of_decide_eq_true (by first | (with_reducible assumption) | assumption)
       have q369 : x8_1 < (l0.length : Int) := of_decide_eq_true (by first | (with_reducible assumption) | assumption)
       obtain ⟨ad369, e369, hx369_0⟩ := Kd.at_string HR0.out x8_1 p369 q369
       cases e369
       replace p369 := eq_true p369
       replace q369 := eq_true q369
       go_wp2
       go_roundg k1
       case measure => have := HK1.out; omega
       case rel => exact ⟨(wrap64 (x8_1 + 1)), (by first | rfl | (simp; done) | (simp [*]; done)), H', ⟨by have := HK1.out; omega⟩, by repeat (first | exact Drawn0.refl _ | apply Drawn0.step)⟩
     ·rw [if_neg c5] at H
      exact absurd H (by simp)
    ·rw [if_neg c4] at H
     exact absurd H (by simp)
   ·rw [if_neg c3] at H
    have c3b0 : decide (x8_1 < (l0.length : Int)) = false := decide_eq_false c3
    clear c3
    obtain rfl := Option.some.inj H
    go_wp2
    go_ret
    exact ⟨by first | rfl | (simp; done) | (simp [*]; done), by repeat (first | exact Drawn0.refl _ | apply Drawn0.step)⟩

end Go.Proofs.Ytghommaokdhjmaa.P
namespace Go.Proofs.Ytghommaokdhjmaa.P
open Go.RowKit Go.Proofs.YtghommaokdhjmaaW.PrintWords Go.Proofs.YtghommaokdhjmaaW.PrintLast Go.Proofs.Ytghommaokdhjmaa.Gate
set_option linter.unusedVariables false
set_option linter.unusedSimpArgs false

/-! ### slices_Contains_string_string: function 85 -/
def slices_Contains_string_string.f (k : Nat) (l0 : List ByteArray) (a1 : ByteArray) : Option (Bool) := (slices_Index_string_string.f k l0 a1).bind fun t370 => (some (decide (t370 ≥ 0)))
theorem slices_Contains_string_string.mono : ∀ a0 a1 k, LeO (slices_Contains_string_string.f k a0 a1) (slices_Contains_string_string.f (k + 1) a0 a1) := by
 intro a0 a1 k
 unfold slices_Contains_string_string.f
 repeat' first
   | (with_reducible exact slices_Index_string_string.mono _ _ _)
   | (with_reducible exact LeO.refl _)
   | (with_reducible exact LeO.none _)
   | (with_reducible refine LeO.ite ?_ ?_)
   | (with_reducible refine LeO.bind ?_ (fun _ => ?_))
set_option maxHeartbeats 8000000 in
set_option maxRecDepth 100000 in
theorem slices_Contains_string_string.calls (k : Nat) (A0 : Option Addr) (c0 : Nat) (l0 : List ByteArray) (a1 : ByteArray) (r : Bool) (w : World) (hr0 : Kd.C Kd.string w A0 l0.length l0) (hc0 : l0.length ≤ c0) (h : slices_Contains_string_string.f k l0 a1 = some r) :
  Calls Try.prog 85 #[.slice A0 l0.length c0, .string a1] w fun e w' => e = .returned (.bool r) ∧ Drawn0 w w' := by
 have HR0 := Aside0.mk hr0
 have HC0 := Aside0.mk hc0
 clear hr0 hc0
 have H : ((slices_Index_string_string.f k l0 a1).bind fun t370 => (some (decide (t370 ≥ 0)))) = some r := h
 clear h
 replace H := Option.bind_eq_some_iff.mp H
 obtain ⟨t370, A30, H⟩ := H
 replace H : (some (decide (t370 ≥ 0))) = some r := H
 have A3 := Aside0.mk A30
 clear A30
 obtain rfl := Option.some.inj H
 go_enter Try.func85, Try.ntmps85
 go_wp2_with (first | ((with_reducible refine gate_callee (f := 107) rfl ?_); refine goesL_ (some 7) rfl rfl Try.func107 (by kernel_rfl) rfl #[.slice A0 l0.length c0, .string a1] rfl aG ?_; (with_reducible refine (slices_Index_string_string.calls k _ _ l0 a1 t370 _ ?side1 ?side2 A3.out).mono ?_); (case side1 => exact sC HR0.out); (case side2 => exact HC0.out); rintro e w' ⟨rfl, ⟨nd, rfl⟩⟩; refine ⟨_, rfl, ?_⟩))
 go_ret
 exact ⟨by first | rfl | (simp; done) | (simp [*]; done), by repeat (first | exact Drawn0.refl _ | apply Drawn0.step)⟩

end Go.Proofs.Ytghommaokdhjmaa.P
namespace Go.Proofs.Ytghommaokdhjmaa.P
open Go.RowKit Go.Proofs.YtghommaokdhjmaaW.PrintWords Go.Proofs.YtghommaokdhjmaaW.PrintLast Go.Proofs.Ytghommaokdhjmaa.Gate
set_option linter.unusedVariables false
set_option linter.unusedSimpArgs false

/-! ### fact_word: function 115 -/
def fact_word.f (k : Nat) (a0 : ByteArray) : Option (Bool) := (slices_Contains_string_string.f k (([(⟨#[102, 97, 99, 116]⟩ : ByteArray), (⟨#[114, 117, 108, 101]⟩ : ByteArray), (⟨#[112, 97, 116, 116, 101, 114, 110]⟩ : ByteArray), (⟨#[110, 111, 116]⟩ : ByteArray), (⟨#[97, 110, 100]⟩ : ByteArray), (⟨#[111, 114]⟩ : ByteArray), (⟨#[98, 101, 102, 111, 114, 101]⟩ : ByteArray), (⟨#[111, 110, 99, 101]⟩ : ByteArray), (⟨#[97, 108, 119, 97, 121, 115]⟩ : ByteArray), (⟨#[115, 105, 110, 99, 101]⟩ : ByteArray), (⟨#[100, 114, 111, 112]⟩ : ByteArray)] : List ByteArray)) a0).bind fun t374 => (some t374)
theorem fact_word.mono : ∀ a0 k, LeO (fact_word.f k a0) (fact_word.f (k + 1) a0) := by
 intro a0 k
 unfold fact_word.f
 repeat' first
   | (with_reducible exact slices_Contains_string_string.mono _ _ _)
   | (with_reducible exact LeO.refl _)
   | (with_reducible exact LeO.none _)
   | (with_reducible refine LeO.ite ?_ ?_)
   | (with_reducible refine LeO.bind ?_ (fun _ => ?_))
set_option maxHeartbeats 8000000 in
set_option maxRecDepth 100000 in
theorem fact_word.calls (k : Nat) (a0 : ByteArray) (r : Bool) (w : World) (h : fact_word.f k a0 = some r) :
  Calls Try.prog 115 #[.string a0] w fun e w' => e = .returned (.bool r) ∧ Below w.heap.size w w' := by
 have HB := Aside0.mk (Below.refl w.heap.size w)
 have H : ((slices_Contains_string_string.f k (([(⟨#[102, 97, 99, 116]⟩ : ByteArray), (⟨#[114, 117, 108, 101]⟩ : ByteArray), (⟨#[112, 97, 116, 116, 101, 114, 110]⟩ : ByteArray), (⟨#[110, 111, 116]⟩ : ByteArray), (⟨#[97, 110, 100]⟩ : ByteArray), (⟨#[111, 114]⟩ : ByteArray), (⟨#[98, 101, 102, 111, 114, 101]⟩ : ByteArray), (⟨#[111, 110, 99, 101]⟩ : ByteArray), (⟨#[97, 108, 119, 97, 121, 115]⟩ : ByteArray), (⟨#[115, 105, 110, 99, 101]⟩ : ByteArray), (⟨#[100, 114, 111, 112]⟩ : ByteArray)] : List ByteArray)) a0).bind fun t374 => (some t374)) = some r := h
 clear h
 obtain ⟨y371, hy371⟩ : ∃ y_ : List ByteArray, y_ = (([(⟨#[102, 97, 99, 116]⟩ : ByteArray), (⟨#[114, 117, 108, 101]⟩ : ByteArray), (⟨#[112, 97, 116, 116, 101, 114, 110]⟩ : ByteArray), (⟨#[110, 111, 116]⟩ : ByteArray), (⟨#[97, 110, 100]⟩ : ByteArray), (⟨#[111, 114]⟩ : ByteArray), (⟨#[98, 101, 102, 111, 114, 101]⟩ : ByteArray), (⟨#[111, 110, 99, 101]⟩ : ByteArray), (⟨#[97, 108, 119, 97, 121, 115]⟩ : ByteArray), (⟨#[115, 105, 110, 99, 101]⟩ : ByteArray), (⟨#[100, 114, 111, 112]⟩ : ByteArray)] : List ByteArray)) := ⟨_, rfl⟩
 replace H : ((slices_Contains_string_string.f k y371 a0).bind fun t374 => (some t374)) = some r := by first | (rw [hy371]; with_reducible exact H) | (have H2_ := (Option.bind_some _ _).symm.trans H; rw [hy371]; with_reducible exact H2_) | (have H2_ := (Option.bind_some _ _).symm.trans H; with_reducible exact H2_) | with_reducible exact H | (rw [hy371]; exact H) | exact H
 have Ny371 := Aside0.mk hy371
 clear hy371
 replace H := Option.bind_eq_some_iff.mp H
 obtain ⟨t374, A20, H⟩ := H
 replace H : (some t374) = some r := H
 have A2 := Aside0.mk A20
 clear A20
 obtain rfl := Option.some.inj H
 go_enter Try.func115, Try.ntmps115
 go_wp2_with (first | ((with_reducible refine gate_dst (N := 3) rfl ?_); refine Kd.R_lit Kd.string _ 9 ?hg (N := 3) ?hd (xs := ([(⟨#[102, 97, 99, 116]⟩ : ByteArray), (⟨#[114, 117, 108, 101]⟩ : ByteArray), (⟨#[112, 97, 116, 116, 101, 114, 110]⟩ : ByteArray), (⟨#[110, 111, 116]⟩ : ByteArray), (⟨#[97, 110, 100]⟩ : ByteArray), (⟨#[111, 114]⟩ : ByteArray), (⟨#[98, 101, 102, 111, 114, 101]⟩ : ByteArray), (⟨#[111, 110, 99, 101]⟩ : ByteArray), (⟨#[97, 108, 119, 97, 121, 115]⟩ : ByteArray), (⟨#[115, 105, 110, 99, 101]⟩ : ByteArray), (⟨#[100, 114, 111, 112]⟩ : ByteArray)] : List ByteArray)) (inner := [.string (⟨#[102, 97, 99, 116]⟩ : ByteArray), .string (⟨#[114, 117, 108, 101]⟩ : ByteArray), .string (⟨#[112, 97, 116, 116, 101, 114, 110]⟩ : ByteArray), .string (⟨#[110, 111, 116]⟩ : ByteArray), .string (⟨#[97, 110, 100]⟩ : ByteArray), .string (⟨#[111, 114]⟩ : ByteArray), .string (⟨#[98, 101, 102, 111, 114, 101]⟩ : ByteArray), .string (⟨#[111, 110, 99, 101]⟩ : ByteArray), .string (⟨#[97, 108, 119, 97, 121, 115]⟩ : ByteArray), .string (⟨#[115, 105, 110, 99, 101]⟩ : ByteArray), .string (⟨#[100, 114, 111, 112]⟩ : ByteArray)]) (ok := fun _ => True) (okp := fun _ => True) ?hr ?hp (fun _ hk => hk) trivial (Below.refl _ _) (Nat.le_refl _) (by simp) ?_; (case hd => rfl); (case hg => rfl); (case hr => first | (go_simp; done) | (go_simp; rfl)); (case hp => exact (Reps.one (show Kd.M Kd.string _ _ _ (⟨#[102, 97, 99, 116]⟩ : ByteArray) [.string (⟨#[102, 97, 99, 116]⟩ : ByteArray)] from rfl) (Reps.one (show Kd.M Kd.string _ _ _ (⟨#[114, 117, 108, 101]⟩ : ByteArray) [.string (⟨#[114, 117, 108, 101]⟩ : ByteArray)] from rfl) (Reps.one (show Kd.M Kd.string _ _ _ (⟨#[112, 97, 116, 116, 101, 114, 110]⟩ : ByteArray) [.string (⟨#[112, 97, 116, 116, 101, 114, 110]⟩ : ByteArray)] from rfl) (Reps.one (show Kd.M Kd.string _ _ _ (⟨#[110, 111, 116]⟩ : ByteArray) [.string (⟨#[110, 111, 116]⟩ : ByteArray)] from rfl) (Reps.one (show Kd.M Kd.string _ _ _ (⟨#[97, 110, 100]⟩ : ByteArray) [.string (⟨#[97, 110, 100]⟩ : ByteArray)] from rfl) (Reps.one (show Kd.M Kd.string _ _ _ (⟨#[111, 114]⟩ : ByteArray) [.string (⟨#[111, 114]⟩ : ByteArray)] from rfl) (Reps.one (show Kd.M Kd.string _ _ _ (⟨#[98, 101, 102, 111, 114, 101]⟩ : ByteArray) [.string (⟨#[98, 101, 102, 111, 114, 101]⟩ : ByteArray)] from rfl) (Reps.one (show Kd.M Kd.string _ _ _ (⟨#[111, 110, 99, 101]⟩ : ByteArray) [.string (⟨#[111, 110, 99, 101]⟩ : ByteArray)] from rfl) (Reps.one (show Kd.M Kd.string _ _ _ (⟨#[97, 108, 119, 97, 121, 115]⟩ : ByteArray) [.string (⟨#[97, 108, 119, 97, 121, 115]⟩ : ByteArray)] from rfl) (Reps.one (show Kd.M Kd.string _ _ _ (⟨#[115, 105, 110, 99, 101]⟩ : ByteArray) [.string (⟨#[115, 105, 110, 99, 101]⟩ : ByteArray)] from rfl) (Reps.one (show Kd.M Kd.string _ _ _ (⟨#[100, 114, 111, 112]⟩ : ByteArray) [.string (⟨#[100, 114, 111, 112]⟩ : ByteArray)] from rfl) (Reps.none _ _))))))))))))); intro v372 w3 ho4 hb hg_ hnew_; clear hg_ hnew_; (first | rw [← Ny371.out] at ho4 | (simp only [Int.reduceToNat] at ho4; rw [← Ny371.out] at ho4)); have n0_ := Aside0.mk (Kd.R_lower ho4 (below_size bB0)); have n1_ := Aside0.mk (below_step bB0 hb); clear HB; have HO373 := n0_; have HB := n1_; clear n0_ n1_; clear hb ho4; obtain ⟨Ao5, co5, eo5⟩ := Kd.R_slice HO373.out; subst eo5) | ((with_reducible refine gate_callee (f := 85) rfl ?_); refine goesL_ (some 5) rfl rfl Try.func85 (by kernel_rfl) rfl #[.slice Ao5 y371.length co5, .string a0] rfl aG ?_; (with_reducible refine (slices_Contains_string_string.calls k _ _ y371 a0 t374 _ ?side1 ?side2 A2.out).mono ?_); (case side1 => exact sC (Kd.R_reads' HO373.out).2.2); (case side2 => exact (Kd.R_reads' HO373.out).2.1); rintro e w' ⟨rfl, ⟨nd, rfl⟩⟩; refine ⟨_, rfl, ?_⟩))
 go_ret
 exact ⟨eW, bB0⟩

end Go.Proofs.Ytghommaokdhjmaa.P
namespace Go.Proofs.Ytghommaokdhjmaa.P
open Go.RowKit Go.Proofs.YtghommaokdhjmaaW.PrintWords Go.Proofs.YtghommaokdhjmaaW.PrintLast Go.Proofs.Ytghommaokdhjmaa.Gate
set_option linter.unusedVariables false
set_option linter.unusedSimpArgs false

/-! ### fact_Name: function 101 -/
def fact_Name.f (k : Nat) (a0 : ByteArray) : Option (Bool) := (val_Check.f k 2 0 a0).bind fun t375 => (if t375 = 0 then ((fact_word.f k a0).bind fun t376 => (some (!t376))) else (some false))
theorem fact_Name.mono : ∀ a0 k, LeO (fact_Name.f k a0) (fact_Name.f (k + 1) a0) := by
 intro a0 k
 unfold fact_Name.f
 repeat' first
   | (with_reducible exact fact_word.mono _ _)
   | (with_reducible exact val_Check.mono _ _ _ _)
   | (with_reducible exact LeO.refl _)
   | (with_reducible exact LeO.none _)
   | (with_reducible refine LeO.ite ?_ ?_)
   | (with_reducible refine LeO.bind ?_ (fun _ => ?_))
set_option maxHeartbeats 8000000 in
set_option maxRecDepth 100000 in
theorem fact_Name.calls (k : Nat) (a0 : ByteArray) (r : Bool) (w : World) (h : fact_Name.f k a0 = some r) :
  Calls Try.prog 101 #[.string a0] w fun e w' => e = .returned (.bool r) ∧ Below w.heap.size w w' := by
 have hu24 := Try.underlying24
 have HB := Aside0.mk (Below.refl w.heap.size w)
 have H : ((val_Check.f k 2 0 a0).bind fun t375 => (if t375 = 0 then ((fact_word.f k a0).bind fun t376 => (some (!t376))) else (some false))) = some r := h
 clear h
 replace H := Option.bind_eq_some_iff.mp H
 obtain ⟨t375, A20, H⟩ := H
 replace H : (if t375 = 0 then ((fact_word.f k a0).bind fun t376 => (some (!t376))) else (some false)) = some r := H
 have A2 := Aside0.mk A20
 clear A20
 by_cases c3 : t375 = 0
 ·rw [if_pos c3] at H
  have c3b0 : (t375 == 0) = true := beq_iff_eq.mpr c3
  have c3b1 : (t375 != 0) = false := bne_eq_false_iff_eq.mpr c3
  clear c3
  replace H := Option.bind_eq_some_iff.mp H
  obtain ⟨t376, A40, H⟩ := H
  replace H : (some (!t376)) = some r := H
  have A4 := Aside0.mk A40
  clear A40
  obtain rfl := Option.some.inj H
  go_enter Try.func101, Try.ntmps101
  go_wp2_with (first | ((with_reducible refine gate_callee (f := 87) rfl ?_); refine goesL_ (some 5) rfl rfl Try.func87 (by kernel_rfl) rfl #[.agg #[.int .i64 2, .int .i64 0, .string a0]] rfl aG ?_; (with_reducible refine (val_Check.calls k 2 0 a0 t375 _ A2.out).mono ?_); rintro e w5 ⟨rfl, hb⟩; refine ⟨_, rfl, ?_⟩; have n0_ := Aside0.mk (below_step bB0 hb); clear HB; have HB := n0_; clear n0_; (try clear hb); (try clear hb2); (try clear hk); (try clear hi)) | (go_at_call 115; (with_reducible refine (fact_word.calls k a0 t376 _ A4.out).mono ?_); rintro e w6 ⟨rfl, hb⟩; have n0_ := Aside0.mk (below_step bB0 hb); clear HB; have HB := n0_; clear n0_; (try clear hb); (try clear hb2); (try clear hk); (try clear hi)))
  go_ret
  exact ⟨eW, bB0⟩
 ·rw [if_neg c3] at H
  have c3b0 : (t375 == 0) = false := beq_eq_false_iff_ne.mpr c3
  have c3b1 : (t375 != 0) = true := bne_iff_ne.mpr c3
  obtain rfl := Option.some.inj H
  go_enter Try.func101, Try.ntmps101
  go_wp2_with (first | ((with_reducible refine gate_callee (f := 87) rfl ?_); refine goesL_ (some 5) rfl rfl Try.func87 (by kernel_rfl) rfl #[.agg #[.int .i64 2, .int .i64 0, .string a0]] rfl aG ?_; (with_reducible refine (val_Check.calls k 2 0 a0 t375 _ A2.out).mono ?_); rintro e w7 ⟨rfl, hb⟩; refine ⟨_, rfl, ?_⟩; have n0_ := Aside0.mk (below_step bB0 hb); clear HB; have HB := n0_; clear n0_; (try clear hb); (try clear hb2); (try clear hk); (try clear hi)))
  go_ret
  exact ⟨eW, bB0⟩

end Go.Proofs.Ytghommaokdhjmaa.P
/- fact.Check and match.Check: their walks and what they answer as plain functions; texts no longer than a million bytes. -/
set_option linter.unusedVariables false
set_option linter.unusedSimpArgs false
namespace Go.Proofs.Ytghommaokdhjmaa.FactC
open Go.Shelf Go.RowKit Go.Lib Go.Proofs.YtghommaokdhjmaaW.PrintWords Go.Proofs.YtghommaokdhjmaaW.PrintLast Go.Proofs.Ytghommaokdhjmaa.Gate Go.Proofs.Ytghommaokdhjmaa.P Go.Proofs.Ytghommaokdhjmaa.PSpec Go.Proofs.Ytghommaokdhjmaa.Cont
/-- The shelf's names at this translation. -/
def renV : Ren := ⟨fun x => if x = 6 then 117 else if x = 8 then 105 else x, fun x => if x = 0 then 0 else if x = 3 then 3 else if x = 4 then 4 else if x = 22 then 51 else if x = 23 then 24 else if x = 25 then 37 else x, fun x => x⟩
set_option maxRecDepth 1000000 in
theorem laysV : SlLaysH0.n8 Try.prog renV := by
  refine ⟨by kernel_rfl, ⟨ "slices.IndexFunc[[]constable/api.Value,constable/api.Value]", by decide, by kernel_rfl⟩, ⟨ "slices.ContainsFunc[[]constable/api.Value,constable/api.Value]", by decide, by kernel_rfl⟩, ?_, ?_, ?_, ?_, ?_, ?_, ?_, ?_, ?_, ?_, ?_, ?_, ?_, ?_, ?_, ?_, ?_, ?_, ?_, ?_⟩ <;> first | kernel_rfl | (intro w; kernel_rfl)
instance : Inhabited S24 := ⟨z24⟩
/-- Is a value wrong? -/
def wrongV (x : S24) : Bool := !(valP x.f0 x.f1 x.f2 == 0)
def fitV (l : List S24) : Bool := l.all fun x => decide (x.f2.size ≤ 1000000)
theorem fitV_mem {l : List S24} : fitV l = true ↔ ∀ x ∈ l, x.f2.size ≤ 1000000 := by
  unfold fitV
  rw [List.all_eq_true]
  simp only [decide_eq_true_eq]
set_option maxHeartbeats 4000000 in
set_option maxRecDepth 1000000 in
theorem closV (x : S24) (hx : x.f2.size ≤ 1000000) (W : World) : Calls Try.prog 106 #[.agg #[.int .i64 x.f0, .int .i64 x.f1, .string x.f2]] W fun e w' => e = .returned (.bool (wrongV x)) ∧ Go.RowKit.Below W.heap.size W w' := by
  have hu := Try.underlying24
  have hcon := fun W' => val_Check.calls 1000100 x.f0 x.f1 x.f2 _ W' (valP_eq x.f0 x.f1 x.f2 hx 1000100 (by omega))
  unfold wrongV
  generalize valP x.f0 x.f1 x.f2 = r at hcon ⊢
  have eg : ∀ args w, (callFunc 87 args).run Try.prog w = .ok (.enter 87 args) w := enters_of Try.func87 (by kernel_rfl) rfl
  go_enter Try.func106, Try.ntmps106
  go_wp2_with (go_at_fn 87; with_reducible refine (hcon _).mono ?_; rintro e w' ⟨rfl, hb⟩)
  go_ret
  exact ⟨rfl, below_step (by repeat (first | (with_reducible first | exact Go.RowKit.Below.refl _ _ | apply below_alloc | apply pw_below_drewN | apply below_drew1) | exact Go.RowKit.Below.refl _ _)) hb⟩
theorem ansV (l : List S24) (hf : fitV l = true) (w : World) : Answers Try.prog 106 #[] k24 l wrongV w := fun W x cs hW hx hl hK => by
  obtain rfl := k24_open hK
  exact (closV x (fitV_mem.1 hf x hx) W).mono fun e w' ⟨he, hb⟩ => ⟨he, hW.trans (hb.mono hW.size)⟩
theorem aggV : ∀ w, (isAgg 24).run Try.prog w = .ok true w := fun w => by kernel_rfl
theorem sizeV : ∀ w, (Go.sizeOf 24).run Try.prog w = .ok 3 w := fun w => by kernel_rfl
theorem containsV (A : Option Addr) (c : Nat) (l : List S24) (w : World) (hr : Kd.C k24 w A l.length l) (hf : fitV l = true) :
    Calls Try.prog 105 #[.slice A l.length c, .func (.func 106) #[] #[]] w fun e w' => e = .returned (.bool (l.any wrongV)) ∧ Go.RowKit.Below w.heap.size w w' :=
  contains laysV k24 3 rfl aggV sizeV wrongV 106 #[] (enters_of Try.func106 (by kernel_rfl) rfl) A l.length c l w rfl hr (ansV l hf w)
/-- The words that are no names. -/
def wordsL : List ByteArray := [⟨#[102, 97, 99, 116]⟩, ⟨#[114, 117, 108, 101]⟩, ⟨#[112, 97, 116, 116, 101, 114, 110]⟩, ⟨#[110, 111, 116]⟩, ⟨#[97, 110, 100]⟩, ⟨#[111, 114]⟩, ⟨#[98, 101, 102, 111, 114, 101]⟩, ⟨#[111, 110, 99, 101]⟩, ⟨#[97, 108, 119, 97, 121, 115]⟩, ⟨#[115, 105, 110, 99, 101]⟩, ⟨#[100, 114, 111, 112]⟩]
/-- Is a text a name? -/
def nameP (s : ByteArray) : Bool := valP 2 0 s == 0 && !wordsL.any fun x => decide (s = x)
theorem tl_iff (a b : ByteArray) : a.toList = b.toList ↔ a = b := by
  rw [ByteArray.toList_eq, ByteArray.toList_eq]
  constructor
  · intro h
    have h2 := Array.toList_inj.1 h
    cases a; cases b
    simp at h2
    rw [h2]
  · intro h; rw [h]
theorem index_loop (l : List ByteArray) (s : ByteArray) (hl : l.length ≤ 1000000) : ∀ (m i : Nat), i + m = l.length → ∃ r, Ev (fun k => slices_Index_string_string.l0 k l s (l.length : Int) i) r ∧ (decide (r ≥ 0) = ((l.drop i).any fun x => decide (s = x))) := by
  intro m
  induction m with
  | zero =>
    intro i h
    refine ⟨-1, Ev.step (fun k => by rw [slices_Index_string_string.l0, if_neg (by omega)]) (Ev.now _), ?_⟩
    rw [List.drop_eq_nil_of_le (by omega)]; rfl
  | succ m ih =>
    intro i h
    have hi : i < l.length := by omega
    have hrd : rdOf ByteArray.empty l (i : Int) = l[i] := by
      unfold rdOf
      rw [Int.toNat_natCast, List.getD_eq_getElem?_getD, List.getElem?_eq_getElem hi]; rfl
    rw [List.drop_eq_getElem_cons hi, List.any_cons]
    by_cases e : s = l[i]
    · refine ⟨i, Ev.step (fun k => by rw [slices_Index_string_string.l0, if_pos (by omega), if_pos (by omega), if_pos (by omega), hrd, if_pos ((tl_iff _ _).2 e)]) (Ev.now _), ?_⟩
      rw [decide_eq_true (show (i : Int) ≥ 0 by omega), decide_eq_true e, Bool.true_or]
    · obtain ⟨r, h1, h2⟩ := ih (i + 1) (by omega)
      refine ⟨r, Ev.step (fun k => by rw [slices_Index_string_string.l0, if_pos (by omega), if_pos (by omega), if_pos (by omega), hrd, if_neg (fun h => e ((tl_iff _ _).1 h)), w64 hl hi]) h1, ?_⟩
      rw [h2, decide_eq_false e, Bool.false_or]
theorem ev_name (s : ByteArray) (hs : s.size ≤ 1000000) : Ev (fun k => fact_Name.f k s) (nameP s) := by
  unfold fact_Name.f nameP
  refine Ev.bind (⟨s.size + 40, fun k hk => valP_eq 2 0 s hs k hk⟩ : Ev (fun k => val_Check.f k 2 0 s) (valP 2 0 s)) ?_
  by_cases h : valP 2 0 s = 0
  · simp only [if_pos h]
    rw [show (valP 2 0 s == 0) = true by rw [h]; rfl, Bool.true_and]
    unfold fact_word.f slices_Contains_string_string.f slices_Index_string_string.f
    obtain ⟨r, h1, h2⟩ := index_loop wordsL s (by decide) wordsL.length 0 (by omega)
    rw [List.drop_zero] at h2
    rw [← h2]
    refine Ev.bind (a := decide (r ≥ 0)) ?_ (Ev.now _)
    refine Ev.bind (a := decide (r ≥ 0)) ?_ (Ev.now _)
    exact Ev.bind h1 (Ev.now _)
  · simp only [if_neg h]
    rw [beq_eq_false_iff_ne.2 h, Bool.false_and]
    exact Ev.now _
theorem name_calls (s : ByteArray) (hs : s.size ≤ 1000000) (w : World) : Calls Try.prog 101 #[.string s] w fun e w' => e = .returned (.bool (nameP s)) ∧ Go.RowKit.Below w.heap.size w w' := by
  obtain ⟨k, hk⟩ := (ev_name s hs).rounds
  exact fact_Name.calls k s _ w hk
end Go.Proofs.Ytghommaokdhjmaa.FactC
namespace Go.Proofs.Ytghommaokdhjmaa.P
open Go.Shelf Go.RowKit Go.Lib Go.Proofs.YtghommaokdhjmaaW.PrintWords Go.Proofs.YtghommaokdhjmaaW.PrintLast Go.Proofs.Ytghommaokdhjmaa.Gate Go.Proofs.Ytghommaokdhjmaa.PSpec Go.Proofs.Ytghommaokdhjmaa.Cont Go.Proofs.Ytghommaokdhjmaa.FactC
/-- fact.Check's answer. -/
def factP (s : ByteArray) (l : List S24) : Int := if nameP s = true ∧ l.length ≤ 5 ∧ l.any wrongV = false then 0 else 1
def fact_Check.f (a0_0 : ByteArray) (l0_1 : List (S24)) : Option (Int) := if a0_0.size ≤ 1000000 ∧ fitV l0_1 = true then some (factP a0_0 l0_1) else none
set_option maxHeartbeats 4000000 in
set_option maxRecDepth 1000000 in
theorem fact_Check.calls (a0_0 : ByteArray) (A0_1 : Option Addr) (c0_1 : Nat) (l0_1 : List (S24)) (r : Int) (w : World) (hr0_1 : Kd.C k24 w A0_1 l0_1.length l0_1) (hc0_1 : l0_1.length ≤ c0_1) (h : fact_Check.f a0_0 l0_1 = some r) :
    Calls Try.prog 83 #[.agg #[.string a0_0, .slice A0_1 l0_1.length c0_1]] w fun e w' => e = .returned (.int .i64 r) ∧ Go.RowKit.Below w.heap.size w w' := by
  have hfit : a0_0.size ≤ 1000000 ∧ fitV l0_1 = true := by
    unfold fact_Check.f at h
    by_cases hc : a0_0.size ≤ 1000000 ∧ fitV l0_1 = true
    · exact hc
    · rw [if_neg hc] at h; cases h
  obtain rfl : factP a0_0 l0_1 = r := by
    unfold fact_Check.f at h
    rw [if_pos hfit] at h
    exact Option.some.inj h
  clear h
  have hu := Try.underlying53
  have hname := fun W => name_calls a0_0 hfit.1 W
  have HR := Aside0.mk hr0_1
  have HF := Aside0.mk hfit
  have hcon : ∀ W, Go.RowKit.Below w.heap.size w W → Calls Try.prog 105 #[.slice A0_1 l0_1.length c0_1, .func (.func 106) #[] #[]] W fun e w' => e = .returned (.bool (l0_1.any wrongV)) ∧ Go.RowKit.Below W.heap.size W w' := fun W hW => containsV A0_1 c0_1 l0_1 W (Kd.C_below HR.out hW) HF.out.2
  clear hr0_1 hc0_1 hfit
  unfold factP
  have HCo : Aside0 (∀ W, Go.RowKit.Below w.heap.size w W → Calls Try.prog 105 #[.slice A0_1 l0_1.length c0_1, .func (.func 106) #[] #[]] W fun e w' => e = .returned (.bool (l0_1.any wrongV)) ∧ Go.RowKit.Below W.heap.size W w') := Aside0.mk hcon
  clear hcon
  generalize l0_1.any wrongV = q at HCo ⊢
  generalize nameP a0_0 = m at hname ⊢
  generalize l0_1.length = n at HCo ⊢
  have eg : ∀ args w, (callFunc 101 args).run Try.prog w = .ok (.enter 101 args) w := enters_of Try.func101 (by kernel_rfl) rfl
  have eg2 : ∀ args w, (callFunc 105 args).run Try.prog w = .ok (.enter 105 args) w := enters_of Try.func105 (by kernel_rfl) rfl
  have hB0 : Aside0 (Go.RowKit.Below w.heap.size w (w.alloc (.cells #[.string a0_0, .slice A0_1 n c0_1] 53))) := Aside0.mk ((Go.RowKit.Below.refl _ w).alloc (Nat.le_refl _) _)
  cases m with
  | false =>
    rw [if_neg (by simp)]
    go_enter Try.func83, Try.ntmps83
    go_wp2_with (go_at_fn 101; with_reducible refine (hname _).mono ?_; rintro e w1 ⟨rfl, hb⟩)
    go_ret
    exact ⟨rfl, hB0.out.trans (hb.mono (by simp))⟩
  | true =>
    by_cases h5 : n ≤ 5
    · have h5b : ¬ (5 < (n : Int)) := by omega
      cases q with
      | false =>
        rw [if_pos ⟨rfl, h5, rfl⟩]
        go_enter Try.func83, Try.ntmps83
        go_wp2_with (first | (go_at_fn 101; with_reducible refine (hname _).mono ?_; rintro e w1 ⟨rfl, hb⟩; have hc1 := (hb.cell (p := ⟨w.heap.size, 1, none⟩) (by simp)).trans (show (w.alloc (.cells #[.string a0_0, .slice A0_1 n c0_1] 53)).cell? ⟨w.heap.size, 1, none⟩ = some (.slice A0_1 n c0_1) by simp)) | (go_at_fn 105; with_reducible refine (HCo.out _ (hB0.out.trans (hb.mono (by simp)))).mono ?_; rintro e w2 ⟨rfl, hb2⟩))
        go_ret
        exact ⟨rfl, (hB0.out.trans (hb.mono (by simp))).trans (hb2.mono (hB0.out.trans (hb.mono (by simp))).size)⟩
      | true =>
        rw [if_neg (by simp)]
        go_enter Try.func83, Try.ntmps83
        go_wp2_with (first | (go_at_fn 101; with_reducible refine (hname _).mono ?_; rintro e w1 ⟨rfl, hb⟩; have hc1 := (hb.cell (p := ⟨w.heap.size, 1, none⟩) (by simp)).trans (show (w.alloc (.cells #[.string a0_0, .slice A0_1 n c0_1] 53)).cell? ⟨w.heap.size, 1, none⟩ = some (.slice A0_1 n c0_1) by simp)) | (go_at_fn 105; with_reducible refine (HCo.out _ (hB0.out.trans (hb.mono (by simp)))).mono ?_; rintro e w2 ⟨rfl, hb2⟩))
        go_ret
        exact ⟨rfl, (hB0.out.trans (hb.mono (by simp))).trans (hb2.mono (hB0.out.trans (hb.mono (by simp))).size)⟩
    · have h5b : 5 < (n : Int) := by omega
      rw [if_neg (fun h => h5 h.2.1)]
      go_enter Try.func83, Try.ntmps83
      go_wp2_with (go_at_fn 101; with_reducible refine (hname _).mono ?_; rintro e w1 ⟨rfl, hb⟩; have hc1 := (hb.cell (p := ⟨w.heap.size, 1, none⟩) (by simp)).trans (show (w.alloc (.cells #[.string a0_0, .slice A0_1 n c0_1] 53)).cell? ⟨w.heap.size, 1, none⟩ = some (.slice A0_1 n c0_1) by simp))
      go_ret
      exact ⟨rfl, hB0.out.trans (hb.mono (by simp))⟩
end Go.Proofs.Ytghommaokdhjmaa.P
namespace Go.Proofs.Ytghommaokdhjmaa.P
open Go.RowKit Go.Proofs.YtghommaokdhjmaaW.PrintWords Go.Proofs.YtghommaokdhjmaaW.PrintLast Go.Proofs.Ytghommaokdhjmaa.Gate
set_option linter.unusedVariables false
set_option linter.unusedSimpArgs false

/-! ### sets_wrong: function 69 -/
def sets_wrong.f (a0_0 : ByteArray) (l0_1 : List (S24)) : Option (Bool) := (fact_Check.f a0_0 l0_1).bind fun t378 => (some (t378 != 0))
set_option maxHeartbeats 8000000 in
set_option maxRecDepth 100000 in
theorem sets_wrong.calls (a0_0 : ByteArray) (A0_1 : Option Addr) (c0_1 : Nat) (l0_1 : List (S24)) (r : Bool) (w : World) (hr0_1 : Kd.C k24 w A0_1 l0_1.length l0_1) (hc0_1 : l0_1.length ≤ c0_1) (h : sets_wrong.f a0_0 l0_1 = some r) :
  Calls Try.prog 69 #[.agg #[.string a0_0, .slice A0_1 l0_1.length c0_1]] w fun e w' => e = .returned (.bool r) ∧ Below w.heap.size w w' := by
 have hu53 := Try.underlying53
 have HR0_1 := Aside0.mk hr0_1
 have HC0_1 := Aside0.mk hc0_1
 clear hr0_1 hc0_1
 have HB := Aside0.mk (Below.refl w.heap.size w)
 have H : ((fact_Check.f a0_0 l0_1).bind fun t378 => (some (t378 != 0))) = some r := h
 clear h
 replace H := Option.bind_eq_some_iff.mp H
 obtain ⟨t378, A20, H⟩ := H
 replace H : (some (t378 != 0)) = some r := H
 have A2 := Aside0.mk A20
 clear A20
 obtain rfl := Option.some.inj H
 go_enter Try.func69, Try.ntmps69
 go_wp2_with (first | ((with_reducible refine gate_dst (N := 1) rfl ?_); refine bE (N := 1) (cs := #[.string a0_0, .slice A0_1 l0_1.length c0_1]) (t := 53) ?_; intro gb377 hg w3 hbox hb; have n0_ := Aside0.mk (below_step bB0 hb); have n1_ := Aside0.mk (hbox); have n2_ := Aside0.mk ((by rw [hg]; exact (below_size bB0) : w.heap.size ≤ gb377)); have n3_ := Aside0.mk ((by rw [hg]; exact (below_size bB0) : w.heap.size ≤ gb377)); clear HB; have HB := n0_; have BK377 := n1_; have GW377 := n2_; have GE377 := n3_; clear n0_ n1_ n2_ n3_; clear hb hbox hg; have hcz4_0 : w3.cell? ⟨gb377, 0, none⟩ = some (.string a0_0) := (blk_cell BK377.out 0).trans rfl; have hcz4_1 : w3.cell? ⟨gb377, 1, none⟩ = some (.slice A0_1 l0_1.length c0_1) := (blk_cell BK377.out 1).trans rfl; have hfz4_0 := blk_frozen BK377.out 0; have hfz4_1 := blk_frozen BK377.out 1) | ((with_reducible refine gate_callee (f := 83) rfl ?_); refine goesL_ (some 4) rfl rfl Try.func83 (by kernel_rfl) rfl #[.agg #[.string a0_0, .slice A0_1 l0_1.length c0_1]] rfl aG ?_; (with_reducible refine (fact_Check.calls a0_0 _ _ l0_1 t378 _ ?side1 ?side2 A2.out).mono ?_); (case side1 => exact sC (Kd.C_below HR0_1.out HB.out)); (case side2 => exact HC0_1.out); rintro e w5 ⟨rfl, hb⟩; refine ⟨_, rfl, ?_⟩; have n0_ := Aside0.mk (blk_below (g := gb377) (o := .cells #[.string a0_0, .slice A0_1 l0_1.length c0_1] 53 (0, 0)) (by refine bk ?_; exact BK377.out) hb); have n1_ := Aside0.mk (below_step (bB1 GE377.out) hb); clear BK377; clear HB; have BK377 := n0_; have HB := n1_; clear n0_ n1_; (try clear hb); (try clear hb2); (try clear hk); (try clear hi)))
 go_ret
 exact ⟨eW, (bB1 GE377.out)⟩

end Go.Proofs.Ytghommaokdhjmaa.P
namespace Go.Proofs.Ytghommaokdhjmaa.P
open Go.RowKit Go.Proofs.YtghommaokdhjmaaW.PrintWords Go.Proofs.YtghommaokdhjmaaW.PrintLast Go.Proofs.Ytghommaokdhjmaa.Gate
set_option linter.unusedVariables false
set_option linter.unusedSimpArgs false

/-! ### sets_Check: function 35 -/
def sets_Check.l0 : Nat → List (S53) → List (S53) → Int → Int → Option (Int)
 | 0, _, _, _, _ => none
 | k + 1, x0, x5, x6, x7 => if x7 < x6 then (if 0 ≤ x7 then (if x7 < (x5.length : Int) then ((sets_wrong.f ((rd_T53 x5 x7).f0) ((rd_T53 x5 x7).f1)).bind fun t398 => (if t398 = true then (some 1) else (if x7 > 0 then (if 0 ≤ (wrap64 (x7 - 1)) then (if (wrap64 (x7 - 1)) < (x0.length : Int) then ((fact_Compare.f ((rd_T53 x0 (wrap64 (x7 - 1))).f0) ((rd_T53 x0 (wrap64 (x7 - 1))).f1) ((rd_T53 x5 x7).f0) ((rd_T53 x5 x7).f1)).bind fun t400 => (if t400 ≥ 0 then (some 1) else (sets_Check.l0 k x0 x5 x6 (wrap64 (x7 + 1))))) else (none)) else (none)) else (sets_Check.l0 k x0 x5 x6 (wrap64 (x7 + 1)))))) else (none)) else (none)) else (some 0)
def sets_Check.f (k : Nat) (l0 : List (S53)) : Option (Int) := sets_Check.l0 k l0 l0 (l0.length : Int) 0
theorem sets_Check.mono_l : ∀ k, (∀ y0 y1 y2 y3, LeO (sets_Check.l0 k y0 y1 y2 y3) (sets_Check.l0 (k + 1) y0 y1 y2 y3))
 | 0 => fun _ _ _ _ r h => by simp [sets_Check.l0] at h
 | k + 1 => by
  have ih0 := sets_Check.mono_l k
  ·intro y0 y1 y2 y3
   unfold sets_Check.l0
   repeat' first
   | (with_reducible exact ih0 _ _ _ _)
   | (with_reducible exact LeO.refl _)
   | (with_reducible exact LeO.none _)
   | (with_reducible refine LeO.ite ?_ ?_)
   | (with_reducible refine LeO.bind ?_ (fun _ => ?_))
theorem sets_Check.mono : ∀ a0 k, LeO (sets_Check.f k a0) (sets_Check.f (k + 1) a0) := by
 intro a0 k
 have ih0 := sets_Check.mono_l k
 unfold sets_Check.f
 repeat' first
   | (with_reducible exact ih0 _ _ _ _)
   | (with_reducible exact LeO.refl _)
   | (with_reducible exact LeO.none _)
   | (with_reducible refine LeO.ite ?_ ?_)
   | (with_reducible refine LeO.bind ?_ (fun _ => ?_))
def sets_Check.T4 : Bool × List (List Nat × List Nat) := (true, [([], []), ([0], [0]), ([1, 1], [1]), ([2], [2]), ([3, 2], [2, 3]), ([4, 2, 2], [2, 4]), ([5], [5]), ([5], [5]), ([7, 5], [5, 7]), ([6, 8, 5], [5, 6, 8]), ([9, 5], [5, 9]), ([5], [5]), ([10, 11, 5, 5], [5, 10, 11]), ([12, 5], [5, 12]), ([5, 13, 2], [2, 5, 13]), ([2, 14], [2, 14])])
def sets_Check.B4 : List Nat := [0, 1, 3, 7, 15, 31, 63, 63, 191, 511, 1023, 63, 4095, 8191, 16383, 32767]
theorem sets_Check.tab4 : rtab .any (opsOf Try.f35 4) = sets_Check.T4 := by kernel_rfl
theorem sets_Check.bits4 : waitsOk sets_Check.T4.2 sets_Check.B4 = true := by kernel_rfl
set_option maxHeartbeats 8000000 in
set_option maxRecDepth 100000 in
theorem sets_Check.calls (k : Nat) (A0 : Option Addr) (c0 : Nat) (l0 : List (S53)) (r : Int) (w : World) (hr0 : Kd.C k53 w A0 l0.length l0) (hc0 : l0.length ≤ c0) (h : sets_Check.f k l0 = some r) :
  Calls Try.prog 35 #[.slice A0 l0.length c0] w fun e w' => e = .returned (.int .i64 r) ∧ Below w.heap.size w w' := by
 have hu53 := Try.underlying53
 have HR0 := Aside0.mk hr0
 have HC0 := Aside0.mk hc0
 clear hr0 hc0
 have HB := Aside0.mk (Below.refl w.heap.size w)
 have H : (sets_Check.l0 k l0 l0 (l0.length : Int) 0) = some r := h
 clear h
 have H' := Aside0.mk H
 clear H
 go_enter Try.func35, Try.ntmps35
 go_wp2
 go_loopg [7] k (fun kq v7 w' => ∃ (x7_1 : Int), v7 = .int .i64 x7_1 ∧ Aside0 (sets_Check.l0 kq l0 l0 (l0.length : Int) x7_1 = some r) ∧ Aside0 (kq ≤ k) ∧ Aside0 (Below w.heap.size w w'))
 case atStart => exact ⟨(0), (by first | rfl | (simp; done) | (simp [*]; done)), H', ⟨Nat.le_refl _⟩, ⟨bB0⟩⟩
 case round =>
  clear H'
  obtain ⟨x7_1, rfl, HA, HK1, HB⟩ := hrel
  cases gk with
  | zero => exact absurd HA.out (by simp [sets_Check.l0])
  | succ k1 =>
   have H := HA.out
   clear HA
   simp only [sets_Check.l0] at H
   by_cases c2 : x7_1 < (l0.length : Int)
   ·rw [if_pos c2] at H
    have c2b0 : decide (x7_1 < (l0.length : Int)) = true := decide_eq_true c2
    clear c2
    by_cases c3 : 0 ≤ x7_1
    ·rw [if_pos c3] at H
     have c3b0 : decide (0 ≤ x7_1) = true := decide_eq_true c3
     clear c3
     by_cases c4 : x7_1 < (l0.length : Int)
     ·rw [if_pos c4] at H
      have c4b0 : decide (x7_1 < (l0.length : Int)) = true := decide_eq_true c4
      clear c4
      replace H := Option.bind_eq_some_iff.mp H
      obtain ⟨t398, A50, H⟩ := H
      replace H : (if t398 = true then (some 1) else (if x7_1 > 0 then (if 0 ≤ (wrap64 (x7_1 - 1)) then (if (wrap64 (x7_1 - 1)) < (l0.length : Int) then ((fact_Compare.f ((rd_T53 l0 (wrap64 (x7_1 - 1))).f0) ((rd_T53 l0 (wrap64 (x7_1 - 1))).f1) ((rd_T53 l0 x7_1).f0) ((rd_T53 l0 x7_1).f1)).bind fun t400 => (if t400 ≥ 0 then (some 1) else (sets_Check.l0 k1 l0 l0 (l0.length : Int) (wrap64 (x7_1 + 1))))) else (none)) else (none)) else (sets_Check.l0 k1 l0 l0 (l0.length : Int) (wrap64 (x7_1 + 1))))) = some r := H
      have A5 := Aside0.mk A50
      clear A50
      by_cases c6 : t398 = true
      ·subst c6
       have H1 : (some 1) = some r := by rw [if_pos rfl] at H; exact H
       clear H
       have H := H1
       clear H1
       obtain rfl := Option.some.inj H
       have p396 : 0 ≤ (x7_1 : Int) := of_decide_eq_true (by first | (with_reducible assumption) | assumption)
       have q396 : x7_1 < (l0.length : Int) := of_decide_eq_true (by first | (with_reducible assumption) | assumption)
       obtain ⟨ad396, A396_1, c396_1, e396, hx396_0, hx396_1, hl396_1, hi396_1⟩ := at_T53 HR0.out x7_1 p396 q396
       cases e396
       have HZ396_1 := Aside0.mk hx396_1
       replace hx396_0 := (HB.out.cell (World.block_lt_of_cell? w _ hx396_0)).trans hx396_0
       replace hx396_1 := (HB.out.cell (World.block_lt_of_cell? w _ hx396_1)).trans hx396_1
       have HR396_1 := Aside0.mk hi396_1
       have HC396_1 := Aside0.mk hl396_1
       clear hi396_1 hl396_1
       replace p396 := eq_true p396
       replace q396 := eq_true q396
       try go_wp2_with (first | ((with_reducible refine gate_dst (N := 4) rfl ?_); refine bE (N := 4) (cs := #[.string (⟨#[]⟩ : ByteArray), .slice none 0 0]) (t := 53) ?_; intro gb397 hg w7 hbox hb; have n0_ := Aside0.mk (below_step bB0 hb); have n1_ := Aside0.mk (hbox); have n2_ := Aside0.mk ((by rw [hg]; exact (below_size bB0) : w.heap.size ≤ gb397)); have n3_ := Aside0.mk ((by rw [hg]; exact (below_size bB0) : w.heap.size ≤ gb397)); clear HB; have HB := n0_; have BK397 := n1_; have GW397 := n2_; have GE397 := n3_; clear n0_ n1_ n2_ n3_; clear hb hbox hg; have hcz8_0 : w7.cell? ⟨gb397, 0, none⟩ = some (.string (⟨#[]⟩ : ByteArray)) := (blk_cell BK397.out 0).trans rfl; have hcz8_1 : w7.cell? ⟨gb397, 1, none⟩ = some (.slice none 0 0) := (blk_cell BK397.out 1).trans rfl; have hfz8_0 := blk_frozen BK397.out 0; have hfz8_1 := blk_frozen BK397.out 1))
       have n0_ : Aside0 (((w7.setCell ⟨gb397, 0, none⟩ (.string ((rd_T53 l0 x7_1).f0))).setCell ⟨gb397, 1, none⟩ (.slice A396_1 ((rd_T53 l0 x7_1).f1).length c396_1)).heap[gb397]? = some (.cells #[.string ((rd_T53 l0 x7_1).f0), .slice A396_1 ((rd_T53 l0 x7_1).f1).length c396_1] 53 (0, 0))) := ⟨by refine bk ?_; refine blk_put (cs := #[.string ((rd_T53 l0 x7_1).f0), .slice none 0 0]) ?_ 1 _ rfl; refine bk ?_; refine blk_put (cs := #[.string (⟨#[]⟩ : ByteArray), .slice none 0 0]) ?_ 0 _ rfl; refine bk ?_; exact BK397.out⟩
       have n1_ : Aside0 (Below w.heap.size w ((w7.setCell ⟨gb397, 0, none⟩ (.string ((rd_T53 l0 x7_1).f0))).setCell ⟨gb397, 1, none⟩ (.slice A396_1 ((rd_T53 l0 x7_1).f1).length c396_1))) := ⟨(bB1 GE397.out)⟩
       (try clear BK397)
       (try clear HB)
       generalize ((w7.setCell ⟨gb397, 0, none⟩ (.string ((rd_T53 l0 x7_1).f0))).setCell ⟨gb397, 1, none⟩ (.slice A396_1 ((rd_T53 l0 x7_1).f1).length c396_1)) = w9 at n0_ n1_ ⊢
       have BK397 := n0_
       have HB := n1_
       clear n0_ n1_
       have n0_ := Aside0.mk (blk_drew BK397.out)
       have n1_ := Aside0.mk (below_drew1 HB.out)
       clear BK397
       clear HB
       have BK397 := n0_
       have HB := n1_
       clear n0_ n1_
       refine start_ (n := 16) (S := fun w' => w'.cell? ⟨gb397, 0, none⟩ = some (.string ((rd_T53 l0 x7_1).f0)) ∧ w'.cell? ⟨gb397, 1, none⟩ = some (.slice A396_1 ((rd_T53 l0 x7_1).f1).length c396_1)) (ds := []) #[false, false, false, false, false, false, false, false, false, false, false, false, false, false, false, false] (by kernel_rfl) rfl rfl ⟨(blk_cell BK397.out 0).trans rfl, (blk_cell BK397.out 1).trans rfl⟩ (fun hHeld => ?_); refine with_tabW sets_Check.tab4 sets_Check.bits4 (fun HT_ HW_ => ?_)
       generalize w9.drew = w10 at BK397 HB hHeld ⊢
       refine tQ2 (i := 0) (N := some 12) (bb 16 1) hHeld ?_
       refine one_ (i := 1) (N := some 13) (bb 16 3) rfl rfl (one_of HT_.out (by kernel_rfl)) (by decide) (fun K hK => ?_)
       refine goes_ Try.func69 (by kernel_rfl) rfl #[.agg #[.string ((rd_T53 l0 x7_1).f0), .slice A396_1 ((rd_T53 l0 x7_1).f1).length c396_1]] (by rfl) rfl rfl aG ?_
       with_reducible refine (sets_wrong.calls ((rd_T53 l0 x7_1).f0) _ _ ((rd_T53 l0 x7_1).f1) true _ ?side1 ?side2 A5.out).mono ?_
       (case side1 => exact sC (Kd.C_below HR396_1.out HB.out))
       (case side2 => exact HC396_1.out)
       rintro e w11 ⟨rfl, hb⟩
       refine ⟨_, rfl, ?_⟩
       have n0_ := Aside0.mk (blk_below (g := gb397) (o := .cells #[.string ((rd_T53 l0 x7_1).f0), .slice A396_1 ((rd_T53 l0 x7_1).f1).length c396_1] 53 (0, 0)) (by refine bk ?_; exact BK397.out) hb)
       have n1_ := Aside0.mk (below_step (bB1 GE397.out) hb)
       clear BK397
       clear HB
       have BK397 := n0_
       have HB := n1_
       clear n0_ n1_
       (try clear hb)
       (try clear hb2)
       (try clear hk)
       (try clear hi)
       refine hK.out _ _ ⟨(blk_cell BK397.out 0).trans rfl, (blk_cell BK397.out 1).trans rfl⟩ (fun hHeld => ?_)
       clear hK K
       refine norm_ (a' := ?_) ?_ ?_
       rotate_left
       ·show Act.put _ (some 13) _ = _
        simp only [Act.put, List.setIfInBounds_toArray, List.set_cons_zero, List.set_cons_succ, i64_w, i32_w]
        rfl
       refine pQ (i := 2) (N := some 14) (bb 16 7) ?_
       refine pure_ (i := 3) (N := some 15) (v := undef) (a' := ?_) (bb 16 15) rfl rfl (any_of HT_.out (by kernel_rfl)) (fun _ _ _ h => h) (Or.inr ⟨by rfl, rfl⟩) ?_ ?_
       rotate_left
       ·simp only [Act.put, List.setIfInBounds_toArray, List.set_cons_zero, List.set_cons_succ, i64_w, i32_w]
        rfl
       refine pure_ (i := 4) (N := some 16) (v := undef) (a' := ?_) (bb 16 31) rfl rfl (any_of HT_.out (by kernel_rfl)) (fun _ _ _ h => h) (Or.inr ⟨by rfl, rfl⟩) ?_ ?_
       rotate_left
       ·simp only [Act.put, List.setIfInBounds_toArray, List.set_cons_zero, List.set_cons_succ, i64_w, i32_w]
        rfl
       refine pure_ (i := 5) (N := some 17) (v := undef) (a' := ?_) (bb 16 63) rfl rfl (any_of HT_.out (by kernel_rfl)) (fun _ _ _ h => h) (Or.inr ⟨by rfl, rfl⟩) ?_ ?_
       rotate_left
       ·simp only [Act.put, List.setIfInBounds_toArray, List.set_cons_zero, List.set_cons_succ, i64_w, i32_w]
        rfl
       refine pure_ (i := 6) (N := some 18) (v := undef) (a' := ?_) (bb 16 127) rfl rfl (any_of HT_.out (by kernel_rfl)) (fun _ _ _ h => h) (Or.inr ⟨by rfl, rfl⟩) ?_ ?_
       rotate_left
       ·simp only [Act.put, List.setIfInBounds_toArray, List.set_cons_zero, List.set_cons_succ, i64_w, i32_w]
        rfl
       refine pure_ (i := 7) (N := some 19) (v := undef) (a' := ?_) (bb 16 255) rfl rfl (any_of HT_.out (by kernel_rfl)) (fun _ _ _ h => h) (Or.inr ⟨by rfl, rfl⟩) ?_ ?_
       rotate_left
       ·simp only [Act.put, List.setIfInBounds_toArray, List.set_cons_zero, List.set_cons_succ, i64_w, i32_w]
        rfl
       refine pure_ (i := 8) (N := some 20) (v := undef) (a' := ?_) (bb 16 511) rfl rfl (any_of HT_.out (by kernel_rfl)) (fun _ _ _ h => h) (Or.inr ⟨by rfl, rfl⟩) ?_ ?_
       rotate_left
       ·simp only [Act.put, List.setIfInBounds_toArray, List.set_cons_zero, List.set_cons_succ, i64_w, i32_w]
        rfl
       refine pure_ (i := 9) (N := some 21) (v := undef) (a' := ?_) (bb 16 1023) rfl rfl (any_of HT_.out (by kernel_rfl)) (fun _ _ _ h => h) (Or.inr ⟨by rfl, rfl⟩) ?_ ?_
       rotate_left
       ·simp only [Act.put, List.setIfInBounds_toArray, List.set_cons_zero, List.set_cons_succ, i64_w, i32_w]
        rfl
       refine pure_ (i := 10) (N := some 22) (v := undef) (a' := ?_) (bb 16 2047) rfl rfl (any_of HT_.out (by kernel_rfl)) (fun _ _ _ h => h) (Or.inr ⟨by rfl, rfl⟩) ?_ ?_
       rotate_left
       ·simp only [Act.put, List.setIfInBounds_toArray, List.set_cons_zero, List.set_cons_succ, i64_w, i32_w]
        rfl
       refine pure_ (i := 11) (N := some 23) (v := undef) (a' := ?_) (bb 16 4095) rfl rfl (any_of HT_.out (by kernel_rfl)) (fun _ _ _ h => h) (Or.inr ⟨by rfl, rfl⟩) ?_ ?_
       rotate_left
       ·simp only [Act.put, List.setIfInBounds_toArray, List.set_cons_zero, List.set_cons_succ, i64_w, i32_w]
        rfl
       refine pure_ (i := 12) (N := some 24) (v := undef) (a' := ?_) (bb 16 8191) rfl rfl (any_of HT_.out (by kernel_rfl)) (fun _ _ _ h => h) (Or.inr ⟨by rfl, rfl⟩) ?_ ?_
       rotate_left
       ·simp only [Act.put, List.setIfInBounds_toArray, List.set_cons_zero, List.set_cons_succ, i64_w, i32_w]
        rfl
       refine pure_ (i := 13) (N := some 25) (v := undef) (a' := ?_) (bb 16 16383) rfl rfl (any_of HT_.out (by kernel_rfl)) (fun _ _ _ h => h) (Or.inr ⟨by rfl, rfl⟩) ?_ ?_
       rotate_left
       ·simp only [Act.put, List.setIfInBounds_toArray, List.set_cons_zero, List.set_cons_succ, i64_w, i32_w]
        rfl
       refine pure_ (i := 14) (N := some 26) (v := undef) (a' := ?_) (bb 16 32767) rfl rfl (any_of HT_.out (by kernel_rfl)) (fun _ _ _ h => h) (Or.inr ⟨by rfl, rfl⟩) ?_ ?_
       rotate_left
       ·simp only [Act.put, List.setIfInBounds_toArray, List.set_cons_zero, List.set_cons_succ, i64_w, i32_w]
        rfl
       refine pQ (i := 15) (N := some 27) (bb 16 65535) ?_
       refine done_ (done_of HT_.out (by kernel_rfl)) ?_
       try go_wp2
       go_ret
       exact ⟨eW, (bB1 GE397.out)⟩
      ·replace c6 := Bool.eq_false_iff.mpr c6
       subst c6
       have H1 : (if x7_1 > 0 then (if 0 ≤ (wrap64 (x7_1 - 1)) then (if (wrap64 (x7_1 - 1)) < (l0.length : Int) then ((fact_Compare.f ((rd_T53 l0 (wrap64 (x7_1 - 1))).f0) ((rd_T53 l0 (wrap64 (x7_1 - 1))).f1) ((rd_T53 l0 x7_1).f0) ((rd_T53 l0 x7_1).f1)).bind fun t400 => (if t400 ≥ 0 then (some 1) else (sets_Check.l0 k1 l0 l0 (l0.length : Int) (wrap64 (x7_1 + 1))))) else (none)) else (none)) else (sets_Check.l0 k1 l0 l0 (l0.length : Int) (wrap64 (x7_1 + 1)))) = some r := by rw [if_neg (show ¬ (false = true) by decide)] at H; exact H
       clear H
       have H := H1
       clear H1
       by_cases c12 : x7_1 > 0
       ·rw [if_pos c12] at H
        have c12b0 : decide (0 < x7_1) = true := decide_eq_true c12
        clear c12
        obtain ⟨ji13, hji13⟩ : ∃ j_ : Int, (wrap64 (x7_1 - 1)) = j_ := ⟨_, rfl⟩
        replace H : (if 0 ≤ (ji13) then (if (ji13) < (l0.length : Int) then ((fact_Compare.f ((rd_T53 l0 (ji13)).f0) ((rd_T53 l0 (ji13)).f1) ((rd_T53 l0 x7_1).f0) ((rd_T53 l0 x7_1).f1)).bind fun t400 => (if t400 ≥ 0 then (some 1) else (sets_Check.l0 k1 l0 l0 (l0.length : Int) (wrap64 (x7_1 + 1))))) else (none)) else (none)) = some r := by first | (rw [hji13] at H; exact H) | (simp only [hji13] at H ⊢; exact H)
        (try rw [hji13] at A5)
        have hji13w : (IntKind.i64.wrap (x7_1 - 1)) = ji13 := (i64_w _).trans hji13
        by_cases c14 : 0 ≤ (ji13)
        ·rw [if_pos c14] at H
         have c14b0 : decide (0 ≤ (ji13)) = true := decide_eq_true c14
         clear c14
         by_cases c15 : (ji13) < (l0.length : Int)
         ·rw [if_pos c15] at H
          have c15b0 : decide ((ji13) < (l0.length : Int)) = true := decide_eq_true c15
          clear c15
          replace H := Option.bind_eq_some_iff.mp H
          obtain ⟨t400, A160, H⟩ := H
          replace H : (if t400 ≥ 0 then (some 1) else (sets_Check.l0 k1 l0 l0 (l0.length : Int) (wrap64 (x7_1 + 1)))) = some r := H
          have A16 := Aside0.mk A160
          clear A160
          by_cases c17 : t400 ≥ 0
          ·rw [if_pos c17] at H
           have c17b0 : decide (0 ≤ t400) = true := decide_eq_true c17
           clear c17
           obtain rfl := Option.some.inj H
           have p396 : 0 ≤ (x7_1 : Int) := of_decide_eq_true (by first | (with_reducible assumption) | assumption)
           have q396 : x7_1 < (l0.length : Int) := of_decide_eq_true (by first | (with_reducible assumption) | assumption)
           obtain ⟨ad396, A396_1, c396_1, e396, hx396_0, hx396_1, hl396_1, hi396_1⟩ := at_T53 HR0.out x7_1 p396 q396
           cases e396
           have HZ396_1 := Aside0.mk hx396_1
           replace hx396_0 := (HB.out.cell (World.block_lt_of_cell? w _ hx396_0)).trans hx396_0
           replace hx396_1 := (HB.out.cell (World.block_lt_of_cell? w _ hx396_1)).trans hx396_1
           have HR396_1 := Aside0.mk hi396_1
           have HC396_1 := Aside0.mk hl396_1
           clear hi396_1 hl396_1
           replace p396 := eq_true p396
           replace q396 := eq_true q396
           try go_wp2_with (first | ((with_reducible refine gate_dst (N := 4) rfl ?_); refine bE (N := 4) (cs := #[.string (⟨#[]⟩ : ByteArray), .slice none 0 0]) (t := 53) ?_; intro gb397 hg w18 hbox hb; have n0_ := Aside0.mk (below_step bB0 hb); have n1_ := Aside0.mk (hbox); have n2_ := Aside0.mk ((by rw [hg]; exact (below_size bB0) : w.heap.size ≤ gb397)); have n3_ := Aside0.mk ((by rw [hg]; exact (below_size bB0) : w.heap.size ≤ gb397)); clear HB; have HB := n0_; have BK397 := n1_; have GW397 := n2_; have GE397 := n3_; clear n0_ n1_ n2_ n3_; clear hb hbox hg; have hcz19_0 : w18.cell? ⟨gb397, 0, none⟩ = some (.string (⟨#[]⟩ : ByteArray)) := (blk_cell BK397.out 0).trans rfl; have hcz19_1 : w18.cell? ⟨gb397, 1, none⟩ = some (.slice none 0 0) := (blk_cell BK397.out 1).trans rfl; have hfz19_0 := blk_frozen BK397.out 0; have hfz19_1 := blk_frozen BK397.out 1))
           have n0_ : Aside0 (((w18.setCell ⟨gb397, 0, none⟩ (.string ((rd_T53 l0 x7_1).f0))).setCell ⟨gb397, 1, none⟩ (.slice A396_1 ((rd_T53 l0 x7_1).f1).length c396_1)).heap[gb397]? = some (.cells #[.string ((rd_T53 l0 x7_1).f0), .slice A396_1 ((rd_T53 l0 x7_1).f1).length c396_1] 53 (0, 0))) := ⟨by refine bk ?_; refine blk_put (cs := #[.string ((rd_T53 l0 x7_1).f0), .slice none 0 0]) ?_ 1 _ rfl; refine bk ?_; refine blk_put (cs := #[.string (⟨#[]⟩ : ByteArray), .slice none 0 0]) ?_ 0 _ rfl; refine bk ?_; exact BK397.out⟩
           have n1_ : Aside0 (Below w.heap.size w ((w18.setCell ⟨gb397, 0, none⟩ (.string ((rd_T53 l0 x7_1).f0))).setCell ⟨gb397, 1, none⟩ (.slice A396_1 ((rd_T53 l0 x7_1).f1).length c396_1))) := ⟨(bB1 GE397.out)⟩
           (try clear BK397)
           (try clear HB)
           generalize ((w18.setCell ⟨gb397, 0, none⟩ (.string ((rd_T53 l0 x7_1).f0))).setCell ⟨gb397, 1, none⟩ (.slice A396_1 ((rd_T53 l0 x7_1).f1).length c396_1)) = w20 at n0_ n1_ ⊢
           have BK397 := n0_
           have HB := n1_
           clear n0_ n1_
           have n0_ := Aside0.mk (blk_drew BK397.out)
           have n1_ := Aside0.mk (below_drew1 HB.out)
           clear BK397
           clear HB
           have BK397 := n0_
           have HB := n1_
           clear n0_ n1_
           have p399 : 0 ≤ ((ji13) : Int) := of_decide_eq_true (by first | (with_reducible assumption) | assumption)
           have q399 : (ji13) < (l0.length : Int) := of_decide_eq_true (by first | (with_reducible assumption) | assumption)
           obtain ⟨ad399, A399_1, c399_1, e399, hx399_0, hx399_1, hl399_1, hi399_1⟩ := at_T53 HR0.out (ji13) p399 q399
           have hw399_1 := hx399_1
           have hw399_0 := hx399_0
           obtain rfl : ad396 = ad399 := (by injection e399)
           have HZ399_1 := Aside0.mk hx399_1
           replace hx399_0 := (HB.out.cell (World.block_lt_of_cell? w _ hx399_0)).trans hx399_0
           replace hx399_1 := (HB.out.cell (World.block_lt_of_cell? w _ hx399_1)).trans hx399_1
           have HR399_1 := Aside0.mk hi399_1
           have HC399_1 := Aside0.mk hl399_1
           clear hi399_1 hl399_1
           replace p399 := eq_true p399
           replace q399 := eq_true q399
           refine start_ (n := 16) (S := fun w' => w'.cell? ⟨gb397, 0, none⟩ = some (.string ((rd_T53 l0 x7_1).f0)) ∧ w'.cell? ⟨gb397, 1, none⟩ = some (.slice A396_1 ((rd_T53 l0 x7_1).f1).length c396_1) ∧ w'.cell? (ad396.add (((ji13)).toNat * 2)) = some (.string ((rd_T53 l0 (ji13)).f0)) ∧ w'.cell? ⟨(ad396.add (((ji13)).toNat * 2)).block, (ad396.add (((ji13)).toNat * 2)).off + 1, none⟩ = some (.slice A399_1 ((rd_T53 l0 (ji13)).f1).length c399_1)) (ds := []) #[false, false, false, false, false, false, false, false, false, false, false, false, false, false, false, false] (by kernel_rfl) rfl rfl ⟨(blk_cell BK397.out 0).trans rfl, (blk_cell BK397.out 1).trans rfl, ((HB.out.cell (World.block_lt_of_cell? w _ hw399_0)).trans hw399_0), ((HB.out.cell (World.block_lt_of_cell? w _ hw399_1)).trans hw399_1)⟩ (fun hHeld => ?_); refine with_tabW sets_Check.tab4 sets_Check.bits4 (fun HT_ HW_ => ?_)
           generalize w20.drew = w21 at BK397 HB HR399_1 hx399_0 hx399_1 hHeld ⊢
           refine tQ4 (i := 0) (N := some 12) (bb 16 1) hHeld ?_
           refine one_ (i := 1) (N := some 13) (bb 16 3) rfl rfl (one_of HT_.out (by kernel_rfl)) (by decide) (fun K hK => ?_)
           refine goes_ Try.func69 (by kernel_rfl) rfl #[.agg #[.string ((rd_T53 l0 x7_1).f0), .slice A396_1 ((rd_T53 l0 x7_1).f1).length c396_1]] (by rfl) rfl rfl aG ?_
           with_reducible refine (sets_wrong.calls ((rd_T53 l0 x7_1).f0) _ _ ((rd_T53 l0 x7_1).f1) false _ ?side1 ?side2 A5.out).mono ?_
           (case side1 => exact sC (Kd.C_below HR396_1.out HB.out))
           (case side2 => exact HC396_1.out)
           rintro e w22 ⟨rfl, hb⟩
           refine ⟨_, rfl, ?_⟩
           have n0_ := Aside0.mk (blk_below (g := gb397) (o := .cells #[.string ((rd_T53 l0 x7_1).f0), .slice A396_1 ((rd_T53 l0 x7_1).f1).length c396_1] 53 (0, 0)) (by refine bk ?_; exact BK397.out) hb)
           have n1_ := Aside0.mk (below_step (bB1 GE397.out) hb)
           clear BK397
           clear HB
           have BK397 := n0_
           have HB := n1_
           clear n0_ n1_
           (try clear hb)
           (try clear hb2)
           (try clear hk)
           (try clear hi)
           refine hK.out _ _ ⟨(blk_cell BK397.out 0).trans rfl, (blk_cell BK397.out 1).trans rfl, ((HB.out.cell (World.block_lt_of_cell? w _ hw399_0)).trans hw399_0), ((HB.out.cell (World.block_lt_of_cell? w _ hw399_1)).trans hw399_1)⟩ (fun hHeld => ?_)
           clear hK K
           refine norm_ (a' := ?_) ?_ ?_
           rotate_left
           ·show Act.put _ (some 13) _ = _
            simp only [Act.put, List.setIfInBounds_toArray, List.set_cons_zero, List.set_cons_succ, i64_w, i32_w]
            rfl
           refine pQ (i := 2) (N := some 14) (bb 16 7) ?_
           refine pQ (i := 3) (N := some 15) (bb 16 15) ?_
           refine pQ (i := 4) (N := some 16) (bb 16 31) ?_
           refine pQ (i := 5) (N := some 17) (bb 16 63) ?_
           refine pQ (i := 6) (N := some 18) (bb 16 127) ?_
           refine pQ (i := 7) (N := some 19) (bb 16 255) ?_
           refine pQ (i := 8) (N := some 20) (bb 16 511) ?_
           refine pQ (i := 9) (N := some 21) (bb 16 1023) ?_
           refine tQ4 (i := 10) (N := some 22) (bb 16 2047) hHeld ?_
           refine tQ4 (i := 11) (N := some 23) (bb 16 4095) hHeld ?_
           refine one_ (i := 12) (N := some 24) (bb 16 8191) rfl rfl (one_of HT_.out (by kernel_rfl)) (by decide) (fun K hK => ?_)
           refine goes_ Try.func48 (by kernel_rfl) rfl #[.agg #[.string ((rd_T53 l0 (ji13)).f0), .slice A399_1 ((rd_T53 l0 (ji13)).f1).length c399_1], .agg #[.string ((rd_T53 l0 x7_1).f0), .slice A396_1 ((rd_T53 l0 x7_1).f1).length c396_1]] (by rfl) rfl rfl (by (try simp only [List.map_toArray, List.map_cons, List.map_nil]); first | done | (simp only [hji13]; rfl) | rfl | (simp only [List.length_drop, List.length_take]; rfl)) ?_
           with_reducible refine (fact_Compare.calls ((rd_T53 l0 (ji13)).f0) _ _ ((rd_T53 l0 (ji13)).f1) ((rd_T53 l0 x7_1).f0) _ _ ((rd_T53 l0 x7_1).f1) t400 _ ?side1 ?side2 ?side3 ?side4 A16.out).mono ?_
           (case side1 => exact sC (Kd.C_below HR399_1.out HB.out))
           (case side2 => exact HC399_1.out)
           (case side3 => exact sC (Kd.C_below HR396_1.out HB.out))
           (case side4 => exact HC396_1.out)
           rintro e w23 ⟨rfl, hb⟩
           refine ⟨_, rfl, ?_⟩
           have n0_ := Aside0.mk (blk_below (g := gb397) (o := .cells #[.string ((rd_T53 l0 x7_1).f0), .slice A396_1 ((rd_T53 l0 x7_1).f1).length c396_1] 53 (0, 0)) (by refine bk ?_; exact BK397.out) hb)
           have n1_ := Aside0.mk (below_step (bB1 GE397.out) hb)
           clear BK397
           clear HB
           have BK397 := n0_
           have HB := n1_
           clear n0_ n1_
           (try clear hb)
           (try clear hb2)
           (try clear hk)
           (try clear hi)
           refine hK.out _ _ ⟨(blk_cell BK397.out 0).trans rfl, (blk_cell BK397.out 1).trans rfl, ((HB.out.cell (World.block_lt_of_cell? w _ hw399_0)).trans hw399_0), ((HB.out.cell (World.block_lt_of_cell? w _ hw399_1)).trans hw399_1)⟩ (fun hHeld => ?_)
           clear hK K
           refine norm_ (a' := ?_) ?_ ?_
           rotate_left
           ·show Act.put _ (some 24) _ = _
            simp only [Act.put, List.setIfInBounds_toArray, List.set_cons_zero, List.set_cons_succ, i64_w, i32_w]
            rfl
           refine pQ (i := 13) (N := some 25) (bb 16 16383) ?_
           refine pQ (i := 14) (N := some 26) (bb 16 32767) ?_
           refine pQ (i := 15) (N := some 27) (bb 16 65535) ?_
           refine done_ (done_of HT_.out (by kernel_rfl)) ?_
           try go_wp2
           go_ret
           exact ⟨by first | rfl | (simp [errW_none, errW_some] <;> rfl) | (simp only [← hji13]; first | rfl | (simp [errW_none, errW_some] <;> rfl)) | (simp [*, errW_none, errW_some] <;> rfl), (bB1 GE397.out)⟩
          ·rw [if_neg c17] at H
           have c17b0 : decide (0 ≤ t400) = false := decide_eq_false c17
           clear c17
           have H' := Aside0.mk H
           clear H
           have p396 : 0 ≤ (x7_1 : Int) := of_decide_eq_true (by first | (with_reducible assumption) | assumption)
           have q396 : x7_1 < (l0.length : Int) := of_decide_eq_true (by first | (with_reducible assumption) | assumption)
           obtain ⟨ad396, A396_1, c396_1, e396, hx396_0, hx396_1, hl396_1, hi396_1⟩ := at_T53 HR0.out x7_1 p396 q396
           cases e396
           have HZ396_1 := Aside0.mk hx396_1
           replace hx396_0 := (HB.out.cell (World.block_lt_of_cell? w _ hx396_0)).trans hx396_0
           replace hx396_1 := (HB.out.cell (World.block_lt_of_cell? w _ hx396_1)).trans hx396_1
           have HR396_1 := Aside0.mk hi396_1
           have HC396_1 := Aside0.mk hl396_1
           clear hi396_1 hl396_1
           replace p396 := eq_true p396
           replace q396 := eq_true q396
           try go_wp2_with (first | ((with_reducible refine gate_dst (N := 4) rfl ?_); refine bE (N := 4) (cs := #[.string (⟨#[]⟩ : ByteArray), .slice none 0 0]) (t := 53) ?_; intro gb397 hg w24 hbox hb; have n0_ := Aside0.mk (below_step bB0 hb); have n1_ := Aside0.mk (hbox); have n2_ := Aside0.mk ((by rw [hg]; exact (below_size bB0) : w.heap.size ≤ gb397)); have n3_ := Aside0.mk ((by rw [hg]; exact (below_size bB0) : w.heap.size ≤ gb397)); clear HB; have HB := n0_; have BK397 := n1_; have GW397 := n2_; have GE397 := n3_; clear n0_ n1_ n2_ n3_; clear hb hbox hg; have hcz25_0 : w24.cell? ⟨gb397, 0, none⟩ = some (.string (⟨#[]⟩ : ByteArray)) := (blk_cell BK397.out 0).trans rfl; have hcz25_1 : w24.cell? ⟨gb397, 1, none⟩ = some (.slice none 0 0) := (blk_cell BK397.out 1).trans rfl; have hfz25_0 := blk_frozen BK397.out 0; have hfz25_1 := blk_frozen BK397.out 1))
           have n0_ : Aside0 (((w24.setCell ⟨gb397, 0, none⟩ (.string ((rd_T53 l0 x7_1).f0))).setCell ⟨gb397, 1, none⟩ (.slice A396_1 ((rd_T53 l0 x7_1).f1).length c396_1)).heap[gb397]? = some (.cells #[.string ((rd_T53 l0 x7_1).f0), .slice A396_1 ((rd_T53 l0 x7_1).f1).length c396_1] 53 (0, 0))) := ⟨by refine bk ?_; refine blk_put (cs := #[.string ((rd_T53 l0 x7_1).f0), .slice none 0 0]) ?_ 1 _ rfl; refine bk ?_; refine blk_put (cs := #[.string (⟨#[]⟩ : ByteArray), .slice none 0 0]) ?_ 0 _ rfl; refine bk ?_; exact BK397.out⟩
           have n1_ : Aside0 (Below w.heap.size w ((w24.setCell ⟨gb397, 0, none⟩ (.string ((rd_T53 l0 x7_1).f0))).setCell ⟨gb397, 1, none⟩ (.slice A396_1 ((rd_T53 l0 x7_1).f1).length c396_1))) := ⟨(bB1 GE397.out)⟩
           (try clear BK397)
           (try clear HB)
           generalize ((w24.setCell ⟨gb397, 0, none⟩ (.string ((rd_T53 l0 x7_1).f0))).setCell ⟨gb397, 1, none⟩ (.slice A396_1 ((rd_T53 l0 x7_1).f1).length c396_1)) = w26 at n0_ n1_ ⊢
           have BK397 := n0_
           have HB := n1_
           clear n0_ n1_
           have n0_ := Aside0.mk (blk_drew BK397.out)
           have n1_ := Aside0.mk (below_drew1 HB.out)
           clear BK397
           clear HB
           have BK397 := n0_
           have HB := n1_
           clear n0_ n1_
           have p399 : 0 ≤ ((ji13) : Int) := of_decide_eq_true (by first | (with_reducible assumption) | assumption)
           have q399 : (ji13) < (l0.length : Int) := of_decide_eq_true (by first | (with_reducible assumption) | assumption)
           obtain ⟨ad399, A399_1, c399_1, e399, hx399_0, hx399_1, hl399_1, hi399_1⟩ := at_T53 HR0.out (ji13) p399 q399
           have hw399_1 := hx399_1
           have hw399_0 := hx399_0
           obtain rfl : ad396 = ad399 := (by injection e399)
           have HZ399_1 := Aside0.mk hx399_1
           replace hx399_0 := (HB.out.cell (World.block_lt_of_cell? w _ hx399_0)).trans hx399_0
           replace hx399_1 := (HB.out.cell (World.block_lt_of_cell? w _ hx399_1)).trans hx399_1
           have HR399_1 := Aside0.mk hi399_1
           have HC399_1 := Aside0.mk hl399_1
           clear hi399_1 hl399_1
           replace p399 := eq_true p399
           replace q399 := eq_true q399
           refine start_ (n := 16) (S := fun w' => w'.cell? ⟨gb397, 0, none⟩ = some (.string ((rd_T53 l0 x7_1).f0)) ∧ w'.cell? ⟨gb397, 1, none⟩ = some (.slice A396_1 ((rd_T53 l0 x7_1).f1).length c396_1) ∧ w'.cell? (ad396.add (((ji13)).toNat * 2)) = some (.string ((rd_T53 l0 (ji13)).f0)) ∧ w'.cell? ⟨(ad396.add (((ji13)).toNat * 2)).block, (ad396.add (((ji13)).toNat * 2)).off + 1, none⟩ = some (.slice A399_1 ((rd_T53 l0 (ji13)).f1).length c399_1)) (ds := []) #[false, false, false, false, false, false, false, false, false, false, false, false, false, false, false, false] (by kernel_rfl) rfl rfl ⟨(blk_cell BK397.out 0).trans rfl, (blk_cell BK397.out 1).trans rfl, ((HB.out.cell (World.block_lt_of_cell? w _ hw399_0)).trans hw399_0), ((HB.out.cell (World.block_lt_of_cell? w _ hw399_1)).trans hw399_1)⟩ (fun hHeld => ?_); refine with_tabW sets_Check.tab4 sets_Check.bits4 (fun HT_ HW_ => ?_)
           generalize w26.drew = w27 at BK397 HB HR399_1 hx399_0 hx399_1 hHeld ⊢
           refine tQ4 (i := 0) (N := some 12) (bb 16 1) hHeld ?_
           refine one_ (i := 1) (N := some 13) (bb 16 3) rfl rfl (one_of HT_.out (by kernel_rfl)) (by decide) (fun K hK => ?_)
           refine goes_ Try.func69 (by kernel_rfl) rfl #[.agg #[.string ((rd_T53 l0 x7_1).f0), .slice A396_1 ((rd_T53 l0 x7_1).f1).length c396_1]] (by rfl) rfl rfl aG ?_
           with_reducible refine (sets_wrong.calls ((rd_T53 l0 x7_1).f0) _ _ ((rd_T53 l0 x7_1).f1) false _ ?side1 ?side2 A5.out).mono ?_
           (case side1 => exact sC (Kd.C_below HR396_1.out HB.out))
           (case side2 => exact HC396_1.out)
           rintro e w28 ⟨rfl, hb⟩
           refine ⟨_, rfl, ?_⟩
           have n0_ := Aside0.mk (blk_below (g := gb397) (o := .cells #[.string ((rd_T53 l0 x7_1).f0), .slice A396_1 ((rd_T53 l0 x7_1).f1).length c396_1] 53 (0, 0)) (by refine bk ?_; exact BK397.out) hb)
           have n1_ := Aside0.mk (below_step (bB1 GE397.out) hb)
           clear BK397
           clear HB
           have BK397 := n0_
           have HB := n1_
           clear n0_ n1_
           (try clear hb)
           (try clear hb2)
           (try clear hk)
           (try clear hi)
           refine hK.out _ _ ⟨(blk_cell BK397.out 0).trans rfl, (blk_cell BK397.out 1).trans rfl, ((HB.out.cell (World.block_lt_of_cell? w _ hw399_0)).trans hw399_0), ((HB.out.cell (World.block_lt_of_cell? w _ hw399_1)).trans hw399_1)⟩ (fun hHeld => ?_)
           clear hK K
           refine norm_ (a' := ?_) ?_ ?_
           rotate_left
           ·show Act.put _ (some 13) _ = _
            simp only [Act.put, List.setIfInBounds_toArray, List.set_cons_zero, List.set_cons_succ, i64_w, i32_w]
            rfl
           refine pQ (i := 2) (N := some 14) (bb 16 7) ?_
           refine pQ (i := 3) (N := some 15) (bb 16 15) ?_
           refine pQ (i := 4) (N := some 16) (bb 16 31) ?_
           refine pQ (i := 5) (N := some 17) (bb 16 63) ?_
           refine pQ (i := 6) (N := some 18) (bb 16 127) ?_
           refine pQ (i := 7) (N := some 19) (bb 16 255) ?_
           refine pQ (i := 8) (N := some 20) (bb 16 511) ?_
           refine pQ (i := 9) (N := some 21) (bb 16 1023) ?_
           refine tQ4 (i := 10) (N := some 22) (bb 16 2047) hHeld ?_
           refine tQ4 (i := 11) (N := some 23) (bb 16 4095) hHeld ?_
           refine one_ (i := 12) (N := some 24) (bb 16 8191) rfl rfl (one_of HT_.out (by kernel_rfl)) (by decide) (fun K hK => ?_)
           refine goes_ Try.func48 (by kernel_rfl) rfl #[.agg #[.string ((rd_T53 l0 (ji13)).f0), .slice A399_1 ((rd_T53 l0 (ji13)).f1).length c399_1], .agg #[.string ((rd_T53 l0 x7_1).f0), .slice A396_1 ((rd_T53 l0 x7_1).f1).length c396_1]] (by rfl) rfl rfl (by (try simp only [List.map_toArray, List.map_cons, List.map_nil]); first | done | (simp only [hji13]; rfl) | rfl | (simp only [List.length_drop, List.length_take]; rfl)) ?_
           with_reducible refine (fact_Compare.calls ((rd_T53 l0 (ji13)).f0) _ _ ((rd_T53 l0 (ji13)).f1) ((rd_T53 l0 x7_1).f0) _ _ ((rd_T53 l0 x7_1).f1) t400 _ ?side1 ?side2 ?side3 ?side4 A16.out).mono ?_
           (case side1 => exact sC (Kd.C_below HR399_1.out HB.out))
           (case side2 => exact HC399_1.out)
           (case side3 => exact sC (Kd.C_below HR396_1.out HB.out))
           (case side4 => exact HC396_1.out)
           rintro e w29 ⟨rfl, hb⟩
           refine ⟨_, rfl, ?_⟩
           have n0_ := Aside0.mk (blk_below (g := gb397) (o := .cells #[.string ((rd_T53 l0 x7_1).f0), .slice A396_1 ((rd_T53 l0 x7_1).f1).length c396_1] 53 (0, 0)) (by refine bk ?_; exact BK397.out) hb)
           have n1_ := Aside0.mk (below_step (bB1 GE397.out) hb)
           clear BK397
           clear HB
           have BK397 := n0_
           have HB := n1_
           clear n0_ n1_
           (try clear hb)
           (try clear hb2)
           (try clear hk)
           (try clear hi)
           refine hK.out _ _ ⟨(blk_cell BK397.out 0).trans rfl, (blk_cell BK397.out 1).trans rfl, ((HB.out.cell (World.block_lt_of_cell? w _ hw399_0)).trans hw399_0), ((HB.out.cell (World.block_lt_of_cell? w _ hw399_1)).trans hw399_1)⟩ (fun hHeld => ?_)
           clear hK K
           refine norm_ (a' := ?_) ?_ ?_
           rotate_left
           ·show Act.put _ (some 24) _ = _
            simp only [Act.put, List.setIfInBounds_toArray, List.set_cons_zero, List.set_cons_succ, i64_w, i32_w]
            rfl
           refine pQ (i := 13) (N := some 25) (bb 16 16383) ?_
           refine pQ (i := 14) (N := some 26) (bb 16 32767) ?_
           refine pQ (i := 15) (N := some 27) (bb 16 65535) ?_
           refine done_ (done_of HT_.out (by kernel_rfl)) ?_
           try go_wp2
           go_roundg k1
           case measure => have := HK1.out; omega
           case rel => exact ⟨(wrap64 (x7_1 + 1)), (by first | rfl | (simp; done) | (simp [*]; done)), H', ⟨by have := HK1.out; omega⟩, ⟨(bB1 GE397.out)⟩⟩
         ·rw [if_neg c15] at H
          exact absurd H (by simp)
        ·rw [if_neg c14] at H
         exact absurd H (by simp)
       ·rw [if_neg c12] at H
        have c12b0 : decide (0 < x7_1) = false := decide_eq_false c12
        clear c12
        have H' := Aside0.mk H
        clear H
        have p396 : 0 ≤ (x7_1 : Int) := of_decide_eq_true (by first | (with_reducible assumption) | assumption)
        have q396 : x7_1 < (l0.length : Int) := of_decide_eq_true (by first | (with_reducible assumption) | assumption)
        obtain ⟨ad396, A396_1, c396_1, e396, hx396_0, hx396_1, hl396_1, hi396_1⟩ := at_T53 HR0.out x7_1 p396 q396
        cases e396
        have HZ396_1 := Aside0.mk hx396_1
        replace hx396_0 := (HB.out.cell (World.block_lt_of_cell? w _ hx396_0)).trans hx396_0
        replace hx396_1 := (HB.out.cell (World.block_lt_of_cell? w _ hx396_1)).trans hx396_1
        have HR396_1 := Aside0.mk hi396_1
        have HC396_1 := Aside0.mk hl396_1
        clear hi396_1 hl396_1
        replace p396 := eq_true p396
        replace q396 := eq_true q396
        try go_wp2_with (first | ((with_reducible refine gate_dst (N := 4) rfl ?_); refine bE (N := 4) (cs := #[.string (⟨#[]⟩ : ByteArray), .slice none 0 0]) (t := 53) ?_; intro gb397 hg w30 hbox hb; have n0_ := Aside0.mk (below_step bB0 hb); have n1_ := Aside0.mk (hbox); have n2_ := Aside0.mk ((by rw [hg]; exact (below_size bB0) : w.heap.size ≤ gb397)); have n3_ := Aside0.mk ((by rw [hg]; exact (below_size bB0) : w.heap.size ≤ gb397)); clear HB; have HB := n0_; have BK397 := n1_; have GW397 := n2_; have GE397 := n3_; clear n0_ n1_ n2_ n3_; clear hb hbox hg; have hcz31_0 : w30.cell? ⟨gb397, 0, none⟩ = some (.string (⟨#[]⟩ : ByteArray)) := (blk_cell BK397.out 0).trans rfl; have hcz31_1 : w30.cell? ⟨gb397, 1, none⟩ = some (.slice none 0 0) := (blk_cell BK397.out 1).trans rfl; have hfz31_0 := blk_frozen BK397.out 0; have hfz31_1 := blk_frozen BK397.out 1))
        have n0_ : Aside0 (((w30.setCell ⟨gb397, 0, none⟩ (.string ((rd_T53 l0 x7_1).f0))).setCell ⟨gb397, 1, none⟩ (.slice A396_1 ((rd_T53 l0 x7_1).f1).length c396_1)).heap[gb397]? = some (.cells #[.string ((rd_T53 l0 x7_1).f0), .slice A396_1 ((rd_T53 l0 x7_1).f1).length c396_1] 53 (0, 0))) := ⟨by refine bk ?_; refine blk_put (cs := #[.string ((rd_T53 l0 x7_1).f0), .slice none 0 0]) ?_ 1 _ rfl; refine bk ?_; refine blk_put (cs := #[.string (⟨#[]⟩ : ByteArray), .slice none 0 0]) ?_ 0 _ rfl; refine bk ?_; exact BK397.out⟩
        have n1_ : Aside0 (Below w.heap.size w ((w30.setCell ⟨gb397, 0, none⟩ (.string ((rd_T53 l0 x7_1).f0))).setCell ⟨gb397, 1, none⟩ (.slice A396_1 ((rd_T53 l0 x7_1).f1).length c396_1))) := ⟨(bB1 GE397.out)⟩
        (try clear BK397)
        (try clear HB)
        generalize ((w30.setCell ⟨gb397, 0, none⟩ (.string ((rd_T53 l0 x7_1).f0))).setCell ⟨gb397, 1, none⟩ (.slice A396_1 ((rd_T53 l0 x7_1).f1).length c396_1)) = w32 at n0_ n1_ ⊢
        have BK397 := n0_
        have HB := n1_
        clear n0_ n1_
        have n0_ := Aside0.mk (blk_drew BK397.out)
        have n1_ := Aside0.mk (below_drew1 HB.out)
        clear BK397
        clear HB
        have BK397 := n0_
        have HB := n1_
        clear n0_ n1_
        refine start_ (n := 16) (S := fun w' => w'.cell? ⟨gb397, 0, none⟩ = some (.string ((rd_T53 l0 x7_1).f0)) ∧ w'.cell? ⟨gb397, 1, none⟩ = some (.slice A396_1 ((rd_T53 l0 x7_1).f1).length c396_1)) (ds := []) #[false, false, false, false, false, false, false, false, false, false, false, false, false, false, false, false] (by kernel_rfl) rfl rfl ⟨(blk_cell BK397.out 0).trans rfl, (blk_cell BK397.out 1).trans rfl⟩ (fun hHeld => ?_); refine with_tabW sets_Check.tab4 sets_Check.bits4 (fun HT_ HW_ => ?_)
        generalize w32.drew = w33 at BK397 HB hHeld ⊢
        refine tQ2 (i := 0) (N := some 12) (bb 16 1) hHeld ?_
        refine one_ (i := 1) (N := some 13) (bb 16 3) rfl rfl (one_of HT_.out (by kernel_rfl)) (by decide) (fun K hK => ?_)
        refine goes_ Try.func69 (by kernel_rfl) rfl #[.agg #[.string ((rd_T53 l0 x7_1).f0), .slice A396_1 ((rd_T53 l0 x7_1).f1).length c396_1]] (by rfl) rfl rfl aG ?_
        with_reducible refine (sets_wrong.calls ((rd_T53 l0 x7_1).f0) _ _ ((rd_T53 l0 x7_1).f1) false _ ?side1 ?side2 A5.out).mono ?_
        (case side1 => exact sC (Kd.C_below HR396_1.out HB.out))
        (case side2 => exact HC396_1.out)
        rintro e w34 ⟨rfl, hb⟩
        refine ⟨_, rfl, ?_⟩
        have n0_ := Aside0.mk (blk_below (g := gb397) (o := .cells #[.string ((rd_T53 l0 x7_1).f0), .slice A396_1 ((rd_T53 l0 x7_1).f1).length c396_1] 53 (0, 0)) (by refine bk ?_; exact BK397.out) hb)
        have n1_ := Aside0.mk (below_step (bB1 GE397.out) hb)
        clear BK397
        clear HB
        have BK397 := n0_
        have HB := n1_
        clear n0_ n1_
        (try clear hb)
        (try clear hb2)
        (try clear hk)
        (try clear hi)
        refine hK.out _ _ ⟨(blk_cell BK397.out 0).trans rfl, (blk_cell BK397.out 1).trans rfl⟩ (fun hHeld => ?_)
        clear hK K
        refine norm_ (a' := ?_) ?_ ?_
        rotate_left
        ·show Act.put _ (some 13) _ = _
         simp only [Act.put, List.setIfInBounds_toArray, List.set_cons_zero, List.set_cons_succ, i64_w, i32_w]
         rfl
        refine pQ (i := 2) (N := some 14) (bb 16 7) ?_
        refine pQ (i := 3) (N := some 15) (bb 16 15) ?_
        refine pQ (i := 4) (N := some 16) (bb 16 31) ?_
        refine pQ (i := 5) (N := some 17) (bb 16 63) ?_
        refine pure_ (i := 6) (N := some 18) (v := undef) (a' := ?_) (bb 16 127) rfl rfl (any_of HT_.out (by kernel_rfl)) (fun _ _ _ h => h) (Or.inr ⟨by rfl, rfl⟩) ?_ ?_
        rotate_left
        ·simp only [Act.put, List.setIfInBounds_toArray, List.set_cons_zero, List.set_cons_succ, i64_w, i32_w]
         rfl
        refine pure_ (i := 7) (N := some 19) (v := undef) (a' := ?_) (bb 16 255) rfl rfl (any_of HT_.out (by kernel_rfl)) (fun _ _ _ h => h) (Or.inr ⟨by rfl, rfl⟩) ?_ ?_
        rotate_left
        ·simp only [Act.put, List.setIfInBounds_toArray, List.set_cons_zero, List.set_cons_succ, i64_w, i32_w]
         rfl
        refine pure_ (i := 8) (N := some 20) (v := undef) (a' := ?_) (bb 16 511) rfl rfl (any_of HT_.out (by kernel_rfl)) (fun _ _ _ h => h) (Or.inr ⟨by rfl, rfl⟩) ?_ ?_
        rotate_left
        ·simp only [Act.put, List.setIfInBounds_toArray, List.set_cons_zero, List.set_cons_succ, i64_w, i32_w]
         rfl
        refine pure_ (i := 9) (N := some 21) (v := undef) (a' := ?_) (bb 16 1023) rfl rfl (any_of HT_.out (by kernel_rfl)) (fun _ _ _ h => h) (Or.inr ⟨by rfl, rfl⟩) ?_ ?_
        rotate_left
        ·simp only [Act.put, List.setIfInBounds_toArray, List.set_cons_zero, List.set_cons_succ, i64_w, i32_w]
         rfl
        refine pure_ (i := 10) (N := some 22) (v := undef) (a' := ?_) (bb 16 2047) rfl rfl (any_of HT_.out (by kernel_rfl)) (fun _ _ _ h => h) (Or.inr ⟨by rfl, rfl⟩) ?_ ?_
        rotate_left
        ·simp only [Act.put, List.setIfInBounds_toArray, List.set_cons_zero, List.set_cons_succ, i64_w, i32_w]
         rfl
        refine pure_ (i := 11) (N := some 23) (v := undef) (a' := ?_) (bb 16 4095) rfl rfl (any_of HT_.out (by kernel_rfl)) (fun _ _ _ h => h) (Or.inr ⟨by rfl, rfl⟩) ?_ ?_
        rotate_left
        ·simp only [Act.put, List.setIfInBounds_toArray, List.set_cons_zero, List.set_cons_succ, i64_w, i32_w]
         rfl
        refine pure_ (i := 12) (N := some 24) (v := undef) (a' := ?_) (bb 16 8191) rfl rfl (any_of HT_.out (by kernel_rfl)) (fun _ _ _ h => h) (Or.inr ⟨by rfl, rfl⟩) ?_ ?_
        rotate_left
        ·simp only [Act.put, List.setIfInBounds_toArray, List.set_cons_zero, List.set_cons_succ, i64_w, i32_w]
         rfl
        refine pure_ (i := 13) (N := some 25) (v := undef) (a' := ?_) (bb 16 16383) rfl rfl (any_of HT_.out (by kernel_rfl)) (fun _ _ _ h => h) (Or.inr ⟨by rfl, rfl⟩) ?_ ?_
        rotate_left
        ·simp only [Act.put, List.setIfInBounds_toArray, List.set_cons_zero, List.set_cons_succ, i64_w, i32_w]
         rfl
        refine pQ (i := 14) (N := some 26) (bb 16 32767) ?_
        refine pQ (i := 15) (N := some 27) (bb 16 65535) ?_
        refine done_ (done_of HT_.out (by kernel_rfl)) ?_
        try go_wp2
        go_roundg k1
        case measure => have := HK1.out; omega
        case rel => exact ⟨(wrap64 (x7_1 + 1)), (by first | rfl | (simp; done) | (simp [*]; done)), H', ⟨by have := HK1.out; omega⟩, ⟨(bB1 GE397.out)⟩⟩
     ·rw [if_neg c4] at H
      exact absurd H (by simp)
    ·rw [if_neg c3] at H
     exact absurd H (by simp)
   ·rw [if_neg c2] at H
    have c2b0 : decide (x7_1 < (l0.length : Int)) = false := decide_eq_false c2
    clear c2
    obtain rfl := Option.some.inj H
    go_wp2
    go_ret
    exact ⟨eW, bB0⟩

end Go.Proofs.Ytghommaokdhjmaa.P
namespace Go.Proofs.Ytghommaokdhjmaa.P
open Go.RowKit Go.Proofs.YtghommaokdhjmaaW.PrintWords Go.Proofs.YtghommaokdhjmaaW.PrintLast Go.Proofs.Ytghommaokdhjmaa.Gate
set_option linter.unusedVariables false
set_option linter.unusedSimpArgs false

/-! ### sets_checked: function 71 -/
def sets_checked.l0 : Nat → List (List (S53)) → Int → Int → Option (Int)
 | 0, _, _, _ => none
 | k + 1, x6, x7, x8 => if x8 < x7 then (if 0 ≤ x8 then (if x8 < (x6.length : Int) then ((sets_Check.f k (rd_L7 x6 x8)).bind fun t402 => (if t402 = 0 then (sets_checked.l0 k x6 x7 (wrap64 (x8 + 1))) else (some t402))) else (none)) else (none)) else (some 0)
def sets_checked.f (k : Nat) (l0 : List (List (S53))) : Option (Int) := sets_checked.l0 k l0 (l0.length : Int) 0
theorem sets_checked.mono_l : ∀ k, (∀ y0 y1 y2, LeO (sets_checked.l0 k y0 y1 y2) (sets_checked.l0 (k + 1) y0 y1 y2))
 | 0 => fun _ _ _ r h => by simp [sets_checked.l0] at h
 | k + 1 => by
  have ih0 := sets_checked.mono_l k
  ·intro y0 y1 y2
   unfold sets_checked.l0
   repeat' first
   | (with_reducible exact ih0 _ _ _)
   | (with_reducible exact sets_Check.mono _ _)
   | (with_reducible exact LeO.refl _)
   | (with_reducible exact LeO.none _)
   | (with_reducible refine LeO.ite ?_ ?_)
   | (with_reducible refine LeO.bind ?_ (fun _ => ?_))
theorem sets_checked.mono : ∀ a0 k, LeO (sets_checked.f k a0) (sets_checked.f (k + 1) a0) := by
 intro a0 k
 have ih0 := sets_checked.mono_l k
 unfold sets_checked.f
 repeat' first
   | (with_reducible exact ih0 _ _ _)
   | (with_reducible exact sets_Check.mono _ _)
   | (with_reducible exact LeO.refl _)
   | (with_reducible exact LeO.none _)
   | (with_reducible refine LeO.ite ?_ ?_)
   | (with_reducible refine LeO.bind ?_ (fun _ => ?_))
set_option maxHeartbeats 8000000 in
set_option maxRecDepth 100000 in
theorem sets_checked.calls (k : Nat) (A0 : Option Addr) (c0 : Nat) (l0 : List (List (S53))) (r : Int) (w : World) (hr0 : Kd.C (Kd.slice 53 k53) w A0 l0.length l0) (hc0 : l0.length ≤ c0) (h : sets_checked.f k l0 = some r) :
  Calls Try.prog 71 #[.slice A0 l0.length c0] w fun e w' => e = .returned (.int .i64 r) ∧ Below w.heap.size w w' := by
 have HR0 := Aside0.mk hr0
 have HC0 := Aside0.mk hc0
 clear hr0 hc0
 have HB := Aside0.mk (Below.refl w.heap.size w)
 have H : (sets_checked.l0 k l0 (l0.length : Int) 0) = some r := h
 clear h
 have H' := Aside0.mk H
 clear H
 go_enter Try.func71, Try.ntmps71
 go_wp2
 go_loopg [8] k (fun kq v8 w' => ∃ (x8_1 : Int), v8 = .int .i64 x8_1 ∧ Aside0 (sets_checked.l0 kq l0 (l0.length : Int) x8_1 = some r) ∧ Aside0 (kq ≤ k) ∧ Aside0 (Below w.heap.size w w'))
 case atStart => exact ⟨(0), (by first | rfl | (simp; done) | (simp [*]; done)), H', ⟨Nat.le_refl _⟩, ⟨bB0⟩⟩
 case round =>
  clear H'
  obtain ⟨x8_1, rfl, HA, HK1, HB⟩ := hrel
  cases gk with
  | zero => exact absurd HA.out (by simp [sets_checked.l0])
  | succ k1 =>
   have H := HA.out
   clear HA
   simp only [sets_checked.l0] at H
   by_cases c2 : x8_1 < (l0.length : Int)
   ·rw [if_pos c2] at H
    have c2b0 : decide (x8_1 < (l0.length : Int)) = true := decide_eq_true c2
    clear c2
    by_cases c3 : 0 ≤ x8_1
    ·rw [if_pos c3] at H
     have c3b0 : decide (0 ≤ x8_1) = true := decide_eq_true c3
     clear c3
     by_cases c4 : x8_1 < (l0.length : Int)
     ·rw [if_pos c4] at H
      have c4b0 : decide (x8_1 < (l0.length : Int)) = true := decide_eq_true c4
      clear c4
      replace H := Option.bind_eq_some_iff.mp H
      obtain ⟨t402, A50, H⟩ := H
      replace H : (if t402 = 0 then (sets_checked.l0 k1 l0 (l0.length : Int) (wrap64 (x8_1 + 1))) else (some t402)) = some r := H
      have A5 := Aside0.mk A50
      clear A50
      by_cases c6 : t402 = 0
      ·rw [if_pos c6] at H
       have c6b0 : (t402 == 0) = true := beq_iff_eq.mpr c6
       have c6b1 : (t402 != 0) = false := bne_eq_false_iff_eq.mpr c6
       clear c6
       have H' := Aside0.mk H
       clear H
       have p401 : 0 ≤ (x8_1 : Int) := of_decide_eq_true (by first | (with_reducible assumption) | assumption)
       have q401 : x8_1 < (l0.length : Int) := of_decide_eq_true (by first | (with_reducible assumption) | assumption)
       obtain ⟨ad401, A401_0, c401_0, e401, hx401_0, hl401_0, hi401_0⟩ := at_L7 HR0.out x8_1 p401 q401
       cases e401
       have HZ401_0 := Aside0.mk hx401_0
       replace hx401_0 := (HB.out.cell (World.block_lt_of_cell? w _ hx401_0)).trans hx401_0
       have HR401_0 := Aside0.mk hi401_0
       have HC401_0 := Aside0.mk hl401_0
       clear hi401_0 hl401_0
       replace p401 := eq_true p401
       replace q401 := eq_true q401
       go_wp2_with (first | ((with_reducible refine gate_callee (f := 35) rfl ?_); refine goesL_ (some 13) rfl rfl Try.func35 (by kernel_rfl) rfl #[.slice A401_0 (rd_L7 l0 x8_1).length c401_0] rfl aG ?_; (with_reducible refine (sets_Check.calls k1 _ _ (rd_L7 l0 x8_1) t402 _ ?side1 ?side2 A5.out).mono ?_); (case side1 => exact sC (Kd.C_below HR401_0.out HB.out)); (case side2 => exact HC401_0.out); rintro e w7 ⟨rfl, hb⟩; refine ⟨_, rfl, ?_⟩; have n0_ := Aside0.mk (below_step bB0 hb); clear HB; have HB := n0_; clear n0_; (try clear hb); (try clear hb2); (try clear hk); (try clear hi)))
       go_roundg k1
       case measure => have := HK1.out; omega
       case rel => exact ⟨(wrap64 (x8_1 + 1)), (by first | rfl | (simp; done) | (simp [*]; done)), H', ⟨by have := HK1.out; omega⟩, ⟨bB0⟩⟩
      ·rw [if_neg c6] at H
       have c6b0 : (t402 == 0) = false := beq_eq_false_iff_ne.mpr c6
       have c6b1 : (t402 != 0) = true := bne_iff_ne.mpr c6
       obtain rfl := Option.some.inj H
       have p401 : 0 ≤ (x8_1 : Int) := of_decide_eq_true (by first | (with_reducible assumption) | assumption)
       have q401 : x8_1 < (l0.length : Int) := of_decide_eq_true (by first | (with_reducible assumption) | assumption)
       obtain ⟨ad401, A401_0, c401_0, e401, hx401_0, hl401_0, hi401_0⟩ := at_L7 HR0.out x8_1 p401 q401
       cases e401
       have HZ401_0 := Aside0.mk hx401_0
       replace hx401_0 := (HB.out.cell (World.block_lt_of_cell? w _ hx401_0)).trans hx401_0
       have HR401_0 := Aside0.mk hi401_0
       have HC401_0 := Aside0.mk hl401_0
       clear hi401_0 hl401_0
       replace p401 := eq_true p401
       replace q401 := eq_true q401
       go_wp2_with (first | ((with_reducible refine gate_callee (f := 35) rfl ?_); refine goesL_ (some 13) rfl rfl Try.func35 (by kernel_rfl) rfl #[.slice A401_0 (rd_L7 l0 x8_1).length c401_0] rfl aG ?_; (with_reducible refine (sets_Check.calls k1 _ _ (rd_L7 l0 x8_1) t402 _ ?side1 ?side2 A5.out).mono ?_); (case side1 => exact sC (Kd.C_below HR401_0.out HB.out)); (case side2 => exact HC401_0.out); rintro e w8 ⟨rfl, hb⟩; refine ⟨_, rfl, ?_⟩; have n0_ := Aside0.mk (below_step bB0 hb); clear HB; have HB := n0_; clear n0_; (try clear hb); (try clear hb2); (try clear hk); (try clear hi)))
       go_ret
       exact ⟨eW, bB0⟩
     ·rw [if_neg c4] at H
      exact absurd H (by simp)
    ·rw [if_neg c3] at H
     exact absurd H (by simp)
   ·rw [if_neg c2] at H
    have c2b0 : decide (x8_1 < (l0.length : Int)) = false := decide_eq_false c2
    clear c2
    obtain rfl := Option.some.inj H
    go_wp2
    go_ret
    exact ⟨eW, bB0⟩

end Go.Proofs.Ytghommaokdhjmaa.P
/- sets.Of, sets.Has, sets.Drop: their walks and what they answer as plain functions; sets.Check's answer; texts and rows no longer than a million. -/
set_option linter.unusedVariables false
set_option linter.unusedSimpArgs false
namespace Go.Proofs.Ytghommaokdhjmaa.SetsW
open Go.Shelf Go.RowKit Go.Lib Go.Sort Go.Proofs.SymP Go.Proofs.YtghommaokdhjmaaW.PrintWords Go.Proofs.Ytghommaokdhjmaa.P Go.Proofs.Ytghommaokdhjmaa.Str Go.Proofs.Ytghommaokdhjmaa.CmpF Go.Proofs.Ytghommaokdhjmaa.Fct Go.Proofs.Ytghommaokdhjmaa.FactC Go.Proofs.Ytghommaokdhjmaa.Cont
/-- The shelf's names at this translation. -/
def renF : Ren := ⟨fun x => if x = 6 then 93 else if x = 8 then 68 else x, fun x => if x = 0 then 0 else if x = 3 then 3 else if x = 4 then 4 else if x = 22 then 46 else if x = 23 then 53 else if x = 25 then 58 else x, fun x => x⟩
set_option maxRecDepth 1000000 in
theorem laysF : SlLaysH0.n8 Try.prog renF := by
  refine ⟨by kernel_rfl, ⟨ "slices.IndexFunc[[]constable/api.Fact,constable/api.Fact]", by decide, by kernel_rfl⟩, ⟨ "slices.ContainsFunc[[]constable/api.Fact,constable/api.Fact]", by decide, by kernel_rfl⟩, ?_, ?_, ?_, ?_, ?_, ?_, ?_, ?_, ?_, ?_, ?_, ?_, ?_, ?_, ?_, ?_, ?_, ?_, ?_, ?_⟩ <;> first | kernel_rfl | (intro w; kernel_rfl)
/-- Texts and rows no longer than a million. -/
def fitX (x : S53) : Bool := decide (x.f0.size ≤ 1000000) && (fitV x.f1 && decide (x.f1.length ≤ 1000000))
theorem fitX_iff {x : S53} : fitX x = true ↔ x.f0.size ≤ 1000000 ∧ fitV x.f1 = true ∧ x.f1.length ≤ 1000000 := by
  unfold fitX
  simp only [Bool.and_eq_true, decide_eq_true_eq]
def fitL (l : List S53) : Bool := l.all fitX && decide (l.length ≤ 300000)
theorem fitL_iff {l : List S53} : fitL l = true ↔ (∀ x ∈ l, fitX x = true) ∧ l.length ≤ 300000 := by
  unfold fitL
  simp only [Bool.and_eq_true, decide_eq_true_eq, List.all_eq_true]
/-- Is a fact wrong? -/
def wrongF (x : S53) : Bool := factP x.f0 x.f1 != 0
theorem wrong_calls (x : S53) (hx : fitX x = true) (A : Option Addr) (c : Nat) (W : World) (hr : Kd.C k24 W A x.f1.length x.f1) (hc : x.f1.length ≤ c) : Calls Try.prog 69 #[.agg #[.string x.f0, .slice A x.f1.length c]] W fun e w' => e = .returned (.bool (wrongF x)) ∧ Go.RowKit.Below W.heap.size W w' := by
  obtain ⟨h1, h2, _⟩ := fitX_iff.1 hx
  exact sets_wrong.calls x.f0 A c x.f1 _ W hr hc (by unfold sets_wrong.f fact_Check.f; rw [if_pos ⟨h1, h2⟩]; rfl)
theorem contWrong (A : Option Addr) (c : Nat) (l : List S53) (w : World) (hr : Kd.C k53 w A l.length l) (hf : ∀ x ∈ l, fitX x = true) :
    Calls Try.prog 68 #[.slice A l.length c, .func (.func 69) #[] #[]] w fun e w' => e = .returned (.bool (l.any wrongF)) ∧ Go.RowKit.Below w.heap.size w w' :=
  contains laysF k53 2 rfl aggF sizeF wrongF 69 #[] (enters_of Try.func69 (by kernel_rfl) rfl) A l.length c l w rfl hr (fun W x cs hW hx hl hK => by
    obtain ⟨A1, c1, rfl, h1, h2⟩ := k53_open hK
    exact (wrong_calls x (hf x hx) A1 c1 W h2 h1).mono fun e w' ⟨he, hb⟩ => ⟨he, hW.trans (hb.mono hW.size)⟩)
theorem contHas (A : Option Addr) (c : Nat) (l : List S53) (g : Nat) (y : S53) (A1 : Option Addr) (c1 : Nat) (w : World) (hr : Kd.C k53 w A l.length l) (hf : ∀ x ∈ l, x.f1.length ≤ 1000000) (hg0 : w.cell? ⟨g, 0, none⟩ = some (.string y.f0)) (hg1 : w.cell? ⟨g, 1, none⟩ = some (.slice A1 y.f1.length c1)) (hr1 : Kd.C k24 w A1 y.f1.length y.f1) (hc1 : y.f1.length ≤ c1) (hy : y.f1.length ≤ 1000000) :
    Calls Try.prog 68 #[.slice A l.length c, .func (.func 72) #[] #[.pointer (some ⟨g, 0, none⟩)]] w fun e w' => e = .returned (.bool (l.any fun x => cf53 x y == 0)) ∧ Go.RowKit.Below w.heap.size w w' :=
  contains laysF k53 2 rfl aggF sizeF (fun x => cf53 x y == 0) 72 #[.pointer (some ⟨g, 0, none⟩)] (enters_of Try.func72 (by kernel_rfl) rfl) A l.length c l w rfl hr (fun W x cs hW hx hl hK => by
    obtain ⟨A2, c2, rfl, h1, h2⟩ := k53_open hK
    exact (closHas x.f0 A2 c2 x.f1 y.f0 A1 c1 y.f1 g W ((hW.cell (World.block_lt_of_cell? w _ hg0)).trans hg0) ((hW.cell (World.block_lt_of_cell? w _ hg1)).trans hg1) h2 h1 (Kd.C_below hr1 hW) hc1 ⟨hf x hx, hy⟩).mono fun e w' ⟨he, hb⟩ => ⟨he, hW.trans (hb.below.mono hW.size)⟩)
section
variable {W : World} {A0 A1 : Option Addr} {c0 c1 : Nat} {l0 l1 : List S53}
theorem lit1 (h0 : Kd.C k53 W A0 l0.length l0) (hc0 : l0.length ≤ c0) : Kd.C (Kd.slice 53 k53) (W.alloc (.cells #[.slice A0 l0.length c0] 46)) (some ⟨W.heap.size, 0, none⟩) [l0].length [l0] := by
  refine ⟨rfl, by simp, fun _ => ⟨_, rfl, fun j p hj => ?_⟩⟩
  rcases j with _ | j
  · obtain rfl : l0 = p := by simpa using hj
    refine ⟨[.slice A0 l0.length c0], rfl, ⟨A0, c0, rfl, hc0, Kd.C_alloc h0 _⟩, fun i u hu => ?_⟩
    rcases i with _ | i
    · obtain rfl : Value.slice A0 l0.length c0 = u := by simpa using hu
      simp [Addr.add]
    · simp at hu
  · simp at hj
theorem lit2 (h0 : Kd.C k53 W A0 l0.length l0) (hc0 : l0.length ≤ c0) (h1 : Kd.C k53 W A1 l1.length l1) (hc1 : l1.length ≤ c1) : Kd.C (Kd.slice 53 k53) (W.alloc (.cells #[.slice A0 l0.length c0, .slice A1 l1.length c1] 46)) (some ⟨W.heap.size, 0, none⟩) [l0, l1].length [l0, l1] := by
  refine ⟨rfl, by simp, fun _ => ⟨_, rfl, fun j p hj => ?_⟩⟩
  rcases j with _ | _ | j
  · obtain rfl : l0 = p := by simpa using hj
    refine ⟨[.slice A0 l0.length c0], rfl, ⟨A0, c0, rfl, hc0, Kd.C_alloc h0 _⟩, fun i u hu => ?_⟩
    rcases i with _ | i
    · obtain rfl : Value.slice A0 l0.length c0 = u := by simpa using hu
      simp [Addr.add]
    · simp at hu
  · obtain rfl : l1 = p := by simpa using hj
    refine ⟨[.slice A1 l1.length c1], rfl, ⟨A1, c1, rfl, hc1, Kd.C_alloc h1 _⟩, fun i u hu => ?_⟩
    rcases i with _ | i
    · obtain rfl : Value.slice A1 l1.length c1 = u := by simpa using hu
      show (W.alloc _).cell? ((⟨W.heap.size, 0, none⟩ : Addr).add 1) = _
      simp [Addr.add]
    · simp at hu
  · simp at hj
theorem litF {A : Option Addr} {c : Nat} {y : S53} (h1 : Kd.C k24 W A y.f1.length y.f1) (hc1 : y.f1.length ≤ c) : Kd.C k53 (W.alloc (.cells #[.string y.f0, .slice A y.f1.length c] 53)) (some ⟨W.heap.size, 0, none⟩) [y].length [y] := by
  refine ⟨rfl, by simp, fun _ => ⟨_, rfl, fun j p hj => ?_⟩⟩
  rcases j with _ | j
  · obtain rfl : y = p := by simpa using hj
    refine ⟨_, rfl, k53_mk _ y hc1 (Kd.C_alloc h1 _), fun i u hu => ?_⟩
    rcases i with _ | _ | i
    · obtain rfl : Value.string y.f0 = u := by simpa using hu
      simp [Addr.add]
    · obtain rfl : Value.slice A y.f1.length c = u := by simpa using hu
      simp [Addr.add]
    · simp at hu
  · simp at hj
end
/-- Is a list a set: none of it wrong, rising? -/
def chkF (l : List S53) : Int := if l.any wrongF = false ∧ l.Pairwise (fun x y => cf53 x y < 0) then 0 else 1
theorem chkF_zero (l : List S53) : chkF l = 0 ↔ l.any wrongF = false ∧ l.Pairwise (fun x y => cf53 x y < 0) := by
  unfold chkF
  split
  · rename_i h; exact ⟨fun _ => h, fun _ => rfl⟩
  · rename_i h; exact ⟨fun h2 => absurd h2 (by decide), fun h2 => absurd h2 h⟩
theorem chkF_one (l : List S53) : chkF l = 0 ∨ chkF l = 1 := by
  unfold chkF
  split
  · exact .inl rfl
  · exact .inr rfl
theorem chkF_ne {l : List S53} (h : ¬ (l.any wrongF = false ∧ l.Pairwise (fun x y => cf53 x y < 0))) : chkF l = 1 := by
  rcases chkF_one l with h2 | h2
  · exact absurd ((chkF_zero l).1 h2) h
  · exact h2
theorem adj_up {l : List S53} (h : ∀ i (hi : i < l.length), 0 < i → cf53 l[i - 1] l[i] < 0) : l.Pairwise (fun x y => cf53 x y < 0) := by
  refine List.pairwise_iff_getElem.2 fun i j hi hj hij => ?_
  obtain ⟨d, rfl⟩ : ∃ d, j = i + 1 + d := ⟨j - i - 1, by omega⟩
  clear hij
  induction d with
  | zero => exact h (i + 1) hj (by omega)
  | succ d ih => exact ord53.lt (ih (by omega)) (Int.le_of_lt (h (i + 1 + (d + 1)) hj (by omega)))
theorem chk_loop (l : List S53) (hf : ∀ x ∈ l, fitX x = true) (hl : l.length ≤ 300000) : ∀ (m i : Nat), i + m = l.length → (∀ j (hj : j < l.length), j < i → wrongF l[j] = false ∧ (0 < j → cf53 l[j - 1] l[j] < 0)) → Ev (fun k => sets_Check.l0 k l l (l.length : Int) i) (chkF l) := by
  intro m
  induction m with
  | zero =>
    intro i h ha
    rw [(chkF_zero l).2 ⟨List.any_eq_false.2 fun x hx => by
      obtain ⟨j, hj, rfl⟩ := List.getElem_of_mem hx
      simp [(ha j hj (by omega)).1], adj_up fun j hj h0 => (ha j hj (by omega)).2 h0⟩]
    exact Ev.step (fun k => by rw [sets_Check.l0, if_neg (by omega)]) (Ev.now _)
  | succ m ih =>
    intro i h ha
    have hi : i < l.length := by omega
    obtain ⟨h1, h2, h3⟩ := fitX_iff.1 (hf l[i] (List.getElem_mem hi))
    have hw : sets_wrong.f (rd_T53 l i).f0 (rd_T53 l i).f1 = some (wrongF l[i]) := by
      rw [rd53_get hi]
      unfold sets_wrong.f fact_Check.f
      rw [if_pos ⟨h1, h2⟩]; rfl
    have hwr : wrap64 ((i : Int) + 1) = ((i + 1 : Nat) : Int) := by unfold wrap64; omega
    cases hq : wrongF l[i] with
    | true =>
      rw [hq] at hw
      rw [chkF_ne (fun h => by rw [List.any_eq_false] at h; exact h.1 _ (List.getElem_mem hi) hq)]
      refine Ev.step (f := fun _ => some 1) (fun k => by
        rw [sets_Check.l0, if_pos (by omega), if_pos (by omega), if_pos (by omega), hw]
        simp) (Ev.now _)
    | false =>
      rw [hq] at hw
      by_cases h0 : 0 < i
      · have hp : i - 1 < l.length := by omega
        have hc : fact_Compare.f (rd_T53 l (wrap64 ((i : Int) - 1))).f0 (rd_T53 l (wrap64 ((i : Int) - 1))).f1 (rd_T53 l i).f0 (rd_T53 l i).f1 = some (cf53 l[i - 1] l[i]) := by
          rw [show wrap64 ((i : Int) - 1) = ((i - 1 : Nat) : Int) by unfold wrap64; omega, rd53_get hi, rd53_get hp]
          unfold fact_Compare.f
          rw [if_pos ⟨(fitX_iff.1 (hf _ (List.getElem_mem hp))).2.2, h3⟩]
          rfl
        by_cases hge : cf53 l[i - 1] l[i] ≥ 0
        · rw [chkF_ne (fun h => by
            have := List.pairwise_iff_getElem.1 h.2 (i - 1) i hp hi (by omega)
            omega)]
          refine Ev.step (f := fun _ => some 1) (fun k => by
            rw [sets_Check.l0, if_pos (by omega), if_pos (by omega), if_pos (by omega), hw]
            simp only [Option.bind_some, Bool.false_eq_true, if_false]
            rw [if_pos (by omega), if_pos (by unfold wrap64; omega), if_pos (by unfold wrap64; omega), hc]
            simp only [Option.bind_some]
            rw [if_pos hge]) (Ev.now _)
        · refine Ev.step (f := fun k => sets_Check.l0 k l l (l.length : Int) ((i + 1 : Nat) : Int)) (fun k => by
            rw [sets_Check.l0, if_pos (by omega), if_pos (by omega), if_pos (by omega), hw]
            simp only [Option.bind_some, Bool.false_eq_true, if_false]
            rw [if_pos (by omega), if_pos (by unfold wrap64; omega), if_pos (by unfold wrap64; omega), hc]
            simp only [Option.bind_some]
            rw [if_neg hge, hwr]) ?_
          refine ih (i + 1) (by omega) fun j hj hji => ?_
          by_cases e : j = i
          · subst e; exact ⟨hq, fun _ => by omega⟩
          · exact ha j hj (by omega)
      · refine Ev.step (f := fun k => sets_Check.l0 k l l (l.length : Int) ((i + 1 : Nat) : Int)) (fun k => by
          rw [sets_Check.l0, if_pos (by omega), if_pos (by omega), if_pos (by omega), hw]
          simp only [Option.bind_some, Bool.false_eq_true, if_false]
          rw [if_neg (by omega), hwr]) ?_
        refine ih (i + 1) (by omega) fun j hj hji => ?_
        by_cases e : j = i
        · subst e; exact ⟨hq, fun h => absurd h h0⟩
        · exact ha j hj (by omega)
theorem chk_ev (l : List S53) (h : fitL l = true) : Ev (fun k => sets_Check.f k l) (chkF l) := by
  obtain ⟨h1, h2⟩ := fitL_iff.1 h
  have := chk_loop l h1 h2 l.length 0 (by omega) (fun j _ hj => absurd hj (Nat.not_lt_zero _))
  simpa only [sets_Check.f, Int.natCast_zero] using this
/-- Are both sets? -/
def chk2 (l m : List S53) : Int := if chkF l = 0 ∧ chkF m = 0 then 0 else 1
theorem chk2_ev (l m : List S53) (hl : fitL l = true) (hm : fitL m = true) : Ev (fun k => sets_checked.f k [l, m]) (chk2 l m) := by
  have e0 : rd_L7 [l, m] 0 = l := rfl
  have e1 : rd_L7 [l, m] 1 = m := rfl
  have w1 : wrap64 ((0 : Int) + 1) = 1 := by unfold wrap64; omega
  have w2 : wrap64 ((1 : Int) + 1) = 2 := by unfold wrap64; omega
  unfold sets_checked.f
  refine Ev.step (f := fun k => (sets_Check.f k l).bind fun t => if t = 0 then sets_checked.l0 k [l, m] 2 1 else some t) (fun k => by
    rw [sets_checked.l0, if_pos (by simp), if_pos (by omega), if_pos (by simp), e0, w1]
    rfl) ?_
  refine Ev.bind (chk_ev l hl) ?_
  by_cases h : chkF l = 0
  · simp only [if_pos h]
    refine Ev.step (f := fun k => (sets_Check.f k m).bind fun t => if t = 0 then sets_checked.l0 k [l, m] 2 2 else some t) (fun k => by
      rw [sets_checked.l0, if_pos (by omega), if_pos (by omega), if_pos (by simp), e1, w2]) ?_
    refine Ev.bind (chk_ev m hm) ?_
    by_cases h2 : chkF m = 0
    · simp only [if_pos h2]
      rw [show chk2 l m = 0 by unfold chk2; rw [if_pos ⟨h, h2⟩]]
      exact Ev.step (fun k => by rw [sets_checked.l0, if_neg (by omega)]) (Ev.now _)
    · simp only [if_neg h2]
      rw [show chk2 l m = chkF m by unfold chk2; rw [if_neg (fun h => h2 h.2), (chkF_one m).resolve_left h2]]
      exact Ev.now _
  · simp only [if_neg h]
    rw [show chk2 l m = chkF l by unfold chk2; rw [if_neg (fun h2 => h h2.1), (chkF_one l).resolve_left h]]
    exact Ev.now _
theorem fitL_F {l : List S53} (h : fitL l = true) : fitF l = true ∧ l.length ≤ 300000 := ⟨fitF_mem.2 fun x hx => (fitX_iff.1 ((fitL_iff.1 h).1 x hx)).2.2, (fitL_iff.1 h).2⟩
end Go.Proofs.Ytghommaokdhjmaa.SetsW
namespace Go.Proofs.Ytghommaokdhjmaa.P
open Go.Shelf Go.RowKit Go.Lib Go.Sort Go.Proofs.SymP Go.Proofs.YtghommaokdhjmaaW.PrintWords Go.Proofs.Ytghommaokdhjmaa.Str Go.Proofs.Ytghommaokdhjmaa.CmpF Go.Proofs.Ytghommaokdhjmaa.Fct Go.Proofs.Ytghommaokdhjmaa.SetsW
def sets_Has.f (l0 : List (S53)) (a1_0 : ByteArray) (l1_1 : List (S24)) : Option (Bool) := if fitF l0 = true ∧ l1_1.length ≤ 1000000 then some (l0.any fun x => cf53 x ⟨a1_0, l1_1⟩ == 0) else none
set_option maxHeartbeats 4000000 in
set_option maxRecDepth 1000000 in
theorem sets_Has.calls (A0 : Option Addr) (c0 : Nat) (l0 : List (S53)) (a1_0 : ByteArray) (A1_1 : Option Addr) (c1_1 : Nat) (l1_1 : List (S24)) (r : Bool) (w : World) (hr0 : Kd.C k53 w A0 l0.length l0) (hc0 : l0.length ≤ c0) (hr1_1 : Kd.C k24 w A1_1 l1_1.length l1_1) (hc1_1 : l1_1.length ≤ c1_1) (h : sets_Has.f l0 a1_0 l1_1 = some r) :
    Calls Try.prog 33 #[.slice A0 l0.length c0, .agg #[.string a1_0, .slice A1_1 l1_1.length c1_1]] w fun e w' => e = .returned (.bool r) ∧ Go.RowKit.Below w.heap.size w w' := by
  have hfit : fitF l0 = true ∧ l1_1.length ≤ 1000000 := by
    unfold sets_Has.f at h
    by_cases hc : fitF l0 = true ∧ l1_1.length ≤ 1000000
    · exact hc
    · rw [if_neg hc] at h; cases h
  obtain rfl : (l0.any fun x => cf53 x ⟨a1_0, l1_1⟩ == 0) = r := by
    unfold sets_Has.f at h
    rw [if_pos hfit] at h
    exact Option.some.inj h
  clear h
  have hu := Try.underlying53
  have hB : Go.RowKit.Below w.heap.size w (w.alloc (.cells #[.string a1_0, .slice A1_1 l1_1.length c1_1] 53)) := (Go.RowKit.Below.refl _ w).alloc (Nat.le_refl _) _
  have hcon := Aside0.mk (contHas A0 c0 l0 w.heap.size ⟨a1_0, l1_1⟩ A1_1 c1_1 _ (Kd.C_below hr0 hB) (fitF_mem.1 hfit.1) (by simp) (by simp) (Kd.C_below hr1_1 hB) hc1_1 hfit.2)
  have HB := Aside0.mk hB
  have eg : ∀ args w, (callFunc 68 args).run Try.prog w = .ok (.enter 68 args) w := enters_of Try.func68 (by kernel_rfl) rfl
  generalize (l0.any fun x => cf53 x ⟨a1_0, l1_1⟩ == 0) = q at hcon ⊢
  clear hr0 hr1_1 hc0 hc1_1 hfit hB
  go_enter Try.func33, Try.ntmps33
  go_wp2_with (go_at_fn 68; with_reducible refine hcon.out.mono ?_; rintro e w1 ⟨rfl, hb⟩)
  go_ret
  exact ⟨rfl, HB.out.trans (hb.mono HB.out.size)⟩
def sets_Of.f (l0 : List (S53)) : Option ((List (S53)) × Int) := if fitL l0 = true then some (if l0.any wrongF = true then ([], 1) else (setO cf53 l0, 0)) else none
set_option maxHeartbeats 4000000 in
set_option maxRecDepth 1000000 in
theorem sets_Of.calls (A0 : Option Addr) (c0 : Nat) (l0 : List (S53)) (r1 : List (S53)) (r2 : Int) (w : World) (hr0 : Kd.C k53 w A0 l0.length l0) (hc0 : l0.length ≤ c0) (h : sets_Of.f l0 = some (r1, r2)) :
    Calls Try.prog 30 #[.slice A0 l0.length c0] w fun e w' => ∃ v0_ : Value, e = .returned (.tuple #[v0_, .int .i64 r2]) ∧ Kd.S k53 53 w' w.heap.size (fun _ => True) v0_ r1 ∧ Go.RowKit.Below w.heap.size w w' := by
  have hfit : fitL l0 = true := by
    unfold sets_Of.f at h
    by_cases hc : fitL l0 = true
    · exact hc
    · rw [if_neg hc] at h; cases h
  have hres : (if l0.any wrongF = true then (([] : List S53), (1 : Int)) else (setO cf53 l0, 0)) = (r1, r2) := by
    unfold sets_Of.f at h
    rw [if_pos hfit] at h
    exact Option.some.inj h
  clear h
  have ec : ∀ args w, (callFunc 68 args).run Try.prog w = .ok (.enter 68 args) w := enters_of Try.func68 (by kernel_rfl) rfl
  have em : ∀ args w, (callFunc 70 args).run Try.prog w = .ok (.enter 70 args) w := enters_of Try.func70 (by kernel_rfl) rfl
  have hcon := contWrong A0 c0 l0 w hr0 (fitL_iff.1 hfit).1
  have hmer : Aside0 (∀ W, Go.RowKit.Below w.heap.size w W → Calls Try.prog 70 #[.slice (some ⟨W.heap.size, 0, none⟩) 1 1] (W.alloc (.cells #[.slice A0 l0.length c0] 46)) fun e w' => ∃ v0_ : Value, e = .returned (v0_) ∧ Kd.S k53 53 w' w.heap.size (fun _ => True) v0_ (setO cf53 l0) ∧ Go.RowKit.Below w.heap.size w w') := ⟨fun W hW => by
    refine (sets_merged.calls (some ⟨W.heap.size, 0, none⟩) 1 [l0] (setO cf53 l0) _ (lit1 (Kd.C_below hr0 hW) hc0) (by simp) (by
      unfold sets_merged.f
      have h1 := fitL_F hfit
      rw [List.flatten_cons, List.flatten_nil, List.append_nil, if_pos ⟨by omega, h1.1⟩])).mono ?_
    rintro e w' ⟨v, rfl, hS, hb⟩
    have hs := hW.size
    exact ⟨v, rfl, Kd.S_lower hS (by simp; omega), (hW.alloc hs _).trans (hb.mono (by simp; omega))⟩⟩
  clear hfit hr0 hc0
  cases hq : l0.any wrongF with
  | true =>
    rw [hq] at hcon hres
    obtain ⟨rfl, rfl⟩ := Prod.mk.inj (show (([] : List S53), (1 : Int)) = (r1, r2) from hres)
    clear hres hq hmer
    generalize l0.length = n0 at *
    go_enter Try.func30, Try.ntmps30
    go_wp2_with (go_at_fn 68; with_reducible refine hcon.mono ?_; rintro e w1 ⟨rfl, hb⟩)
    go_ret2
    exact ⟨_, rfl, Kd.S_nil _ _ _ _ _, hb⟩
  | false =>
    rw [hq] at hcon hres
    obtain ⟨rfl, rfl⟩ := Prod.mk.inj (show (setO cf53 l0, (0 : Int)) = (r1, r2) from hres)
    clear hres hq
    generalize setO cf53 l0 = q at *
    generalize l0.length = n0 at *
    go_enter Try.func30, Try.ntmps30
    go_wp2_with (first | (go_at_fn 68; with_reducible refine hcon.mono ?_; rintro e w1 ⟨rfl, hb⟩; have HB := Aside0.mk hb; clear hb hcon) | (go_at_fn 70; with_reducible refine (hmer.out _ HB.out).mono ?_; rintro e w2 ⟨v, rfl, hS, hb2⟩))
    go_ret2
    exact ⟨_, rfl, hS, hb2⟩
def sets_Drop.f (l0 : List (S53)) (a1_0 : ByteArray) (l1_1 : List (S24)) : Option ((List (S53)) × Int) := if fitL l0 = true ∧ fitX ⟨a1_0, l1_1⟩ = true then some (if chk2 l0 [⟨a1_0, l1_1⟩] = 0 then ((setO cf53 l0).filter fun x => !(cf53 x ⟨a1_0, l1_1⟩ == 0), 0) else ([], 1)) else none
set_option maxHeartbeats 4000000 in
set_option maxRecDepth 1000000 in
theorem sets_Drop.calls (A0 : Option Addr) (c0 : Nat) (l0 : List (S53)) (a1_0 : ByteArray) (A1_1 : Option Addr) (c1_1 : Nat) (l1_1 : List (S24)) (r1 : List (S53)) (r2 : Int) (w : World) (hr0 : Kd.C k53 w A0 l0.length l0) (hc0 : l0.length ≤ c0) (hr1_1 : Kd.C k24 w A1_1 l1_1.length l1_1) (hc1_1 : l1_1.length ≤ c1_1) (h : sets_Drop.f l0 a1_0 l1_1 = some (r1, r2)) :
    Calls Try.prog 39 #[.slice A0 l0.length c0, .agg #[.string a1_0, .slice A1_1 l1_1.length c1_1]] w fun e w' => ∃ v0_ : Value, e = .returned (.tuple #[v0_, .int .i64 r2]) ∧ Kd.S k53 53 w' w.heap.size (fun _ => True) v0_ r1 ∧ Go.RowKit.Below w.heap.size w w' := by
  have hfit : fitL l0 = true ∧ fitX ⟨a1_0, l1_1⟩ = true := by
    unfold sets_Drop.f at h
    by_cases hc : fitL l0 = true ∧ fitX ⟨a1_0, l1_1⟩ = true
    · exact hc
    · rw [if_neg hc] at h; cases h
  have hres : (if chk2 l0 [⟨a1_0, l1_1⟩] = 0 then ((setO cf53 l0).filter fun x => !(cf53 x ⟨a1_0, l1_1⟩ == 0), (0 : Int)) else (([] : List S53), (1 : Int))) = (r1, r2) := by
    unfold sets_Drop.f at h
    rw [if_pos hfit] at h
    exact Option.some.inj h
  clear h
  have hu := Try.underlying53
  have ek : ∀ args w, (callFunc 71 args).run Try.prog w = .ok (.enter 71 args) w := enters_of Try.func71 (by kernel_rfl) rfl
  have em : ∀ args w, (callFunc 70 args).run Try.prog w = .ok (.enter 70 args) w := enters_of Try.func70 (by kernel_rfl) rfl
  have ed : ∀ args w, (callFunc 75 args).run Try.prog w = .ok (.enter 75 args) w := enters_of Try.func75 (by kernel_rfl) rfl
  obtain ⟨y, hy⟩ : ∃ y : S53, y = ⟨a1_0, l1_1⟩ := ⟨_, rfl⟩
  rw [← hy] at hres hfit
  obtain ⟨rfl, rfl⟩ : y.f0 = a1_0 ∧ y.f1 = l1_1 := by rw [hy]; exact ⟨rfl, rfl⟩
  clear hy
  have hml : fitL [y] = true := fitL_iff.2 ⟨by simpa using hfit.2, by simp⟩
  have hyl := (fitX_iff.1 hfit.2).2.2
  obtain ⟨wB, hwB⟩ : ∃ wB, wB = w.alloc (.cells #[.string y.f0, .slice A1_1 y.f1.length c1_1] 53) := ⟨_, rfl⟩
  have hBB : Go.RowKit.Below w.heap.size w wB := by rw [hwB]; exact (Go.RowKit.Below.refl _ w).alloc (Nat.le_refl _) _
  have hBs : wB.heap.size = w.heap.size + 1 := by rw [hwB]; simp
  have hb0 : wB.cell? ⟨w.heap.size, 0, none⟩ = some (.string y.f0) := by rw [hwB]; simp
  have hb1 : wB.cell? ⟨w.heap.size, 1, none⟩ = some (.slice A1_1 y.f1.length c1_1) := by rw [hwB]; simp
  have hchk : Calls Try.prog 71 #[.slice (some ⟨wB.heap.size + 1, 0, none⟩) 2 2] ((wB.alloc (.cells #[.string y.f0, .slice A1_1 y.f1.length c1_1] 53)).alloc (.cells #[.slice A0 l0.length c0, .slice (some ⟨wB.heap.size, 0, none⟩) 1 1] 46)) fun e w' => e = .returned (.int .i64 (chk2 l0 [y])) ∧ Go.RowKit.Below (w.heap.size + 1) wB w' := by
    obtain ⟨k, hk⟩ := (chk2_ev l0 [y] hfit.1 hml).rounds
    have h1 := litF (W := wB) (A := A1_1) (c := c1_1) (y := y) (Kd.C_below hr1_1 hBB) hc1_1
    have hB2 : Go.RowKit.Below w.heap.size w (wB.alloc (.cells #[.string y.f0, .slice A1_1 y.f1.length c1_1] 53)) := hBB.alloc (by omega) _
    have h2 := lit2 (W := wB.alloc (.cells #[.string y.f0, .slice A1_1 y.f1.length c1_1] 53)) (c1 := 1) (Kd.C_below hr0 hB2) hc0 h1 (by simp)
    refine (sets_checked.calls k (some ⟨wB.heap.size + 1, 0, none⟩) 2 [l0, [y]] _ _ (by simpa using h2) (by simp) hk).mono ?_
    rintro e w' ⟨rfl, hb⟩
    exact ⟨rfl, (((Go.RowKit.Below.refl (w.heap.size + 1) wB).alloc (by omega) _).alloc (by simp; omega) _).trans (hb.mono (by simp; omega))⟩
  have hmer : Aside0 (∀ W, Go.RowKit.Below (w.heap.size + 1) wB W → Calls Try.prog 70 #[.slice (some ⟨W.heap.size, 0, none⟩) 1 1] (W.alloc (.cells #[.slice A0 l0.length c0] 46)) fun e w' => ∃ v0_ : Value, e = .returned (v0_) ∧ Kd.S k53 53 w' (w.heap.size + 1) (fun _ => True) v0_ (setO cf53 l0) ∧ Go.RowKit.Below (w.heap.size + 1) wB w') := ⟨fun W hW => by
    have hs := hW.size
    refine (sets_merged.calls (some ⟨W.heap.size, 0, none⟩) 1 [l0] (setO cf53 l0) _ (lit1 (Kd.C_below hr0 (hBB.trans (hW.mono (by omega)))) hc0) (by simp) (by
      unfold sets_merged.f
      have h1 := fitL_F hfit.1
      rw [List.flatten_cons, List.flatten_nil, List.append_nil, if_pos ⟨by omega, h1.1⟩])).mono ?_
    rintro e w' ⟨v, rfl, hS, hb⟩
    exact ⟨v, rfl, Kd.S_lower hS (by simp; omega), (hW.alloc (by omega) _).trans (hb.mono (by simp; omega))⟩⟩
  have hset1 : (setO cf53 l0).length ≤ 1000000 := by
    have h1 := setO_len (c := cf53) l0
    have h2 := (fitL_iff.1 hfit.1).2
    omega
  have hset2 : ∀ x ∈ setO cf53 l0, x.f1.length ≤ 1000000 := fun x hx => (fitX_iff.1 ((fitL_iff.1 hfit.1).1 x ((setO_mem ord53 x l0).1 hx))).2.2
  have hdel : Aside0 (∀ (W : World) (v : Value), Go.RowKit.Below (w.heap.size + 1) wB W → Kd.S k53 53 W (w.heap.size + 1) (fun _ => True) v (setO cf53 l0) → Calls Try.prog 75 #[v, .func (.func 76) #[] #[.pointer (some ⟨w.heap.size, 0, none⟩)]] W fun e w' => ∃ v', e = .returned v' ∧ Kd.S k53 53 w' w.heap.size (fun _ => True) v' ((setO cf53 l0).filter fun x => !(cf53 x y == 0)) ∧ Go.RowKit.Below w.heap.size w w') := ⟨fun W v hW hS => by
    have hs := hW.size
    refine (deleteS (w.heap.size + 1) v (setO cf53 l0) hset1 hset2 W hS (by omega) w.heap.size y A1_1 c1_1 hyl hc1_1 (fun W2 hW2 => ?_)).mono ?_
    · have hb := hW.trans hW2
      exact ⟨(hb.cell (p := ⟨w.heap.size, 0, none⟩) (Nat.lt_succ_self _)).trans hb0, (hb.cell (p := ⟨w.heap.size, 1, none⟩) (Nat.lt_succ_self _)).trans hb1, Kd.C_below hr1_1 (hBB.trans (hb.mono (by omega)))⟩
    · rintro e w' ⟨v', rfl, hS', hb⟩
      exact ⟨v', rfl, Kd.S_lower hS' (by omega), hBB.trans ((hW.trans hb).mono (by omega))⟩⟩
  have HBB := Aside0.mk hBB
  rw [hBs] at hchk
  clear hr0 hr1_1 hc0 hc1_1 hfit hml hyl hset1 hset2 hBB
  generalize ((setO cf53 l0).filter fun x => !(cf53 x y == 0)) = q at *
  generalize setO cf53 l0 = q0 at *
  by_cases hz : chk2 l0 [y] = 0
  · rw [if_pos hz] at hres
    rw [hz] at hchk
    obtain ⟨rfl, rfl⟩ := Prod.mk.inj hres
    clear hres hz
    subst hwB
    generalize l0.length = n0 at *
    generalize y.f1.length = n1 at *
    generalize y.f0 = y0 at *
    go_enter Try.func39, Try.ntmps39
    go_wp2_with (first | (go_at_fn 71; with_reducible refine hchk.mono ?_; rintro e w1 ⟨rfl, hb⟩; have HB := Aside0.mk hb; have hc0' := (hb.cell (p := ⟨w.heap.size, 0, none⟩) (Nat.lt_succ_self _)).trans hb0; have hc1' := (hb.cell (p := ⟨w.heap.size, 1, none⟩) (Nat.lt_succ_self _)).trans hb1; clear hb hchk hb0 hb1) | (go_at_fn 70; with_reducible refine (hmer.out _ HB.out).mono ?_; rintro e w2 ⟨v, rfl, hS, hb2⟩; have HS := Aside0.mk hS; have HB2 := Aside0.mk hb2; clear hS hb2) | (go_at_fn 75; with_reducible refine (hdel.out _ v HB2.out HS.out).mono ?_; rintro e w3 ⟨v', rfl, hS', hb3⟩))
    go_ret2
    exact ⟨_, rfl, hS', hb3⟩
  · have hz1 : chk2 l0 [y] = 1 := by
      unfold chk2 at hz ⊢
      split at hz
      · exact absurd rfl hz
      · rename_i h; rw [if_neg h]
    rw [if_neg hz] at hres
    rw [hz1] at hchk
    obtain ⟨rfl, rfl⟩ := Prod.mk.inj hres
    clear hres hz hz1 hmer hdel
    subst hwB
    generalize l0.length = n0 at *
    generalize y.f1.length = n1 at *
    generalize y.f0 = y0 at *
    go_enter Try.func39, Try.ntmps39
    go_wp2_with (go_at_fn 71; with_reducible refine hchk.mono ?_; rintro e w1 ⟨rfl, hb⟩)
    go_ret2
    exact ⟨_, rfl, Kd.S_nil _ _ _ _ _, HBB.out.trans (hb.mono (by omega))⟩
end Go.Proofs.Ytghommaokdhjmaa.P
/- sets.Put, sets.Both: their walks and what they answer as plain functions; texts and rows no longer than a million. -/
set_option linter.unusedVariables false
set_option linter.unusedSimpArgs false
namespace Go.Proofs.Ytghommaokdhjmaa.P
open Go.Shelf Go.RowKit Go.Lib Go.Sort Go.Proofs.SymP Go.Proofs.YtghommaokdhjmaaW.PrintWords Go.Proofs.Ytghommaokdhjmaa.Str Go.Proofs.Ytghommaokdhjmaa.CmpF Go.Proofs.Ytghommaokdhjmaa.Fct Go.Proofs.Ytghommaokdhjmaa.SetsW
theorem chk2_ne {l m : List S53} (h : ¬ chk2 l m = 0) : chk2 l m = 1 := by
  unfold chk2 at h ⊢
  by_cases h2 : chkF l = 0 ∧ chkF m = 0
  · rw [if_pos h2] at h; exact absurd rfl h
  · rw [if_neg h2]
theorem merged2 {l m : List S53} (hl : fitL l = true) (hm : fitL m = true) : sets_merged.f [l, m] = some (setO cf53 (l ++ m)) := by
  obtain ⟨h1, h2⟩ := fitL_F hl
  obtain ⟨h3, h4⟩ := fitL_F hm
  have hF : fitF (l ++ m) = true := fitF_mem.2 fun x hx => by
    rcases List.mem_append.1 hx with h | h
    · exact fitF_mem.1 h1 x h
    · exact fitF_mem.1 h3 x h
  unfold sets_merged.f
  rw [List.flatten_cons, List.flatten_cons, List.flatten_nil, List.append_nil, if_pos ⟨by rw [List.length_append]; omega, hF⟩]
def sets_Both.f (l0 : List (S53)) (l1 : List (S53)) : Option ((List (S53)) × Int) := if fitL l0 = true ∧ fitL l1 = true then some (if chk2 l0 l1 = 0 then (setO cf53 (l0 ++ l1), 0) else ([], 1)) else none
set_option maxHeartbeats 4000000 in
set_option maxRecDepth 1000000 in
theorem sets_Both.calls (A0 : Option Addr) (c0 : Nat) (l0 : List (S53)) (A1 : Option Addr) (c1 : Nat) (l1 : List (S53)) (r1 : List (S53)) (r2 : Int) (w : World) (hr0 : Kd.C k53 w A0 l0.length l0) (hc0 : l0.length ≤ c0) (hr1 : Kd.C k53 w A1 l1.length l1) (hc1 : l1.length ≤ c1) (h : sets_Both.f l0 l1 = some (r1, r2)) :
    Calls Try.prog 42 #[.slice A0 l0.length c0, .slice A1 l1.length c1] w fun e w' => ∃ v0_ : Value, e = .returned (.tuple #[v0_, .int .i64 r2]) ∧ Kd.S k53 53 w' w.heap.size (fun _ => True) v0_ r1 ∧ Go.RowKit.Below w.heap.size w w' := by
  have hfit : fitL l0 = true ∧ fitL l1 = true := by
    unfold sets_Both.f at h
    by_cases hc : fitL l0 = true ∧ fitL l1 = true
    · exact hc
    · rw [if_neg hc] at h; cases h
  have hres : (if chk2 l0 l1 = 0 then (setO cf53 (l0 ++ l1), (0 : Int)) else (([] : List S53), (1 : Int))) = (r1, r2) := by
    unfold sets_Both.f at h
    rw [if_pos hfit] at h
    exact Option.some.inj h
  clear h
  have ek : ∀ args w, (callFunc 71 args).run Try.prog w = .ok (.enter 71 args) w := enters_of Try.func71 (by kernel_rfl) rfl
  have em : ∀ args w, (callFunc 70 args).run Try.prog w = .ok (.enter 70 args) w := enters_of Try.func70 (by kernel_rfl) rfl
  have hchk : Calls Try.prog 71 #[.slice (some ⟨w.heap.size, 0, none⟩) 2 2] (w.alloc (.cells #[.slice A0 l0.length c0, .slice A1 l1.length c1] 46)) fun e w' => e = .returned (.int .i64 (chk2 l0 l1)) ∧ Go.RowKit.Below w.heap.size w w' := by
    obtain ⟨k, hk⟩ := (chk2_ev l0 l1 hfit.1 hfit.2).rounds
    refine (sets_checked.calls k (some ⟨w.heap.size, 0, none⟩) 2 [l0, l1] _ _ (lit2 hr0 hc0 hr1 hc1) (by simp) hk).mono ?_
    rintro e w' ⟨rfl, hb⟩
    exact ⟨rfl, ((Go.RowKit.Below.refl w.heap.size w).alloc (Nat.le_refl _) _).trans (hb.mono (by simp))⟩
  have hmer : Aside0 (∀ W, Go.RowKit.Below w.heap.size w W → Calls Try.prog 70 #[.slice (some ⟨W.heap.size, 0, none⟩) 2 2] (W.alloc (.cells #[.slice A0 l0.length c0, .slice A1 l1.length c1] 46)) fun e w' => ∃ v0_ : Value, e = .returned (v0_) ∧ Kd.S k53 53 w' w.heap.size (fun _ => True) v0_ (setO cf53 (l0 ++ l1)) ∧ Go.RowKit.Below w.heap.size w w') := ⟨fun W hW => by
    have hs := hW.size
    refine (sets_merged.calls (some ⟨W.heap.size, 0, none⟩) 2 [l0, l1] _ _ (lit2 (Kd.C_below hr0 hW) hc0 (Kd.C_below hr1 hW) hc1) (by simp) (merged2 hfit.1 hfit.2)).mono ?_
    rintro e w' ⟨v, rfl, hS, hb⟩
    exact ⟨v, rfl, Kd.S_lower hS (by simp; omega), (hW.alloc hs _).trans (hb.mono (by simp; omega))⟩⟩
  clear hfit hr0 hc0 hr1 hc1
  generalize setO cf53 (l0 ++ l1) = q0 at *
  by_cases hz : chk2 l0 l1 = 0
  · rw [if_pos hz] at hres
    rw [hz] at hchk
    obtain ⟨rfl, rfl⟩ := Prod.mk.inj hres
    clear hres hz
    generalize l0.length = n0 at *
    generalize l1.length = n1 at *
    go_enter Try.func42, Try.ntmps42
    go_wp2_with (first | (go_at_fn 71; with_reducible refine hchk.mono ?_; rintro e w1 ⟨rfl, hb⟩; have HB := Aside0.mk hb; clear hb hchk) | (go_at_fn 70; with_reducible refine (hmer.out _ HB.out).mono ?_; rintro e w2 ⟨v, rfl, hS, hb2⟩))
    go_ret2
    exact ⟨_, rfl, hS, hb2⟩
  · rw [if_neg hz] at hres
    rw [chk2_ne hz] at hchk
    obtain ⟨rfl, rfl⟩ := Prod.mk.inj hres
    clear hres hz hmer
    generalize l0.length = n0 at *
    generalize l1.length = n1 at *
    go_enter Try.func42, Try.ntmps42
    go_wp2_with (go_at_fn 71; with_reducible refine hchk.mono ?_; rintro e w1 ⟨rfl, hb⟩)
    go_ret2
    exact ⟨_, rfl, Kd.S_nil _ _ _ _ _, hb⟩
def sets_Put.f (l0 : List (S53)) (a1_0 : ByteArray) (l1_1 : List (S24)) : Option ((List (S53)) × Int) := if fitL l0 = true ∧ fitX ⟨a1_0, l1_1⟩ = true then some (if chk2 l0 [⟨a1_0, l1_1⟩] = 0 then (setO cf53 (l0 ++ [⟨a1_0, l1_1⟩]), 0) else ([], 1)) else none
set_option maxHeartbeats 4000000 in
set_option maxRecDepth 1000000 in
theorem sets_Put.calls (A0 : Option Addr) (c0 : Nat) (l0 : List (S53)) (a1_0 : ByteArray) (A1_1 : Option Addr) (c1_1 : Nat) (l1_1 : List (S24)) (r1 : List (S53)) (r2 : Int) (w : World) (hr0 : Kd.C k53 w A0 l0.length l0) (hc0 : l0.length ≤ c0) (hr1_1 : Kd.C k24 w A1_1 l1_1.length l1_1) (hc1_1 : l1_1.length ≤ c1_1) (h : sets_Put.f l0 a1_0 l1_1 = some (r1, r2)) :
    Calls Try.prog 32 #[.slice A0 l0.length c0, .agg #[.string a1_0, .slice A1_1 l1_1.length c1_1]] w fun e w' => ∃ v0_ : Value, e = .returned (.tuple #[v0_, .int .i64 r2]) ∧ Kd.S k53 53 w' w.heap.size (fun _ => True) v0_ r1 ∧ Go.RowKit.Below w.heap.size w w' := by
  have hfit : fitL l0 = true ∧ fitX ⟨a1_0, l1_1⟩ = true := by
    unfold sets_Put.f at h
    by_cases hc : fitL l0 = true ∧ fitX ⟨a1_0, l1_1⟩ = true
    · exact hc
    · rw [if_neg hc] at h; cases h
  have hres : (if chk2 l0 [⟨a1_0, l1_1⟩] = 0 then (setO cf53 (l0 ++ [⟨a1_0, l1_1⟩]), (0 : Int)) else (([] : List S53), (1 : Int))) = (r1, r2) := by
    unfold sets_Put.f at h
    rw [if_pos hfit] at h
    exact Option.some.inj h
  clear h
  have hu := Try.underlying53
  have ek : ∀ args w, (callFunc 71 args).run Try.prog w = .ok (.enter 71 args) w := enters_of Try.func71 (by kernel_rfl) rfl
  have em : ∀ args w, (callFunc 70 args).run Try.prog w = .ok (.enter 70 args) w := enters_of Try.func70 (by kernel_rfl) rfl
  obtain ⟨y, hy⟩ : ∃ y : S53, y = ⟨a1_0, l1_1⟩ := ⟨_, rfl⟩
  rw [← hy] at hres hfit
  obtain ⟨rfl, rfl⟩ : y.f0 = a1_0 ∧ y.f1 = l1_1 := by rw [hy]; exact ⟨rfl, rfl⟩
  clear hy
  have hml : fitL [y] = true := fitL_iff.2 ⟨by simpa using hfit.2, by simp⟩
  obtain ⟨wB, hwB⟩ : ∃ wB, wB = w.alloc (.cells #[.string y.f0, .slice A1_1 y.f1.length c1_1] 53) := ⟨_, rfl⟩
  have hBB : Go.RowKit.Below w.heap.size w wB := by rw [hwB]; exact (Go.RowKit.Below.refl _ w).alloc (Nat.le_refl _) _
  have hBs : wB.heap.size = w.heap.size + 1 := by rw [hwB]; simp
  have hb0 : wB.cell? ⟨w.heap.size, 0, none⟩ = some (.string y.f0) := by rw [hwB]; simp
  have hb1 : wB.cell? ⟨w.heap.size, 1, none⟩ = some (.slice A1_1 y.f1.length c1_1) := by rw [hwB]; simp
  have hlit : Aside0 (∀ W, Go.RowKit.Below (w.heap.size + 1) wB W → Kd.C (Kd.slice 53 k53) ((W.alloc (.cells #[.string y.f0, .slice A1_1 y.f1.length c1_1] 53)).alloc (.cells #[.slice A0 l0.length c0, .slice (some ⟨W.heap.size, 0, none⟩) 1 1] 46)) (some ⟨W.heap.size + 1, 0, none⟩) [l0, [y]].length [l0, [y]]) := ⟨fun W hW => by
    have hs := hW.size
    have hWw := hBB.trans (hW.mono (by omega))
    have h1 := litF (W := W) (A := A1_1) (c := c1_1) (y := y) (Kd.C_below hr1_1 hWw) hc1_1
    have hB2 : Go.RowKit.Below w.heap.size w (W.alloc (.cells #[.string y.f0, .slice A1_1 y.f1.length c1_1] 53)) := hWw.alloc (by omega) _
    have h2 := lit2 (W := W.alloc (.cells #[.string y.f0, .slice A1_1 y.f1.length c1_1] 53)) (c1 := 1) (Kd.C_below hr0 hB2) hc0 h1 (by simp)
    simpa using h2⟩
  have hchk : Calls Try.prog 71 #[.slice (some ⟨wB.heap.size + 1, 0, none⟩) 2 2] ((wB.alloc (.cells #[.string y.f0, .slice A1_1 y.f1.length c1_1] 53)).alloc (.cells #[.slice A0 l0.length c0, .slice (some ⟨wB.heap.size, 0, none⟩) 1 1] 46)) fun e w' => e = .returned (.int .i64 (chk2 l0 [y])) ∧ Go.RowKit.Below (w.heap.size + 1) wB w' := by
    obtain ⟨k, hk⟩ := (chk2_ev l0 [y] hfit.1 hml).rounds
    refine (sets_checked.calls k (some ⟨wB.heap.size + 1, 0, none⟩) 2 [l0, [y]] _ _ (hlit.out wB (Go.RowKit.Below.refl _ _)) (by simp) hk).mono ?_
    rintro e w' ⟨rfl, hb⟩
    exact ⟨rfl, (((Go.RowKit.Below.refl (w.heap.size + 1) wB).alloc (by omega) _).alloc (by simp; omega) _).trans (hb.mono (by simp; omega))⟩
  have hmer : Aside0 (∀ W, Go.RowKit.Below (w.heap.size + 1) wB W → Calls Try.prog 70 #[.slice (some ⟨W.heap.size + 1, 0, none⟩) 2 2] ((W.alloc (.cells #[.string y.f0, .slice A1_1 y.f1.length c1_1] 53)).alloc (.cells #[.slice A0 l0.length c0, .slice (some ⟨W.heap.size, 0, none⟩) 1 1] 46)) fun e w' => ∃ v0_ : Value, e = .returned (v0_) ∧ Kd.S k53 53 w' w.heap.size (fun _ => True) v0_ (setO cf53 (l0 ++ [y])) ∧ Go.RowKit.Below w.heap.size w w') := ⟨fun W hW => by
    have hs := hW.size
    refine (sets_merged.calls (some ⟨W.heap.size + 1, 0, none⟩) 2 [l0, [y]] _ _ (hlit.out W hW) (by simp) (merged2 hfit.1 hml)).mono ?_
    rintro e w' ⟨v, rfl, hS, hb⟩
    have hWw := hBB.trans (hW.mono (by omega))
    exact ⟨v, rfl, Kd.S_lower hS (by simp; omega), ((hWw.alloc (by omega) _).alloc (by simp; omega) _).trans (hb.mono (by simp; omega))⟩⟩
  have HBB := Aside0.mk hBB
  rw [hBs] at hchk
  clear hr0 hr1_1 hc0 hc1_1 hfit hml hBB hlit
  generalize setO cf53 (l0 ++ [y]) = q0 at *
  by_cases hz : chk2 l0 [y] = 0
  · rw [if_pos hz] at hres
    rw [hz] at hchk
    obtain ⟨rfl, rfl⟩ := Prod.mk.inj hres
    clear hres hz
    subst hwB
    generalize l0.length = n0 at *
    generalize y.f1.length = n1 at *
    generalize y.f0 = y0 at *
    go_enter Try.func32, Try.ntmps32
    go_wp2_with (first | (go_at_fn 71; with_reducible refine hchk.mono ?_; rintro e w1 ⟨rfl, hb⟩; have HB := Aside0.mk hb; have hc0' := (hb.cell (p := ⟨w.heap.size, 0, none⟩) (Nat.lt_succ_self _)).trans hb0; have hc1' := (hb.cell (p := ⟨w.heap.size, 1, none⟩) (Nat.lt_succ_self _)).trans hb1; clear hb hchk hb0 hb1) | (go_at_fn 70; with_reducible refine (hmer.out _ HB.out).mono ?_; rintro e w2 ⟨v, rfl, hS, hb2⟩))
    go_ret2
    exact ⟨_, rfl, hS, hb2⟩
  · rw [if_neg hz] at hres
    rw [chk2_ne hz] at hchk
    obtain ⟨rfl, rfl⟩ := Prod.mk.inj hres
    clear hres hz hmer
    subst hwB
    generalize l0.length = n0 at *
    generalize y.f1.length = n1 at *
    generalize y.f0 = y0 at *
    go_enter Try.func32, Try.ntmps32
    go_wp2_with (go_at_fn 71; with_reducible refine hchk.mono ?_; rintro e w1 ⟨rfl, hb⟩)
    go_ret2
    exact ⟨_, rfl, Kd.S_nil _ _ _ _ _, HBB.out.trans (hb.mono (by omega))⟩
end Go.Proofs.Ytghommaokdhjmaa.P
/- constablelaw04.wakes: its walk; it answers true. -/
set_option linter.unusedVariables false
set_option linter.unusedSimpArgs false
namespace Go.Proofs.Ytghommaokdhjmaa.SetsW
open Go.Shelf Go.RowKit Go.Lib Go.Sort Go.Proofs.SymP Go.Proofs.YtghommaokdhjmaaW.PrintWords Go.Proofs.Ytghommaokdhjmaa.P Go.Proofs.Ytghommaokdhjmaa.Str Go.Proofs.Ytghommaokdhjmaa.CmpF Go.Proofs.Ytghommaokdhjmaa.Fct
def fA : S53 := ⟨⟨#[97]⟩, []⟩
def fB : S53 := ⟨⟨#[98]⟩, []⟩
def fC : S53 := ⟨⟨#[99]⟩, []⟩
set_option maxRecDepth 100000 in
theorem vOf : sets_Of.f [fB, fA, fB] = some ([fA, fB], 0) := by kernel_rfl
set_option maxRecDepth 100000 in
theorem vPut : sets_Put.f [fA, fB] ⟨#[99]⟩ [] = some ([fA, fB, fC], 0) := by kernel_rfl
set_option maxRecDepth 100000 in
theorem vDrop : sets_Drop.f [fA, fB, fC] ⟨#[97]⟩ [] = some ([fB, fC], 0) := by kernel_rfl
set_option maxRecDepth 100000 in
theorem vHas1 : sets_Has.f [fA, fB, fC] ⟨#[99]⟩ [] = some true := by kernel_rfl
set_option maxRecDepth 100000 in
theorem vHas2 : sets_Has.f [fB, fC] ⟨#[97]⟩ [] = some false := by kernel_rfl
set_option maxRecDepth 100000 in
theorem vChk : sets_Check.f 9 [fB, fA] = some 1 := by kernel_rfl
theorem C_none (W : World) : Kd.C k24 W none ([] : List S24).length [] := ⟨rfl, by simp, fun h => absurd h (by simp)⟩
theorem named (n : ByteArray) (W : World) : k53.K W ⟨n, []⟩ [.string n, .slice none 0 0] := k53_mk W ⟨n, []⟩ (Nat.le_refl 0) (C_none W)
theorem named3 (W : World) (a b c : ByteArray) : Kd.C k53 (W.alloc (.cells #[.string a, .slice none 0 0, .string b, .slice none 0 0, .string c, .slice none 0 0] 53)) (some ⟨W.heap.size, 0, none⟩) 3 [⟨a, []⟩, ⟨b, []⟩, ⟨c, []⟩] := by
  refine ⟨rfl, by simp, fun _ => ⟨_, rfl, fun j p hj => ?_⟩⟩
  rcases j with _ | _ | _ | j
  · obtain rfl : (⟨a, []⟩ : S53) = p := by simpa using hj
    refine ⟨_, rfl, named a _, fun i u hu => ?_⟩
    rcases i with _ | _ | i
    · obtain rfl : Value.string a = u := by simpa using hu
      simp [Addr.add]
    · obtain rfl : Value.slice none 0 0 = u := by simpa using hu
      simp [Addr.add]
    · simp at hu
  · obtain rfl : (⟨b, []⟩ : S53) = p := by simpa using hj
    refine ⟨_, rfl, named b _, fun i u hu => ?_⟩
    rcases i with _ | _ | i
    · obtain rfl : Value.string b = u := by simpa using hu
      show (W.alloc _).cell? ((⟨W.heap.size, 0, none⟩ : Addr).add 2) = _
      simp [Addr.add]
    · obtain rfl : Value.slice none 0 0 = u := by simpa using hu
      show (W.alloc _).cell? ((⟨W.heap.size, 0, none⟩ : Addr).add 3) = _
      simp [Addr.add]
    · simp at hu
  · obtain rfl : (⟨c, []⟩ : S53) = p := by simpa using hj
    refine ⟨_, rfl, named c _, fun i u hu => ?_⟩
    rcases i with _ | _ | i
    · obtain rfl : Value.string c = u := by simpa using hu
      show (W.alloc _).cell? ((⟨W.heap.size, 0, none⟩ : Addr).add 4) = _
      simp [Addr.add]
    · obtain rfl : Value.slice none 0 0 = u := by simpa using hu
      show (W.alloc _).cell? ((⟨W.heap.size, 0, none⟩ : Addr).add 5) = _
      simp [Addr.add]
    · simp at hu
  · simp at hj
theorem named2 (W : World) (a b : ByteArray) : Kd.C k53 (W.alloc (.cells #[.string a, .slice none 0 0, .string b, .slice none 0 0] 53)) (some ⟨W.heap.size, 0, none⟩) 2 [⟨a, []⟩, ⟨b, []⟩] := by
  refine ⟨rfl, by simp, fun _ => ⟨_, rfl, fun j p hj => ?_⟩⟩
  rcases j with _ | _ | j
  · obtain rfl : (⟨a, []⟩ : S53) = p := by simpa using hj
    refine ⟨_, rfl, named a _, fun i u hu => ?_⟩
    rcases i with _ | _ | i
    · obtain rfl : Value.string a = u := by simpa using hu
      simp [Addr.add]
    · obtain rfl : Value.slice none 0 0 = u := by simpa using hu
      simp [Addr.add]
    · simp at hu
  · obtain rfl : (⟨b, []⟩ : S53) = p := by simpa using hj
    refine ⟨_, rfl, named b _, fun i u hu => ?_⟩
    rcases i with _ | _ | i
    · obtain rfl : Value.string b = u := by simpa using hu
      show (W.alloc _).cell? ((⟨W.heap.size, 0, none⟩ : Addr).add 2) = _
      simp [Addr.add]
    · obtain rfl : Value.slice none 0 0 = u := by simpa using hu
      show (W.alloc _).cell? ((⟨W.heap.size, 0, none⟩ : Addr).add 3) = _
      simp [Addr.add]
    · simp at hu
  · simp at hj
/-- A row of n facts, read. -/
def Row (W : World) (A : Option Addr) (n c : Nat) (l : List S53) : Prop := n ≤ c ∧ Kd.C k53 W A n l
theorem Row.of {w : World} {base : Nat} {v : Value} {l : List S53} (h : Kd.S k53 53 w base (fun _ => True) v l) : ∃ A c, v = .slice A l.length c ∧ Row w A l.length c l := by
  obtain ⟨A, c, rfl, h1, h2⟩ := Kd.S_reads h
  exact ⟨A, c, rfl, h1, h2⟩
theorem Row.below {w w' : World} {A : Option Addr} {n c : Nat} {l : List S53} (h : Row w A n c l) (hb : Go.RowKit.Below w.heap.size w w') : Row w' A n c l := ⟨h.1, Kd.C_below h.2 hb⟩
theorem Row.C {W : World} {A : Option Addr} {n c : Nat} {l : List S53} (h : Row W A n c l) : Kd.C k53 W A n l := h.2
theorem cOf (W : World) : Calls Try.prog 30 #[.slice (some ⟨W.heap.size, 0, none⟩) 3 3] (W.alloc (.cells #[.string ⟨#[98]⟩, .slice none 0 0, .string ⟨#[97]⟩, .slice none 0 0, .string ⟨#[98]⟩, .slice none 0 0] 53)) fun e w' => ∃ A c, e = .returned (.tuple #[.slice A 2 c, .int .i64 0]) ∧ Row w' A 2 c [fA, fB] ∧ Go.RowKit.Below W.heap.size W w' := by
  refine (sets_Of.calls (some ⟨W.heap.size, 0, none⟩) 3 [fB, fA, fB] _ _ _ (named3 W _ _ _) (Nat.le_refl 3) vOf).mono ?_
  rintro e w' ⟨v, rfl, hS, hb⟩
  obtain ⟨A, c, rfl, hR⟩ := Row.of hS
  exact ⟨A, c, rfl, hR, ((Go.RowKit.Below.refl _ W).alloc (Nat.le_refl _) _).trans (hb.mono (by simp))⟩
theorem cPut (W : World) (A : Option Addr) (c : Nat) (h : Row W A 2 c [fA, fB]) : Calls Try.prog 32 #[.slice A 2 c, .agg #[.string ⟨#[99]⟩, .slice none 0 0]] W fun e w' => ∃ A c, e = .returned (.tuple #[.slice A 3 c, .int .i64 0]) ∧ Row w' A 3 c [fA, fB, fC] ∧ Go.RowKit.Below W.heap.size W w' := by
  refine (sets_Put.calls A c [fA, fB] ⟨#[99]⟩ none 0 [] _ _ W h.2 h.1 (C_none W) (Nat.le_refl 0) vPut).mono ?_
  rintro e w' ⟨v, rfl, hS, hb⟩
  obtain ⟨A, c, rfl, hR⟩ := Row.of hS
  exact ⟨A, c, rfl, hR, hb⟩
theorem cDrop (W : World) (A : Option Addr) (c : Nat) (h : Row W A 3 c [fA, fB, fC]) : Calls Try.prog 39 #[.slice A 3 c, .agg #[.string ⟨#[97]⟩, .slice none 0 0]] W fun e w' => ∃ A c, e = .returned (.tuple #[.slice A 2 c, .int .i64 0]) ∧ Row w' A 2 c [fB, fC] ∧ Go.RowKit.Below W.heap.size W w' := by
  refine (sets_Drop.calls A c [fA, fB, fC] ⟨#[97]⟩ none 0 [] _ _ W h.2 h.1 (C_none W) (Nat.le_refl 0) vDrop).mono ?_
  rintro e w' ⟨v, rfl, hS, hb⟩
  obtain ⟨A, c, rfl, hR⟩ := Row.of hS
  exact ⟨A, c, rfl, hR, hb⟩
theorem cHas1 (W : World) (A : Option Addr) (c : Nat) (h : Row W A 3 c [fA, fB, fC]) : Calls Try.prog 33 #[.slice A 3 c, .agg #[.string ⟨#[99]⟩, .slice none 0 0]] W fun e w' => e = .returned (.bool true) ∧ Go.RowKit.Below W.heap.size W w' :=
  sets_Has.calls A c [fA, fB, fC] ⟨#[99]⟩ none 0 [] _ W h.2 h.1 (C_none W) (Nat.le_refl 0) vHas1
theorem cHas2 (W : World) (A : Option Addr) (c : Nat) (h : Row W A 2 c [fB, fC]) : Calls Try.prog 33 #[.slice A 2 c, .agg #[.string ⟨#[97]⟩, .slice none 0 0]] W fun e w' => e = .returned (.bool false) ∧ Go.RowKit.Below W.heap.size W w' :=
  sets_Has.calls A c [fB, fC] ⟨#[97]⟩ none 0 [] _ W h.2 h.1 (C_none W) (Nat.le_refl 0) vHas2
theorem cChk (W : World) : Calls Try.prog 35 #[.slice (some ⟨W.heap.size, 0, none⟩) 2 2] (W.alloc (.cells #[.string ⟨#[98]⟩, .slice none 0 0, .string ⟨#[97]⟩, .slice none 0 0] 53)) fun e w' => e = .returned (.int .i64 1) ∧ Go.RowKit.Below W.heap.size W w' := by
  refine (sets_Check.calls 9 (some ⟨W.heap.size, 0, none⟩) 2 [fB, fA] _ _ (named2 W _ _) (Nat.le_refl 2) vChk).mono ?_
  rintro e w' ⟨rfl, hb⟩
  exact ⟨rfl, ((Go.RowKit.Below.refl _ W).alloc (Nat.le_refl _) _).trans (hb.mono (by simp))⟩
end Go.Proofs.Ytghommaokdhjmaa.SetsW
namespace Go.Proofs.Ytghommaokdhjmaa.P
open Go.Shelf Go.RowKit Go.Lib Go.Sort Go.Proofs.SymP Go.Proofs.YtghommaokdhjmaaW.PrintWords Go.Proofs.Ytghommaokdhjmaa.SetsW
def constablelaw04_wakes.f : Option (Bool) := some true
set_option maxHeartbeats 4000000 in
set_option maxRecDepth 1000000 in
theorem constablelaw04_wakes.calls (r : Bool) (w : World) (h : constablelaw04_wakes.f = some r) :
    Calls Try.prog 31 #[] w fun e w' => e = .returned (.bool r) ∧ Go.RowKit.Below w.heap.size w w' := by
  obtain rfl := Option.some.inj h
  clear h
  have hu := Try.underlying53
  have hn : ((rd_T53 [fA, fB] 0).f0.toList == [97]) = true := by kernel_rfl
  have GO := Aside0.mk cOf
  have GP := Aside0.mk cPut
  have GD := Aside0.mk cDrop
  have G1 := Aside0.mk cHas1
  have G2 := Aside0.mk cHas2
  have GC := Aside0.mk cChk
  go_enter Try.func31, Try.ntmps31
  go_wp2_with (first
    | (go_at_call 30; with_reducible refine (GO.out _).mono ?_; rintro e w1 ⟨A1, c1, rfl, h1, hb1⟩; obtain ⟨ad, A0, c0, rfl, hx, _⟩ := at_T53 h1.C 0 (by omega) (by omega); rw [show ((0 : Int)).toNat * 2 = 0 from rfl, Addr.add_zero'] at hx; have H1 := Aside0.mk h1; have HB1 := Aside0.mk hb1; clear h1 hb1)
    | (go_at_call 32; with_reducible refine (GP.out _ _ _ H1.out).mono ?_; rintro e w2 ⟨A2, c2, rfl, h2, hb2⟩; have H2 := Aside0.mk h2; have HB2 := Aside0.mk (HB1.out.trans (hb2.mono HB1.out.size)); replace hx := (hb2.cell (World.block_lt_of_cell? w1 _ hx)).trans hx; clear h2 hb2)
    | (go_at_call 39; with_reducible refine (GD.out _ _ _ H2.out).mono ?_; rintro e w3 ⟨A3, c3, rfl, h3, hb3⟩; have H3 := Aside0.mk h3; have HB3 := Aside0.mk (HB2.out.trans (hb3.mono HB2.out.size)); have H2' := Aside0.mk (H2.out.below hb3); replace hx := (hb3.cell (World.block_lt_of_cell? w2 _ hx)).trans hx; clear h3 hb3)
    | (go_at_call 33; first
      | (with_reducible refine (G1.out _ _ _ H2'.out).mono ?_; rintro e w4 ⟨rfl, hb4⟩; have HB4 := Aside0.mk (HB3.out.trans (hb4.mono HB3.out.size)); have H3' := Aside0.mk (H3.out.below hb4); clear hb4)
      | (with_reducible refine (G2.out _ _ _ H3'.out).mono ?_; rintro e w5 ⟨rfl, hb5⟩; have HB5 := Aside0.mk (HB4.out.trans (hb5.mono HB4.out.size)); clear hb5))
    | (go_at_call 35; with_reducible refine (GC.out _).mono ?_; rintro e w6 ⟨rfl, hb6⟩; have HB6 := Aside0.mk (HB5.out.trans (hb6.mono HB5.out.size)); clear hb6))
  go_ret
  exact ⟨rfl, HB6.out⟩
end Go.Proofs.Ytghommaokdhjmaa.P
