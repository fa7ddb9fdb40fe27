/- The row of SatSince, and what it rests on; no condition. -/
import Derived.Test.YtghommaokdhjmaaGreatSZD1
import Derived.ChangeSame
import Derived.ChangeArms
import Derived.Test.YtghommaokdhjmaaGreatRows
import Derived.WalkKit
import Derived.ProofKit
import Derived.OpenShut
import Derived.ShutString
import Derived.ChangeOld
import Derived.Below
import Derived.SizedLaws
set_option linter.unusedVariables false
set_option linter.unusedSimpArgs false
/- What the four laws' walks share: the contracts over rows that are read, the place, the answers. -/
namespace Go.Proofs.YtghommaokdhjmaaGreat.Sat
open Go.RowKit Go.Lib Go.Sort Go.Proofs.SymP Go.Proofs.YtghommaokdhjmaaGreatW.PrintWords P FactC IRow Frm SpecM SpecB PSat PSpec CmpF BothB SortStr Str
section
variable {W : World} {A B T D : Option Addr} {n n2 c c2 tn tc bn bc : Nat} {l m : List S62} {t : List S58} {b : List S66}
theorem cHeavyN {v : Bool} (h : NRow W A n c l) (hv : Ev (fun k => constablelaw12_Heavy.f k l) v) : Calls Tryz.prog 9 #[.slice A n c] W fun e w' => e = .returned (.bool v) ∧ Go.RowKit.Below W.heap.size W w' := by
 obtain rfl := h.len
 obtain ⟨k, hk⟩ := hv.rounds
 exact constablelaw12_Heavy.calls k A c l _ W h.C h.cap hk
theorem cLong {v : Bool} (h : TRow W T tn tc t) (hv : Ev (fun k => constablelaw25_Long.f k t) v) : Calls Tryz.prog 11 #[.slice T tn tc] W fun e w' => e = .returned (.bool v) ∧ Go.RowKit.Below W.heap.size W w' := by
 obtain rfl := h.len
 obtain ⟨k, hk⟩ := hv.rounds
 exact constablelaw25_Long.calls k T tc t _ W h.C h.cap hk
theorem cHeavyB {v : Bool} (h : BRow W B bn bc b) (hv : heavyP b = v) : Calls Tryz.prog 12 #[.slice B bn bc] W fun e w' => e = .returned (.bool v) ∧ Go.RowKit.Below W.heap.size W w' := by
 obtain rfl := h.len
 subst hv
 obtain ⟨k, hk⟩ := (ev_heavy b).rounds
 exact (constablelaw05_Heavy.calls k B bc b _ W h.C h.cap hk).mono fun e w' h => ⟨h.1, h.2.below⟩
theorem cHolds {p : Nat} {x : Bool} {e0 : Int} (hl : NRow W A n c l) (ht : TRow W T tn tc t) (hb : BRow W B bn bc b) (hf : fitNs l) (hfb : fitB b = true) (hft : ∀ y ∈ t, fitF y) (htn : tn ≤ 1000000) (hbn : bn ≤ 1000000) (hx : holdsV l t (p : Int) b = x) (he : holdsE l t (p : Int) b = e0) :
  Calls Tryz.prog 14 #[.slice A n c, .slice T tn tc, .int .i64 (p : Int), .slice B bn bc] W fun e w' => e = .returned (.tuple #[.bool x, .int .i64 e0]) ∧ Go.RowKit.Below W.heap.size W w' := by
 subst hx he
 exact Holds_calls hl ht hb hf hfb hft htn hbn
end
/-- A place behind another one: the error is the same. -/
theorem holdsE_same {l : List S62} {t : List S58} {b : List S66} {p q : Nat} (hp : p < t.length) (hq : q < t.length) : holdsE l t (p : Int) b = holdsE l t (q : Int) b := by
 unfold holdsE
 rw [if_neg (show ¬ ((p : Int) < 0 ∨ (t.length : Int) ≤ (p : Int)) by omega), if_neg (show ¬ ((q : Int) < 0 ∨ (t.length : Int) ≤ (q : Int)) by omega)]
theorem holdsV_err {l : List S62} {t : List S58} {b : List S66} {i : Int} (h : holdsE l t i b ≠ 0) : holdsV l t i b = false := by unfold holdsV; rw [if_neg h]
theorem holdsV_ok {l : List S62} {t : List S58} {b : List S66} {p : Nat} (h : holdsE l t (p : Int) b = 0) : holdsV l t (p : Int) b = semP (evP t b) l p := by unfold holdsV; rw [if_pos h]; rfl
theorem holdsE_chk {l : List S62} {t : List S58} {b : List S66} {i : Int} (h : holdsE l t i b = 0) : chkN l = 0 := by
 unfold holdsE at h
 by_cases hc : chkN l = 0
 ·exact hc
 ·rw [if_pos hc] at h; exact absurd h hc
theorem place (i : Int) (tn : Nat) (h : 0 < tn) (h2 : tn ≤ 14) : ∃ p : Nat, wrap64 ((IntKind.u64.wrap i).tmod ↑tn) = ↑p ∧ p < tn := by
 have h0 : 0 ≤ IntKind.u64.wrap i := by unfold IntKind.wrap; simp [IntKind.bits, IntKind.signed]; omega
 have h3 := Int.tmod_nonneg (tn : Int) h0
 have h4 := Int.tmod_lt_of_pos (IntKind.u64.wrap i) (show (0 : Int) < tn by omega)
 generalize (IntKind.u64.wrap i).tmod ↑tn = r at *
 clear h0
 refine ⟨r.toNat, ?_, by omega⟩
 unfold wrap64
 omega
theorem fit_join {l m : List S62} (hl : fitNs l) (hm : fitNs m) (h1 : l.length ≤ 1000) (h2 : m.length ≤ 1000) (k : Int) : fitNs (joinN l m k) := by
 unfold joinN
 refine ⟨fun x hx => ?_, by simp; omega⟩
 rcases List.mem_append.1 hx with hx | hx
 ·rcases List.mem_append.1 hx with hx | hx
  ·exact hl.1 x hx
  ·obtain ⟨y, hy, rfl⟩ := List.mem_map.1 hx
   exact hm.1 y hy
 ·obtain rfl := List.mem_singleton.1 hx
  exact ⟨⟨by show ByteArray.size ⟨#[]⟩ ≤ 1000000; decide, rfl⟩, by simp⟩
end Go.Proofs.YtghommaokdhjmaaGreat.Sat
/- SatSince, walked by hand: whatever the input, it answers true. -/
namespace Go.Proofs.YtghommaokdhjmaaGreat.Sat
open Go.RowKit Go.Lib Go.Sort Go.Proofs.SymP Go.Proofs.YtghommaokdhjmaaGreatW.PrintWords P FactC IRow Frm SpecM SpecB PSat PSpec CmpF BothB SortStr Str
set_option maxHeartbeats 8000000 in
set_option maxRecDepth 1000000 in
theorem since_calls {w : World} {A D T B : Option Addr} {n n2 c c2 tn tc bn bc : Nat} {l m : List S62} {t : List S58} {b : List S66} (i : Int) (hl : NRow w A n c l) (hm : NRow w D n2 c2 m) (ht : TRow w T tn tc t) (hb : BRow w B bn bc b) :
    Calls Tryz.prog 5 #[.slice A n c, .slice D n2 c2, .slice T tn tc, .int .i64 i, .slice B bn bc] w fun e w' => e = .returned (.bool true) ∧ Go.RowKit.Below w.heap.size w w' := by
  obtain ⟨g1, e1, k1⟩ := ev_heavyN l
  obtain ⟨g0, e0, k0⟩ := ev_heavyN m
  obtain ⟨g2, e2, k2⟩ := ev_long t
  have G1 : Aside0 (∀ W, Go.RowKit.Below w.heap.size w W → Calls Tryz.prog 9 #[.slice A n c] W fun e w' => e = .returned (.bool g1) ∧ Go.RowKit.Below W.heap.size W w') := ⟨fun W hW => cHeavyN (hl.below hW) e1⟩
  have G0 : Aside0 (∀ W, Go.RowKit.Below w.heap.size w W → Calls Tryz.prog 9 #[.slice D n2 c2] W fun e w' => e = .returned (.bool g0) ∧ Go.RowKit.Below W.heap.size W w') := ⟨fun W hW => cHeavyN (hm.below hW) e0⟩
  have G2 : Aside0 (∀ W, Go.RowKit.Below w.heap.size w W → Calls Tryz.prog 11 #[.slice T tn tc] W fun e w' => e = .returned (.bool g2) ∧ Go.RowKit.Below W.heap.size W w') := ⟨fun W hW => cLong (ht.below hW) e2⟩
  have G3 : Aside0 (∀ W, Go.RowKit.Below w.heap.size w W → Calls Tryz.prog 12 #[.slice B bn bc] W fun e w' => e = .returned (.bool (heavyP b)) ∧ Go.RowKit.Below W.heap.size W w') := ⟨fun W hW => cHeavyB (hb.below hW) rfl⟩
  have htl := ht.len
  have hnl := hl.len
  have hml := hm.len
  have hbl := hb.len
  clear e1 e2 e0
  have HB := Aside0.mk (Go.RowKit.Below.refl w.heap.size w)
  by_cases hg : g1 = false ∧ g0 = false ∧ g2 = false ∧ heavyP b = false ∧ tn ≠ 0 ∧ tn ≤ 14
  · obtain ⟨rfl, rfl, rfl, h3, h4, h5⟩ := hg
    rw [h3] at G3
    have HB0 := heavyB_fit h3
    have HL0 := k1 rfl
    have HM0 := k0 rfl
    have HT0 := k2 rfl (by omega)
    have d4 : ((tn : Int) == 0) = false := by simp; omega
    have d4' : (tn == 0) = false := by simp; omega
    have d5 : decide (14 < (tn : Int)) = false := decide_eq_false (by omega)
    have d5' : ¬ 14 < tn := by omega
    clear k1 k2 k0 h3
    have hR := Aside0.mk (And.intro hl (And.intro hm (And.intro ht hb)))
    clear hl hm ht hb
    go_enter Tryz.func5, Tryz.ntmps5
    go_upto_region 4 with (first
          | (go_at_call 9; with_reducible refine (G1.out _ HB.out).mono ?_; rintro e w1 ⟨rfl, hb⟩; replace HB := Aside0.mk (HB.out.trans (hb.mono HB.out.size)); clear hb)
          | (go_at_call 9; with_reducible refine (G0.out _ HB.out).mono ?_; rintro e w0 ⟨rfl, hb⟩; replace HB := Aside0.mk (HB.out.trans (hb.mono HB.out.size)); clear hb)
          | (go_at_call 11; with_reducible refine (G2.out _ HB.out).mono ?_; rintro e w2 ⟨rfl, hb⟩; replace HB := Aside0.mk (HB.out.trans (hb.mono HB.out.size)); clear hb)
          | (go_at_call 12; with_reducible refine (G3.out _ HB.out).mono ?_; rintro e w3 ⟨rfl, hb⟩; replace HB := Aside0.mk (HB.out.trans (hb.mono HB.out.size)); clear hb)
          | fail)
    obtain ⟨p, hp, hpt⟩ := place i tn (by omega) h5
    rw [hp]
    clear hp
    have fl := fit_small HL0
    have fm := fit_small HM0
    have hft : ∀ y ∈ t, fitF y := fun y hy => fitF_small (HT0 y hy)
    have CT : Aside0 (∀ W k, Go.RowKit.Below w.heap.size w W → Calls Tryz.prog 27 #[.slice A n c, .slice D n2 c2, .int .i64 k] W fun e w' => ∃ A' c', e = .returned (.slice A' (n + n2 + 1) c') ∧ NRow w' A' (n + n2 + 1) c' (joinN l m k) ∧ Go.RowKit.Below W.heap.size W w') := ⟨fun W k hW => join_calls (hR.out.1.below hW) (hR.out.2.1.below hW) fl (by omega) (by omega) k⟩
    obtain ⟨E, hE⟩ : ∃ E : Int → Int, E = fun k => holdsE (joinN l m k) t (p : Int) b := ⟨_, rfl⟩
    obtain ⟨V, hV⟩ : ∃ V : Int → Bool, V = fun k => holdsV (joinN l m k) t (p : Int) b := ⟨_, rfl⟩
    obtain ⟨E0, hE0⟩ : ∃ E0, E0 = holdsE l t (p : Int) b := ⟨_, rfl⟩
    obtain ⟨V0, hV0⟩ : ∃ V0, V0 = holdsV l t (p : Int) b := ⟨_, rfl⟩
    obtain ⟨E1, hE1⟩ : ∃ E1, E1 = holdsE m t (p : Int) b := ⟨_, rfl⟩
    obtain ⟨V1, hV1⟩ : ∃ V1, V1 = holdsV m t (p : Int) b := ⟨_, rfl⟩
    have CL : Aside0 (∀ W, Go.RowKit.Below w.heap.size w W → Calls Tryz.prog 14 #[.slice A n c, .slice T tn tc, .int .i64 (p : Int), .slice B bn bc] W fun e w' => e = .returned (.tuple #[.bool V0, .int .i64 E0]) ∧ Go.RowKit.Below W.heap.size W w') := ⟨fun W hW => cHolds (hR.out.1.below hW) (hR.out.2.2.1.below hW) (hR.out.2.2.2.below hW) fl HB0.2 hft (by omega) (by omega) hV0.symm hE0.symm⟩
    have CM : Aside0 (∀ W, Go.RowKit.Below w.heap.size w W → Calls Tryz.prog 14 #[.slice D n2 c2, .slice T tn tc, .int .i64 (p : Int), .slice B bn bc] W fun e w' => e = .returned (.tuple #[.bool V1, .int .i64 E1]) ∧ Go.RowKit.Below W.heap.size W w') := ⟨fun W hW => cHolds (hR.out.2.1.below hW) (hR.out.2.2.1.below hW) (hR.out.2.2.2.below hW) fm HB0.2 hft (by omega) (by omega) hV1.symm hE1.symm⟩
    have CK : Aside0 (∀ W k A' c', Go.RowKit.Below w.heap.size w W → NRow W A' (n + n2 + 1) c' (joinN l m k) → Calls Tryz.prog 14 #[.slice A' (n + n2 + 1) c', .slice T tn tc, .int .i64 (p : Int), .slice B bn bc] W fun e w' => e = .returned (.tuple #[.bool (V k), .int .i64 (E k)]) ∧ Go.RowKit.Below W.heap.size W w') := ⟨fun W k A' c' hW hN => cHolds hN (hR.out.2.2.1.below hW) (hR.out.2.2.2.below hW) (fit_join fl fm (by omega) (by omega) k) HB0.2 hft (by omega) (by omega) (by rw [hV]) (by rw [hE])⟩
    by_cases a0 : E0 = 0
    · by_cases a1 : E1 = 0
      · by_cases a8 : E 8 = 0
        · by_cases a3 : E 3 = 0
          · by_cases a4 : E 4 = 0
            · have cl := chk_inL (holdsE_chk (hE0.symm.trans a0))
              have cm := chk_inL (holdsE_chk (hE1.symm.trans a1))
              have ok : ∀ k, E k = 0 → V k = semP (evP t b) (joinN l m k) p := fun k hk => by rw [hV]; exact holdsV_ok (by rw [hE] at hk; exact hk)
              have x0 : V0 = semP (evP t b) l p := by rw [hV0]; exact holdsV_ok (by rw [← hE0]; exact a0)
              have x1 : V1 = semP (evP t b) m p := by rw [hV1]; exact holdsV_ok (by rw [← hE1]; exact a1)
              have x8 := ok 8 a8
              have x3 := ok 3 a3
              have x4 := ok 4 a4
              rw [sem_since _ cm.1 cl.2.1 cm.2.1 (by omega) (by omega)] at x8
              rw [sem_and _ cm.1 cl.2.1 cm.2.1 (by omega) (by omega)] at x3
              rw [sem_or _ cm.1 cl.2.1 cm.2.1 (by omega) (by omega)] at x4
              have y3 : V 3 = (V0 && V1) := by rw [x3, x0, x1]
              have y4 : V 4 = (V0 || V1) := by rw [x4, x0, x1]
              by_cases hp0 : p = 0
              · have y8 : V 8 = V1 := by rw [x8, x1, hp0]; rfl
                have dp : ((p : Int) == 0) = true := by simp; omega
                have dp' : (p == 0) = true := by simp; omega
                have CK1 := Aside0.mk True.intro
                clear ok x0 x1 x8 x3 x4 cl cm hp0
                clear hE hV hE0 hV0 hE1 hV1 fl fm hft HB0 HL0 HM0 HT0
                subst a0 a1
                cases V0 <;> cases V1
                all_goals (
                  go_wp2_with (first
                        | (go_at_call 14; with_reducible refine (CL.out _ HB.out).mono ?_; rintro e w4 ⟨rfl, hb⟩; replace HB := Aside0.mk (HB.out.trans (hb.mono HB.out.size)); clear hb)
                        | (go_at_call 14; with_reducible refine (CM.out _ HB.out).mono ?_; rintro e w4 ⟨rfl, hb⟩; replace HB := Aside0.mk (HB.out.trans (hb.mono HB.out.size)); clear hb)
                        | (go_at_call 27; with_reducible refine (CT.out _ _ HB.out).mono ?_; rintro e w5 ⟨A', c', rfl, hN, hb⟩; have HNR := Aside0.mk hN; replace HB := Aside0.mk (HB.out.trans (hb.mono HB.out.size)); clear hb hN)
                        | (go_at_call 14; with_reducible refine (CK.out _ _ _ _ HB.out HNR.out).mono ?_; rintro e w6 ⟨rfl, hb⟩; clear HNR; replace HB := Aside0.mk (HB.out.trans (hb.mono HB.out.size)); clear hb)
                        | (go_at_call 14; with_reducible refine (CK1.out _ _ _ _ HB.out HNR.out).mono ?_; rintro e w9 ⟨rfl, hb⟩; clear HNR; replace HB := Aside0.mk (HB.out.trans (hb.mono HB.out.size)); clear hb)
                        | (go_at_call 24; with_reducible refine (wakes_calls _).mono ?_; rintro e w7 ⟨rfl, hb⟩; replace HB := Aside0.mk (HB.out.trans (hb.mono HB.out.size)); clear hb)
                        | fail)
                  go_ret
                  exact ⟨by first | rfl | simp, HB.out⟩)
              · obtain ⟨q, hpq⟩ : ∃ q, p = q + 1 := ⟨p - 1, by omega⟩
                obtain ⟨V9, hV9⟩ : ∃ V9 : Int → Bool, V9 = fun k => holdsV (joinN l m k) t (q : Int) b := ⟨_, rfl⟩
                have hq2 : q < t.length := by omega
                have hq3 : p < t.length := by omega
                have e8 : holdsE (joinN l m 8) t (q : Int) b = 0 := by rw [holdsE_same hq2 hq3]; rw [hE] at a8; exact a8
                have z8 : V9 8 = sinceR (semP (evP t b) l) (semP (evP t b) m) q := by rw [hV9]; show holdsV _ _ _ _ = _; rw [holdsV_ok e8, sem_since _ cm.1 cl.2.1 cm.2.1 (by omega) (by omega)]
                have y8 : V 8 = (V1 || (V9 8 && V0)) := by rw [x8, z8, x0, x1, hpq]; rfl
                have CK1 : Aside0 (∀ W k A' c', Go.RowKit.Below w.heap.size w W → NRow W A' (n + n2 + 1) c' (joinN l m k) → Calls Tryz.prog 14 #[.slice A' (n + n2 + 1) c', .slice T tn tc, .int .i64 (q : Int), .slice B bn bc] W fun e w' => e = .returned (.tuple #[.bool (V9 k), .int .i64 (E k)]) ∧ Go.RowKit.Below W.heap.size W w') := ⟨fun W k A' c' hW hN => cHolds hN (hR.out.2.2.1.below hW) (hR.out.2.2.2.below hW) (fit_join fl fm (by omega) (by omega) k) HB0.2 hft (by omega) (by omega) (by rw [hV9]) (by rw [hE]; exact holdsE_same hq2 hq3)⟩
                have dp : ((p : Int) == 0) = false := by simp; omega
                have dp' : (p == 0) = false := by simp; omega
                have kq : IntKind.i64.wrap ((p : Int) - 1) = (q : Int) := by rw [show (p : Int) - 1 = q by omega]; exact kwrap (by omega) (by omega)
                clear ok x0 x1 x8 x3 x4 z8 cl cm e8 hV9 hp0 hpq hq2 hq3
                clear hE hV hE0 hV0 hE1 hV1 fl fm hft HB0 HL0 HM0 HT0
                subst a0 a1
                generalize hw8 : V9 8 = v98 at y8
                cases V0 <;> cases V1 <;> cases v98
                all_goals (
                  go_wp2_with (first
                        | (go_at_call 14; with_reducible refine (CL.out _ HB.out).mono ?_; rintro e w4 ⟨rfl, hb⟩; replace HB := Aside0.mk (HB.out.trans (hb.mono HB.out.size)); clear hb)
                        | (go_at_call 14; with_reducible refine (CM.out _ HB.out).mono ?_; rintro e w4 ⟨rfl, hb⟩; replace HB := Aside0.mk (HB.out.trans (hb.mono HB.out.size)); clear hb)
                        | (go_at_call 27; with_reducible refine (CT.out _ _ HB.out).mono ?_; rintro e w5 ⟨A', c', rfl, hN, hb⟩; have HNR := Aside0.mk hN; replace HB := Aside0.mk (HB.out.trans (hb.mono HB.out.size)); clear hb hN)
                        | (go_at_call 14; with_reducible refine (CK.out _ _ _ _ HB.out HNR.out).mono ?_; rintro e w6 ⟨rfl, hb⟩; clear HNR; replace HB := Aside0.mk (HB.out.trans (hb.mono HB.out.size)); clear hb)
                        | (go_at_call 14; with_reducible refine (CK1.out _ _ _ _ HB.out HNR.out).mono ?_; rintro e w9 ⟨rfl, hb⟩; clear HNR; replace HB := Aside0.mk (HB.out.trans (hb.mono HB.out.size)); clear hb)
                        | (go_at_call 24; with_reducible refine (wakes_calls _).mono ?_; rintro e w7 ⟨rfl, hb⟩; replace HB := Aside0.mk (HB.out.trans (hb.mono HB.out.size)); clear hb)
                        | fail)
                  go_ret
                  exact ⟨by first | rfl | simp, HB.out⟩)
            · have b4 : (E 4 != 0) = true := by simp [a4]
              clear hE hV hE0 hV0 hE1 hV1 fl fm hft HB0 HL0 HM0 HT0
              have CK1 := Aside0.mk True.intro
              subst a0 a1
              go_wp2_with (first
                    | (go_at_call 14; with_reducible refine (CL.out _ HB.out).mono ?_; rintro e w4 ⟨rfl, hb⟩; replace HB := Aside0.mk (HB.out.trans (hb.mono HB.out.size)); clear hb)
                    | (go_at_call 14; with_reducible refine (CM.out _ HB.out).mono ?_; rintro e w4 ⟨rfl, hb⟩; replace HB := Aside0.mk (HB.out.trans (hb.mono HB.out.size)); clear hb)
                    | (go_at_call 27; with_reducible refine (CT.out _ _ HB.out).mono ?_; rintro e w5 ⟨A', c', rfl, hN, hb⟩; have HNR := Aside0.mk hN; replace HB := Aside0.mk (HB.out.trans (hb.mono HB.out.size)); clear hb hN)
                    | (go_at_call 14; with_reducible refine (CK.out _ _ _ _ HB.out HNR.out).mono ?_; rintro e w6 ⟨rfl, hb⟩; clear HNR; replace HB := Aside0.mk (HB.out.trans (hb.mono HB.out.size)); clear hb)
                    | (go_at_call 14; with_reducible refine (CK1.out _ _ _ _ HB.out HNR.out).mono ?_; rintro e w9 ⟨rfl, hb⟩; clear HNR; replace HB := Aside0.mk (HB.out.trans (hb.mono HB.out.size)); clear hb)
                    | (go_at_call 24; with_reducible refine (wakes_calls _).mono ?_; rintro e w7 ⟨rfl, hb⟩; replace HB := Aside0.mk (HB.out.trans (hb.mono HB.out.size)); clear hb)
                    | fail)
              go_ret
              exact ⟨rfl, HB.out⟩
          · have b3 : (E 3 != 0) = true := by simp [a3]
            clear hE hV hE0 hV0 hE1 hV1 fl fm hft HB0 HL0 HM0 HT0
            have CK1 := Aside0.mk True.intro
            subst a0 a1
            go_wp2_with (first
                  | (go_at_call 14; with_reducible refine (CL.out _ HB.out).mono ?_; rintro e w4 ⟨rfl, hb⟩; replace HB := Aside0.mk (HB.out.trans (hb.mono HB.out.size)); clear hb)
                  | (go_at_call 14; with_reducible refine (CM.out _ HB.out).mono ?_; rintro e w4 ⟨rfl, hb⟩; replace HB := Aside0.mk (HB.out.trans (hb.mono HB.out.size)); clear hb)
                  | (go_at_call 27; with_reducible refine (CT.out _ _ HB.out).mono ?_; rintro e w5 ⟨A', c', rfl, hN, hb⟩; have HNR := Aside0.mk hN; replace HB := Aside0.mk (HB.out.trans (hb.mono HB.out.size)); clear hb hN)
                  | (go_at_call 14; with_reducible refine (CK.out _ _ _ _ HB.out HNR.out).mono ?_; rintro e w6 ⟨rfl, hb⟩; clear HNR; replace HB := Aside0.mk (HB.out.trans (hb.mono HB.out.size)); clear hb)
                  | (go_at_call 14; with_reducible refine (CK1.out _ _ _ _ HB.out HNR.out).mono ?_; rintro e w9 ⟨rfl, hb⟩; clear HNR; replace HB := Aside0.mk (HB.out.trans (hb.mono HB.out.size)); clear hb)
                  | (go_at_call 24; with_reducible refine (wakes_calls _).mono ?_; rintro e w7 ⟨rfl, hb⟩; replace HB := Aside0.mk (HB.out.trans (hb.mono HB.out.size)); clear hb)
                  | fail)
            go_ret
            exact ⟨rfl, HB.out⟩
        · have b8 : (E 8 != 0) = true := by simp [a8]
          clear hE hV hE0 hV0 hE1 hV1 fl fm hft HB0 HL0 HM0 HT0
          have CK1 := Aside0.mk True.intro
          subst a0 a1
          go_wp2_with (first
                | (go_at_call 14; with_reducible refine (CL.out _ HB.out).mono ?_; rintro e w4 ⟨rfl, hb⟩; replace HB := Aside0.mk (HB.out.trans (hb.mono HB.out.size)); clear hb)
                | (go_at_call 14; with_reducible refine (CM.out _ HB.out).mono ?_; rintro e w4 ⟨rfl, hb⟩; replace HB := Aside0.mk (HB.out.trans (hb.mono HB.out.size)); clear hb)
                | (go_at_call 27; with_reducible refine (CT.out _ _ HB.out).mono ?_; rintro e w5 ⟨A', c', rfl, hN, hb⟩; have HNR := Aside0.mk hN; replace HB := Aside0.mk (HB.out.trans (hb.mono HB.out.size)); clear hb hN)
                | (go_at_call 14; with_reducible refine (CK.out _ _ _ _ HB.out HNR.out).mono ?_; rintro e w6 ⟨rfl, hb⟩; clear HNR; replace HB := Aside0.mk (HB.out.trans (hb.mono HB.out.size)); clear hb)
                | (go_at_call 14; with_reducible refine (CK1.out _ _ _ _ HB.out HNR.out).mono ?_; rintro e w9 ⟨rfl, hb⟩; clear HNR; replace HB := Aside0.mk (HB.out.trans (hb.mono HB.out.size)); clear hb)
                | (go_at_call 24; with_reducible refine (wakes_calls _).mono ?_; rintro e w7 ⟨rfl, hb⟩; replace HB := Aside0.mk (HB.out.trans (hb.mono HB.out.size)); clear hb)
                | fail)
          go_ret
          exact ⟨rfl, HB.out⟩
      · have b1 : (E1 != 0) = true := by simp [a1]
        clear hE hV hE0 hV0 hE1 hV1 fl fm hft HB0 HL0 HM0 HT0
        have CK1 := Aside0.mk True.intro
        subst a0
        go_wp2_with (first
              | (go_at_call 14; with_reducible refine (CL.out _ HB.out).mono ?_; rintro e w4 ⟨rfl, hb⟩; replace HB := Aside0.mk (HB.out.trans (hb.mono HB.out.size)); clear hb)
              | (go_at_call 14; with_reducible refine (CM.out _ HB.out).mono ?_; rintro e w4 ⟨rfl, hb⟩; replace HB := Aside0.mk (HB.out.trans (hb.mono HB.out.size)); clear hb)
              | (go_at_call 27; with_reducible refine (CT.out _ _ HB.out).mono ?_; rintro e w5 ⟨A', c', rfl, hN, hb⟩; have HNR := Aside0.mk hN; replace HB := Aside0.mk (HB.out.trans (hb.mono HB.out.size)); clear hb hN)
              | (go_at_call 14; with_reducible refine (CK.out _ _ _ _ HB.out HNR.out).mono ?_; rintro e w6 ⟨rfl, hb⟩; clear HNR; replace HB := Aside0.mk (HB.out.trans (hb.mono HB.out.size)); clear hb)
              | (go_at_call 14; with_reducible refine (CK1.out _ _ _ _ HB.out HNR.out).mono ?_; rintro e w9 ⟨rfl, hb⟩; clear HNR; replace HB := Aside0.mk (HB.out.trans (hb.mono HB.out.size)); clear hb)
              | (go_at_call 24; with_reducible refine (wakes_calls _).mono ?_; rintro e w7 ⟨rfl, hb⟩; replace HB := Aside0.mk (HB.out.trans (hb.mono HB.out.size)); clear hb)
              | fail)
        go_ret
        exact ⟨rfl, HB.out⟩
    · have b0 : (E0 != 0) = true := by simp [a0]
      clear hE hV hE0 hV0 hE1 hV1 fl fm hft HB0 HL0 HM0 HT0
      have CK1 := Aside0.mk True.intro
      go_wp2_with (first
            | (go_at_call 14; with_reducible refine (CL.out _ HB.out).mono ?_; rintro e w4 ⟨rfl, hb⟩; replace HB := Aside0.mk (HB.out.trans (hb.mono HB.out.size)); clear hb)
            | (go_at_call 14; with_reducible refine (CM.out _ HB.out).mono ?_; rintro e w4 ⟨rfl, hb⟩; replace HB := Aside0.mk (HB.out.trans (hb.mono HB.out.size)); clear hb)
            | (go_at_call 27; with_reducible refine (CT.out _ _ HB.out).mono ?_; rintro e w5 ⟨A', c', rfl, hN, hb⟩; have HNR := Aside0.mk hN; replace HB := Aside0.mk (HB.out.trans (hb.mono HB.out.size)); clear hb hN)
            | (go_at_call 14; with_reducible refine (CK.out _ _ _ _ HB.out HNR.out).mono ?_; rintro e w6 ⟨rfl, hb⟩; clear HNR; replace HB := Aside0.mk (HB.out.trans (hb.mono HB.out.size)); clear hb)
            | (go_at_call 14; with_reducible refine (CK1.out _ _ _ _ HB.out HNR.out).mono ?_; rintro e w9 ⟨rfl, hb⟩; clear HNR; replace HB := Aside0.mk (HB.out.trans (hb.mono HB.out.size)); clear hb)
            | (go_at_call 24; with_reducible refine (wakes_calls _).mono ?_; rintro e w7 ⟨rfl, hb⟩; replace HB := Aside0.mk (HB.out.trans (hb.mono HB.out.size)); clear hb)
            | fail)
      go_ret
      exact ⟨rfl, HB.out⟩
  · have HG := Aside0.mk hg
    clear k1 k2 k0 hl hm ht hb hg
    cases g1 with
    | true =>
      go_enter Tryz.func5, Tryz.ntmps5
      go_wp2_with (first
                | (go_at_call 9; with_reducible refine (G1.out _ HB.out).mono ?_; rintro e w1 ⟨rfl, hb⟩; replace HB := Aside0.mk (HB.out.trans (hb.mono HB.out.size)); clear hb)
                | (go_at_call 9; with_reducible refine (G0.out _ HB.out).mono ?_; rintro e w0 ⟨rfl, hb⟩; replace HB := Aside0.mk (HB.out.trans (hb.mono HB.out.size)); clear hb)
                | (go_at_call 11; with_reducible refine (G2.out _ HB.out).mono ?_; rintro e w2 ⟨rfl, hb⟩; replace HB := Aside0.mk (HB.out.trans (hb.mono HB.out.size)); clear hb)
                | (go_at_call 12; with_reducible refine (G3.out _ HB.out).mono ?_; rintro e w3 ⟨rfl, hb⟩; replace HB := Aside0.mk (HB.out.trans (hb.mono HB.out.size)); clear hb)
                | fail)
      go_ret
      exact ⟨rfl, HB.out⟩
    | false =>
      cases g0 with
      | true =>
        go_enter Tryz.func5, Tryz.ntmps5
        go_wp2_with (first
                  | (go_at_call 9; with_reducible refine (G1.out _ HB.out).mono ?_; rintro e w1 ⟨rfl, hb⟩; replace HB := Aside0.mk (HB.out.trans (hb.mono HB.out.size)); clear hb)
                  | (go_at_call 9; with_reducible refine (G0.out _ HB.out).mono ?_; rintro e w0 ⟨rfl, hb⟩; replace HB := Aside0.mk (HB.out.trans (hb.mono HB.out.size)); clear hb)
                  | (go_at_call 11; with_reducible refine (G2.out _ HB.out).mono ?_; rintro e w2 ⟨rfl, hb⟩; replace HB := Aside0.mk (HB.out.trans (hb.mono HB.out.size)); clear hb)
                  | (go_at_call 12; with_reducible refine (G3.out _ HB.out).mono ?_; rintro e w3 ⟨rfl, hb⟩; replace HB := Aside0.mk (HB.out.trans (hb.mono HB.out.size)); clear hb)
                  | fail)
        go_ret
        exact ⟨rfl, HB.out⟩
      | false =>
       cases g2 with
       | true =>
        go_enter Tryz.func5, Tryz.ntmps5
        go_wp2_with (first
                  | (go_at_call 9; with_reducible refine (G1.out _ HB.out).mono ?_; rintro e w1 ⟨rfl, hb⟩; replace HB := Aside0.mk (HB.out.trans (hb.mono HB.out.size)); clear hb)
                  | (go_at_call 9; with_reducible refine (G0.out _ HB.out).mono ?_; rintro e w0 ⟨rfl, hb⟩; replace HB := Aside0.mk (HB.out.trans (hb.mono HB.out.size)); clear hb)
                  | (go_at_call 11; with_reducible refine (G2.out _ HB.out).mono ?_; rintro e w2 ⟨rfl, hb⟩; replace HB := Aside0.mk (HB.out.trans (hb.mono HB.out.size)); clear hb)
                  | (go_at_call 12; with_reducible refine (G3.out _ HB.out).mono ?_; rintro e w3 ⟨rfl, hb⟩; replace HB := Aside0.mk (HB.out.trans (hb.mono HB.out.size)); clear hb)
                  | fail)
        go_ret
        exact ⟨rfl, HB.out⟩
       | false =>
        generalize hq : heavyP b = q at G3 HG
        clear hq
        cases q with
        | true =>
          go_enter Tryz.func5, Tryz.ntmps5
          go_wp2_with (first
                    | (go_at_call 9; with_reducible refine (G1.out _ HB.out).mono ?_; rintro e w1 ⟨rfl, hb⟩; replace HB := Aside0.mk (HB.out.trans (hb.mono HB.out.size)); clear hb)
                    | (go_at_call 9; with_reducible refine (G0.out _ HB.out).mono ?_; rintro e w0 ⟨rfl, hb⟩; replace HB := Aside0.mk (HB.out.trans (hb.mono HB.out.size)); clear hb)
                    | (go_at_call 11; with_reducible refine (G2.out _ HB.out).mono ?_; rintro e w2 ⟨rfl, hb⟩; replace HB := Aside0.mk (HB.out.trans (hb.mono HB.out.size)); clear hb)
                    | (go_at_call 12; with_reducible refine (G3.out _ HB.out).mono ?_; rintro e w3 ⟨rfl, hb⟩; replace HB := Aside0.mk (HB.out.trans (hb.mono HB.out.size)); clear hb)
                    | fail)
          go_ret
          exact ⟨rfl, HB.out⟩
        | false =>
          by_cases h4 : tn = 0
          · have d4 : ((tn : Int) == 0) = true := by simp; omega
            have d4' : (tn == 0) = true := by simp; omega
            clear HG
            subst h4
            go_enter Tryz.func5, Tryz.ntmps5
            go_wp2_with (first
                      | (go_at_call 9; with_reducible refine (G1.out _ HB.out).mono ?_; rintro e w1 ⟨rfl, hb⟩; replace HB := Aside0.mk (HB.out.trans (hb.mono HB.out.size)); clear hb)
                      | (go_at_call 9; with_reducible refine (G0.out _ HB.out).mono ?_; rintro e w0 ⟨rfl, hb⟩; replace HB := Aside0.mk (HB.out.trans (hb.mono HB.out.size)); clear hb)
                      | (go_at_call 11; with_reducible refine (G2.out _ HB.out).mono ?_; rintro e w2 ⟨rfl, hb⟩; replace HB := Aside0.mk (HB.out.trans (hb.mono HB.out.size)); clear hb)
                      | (go_at_call 12; with_reducible refine (G3.out _ HB.out).mono ?_; rintro e w3 ⟨rfl, hb⟩; replace HB := Aside0.mk (HB.out.trans (hb.mono HB.out.size)); clear hb)
                      | fail)
            go_ret
            exact ⟨rfl, HB.out⟩
          · have h5 : 14 < tn := by
              rcases Nat.lt_or_ge 14 tn with h | h
              · exact h
              · exact absurd ⟨rfl, rfl, rfl, rfl, h4, h⟩ HG.out
            have d4 : ((tn : Int) == 0) = false := by simp; omega
            have d4' : (tn == 0) = false := by simp; omega
            have d5 : decide (14 < (tn : Int)) = true := decide_eq_true (by omega)
            clear HG
            go_enter Tryz.func5, Tryz.ntmps5
            go_wp2_with (first
                      | (go_at_call 9; with_reducible refine (G1.out _ HB.out).mono ?_; rintro e w1 ⟨rfl, hb⟩; replace HB := Aside0.mk (HB.out.trans (hb.mono HB.out.size)); clear hb)
                      | (go_at_call 9; with_reducible refine (G0.out _ HB.out).mono ?_; rintro e w0 ⟨rfl, hb⟩; replace HB := Aside0.mk (HB.out.trans (hb.mono HB.out.size)); clear hb)
                      | (go_at_call 11; with_reducible refine (G2.out _ HB.out).mono ?_; rintro e w2 ⟨rfl, hb⟩; replace HB := Aside0.mk (HB.out.trans (hb.mono HB.out.size)); clear hb)
                      | (go_at_call 12; with_reducible refine (G3.out _ HB.out).mono ?_; rintro e w3 ⟨rfl, hb⟩; replace HB := Aside0.mk (HB.out.trans (hb.mono HB.out.size)); clear hb)
                      | fail)
            go_ret
            exact ⟨rfl, HB.out⟩
end Go.Proofs.YtghommaokdhjmaaGreat.Sat
/- What an argument's reading tells of its cells: whole numbers, texts, Values, Binds, and rows of them. -/
namespace Go.Proofs.YtghommaokdhjmaaGreat.Open
open Go.RowKit Go.Proofs.YtghommaokdhjmaaGreatW.PrintWords P
variable {H : Type} {enc : TypeId × Value → H} {P : Program} {w : World} {base : Nat} {sp : Nat → Bool} {held : Bool}
theorem trod_int {t : TypeId} {k : IntKind} (ht : P.underlying t = some (.int k)) {fuel : Nat} {cs : List Value} {x : DataW H × List MemPlace} (h : DataW.trod enc P w base sp held fuel t cs = some x) : ∃ n, cs = [.int k n] ∧ (Lit.int k n).wf = true := by
 cases fuel with
 | zero => simp [DataW.trod] at h
 | succ n =>
  unfold DataW.trod at h
  rw [ht] at h
  split at h <;> simp_all
theorem trod_string {t : TypeId} (ht : P.underlying t = some .string) {fuel : Nat} {cs : List Value} {x : DataW H × List MemPlace} (h : DataW.trod enc P w base sp held fuel t cs = some x) : ∃ s, cs = [.string s] ∧ s.size ≤ maxLen := by
 cases fuel with
 | zero => simp [DataW.trod] at h
 | succ n =>
  unfold DataW.trod at h
  rw [ht] at h
  split at h <;> simp_all

/-- Readings of an element type tell a kind. -/
def Tells (H : Type) (enc : TypeId × Value → H) (P : Program) (base : Nat) (sp : Nat → Bool) (held : Bool) {α : Type} (d : Kd α) (e : TypeId) : Prop :=
 ∀ (w : World) (fuel : Nat) (cs : List Value) (x : DataW H × List MemPlace), DataW.trod enc P w base sp held fuel e cs = some x → ∃ p, d.K w p cs
theorem list_of {α : Type} {Q : Nat → α → Prop} : ∀ (n : Nat), (∀ i, i < n → ∃ p, Q i p) → ∃ l : List α, l.length = n ∧ ∀ j p, l[j]? = some p → Q j p
 | 0, _ => ⟨[], rfl, fun j p h => by simp at h⟩
 | n + 1, h => by
  obtain ⟨l, hl, hq⟩ := list_of n (fun i hi => h i (by omega))
  obtain ⟨p, hp⟩ := h n (by omega)
  refine ⟨l ++ [p], by simp [hl], fun j q hj => ?_⟩
  rcases Nat.lt_trichotomy j n with h1 | h1 | h1
  ·rw [List.getElem?_append_left (by omega)] at hj; exact hq j q hj
  ·subst h1
   rw [List.getElem?_append_right (by omega), hl, Nat.sub_self] at hj
   obtain rfl : p = q := by simpa using hj
   exact hp
  ·rw [List.getElem?_eq_none (by simp; omega)] at hj; cases hj
theorem add_add' (a : Addr) (i j : Nat) : (a.add i).add j = a.add (i + j) := by
 unfold Addr.add
 by_cases hi : i = 0 <;> by_cases hj : j = 0 <;> simp [hi, hj, Nat.add_assoc]
theorem tells_row {α : Type} {d : Kd α} {t e : TypeId} (ht : P.underlying t = some (.slice e)) (hs : P.cellsOf e = d.sz) (hd : Tells H enc P base sp held d e) {fuel : Nat} {cs : List Value} {x : DataW H × List MemPlace}
  (h : DataW.trod enc P w base sp held fuel t cs = some x) : ∃ (A : Option Addr) (c : Nat) (l : List α), cs = [.slice A l.length c] ∧ l.length ≤ c ∧ Kd.C d w A l.length l := by
 rcases DataW.trod_slice ht h with ⟨rfl, _⟩ | ⟨a, len, cap, elems, rest, n, _, rfl, _, _, hl, hcm, hlen, hel, _⟩
 ·exact ⟨none, 0, [], rfl, Nat.le_refl _, rfl, by simp, fun h => absurd h (Nat.lt_irrefl _)⟩
 ·have hex : ∀ i, i < len → ∃ (p : α), ∃ c : List Value, c.length = d.sz ∧ d.K w p c ∧ ∀ j u, c[j]? = some u → w.cell? (a.add (i * d.sz + j)) = some u := by
   intro i hi
   have h1 := hel i hi
   rw [List.getElem?_eq_getElem (by omega), Option.bind_eq_some_iff] at h1
   obtain ⟨c, hc, htr⟩ := h1
   obtain ⟨p, hp⟩ := hd w _ _ _ htr
   obtain ⟨_, hcl, hcell⟩ := World.cells?_some hc
   refine ⟨p, c, by rw [hcl, hs], hp, fun j u hj => ?_⟩
   have hj' : j < P.cellsOf e := by rw [← hcl]; exact (List.getElem?_eq_some_iff.1 hj).1
   rw [← hs, ← add_add', hcell j hj', hj]
  obtain ⟨l, hll, hq⟩ := list_of len hex
  refine ⟨some a, cap, l, by rw [hll], by omega, rfl, by unfold maxLen at hcm; omega, fun _ => ⟨a, rfl, hq⟩⟩

set_option maxRecDepth 100000 in
theorem tells64 : Tells H enc Tryz.prog base sp held k64 64 := by
 intro w fuel cs x h
 obtain ⟨xs, n, _, rfl, hl, hlen, hf⟩ := DataW.trod_struct Tryz.underlying64 h
 have hc : Tryz.prog.cellsOf 64 = 3 := by kernel_rfl
 have h9 : Tryz.prog.cellsOf 9 = 1 := by kernel_rfl
 have h3 : Tryz.prog.cellsOf 3 = 1 := by kernel_rfl
 rw [hc] at hl
 obtain ⟨a, b, c, rfl⟩ : ∃ a b c, cs = [a, b, c] := by
  match cs, hl with
  | [a, b, c], _ => exact ⟨a, b, c, rfl⟩
 obtain ⟨y0, y1, y2, rfl⟩ : ∃ y0 y1 y2, xs = [y0, y1, y2] := by
  match xs, hlen with
  | [y0, y1, y2], _ => exact ⟨y0, y1, y2, rfl⟩
 have g0 : DataW.trod enc Tryz.prog w base sp held n 3 (List.take (Tryz.prog.cellsOf 3) (List.drop 0 [a, b, c])) = some y0 := hf 0 _ rfl
 have g1 : DataW.trod enc Tryz.prog w base sp held n 3 (List.take (Tryz.prog.cellsOf 3) (List.drop 1 [a, b, c])) = some y1 := hf 1 _ rfl
 have g2 : DataW.trod enc Tryz.prog w base sp held n 9 (List.take (Tryz.prog.cellsOf 9) (List.drop 2 [a, b, c])) = some y2 := hf 2 _ rfl
 rw [h3] at g0 g1
 rw [h9] at g2
 obtain ⟨n0, e0, _⟩ := trod_int Tryz.underlying3 g0
 obtain ⟨n1, e1, _⟩ := trod_int Tryz.underlying3 g1
 obtain ⟨s2, e2, _⟩ := trod_string Tryz.underlying9 g2
 obtain rfl : a = _ := by simpa using e0
 obtain rfl : b = _ := by simpa using e1
 obtain rfl : c = _ := by simpa using e2
 exact ⟨⟨n0, n1, s2⟩, k64_mk w _⟩
set_option maxRecDepth 100000 in
theorem tells66 : Tells H enc Tryz.prog base sp held k66 66 := by
 intro w fuel cs x h
 obtain ⟨xs, n, _, rfl, hl, hlen, hf⟩ := DataW.trod_struct Tryz.underlying66 h
 have hc : Tryz.prog.cellsOf 66 = 4 := by kernel_rfl
 have h9 : Tryz.prog.cellsOf 9 = 1 := by kernel_rfl
 have h3 : Tryz.prog.cellsOf 64 = 3 := by kernel_rfl
 rw [hc] at hl
 obtain ⟨a, b, c, e, rfl⟩ : ∃ a b c e, cs = [a, b, c, e] := by
  match cs, hl with
  | [a, b, c, e], _ => exact ⟨a, b, c, e, rfl⟩
 obtain ⟨y0, y1, rfl⟩ : ∃ y0 y1, xs = [y0, y1] := by
  match xs, hlen with
  | [y0, y1], _ => exact ⟨y0, y1, rfl⟩
 have g0 : DataW.trod enc Tryz.prog w base sp held n 9 (List.take (Tryz.prog.cellsOf 9) (List.drop 0 [a, b, c, e])) = some y0 := hf 0 _ rfl
 have g1 : DataW.trod enc Tryz.prog w base sp held n 64 (List.take (Tryz.prog.cellsOf 64) (List.drop 1 [a, b, c, e])) = some y1 := hf 1 _ rfl
 rw [h9] at g0
 rw [h3] at g1
 obtain ⟨s0, e0, _⟩ := trod_string Tryz.underlying9 g0
 obtain ⟨v, hv⟩ := tells64 w _ _ _ g1
 obtain rfl : a = _ := by simpa using e0
 have hv' := k64_open hv
 simp only [List.drop_succ_cons, List.drop_zero, List.take_succ_cons, List.take_zero, List.cons.injEq, and_true] at hv'
 obtain ⟨rfl, rfl, rfl⟩ := hv'
 exact ⟨⟨s0, v⟩, k66_mk w _⟩
end Go.Proofs.YtghommaokdhjmaaGreat.Open
/- What an argument's reading tells of its cells: Terms, Facts, Atoms; no condition. -/
namespace Go.Proofs.YtghommaokdhjmaaGreat.Open
open Go.RowKit Go.Proofs.YtghommaokdhjmaaGreatW.PrintWords P
variable {H : Type} {enc : TypeId × Value → H} {P : Program} {w : World} {base : Nat} {sp : Nat → Bool} {held : Bool}
set_option maxRecDepth 100000 in
theorem tells92 : Tells H enc Tryz.prog base sp held k92 92 := by
 intro w fuel cs x h
 obtain ⟨xs, n, _, rfl, hl, hlen, hf⟩ := DataW.trod_struct Tryz.underlying92 h
 have hc : Tryz.prog.cellsOf 92 = 4 := by kernel_rfl
 have h9 : Tryz.prog.cellsOf 9 = 1 := by kernel_rfl
 have h3 : Tryz.prog.cellsOf 64 = 3 := by kernel_rfl
 rw [hc] at hl
 obtain ⟨a, b, c, e, rfl⟩ : ∃ a b c e, cs = [a, b, c, e] := by
  match cs, hl with
  | [a, b, c, e], _ => exact ⟨a, b, c, e, rfl⟩
 obtain ⟨y0, y1, rfl⟩ : ∃ y0 y1, xs = [y0, y1] := by
  match xs, hlen with
  | [y0, y1], _ => exact ⟨y0, y1, rfl⟩
 have g0 : DataW.trod enc Tryz.prog w base sp held n 9 (List.take (Tryz.prog.cellsOf 9) (List.drop 0 [a, b, c, e])) = some y0 := hf 0 _ rfl
 have g1 : DataW.trod enc Tryz.prog w base sp held n 64 (List.take (Tryz.prog.cellsOf 64) (List.drop 1 [a, b, c, e])) = some y1 := hf 1 _ rfl
 rw [h9] at g0
 rw [h3] at g1
 obtain ⟨s0, e0, _⟩ := trod_string Tryz.underlying9 g0
 obtain ⟨v, hv⟩ := tells64 w _ _ _ g1
 obtain rfl : a = _ := by simpa using e0
 have hv' := k64_open hv
 simp only [List.drop_succ_cons, List.drop_zero, List.take_succ_cons, List.take_zero, List.cons.injEq, and_true] at hv'
 obtain ⟨rfl, rfl, rfl⟩ := hv'
 exact ⟨⟨s0, v⟩, k92_mk w _⟩
set_option maxRecDepth 100000 in
theorem tells58 : Tells H enc Tryz.prog base sp held k58 58 := by
 intro w fuel cs x h
 obtain ⟨xs, n, _, rfl, hl, hlen, hf⟩ := DataW.trod_struct Tryz.underlying58 h
 have hc : Tryz.prog.cellsOf 58 = 2 := by kernel_rfl
 have h9 : Tryz.prog.cellsOf 9 = 1 := by kernel_rfl
 have h3 : Tryz.prog.cellsOf 56 = 1 := by kernel_rfl
 rw [hc] at hl
 obtain ⟨a, b, rfl⟩ : ∃ a b, cs = [a, b] := by
  match cs, hl with
  | [a, b], _ => exact ⟨a, b, rfl⟩
 obtain ⟨y0, y1, rfl⟩ : ∃ y0 y1, xs = [y0, y1] := by
  match xs, hlen with
  | [y0, y1], _ => exact ⟨y0, y1, rfl⟩
 have g0 : DataW.trod enc Tryz.prog w base sp held n 9 (List.take (Tryz.prog.cellsOf 9) (List.drop 0 [a, b])) = some y0 := hf 0 _ rfl
 have g1 : DataW.trod enc Tryz.prog w base sp held n 56 (List.take (Tryz.prog.cellsOf 56) (List.drop 1 [a, b])) = some y1 := hf 1 _ rfl
 rw [h9] at g0
 rw [h3] at g1
 obtain ⟨s0, e0, _⟩ := trod_string Tryz.underlying9 g0
 obtain ⟨A, c, l, hcs, hlc, hC⟩ := tells_row Tryz.underlying56 (by kernel_rfl) tells64 g1
 obtain rfl : a = _ := by simpa using e0
 obtain rfl : b = _ := by simpa using hcs
 exact ⟨⟨s0, l⟩, k58_mk w ⟨s0, l⟩ hlc hC⟩
set_option maxRecDepth 100000 in
theorem tells25 : Tells H enc Tryz.prog base sp held k25 25 := by
 intro w fuel cs x h
 obtain ⟨xs, n, _, rfl, hl, hlen, hf⟩ := DataW.trod_struct Tryz.underlying25 h
 have hc : Tryz.prog.cellsOf 25 = 2 := by kernel_rfl
 have h9 : Tryz.prog.cellsOf 9 = 1 := by kernel_rfl
 have h3 : Tryz.prog.cellsOf 23 = 1 := by kernel_rfl
 rw [hc] at hl
 obtain ⟨a, b, rfl⟩ : ∃ a b, cs = [a, b] := by
  match cs, hl with
  | [a, b], _ => exact ⟨a, b, rfl⟩
 obtain ⟨y0, y1, rfl⟩ : ∃ y0 y1, xs = [y0, y1] := by
  match xs, hlen with
  | [y0, y1], _ => exact ⟨y0, y1, rfl⟩
 have g0 : DataW.trod enc Tryz.prog w base sp held n 9 (List.take (Tryz.prog.cellsOf 9) (List.drop 0 [a, b])) = some y0 := hf 0 _ rfl
 have g1 : DataW.trod enc Tryz.prog w base sp held n 23 (List.take (Tryz.prog.cellsOf 23) (List.drop 1 [a, b])) = some y1 := hf 1 _ rfl
 rw [h9] at g0
 rw [h3] at g1
 obtain ⟨s0, e0, _⟩ := trod_string Tryz.underlying9 g0
 obtain ⟨A, c, l, hcs, hlc, hC⟩ := tells_row Tryz.underlying23 (by kernel_rfl) tells92 g1
 obtain rfl : a = _ := by simpa using e0
 obtain rfl : b = _ := by simpa using hcs
 exact ⟨⟨s0, l⟩, k25_mk w ⟨s0, l⟩ hlc hC⟩
end Go.Proofs.YtghommaokdhjmaaGreat.Open
/- What an argument's reading tells of its cells: formulas' nodes; no condition. -/
namespace Go.Proofs.YtghommaokdhjmaaGreat.Open
open Go.RowKit Go.Proofs.YtghommaokdhjmaaGreatW.PrintWords P
variable {H : Type} {enc : TypeId × Value → H} {P : Program} {w : World} {base : Nat} {sp : Nat → Bool} {held : Bool}
set_option maxRecDepth 100000 in
theorem tells62 : Tells H enc Tryz.prog base sp held k62 62 := by
 intro w fuel cs x h
 obtain ⟨xs, n, _, rfl, hl, hlen, hf⟩ := DataW.trod_struct Tryz.underlying62 h
 have hc : Tryz.prog.cellsOf 62 = 5 := by kernel_rfl
 have h9 : Tryz.prog.cellsOf 25 = 2 := by kernel_rfl
 have h3 : Tryz.prog.cellsOf 3 = 1 := by kernel_rfl
 rw [hc] at hl
 obtain ⟨a, b, c, e, f, rfl⟩ : ∃ a b c e f, cs = [a, b, c, e, f] := by
  match cs, hl with
  | [a, b, c, e, f], _ => exact ⟨a, b, c, e, f, rfl⟩
 obtain ⟨y0, y1, y2, y3, rfl⟩ : ∃ y0 y1 y2 y3, xs = [y0, y1, y2, y3] := by
  match xs, hlen with
  | [y0, y1, y2, y3], _ => exact ⟨y0, y1, y2, y3, rfl⟩
 have g0 : DataW.trod enc Tryz.prog w base sp held n 3 (List.take (Tryz.prog.cellsOf 3) (List.drop 0 [a, b, c, e, f])) = some y0 := hf 0 _ rfl
 have g1 : DataW.trod enc Tryz.prog w base sp held n 25 (List.take (Tryz.prog.cellsOf 25) (List.drop 1 [a, b, c, e, f])) = some y1 := hf 1 _ rfl
 have g2 : DataW.trod enc Tryz.prog w base sp held n 3 (List.take (Tryz.prog.cellsOf 3) (List.drop 3 [a, b, c, e, f])) = some y2 := hf 2 _ rfl
 have g3 : DataW.trod enc Tryz.prog w base sp held n 3 (List.take (Tryz.prog.cellsOf 3) (List.drop 4 [a, b, c, e, f])) = some y3 := hf 3 _ rfl
 rw [h3] at g0 g2 g3
 rw [h9] at g1
 obtain ⟨n0, e0, _⟩ := trod_int Tryz.underlying3 g0
 obtain ⟨v, hv⟩ := tells25 w _ _ _ g1
 obtain ⟨n2, e2, _⟩ := trod_int Tryz.underlying3 g2
 obtain ⟨n3, e3, _⟩ := trod_int Tryz.underlying3 g3
 obtain rfl : a = _ := by simpa using e0
 obtain ⟨A, q, hv', hl2, hC⟩ := k25_open hv
 simp only [List.drop_succ_cons, List.drop_zero, List.take_succ_cons, List.take_zero, List.cons.injEq, and_true] at hv'
 obtain ⟨rfl, rfl⟩ := hv'
 obtain rfl : e = _ := by simpa using e2
 obtain rfl : f = _ := by simpa using e3
 exact ⟨⟨n0, v, n2, n3⟩, k62_mk w ⟨n0, v, n2, n3⟩ hl2 hC⟩
end Go.Proofs.YtghommaokdhjmaaGreat.Open
/- The row of SatSince: whatever the input, true; out of the printed walk and the plain law. -/
namespace Go.Proofs.YtghommaokdhjmaaGreat.satSince
open Go.ChangeShapes Go.WideShapes Go.ChangeAt Go.RowKit Go.Proofs.YtghommaokdhjmaaGreatW.PrintWords P Go.Proofs.YtghommaokdhjmaaGreat.Open
open Go.ChangeMaps (open_string shut_string)
theorem own : ownKnob Tryz.prog.godebug = none := by kernel_rfl
theorem laidOut : laidOutB Tryz.prog = true := by kernel_rfl
set_option maxRecDepth 100000 in
theorem lifted (os : Os) (started : os.Started) (H : Type) (enc : TypeId × Value → H) :
  ReturnsInHanded {} Tryz.checked os 5 .any (Rows.satSinceSpec.pre6 enc Tryz.prog Tryz.f5 Rows.satSinceRow.domain false) (Rows.satSinceSpec.post enc Tryz.prog Tryz.f5 false true false false) := by
 refine returnsInHanded_of_change_sized (C := Tryz.checked) own started (by kernel_rfl) Tryz.func5
  (ChangeSpec.witness6 (enc := enc) (C := Tryz.checked) false ⟨#[], #[.slice none 0 0, .slice none 0 0, .slice none 0 0, .int .i64 0, .slice none 0 0], []⟩ 8 (by kernel_rfl) (by kernel_rfl) (by kernel_rfl) (by kernel_rfl)) ?_
 intro W base args ds gs before hval0 hW hcnd hsz0 _
 have hval : ∀ (j : Nat) t v, Tryz.f5.params[j]? = some t → args[j]? = some v → Value.okWide Tryz.prog W .any base t v := hval0
 have hW' := hW
 obtain ⟨p, q, hA0, hV, rfl, hfz, hnd⟩ := hW
 have hA : DataW.TrodAll enc Tryz.prog W 0 (fun _ => true) true Tryz.f5.params.toList args.toList ds p := hA0
 rw [Tryz.params5] at hA hval
 obtain ⟨v0, vs0, d0, ds0, p0, q0, hargs, rfl, rfl, h0, r0⟩ := trodAll_cons hA
 obtain ⟨v1, vs1, d1, ds1, p1, q1, rfl, rfl, rfl, h1, r1⟩ := trodAll_cons r0
 obtain ⟨v2, vs2, d2, ds2, p2, q2, rfl, rfl, rfl, h2, r2⟩ := trodAll_cons r1
 obtain ⟨v3, vs3, d3, ds3, p3, q3, rfl, rfl, rfl, h3, r3⟩ := trodAll_cons r2
 obtain ⟨v4, vs4, d4, ds4, p4, q4, rfl, rfl, rfl, h4, r4⟩ := trodAll_cons r3
 obtain ⟨rfl, rfl, rfl⟩ := trodAll_nil r4
 obtain rfl : args = #[v0, v1, v2, v3, v4] := by cases args; simp_all
 obtain ⟨rfl, rfl⟩ := trodVars_none hV
 obtain ⟨a0, len0, cap0, rfl⟩ := okWide_slice Tryz.underlying22 (hval 0 22 v0 rfl rfl)
 have k0 := h0
 have lt0 : ∀ x ∈ p0, x.block < W.heap.size := by obtain ⟨m, hm⟩ := k0; exact DataW.trod_lt m _ _ _ hm
 obtain ⟨l0, rfl, hc0, hr0⟩ : ∃ l : List S62, len0 = l.length ∧ l.length ≤ cap0 ∧ Kd.C k62 W a0 l.length l := by
  obtain ⟨fuel, hf⟩ := h0
  obtain ⟨A, c, l, hcs, hl, hC⟩ := tells_row Tryz.underlying22 (by kernel_rfl) tells62 hf
  simp [Value.cells] at hcs
  obtain ⟨rfl, rfl, rfl⟩ := hcs
  exact ⟨l, rfl, hl, hC⟩
 obtain ⟨a1, len1, cap1, rfl⟩ := okWide_slice Tryz.underlying22 (hval 1 22 v1 rfl rfl)
 have k1 := h1
 have lt1 : ∀ x ∈ p1, x.block < W.heap.size := by obtain ⟨m, hm⟩ := k1; exact DataW.trod_lt m _ _ _ hm
 obtain ⟨l1, rfl, hc1, hr1⟩ : ∃ l : List S62, len1 = l.length ∧ l.length ≤ cap1 ∧ Kd.C k62 W a1 l.length l := by
  obtain ⟨fuel, hf⟩ := h1
  obtain ⟨A, c, l, hcs, hl, hC⟩ := tells_row Tryz.underlying22 (by kernel_rfl) tells62 hf
  simp [Value.cells] at hcs
  obtain ⟨rfl, rfl, rfl⟩ := hcs
  exact ⟨l, rfl, hl, hC⟩
 obtain ⟨a2, len2, cap2, rfl⟩ := okWide_slice Tryz.underlying28 (hval 2 28 v2 rfl rfl)
 have k2 := h2
 have lt2 : ∀ x ∈ p2, x.block < W.heap.size := by obtain ⟨m, hm⟩ := k2; exact DataW.trod_lt m _ _ _ hm
 obtain ⟨l2, rfl, hc2, hr2⟩ : ∃ l : List S58, len2 = l.length ∧ l.length ≤ cap2 ∧ Kd.C k58 W a2 l.length l := by
  obtain ⟨fuel, hf⟩ := h2
  obtain ⟨A, c, l, hcs, hl, hC⟩ := tells_row Tryz.underlying28 (by kernel_rfl) tells58 hf
  simp [Value.cells] at hcs
  obtain ⟨rfl, rfl, rfl⟩ := hcs
  exact ⟨l, rfl, hl, hC⟩
 obtain ⟨a3, rfl, rfl, rfl, w3⟩ := open_int Tryz.underlying3 (hval 3 3 v3 rfl rfl) h3
 obtain ⟨a4, len4, cap4, rfl⟩ := okWide_slice Tryz.underlying29 (hval 4 29 v4 rfl rfl)
 have k4 := h4
 have lt4 : ∀ x ∈ p4, x.block < W.heap.size := by obtain ⟨m, hm⟩ := k4; exact DataW.trod_lt m _ _ _ hm
 obtain ⟨l4, rfl, hc4, hr4⟩ : ∃ l : List S66, len4 = l.length ∧ l.length ≤ cap4 ∧ Kd.C k66 W a4 l.length l := by
  obtain ⟨fuel, hf⟩ := h4
  obtain ⟨A, c, l, hcs, hl, hC⟩ := tells_row Tryz.underlying29 (by kernel_rfl) tells66 hf
  simp [Value.cells] at hcs
  obtain ⟨rfl, rfl, rfl⟩ := hcs
  exact ⟨l, rfl, hl, hC⟩
 clear hA0 hval0 hsz0
 refine (Sat.since_calls a3 ⟨rfl, hc0, hr0⟩ ⟨rfl, hc1, hr1⟩ ⟨rfl, hc2, hr2⟩ ⟨rfl, hc4, hr4⟩).mono fun e W' ⟨he, bel⟩ => ?_
 subst he
 exact ⟨_, rfl, _, _, _, [], _, [], hW', trodAll_mk1 (shut_bool Tryz.underlying4 _), (trodAll_cons_mk (Below.trod laidOut (by kernel_rfl) (of_decide_eq_true (by kernel_rfl)) k0 bel lt0) (trodAll_cons_mk (Below.trod laidOut (by kernel_rfl) (of_decide_eq_true (by kernel_rfl)) k1 bel lt1) (trodAll_cons_mk (Below.trod laidOut (by kernel_rfl) (of_decide_eq_true (by kernel_rfl)) k2 bel lt2) (trodAll_cons_mk (shut_int Tryz.underlying3 w3) (trodAll_cons_mk (Below.trod laidOut (by kernel_rfl) (of_decide_eq_true (by kernel_rfl)) k4 bel lt4) trodAll_mk0))))), rfl, bel.frame _, fun h => by cases h⟩
theorem over : Rows.satSinceRow.holds Tryz.pinned (OpenSpec.ofChange Rows.satSinceSpec) :=
 OpenClaim.holds_of_wide 5 Tryz.f5 rfl rfl rfl rfl rfl rfl rfl ⟨rfl, rfl, rfl, rfl, rfl⟩ rfl rfl rfl rfl rfl (by kernel_rfl) Tryz.func5 (by kernel_rfl)
  (of_decide_eq_true (by kernel_rfl)) (by unfold Func.isWrapper; first | (rw [if_pos (by decide +kernel)]; kernel_rfl) | (rw [if_neg (by decide +kernel)]; exact ⟨rfl, rfl⟩))
  (fun os started H enc _ => lifted os started H enc)
theorem proved : Rows.SatSinceSaid := over
end Go.Proofs.YtghommaokdhjmaaGreat.satSince
namespace Go.Proofs.YtghommaokdhjmaaGreat
/-- The row, under a short name, for the claim. -/
theorem satSince_holds : Rows.SatSinceSaid := satSince.proved
#print axioms satSince_holds
end Go.Proofs.YtghommaokdhjmaaGreat
